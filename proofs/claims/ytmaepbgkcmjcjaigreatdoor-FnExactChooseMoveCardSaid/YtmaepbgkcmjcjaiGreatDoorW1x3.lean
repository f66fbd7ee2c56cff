/- Part of a proof that a law returns true for every input. No condition. -/
import Derived.Test.YtmaepbgkcmjcjaiGreatDoorSl
namespace Go.Proofs.YtmaepbgkcmjcjaiGreatDoor
open Option Go.IntKind Nat
open Go Go.eg Go.l_
set_option maxRecDepth 100000
set_option maxHeartbeats 3800000
set_option linter.unusedSimpArgs false
set_option linter.unusedVariables false
theorem bs (fx:azf) (fO:List ResultVar) {f:FuncId} {fn:Func} {ins outs:azk} {r:I} (bH:af.P.funcs[f]? =some fn) (dY:aB)
 (Nz:∀Q:Exit->al->Prop,(∀s,eI (eg.Ends af fx fO r outs) s->Q .ret s)->(∀s,eI (eg.Ends af fx fO r outs) s->Q .normal s)->bj af dY Q (aq (num 0 ins))) (aa:fZ ⟨fn.ntmps,fx⟩ (fn.body.getD .skip)=some dY.strip:=by kernel_rfl) (ab:fn.body=some (fn.body.getD .skip):=by rfl) (mr:(fn.name== "runtime.NumGoroutine")=false:=by rfl) (aR:ins.length<=fn.ntmps:=by exact le_of_ble_eq_true rfl) (hT:fn.results.toList=fO:=by rfl) (ay:dY.plain=true:=by kernel_rfl):aV af f ins r outs:=
 aV.Oo Ov fO (num 0 ins) bH ab mr aa aR hT rfl Nz ay
theorem cZ {P:Nat->Prop} (s:∀m,P m->P (m+1)) (z:P 0:=by intros;rename_i h;cases(show none=some _ from h)):∀n,P n:=λn=>Nat.rec z s n
def Q7:=PLift.up (R @ahS (R @ahT (R @ahU (R @ahV (R @ahW (R @ahX (R @ahY (R @ahZ (R @ah0 (R @ah1 (R @ah2 (R @ah3 (R @ah4 (R @ah5 (R @ah6 (R @ah7 (R @ah8 (R @ah9 (R @ah_ (R @aia (R @aib (R @aic (R @aid (R @aie (R @aif (R @aih (R @aii (R @aij (R @aik (R @ail (R @aim (R @ain (R @aio (R @aip (R @aiq (R @air (R @ais (R @ait (R @aiu (R @aiv (R @aiw (R @aix (R @aiy (R @aiz (R @aiA (R @aiB (R @aiC (R @aiD (R @aiE (R @aiF (R @aiG (R @aiH (R @aiI (R @aiJ (R @iR.eq_1 (R @a1.eq_1 (R @dm.eq_1 (R @bg.eq_1 (R @fC.eq_1 (R @bS.eq_1 (R @fw.eq_1 (R @ei.eq_1 (R @bC.eq_1 (R @c8.eq_1 (R @fk.eq_1 (R @ef.eq_1 (R @aju (R @ff.eq_1 (R @ye.eq_1 (R @jV.eq_1 (R @jU.eq_1 (R @kR.eq_1 (R @jw.eq_1 (R @kv.eq_1 (R @lv.eq_1 (R @s9.eq_1 (R @mV.eq_1 (R @p2.eq_1 (R @gj.eq_1 (R @iY.eq_1 (R @lr.eq_1 (R @aX.eq_1 (R @ajt (R @lQ.eq_1 (R @lP.eq_1 (R @fQ.eq_1 (R @mW.eq_1 (R @eO.eq_1 (R @hF.eq_1 (R @wA.eq_1 (R @ajw (R @lR.eq_1 (R @G0.eq_1 @nL.eq_1)))))))))))))))))))))))))))))))))))))))))))))))))))))))))))))))))))))))))))))))))))))))))))))
def aN:=PLift.up (R ahx.down Q7.down)
def cU:=PLift.up (R ahy.down Q7.down)
def ka:=PLift.up (R ahz.down Q7.down)
theorem b3 {F A:Prop} (f:F) (h:F->A:=by intro bK;(try simp only[ka.down,simprocAttr,bK,dW,ed,dK,fB,I.hA,I.shares]at bq⊢);exact bq):A:=h f
theorem wr {Q l ros k} (c_:azj) (ax:Q .normal (aq c_)) (h:∀P:azj->Prop,P c_->dE af (aq l) ros none (λ_ s=>P (ho k s)):=by
 intro P bq;simp only[aN.down,simprocAttr,dW,ed,dK,fB];(try simp only[ka.down,simprocAttr,dW,ed,dK,fB]at bq⊢);exact bq):bj af (.en ros (some k)) Q (aq l):=
 jg (cr c_ (h) ax)
theorem YT {Q l ros k g ds r} (ok:aV af g ds r []) (c_:azj) (ax:Q .normal (aq c_)) (h:aV af g ds r []->∀P:azj->Prop,P c_->dE af (aq l) ros none (λ_ s=>P (ho k s)):=by
 intro mX P bq;(try simp only[aN.down,simprocAttr,dW,ed,dK,fB]);(first|refine dk mX rfl rfl rfl rfl (.inl (by rfl)) ?_|refine gB mX rfl rfl rfl rfl (.inl (by rfl)) ?_);simp only[aN.down,simprocAttr,dW,ed,dK,fB];(try simp only[ka.down,simprocAttr,dW,ed,dK,fB]at bq⊢);exact bq):bj af (.en ros (some k)) Q (aq l):=
 jg (cr c_ (h ok) ax)
theorem Aa {Q l ros k g ds r} {F:Prop} (bK:F) (ok:aV af g ds r []) (c_:azj) (ax:Q .normal (aq c_)) (h:aV af g ds r []->F->∀P:azj->Prop,P c_->dE af (aq l) ros none (λ_ s=>P (ho k s)):=by
 intro mX bK P bq;(try simp only[aN.down,simprocAttr,bK,dW,ed,dK,fB]);(first|refine dk mX rfl rfl rfl rfl (.inl (by rfl)) ?_|refine gB mX rfl rfl rfl rfl (.inl (by rfl)) ?_);simp only[aN.down,simprocAttr,bK,dW,ed,dK,fB];(try simp only[ka.down,simprocAttr,bK,dW,ed,dK,fB]at bq⊢);exact bq):bj af (.en ros (some k)) Q (aq l):=
 jg (cr c_ (h ok bK) ax)
theorem YU {Q l ros k c7 g ds r} {F:Prop} (bK:F) (ok:aV af g ds r []) (c_:azj) (ax:Q .normal (aq c_)) (h:aV af g ds r []->F->∀P:azj->Prop,P c_->dE af (aq l) ros (some []) (λacc s=>kl (nn c7) 0 [] (acc.getD []).reverse=true/\P (ho k s)):=by
 intro mX bK P bq;(try simp only[cU.down,simprocAttr,bK,dW,ed,dK,fB]);(first|refine hx mX rfl rfl rfl rfl (.inl (by rfl)) ?_|refine lI mX rfl rfl rfl rfl (.inl (by rfl)) ?_);simp only[cU.down,simprocAttr,bK,dW,ed,dK,fB];refine⟨hE (by kernel_rfl),?_⟩;(try simp only[ka.down,simprocAttr,bK,dW,ed,dK,fB]at bq⊢);exact bq) (aC:c7.length=ros.length:=by rfl):bj af (.jL ros c7 (some k)) Q (aq l):=
 NR aC (h7 c_ (h ok bK) ax)
theorem tb {Q l ros k} {F:Prop} (bK:F) (c_:azj) (ax:Q .normal (aq c_)) (h:F->∀P:azj->Prop,P c_->dE af (aq l) ros none (λ_ s=>P (ho k s)):=by
 intro bK P bq;simp only[aN.down,simprocAttr,bK,dW,ed,dK,fB];(try simp only[ka.down,simprocAttr,bK,dW,ed,dK,fB]at bq⊢);exact bq):bj af (.en ros (some k)) Q (aq l):=
 jg (cr c_ (h bK) ax)
theorem ws {Q l ros k b} (c_:azj) (ax:bj af b Q (aq c_)) (h:∀P:azj->Prop,P c_->dE af (aq l) ros none (λ_ s=>P (ho k s)):=by
 intro P bq;simp only[aN.down,simprocAttr,dW,ed,dK,fB];(try simp only[ka.down,simprocAttr,dW,ed,dK,fB]at bq⊢);exact bq):bj af (.seq (.en ros (some k)) b) Q (aq l):=
 eb (cr c_ (h) ax)
theorem cu {Q l ros k b g ds r} (ok:aV af g ds r []) (c_:azj) (ax:bj af b Q (aq c_)) (h:aV af g ds r []->∀P:azj->Prop,P c_->dE af (aq l) ros none (λ_ s=>P (ho k s)):=by
 intro mX P bq;(try simp only[aN.down,simprocAttr,dW,ed,dK,fB]);(first|refine dk mX rfl rfl rfl rfl (.inl (by rfl)) ?_|refine gB mX rfl rfl rfl rfl (.inl (by rfl)) ?_);simp only[aN.down,simprocAttr,dW,ed,dK,fB];(try simp only[ka.down,simprocAttr,dW,ed,dK,fB]at bq⊢);exact bq):bj af (.seq (.en ros (some k)) b) Q (aq l):=
 eb (cr c_ (h ok) ax)
theorem ea {Q l ros k b g ds r} {F:Prop} (bK:F) (ok:aV af g ds r []) (c_:azj) (ax:bj af b Q (aq c_)) (h:aV af g ds r []->F->∀P:azj->Prop,P c_->dE af (aq l) ros none (λ_ s=>P (ho k s)):=by
 intro mX bK P bq;(try simp only[aN.down,simprocAttr,bK,dW,ed,dK,fB]);(first|refine dk mX rfl rfl rfl rfl (.inl (by rfl)) ?_|refine gB mX rfl rfl rfl rfl (.inl (by rfl)) ?_);simp only[aN.down,simprocAttr,bK,dW,ed,dK,fB];(try simp only[ka.down,simprocAttr,bK,dW,ed,dK,fB]at bq⊢);exact bq):bj af (.seq (.en ros (some k)) b) Q (aq l):=
 eb (cr c_ (h ok bK) ax)
theorem ayD {Q l ros k b c7} (c_:azj) (ax:bj af b Q (aq c_)) (h:∀P:azj->Prop,P c_->dE af (aq l) ros (some []) (λacc s=>kl (nn c7) 0 [] (acc.getD []).reverse=true/\P (ho k s)):=by
 intro P bq;simp only[cU.down,simprocAttr,dW,ed,dK,fB];refine⟨hE (by kernel_rfl),?_⟩;(try simp only[ka.down,simprocAttr,dW,ed,dK,fB]at bq⊢);exact bq) (aC:c7.length=ros.length:=by rfl):bj af (.seq (.jL ros c7 (some k)) b) Q (aq l):=
 iT aC (h7 c_ (h) ax)
theorem am1 {Q l ros k b c7 g ds r} (ok:aV af g ds r []) (c_:azj) (ax:bj af b Q (aq c_)) (h:aV af g ds r []->∀P:azj->Prop,P c_->dE af (aq l) ros (some []) (λacc s=>kl (nn c7) 0 [] (acc.getD []).reverse=true/\P (ho k s)):=by
 intro mX P bq;(try simp only[cU.down,simprocAttr,dW,ed,dK,fB]);(first|refine hx mX rfl rfl rfl rfl (.inl (by rfl)) ?_|refine lI mX rfl rfl rfl rfl (.inl (by rfl)) ?_);simp only[cU.down,simprocAttr,dW,ed,dK,fB];refine⟨hE (by kernel_rfl),?_⟩;(try simp only[ka.down,simprocAttr,dW,ed,dK,fB]at bq⊢);exact bq) (aC:c7.length=ros.length:=by rfl):bj af (.seq (.jL ros c7 (some k)) b) Q (aq l):=
 iT aC (h7 c_ (h ok) ax)
theorem lS {Q l ros k b c7 g ds r} {F:Prop} (bK:F) (ok:aV af g ds r []) (c_:azj) (ax:bj af b Q (aq c_)) (h:aV af g ds r []->F->∀P:azj->Prop,P c_->dE af (aq l) ros (some []) (λacc s=>kl (nn c7) 0 [] (acc.getD []).reverse=true/\P (ho k s)):=by
 intro mX bK P bq;(try simp only[cU.down,simprocAttr,bK,dW,ed,dK,fB]);(first|refine hx mX rfl rfl rfl rfl (.inl (by rfl)) ?_|refine lI mX rfl rfl rfl rfl (.inl (by rfl)) ?_);simp only[cU.down,simprocAttr,bK,dW,ed,dK,fB];refine⟨hE (by kernel_rfl),?_⟩;(try simp only[ka.down,simprocAttr,bK,dW,ed,dK,fB]at bq⊢);exact bq) (aC:c7.length=ros.length:=by rfl):bj af (.seq (.jL ros c7 (some k)) b) Q (aq l):=
 iT aC (h7 c_ (h ok bK) ax)
theorem oT {Q l ros k b c7} {F:Prop} (bK:F) (c_:azj) (ax:bj af b Q (aq c_)) (h:F->∀P:azj->Prop,P c_->dE af (aq l) ros (some []) (λacc s=>kl (nn c7) 0 [] (acc.getD []).reverse=true/\P (ho k s)):=by
 intro bK P bq;simp only[cU.down,simprocAttr,bK,dW,ed,dK,fB];refine⟨hE (by kernel_rfl),?_⟩;(try simp only[ka.down,simprocAttr,bK,dW,ed,dK,fB]at bq⊢);exact bq) (aC:c7.length=ros.length:=by rfl):bj af (.seq (.jL ros c7 (some k)) b) Q (aq l):=
 iT aC (h7 c_ (h bK) ax)
theorem YV {Q l ros k b c7} (e:Bool) {F:Prop} (bK:F) (c_:azj) (ax:bj af b Q (aq c_)) (h:F->∀c,e=c->∀P:azj->Prop,P c_->dE af (aq l) ros (some []) (λacc s=>kl (nn c7) 0 [] (acc.getD []).reverse=true/\P (ho k s)):=by
 intro bK c ar P bq;cases c;all_goals
  (try simp only[List.length_replicate]at ar);simp only[cU.down,simprocAttr,ar,bK,dW,ed,dK,fB];refine⟨hE (by kernel_rfl),?_⟩;(try simp only[ka.down,simprocAttr,ar,bK,dW,ed,dK,fB]at bq⊢);exact bq) (aC:c7.length=ros.length:=by rfl):bj af (.seq (.jL ros c7 (some k)) b) Q (aq l):=
 iT aC (h7 c_ (h bK e rfl) ax)
theorem cR {Q l ros k b} {F:Prop} (bK:F) (c_:azj) (ax:bj af b Q (aq c_)) (h:F->∀P:azj->Prop,P c_->dE af (aq l) ros none (λ_ s=>P (ho k s)):=by
 intro bK P bq;simp only[aN.down,simprocAttr,bK,dW,ed,dK,fB];(try simp only[ka.down,simprocAttr,bK,dW,ed,dK,fB]at bq⊢);exact bq):bj af (.seq (.en ros (some k)) b) Q (aq l):=
 eb (cr c_ (h bK) ax)
theorem qK {Q l ros k b} {F:Prop} (bK:F) (c_:azj) (ax:bj af b Q (aq c_)) (h:F->∀P:azj->Prop,P c_->dE af (aq l) ros none (λ_ s=>P (ho k s)):=by
 intro bK P bq;simp only[aN.down,simprocAttr,bK,dW,ed,dK,fB,-Int.reduceNatCast'];(try simp only[ka.down,simprocAttr,bK,dW,ed,dK,fB,-Int.reduceNatCast']at bq⊢);exact bq):bj af (.seq (.en ros (some k)) b) Q (aq l):=
 eb (cr c_ (h bK) ax)
theorem mY {Q l ros k b} (e:Bool) (c_:azj) (ax:bj af b Q (aq c_)) (h:∀c,e=c->∀P:azj->Prop,P c_->dE af (aq l) ros none (λ_ s=>P (ho k s)):=by
 intro c ar P bq;cases c;all_goals
  (try simp only[List.length_replicate]at ar);simp only[aN.down,simprocAttr,ar,dW,ed,dK,fB];(try simp only[ka.down,simprocAttr,ar,dW,ed,dK,fB]at bq⊢);exact bq):bj af (.seq (.en ros (some k)) b) Q (aq l):=
 eb (cr c_ (h e rfl) ax)
theorem K1 {Q l ros k b} (e:Bool) {F:Prop} (bK:F) (c_:azj) (ax:bj af b Q (aq c_)) (h:F->∀c,e=c->∀P:azj->Prop,P c_->dE af (aq l) ros none (λ_ s=>P (ho k s)):=by
 intro bK c ar P bq;cases c;all_goals
  (try simp only[List.length_replicate]at ar);simp only[aN.down,simprocAttr,ar,bK,dW,ed,dK,fB];(try simp only[ka.down,simprocAttr,ar,bK,dW,ed,dK,fB]at bq⊢);exact bq):bj af (.seq (.en ros (some k)) b) Q (aq l):=
 eb (cr c_ (h bK e rfl) ax)
def fD:=PLift.up (R @List.length_append.{0} (R @List.length_cons.{0} (R @List.length_nil.{0} (R @List.length_map.{0,0} @List.length_replicate.{0}))))
def jl:=PLift.up (R @zl @zm)
def rK:=PLift.up (R (@mP af 117 [(9,0),(2,1),(2,2),(41,3)] [(.str []),(.int .i64 0),(.int .i64 0),.a8] rfl rfl (by kernel_rfl)) (R @lJ (R @lK (R @ee (R @gI (R @List.nil_append.{0} (R @List.cons_append.{0} (R @oa (R @n_ (R @cS (R @n9 (@bZ _ eO bC (λ_=>pw _)))))))))))))
def yg:=PLift.up (R @h8 (R @h9 (R @h_ @cS)))
def Dm:=PLift.up (R (@kn af 54 54 2 rfl rfl) (R @ko (R @kp (R @gI (R @all_cons (R @all_nil (R (@jN _ a1 1 (λ_=>rfl)) (R @oa (R @n_ (R @cS (R @n9 (@bZ _ a1 a1 (λ_=>j_ _)))))))))))))
def K2:=PLift.up (R (@mP af 110 [(9,0),(72,1)] [(.str []),(.agg [(.int .i64 0),(.int .i64 0),.a8])] rfl rfl (by kernel_rfl)) (R @lJ (R @lK (R @ee (R @gI (R @List.nil_append.{0} (R @List.cons_append.{0} (R @oa (R @n_ (R @cS (R @n9 (@bZ _ a1 a1 (λ_=>j_ _)))))))))))))
def K3:=PLift.up (R @h8 (R @h9 (R @h_ (R @cS (@bZ _ a1 a1 (λ_=>j_ _))))))
def K4:=PLift.up (R @h8 (R @h9 (R @h_ (R @cS (R (@bZ _ bg bg (λ_=>s_ _)) (R (@bZ _ dm dm (λ_=>z8 _)) (R (@bZ _ bS bS (λ_=>rH _)) (R (@bZ _ aX aX (λ_=>lu _)) (@bZ _ aX aX (λ_=>lu _))))))))))
def K5:=PLift.up (R (@E7 af 105 110 1 4 [(.agg [(.str []),(.agg [(.int .i64 0),(.int .i64 0),.a8])])] rfl rfl rfl (by kernel_rfl)) (R @lJ (R @lK (R @ee (R @gI (R @List.nil_append.{0} (R @List.cons_append.{0} (R (@kn af 105 105 110 rfl rfl) (R @ko (R @kp (R @all_cons (R @all_nil (@jN _ hF 4 (λ_=>rfl))))))))))))))
def K6:=PLift.up (R (@mP af 117 [(9,0),(2,1),(2,2),(41,3)] [(.str []),(.int .i64 0),(.int .i64 0),.a8] rfl rfl (by kernel_rfl)) (R @lJ (R @lK (R @ee (R @gI (R @List.nil_append.{0} (R @List.cons_append.{0} (R (@E7 af 64 117 1 4 [(.agg [(.str []),(.int .i64 0),(.int .i64 0),.a8])] rfl rfl rfl (by kernel_rfl)) (R (@kn af 64 64 117 rfl rfl) (R @ko (R @kp (R @all_cons (R @all_nil (@jN _ fQ 4 (λ_=>rfl)))))))))))))))
def K7:=PLift.up (R @oa (R @n_ (R @cS (R @n9 (R (@bZ _ a1 a1 (λ_=>j_ _)) (@bZ _ bC bC (λ_=>wB _)))))))
def Q8:=PLift.up (R @pj (R @pP (R @pQ (R @h8 (R @h9 (R @h_ (R @cS (R @or_true (R @true_or (@bZ _ c8 c8 (λ_=>Dl _)))))))))))
def Q9:=PLift.up (R (@mP af 72 [(2,0),(2,1),(54,2)] [(.int .i64 0),(.int .i64 0),.a8] rfl rfl (by kernel_rfl)) (R @lJ (R @lK (R @ee (R @gI (R @List.nil_append.{0} (R @List.cons_append.{0} (R (@E7 af 41 72 1 3 [(.agg [(.int .i64 0),(.int .i64 0),.a8])] rfl rfl rfl (by kernel_rfl)) (R (@kn af 41 41 72 rfl rfl) (R @ko (R @kp (R @all_cons (R @all_nil (@jN _ eO 3 (λ_=>rfl)))))))))))))))
def Q_:=PLift.up (R (@mP af 117 [(9,0),(2,1),(2,2),(41,3)] [(.str []),(.int .i64 0),(.int .i64 0),.a8] rfl rfl (by kernel_rfl)) (R @lJ (R @lK (R @ee (R @gI (R @List.nil_append.{0} (R @List.cons_append.{0} (R @oa (R @n_ (R @cS (R @n9 (R (@bZ _ eO bC (λ_=>pw _)) (R @h8 (R @h9 (R @h_ (R @cS (R (@bZ _ bg bg (λ_=>s_ _)) (R (@bZ _ dm dm (λ_=>z8 _)) (R (@bZ _ bS bS (λ_=>rH _)) (R (@bZ _ aX aX (λ_=>lu _)) (@bZ _ aX aX (λ_=>lu _))))))))))))))))))))))
def Ra:=PLift.up (R (@mP af 117 [(9,0),(2,1),(2,2),(41,3)] [(.str []),(.int .i64 0),(.int .i64 0),.a8] rfl rfl (by kernel_rfl)) (R @lJ (R @lK (R @ee (R @gI (R @List.nil_append.{0} (R @List.cons_append.{0} (R @oa (R @n_ (R @cS (R @n9 (R (@bZ _ eO bC (λ_=>pw _)) (R @h8 (R @h9 (R @h_ (R @cS (@bZ _ bC bC (λ_=>wB _))))))))))))))))))
def Rb:=PLift.up (R (@mP af 117 [(9,0),(2,1),(2,2),(41,3)] [(.str []),(.int .i64 0),(.int .i64 0),.a8] rfl rfl (by kernel_rfl)) (R @lJ (R @lK (R @ee (R @gI (R @List.nil_append.{0} (R @List.cons_append.{0} (R @oa (R @n_ (R @cS (R @n9 (R (@bZ _ eO bC (λ_=>pw _)) (R @pj (R @pP (R @pQ (R @h8 (R @h9 (R @h_ (R @cS (R @or_true (R @true_or (@bZ _ fw fw (λ_=>XZ _)))))))))))))))))))))))
def Rc:=PLift.up (R (@mP af 117 [(9,0),(2,1),(2,2),(41,3)] [(.str []),(.int .i64 0),(.int .i64 0),.a8] rfl rfl (by kernel_rfl)) (R @lJ (R @lK (R @ee (R @gI (R @List.nil_append.{0} (R @List.cons_append.{0} (R @oa (R @n_ (R @cS (R @n9 (R (@bZ _ eO bC (λ_=>pw _)) @n7))))))))))))
def Rd:=PLift.up (R @h8 (R @h9 (R @h_ (R @cS (@bZ _ aX aX (λ_=>lu _))))))
def Re:=PLift.up (R @pj (R @pP (R @pQ (R @h8 (R @h9 (R @h_ (R @cS (R @or_true (R @true_or (R (@bZ _ bg bg (λ_=>s_ _)) (@bZ _ hF c8 (λ_=>GZ _))))))))))))
def Rf:=PLift.up (R (@E7 af 41 72 1 3 [(.agg [(.int .i64 0),(.int .i64 0),.a8])] rfl rfl rfl (by kernel_rfl)) (R @lJ (R @lK (R @ee (R @gI (R @List.nil_append.{0} (R @List.cons_append.{0} (R (@kn af 41 41 72 rfl rfl) (R @ko (R @kp (R @all_cons (R @all_nil (@jN _ eO 3 (λ_=>rfl))))))))))))))
def YW:=PLift.up (R @h8 (R @h9 (R @h_ (R @cS (@bZ _ ei ei (λ_=>KP _))))))
def YX:=PLift.up (R @h8 (R @h9 (R @h_ (R @cS (R (@bZ _ a1 a1 (λ_=>j_ _)) (@bZ _ a1 a1 (λ_=>j_ _)))))))
def YY:=PLift.up (R (@kn af 54 54 2 rfl rfl) (R @ko (R @kp (R @gI (R @all_cons (R @all_nil (R (@jN _ a1 1 (λ_=>rfl)) (R @oa (R @n_ (R @cS (R @n9 (R (@bZ _ a1 a1 (λ_=>j_ _)) (R @List.map_append.{0,0} (R @List.map_set.{0,0} (R @List.map_cons.{0,0} @List.map_nil.{0,0})))))))))))))))
def YZ:=PLift.up (R (@kn af 54 54 2 rfl rfl) (R @ko (R @kp (R @gI (R @all_cons (R @all_nil (R (@jN _ a1 1 (λ_=>rfl)) (R @oa (R @n_ (R @cS (R @n9 (R (@bZ _ a1 a1 (λ_=>j_ _)) @n7))))))))))))
def Y0:=PLift.up (R (λs y q=>(WK af s 25 y q).1) (λs y q=>(WK af s 25 y q).2.1))
def Y1:=PLift.up (R (@E7 af 286 244 1 1 [.eh] rfl rfl rfl (by kernel_rfl)) (R @lJ (R @lK (R @ee (R @gI (R @List.nil_append.{0} (R @List.cons_append.{0} (R (@kn af 286 286 244 rfl rfl) (R @ko (R @kp (R @all_cons (R @all_nil (@jN _ lR 1 (λ_=>rfl))))))))))))))
def Y2:=PLift.up (R (@mP af 110 [(9,0),(72,1)] [(.str []),(.agg [(.int .i64 0),(.int .i64 0),.a8])] rfl rfl (by kernel_rfl)) (R @lJ (R @lK (R @ee (R @gI (R @List.nil_append.{0} @List.cons_append.{0}))))))
def Y3:=PLift.up (R @zl (R @zm (R @h8 (R @h9 (R @h_ (R @cS (@bZ _ eO bC (λ_=>pw _))))))))
def Y4:=PLift.up (R @oa (R @n_ (R @cS (R @n9 (R (@bZ _ a1 a1 (λ_=>j_ _)) (R (@bZ _ bC bC (λ_=>wB _)) (R @pj (R @pP (R @pQ (R @h8 (R @h9 (R @h_ (R @cS (R @or_true (R @true_or (R (@bZ _ bg bg (λ_=>s_ _)) (R (@bZ _ dm dm (λ_=>z8 _)) (R (@bZ _ bS bS (λ_=>rH _)) (R (@bZ _ aX aX (λ_=>lu _)) (R (@bZ _ aX aX (λ_=>lu _)) (R (@bZ _ bC bC (λ_=>wB _)) (@bZ _ fQ fw (λ_=>QT _)))))))))))))))))))))))
def Y5:=PLift.up (R @oa (R @n_ (R @cS (R @n9 (R (@bZ _ a1 a1 (λ_=>j_ _)) (R (@bZ _ bC bC (λ_=>wB _)) @n7))))))
def Y6:=PLift.up (R @h8 (R @h9 (R @h_ (R @cS (R (@bZ _ lP bg (λ_=>GQ _)) (R (@bZ _ lQ dm (λ_=>GU _)) (R (@bZ _ bS bS (λ_=>rH _)) (R (@bZ _ aX aX (λ_=>lu _)) (R (@bZ _ aX aX (λ_=>lu _)) (R (@bZ _ eO bC (λ_=>pw _)) (@bZ _ fC fC (λ_=>KX _))))))))))))
theorem am2 (a0 J r) (h:Fp a0 J=some r):aV af 201 [.slice (a0.map mV),.int .i64 J] (.int .i64 r) []:=by
 refine bs [0] [.tmp 4] Tryz.func201 c201 (λbn ag bm=>?_);refine ws _ ?_;refine ws _ ?_;refine az ag (λ_ eM cN _=>?_);refine ws _ ?_;refine aD h (λcI h=>?_) (λcI h=>?_)
 .refine ws _ ?_;exact au (cN _ (.inl (aw [.int .i64 (-1)])))
 .refine aI (eM _ (.inl ?_));refine ws _ ?_;exact au (ag _ (.inl (aw [.int .i64 (i64.wrap (J-(a0.length:Int)))])))
theorem am3 (a0 J r) (h:I6 a0 J=some r):aV af 166 [.slice (a0.map lr),.int .i64 J] (.int .i64 r) []:=by
 refine bs [0] [.tmp 4] Tryz.func166 ajy (λbn ag bm=>?_);refine ws _ ?_;refine ws _ ?_;refine az ag (λ_ eM cN _=>?_);refine ws _ ?_;refine aD h (λcI h=>?_) (λcI h=>?_)
 .refine ws _ ?_;exact au (cN _ (.inl (aw [.int .i64 (-1)])))
 .refine aI (eM _ (.inl ?_));refine az ag (λ_ dn el _=>?_);refine ws _ ?_;refine bc el (λjm _ cb eP _=>?_);show bj af (.loop ?jk) _ _;have jW:∀n dP dh,Ow a0 n dP dh=some r->cF af ?jk jm (aq [(0,.slice (a0.map lr)),(1,.int .i64 dP),(5,.int .i64 dh)]):=by
   refine cZ (λ_ jX dP dh h=>cX cb (λ_ b5 cx df=>?_));refine az cx (λ_ eu _ eA=>?_);refine ws _ ?_;refine aD h (λe1 h=>?_) (λe1 h=>?_)
   .refine aI (eu _ (.inl ?_));refine az cx (λ_ ej dL _=>?_);refine bc dL (λ_ fE fK _ _=>?_);obtain⟨U,dI,h⟩:=aj h;obtain⟨ah,eT,h⟩:=aj h;refine ea dI (am2 U dP _ eT) _ ?_;refine ws _ ?_;refine aD h (λga h=>?_) (λga h=>?_)
    .refine ws _ ?_;exact au (fK _ (.inl (aw [.int .i64 (-1)])))
    .refine aI (fE _ (ej _ (.inl ?_)));refine wr _ ?_;exact b5 _ (.inr ⟨_,aW rfl,jX ah (i64.wrap (dh+1)) h⟩)
   .refine cP (eA 0 _ (df 0 _ (eP _ (dn _ (.inl ?_)))));refine ws _ ?_;exact au (ag _ (.inl (aw [.int .i64 dP])))
  obtain⟨n,h⟩:=cC h;exact cW (.inr ⟨_,aW rfl,jW n (i64.wrap (J-(a0.length:Int))) 0 h⟩)
theorem am4 (a0 J r) (h:Fq a0 J=some r):aV af 119 [kv a0,.int .i64 J] (.int .i64 r) []:=by
 refine bs [0] [.tmp 4] Tryz.func119 c119 (λbn ag bm=>?_);refine ws _ ?_;refine ws _ ?_;refine az ag (λ_ eM cN _=>?_);refine ws _ ?_;refine aD h (λcI h=>?_) (λcI h=>?_)
 .refine ws _ ?_;exact au (cN _ (.inl (aw [.int .i64 (-1)])))
 .refine aI (eM _ (.inl ?_));obtain⟨U,fh,h⟩:=aj h;refine cu (am3 a0.cL (i64.wrap (J-(a0.Name.length:Int))) _ fh) _ ?_;refine az ag (λ_ cV cb _=>?_);refine ws _ ?_;refine aD h (λnu h=>?_) (λnu h=>?_)
  .refine ws _ ?_;exact au (cb _ (.inl (aw [.int .i64 (-1)])))
  .refine aI (cV _ (.inl ?_));refine ws _ ?_;exact au (ag _ (.inl (aw [.int .i64 U])))
theorem am5 (a0 J r) (h:I7 a0 J=some r):aV af 85 [.slice (a0.map kv),.int .i64 J] (.int .i64 r) []:=by
 refine bs [0] [.tmp 4] Tryz.func85 c85 (λbn ag bm=>?_);refine ws _ ?_;refine ws _ ?_;refine az ag (λ_ eM cN _=>?_);refine ws _ ?_;refine aD h (λcI h=>?_) (λcI h=>?_)
 .refine ws _ ?_;exact au (cN _ (.inl (aw [.int .i64 (-1)])))
 .refine aI (eM _ (.inl ?_));refine az ag (λ_ dn el _=>?_);refine ws _ ?_;refine bc el (λjm _ cb eP _=>?_);show bj af (.loop ?jk) _ _;have jW:∀n dP dh,Ox a0 n dP dh=some r->cF af ?jk jm (aq [(0,.slice (a0.map kv)),(1,.int .i64 dP),(5,.int .i64 dh)]):=by
   refine cZ (λ_ jX dP dh h=>cX cb (λ_ b5 cx df=>?_));refine az cx (λ_ eu _ eA=>?_);refine ws _ ?_;refine aD h (λe1 h=>?_) (λe1 h=>?_)
   .refine aI (eu _ (.inl ?_));refine az cx (λ_ ej dL _=>?_);refine bc dL (λ_ fE fK _ _=>?_);obtain⟨U,dI,h⟩:=aj h;obtain⟨ah,eT,h⟩:=aj h;refine ea dI (am4 U dP _ eT) _ ?_;refine ws _ ?_;refine aD h (λga h=>?_) (λga h=>?_)
    .refine ws _ ?_;exact au (fK _ (.inl (aw [.int .i64 (-1)])))
    .refine aI (fE _ (ej _ (.inl ?_)));refine wr _ ?_;exact b5 _ (.inr ⟨_,aW rfl,jX ah (i64.wrap (dh+1)) h⟩)
   .refine cP (eA 0 _ (df 0 _ (eP _ (dn _ (.inl ?_)))));refine ws _ ?_;exact au (ag _ (.inl (aw [.int .i64 dP])))
  obtain⟨n,h⟩:=cC h;exact cW (.inr ⟨_,aW rfl,jW n (i64.wrap (J-(a0.length:Int))) 0 h⟩)
theorem am6 (a0 J r) (h:Fs a0 J=some r):aV af 43 [jU a0,.int .i64 J] (.int .i64 r) []:=by
 refine bs [0] [.tmp 4] Tryz.func43 ajz (λbn ag bm=>?_);refine ws _ ?_;refine ws _ ?_;refine az ag (λ_ eM cN _=>?_);refine ws _ ?_;refine aD h (λcI h=>?_) (λcI h=>?_)
 .refine ws _ ?_;exact au (cN _ (.inl (aw [.int .i64 (-1)])))
 .refine aI (eM _ (.inl ?_));obtain⟨U,fh,h⟩:=aj h;refine cu (am5 a0.Body (i64.wrap (J-(a0.Name.length:Int))) _ fh) _ ?_;refine az ag (λ_ cV cb _=>?_);refine ws _ ?_;refine aD h (λnu h=>?_) (λnu h=>?_)
  .refine ws _ ?_;exact au (cb _ (.inl (aw [.int .i64 (-1)])))
  .refine aI (cV _ (.inl ?_));refine ws _ ?_;exact au (ag _ (.inl (aw [.int .i64 U])))
theorem am7 (a0 J r) (h:I8 a0 J=some r):aV af 15 [.slice (a0.map jU),.int .i64 J] (.int .i64 r) []:=by
 refine bs [0] [.tmp 4] Tryz.func15 ajA (λbn ag bm=>?_);refine ws _ ?_;refine ws _ ?_;refine az ag (λ_ eM cN _=>?_);refine ws _ ?_;refine aD h (λcI h=>?_) (λcI h=>?_)
 .refine ws _ ?_;exact au (cN _ (.inl (aw [.int .i64 (-1)])))
 .refine aI (eM _ (.inl ?_));refine az ag (λ_ dn el _=>?_);refine ws _ ?_;refine bc el (λjm _ cb eP _=>?_);show bj af (.loop ?jk) _ _;have jW:∀n dP dh,Oy a0 n dP dh=some r->cF af ?jk jm (aq [(0,.slice (a0.map jU)),(1,.int .i64 dP),(5,.int .i64 dh)]):=by
   refine cZ (λ_ jX dP dh h=>cX cb (λ_ b5 cx df=>?_));refine az cx (λ_ eu _ eA=>?_);refine ws _ ?_;refine aD h (λe1 h=>?_) (λe1 h=>?_)
   .refine aI (eu _ (.inl ?_));refine az cx (λ_ ej dL _=>?_);refine bc dL (λ_ fE fK _ _=>?_);obtain⟨U,dI,h⟩:=aj h;obtain⟨ah,eT,h⟩:=aj h;refine ea dI (am6 U dP _ eT) _ ?_;refine ws _ ?_;refine aD h (λga h=>?_) (λga h=>?_)
    .refine ws _ ?_;exact au (fK _ (.inl (aw [.int .i64 (-1)])))
    .refine aI (fE _ (ej _ (.inl ?_)));refine wr _ ?_;exact b5 _ (.inr ⟨_,aW rfl,jX ah (i64.wrap (dh+1)) h⟩)
   .refine cP (eA 0 _ (df 0 _ (eP _ (dn _ (.inl ?_)))));refine ws _ ?_;exact au (ag _ (.inl (aw [.int .i64 dP])))
  obtain⟨n,h⟩:=cC h;exact cW (.inr ⟨_,aW rfl,jW n (i64.wrap (J-(a0.length:Int))) 0 h⟩)
theorem Y7 (a0 J r) (h:Ft a0 J=some r):aV af 46 [.slice (a0.map a1),.int .i64 J] (.int .i64 r) []:=by
 refine bs [0] [.tmp 4] Tryz.func46 c46 (λbn ag bm=>?_);refine ws _ ?_;refine ws _ ?_;refine az ag (λ_ eM cN _=>?_);refine ws _ ?_;refine aD h (λcI h=>?_) (λcI h=>?_)
 .refine ws _ ?_;exact au (cN _ (.inl (aw [.int .i64 (-1)])))
 .refine aI (eM _ (.inl ?_));refine ws _ ?_;exact au (ag _ (.inl (aw [.int .i64 (i64.wrap (J-(a0.length:Int)))])))
theorem am8 (a0 J r) (h:Fu a0 J=some r):aV af 44 [jV a0,.int .i64 J] (.int .i64 r) []:=by
 refine bs [0] [.tmp 4] Tryz.func44 G3 (λbn ag bm=>?_);refine ws _ ?_;obtain⟨U,aM,h⟩:=aj h;refine cu (Y7 a0.bV J _ aM) _ ?_;refine az ag (λ_ eU bN _=>?_);refine ws _ ?_;refine aD h (λcn h=>?_) (λcn h=>?_)
 .refine ws _ ?_;exact au (bN _ (.inl (aw [.int .i64 (-1)])))
 .refine aI (eU _ (.inl ?_));refine ws _ ?_;exact au (ag _ (.inl (aw [.int .i64 U])))
theorem am9 (a0 J r) (h:I9 a0 J=some r):aV af 16 [.slice (a0.map jV),.int .i64 J] (.int .i64 r) []:=by
 refine bs [0] [.tmp 4] Tryz.func16 jk (λbn ag bm=>?_);refine ws _ ?_;refine ws _ ?_;refine az ag (λ_ eM cN _=>?_);refine ws _ ?_;refine aD h (λcI h=>?_) (λcI h=>?_)
 .refine ws _ ?_;exact au (cN _ (.inl (aw [.int .i64 (-1)])))
 .refine aI (eM _ (.inl ?_));refine az ag (λ_ dn el _=>?_);refine ws _ ?_;refine bc el (λjm _ cb eP _=>?_);show bj af (.loop ?jk) _ _;have jW:∀n dP dh,Oz a0 n dP dh=some r->cF af ?jk jm (aq [(0,.slice (a0.map jV)),(1,.int .i64 dP),(5,.int .i64 dh)]):=by
   refine cZ (λ_ jX dP dh h=>cX cb (λ_ b5 cx df=>?_));refine az cx (λ_ eu _ eA=>?_);refine ws _ ?_;refine aD h (λe1 h=>?_) (λe1 h=>?_)
   .refine aI (eu _ (.inl ?_));refine az cx (λ_ ej dL _=>?_);refine bc dL (λ_ fE fK _ _=>?_);obtain⟨U,dI,h⟩:=aj h;obtain⟨ah,eT,h⟩:=aj h;refine ea dI (am8 U dP _ eT) _ ?_;refine ws _ ?_;refine aD h (λga h=>?_) (λga h=>?_)
    .refine ws _ ?_;exact au (fK _ (.inl (aw [.int .i64 (-1)])))
    .refine aI (fE _ (ej _ (.inl ?_)));refine wr _ ?_;exact b5 _ (.inr ⟨_,aW rfl,jX ah (i64.wrap (dh+1)) h⟩)
   .refine cP (eA 0 _ (df 0 _ (eP _ (dn _ (.inl ?_)))));refine ws _ ?_;exact au (ag _ (.inl (aw [.int .i64 dP])))
  obtain⟨n,h⟩:=cC h;exact cW (.inr ⟨_,aW rfl,jW n (i64.wrap (J-(a0.length:Int))) 0 h⟩)
theorem am_ (a0 J r) (h:Fv a0 J=some r):aV af 45 [jw a0,.int .i64 J] (.int .i64 r) []:=by
 refine bs [0] [.tmp 4] Tryz.func45 ajB (λbn ag bm=>?_);refine ws _ ?_;refine ws _ ?_;refine az ag (λ_ eM cN _=>?_);refine ws _ ?_;refine aD h (λcI h=>?_) (λcI h=>?_)
 .refine ws _ ?_;exact au (cN _ (.inl (aw [.int .i64 (-1)])))
 .refine aI (eM _ (.inl ?_));refine ws _ ?_;refine az ag (λ_ hq gK _=>?_);refine ws _ ?_;refine aD h (λeQ h=>?_) (λeQ h=>?_)
  .refine ws _ ?_;exact au (gK _ (.inl (aw [.int .i64 (-1)])))
  .refine aI (hq _ (.inl ?_));refine ws _ ?_;refine az ag (λ_ fb e5 _=>?_);refine ws _ ?_;refine aD h (λeB h=>?_) (λeB h=>?_)
   .refine ws _ ?_;exact au (e5 _ (.inl (aw [.int .i64 (-1)])))
   .refine aI (fb _ (.inl ?_));refine ws _ ?_;exact au (ag _ (.inl (aw [.int .i64 (i64.wrap ((i64.wrap ((i64.wrap (J-(a0.Left.length:Int)))-(a0.cY.length:Int)))-(a0.Result.length:Int)))])))
theorem ana (a0 J r) (h:I_ a0 J=some r):aV af 17 [.slice (a0.map jw),.int .i64 J] (.int .i64 r) []:=by
 refine bs [0] [.tmp 4] Tryz.func17 ajC (λbn ag bm=>?_);refine ws _ ?_;refine ws _ ?_;refine az ag (λ_ eM cN _=>?_);refine ws _ ?_;refine aD h (λcI h=>?_) (λcI h=>?_)
 .refine ws _ ?_;exact au (cN _ (.inl (aw [.int .i64 (-1)])))
 .refine aI (eM _ (.inl ?_));refine az ag (λ_ dn el _=>?_);refine ws _ ?_;refine bc el (λjm _ cb eP _=>?_);show bj af (.loop ?jk) _ _;have jW:∀n dP dh,OA a0 n dP dh=some r->cF af ?jk jm (aq [(0,.slice (a0.map jw)),(1,.int .i64 dP),(5,.int .i64 dh)]):=by
   refine cZ (λ_ jX dP dh h=>cX cb (λ_ b5 cx df=>?_));refine az cx (λ_ eu _ eA=>?_);refine ws _ ?_;refine aD h (λe1 h=>?_) (λe1 h=>?_)
   .refine aI (eu _ (.inl ?_));refine az cx (λ_ ej dL _=>?_);refine bc dL (λ_ fE fK _ _=>?_);obtain⟨U,dI,h⟩:=aj h;obtain⟨ah,eT,h⟩:=aj h;refine ea dI (am_ U dP _ eT) _ ?_;refine ws _ ?_;refine aD h (λga h=>?_) (λga h=>?_)
    .refine ws _ ?_;exact au (fK _ (.inl (aw [.int .i64 (-1)])))
    .refine aI (fE _ (ej _ (.inl ?_)));refine wr _ ?_;exact b5 _ (.inr ⟨_,aW rfl,jX ah (i64.wrap (dh+1)) h⟩)
   .refine cP (eA 0 _ (df 0 _ (eP _ (dn _ (.inl ?_)))));refine ws _ ?_;exact au (ag _ (.inl (aw [.int .i64 dP])))
  obtain⟨n,h⟩:=cC h;exact cW (.inr ⟨_,aW rfl,jW n (i64.wrap (J-(a0.length:Int))) 0 h⟩)
theorem Y8 (a0 J r) (h:Fw a0 J=some r):aV af 18 [.slice (a0.map aX),.int .i64 J] (.int .i64 r) []:=by
 refine bs [0] [.tmp 4] Tryz.func18 ajD (λbn ag bm=>?_);refine ws _ ?_;refine ws _ ?_;refine az ag (λ_ eM cN _=>?_);refine ws _ ?_;refine aD h (λcI h=>?_) (λcI h=>?_)
 .refine ws _ ?_;exact au (cN _ (.inl (aw [.int .i64 (-1)])))
 .refine aI (eM _ (.inl ?_));refine az ag (λ_ dn el _=>?_);refine ws _ ?_;refine bc el (λjm _ cb eP _=>?_);show bj af (.loop ?jk) _ _;have jW:∀n dP dh,OB a0 n dP dh=some r->cF af ?jk jm (aq [(0,.slice (a0.map aX)),(1,.int .i64 dP),(5,.int .i64 dh)]):=by
   refine cZ (λ_ jX dP dh h=>cX cb (λ_ b5 cx df=>?_));refine az cx (λ_ eu _ eA=>?_);refine ws _ ?_;refine aD h (λe1 h=>?_) (λe1 h=>?_)
   .refine aI (eu _ (.inl ?_));refine az cx (λ_ ej dL _=>?_);refine bc dL (λ_ fE fK _ _=>?_);obtain⟨U,dI,h⟩:=aj h;refine cR dI _ ?_;refine ws _ ?_;refine aD h (λfF h=>?_) (λfF h=>?_)
    .refine ws _ ?_;exact au (fK _ (.inl (aw [.int .i64 (-1)])))
    .refine aI (fE _ (ej _ (.inl ?_)));refine wr _ ?_;exact b5 _ (.inr ⟨_,aW rfl,jX (i64.wrap (dP-(U.length:Int))) (i64.wrap (dh+1)) h⟩)
   .refine cP (eA 0 _ (df 0 _ (eP _ (dn _ (.inl ?_)))));refine ws _ ?_;exact au (ag _ (.inl (aw [.int .i64 dP])))
  obtain⟨n,h⟩:=cC h;exact cW (.inr ⟨_,aW rfl,jW n (i64.wrap (J-(a0.length:Int))) 0 h⟩)
theorem anb (a0 J r) (h:Fx a0 J=some r):aV af 4 [s9 a0,.int .i64 J] (.int .i64 r) []:=by
 refine bs [0] [.tmp 4] Tryz.func4 c4 (λbn ag bm=>?_);refine ws _ ?_;obtain⟨U,aM,h⟩:=aj h;refine cu (am7 a0.cw J _ aM) _ ?_;refine az ag (λ_ eU bN bd=>?_);refine ws _ ?_;refine aD h (λcn h=>?_) (λcn h=>?_)
 .refine ws _ ?_;exact au (bN _ (.inl (aw [.int .i64 (-1)])))
 .refine aI (eU _ (.inl ?_));obtain⟨ah,iH,h⟩:=aj h;refine cu (am9 a0.cg U _ iH) _ ?_;refine az ag (λ_ b5 cx _=>?_);refine ws _ ?_;refine aD h (λeV h=>?_) (λeV h=>?_)
  .refine ws _ ?_;exact au (cx _ (.inl (aw [.int .i64 (-1)])))
  .refine aI (b5 _ (.inl ?_));obtain⟨aK,e6,h⟩:=aj h;refine cu (ana a0.b8 ah _ e6) _ ?_;refine az ag (λ_ jx lT _=>?_);refine ws _ ?_;refine aD h (λhr h=>?_) (λhr h=>?_)
   .refine ws _ ?_;exact au (lT _ (.inl (aw [.int .i64 (-1)])))
   .refine aI (jx _ (.inl ?_));obtain⟨bd,h1,h⟩:=aj h;refine cu (Y8 a0.cB aK _ h1) _ ?_;refine az ag (λ_ nv my _=>?_);refine ws _ ?_;refine aD h (λhz h=>?_) (λhz h=>?_)
    .refine ws _ ?_;exact au (my _ (.inl (aw [.int .i64 (-1)])))
    .refine aI (nv _ (.inl ?_));obtain⟨bo,tc,h⟩:=aj h;refine cu (Y8 a0.cy bd _ tc) _ ?_;refine az ag (λ_ K8 G6 _=>?_);refine ws _ ?_;refine aD h (λpx h=>?_) (λpx h=>?_)
     .refine ws _ ?_;exact au (G6 _ (.inl (aw [.int .i64 (-1)])))
     .refine aI (K8 _ (.inl ?_));refine ws _ ?_;exact au (ag _ (.inl (aw [.int .i64 bo])))
theorem anc (a0 J r) (h:Fy a0 J=some r):aV af 19 [lv a0,.int .i64 J] (.int .i64 r) []:=by
 refine bs [0] [.tmp 4] Tryz.func19 ajE (λbn ag bm=>?_);refine ws _ ?_;obtain⟨U,aM,h⟩:=aj h;refine cu (Y7 a0.bV J _ aM) _ ?_;refine az ag (λ_ eU bN _=>?_);refine ws _ ?_;refine aD h (λcn h=>?_) (λcn h=>?_)
 .refine ws _ ?_;exact au (bN _ (.inl (aw [.int .i64 (-1)])))
 .refine aI (eU _ (.inl ?_));refine ws _ ?_;exact au (ag _ (.inl (aw [.int .i64 U])))
theorem ane (a0 J r) (h:Ja a0 J=some r):aV af 5 [.slice (a0.map lv),.int .i64 J] (.int .i64 r) []:=by
 refine bs [0] [.tmp 4] Tryz.func5 c5 (λbn ag bm=>?_);refine ws _ ?_;refine ws _ ?_;refine az ag (λ_ eM cN _=>?_);refine ws _ ?_;refine aD h (λcI h=>?_) (λcI h=>?_)
 .refine ws _ ?_;exact au (cN _ (.inl (aw [.int .i64 (-1)])))
 .refine aI (eM _ (.inl ?_));refine az ag (λ_ dn el _=>?_);refine ws _ ?_;refine bc el (λjm _ cb eP _=>?_);show bj af (.loop ?jk) _ _;have jW:∀n dP dh,OC a0 n dP dh=some r->cF af ?jk jm (aq [(0,.slice (a0.map lv)),(1,.int .i64 dP),(5,.int .i64 dh)]):=by
   refine cZ (λ_ jX dP dh h=>cX cb (λ_ b5 cx df=>?_));refine az cx (λ_ eu _ eA=>?_);refine ws _ ?_;refine aD h (λe1 h=>?_) (λe1 h=>?_)
   .refine aI (eu _ (.inl ?_));refine az cx (λ_ ej dL _=>?_);refine bc dL (λ_ fE fK _ _=>?_);obtain⟨U,dI,h⟩:=aj h;obtain⟨ah,eT,h⟩:=aj h;refine ea dI (anc U dP _ eT) _ ?_;refine ws _ ?_;refine aD h (λga h=>?_) (λga h=>?_)
    .refine ws _ ?_;exact au (fK _ (.inl (aw [.int .i64 (-1)])))
    .refine aI (fE _ (ej _ (.inl ?_)));refine wr _ ?_;exact b5 _ (.inr ⟨_,aW rfl,jX ah (i64.wrap (dh+1)) h⟩)
   .refine cP (eA 0 _ (df 0 _ (eP _ (dn _ (.inl ?_)))));refine ws _ ?_;exact au (ag _ (.inl (aw [.int .i64 dP])))
  obtain⟨n,h⟩:=cC h;exact cW (.inr ⟨_,aW rfl,jW n (i64.wrap (J-(a0.length:Int))) 0 h⟩)
theorem anf (a0 J r) (h:Fz a0 J=some r):aV af 20 [kR a0,.int .i64 J] (.int .i64 r) []:=by
 refine bs [0] [.tmp 4] Tryz.func20 c20 (λbn ag bm=>?_);refine ws _ ?_;refine ws _ ?_;refine az ag (λ_ eM cN _=>?_);refine ws _ ?_;refine aD h (λcI h=>?_) (λcI h=>?_)
 .refine ws _ ?_;exact au (cN _ (.inl (aw [.int .i64 (-1)])))
 .refine aI (eM _ (.inl ?_));refine ws _ ?_;exact au (ag _ (.inl (aw [.int .i64 (i64.wrap (J-(a0.Label.length:Int)))])))
theorem ang (a0 J r) (h:Jb a0 J=some r):aV af 6 [.slice (a0.map kR),.int .i64 J] (.int .i64 r) []:=by
 refine bs [0] [.tmp 4] Tryz.func6 ft (λbn ag bm=>?_);refine ws _ ?_;refine ws _ ?_;refine az ag (λ_ eM cN _=>?_);refine ws _ ?_;refine aD h (λcI h=>?_) (λcI h=>?_)
 .refine ws _ ?_;exact au (cN _ (.inl (aw [.int .i64 (-1)])))
 .refine aI (eM _ (.inl ?_));refine az ag (λ_ dn el _=>?_);refine ws _ ?_;refine bc el (λjm _ cb eP _=>?_);show bj af (.loop ?jk) _ _;have jW:∀n dP dh,OD a0 n dP dh=some r->cF af ?jk jm (aq [(0,.slice (a0.map kR)),(1,.int .i64 dP),(5,.int .i64 dh)]):=by
   refine cZ (λ_ jX dP dh h=>cX cb (λ_ b5 cx df=>?_));refine az cx (λ_ eu _ eA=>?_);refine ws _ ?_;refine aD h (λe1 h=>?_) (λe1 h=>?_)
   .refine aI (eu _ (.inl ?_));refine az cx (λ_ ej dL _=>?_);refine bc dL (λ_ fE fK _ _=>?_);obtain⟨U,dI,h⟩:=aj h;obtain⟨ah,eT,h⟩:=aj h;refine ea dI (anf U dP _ eT) _ ?_;refine ws _ ?_;refine aD h (λga h=>?_) (λga h=>?_)
    .refine ws _ ?_;exact au (fK _ (.inl (aw [.int .i64 (-1)])))
    .refine aI (fE _ (ej _ (.inl ?_)));refine wr _ ?_;exact b5 _ (.inr ⟨_,aW rfl,jX ah (i64.wrap (dh+1)) h⟩)
   .refine cP (eA 0 _ (df 0 _ (eP _ (dn _ (.inl ?_)))));refine ws _ ?_;exact au (ag _ (.inl (aw [.int .i64 dP])))
  obtain⟨n,h⟩:=cC h;exact cW (.inr ⟨_,aW rfl,jW n (i64.wrap (J-(a0.length:Int))) 0 h⟩)
theorem anh (a0 r) (h:FA a0=some r):aV af 240 [mV a0] (ef r) []:=by
 refine bs [0] [.cell 2 274] Tryz.func240 ajF (λbn ag bm=>?_);refine ws _ ?_;refine ws _ ?_;refine ws _ ?_;refine ws _ ?_;refine ws _ ?_;exact au (ag _ (.inl (aw [ef (ca.mk a0.Kind a0.Value)])))
theorem ani (a0 r) (h:FB a0=some r):aV af 207 [.slice (a0.map mV)] (.ak 2 (r.map ef)) []:=by
 refine bs [0] [.tmp 2] Tryz.func207 ajG (λbn ag bm=>?_);refine ws _ ?_;obtain⟨Ab,aM,h⟩:=aj h;refine qK (R (qc aM) @List.map_replicate.{0,0}) [(0,.slice (a0.map mV)),(3,.ak 2 ((List.replicate (Int.toNat (a0.length:Int)) (ca.mk 0 0)).map ef))] ?_;refine az ag (λ_ eU bN _=>?_);refine ws [(0,.slice (a0.map mV)),(3,.ak 2 ((List.replicate (Int.toNat (a0.length:Int)) (ca.mk 0 0)).map ef)),(4,.int .i64 0)] ?_;refine bc bN (λjn _ cO cn _=>?_);show bj af (.loop ?hQ) _ _;have ik:∀n bP bB,OE a0 n bP bB=some r->cF af ?hQ jn (aq [(0,.slice (a0.map mV)),(3,.ak 2 (bP.map ef)),(4,.int .i64 bB)]):=by
  refine cZ (λ_ il bP bB h=>cX cO (λ_ dn el br=>?_));refine az el (λ_ hq _ cT=>?_);refine ws _ ?_;refine aD h (λeQ h=>?_) (λeQ h=>?_)
  .refine aI (hq _ (.inl ?_));refine az el (λ_ eu hM _=>?_);refine bc hM (λ_ gY _ _ _=>?_);obtain⟨U,dp,h⟩:=aj h;obtain⟨ah,e6,h⟩:=aj h;obtain⟨aK,cp,h⟩:=aj h;refine jg (cr [(0,.slice (a0.map mV)),(3,.ak 2 ((List.set bP (Int.toNat bB) ah).map ef)),(4,.int .i64 bB)] (λP bq=>?_) ?_)
   ·(try simp only[aN.down,simprocAttr,dp,cp,dy cp,ee,dW]);refine dk (anh U _ e6) rfl rfl rfl rfl (.inl (by rfl)) ?_;simp only[aN.down,simprocAttr,dp,cp,dy cp,ee,dW];exact b3 (R dp (R cp (R (dy cp) @ee)))
   refine gY _ (eu _ (.inl ?_));refine wr [(0,.slice (a0.map mV)),(3,.ak 2 ((List.set bP (Int.toNat bB) ah).map ef)),(4,.int .i64 (i64.wrap (bB+1)))] ?_;exact dn _ (.inr ⟨_,aW rfl,il (List.set bP (Int.toNat bB) ah) (i64.wrap (bB+1)) h⟩)
  .refine cP (cT 0 _ (br 0 _ (cn _ (eU _ (.inl ?_)))));refine ws _ ?_;exact au (ag _ (.inl (aw [.ak 2 (bP.map ef)])))
 obtain⟨n,h⟩:=cC h;exact cW (.inr ⟨_,aW rfl,ik n (List.replicate (Int.toNat (a0.length:Int)) (ca.mk 0 0)) 0 h⟩)
theorem anj (a0 r) (h:Jc a0=some r):aV af 173 [.slice (a0.map lr)] (.ak 1 (r.map nL)) []:=by
 refine bs [0] [.tmp 2] Tryz.func173 c173 (λbn ag bm=>?_);refine ws _ ?_;obtain⟨Ab,aM,h⟩:=aj h;refine qK (R (qc aM) @List.map_replicate.{0,0}) [(0,.slice (a0.map lr)),(3,.ak 1 (List.replicate (Int.toNat (a0.length:Int)) .a8))] ?_;refine az ag (λ_ eU bN _=>?_);refine ws [(0,.slice (a0.map lr)),(3,.ak 1 (List.replicate (Int.toNat (a0.length:Int)) .a8)),(4,.int .i64 0)] ?_;refine bc bN (λjn _ cO cn _=>?_);show bj af (.loop ?hQ) _ _;have ik:∀n bP bB,OG a0 n bP bB=some r->cF af ?hQ jn (aq [(0,.slice (a0.map lr)),(3,.ak 1 (bP.map nL)),(4,.int .i64 bB)]):=by
  refine cZ (λ_ il bP bB h=>cX cO (λ_ dn el br=>?_));refine az el (λ_ hq _ cT=>?_);refine ws _ ?_;refine aD h (λeQ h=>?_) (λeQ h=>?_)
  .refine aI (hq _ (.inl ?_));refine az el (λ_ eu hM _=>?_);refine bc hM (λ_ gY _ _ _=>?_);obtain⟨U,dp,h⟩:=aj h;obtain⟨ah,e6,h⟩:=aj h;obtain⟨aK,cp,h⟩:=aj h;refine jg (cr [(0,.slice (a0.map lr)),(3,.ak 1 ((List.set bP (Int.toNat bB) ah).map nL)),(4,.int .i64 bB)] (λP bq=>?_) ?_)
   ·(try simp only[aN.down,simprocAttr,dp,cp,dy cp,ee,dW]);refine dk (ani U _ e6) rfl rfl rfl rfl (.inl (by rfl)) ?_;simp only[aN.down,simprocAttr,dp,cp,dy cp,ee,dW];exact b3 (R dp (R cp (R (dy cp) @ee)))
   refine gY _ (eu _ (.inl ?_));refine wr [(0,.slice (a0.map lr)),(3,.ak 1 ((List.set bP (Int.toNat bB) ah).map nL)),(4,.int .i64 (i64.wrap (bB+1)))] ?_;exact dn _ (.inr ⟨_,aW rfl,il (List.set bP (Int.toNat bB) ah) (i64.wrap (bB+1)) h⟩)
  .refine cP (cT 0 _ (br 0 _ (cn _ (eU _ (.inl ?_)))));refine ws _ ?_;exact au (ag _ (.inl (aw [.ak 1 (bP.map nL)])))
 obtain⟨n,h⟩:=cC h;exact cW (.inr ⟨_,iV [] rfl (cJ (t:=0) (d:=.slice (a0.map lr)) rfl (iN (t:=3) (d:=.ak 1 (List.replicate (Int.toNat (a0.length:Int)) .a8)) (bM:=.ak 1 ((List.replicate (Int.toNat (a0.length:Int)) []).map nL)) rfl rfl (E5 (u:=nL) (z:=[]) (.jf _) _) (by decide) (cJ (t:=4) (d:=.int .i64 0) rfl (iW)))),ik n (List.replicate (Int.toNat (a0.length:Int)) []) 0 h⟩)
theorem ank (a0 r) (h:FC a0=some r):aV af 136 [kv a0] (mW r) []:=by
 refine bs [0] [.cell 2 170] Tryz.func136 ajH (λbn ag bm=>?_);refine ws _ ?_;refine ws _ ?_;refine ws _ ?_;refine ws _ ?_;refine ws _ ?_;obtain⟨U,bY,h⟩:=aj h;refine cu (anj a0.cL _ bY) _ ?_;refine ws _ ?_;exact au (ag _ (.inl (aw [mW (cQ.mk a0.Kind a0.Number a0.Name U)])))
theorem anl (a0 r) (h:Jd a0=some r):aV af 97 [.slice (a0.map kv)] (.ak 4 (r.map mW)) []:=by
 refine bs [0] [.tmp 2] Tryz.func97 ajI (λbn ag bm=>?_);refine ws _ ?_;obtain⟨Ab,aM,h⟩:=aj h;refine qK (R (qc aM) @List.map_replicate.{0,0}) [(0,.slice (a0.map kv)),(3,.ak 4 (List.replicate (Int.toNat (a0.length:Int)) (.agg [(.int .i64 0),(.int .i64 0),(.str []),.a8])))] ?_;refine az ag (λ_ eU bN _=>?_);refine ws [(0,.slice (a0.map kv)),(3,.ak 4 (List.replicate (Int.toNat (a0.length:Int)) (.agg [(.int .i64 0),(.int .i64 0),(.str []),.a8]))),(4,.int .i64 0)] ?_;refine bc bN (λjn _ cO cn _=>?_);show bj af (.loop ?hQ) _ _;have ik:∀n bP bB,OH a0 n bP bB=some r->cF af ?hQ jn (aq [(0,.slice (a0.map kv)),(3,.ak 4 (bP.map mW)),(4,.int .i64 bB)]):=by
  refine cZ (λ_ il bP bB h=>cX cO (λ_ dn el br=>?_));refine az el (λ_ hq _ cT=>?_);refine ws _ ?_;refine aD h (λeQ h=>?_) (λeQ h=>?_)
  .refine aI (hq _ (.inl ?_));refine az el (λ_ eu hM _=>?_);refine bc hM (λ_ gY _ _ _=>?_);obtain⟨U,dp,h⟩:=aj h;obtain⟨ah,e6,h⟩:=aj h;obtain⟨aK,cp,h⟩:=aj h;refine jg (cr [(0,.slice (a0.map kv)),(3,.ak 4 ((List.set bP (Int.toNat bB) ah).map mW)),(4,.int .i64 bB)] (λP bq=>?_) ?_)
   ·(try simp only[aN.down,simprocAttr,dp,cp,dy cp,ee,dW]);refine dk (ank U _ e6) rfl rfl rfl rfl (.inl (by rfl)) ?_;simp only[aN.down,simprocAttr,dp,cp,dy cp,ee,dW];exact b3 (R dp (R cp (R (dy cp) @ee)))
   refine gY _ (eu _ (.inl ?_));refine wr [(0,.slice (a0.map kv)),(3,.ak 4 ((List.set bP (Int.toNat bB) ah).map mW)),(4,.int .i64 (i64.wrap (bB+1)))] ?_;exact dn _ (.inr ⟨_,aW rfl,il (List.set bP (Int.toNat bB) ah) (i64.wrap (bB+1)) h⟩)
  .refine cP (cT 0 _ (br 0 _ (cn _ (eU _ (.inl ?_)))));refine ws _ ?_;exact au (ag _ (.inl (aw [.ak 4 (bP.map mW)])))
 obtain⟨n,h⟩:=cC h;exact cW (.inr ⟨_,iV [] rfl (cJ (t:=0) (d:=.slice (a0.map kv)) rfl (iN (t:=3) (d:=.ak 4 (List.replicate (Int.toNat (a0.length:Int)) (.agg [(.int .i64 0),(.int .i64 0),(.str []),.a8]))) (bM:=.ak 4 ((List.replicate (Int.toNat (a0.length:Int)) (cQ.mk 0 0 ([]:azc) [])).map mW)) rfl rfl (E5 (u:=mW) (z:=(cQ.mk 0 0 ([]:azc) [])) (.agg (.cons (.refl _) (.cons (.refl _) (.cons (.refl _) (.cons (.jf _) (.nil)))))) _) (by decide) (cJ (t:=4) (d:=.int .i64 0) rfl (iW)))),ik n (List.replicate (Int.toNat (a0.length:Int)) (cQ.mk 0 0 ([]:azc) [])) 0 h⟩)
theorem anm (a0 r) (h:FD a0=some r):aV af 60 [jU a0] (lP r) []:=by
 refine bs [0] [.cell 2 123] Tryz.func60 ajJ (λbn ag bm=>?_);refine ws _ ?_;refine ws _ ?_;refine ws _ ?_;refine ws _ ?_;obtain⟨U,ck,h⟩:=aj h;refine cu (anl a0.Body _ ck) _ ?_;refine ws _ ?_;exact au (ag _ (.inl (aw [lP (a6.mk a0.Name a0.ek U)])))
theorem ann (a0 r) (h:Je a0=some r):aV af 26 [.slice (a0.map jU)] (.ak 3 (r.map lP)) []:=by
 refine bs [0] [.tmp 2] Tryz.func26 QU (λbn ag bm=>?_);refine ws _ ?_;obtain⟨Ab,aM,h⟩:=aj h;refine qK (R (qc aM) @List.map_replicate.{0,0}) [(0,.slice (a0.map jU)),(3,.ak 3 (List.replicate (Int.toNat (a0.length:Int)) (.agg [(.str []),(.int .i64 0),.a8])))] ?_;refine az ag (λ_ eU bN _=>?_);refine ws [(0,.slice (a0.map jU)),(3,.ak 3 (List.replicate (Int.toNat (a0.length:Int)) (.agg [(.str []),(.int .i64 0),.a8]))),(4,.int .i64 0)] ?_;refine bc bN (λjn _ cO cn _=>?_);show bj af (.loop ?hQ) _ _;have ik:∀n bP bB,OI a0 n bP bB=some r->cF af ?hQ jn (aq [(0,.slice (a0.map jU)),(3,.ak 3 (bP.map lP)),(4,.int .i64 bB)]):=by
  refine cZ (λ_ il bP bB h=>cX cO (λ_ dn el br=>?_));refine az el (λ_ hq _ cT=>?_);refine ws _ ?_;refine aD h (λeQ h=>?_) (λeQ h=>?_)
  .refine aI (hq _ (.inl ?_));refine az el (λ_ eu hM _=>?_);refine bc hM (λ_ gY _ _ _=>?_);obtain⟨U,dp,h⟩:=aj h;obtain⟨ah,e6,h⟩:=aj h;obtain⟨aK,cp,h⟩:=aj h;refine jg (cr [(0,.slice (a0.map jU)),(3,.ak 3 ((List.set bP (Int.toNat bB) ah).map lP)),(4,.int .i64 bB)] (λP bq=>?_) ?_)
   ·(try simp only[aN.down,simprocAttr,dp,cp,dy cp,ee,dW]);refine dk (anm U _ e6) rfl rfl rfl rfl (.inl (by rfl)) ?_;simp only[aN.down,simprocAttr,dp,cp,dy cp,ee,dW];exact b3 (R dp (R cp (R (dy cp) @ee)))
   refine gY _ (eu _ (.inl ?_));refine wr [(0,.slice (a0.map jU)),(3,.ak 3 ((List.set bP (Int.toNat bB) ah).map lP)),(4,.int .i64 (i64.wrap (bB+1)))] ?_;exact dn _ (.inr ⟨_,aW rfl,il (List.set bP (Int.toNat bB) ah) (i64.wrap (bB+1)) h⟩)
  .refine cP (cT 0 _ (br 0 _ (cn _ (eU _ (.inl ?_)))));refine ws _ ?_;exact au (ag _ (.inl (aw [.ak 3 (bP.map lP)])))
 obtain⟨n,h⟩:=cC h;exact cW (.inr ⟨_,iV [] rfl (cJ (t:=0) (d:=.slice (a0.map jU)) rfl (iN (t:=3) (d:=.ak 3 (List.replicate (Int.toNat (a0.length:Int)) (.agg [(.str []),(.int .i64 0),.a8]))) (bM:=.ak 3 ((List.replicate (Int.toNat (a0.length:Int)) (a6.mk ([]:azc) 0 [])).map lP)) rfl rfl (E5 (u:=lP) (z:=(a6.mk ([]:azc) 0 [])) (.agg (.cons (.refl _) (.cons (.refl _) (.cons (.jf _) (.nil))))) _) (by decide) (cJ (t:=4) (d:=.int .i64 0) rfl (iW)))),ik n (List.replicate (Int.toNat (a0.length:Int)) (a6.mk ([]:azc) 0 [])) 0 h⟩)
theorem Y9 (a0 r) (h:FE a0=some r):aV af 63 [.slice (a0.map a1)] (.ak 1 (r.map a1)) []:=by
 refine bs [0] [.tmp 2] Tryz.func63 ajK (λbn ag bm=>?_);refine ws _ ?_;obtain⟨K9,aM,h⟩:=aj h;refine qK (R (qc aM) @List.map_replicate.{0,0}) [(0,.slice (a0.map a1)),(3,.ak 1 ((List.replicate (Int.toNat (a0.length:Int)) 0).map a1))] ?_;refine az ag (λ_ eU bN _=>?_);refine ws [(0,.slice (a0.map a1)),(3,.ak 1 ((List.replicate (Int.toNat (a0.length:Int)) 0).map a1)),(4,.int .i64 0)] ?_;refine bc bN (λjn _ cO cn _=>?_);show bj af (.loop ?hQ) _ _;have ik:∀n bP bB,OJ a0 n bP bB=some r->cF af ?hQ jn (aq [(0,.slice (a0.map a1)),(3,.ak 1 (bP.map a1)),(4,.int .i64 bB)]):=by
  refine cZ (λ_ il bP bB h=>cX cO (λ_ dn el br=>?_));refine az el (λ_ hq _ cT=>?_);refine ws _ ?_;refine aD h (λeQ h=>?_) (λeQ h=>?_)
  .refine aI (hq _ (.inl ?_));refine az el (λ_ eu hM _=>?_);refine bc hM (λ_ gY _ _ _=>?_);obtain⟨U,dp,h⟩:=aj h;obtain⟨ah,e6,h⟩:=aj h;refine jg (cr [(0,.slice (a0.map a1)),(3,.ak 1 ((List.set bP (Int.toNat bB) U).map a1)),(4,.int .i64 bB)] (λP bq=>?_) ?_)
   .simp only[aN.down,simprocAttr,dp,e6,dy e6,ee,dW];exact b3 (R dp (R e6 (R (dy e6) @ee)))
   refine gY _ (eu _ (.inl ?_));refine wr [(0,.slice (a0.map a1)),(3,.ak 1 ((List.set bP (Int.toNat bB) U).map a1)),(4,.int .i64 (i64.wrap (bB+1)))] ?_;exact dn _ (.inr ⟨_,aW rfl,il (List.set bP (Int.toNat bB) U) (i64.wrap (bB+1)) h⟩)
  .refine cP (cT 0 _ (br 0 _ (cn _ (eU _ (.inl ?_)))));refine ws _ ?_;exact au (ag _ (.inl (aw [.ak 1 (bP.map a1)])))
 obtain⟨n,h⟩:=cC h;exact cW (.inr ⟨_,aW rfl,ik n (List.replicate (Int.toNat (a0.length:Int)) 0) 0 h⟩)
theorem ano (a0 r) (h:FF a0=some r):aV af 61 [jV a0] (lQ r) []:=by
 refine bs [0] [.cell 2 125] Tryz.func61 ajL (λbn ag bm=>?_);refine ws _ ?_;refine ws _ ?_;refine ws _ ?_;obtain⟨U,cv,h⟩:=aj h;refine cu (Y9 a0.bV _ cv) _ ?_;refine ws _ ?_;exact au (ag _ (.inl (aw [lQ (dx.mk a0.cE U)])))
theorem anp (a0 r) (h:Jf a0=some r):aV af 27 [.slice (a0.map jV)] (.ak 2 (r.map lQ)) []:=by
 refine bs [0] [.tmp 2] Tryz.func27 ajM (λbn ag bm=>?_);refine ws _ ?_;obtain⟨Ab,aM,h⟩:=aj h;refine qK (R (qc aM) @List.map_replicate.{0,0}) [(0,.slice (a0.map jV)),(3,.ak 2 (List.replicate (Int.toNat (a0.length:Int)) (.agg [(.int .i64 0),.a8])))] ?_;refine az ag (λ_ eU bN _=>?_);refine ws [(0,.slice (a0.map jV)),(3,.ak 2 (List.replicate (Int.toNat (a0.length:Int)) (.agg [(.int .i64 0),.a8]))),(4,.int .i64 0)] ?_;refine bc bN (λjn _ cO cn _=>?_);show bj af (.loop ?hQ) _ _;have ik:∀n bP bB,OK a0 n bP bB=some r->cF af ?hQ jn (aq [(0,.slice (a0.map jV)),(3,.ak 2 (bP.map lQ)),(4,.int .i64 bB)]):=by
  refine cZ (λ_ il bP bB h=>cX cO (λ_ dn el br=>?_));refine az el (λ_ hq _ cT=>?_);refine ws _ ?_;refine aD h (λeQ h=>?_) (λeQ h=>?_)
  .refine aI (hq _ (.inl ?_));refine az el (λ_ eu hM _=>?_);refine bc hM (λ_ gY _ _ _=>?_);obtain⟨U,dp,h⟩:=aj h;obtain⟨ah,e6,h⟩:=aj h;obtain⟨aK,cp,h⟩:=aj h;refine jg (cr [(0,.slice (a0.map jV)),(3,.ak 2 ((List.set bP (Int.toNat bB) ah).map lQ)),(4,.int .i64 bB)] (λP bq=>?_) ?_)
   ·(try simp only[aN.down,simprocAttr,dp,cp,dy cp,ee,dW]);refine dk (ano U _ e6) rfl rfl rfl rfl (.inl (by rfl)) ?_;simp only[aN.down,simprocAttr,dp,cp,dy cp,ee,dW];exact b3 (R dp (R cp (R (dy cp) @ee)))
   refine gY _ (eu _ (.inl ?_));refine wr [(0,.slice (a0.map jV)),(3,.ak 2 ((List.set bP (Int.toNat bB) ah).map lQ)),(4,.int .i64 (i64.wrap (bB+1)))] ?_;exact dn _ (.inr ⟨_,aW rfl,il (List.set bP (Int.toNat bB) ah) (i64.wrap (bB+1)) h⟩)
  .refine cP (cT 0 _ (br 0 _ (cn _ (eU _ (.inl ?_)))));refine ws _ ?_;exact au (ag _ (.inl (aw [.ak 2 (bP.map lQ)])))
 obtain⟨n,h⟩:=cC h;exact cW (.inr ⟨_,iV [] rfl (cJ (t:=0) (d:=.slice (a0.map jV)) rfl (iN (t:=3) (d:=.ak 2 (List.replicate (Int.toNat (a0.length:Int)) (.agg [(.int .i64 0),.a8]))) (bM:=.ak 2 ((List.replicate (Int.toNat (a0.length:Int)) (dx.mk 0 [])).map lQ)) rfl rfl (E5 (u:=lQ) (z:=(dx.mk 0 [])) (.agg (.cons (.refl _) (.cons (.jf _) (.nil)))) _) (by decide) (cJ (t:=4) (d:=.int .i64 0) rfl (iW)))),ik n (List.replicate (Int.toNat (a0.length:Int)) (dx.mk 0 [])) 0 h⟩)
theorem anq (a0 r) (h:FG a0=some r):aV af 62 [jw a0] (bS r) []:=by
 refine bs [0] [.cell 2 127] Tryz.func62 ajN (λbn ag bm=>?_);refine ws _ ?_;refine ws _ ?_;refine ws _ ?_;refine ws _ ?_;refine ws _ ?_;refine ws _ ?_;exact au (ag _ (.inl (aw [bS (ch.mk a0.Left a0.cY a0.Result)])))
theorem anr (a0 r) (h:Jg a0=some r):aV af 28 [.slice (a0.map jw)] (.ak 3 (r.map bS)) []:=by
 refine bs [0] [.tmp 2] Tryz.func28 c28 (λbn ag bm=>?_);refine ws _ ?_;obtain⟨Ab,aM,h⟩:=aj h;refine qK (R (qc aM) @List.map_replicate.{0,0}) [(0,.slice (a0.map jw)),(3,.ak 3 ((List.replicate (Int.toNat (a0.length:Int)) (ch.mk ([]:azc) ([]:azc) ([]:azc))).map bS))] ?_;refine az ag (λ_ eU bN _=>?_);refine ws [(0,.slice (a0.map jw)),(3,.ak 3 ((List.replicate (Int.toNat (a0.length:Int)) (ch.mk ([]:azc) ([]:azc) ([]:azc))).map bS)),(4,.int .i64 0)] ?_;refine bc bN (λjn _ cO cn _=>?_);show bj af (.loop ?hQ) _ _;have ik:∀n bP bB,OL a0 n bP bB=some r->cF af ?hQ jn (aq [(0,.slice (a0.map jw)),(3,.ak 3 (bP.map bS)),(4,.int .i64 bB)]):=by
  refine cZ (λ_ il bP bB h=>cX cO (λ_ dn el br=>?_));refine az el (λ_ hq _ cT=>?_);refine ws _ ?_;refine aD h (λeQ h=>?_) (λeQ h=>?_)
  .refine aI (hq _ (.inl ?_));refine az el (λ_ eu hM _=>?_);refine bc hM (λ_ gY _ _ _=>?_);obtain⟨U,dp,h⟩:=aj h;obtain⟨ah,e6,h⟩:=aj h;obtain⟨aK,cp,h⟩:=aj h;refine jg (cr [(0,.slice (a0.map jw)),(3,.ak 3 ((List.set bP (Int.toNat bB) ah).map bS)),(4,.int .i64 bB)] (λP bq=>?_) ?_)
   ·(try simp only[aN.down,simprocAttr,dp,cp,dy cp,ee,dW]);refine dk (anq U _ e6) rfl rfl rfl rfl (.inl (by rfl)) ?_;simp only[aN.down,simprocAttr,dp,cp,dy cp,ee,dW];exact b3 (R dp (R cp (R (dy cp) @ee)))
   refine gY _ (eu _ (.inl ?_));refine wr [(0,.slice (a0.map jw)),(3,.ak 3 ((List.set bP (Int.toNat bB) ah).map bS)),(4,.int .i64 (i64.wrap (bB+1)))] ?_;exact dn _ (.inr ⟨_,aW rfl,il (List.set bP (Int.toNat bB) ah) (i64.wrap (bB+1)) h⟩)
  .refine cP (cT 0 _ (br 0 _ (cn _ (eU _ (.inl ?_)))));refine ws _ ?_;exact au (ag _ (.inl (aw [.ak 3 (bP.map bS)])))
 obtain⟨n,h⟩:=cC h;exact cW (.inr ⟨_,aW rfl,ik n (List.replicate (Int.toNat (a0.length:Int)) (ch.mk ([]:azc) ([]:azc) ([]:azc))) 0 h⟩)
theorem Y_ (a0 r) (h:FH a0=some r):aV af 29 [.slice (a0.map aX)] (.ak 1 (r.map aX)) []:=by
 refine bs [0] [.tmp 2] Tryz.func29 ajO (λbn ag bm=>?_);refine ws _ ?_;obtain⟨K9,aM,h⟩:=aj h;refine qK (R (qc aM) @List.map_replicate.{0,0}) [(0,.slice (a0.map aX)),(3,.ak 1 ((List.replicate (Int.toNat (a0.length:Int)) ([]:azc)).map aX))] ?_;refine az ag (λ_ eU bN _=>?_);refine ws [(0,.slice (a0.map aX)),(3,.ak 1 ((List.replicate (Int.toNat (a0.length:Int)) ([]:azc)).map aX)),(4,.int .i64 0)] ?_;refine bc bN (λjn _ cO cn _=>?_);show bj af (.loop ?hQ) _ _;have ik:∀n bP bB,OM a0 n bP bB=some r->cF af ?hQ jn (aq [(0,.slice (a0.map aX)),(3,.ak 1 (bP.map aX)),(4,.int .i64 bB)]):=by
  refine cZ (λ_ il bP bB h=>cX cO (λ_ dn el br=>?_));refine az el (λ_ hq _ cT=>?_);refine ws _ ?_;refine aD h (λeQ h=>?_) (λeQ h=>?_)
  .refine aI (hq _ (.inl ?_));refine az el (λ_ eu hM _=>?_);refine bc hM (λ_ gY _ _ _=>?_);obtain⟨U,dp,h⟩:=aj h;obtain⟨ah,e6,h⟩:=aj h;refine jg (cr [(0,.slice (a0.map aX)),(3,.ak 1 ((List.set bP (Int.toNat bB) U).map aX)),(4,.int .i64 bB)] (λP bq=>?_) ?_)
   .simp only[aN.down,simprocAttr,dp,e6,dy e6,ee,dW];exact b3 (R dp (R e6 (R (dy e6) @ee)))
   refine gY _ (eu _ (.inl ?_));refine wr [(0,.slice (a0.map aX)),(3,.ak 1 ((List.set bP (Int.toNat bB) U).map aX)),(4,.int .i64 (i64.wrap (bB+1)))] ?_;exact dn _ (.inr ⟨_,aW rfl,il (List.set bP (Int.toNat bB) U) (i64.wrap (bB+1)) h⟩)
  .refine cP (cT 0 _ (br 0 _ (cn _ (eU _ (.inl ?_)))));refine ws _ ?_;exact au (ag _ (.inl (aw [.ak 1 (bP.map aX)])))
 obtain⟨n,h⟩:=cC h;exact cW (.inr ⟨_,aW rfl,ik n (List.replicate (Int.toNat (a0.length:Int)) ([]:azc)) 0 h⟩)
theorem Rg (a0 r) (h:zu a0=some r):aV af 8 [s9 a0] (wA r) []:=by
 refine bs [0] [.cell 2 39] Tryz.func8 hQ (λbn ag bm=>?_);refine ws _ ?_;refine ws _ ?_;obtain⟨U,bT,h⟩:=aj h;refine cu (ann a0.cw _ bT) _ ?_;obtain⟨ah,ck,h⟩:=aj h;refine cu (anp a0.cg _ ck) _ ?_;obtain⟨aK,fh,h⟩:=aj h;refine cu (anr a0.b8 _ fh) _ ?_;obtain⟨bd,gG,h⟩:=aj h;refine cu (Y_ a0.cB _ gG) _ ?_;obtain⟨bo,eJ,h⟩:=aj h;refine cu (Y_ a0.cy _ eJ) _ ?_;refine ws _ ?_;exact au (ag _ (.inl (aw [wA (cM.mk U ah aK bd bo)])))
theorem ans (a0 r) (h:FI a0=some r):aV af 30 [lv a0] (eO r) []:=by
 refine bs [0] [.cell 2 72] Tryz.func30 ajP (λbn ag bm=>?_);refine ws _ ?_;refine ws _ ?_;refine ws _ ?_;refine ws _ ?_;obtain⟨U,ck,h⟩:=aj h;refine cu (Y9 a0.bV _ ck) _ ?_;refine ws _ ?_;exact au (ag _ (.inl (aw [eO (bp.mk a0.cE a0.Part U)])))
theorem Rh (a0 r) (h:BN a0=some r):aV af 9 [.slice (a0.map lv)] (.ak 3 (r.map eO)) []:=by
 refine bs [0] [.tmp 2] Tryz.func9 c9 (λbn ag bm=>?_);refine ws _ ?_;obtain⟨Ab,aM,h⟩:=aj h;refine qK (R (qc aM) @List.map_replicate.{0,0}) [(0,.slice (a0.map lv)),(3,.ak 3 (List.replicate (Int.toNat (a0.length:Int)) (.agg [(.int .i64 0),(.int .i64 0),.a8])))] ?_;refine az ag (λ_ eU bN _=>?_);refine ws [(0,.slice (a0.map lv)),(3,.ak 3 (List.replicate (Int.toNat (a0.length:Int)) (.agg [(.int .i64 0),(.int .i64 0),.a8]))),(4,.int .i64 0)] ?_;refine bc bN (λjn _ cO cn _=>?_);show bj af (.loop ?hQ) _ _;have ik:∀n bP bB,ON a0 n bP bB=some r->cF af ?hQ jn (aq [(0,.slice (a0.map lv)),(3,.ak 3 (bP.map eO)),(4,.int .i64 bB)]):=by
  refine cZ (λ_ il bP bB h=>cX cO (λ_ dn el br=>?_));refine az el (λ_ hq _ cT=>?_);refine ws _ ?_;refine aD h (λeQ h=>?_) (λeQ h=>?_)
  .refine aI (hq _ (.inl ?_));refine az el (λ_ eu hM _=>?_);refine bc hM (λ_ gY _ _ _=>?_);obtain⟨U,dp,h⟩:=aj h;obtain⟨ah,e6,h⟩:=aj h;obtain⟨aK,cp,h⟩:=aj h;refine jg (cr [(0,.slice (a0.map lv)),(3,.ak 3 ((List.set bP (Int.toNat bB) ah).map eO)),(4,.int .i64 bB)] (λP bq=>?_) ?_)
   ·(try simp only[aN.down,simprocAttr,dp,cp,dy cp,ee,dW]);refine dk (ans U _ e6) rfl rfl rfl rfl (.inl (by rfl)) ?_;simp only[aN.down,simprocAttr,dp,cp,dy cp,ee,dW];exact b3 (R dp (R cp (R (dy cp) @ee)))
   refine gY _ (eu _ (.inl ?_));refine wr [(0,.slice (a0.map lv)),(3,.ak 3 ((List.set bP (Int.toNat bB) ah).map eO)),(4,.int .i64 (i64.wrap (bB+1)))] ?_;exact dn _ (.inr ⟨_,aW rfl,il (List.set bP (Int.toNat bB) ah) (i64.wrap (bB+1)) h⟩)
  .refine cP (cT 0 _ (br 0 _ (cn _ (eU _ (.inl ?_)))));refine ws _ ?_;exact au (ag _ (.inl (aw [.ak 3 (bP.map eO)])))
 obtain⟨n,h⟩:=cC h;exact cW (.inr ⟨_,iV [] rfl (cJ (t:=0) (d:=.slice (a0.map lv)) rfl (iN (t:=3) (d:=.ak 3 (List.replicate (Int.toNat (a0.length:Int)) (.agg [(.int .i64 0),(.int .i64 0),.a8]))) (bM:=.ak 3 ((List.replicate (Int.toNat (a0.length:Int)) (bp.mk 0 0 [])).map eO)) rfl rfl (E5 (u:=eO) (z:=(bp.mk 0 0 [])) (.agg (.cons (.refl _) (.cons (.refl _) (.cons (.jf _) (.nil))))) _) (by decide) (cJ (t:=4) (d:=.int .i64 0) rfl (iW)))),ik n (List.replicate (Int.toNat (a0.length:Int)) (bp.mk 0 0 [])) 0 h⟩)
theorem ant (a0 r) (h:FJ a0=some r):aV af 31 [kR a0] (fC r) []:=by
 refine bs [0] [.cell 2 74] Tryz.func31 c31 (λbn ag bm=>?_);refine ws _ ?_;refine ws _ ?_;refine ws _ ?_;refine ws _ ?_;refine ws _ ?_;refine ws _ ?_;refine ws _ ?_;exact au (ag _ (.inl (aw [fC (fu.mk a0.Choice a0.fa a0.Second a0.Label)])))
theorem Ri (a0 r) (h:BO a0=some r):aV af 10 [.slice (a0.map kR)] (.ak 4 (r.map fC)) []:=by
 refine bs [0] [.tmp 2] Tryz.func10 z_ (λbn ag bm=>?_);refine ws _ ?_;obtain⟨Ab,aM,h⟩:=aj h;refine qK (R (qc aM) @List.map_replicate.{0,0}) [(0,.slice (a0.map kR)),(3,.ak 4 ((List.replicate (Int.toNat (a0.length:Int)) (fu.mk 0 0 0 ([]:azc))).map fC))] ?_;refine az ag (λ_ eU bN _=>?_);refine ws [(0,.slice (a0.map kR)),(3,.ak 4 ((List.replicate (Int.toNat (a0.length:Int)) (fu.mk 0 0 0 ([]:azc))).map fC)),(4,.int .i64 0)] ?_;refine bc bN (λjn _ cO cn _=>?_);show bj af (.loop ?hQ) _ _;have ik:∀n bP bB,OO a0 n bP bB=some r->cF af ?hQ jn (aq [(0,.slice (a0.map kR)),(3,.ak 4 (bP.map fC)),(4,.int .i64 bB)]):=by
  refine cZ (λ_ il bP bB h=>cX cO (λ_ dn el br=>?_));refine az el (λ_ hq _ cT=>?_);refine ws _ ?_;refine aD h (λeQ h=>?_) (λeQ h=>?_)
  .refine aI (hq _ (.inl ?_));refine az el (λ_ eu hM _=>?_);refine bc hM (λ_ gY _ _ _=>?_);obtain⟨U,dp,h⟩:=aj h;obtain⟨ah,e6,h⟩:=aj h;obtain⟨aK,cp,h⟩:=aj h;refine jg (cr [(0,.slice (a0.map kR)),(3,.ak 4 ((List.set bP (Int.toNat bB) ah).map fC)),(4,.int .i64 bB)] (λP bq=>?_) ?_)
   ·(try simp only[aN.down,simprocAttr,dp,cp,dy cp,ee,dW]);refine dk (ant U _ e6) rfl rfl rfl rfl (.inl (by rfl)) ?_;simp only[aN.down,simprocAttr,dp,cp,dy cp,ee,dW];exact b3 (R dp (R cp (R (dy cp) @ee)))
   refine gY _ (eu _ (.inl ?_));refine wr [(0,.slice (a0.map kR)),(3,.ak 4 ((List.set bP (Int.toNat bB) ah).map fC)),(4,.int .i64 (i64.wrap (bB+1)))] ?_;exact dn _ (.inr ⟨_,aW rfl,il (List.set bP (Int.toNat bB) ah) (i64.wrap (bB+1)) h⟩)
  .refine cP (cT 0 _ (br 0 _ (cn _ (eU _ (.inl ?_)))));refine ws _ ?_;exact au (ag _ (.inl (aw [.ak 4 (bP.map fC)])))
 obtain⟨n,h⟩:=cC h;exact cW (.inr ⟨_,aW rfl,ik n (List.replicate (Int.toNat (a0.length:Int)) (fu.mk 0 0 0 ([]:azc))) 0 h⟩)
theorem Rj (a0 r) (h:FK a0=some r):aV af 171 [.int .u8 (a0.toNat:Int)] (.bool r) []:=by
 refine bs [0] [.tmp 2] Tryz.func171 c171 (λbn ag bm=>?_);refine ws _ ?_;refine mY (decide (97<=(a0.toNat:Int))) [(2,.bool ((decide (97<=(a0.toNat:Int)))&&(decide ((a0.toNat:Int)<=122))))] ?_;exact au (ag _ (.inl (aw [.bool ((decide (97<=(a0.toNat:Int)))&&(decide ((a0.toNat:Int)<=122)))])))
theorem Rk (a0 r) (h:BP a0=some r):aV af 172 [.int .u8 (a0.toNat:Int)] (.bool r) []:=by
 refine bs [0] [.tmp 2] Tryz.func172 ajQ (λbn ag bm=>?_);refine ws _ ?_;refine mY (decide (48<=(a0.toNat:Int))) [(2,.bool ((decide (48<=(a0.toNat:Int)))&&(decide ((a0.toNat:Int)<=57))))] ?_;exact au (ag _ (.inl (aw [.bool ((decide (48<=(a0.toNat:Int)))&&(decide ((a0.toNat:Int)<=57)))])))
theorem Dn (a0 r) (h:xY a0=some r):aV af 131 [.str a0] (.bool r) []:=by
 refine bs [0] [.tmp 2] Tryz.func131 c131 (λbn ag bm=>?_);refine ws _ ?_;refine az ag (λ_ bI a_ ah=>?_);rcases dc h with⟨bw,h⟩|⟨bw,h⟩
 .refine cR bw _ ?_;refine iU rfl ?_;refine ws _ ?_;exact au (a_ _ (.inl (aw [.bool false])))
 .rcases dc h with⟨cn,h⟩|⟨cn,h⟩
  .refine cR (R bw cn) _ ?_;refine iU rfl ?_;refine ws _ ?_;exact au (a_ _ (.inl (aw [.bool false])))
  .obtain⟨U,fh,h⟩:=aj h;obtain⟨ah,iH,h⟩:=aj h;refine ea (R bw (R cn fh)) (Rj U _ iH) _ ?_;refine aD h (λeQ h=>?_) (λeQ h=>?_)
   .refine ws _ ?_;exact au (a_ _ (.inl (aw [.bool false])))
   .refine aI (bI _ (.inl ?_));refine az ag (λ_ gY mz _=>?_);refine ws _ ?_;refine bc mz (λAc _ dL gL _=>?_);show bj af (.loop ?gw) _ _;have gM:∀n eo,FL a0 n eo=some r->cF af ?gw Ac (aq [(0,.str a0),(3,.int .i64 eo)]):=by
     refine cZ (λ_ gx eo h=>cX dL (λ_ fE fK gT=>?_));refine az fK (λ_ jx _ ic=>?_);refine ws _ ?_;refine aD h (λhr h=>?_) (λhr h=>?_)
     .refine aI (jx _ (.inl ?_));refine az fK (λ_ oq wC _=>?_);refine bc wC (λ_ u9 u_ _ _=>?_);obtain⟨aK,gN,h⟩:=aj h;obtain⟨bd,iA,h⟩:=aj h;rcases dc h with⟨hz,h⟩|⟨hz,h⟩
      .obtain⟨bo,h2,h⟩:=aj h;refine eb (cr [(0,.str a0),(3,.int .i64 eo),(34,.bool (!bo))] (λP bq=>?_) ?_)
       ·(try simp only[aN.down,simprocAttr,gN,(hf hz)]);refine dk (Rj aK _ iA) rfl rfl rfl rfl (.inl (by rfl)) ?_;simp only[aN.down,simprocAttr,gN,(hf hz)];refine gB (Rk aK _ h2) rfl rfl rfl rfl (.inl (by rfl)) ?_;simp only[aN.down,simprocAttr,gN,(hf hz)];exact b3 (R gN (hf hz))
       refine aD h (λjy h=>?_) (λjy h=>?_)
       .refine ws _ ?_;exact au (u_ _ (.inl (aw [.bool false])))
       .refine aI (u9 _ (oq _ (.inl ?_)));refine wr _ ?_;exact fE _ (.inr ⟨_,aW rfl,gx (i64.wrap (eo+1)) h⟩)
      .refine ea (R gN (b6 hz)) (Rj aK _ iA) _ ?_;refine n4 rfl ?_;refine aI (u9 _ (oq _ (.inl ?_)));refine wr _ ?_;exact fE _ (.inr ⟨_,aW rfl,gx (i64.wrap (eo+1)) h⟩)
     .refine cP (ic 0 _ (gT 0 _ (gL _ (gY _ (.inl ?_)))));refine ws _ ?_;exact au (ag _ (.inl (aw [.bool true])))
    obtain⟨n,h⟩:=cC h;exact cW (.inr ⟨_,aW rfl,gM n 0 h⟩)
theorem kx (a0 J a2 r) (h:jP a0 J a2=some r):aV af 49 [.int .i64 a0,.int .i64 J,.int .i64 a2] (.bool r) []:=by
 refine bs [0,1,2] [.tmp 6] Tryz.func49 c49 (λbn ag bm=>?_);refine ws _ ?_;refine mY (decide (J<=a0)) [(6,.bool ((decide (J<=a0))&&(decide (a0<=a2))))] ?_;exact au (ag _ (.inl (aw [.bool ((decide (J<=a0))&&(decide (a0<=a2)))])))
theorem Za (a0 r) (h:FN a0=some r):aV af 169 [.ref (ei a0)] (.int .i64 r) []:=by
 refine bs [0] [.tmp 2] Tryz.func169 ajR (λbn ag bm=>?_);refine ws _ ?_;refine az ag (λ_ bI a_ _=>?_);refine ws _ ?_;refine bc a_ (λfy eU bN _ _=>?_);show bj af (.seq _ ?jk) _ _;have Ad:∀jQ,FM a0 jQ=some r->bj af ?jk fy (aq [(6,.int .i64 a0.Kind),(7,.bool jQ)]):=by
  intro jQ h;refine aD h (λcn h=>?_) (λcn h=>?_)
  .refine ws _ ?_;exact au (bN _ (.inl (aw [.int .i64 1])))
  .refine ws _ ?_;refine aD h (λeP h=>?_) (λeP h=>?_)
   .refine ws _ ?_;exact au (bN _ (.inl (aw [.int .i64 2])))
   .refine aI (eU _ (bI _ (.inl ?_)));refine ws _ ?_;exact au (ag _ (.inl (aw [.int .i64 0])))
 refine az bN (λ_ dZ _ _=>?_);refine ws _ ?_;refine aD h (λe1 h=>?_) (λe1 h=>?_)
 .simp only[e1,G5.down];exact aI (dZ _ (.inr ⟨_,aW rfl,Ad true h⟩))
 .refine ws _ ?_;refine aD h (λeB h=>?_) (λeB h=>?_)
  .simp only[eB,G5.down];exact aI (dZ _ (.inr ⟨_,aW rfl,Ad true h⟩))
  .refine wr _ ?_;exact dZ _ (.inr ⟨_,aW rfl,Ad (a0.Kind==4) h⟩)
theorem anu (a0 r) (h:Jh a0=some r):aV af 202 [.slice (a0.map ei)] (.bool r) []:=by
 refine bs [0] [.tmp 2] Tryz.func202 ajS (λbn ag bm=>?_);refine ws _ ?_;refine az ag (λ_ bI a_ ah=>?_);refine mY ((a0.length:Int)==0) [(0,.slice (a0.map ei)),(12,.bool (((a0.length:Int)==0)||(decide (20<(a0.length:Int)))))] ?_;refine aD h (λbw h=>?_) (λbw h=>?_)
 .refine ws _ ?_;exact au (a_ _ (.inl (aw [.bool false])))
 .refine aI (bI _ (.inl ?_));refine ws _ ?_;refine az ag (λ_ dn el _=>?_);refine ws _ ?_;refine bc el (λjm _ cb eP _=>?_);show bj af (.loop ?jk) _ _;have jW:∀n gX hp,BQ a0 n gX hp=some r->cF af ?jk jm (aq [(0,.slice (a0.map ei)),(3,.int .i64 gX),(4,.int .i64 hp)]):=by
   refine cZ (λ_ jX gX hp h=>cX cb (λ_ b5 cx df=>?_));refine az cx (λ_ eu _ eA=>?_);refine ws _ ?_;refine aD h (λe1 h=>?_) (λe1 h=>?_)
   .refine aI (eu _ (.inl ?_));refine az cx (λ_ ej dL _=>?_);refine bc dL (λ_ fE fK _ _=>?_);refine az fK (λ_ jx lT _=>?_);refine ws _ ?_;refine aD h (λhr h=>?_) (λhr h=>?_)
    .refine ws _ ?_;exact au (lT _ (.inl (aw [.bool false])))
    .refine aI (jx _ (.inl ?_));obtain⟨U,h1,h⟩:=aj h;obtain⟨ah,gN,h⟩:=aj h;refine Aa h1 (Za U _ gN) _ ?_;refine fE _ (ej _ (.inl ?_));refine wr _ ?_;exact b5 _ (.inr ⟨_,aW rfl,jX (i64.wrap (gX+(i64.wrap (ah-1)))) (i64.wrap (hp+1)) h⟩)
   .refine cP (eA 0 _ (df 0 _ (eP _ (dn _ (.inl ?_)))));refine ws _ ?_;exact au (ag _ (.inl (aw [.bool (gX==0)])))
  obtain⟨n,h⟩:=cC h;exact cW (.inr ⟨_,aW rfl,jW n 1 0 h⟩)
theorem anv (a0 r) (h:OR a0=some r):aV af 237 [.ref (ei a0)] (.bool r) []:=by
 refine bs [0] [.tmp 2] Tryz.func237 ajT (λbn ag bm=>?_);refine ws _ ?_;refine az ag (λ_ bI a_ _=>?_);refine ws _ ?_;refine bc a_ (λfy eU bN _ _=>?_);show bj af (.seq _ ?c12) _ _;have rL:∀FO,Ji a0 FO=some r->bj af ?c12 fy (aq [(0,.ref (ei a0)),(6,.int .i64 a0.Kind),(7,.bool FO)]):=by
  intro FO h;refine aD h (λcn h=>?_) (λcn h=>?_)
  .refine eb (cr [(2,.bool (((a0.Number==0)&&(a0.Name==([]:azc)))&&((a0.cL.length:Int)==0)))] (λP bq=>?_) ?_)
   ·(rcases Bool.eq_false_or_eq_true (a0.Number==0)with yh|yh)<;>(rcases Bool.eq_false_or_eq_true (a0.Name==([]:azc))with rM|rM)<;>
     (simp only[aN.down,simprocAttr,yh,rM]
      exact b3 (R yh rM))
   exact au (bN _ (.inl (aw [.bool (((a0.Number==0)&&(a0.Name==([]:azc)))&&((a0.cL.length:Int)==0))])))
  .refine ws _ ?_;refine aD h (λnu h=>?_) (λnu h=>?_)
   .refine ws _ ?_;exact au (bN _ (.inl (aw [.bool (a0.Number==0)])))
   .refine ws _ ?_;refine aD h (λgL h=>?_) (λgL h=>?_)
    .refine mY (a0.Number==0) [(2,.bool ((a0.Number==0)&&(a0.Name==([]:azc))))] ?_;exact au (bN _ (.inl (aw [.bool ((a0.Number==0)&&(a0.Name==([]:azc)))])))
    .refine ws _ ?_;refine aD h (λkS h=>?_) (λkS h=>?_)
     .refine mY (a0.Name==([]:azc)) [(2,.bool ((a0.Name==([]:azc))&&((a0.cL.length:Int)==0)))] ?_;exact au (bN _ (.inl (aw [.bool ((a0.Name==([]:azc))&&((a0.cL.length:Int)==0))])))
     .refine ws _ ?_;refine aD h (λga h=>?_) (λga h=>?_)
      .refine ws _ ?_;exact au (bN _ (.inl (aw [.bool (a0.Name==([]:azc))])))
      .refine aI (eU _ (bI _ (.inl ?_)));refine ws _ ?_;exact au (ag _ (.inl (aw [.bool false])))
 refine az bN (λ_ dZ _ _=>?_);refine ws _ ?_;refine aD h (λhz h=>?_) (λhz h=>?_)
 .simp only[hz,G5.down];exact aI (dZ _ (.inr ⟨_,aW rfl,rL true h⟩))
 .refine wr _ ?_;exact dZ _ (.inr ⟨_,aW rfl,rL (a0.Kind==2) h⟩)
theorem Zb (a0 J r) (h:FP a0 J=some r):aV af 128 [.slice (a0.map ei),.int .i64 J] (.int .i64 r) []:=by
 refine bs [0] [.tmp 4] Tryz.func128 ajU (λbn ag bm=>?_);refine ws _ ?_;refine ws _ ?_;refine az ag (λ_ eM cN _=>?_);refine bc cN (λfy _ bN bw _=>?_);show bj af (.loop ?ft) _ _;have fV:∀n gi dT,BR a0 n gi dT=some r->cF af ?ft fy (aq [(0,.slice (a0.map ei)),(1,.int .i64 gi),(5,.int .i64 dT)]):=by
  refine cZ (λ_ fl gi dT h=>cX bN (λ_ dZ c6 bo=>?_));refine az c6 (λ_ db _ b0=>?_);refine ws _ ?_;refine aD h (λbW h=>?_) (λbW h=>?_)
  .refine aI (db _ (.inl ?_));refine bc c6 (λ_ cV _ _ _=>?_);obtain⟨U,kg,h⟩:=aj h;obtain⟨ah,eJ,h⟩:=aj h;refine ea kg (Za U _ eJ) _ ?_;refine wr _ ?_;exact cV _ (dZ _ (.inr ⟨_,aW rfl,fl (i64.wrap (gi+1)) (i64.wrap (dT+(i64.wrap (ah-1)))) h⟩))
  .refine cP (b0 0 _ (bo 0 _ (bw _ (eM _ (.inl ?_)))));refine ws _ ?_;exact au (ag _ (.inl (aw [.int .i64 gi])))
 obtain⟨n,h⟩:=cC h;exact cW (.inr ⟨_,aW rfl,fV n J 1 h⟩)
theorem Rl (a0 J r) (h:vS a0 J=some r):aV af 124 [.ref (bg a0),.int .i64 J] (.int .i64 r) []:=by
 refine bs [0,1] [.tmp 4] Tryz.func124 c124 (λbn ag bm=>?_);refine ws _ ?_;refine ws _ ?_;refine az ag (λ_ eM cN _=>?_);refine ws _ ?_;refine bc cN (λqL _ c6 cI _=>?_);show bj af (.loop ?hQ) _ _;have ik:∀n fz jR,zv a0 J n fz jR=some r->cF af ?hQ qL (aq [(0,.ref (bg a0)),(1,.int .i64 J),(5,.int .i64 fz),(6,.int .i64 jR)]):=by
  refine cZ (λm8 il fz jR h=>cX c6 (λjn db cO b0=>?_));refine az cO (λ_ dn _ br=>?_);refine ws _ ?_;refine aD h (λeP h=>?_) (λeP h=>?_)
  .refine aI (dn _ (.inl ?_));show bj af (.seq _ ?QW) _ _;have wD:∀BS BT,FQ (zv a0 J m8) a0 J BS BT=some r->bj af ?QW jn (aq [(0,.ref (bg a0)),(1,.int .i64 J),(5,.int .i64 BS),(6,.int .i64 BT)]):=by
    intro BS BT h;refine wr _ ?_;exact db _ (.inr ⟨_,aW rfl,il BS (i64.wrap (BT+1)) h⟩)
   refine az cO (λ_ b5 cx _=>?_);refine bc cx (λ_ gY _ _ _=>?_);obtain⟨U,dp,h⟩:=aj h;rcases dc h with⟨eB,h⟩|⟨eB,h⟩
   .obtain⟨ah,cp,h⟩:=aj h;refine ea (R dp eB) (Zb a0.Body jR _ cp) _ ?_;refine aD h (λkS h=>?_) (λkS h=>?_)
    .refine wr _ ?_;exact gY _ (b5 _ (.inr ⟨_,aW rfl,wD (i64.wrap (fz+1)) jR h⟩))
    .exact aI (gY _ (b5 _ (.inr ⟨_,aW rfl,wD fz jR h⟩)))
   .refine cR (R dp eB) _ ?_;refine n4 rfl ?_;exact aI (gY _ (b5 _ (.inr ⟨_,aW rfl,wD fz jR h⟩)))
  .refine cP (br 0 _ (b0 0 _ (cI _ (eM _ (.inl ?_)))));refine ws _ ?_;exact au (ag _ (.inl (aw [.int .i64 fz])))
 obtain⟨n,h⟩:=cC h;exact cW (.inr ⟨_,aW rfl,ik n a0.ek 0 h⟩)
theorem anw (a0 J r) (h:Jj a0 J=some r):aV af 263 [.ref (ef a0),.int .i64 J] (.bool r) []:=by
 refine bs [0,1] [.tmp 4] Tryz.func263 ajV (λbn ag bm=>?_);refine ws _ ?_;refine az ag (λ_ bI a_ ah=>?_);refine ws _ ?_;refine bc a_ (λ_ eU bN _ _=>?_);refine ws _ ?_;refine aD h (λcn h=>?_) (λcn h=>?_)
 .obtain⟨U,fh,h⟩:=aj h;refine cu (kx a0.Value 0 63 _ fh) _ ?_;exact au (bN _ (.inl (aw [.bool U])))
 .refine ws _ ?_;refine aD h (λeQ h=>?_) (λeQ h=>?_)
  .obtain⟨ah,eJ,h⟩:=aj h;refine cu (kx a0.Value 0 (i64.wrap (J-1)) _ eJ) _ ?_;exact au (bN _ (.inl (aw [.bool ah])))
  .refine ws _ ?_;refine aD h (λgL h=>?_) (λgL h=>?_)
   .obtain⟨aK,cp,h⟩:=aj h;refine cu (kx a0.Value 0 8 _ cp) _ ?_;exact au (bN _ (.inl (aw [.bool aK])))
   .refine ws _ ?_;refine aD h (λhr h=>?_) (λhr h=>?_)
    .refine ws _ ?_;exact au (bN _ (.inl (aw [.bool (a0.Value==0)])))
    .refine aI (eU _ (bI _ (.inl ?_)));refine ws _ ?_;exact au (ag _ (.inl (aw [.bool false])))
theorem Zc (a0 r) (h:Jk a0=some r):aV af 239 [.ref (ef a0)] (.int .i64 r) []:=by
 refine bs [0] [.tmp 2] Tryz.func239 ajW (λbn ag bm=>?_);refine ws _ ?_;refine az ag (λ_ bI a_ _=>?_);refine ws _ ?_;refine bc a_ (λ_ eU bN _ _=>?_);refine ws _ ?_;refine aD h (λcn h=>?_) (λcn h=>?_)
 .refine ws _ ?_;exact au (bN _ (.inl (aw [.int .i64 2])))
 .refine ws _ ?_;refine aD h (λeP h=>?_) (λeP h=>?_)
  .refine ws _ ?_;exact au (bN _ (.inl (aw [.int .i64 1])))
  .refine aI (eU _ (bI _ (.inl ?_)));refine ws _ ?_;exact au (ag _ (.inl (aw [.int .i64 0])))
theorem anx (a0 J a2 r) (h:Jl a0 J a2=some r):aV af 238 [.slice (a0.map ef),.int .i64 J,.int .i64 a2] (.bool r) []:=by
 refine bs [0,1,2] [.tmp 6] Tryz.func238 ajX (λbn ag bm=>?_);refine ws _ ?_;refine az ag (λ_ bI a_ ah=>?_);refine ws _ ?_;refine aD h (λbw h=>?_) (λbw h=>?_)
 .refine ws _ ?_;exact au (a_ _ (.inl (aw [.bool false])))
 .refine aI (bI _ (.inl ?_));refine ws _ ?_;refine az ag (λ_ dn el _=>?_);refine ws _ ?_;refine bc el (λjm _ cb eP _=>?_);show bj af (.loop ?jk) _ _;have jW:∀n jQ um,BU a0 J n jQ um=some r->cF af ?jk jm (aq [(0,.slice (a0.map ef)),(1,.int .i64 J),(7,.int .i64 jQ),(8,.int .i64 um)]):=by
   refine cZ (λ_ jX jQ um h=>cX cb (λ_ b5 cx df=>?_));refine az cx (λ_ eu _ eA=>?_);refine ws _ ?_;refine aD h (λe1 h=>?_) (λe1 h=>?_)
   .refine aI (eu _ (.inl ?_));refine az cx (λ_ ej dL _=>?_);refine bc dL (λ_ fE fK _ _=>?_);refine az fK (λ_ jx lT _=>?_);rcases dc h with⟨hr,h⟩|⟨hr,h⟩
    .refine cR hr _ ?_;refine iU rfl ?_;refine ws _ ?_;exact au (lT _ (.inl (aw [.bool false])))
    .obtain⟨U,gZ,h⟩:=aj h;obtain⟨ah,h1,h⟩:=aj h;refine ea (R hr gZ) (anw U J _ h1) _ ?_;refine aD h (λtd h=>?_) (λtd h=>?_)
     .refine ws _ ?_;exact au (lT _ (.inl (aw [.bool false])))
     .refine aI (jx _ (.inl ?_));obtain⟨aK,h2,h⟩:=aj h;refine Aa gZ (Zc U _ h2) _ ?_;refine fE _ (ej _ (.inl ?_));refine wr _ ?_;exact b5 _ (.inr ⟨_,aW rfl,jX (i64.wrap (jQ+(i64.wrap (aK-1)))) (i64.wrap (um+1)) h⟩)
   .refine cP (eA 0 _ (df 0 _ (eP _ (dn _ (.inl ?_)))));refine ws _ ?_;exact au (ag _ (.inl (aw [.bool (jQ==0)])))
  obtain⟨n,h⟩:=cC h;exact cW (.inr ⟨_,aW rfl,jW n 1 0 h⟩)
theorem anz (a0 J a2 r) (h:sM a0 J a2=some r):aV af 203 [.slice (a0.map bg),.ref (bg J),.int .i64 a2] (.int .i64 r) []:=by
 refine bs [0,1,2] [.tmp 6] Tryz.func203 c203 (λbn ag bm=>?_);refine ws _ ?_;obtain⟨U,aM,h⟩:=aj h;refine cR aM _ ?_;refine az ag (λ_ eU bN bd=>?_);obtain⟨ah,ck,h⟩:=aj h;refine eb (cr [(0,.slice (a0.map bg)),(1,.ref (bg J)),(2,.int .i64 a2),(7,.aQ (ei U)),(19,.bool (!ah))] (λP bq=>?_) ?_)
 .refine dk (anv U _ ck) rfl rfl (by simp only[aN.down,simprocAttr,h8,h9,h_,cS, @bZ _ iY iY (λ_=>QS _)]<;>rfl) rfl (.inr (by rfl)) ?_;simp only[aN.down,simprocAttr];exact b3 trivial
 refine aD h (λnZ h=>?_) (λnZ h=>?_)
 .refine ws _ ?_;exact au (bN _ (.inl (aw [.int .i64 2])))
 .refine aI (eU _ (.inl ?_));refine az ag (λjm cV cb dj=>?_);have Zd:∀FU,BV a0 J a2 U FU=some r->bj af X_ jm (aq [(0,.slice (a0.map bg)),(1,.ref (bg J)),(2,.int .i64 a2),(7,.aQ (ei U)),(28,.bool FU)]):=by
   intro FU h;refine aD h (λeQ h=>?_) (λeQ h=>?_)
   .refine ws _ ?_;exact au (cb _ (.inl (aw [.int .i64 3])))
   .refine aI (cV _ (.inl ?_));refine az ag (λG7 gY mz _=>?_);have G8:∀FT,ur a0 J a2 U FT=some r->bj af Ya G7 (aq [(0,.slice (a0.map bg)),(1,.ref (bg J)),(2,.int .i64 a2),(7,.aQ (ei U)),(51,.bool FT)]):=by
     intro FT h;refine aD h (λe1 h=>?_) (λe1 h=>?_)
     .refine ws _ ?_;exact au (mz _ (.inl (aw [.int .i64 4])))
     .refine aI (gY _ (.inl ?_));refine ws _ ?_;have K_:vT J a2 U=some r->bj af Yd bn (aq [(1,.ref (bg J)),(2,.int .i64 a2),(7,.aQ (ei U)),(8,.int .i64 (U.cL.length:Int))]):=by
       intro h;refine az ag (λRm jz kT _=>?_);have Ae:∀FR,sL J a2 U FR=some r->bj af Yb Rm (aq [(1,.ref (bg J)),(2,.int .i64 a2),(7,.aQ (ei U)),(8,.int .i64 (U.cL.length:Int)),(102,.bool FR)]):=by
        intro FR h;refine aD h (λhr h=>?_) (λhr h=>?_)
        .refine ws _ ?_;exact au (kT _ (.inl (aw [.int .i64 6])))
        .refine aI (jz _ (.inl ?_));obtain⟨aK,h1,h⟩:=aj h;refine cu (Rl J a2 _ h1) _ ?_;refine az ag (λ_ nv my _=>?_);refine mY (U.Kind==4) [(7,.aQ (ei U)),(8,.int .i64 (U.cL.length:Int)),(9,.int .i64 aK),(112,.bool ((U.Kind==4)&&(decide (6<=aK))))] ?_;refine aD h (λhz h=>?_) (λhz h=>?_)
         .refine ws _ ?_;exact au (my _ (.inl (aw [.int .i64 7])))
         .refine aI (nv _ (.inl ?_));refine az ag (λ_ p3 qM _=>?_);refine ws _ ?_;refine bc qM (λRn _ G6 jA _=>?_);have Ro:∀n uo uq,xZ U n uo uq=some r->cF af Yc Rn (aq [(7,.aQ (ei U)),(8,.int .i64 (U.cL.length:Int)),(9,.int .i64 uo),(10,.int .i64 uq)]):=by
           refine cZ (λ_ Rp uo uq h=>cX G6 (λ_ rN te G9=>?_));refine az te (λ_ tf _ Rq=>?_);refine ws _ ?_;refine aD h (λG_ h=>?_) (λG_ h=>?_)
           .refine aI (tf _ (.inl ?_));refine az te (λ_ Rr Ha _=>?_);refine bc Ha (λ_ wE wF _ _=>?_);obtain⟨bd,py,h⟩:=aj h;obtain⟨bo,tg,h⟩:=aj h;refine ea py (anx bd uo 15 _ tg) _ ?_;refine aD h (λHb h=>?_) (λHb h=>?_)
            .refine ws _ ?_;exact au (wF _ (.inl (aw [.int .i64 8])))
            .refine aI (wE _ (Rr _ (.inl ?_)));refine wr _ ?_;exact rN _ (.inr ⟨_,aW rfl,Rp uo (i64.wrap (uq+1)) h⟩)
           .refine cP (Rq 1 _ (G9 1 _ (jA _ (p3 _ (.inl ?_)))));refine ws _ ?_;exact au (ag _ (.inl (aw [.int .i64 0])))
          obtain⟨n,h⟩:=cC h;exact cW (.inr ⟨_,aW rfl,Ro n aK 0 h⟩)
       rcases dc h with⟨Af,h⟩|⟨Af,h⟩
       .rcases dc h with⟨wG,h⟩|⟨wG,h⟩
        .refine l9 (cr (K:=eI _) [(1,.ref (bg J)),(2,.int .i64 a2),(7,.aQ (ei U)),(8,.int .i64 (U.cL.length:Int)),(102,.bool true)] (λP bq=>?_) ?_)
         .simp only[aN.down,simprocAttr,Af,wG];exact b3 (R Af wG)
         exact .inr ⟨_,aW rfl,Ae true h⟩
        .obtain⟨b0,Dp,h⟩:=aj h;refine l9 (cr (K:=eI _) [(1,.ref (bg J)),(2,.int .i64 a2),(7,.aQ (ei U)),(8,.int .i64 (U.cL.length:Int)),(102,.bool (b0.Kind !=1))] (λP bq=>?_) ?_)
         .simp only[aN.down,simprocAttr,Af,wG,Dp];exact b3 (R Af (R wG Dp))
         exact .inr ⟨_,aW rfl,Ae (b0.Kind !=1) h⟩
       .refine l9 (cr (K:=eI _) [(1,.ref (bg J)),(2,.int .i64 a2),(7,.aQ (ei U)),(8,.int .i64 (U.cL.length:Int)),(102,.bool false)] (λP bq=>?_) ?_)
        .simp only[aN.down,simprocAttr,Af];exact b3 Af
        exact .inr ⟨_,aW rfl,Ae false h⟩
      refine az ag (λ_ jx lT _=>?_);refine ws _ ?_;refine bc lT (λ_ p4 rO _ _=>?_);refine ws _ ?_;refine aD h (λRs h=>?_) (λRs h=>?_)
      .refine eb (cr [(1,.ref (bg J)),(2,.int .i64 a2),(7,.aQ (ei U)),(8,.int .i64 (U.cL.length:Int)),(69,.bool ((decide (2<(U.cL.length:Int)))||((decide (0<(U.cL.length:Int)))&&(U.Name==([116,97,117]:azc)))))] (λP bq=>?_) ?_)
       ·(rcases Bool.eq_false_or_eq_true (decide (2<(U.cL.length:Int)))with Rt|Rt)<;>(rcases Bool.eq_false_or_eq_true (decide (0<(U.cL.length:Int)))with Ru|Ru)<;>
         (simp only[aN.down,simprocAttr,Rt,Ru]
          exact b3 (R Rt Ru))
       refine aD h (λanA h=>?_) (λanA h=>?_)
       .refine ws _ ?_;exact au (rO _ (.inl (aw [.int .i64 5])))
       .exact aI (p4 _ (jx _ (.inr ⟨_,aW rfl,K_ h⟩)))
      .refine ws _ ?_;refine aD h (λRv h=>?_) (λRv h=>?_)
       .refine ws _ ?_;refine aD h (λRw h=>?_) (λRw h=>?_)
        .refine ws _ ?_;exact au (rO _ (.inl (aw [.int .i64 5])))
        .exact aI (p4 _ (jx _ (.inr ⟨_,aW rfl,K_ h⟩)))
       .refine ws _ ?_;refine aD h (λAg h=>?_) (λAg h=>?_)
        .obtain⟨br,Rx,h⟩:=aj h;refine cR Rx _ ?_;refine aD h (λanB h=>?_) (λanB h=>?_)
         .refine ws _ ?_;exact au (rO _ (.inl (aw [.int .i64 5])))
         .exact aI (p4 _ (jx _ (.inr ⟨_,aW rfl,K_ h⟩)))
        .exact aI (p4 _ (jx _ (.inr ⟨_,aW rfl,K_ h⟩)))
    rcases dc h with⟨nM,h⟩|⟨nM,h⟩
    .obtain⟨cT,Ry,h⟩:=aj h;rcases dc h with⟨qN,h⟩|⟨qN,h⟩
     .refine l9 (cr (K:=eI _) [(0,.slice (a0.map bg)),(1,.ref (bg J)),(2,.int .i64 a2),(7,.aQ (ei U)),(51,.bool true)] (λP bq=>?_) ?_)
      ·(try simp only[aN.down,simprocAttr,nM,(hf qN)]);refine gB (kx U.Number 1 7 _ Ry) rfl rfl rfl rfl (.inl (by rfl)) ?_;simp only[aN.down,simprocAttr,nM,(hf qN)];exact b3 (R nM (hf qN))
      exact .inr ⟨_,aW rfl,G8 true h⟩
     .rcases dc h with⟨yi,h⟩|⟨yi,h⟩
      .obtain⟨dj,yj,h⟩:=aj h;refine l9 (cr (K:=eI _) [(0,.slice (a0.map bg)),(1,.ref (bg J)),(2,.int .i64 a2),(7,.aQ (ei U)),(51,.bool (!dj))] (λP bq=>?_) ?_)
       ·(try simp only[aN.down,simprocAttr,nM,(b6 qN),yi]);refine gB (kx U.Number 1 7 _ Ry) rfl rfl rfl rfl (.inl (by rfl)) ?_;simp only[aN.down,simprocAttr,nM,(b6 qN),yi];refine gB (kx U.Number 0 (i64.wrap ((a0.length:Int)-1)) _ yj) rfl rfl rfl rfl (.inl (by rfl)) ?_;simp only[aN.down,simprocAttr,nM,(b6 qN),yi];exact b3 (R nM (R (b6 qN) yi))
       exact .inr ⟨_,aW rfl,G8 (!dj) h⟩
      .refine l9 (cr (K:=eI _) [(0,.slice (a0.map bg)),(1,.ref (bg J)),(2,.int .i64 a2),(7,.aQ (ei U)),(51,.bool false)] (λP bq=>?_) ?_)
       ·(try simp only[aN.down,simprocAttr,nM,(b6 qN),yi]);refine gB (kx U.Number 1 7 _ Ry) rfl rfl rfl rfl (.inl (by rfl)) ?_;simp only[aN.down,simprocAttr,nM,(b6 qN),yi];exact b3 (R nM (R (b6 qN) yi))
       exact .inr ⟨_,aW rfl,G8 false h⟩
    .rcases dc h with⟨Dq,h⟩|⟨Dq,h⟩
     .obtain⟨df,Rz,h⟩:=aj h;refine l9 (cr (K:=eI _) [(0,.slice (a0.map bg)),(1,.ref (bg J)),(2,.int .i64 a2),(7,.aQ (ei U)),(51,.bool (!df))] (λP bq=>?_) ?_)
      ·(try simp only[aN.down,simprocAttr,nM,Dq]);refine gB (kx U.Number 0 (i64.wrap ((a0.length:Int)-1)) _ Rz) rfl rfl rfl rfl (.inl (by rfl)) ?_;simp only[aN.down,simprocAttr,nM,Dq];exact b3 (R nM Dq)
      exact .inr ⟨_,aW rfl,G8 (!df) h⟩
     .refine l9 (cr (K:=eI _) [(0,.slice (a0.map bg)),(1,.ref (bg J)),(2,.int .i64 a2),(7,.aQ (ei U)),(51,.bool false)] (λP bq=>?_) ?_)
      .simp only[aN.down,simprocAttr,nM,Dq];exact b3 (R nM Dq)
      exact .inr ⟨_,aW rfl,G8 false h⟩
  rcases dc h with⟨Dr,h⟩|⟨Dr,h⟩
  .obtain⟨eA,anC,h⟩:=aj h;refine l9 (cr (K:=eI _) [(0,.slice (a0.map bg)),(1,.ref (bg J)),(2,.int .i64 a2),(7,.aQ (ei U)),(28,.bool (!eA))] (λP bq=>?_) ?_)
   ·(try simp only[aN.down,simprocAttr,Dr]);refine gB (Dn U.Name _ anC) rfl rfl rfl rfl (.inl (by rfl)) ?_;simp only[aN.down,simprocAttr,Dr];exact b3 Dr
   exact .inr ⟨_,aW rfl,Zd (!eA) h⟩
  .refine l9 (cr (K:=eI _) [(0,.slice (a0.map bg)),(1,.ref (bg J)),(2,.int .i64 a2),(7,.aQ (ei U)),(28,.bool false)] (λP bq=>?_) ?_)
   .simp only[aN.down,simprocAttr,Dr];exact b3 Dr
   exact .inr ⟨_,aW rfl,Zd false h⟩
theorem anD (a0 J r) (h:vV a0 J=some r):aV af 167 [.slice (a0.map bg),.ref (bg J)] (.tuple [.int .i64 r.1,.int .i64 r.2]) []:=by
 refine bs [0,1] [.tmp 4,.tmp 5] Tryz.func167 c167 (λbn ag bm=>?_);refine ws _ ?_;refine az ag (λ_ bI a_ ah=>?_);obtain⟨U,bT,h⟩:=aj h;refine cu (anu J.Body _ bT) _ ?_;refine aD h (λcI h=>?_) (λcI h=>?_)
 .refine ws _ ?_;exact au (a_ _ (.inl (aw [.int .i64 0,.int .i64 1])))
 .refine aI (bI _ (.inl ?_));refine az ag (λ_ dn el _=>?_);refine ws _ ?_;refine bc el (λjm _ cb eP _=>?_);show bj af (.loop ?gw) _ _;have gM:∀n qs,vU a0 J n qs=some r->cF af ?gw jm (aq [(0,.slice (a0.map bg)),(1,.ref (bg J)),(6,.int .i64 qs)]):=by
   refine cZ (λ_ gx qs h=>cX cb (λ_ b5 cx df=>?_));refine az cx (λ_ eu _ eA=>?_);refine ws _ ?_;refine aD h (λe1 h=>?_) (λe1 h=>?_)
   .refine aI (eu _ (.inl ?_));refine az cx (λ_ ej dL _=>?_);refine bc dL (λ_ fE fK _ _=>?_);obtain⟨ah,dI,h⟩:=aj h;refine cu (anz a0 J qs _ dI) _ ?_;refine ws _ ?_;refine aD h (λfF h=>?_) (λfF h=>?_)
    .refine ws _ ?_;exact au (fK _ (.inl (aw [.int .i64 qs,.int .i64 ah])))
    .refine aI (fE _ (ej _ (.inl ?_)));refine wr _ ?_;exact b5 _ (.inr ⟨_,aW rfl,gx (i64.wrap (qs+1)) h⟩)
   .refine cP (eA 0 _ (df 0 _ (eP _ (dn _ (.inl ?_)))));refine ws _ ?_;exact au (ag _ (.inl (aw [.int .i64 0,.int .i64 0])))
  obtain⟨n,h⟩:=cC h;exact cW (.inr ⟨_,aW rfl,gM n 0 h⟩)
theorem anE (a0 r) (h:Jm a0=some r):aV af 120 [.slice (a0.map bg)] (.bool r) []:=by
 refine bs [0] [.tmp 2] Tryz.func120 aj1 (λbn ag bm=>?_);refine ws _ ?_;refine az ag (λ_ bI a_ ah=>?_);refine mY ((a0.length:Int)==0) [(0,.slice (a0.map bg)),(15,.bool (((a0.length:Int)==0)||(decide (4<(a0.length:Int)))))] ?_;refine aD h (λbw h=>?_) (λbw h=>?_)
 .refine ws _ ?_;exact au (a_ _ (.inl (aw [.bool false])))
 .refine aI (bI _ (.inl ?_));refine az ag (λ_ db cO b0=>?_);refine ws _ ?_;refine bc cO (λim _ gK bW _=>?_);show bj af (.loop ?gw) _ _;have gM:∀n eo,vW a0 n eo=some r->cF af ?gw im (aq [(0,.slice (a0.map bg)),(3,.int .i64 eo)]):=by
   refine cZ (λm14 gx eo h=>cX gK (λ_ cV cb dj=>?_));refine az cb (λ_ b5 _ df=>?_);refine ws _ ?_;refine aD h (λeV h=>?_) (λeV h=>?_)
   .refine aI (b5 _ (.inl ?_));refine az cb (λ_ fb e5 _=>?_);refine bc e5 (λ_ ej dL _ _=>?_);refine az dL (λ_ fE fK _=>?_);obtain⟨U,dI,h⟩:=aj h;obtain⟨ah,eT,h⟩:=aj h;rcases dc h with⟨fF,h⟩|⟨fF,h⟩
    .refine ea (R dI (hf fF)) (Dn U.Name _ eT) _ ?_;refine iU rfl ?_;refine ws _ ?_;exact au (fK _ (.inl (aw [.bool false])))
    .obtain⟨aK,h1,h⟩:=aj h;refine eb (cr [(0,.slice (a0.map bg)),(3,.int .i64 eo),(37,.bool (!aK))] (λP bq=>?_) ?_)
     ·(try simp only[aN.down,simprocAttr,dI,(b6 fF)]);refine dk (Dn U.Name _ eT) rfl rfl rfl rfl (.inl (by rfl)) ?_;simp only[aN.down,simprocAttr,dI,(b6 fF)];refine gB (kx U.ek 0 3 _ h1) rfl rfl rfl rfl (.inl (by rfl)) ?_;simp only[aN.down,simprocAttr,dI,(b6 fF)];exact b3 (R dI (b6 fF))
     refine aD h (λtd h=>?_) (λtd h=>?_)
     .refine ws _ ?_;exact au (fK _ (.inl (aw [.bool false])))
     .refine aI (fE _ (.inl ?_));refine ws _ ?_;refine bc dL (λRA _ p5 ot _=>?_);show bj af (.loop ?G4) _ _;have RB:∀n re uu,BW (vW a0 m14) a0 n re uu=some r->cF af ?G4 RA (aq [(0,.slice (a0.map bg)),(3,.int .i64 re),(4,.int .i64 uu)]):=by
       refine cZ (λ_ RC re uu h=>cX p5 (λ_ p3 qM rl=>?_));refine az qM (λ_ Hc _ uC=>?_);refine ws _ ?_;refine aD h (λiq h=>?_) (λiq h=>?_)
       .refine aI (Hc _ (.inl ?_));refine az qM (λ_ tf Hd _=>?_);refine bc Hd (λ_ RD RE _ _=>?_);obtain⟨bd,lU,h⟩:=aj h;obtain⟨bo,jo,h⟩:=aj h;refine oT (R lU jo) _ ?_;refine aD h (λAh h=>?_) (λAh h=>?_)
        .refine ws _ ?_;exact au (RE _ (.inl (aw [.bool false])))
        .refine aI (RD _ (tf _ (.inl ?_)));refine wr _ ?_;exact p3 _ (.inr ⟨_,aW rfl,RC re (i64.wrap (uu+1)) h⟩)
       .refine cP (uC 2 _ (rl 2 _ (ot _ (ej _ (fb _ (.inl ?_))))));refine wr _ ?_;exact cV _ (.inr ⟨_,aW rfl,gx (i64.wrap (re+1)) h⟩)
      obtain⟨n,h⟩:=cC h;exact cW (.inr ⟨_,aW rfl,RB n eo 0 h⟩)
   .refine cP (df 0 _ (dj 0 _ (bW _ (db _ (.inl ?_)))));refine az ag (λ_ wH yk _=>?_);refine ws _ ?_;refine bc yk (λHe _ va wI _=>?_);show bj af (.loop ?QX) _ _;have Hf:∀n uv,zw a0 n uv=some r->cF af ?QX He (aq [(0,.slice (a0.map bg)),(5,.int .i64 uv)]):=by
     refine cZ (λ_ Hg uv h=>cX va (λ_ Ai yl Aj=>?_));refine az yl (λ_ RF _ anF=>?_);refine ws _ ?_;refine aD h (λAk h=>?_) (λAk h=>?_)
     .refine aI (RF _ (.inl ?_));refine az yl (λ_ Al wJ _=>?_);refine bc wJ (λ_ p4 rO _ _=>?_);obtain⟨b0,th,h⟩:=aj h;obtain⟨br,Hh,h⟩:=aj h;refine ea th (anD a0 b0 _ Hh) _ ?_;refine ws _ ?_;refine aD h (λRG h=>?_) (λRG h=>?_)
      .refine ws _ ?_;exact au (rO _ (.inl (aw [.bool false])))
      .refine aI (p4 _ (Al _ (.inl ?_)));refine wr _ ?_;exact Ai _ (.inr ⟨_,aW rfl,Hg (i64.wrap (uv+1)) h⟩)
     .refine cP (anF 4 _ (Aj 4 _ (wI _ (wH _ (.inl ?_)))));refine ws _ ?_;exact au (ag _ (.inl (aw [.bool true])))
    obtain⟨n,h⟩:=cC h;exact cW (.inr ⟨_,aW rfl,Hf n 0 h⟩)
  obtain⟨n,h⟩:=cC h;exact cW (.inr ⟨_,aW rfl,gM n 0 h⟩)
theorem Ze (a0 r) (h:FW a0=some r):aV af 125 [.slice (a0.map a1)] (.bool r) []:=by
 refine bs [0] [.tmp 2] Tryz.func125 aj2 (λbn ag bm=>?_);refine ws _ ?_;refine az ag (λ_ bI a_ ah=>?_);refine ws _ ?_;refine bc a_ (λfy _ bN bw _=>?_);show bj af (.loop ?ft) _ _;have fV:∀n iy,BX a0 n iy=some r->cF af ?ft fy (aq [(0,.slice (a0.map a1)),(3,.int .i64 iy)]):=by
  refine cZ (λ_ fl iy h=>cX bN (λ_ dZ c6 bo=>?_));refine az c6 (λ_ db _ b0=>?_);refine ws _ ?_;refine aD h (λbW h=>?_) (λbW h=>?_)
  .refine aI (db _ (.inl ?_));refine az c6 (λ_ cV cb _=>?_);refine bc cb (λ_ b5 cx _ _=>?_);obtain⟨U,eJ,h⟩:=aj h;obtain⟨ah,e0,h⟩:=aj h;refine ea eJ (kx U 0 63 _ e0) _ ?_;refine aD h (λgL h=>?_) (λgL h=>?_)
   .refine ws _ ?_;exact au (cx _ (.inl (aw [.bool false])))
   .refine aI (b5 _ (cV _ (.inl ?_)));refine wr _ ?_;exact dZ _ (.inr ⟨_,aW rfl,fl (i64.wrap (iy+1)) h⟩)
  .refine cP (b0 0 _ (bo 0 _ (bw _ (bI _ (.inl ?_)))));refine ws _ ?_;exact au (ag _ (.inl (aw [.bool true])))
 obtain⟨n,h⟩:=cC h;exact cW (.inr ⟨_,aW rfl,fV n 0 h⟩)
theorem anG (a0 r) (h:Jn a0=some r):aV af 121 [.ref (fk a0)] (.bool r) []:=by
 refine bs [0] [.tmp 2] Tryz.func121 aj3 (λbn ag bm=>?_);refine ws _ ?_;refine az ag (λ_ bI a_ ah=>?_);refine mY ((a0.cg.length:Int)==0) [(0,.ref (fk a0)),(18,.bool (((a0.cg.length:Int)==0)||(decide (3<(a0.cg.length:Int)))))] ?_;refine aD h (λbw h=>?_) (λbw h=>?_)
 .refine ws _ ?_;exact au (a_ _ (.inl (aw [.bool false])))
 .refine aI (bI _ (.inl ?_));refine az ag (λ_ db cO _=>?_);refine ws _ ?_;refine bc cO (λim _ gK bW _=>?_);show bj af (.loop ?gw) _ _;have gM:∀n eo,BZ a0 n eo=some r->cF af ?gw im (aq [(0,.ref (fk a0)),(3,.int .i64 eo)]):=by
   refine cZ (λ_ gx eo h=>cX gK (λ_ cV cb dj=>?_));refine az cb (λ_ b5 _ df=>?_);refine ws _ ?_;refine aD h (λeV h=>?_) (λeV h=>?_)
   .refine aI (b5 _ (.inl ?_));refine az cb (λ_ fb e5 _=>?_);refine bc e5 (λ_ ej dL _ _=>?_);obtain⟨U,cp,h⟩:=aj h;refine cR cp _ ?_;refine az dL (λ_ jz kT _=>?_);obtain⟨ah,gb,h⟩:=aj h;refine am1 (kx U.cE 0 (i64.wrap ((a0.cw.length:Int)-1)) _ gb) _ ?_;refine aD h (λga h=>?_) (λga h=>?_)
    .refine ws _ ?_;exact au (kT _ (.inl (aw [.bool false])))
    .refine aI (jz _ (.inl ?_));obtain⟨aK,iA,h⟩:=aj h;rcases dc h with⟨hz,h⟩|⟨hz,h⟩
     .refine oT (R iA hz) _ ?_;refine iU rfl ?_;refine ws _ ?_;exact au (dL _ (.inl (aw [.bool false])))
     .obtain⟨bd,ti,h⟩:=aj h;refine lS (R iA hz) (Ze U.bV _ ti) _ ?_;refine aD h (λou h=>?_) (λou h=>?_)
      .refine ws _ ?_;exact au (dL _ (.inl (aw [.bool false])))
      .refine aI (ej _ (fb _ (.inl ?_)));refine wr _ ?_;exact cV _ (.inr ⟨_,aW rfl,gx (i64.wrap (eo+1)) h⟩)
   .refine cP (df 0 _ (dj 0 _ (bW _ (db _ (.inl ?_)))));refine ws _ ?_;exact au (ag _ (.inl (aw [.bool true])))
  obtain⟨n,h⟩:=cC h;exact cW (.inr ⟨_,aW rfl,gM n 0 h⟩)
theorem rP (a0 r) (h:rf a0=some r):aV af 132 [.str a0] (.bool r) []:=by
 refine bs [0] [.tmp 2] Tryz.func132 aj4 (λbn ag bm=>?_);refine ws _ ?_;obtain⟨U,aM,h⟩:=aj h;refine eb (cr [(2,.bool (U&&(!(a0==([116,97,117]:azc)))))] (λP bq=>?_) ?_)
 .rcases Bool.eq_false_or_eq_true (U)with mM|mM
  ·(try simp only[aN.down,simprocAttr,mM]);refine dk (Dn a0 _ aM) rfl rfl rfl rfl (.inl (by rfl)) ?_;simp only[aN.down,simprocAttr,mM];exact b3 mM
  ·(try simp only[aN.down,simprocAttr,mM]);refine dk (Dn a0 _ aM) rfl rfl rfl rfl (.inl (by rfl)) ?_;simp only[aN.down,simprocAttr,mM];exact b3 mM
 exact au (ag _ (.inl (aw [.bool (U&&(!(a0==([116,97,117]:azc))))])))
theorem anH (a0 r) (h:Jo a0=some r):aV af 122 [.slice (a0.map bS)] (.bool r) []:=by
 refine bs [0] [.tmp 2] Tryz.func122 aj5 (λbn ag bm=>?_);refine ws _ ?_;refine az ag (λ_ bI a_ ah=>?_);refine ws _ ?_;refine aD h (λbw h=>?_) (λbw h=>?_)
 .refine ws _ ?_;exact au (a_ _ (.inl (aw [.bool false])))
 .refine aI (bI _ (.inl ?_));refine az ag (λ_ db cO b0=>?_);refine ws _ ?_;refine bc cO (λim _ gK bW _=>?_);show bj af (.loop ?gw) _ _;have gM:∀n eo,sN a0 n eo=some r->cF af ?gw im (aq [(0,.slice (a0.map bS)),(3,.int .i64 eo)]):=by
   refine cZ (λm14 gx eo h=>cX gK (λ_ cV cb dj=>?_));refine az cb (λ_ b5 _ df=>?_);refine ws _ ?_;refine aD h (λeV h=>?_) (λeV h=>?_)
   .refine aI (b5 _ (.inl ?_));refine az cb (λ_ fb e5 _=>?_);refine bc e5 (λ_ ej dL _ _=>?_);obtain⟨U,cp,h⟩:=aj h;refine cR cp _ ?_;refine az dL (λ_ jz kT _=>?_);obtain⟨ah,gb,h⟩:=aj h;rcases dc h with⟨ga,h⟩|⟨ga,h⟩
    .refine ea (hf ga) (rP U.Left _ gb) _ ?_;refine iU rfl ?_;refine ws _ ?_;exact au (kT _ (.inl (aw [.bool false])))
    .obtain⟨aK,gN,h⟩:=aj h;rcases dc h with⟨gg,h⟩|⟨gg,h⟩
     .refine eb (cr [(0,.slice (a0.map bS)),(3,.int .i64 eo),(4,.aQ (bS U)),(41,.bool true)] (λP bq=>?_) ?_)
      ·(try simp only[aN.down,simprocAttr,(b6 ga),(hf gg)]);refine dk (rP U.Left _ gb) rfl rfl rfl rfl (.inl (by rfl)) ?_;simp only[aN.down,simprocAttr,(b6 ga),(hf gg)];refine gB (rP U.cY _ gN) rfl rfl rfl rfl (.inl (by rfl)) ?_;simp only[aN.down,simprocAttr,(b6 ga),(hf gg)];exact b3 (R (b6 ga) (hf gg))
      refine iU rfl ?_;refine ws _ ?_;exact au (kT _ (.inl (aw [.bool false])))
     .obtain⟨bd,h2,h⟩:=aj h;refine eb (cr [(0,.slice (a0.map bS)),(3,.int .i64 eo),(4,.aQ (bS U)),(41,.bool ((!bd)||(!(Op.bytesLess U.Left U.cY||U.Left==U.cY))))] (λP bq=>?_) ?_)
      .rcases Bool.eq_false_or_eq_true (bd)with tj|tj
       ·(try simp only[aN.down,simprocAttr,(b6 ga),(b6 gg),tj]);refine dk (rP U.Left _ gb) rfl rfl rfl rfl (.inl (by rfl)) ?_;simp only[aN.down,simprocAttr,(b6 ga),(b6 gg),tj];refine gB (rP U.cY _ gN) rfl rfl rfl rfl (.inl (by rfl)) ?_;simp only[aN.down,simprocAttr,(b6 ga),(b6 gg),tj];refine gB (rP U.Result _ h2) rfl rfl rfl rfl (.inl (by rfl)) ?_;simp only[aN.down,simprocAttr,(b6 ga),(b6 gg),tj];exact b3 (R (b6 ga) (R (b6 gg) tj))
       ·(try simp only[aN.down,simprocAttr,(b6 ga),(b6 gg),tj]);refine dk (rP U.Left _ gb) rfl rfl rfl rfl (.inl (by rfl)) ?_;simp only[aN.down,simprocAttr,(b6 ga),(b6 gg),tj];refine gB (rP U.cY _ gN) rfl rfl rfl rfl (.inl (by rfl)) ?_;simp only[aN.down,simprocAttr,(b6 ga),(b6 gg),tj];refine gB (rP U.Result _ h2) rfl rfl rfl rfl (.inl (by rfl)) ?_;simp only[aN.down,simprocAttr,(b6 ga),(b6 gg),tj];exact b3 (R (b6 ga) (R (b6 gg) tj))
      refine aD h (λou h=>?_) (λou h=>?_)
      .refine ws _ ?_;exact au (kT _ (.inl (aw [.bool false])))
      .refine aI (jz _ (.inl ?_));refine az dL (λ_ rN te _=>?_);rcases dc h with⟨g_,h⟩|⟨g_,h⟩
       .obtain⟨bo,tk,h⟩:=aj h;refine iT rfl (h7 [(0,.slice (a0.map bS)),(3,.int .i64 eo),(4,.aQ (bS U)),(76,.bool ((!(Op.bytesLess bo.Left U.Left||bo.Left==U.Left))||((bo.Left==U.Left)&&(!(Op.bytesLess bo.cY U.cY)))))] (λP bq=>?_) ?_)
        ·(rcases Bool.eq_false_or_eq_true (Op.bytesLess bo.Left U.Left)with RH|RH)<;>(rcases Bool.eq_false_or_eq_true (bo.Left==U.Left)with RI|RI)<;>
          (simp only[cU.down,simprocAttr,g_,tk,RH,RI]
           refine⟨hE (by kernel_rfl),?_⟩;exact b3 (R g_ (R tk (R RH RI))))
        refine aD h (λAh h=>?_) (λAh h=>?_)
        .refine ws _ ?_;exact au (te _ (.inl (aw [.bool false])))
        .refine aI (rN _ (.inl ?_));refine ws _ ?_;refine bc dL (λanI _ Hi Hb _=>?_);show bj af (.loop ?G3) _ _;have RJ:∀n nG oc,vX (sN a0 m14) a0 U n nG oc=some r->cF af ?G3 anI (aq [(0,.slice (a0.map bS)),(3,.int .i64 nG),(4,.aQ (bS U)),(5,.int .i64 oc)]):=by
          refine cZ (λanJ RK nG oc h=>cX Hi (λ_ wH yk anK=>?_));refine az yk (λ_ anL _ anM=>?_);refine ws _ ?_;refine aD h (λRL h=>?_) (λRL h=>?_)
          .refine aI (anL _ (.inl ?_));refine az yk (λ_ RF anN _=>?_);refine bc anN (λ_ vb RM _ _=>?_);obtain⟨b0,RN,h⟩:=aj h;refine YV (b0.Left==U.Result) RN [(0,.slice (a0.map bS)),(3,.int .i64 nG),(4,.aQ (bS U)),(5,.int .i64 oc),(100,.bool ((b0.Left==U.Result)||(b0.cY==U.Result)))] ?_;refine aD h (λanO h=>?_) (λanO h=>?_)
           .refine ws _ ?_;exact au (RM _ (.inl (aw [.bool false])))
           .refine aI (vb _ (RF _ (.inl ?_)));refine wr _ ?_;exact wH _ (.inr ⟨_,aW rfl,RK nG (i64.wrap (oc+1)) h⟩)
          .refine cP (anM 2 _ (anK 2 _ (Hb _ (ej _ (fb _ (.inl ?_))))));refine wr _ ?_;exact cV _ (.inr ⟨_,aW rfl,gx (i64.wrap (nG+1)) h⟩)
         obtain⟨n,h⟩:=cC h;exact cW (.inr ⟨_,aW rfl,RJ n eo 0 h⟩)
       .refine oT g_ _ ?_;refine n4 rfl ?_;refine aI (rN _ (.inl ?_));refine ws _ ?_;refine bc dL (λanP _ anQ RG _=>?_);show bj af (.loop ?G3) _ _;have RJ:∀n nG oc,vX (sN a0 m14) a0 U n nG oc=some r->cF af ?G3 anP (aq [(0,.slice (a0.map bS)),(3,.int .i64 nG),(4,.aQ (bS U)),(5,.int .i64 oc)]):=by
         refine cZ (λanJ RK nG oc h=>cX anQ (λ_ anR Zf anS=>?_));refine az Zf (λ_ anT _ anU=>?_);refine ws _ ?_;refine aD h (λRv h=>?_) (λRv h=>?_)
         .refine aI (anT _ (.inl ?_));refine az Zf (λ_ anV anW _=>?_);refine bc anW (λ_ anX anY _ _=>?_);obtain⟨br,tl,h⟩:=aj h;refine YV (br.Left==U.Result) tl [(0,.slice (a0.map bS)),(3,.int .i64 nG),(4,.aQ (bS U)),(5,.int .i64 oc),(100,.bool ((br.Left==U.Result)||(br.cY==U.Result)))] ?_;refine aD h (λAg h=>?_) (λAg h=>?_)
          .refine ws _ ?_;exact au (anY _ (.inl (aw [.bool false])))
          .refine aI (anX _ (anV _ (.inl ?_)));refine wr _ ?_;exact anR _ (.inr ⟨_,aW rfl,RK nG (i64.wrap (oc+1)) h⟩)
         .refine cP (anU 2 _ (anS 2 _ (RG _ (ej _ (fb _ (.inl ?_))))));refine wr _ ?_;exact cV _ (.inr ⟨_,aW rfl,gx (i64.wrap (nG+1)) h⟩)
        obtain⟨n,h⟩:=cC h;exact cW (.inr ⟨_,aW rfl,RJ n eo 0 h⟩)
   .refine cP (df 0 _ (dj 0 _ (bW _ (db _ (.inl ?_)))));refine ws _ ?_;exact au (ag _ (.inl (aw [.bool true])))
  obtain⟨n,h⟩:=cC h;exact cW (.inr ⟨_,aW rfl,gM n 0 h⟩)
theorem anZ (a0 r) (h:Jp a0=some r):aV af 168 [.slice (a0.map aX)] (.bool r) []:=by
 refine bs [0] [.tmp 2] Tryz.func168 c168 (λbn ag bm=>?_);refine ws _ ?_;refine az ag (λ_ bI a_ ah=>?_);refine ws _ ?_;refine bc a_ (λfy _ bN bw _=>?_);show bj af (.loop ?ft) _ _;have fV:∀n iy,B0 a0 n iy=some r->cF af ?ft fy (aq [(0,.slice (a0.map aX)),(3,.int .i64 iy)]):=by
  refine cZ (λ_ fl iy h=>cX bN (λ_ dZ c6 bo=>?_));refine az c6 (λ_ db _ b0=>?_);refine ws _ ?_;refine aD h (λbW h=>?_) (λbW h=>?_)
  .refine aI (db _ (.inl ?_));refine az c6 (λ_ cV cb _=>?_);refine bc cb (λ_ b5 cx _ _=>?_);obtain⟨U,eJ,h⟩:=aj h;obtain⟨ah,e0,h⟩:=aj h;refine ea eJ (rP U _ e0) _ ?_;refine aD h (λgL h=>?_) (λgL h=>?_)
   .refine ws _ ?_;exact au (cx _ (.inl (aw [.bool false])))
   .refine aI (b5 _ (cV _ (.inl ?_)));refine wr _ ?_;exact dZ _ (.inr ⟨_,aW rfl,fl (i64.wrap (iy+1)) h⟩)
  .refine cP (b0 0 _ (bo 0 _ (bw _ (bI _ (.inl ?_)))));refine ws _ ?_;exact au (ag _ (.inl (aw [.bool true])))
 obtain⟨n,h⟩:=cC h;exact cW (.inr ⟨_,aW rfl,fV n 0 h⟩)
theorem Zg (a0 r) (h:FX a0=some r):aV af 123 [.slice (a0.map aX)] (.bool r) []:=by
 refine bs [0] [.tmp 2] Tryz.func123 aj6 (λbn ag bm=>?_);refine ws _ ?_;refine az ag (λ_ bI a_ ah=>?_);rcases dc h with⟨bw,h⟩|⟨bw,h⟩
 .refine cR bw _ ?_;refine iU rfl ?_;refine ws _ ?_;exact au (a_ _ (.inl (aw [.bool false])))
 .obtain⟨U,ck,h⟩:=aj h;refine ea bw (anZ a0 _ ck) _ ?_;refine aD h (λnZ h=>?_) (λnZ h=>?_)
  .refine ws _ ?_;exact au (a_ _ (.inl (aw [.bool false])))
  .refine aI (bI _ (.inl ?_));refine az ag (λ_ cV cb _=>?_);refine ws _ ?_;refine bc cb (λan0 _ hM nu _=>?_);show bj af (.loop ?gw) _ _;have gM:∀n eo,rh a0 n eo=some r->cF af ?gw an0 (aq [(0,.slice (a0.map aX)),(3,.int .i64 eo)]):=by
    refine cZ (λ_ gx eo h=>cX hM (λ_ gY mz kq=>?_));refine az mz (λ_ fb _ lM=>?_);refine ws _ ?_;refine aD h (λeB h=>?_) (λeB h=>?_)
    .refine aI (fb _ (.inl ?_));refine az mz (λ_ jx lT _=>?_);refine bc lT (λ_ jz kT _ _=>?_);obtain⟨ah,gb,h⟩:=aj h;obtain⟨aK,gZ,h⟩:=aj h;refine oT (R gb gZ) _ ?_;refine aD h (λrQ h=>?_) (λrQ h=>?_)
     .refine ws _ ?_;exact au (kT _ (.inl (aw [.bool false])))
     .refine aI (jz _ (jx _ (.inl ?_)));refine wr _ ?_;exact gY _ (.inr ⟨_,aW rfl,gx (i64.wrap (eo+1)) h⟩)
    .refine cP (lM 0 _ (kq 0 _ (nu _ (cV _ (.inl ?_)))));refine ws _ ?_;exact au (ag _ (.inl (aw [.bool true])))
   obtain⟨n,h⟩:=cC h;exact cW (.inr ⟨_,aW rfl,gM n 1 h⟩)
theorem an1 (a0 r) (h:Jr a0=some r):aV af 86 [.ref (fk a0)] (.int .i64 r) []:=by
 refine bs [0] [.tmp 2] Tryz.func86 aj7 (λbn ag bm=>?_);refine ws _ ?_;refine az ag (λ_ bI a_ ah=>?_);obtain⟨U,bT,h⟩:=aj h;refine cu (anE a0.cw _ bT) _ ?_;refine aD h (λcI h=>?_) (λcI h=>?_)
 .refine ws _ ?_;exact au (a_ _ (.inl (aw [.int .i64 1])))
 .refine aI (bI _ (.inl ?_));refine az ag (λ_ dn el _=>?_);obtain⟨ah,iH,h⟩:=aj h;refine cu (anG a0 _ iH) _ ?_;refine aD h (λeQ h=>?_) (λeQ h=>?_)
  .refine ws _ ?_;exact au (el _ (.inl (aw [.int .i64 2])))
  .refine aI (dn _ (.inl ?_));refine az ag (λ_ gY mz _=>?_);obtain⟨aK,dp,h⟩:=aj h;refine cu (anH a0.b8 _ dp) _ ?_;refine aD h (λeB h=>?_) (λeB h=>?_)
   .refine ws _ ?_;exact au (mz _ (.inl (aw [.int .i64 3])))
   .refine aI (gY _ (.inl ?_));refine az ag (λ_ jz kT _=>?_);obtain⟨bd,gb,h⟩:=aj h;refine cu (Zg a0.cB _ gb) _ ?_;refine aD h (λga h=>?_) (λga h=>?_)
    .refine ws _ ?_;exact au (kT _ (.inl (aw [.int .i64 4])))
    .refine aI (jz _ (.inl ?_));refine az ag (λ_ nv my _=>?_);obtain⟨bo,lx,h⟩:=aj h;refine cu (Zg a0.cy _ lx) _ ?_;refine aD h (λot h=>?_) (λot h=>?_)
     .refine ws _ ?_;exact au (my _ (.inl (aw [.int .i64 5])))
     .refine aI (nv _ (.inl ?_));refine ws _ ?_;exact au (ag _ (.inl (aw [.int .i64 0])))
theorem Zh (a0 r) (h:Js a0=some r):aV af 47 [.ref (fk a0)] (.bool r) []:=by
 refine bs [0] [.tmp 2] Tryz.func47 aj8 (λbn ag bm=>?_);refine ws _ ?_;obtain⟨U,aM,h⟩:=aj h;refine cu (an1 a0 _ aM) _ ?_;exact au (ag _ (.inl (aw [.bool (U==0)])))
theorem an2 (a0 J r) (h:sO a0 J=some r):aV af 87 [.slice (a0.map bg),.ref (bC J)] (.bool r) []:=by
 refine bs [0,1] [.tmp 4] Tryz.func87 c87 (λbn ag bm=>?_);refine ws _ ?_;refine az ag (λ_ bI a_ ah=>?_);obtain⟨U,bT,h⟩:=aj h;refine cu (kx J.cE 0 (i64.wrap ((a0.length:Int)-1)) _ bT) _ ?_;refine aD h (λcI h=>?_) (λcI h=>?_)
 .refine ws _ ?_;exact au (a_ _ (.inl (aw [.bool false])))
 .refine aI (bI _ (.inl ?_));obtain⟨ah,fh,h⟩:=aj h;refine cR fh _ ?_;refine az ag (λ_ cV cb _=>?_);obtain⟨aK,kg,h⟩:=aj h;rcases dc h with⟨eV,h⟩|⟨eV,h⟩
  .refine lS (hf eV) (kx J.Part 0 (i64.wrap ((ah.Body.length:Int)-1)) _ kg) _ ?_;refine iU rfl ?_;refine ws _ ?_;exact au (cb _ (.inl (aw [.bool false])))
  .obtain⟨bd,dp,h⟩:=aj h;refine lS (R (b6 eV) dp) (kx J.Part 0 (i64.wrap ((ah.Body.length:Int)-1)) _ kg) _ ?_;refine aD h (λeB h=>?_) (λeB h=>?_)
   .refine ws _ ?_;exact au (cb _ (.inl (aw [.bool false])))
   .refine aI (cV _ (.inl ?_));obtain⟨bo,eT,h⟩:=aj h;rcases dc h with⟨fF,h⟩|⟨fF,h⟩
    .obtain⟨b0,gZ,h⟩:=aj h;refine iT rfl (h7 [(4,.bool b0)] (λP bq=>?_) ?_)
     ·(try simp only[cU.down,simprocAttr,fF]);refine hx (Rl ah J.Part _ eT) rfl rfl (by simp only[cU.down,simprocAttr,fF,YW.down]<;>rfl) rfl (.inr (by rfl)) ?_;simp only[cU.down,simprocAttr,fF];refine lI (Ze J.bV _ gZ) rfl rfl rfl rfl (.inl (by rfl)) ?_;simp only[cU.down,simprocAttr,fF];refine⟨hE (by kernel_rfl),?_⟩;exact b3 fF
     exact au (ag _ (.inl (aw [.bool b0])))
    .refine iT rfl (h7 [(4,.bool false)] (λP bq=>?_) ?_)
     ·(try simp only[cU.down,simprocAttr,fF]);refine hx (Rl ah J.Part _ eT) rfl rfl (by simp only[cU.down,simprocAttr,fF,YW.down]<;>rfl) rfl (.inr (by rfl)) ?_;simp only[cU.down,simprocAttr,fF];refine⟨hE (by kernel_rfl),?_⟩;exact b3 fF
     exact au (ag _ (.inl (aw [.bool false])))
theorem an3 (a0 J r) (h:Jt a0 J=some r):aV af 48 [.ref (fk a0),.slice (J.map bC)] (.bool r) []:=by
 refine bs [0,1] [.tmp 4] Tryz.func48 QV (λbn ag bm=>?_);refine ws _ ?_;refine az ag (λ_ bI a_ ah=>?_);refine ws _ ?_;refine aD h (λbw h=>?_) (λbw h=>?_)
 .refine ws _ ?_;exact au (a_ _ (.inl (aw [.bool false])))
 .refine aI (bI _ (.inl ?_));refine az ag (λ_ db cO _=>?_);refine ws _ ?_;refine bc cO (λim _ gK bW _=>?_);show bj af (.loop ?gw) _ _;have gM:∀n b7,B1 a0 J n b7=some r->cF af ?gw im (aq [(0,.ref (fk a0)),(1,.slice (J.map bC)),(5,.int .i64 b7)]):=by
   refine cZ (λ_ gx b7 h=>cX gK (λ_ cV cb dj=>?_));refine az cb (λ_ b5 _ df=>?_);refine ws _ ?_;refine aD h (λeV h=>?_) (λeV h=>?_)
   .refine aI (b5 _ (.inl ?_));refine az cb (λ_ fb e5 _=>?_);refine bc e5 (λ_ ej dL _ _=>?_);obtain⟨U,cp,h⟩:=aj h;obtain⟨ah,dI,h⟩:=aj h;refine lS cp (an2 a0.cw U _ dI) _ ?_;refine aD h (λhr h=>?_) (λhr h=>?_)
    .refine ws _ ?_;exact au (dL _ (.inl (aw [.bool false])))
    .refine aI (ej _ (fb _ (.inl ?_)));refine wr _ ?_;exact cV _ (.inr ⟨_,aW rfl,gx (i64.wrap (b7+1)) h⟩)
   .refine cP (df 0 _ (dj 0 _ (bW _ (db _ (.inl ?_)))));refine ws _ ?_;exact au (ag _ (.inl (aw [.bool true])))
  obtain⟨n,h⟩:=cC h;exact cW (.inr ⟨_,aW rfl,gM n 0 h⟩)
theorem an4 (a0 J r) (h:Ju a0 J=some r):aV af 21 [.ref (fk a0),.slice (J.map bC)] (.int .i64 r) []:=by
 refine bs [0,1] [.tmp 4] Tryz.func21 c21 (λbn ag bm=>?_);refine ws _ ?_;refine az ag (λ_ bI a_ ah=>?_);obtain⟨U,bT,h⟩:=aj h;rcases dc h with⟨cI,h⟩|⟨cI,h⟩
 .refine ea (hf cI) (Zh a0 _ bT) _ ?_;refine iU rfl ?_;refine ws _ ?_;exact au (a_ _ (.inl (aw [.int .i64 1])))
 .obtain⟨ah,bY,h⟩:=aj h;refine eb (cr [(13,.bool (!ah))] (λP bq=>?_) ?_)
  ·(try simp only[aN.down,simprocAttr,(b6 cI)]);refine dk (Zh a0 _ bT) rfl rfl rfl rfl (.inl (by rfl)) ?_;simp only[aN.down,simprocAttr,(b6 cI)];refine gB (an3 a0 J _ bY) rfl rfl rfl rfl (.inl (by rfl)) ?_;simp only[aN.down,simprocAttr,(b6 cI)];exact b3 (b6 cI)
  refine aD h (λbW h=>?_) (λbW h=>?_)
  .refine ws _ ?_;exact au (a_ _ (.inl (aw [.int .i64 1])))
  .refine aI (bI _ (.inl ?_));refine ws _ ?_;exact au (ag _ (.inl (aw [.int .i64 0])))
theorem an5 (a0 J r) (h:Jv a0 J=some r):aV af 22 [.int .i64 a0,.int .i64 J] (.bool r) []:=by
 refine bs [0,1] [.tmp 4] Tryz.func22 QW (λbn ag bm=>?_);refine ws _ ?_;obtain⟨U,aM,h⟩:=aj h;rcases dc h with⟨bw,h⟩|⟨bw,h⟩
 .obtain⟨ah,cv,h⟩:=aj h;refine eb (cr [(4,.bool ah)] (λP bq=>?_) ?_)
  ·(try simp only[aN.down,simprocAttr,bw]);refine dk (kx a0 0 2 _ aM) rfl rfl rfl rfl (.inl (by rfl)) ?_;simp only[aN.down,simprocAttr,bw];refine gB (kx J 0 65535 _ cv) rfl rfl rfl rfl (.inl (by rfl)) ?_;simp only[aN.down,simprocAttr,bw];exact b3 bw
  exact au (ag _ (.inl (aw [.bool ah])))
 .refine ea bw (kx a0 0 2 _ aM) _ ?_;exact au (ag _ (.inl (aw [.bool false])))
theorem Zi (a0 r) (h:zx a0=some r):aV af 90 [.str a0] (.int .i64 r) []:=by
 refine bs [0] [.tmp 2] Tryz.func90 aj9 (λbn ag bm=>?_);refine ws _ ?_;refine az ag (λ_ bI a_ _=>?_);refine ws _ ?_;refine bc a_ (λfy _ bN bw _=>?_);show bj af (.loop ?ft) _ _;have fV:∀n iy,x0 a0 n iy=some r->cF af ?ft fy (aq [(0,.str a0),(3,.int .i64 iy)]):=by
  refine cZ (λ_ fl iy h=>cX bN (λ_ dZ c6 bo=>?_));refine az c6 (λ_ db _ b0=>?_);refine ws _ ?_;refine aD h (λbW h=>?_) (λbW h=>?_)
  .refine aI (db _ (.inl ?_));refine az c6 (λ_ cV cb _=>?_);refine bc cb (λ_ b5 cx _ _=>?_);obtain⟨U,eJ,h⟩:=aj h;refine cR eJ _ ?_;refine aD h (λe1 h=>?_) (λe1 h=>?_)
   .refine ws _ ?_;exact au (cx _ (.inl (aw [.int .i64 iy])))
   .refine aI (b5 _ (cV _ (.inl ?_)));refine wr _ ?_;exact dZ _ (.inr ⟨_,aW rfl,fl (i64.wrap (iy+1)) h⟩)
  .refine cP (b0 0 _ (bo 0 _ (bw _ (bI _ (.inl ?_)))));refine ws _ ?_;exact au (ag _ (.inl (aw [.int .i64 (a0.length:Int)])))
 obtain⟨n,h⟩:=cC h;exact cW (.inr ⟨_,aW rfl,fV n 0 h⟩)
theorem an6 (a0 J r) (h:Jx a0 J=some r):aV af 133 [.str a0,.int .u8 (J.toNat:Int)] (.ak 1 (r.map aX)) []:=by
 refine bs [0,1] [.tmp 4] Tryz.func133 aj_ (λbn ag bm=>?_);refine ws _ ?_;refine cR (show∀s,dS af s 25 0 []=some (.ak 1 [],s)from λs=>by kernel_rfl) _ ?_;refine ws _ ?_;refine az ag (λ_ eU bN _=>?_);refine ws _ ?_;refine bc bN (λjn _ cO cn _=>?_);show bj af (.loop ?z_) _ _;have Am:∀n j9 lp gf,zy a0 J n j9 lp gf=some r->cF af ?z_ jn (aq [(0,.str a0),(1,.int .u8 (J.toNat:Int)),(5,.ak 1 (j9.map aX)),(6,.int .i64 lp),(7,.int .i64 gf)]):=by
  refine cZ (λm10 An j9 lp gf h=>cX cO (λan7 dn el br=>?_));refine az el (λ_ hq _ cT=>?_);refine ws _ ?_;refine aD h (λeQ h=>?_) (λeQ h=>?_)
  .refine aI (hq _ (.inl ?_));show bj af (.seq _ ?QU) _ _;have Zj:∀B2 B3 B4,Jw (zy a0 J m10) a0 J B2 B3 B4=some r->bj af ?QU an7 (aq [(0,.str a0),(1,.int .u8 (J.toNat:Int)),(5,.ak 1 (B2.map aX)),(6,.int .i64 B3),(7,.int .i64 B4)]):=by
    intro B2 B3 B4 h;refine wr _ ?_;exact dn _ (.inr ⟨_,aW rfl,An B2 B3 (i64.wrap (B4+1)) h⟩)
   refine az el (λ_ eu hM _=>?_);refine bc hM (λ_ fb _ _ _=>?_);obtain⟨U,e6,h⟩:=aj h;refine cR e6 _ ?_;refine aD h (λlV h=>?_) (λlV h=>?_)
   .obtain⟨ah,eT,h⟩:=aj h;obtain⟨RO,gb,h⟩:=aj h;(try simp only[fD.down,Nat.zero_add,Nat.add_zero,reduceAdd]at gb);refine cR (R eT (R (show∀s,dS af s 25 1 [(0,.str ah)]=some (.ak 1 [.str ah],s)from λs=>by kernel_rfl) (R (@kn af 25 25 9 rfl rfl) (R @ko (R @kp (R @gI (R @all_cons (R @all_nil (R gb (@jN _ aX 1 (λ_=>rfl))))))))))) [(0,.str a0),(1,.int .u8 (J.toNat:Int)),(5,.ak 1 ((j9++[ah]).map aX)),(7,.int .i64 gf)] ?_;refine wr [(0,.str a0),(1,.int .u8 (J.toNat:Int)),(5,.ak 1 ((j9++[ah]).map aX)),(6,.int .i64 (i64.wrap (gf+1))),(7,.int .i64 gf)] ?_;exact fb _ (eu _ (.inr ⟨_,aW rfl,Zj (j9++[ah]) (i64.wrap (gf+1)) gf h⟩))
   .exact aI (fb _ (eu _ (.inr ⟨_,aW rfl,Zj j9 lp gf h⟩)))
  .refine cP (cT 0 _ (br 0 _ (cn _ (eU _ (.inl ?_)))));obtain⟨aK,gN,h⟩:=aj h;obtain⟨ayE,iA,h⟩:=aj h;(try simp only[fD.down,Nat.zero_add,Nat.add_zero,reduceAdd]at iA);refine cR (R gN (R (show∀s,dS af s 25 1 [(0,.str aK)]=some (.ak 1 [.str aK],s)from λs=>by kernel_rfl) (R (@kn af 25 25 9 rfl rfl) (R @ko (R @kp (R @gI (R @all_cons (R @all_nil (R iA (@jN _ aX 1 (λ_=>rfl))))))))))) [(4,.ak 1 ((j9++[aK]).map aX))] ?_;exact au (ag _ (.inl (aw [.ak 1 ((j9++[aK]).map aX)])))
 obtain⟨n,h⟩:=cC h;exact cW (.inr ⟨_,aW rfl,Am n [] 0 0 h⟩)
theorem an8 (a0 r) (h:Jy a0=some r):aV af 134 [.str a0] (.tuple [.int .i64 r.1,.bool r.2]) []:=by
 refine bs [0] [.tmp 2,.tmp 3] Tryz.func134 aka (λbn ag bm=>?_);refine ws _ ?_;refine ws _ ?_;show bj af (.seq _ ?z_) _ _;have RP:∀hZ,B5 a0 hZ=some r->bj af ?z_ bn (aq [(0,.str a0),(4,.int .i64 hZ)]):=by
  intro hZ h;refine az ag (λ_ eU bN bd=>?_);rcases dc h with⟨cn,h⟩|⟨cn,h⟩
  .refine cR cn _ ?_;refine iU rfl ?_;refine ws _ ?_;exact au (bN _ (.inl (aw [.int .i64 0,.bool false])))
  .rcases dc h with⟨bW,h⟩|⟨bW,h⟩
   .refine cR (R cn bW) _ ?_;refine iU rfl ?_;refine ws _ ?_;exact au (bN _ (.inl (aw [.int .i64 0,.bool false])))
   .obtain⟨U,gG,h⟩:=aj h;rcases dc h with⟨nu,h⟩|⟨nu,h⟩
    .refine cR (R cn (R bW (R gG nu))) _ ?_;refine aD h (λeV h=>?_) (λeV h=>?_)
     .refine ws _ ?_;exact au (bN _ (.inl (aw [.int .i64 0,.bool false])))
     .refine aI (eU _ (.inl ?_));refine ws _ ?_;refine az ag (λ_ fE fK _=>?_);refine ws _ ?_;refine bc fK (λRm _ kT kS _=>?_);show bj af (.loop ?c24) _ _;have RQ:∀n nq po,vY a0 hZ n nq po=some r->cF af ?c24 Rm (aq [(0,.str a0),(4,.int .i64 hZ),(5,.int .i64 nq),(6,.int .i64 po)]):=by
       refine cZ (λm24 RR nq po h=>cX kT (λ_ rR wK wb=>?_));refine az wK (λ_ oq _ mS=>?_);refine ws _ ?_;refine aD h (λrQ h=>?_) (λrQ h=>?_)
       .refine aI (oq _ (.inl ?_));refine az wK (λ_ nv my _=>?_);refine bc my (λ_ Hj RS _ _=>?_);refine az RS (λ_ ym Ao _=>?_);obtain⟨ah,ti,h⟩:=aj h;obtain⟨aK,tc,h⟩:=aj h;refine ea ti (Rk ah _ tc) _ ?_;refine aD h (λjA h=>?_) (λjA h=>?_)
        .refine ws _ ?_;exact au (Ao _ (.inl (aw [.int .i64 0,.bool false])))
        .refine aI (ym _ (.inl ?_));refine tb (R ti (@E6 af 5 2 .i64 rfl rfl)) _ ?_;refine Hj _ (nv _ (.inl ?_));refine wr _ ?_;exact rR _ (.inr ⟨_,aW rfl,RR (i64.wrap ((i64.wrap (10*nq))+(i64.wrap (u8.wrap ((ah.toNat:Int)-48))))) (i64.wrap (po+1)) h⟩)
       .refine cP (mS 0 _ (wb 0 _ (kS _ (fE _ (.inl ?_)))));show bj af (.seq _ ?c49) _ _;have Hk:∀sP,FY sP=some r->bj af ?c49 bn (aq [(5,.int .i64 sP)]):=by
         intro sP h;refine ws _ ?_;exact au (ag _ (.inl (aw [.int .i64 sP,.bool true])))
        refine az ag (λ_ Hl _ _=>?_);refine ws _ ?_;refine aD h (λAh h=>?_) (λAh h=>?_)
        .refine wr _ ?_;exact Hl _ (.inr ⟨_,aW rfl,Hk (i64.wrap (0-nq)) h⟩)
        .exact aI (Hl _ (.inr ⟨_,aW rfl,Hk nq h⟩))
      obtain⟨n,h⟩:=cC h;exact cW (.inr ⟨_,aW rfl,RQ n 0 hZ h⟩)
    .refine cR (R cn (R bW (R gG nu))) _ ?_;refine n4 rfl ?_;refine aI (eU _ (.inl ?_));refine ws _ ?_;refine az ag (λ_ RT Hi _=>?_);refine ws _ ?_;refine bc Hi (λan9 _ an_ Hm _=>?_);show bj af (.loop ?c24) _ _;have RQ:∀n nq po,vY a0 hZ n nq po=some r->cF af ?c24 an9 (aq [(0,.str a0),(4,.int .i64 hZ),(5,.int .i64 nq),(6,.int .i64 po)]):=by
      refine cZ (λm24 RR nq po h=>cX an_ (λ_ Ap va aoa=>?_));refine az va (λ_ Ai _ Aj=>?_);refine ws _ ?_;refine aD h (λwG h=>?_) (λwG h=>?_)
      .refine aI (Ai _ (.inl ?_));refine az va (λ_ RU aob _=>?_);refine bc aob (λ_ Al wJ _ _=>?_);refine az wJ (λ_ p4 rO _=>?_);obtain⟨bd,th,h⟩:=aj h;obtain⟨bo,Hh,h⟩:=aj h;refine ea th (Rk bd _ Hh) _ ?_;refine aD h (λaoc h=>?_) (λaoc h=>?_)
       .refine ws _ ?_;exact au (rO _ (.inl (aw [.int .i64 0,.bool false])))
       .refine aI (p4 _ (.inl ?_));refine tb (R th (@E6 af 5 2 .i64 rfl rfl)) _ ?_;refine Al _ (RU _ (.inl ?_));refine wr _ ?_;exact Ap _ (.inr ⟨_,aW rfl,RR (i64.wrap ((i64.wrap (10*nq))+(i64.wrap (u8.wrap ((bd.toNat:Int)-48))))) (i64.wrap (po+1)) h⟩)
      .refine cP (Aj 0 _ (aoa 0 _ (Hm _ (RT _ (.inl ?_)))));show bj af (.seq _ ?c49) _ _;have Hk:∀sP,FY sP=some r->bj af ?c49 bn (aq [(5,.int .i64 sP)]):=by
        intro sP h;refine ws _ ?_;exact au (ag _ (.inl (aw [.int .i64 sP,.bool true])))
       refine az ag (λ_ La _ _=>?_);refine ws _ ?_;refine aD h (λRw h=>?_) (λRw h=>?_)
       .refine wr _ ?_;exact La _ (.inr ⟨_,aW rfl,Hk (i64.wrap (0-nq)) h⟩)
       .exact aI (La _ (.inr ⟨_,aW rfl,Hk nq h⟩))
     obtain⟨n,h⟩:=cC h;exact cW (.inr ⟨_,aW rfl,RQ n 0 hZ h⟩)
 refine az ag (λ_ eM _ aK=>?_);rcases dc h with⟨Ag,h⟩|⟨Ag,h⟩
 .obtain⟨b0,aod,h⟩:=aj h;refine cR (R Ag aod) _ ?_;refine aD h (λaoe h=>?_) (λaoe h=>?_)
  .refine wr _ ?_;exact eM _ (.inr ⟨_,aW rfl,RP 1 h⟩)
  .exact aI (eM _ (.inr ⟨_,aW rfl,RP 0 h⟩))
 .refine cR Ag _ ?_;refine n4 rfl ?_;exact aI (eM _ (.inr ⟨_,aW rfl,RP 0 h⟩))
theorem RV (a0 r) (h:sQ a0=some r):aV af 93 [.str a0] (.tuple [.ak 1 (r.1.map a1),.bool r.2]) []:=by
 refine bs [0] [.tmp 2,.tmp 3] Tryz.func93 c93 (λbn ag bm=>?_);refine ws _ ?_;obtain⟨U,aM,h⟩:=aj h;refine cu (Zi a0 _ aM) _ ?_;refine az ag (λ_ eU bN bd=>?_);refine ws _ ?_;refine aD h (λcn h=>?_) (λcn h=>?_)
 .obtain⟨ah,fh,h⟩:=aj h;refine ea (show∀s,dS af s 54 0 []=some (.ak 1 [],s)from λs=>by kernel_rfl) (Dn a0 _ fh) _ ?_;exact au (bN _ (.inl (aw [.ak 1 [],.bool ah])))
 .refine aI (eU _ (.inl ?_));refine az ag (λ_ cV cb dj=>?_);obtain⟨aK,kg,h⟩:=aj h;obtain⟨bd,eJ,h⟩:=aj h;rcases dc h with⟨e1,h⟩|⟨e1,h⟩
  .refine ea (R kg (hf e1)) (rP aK _ eJ) _ ?_;refine iU rfl ?_;refine ws _ ?_;exact au (cb _ (.inr ⟨[(2,.ak 1 []),(3,.bool false)],iV [] rfl (iN (t:=2) (d:=.a8) rfl rfl (.jf _) (by decide) (cJ rfl (iW))),aw [.ak 1 [],.bool false]⟩))
  .obtain⟨bo,e6,h⟩:=aj h;refine ea (R kg (R (b6 e1) e6)) (rP aK _ eJ) _ ?_;refine aD h (λlV h=>?_) (λlV h=>?_)
   .refine ws _ ?_;exact au (cb _ (.inr ⟨[(2,.ak 1 []),(3,.bool false)],iV [] rfl (iN (t:=2) (d:=.a8) rfl rfl (.jf _) (by decide) (cJ rfl (iW))),aw [.ak 1 [],.bool false]⟩))
   .refine aI (cV _ (.inl ?_));obtain⟨b0,gb,h⟩:=aj h;obtain⟨br,gZ,h⟩:=aj h;refine ea gb (an6 b0 (44:UInt8) _ gZ) _ ?_;refine cR (show∀s,dS af s 54 0 []=some (.ak 1 [],s)from λs=>by kernel_rfl) _ ?_;refine az ag (λ_ nv my _=>?_);refine ws _ ?_;refine bc my (λRW _ Ao hz _=>?_);show bj af (.loop ?c28) _ _;have aof:∀n pq ri,zz br n pq ri=some r->cF af ?c28 RW (aq [(5,.ak 1 (br.map aX)),(6,.ak 1 (pq.map a1)),(7,.int .i64 ri)]):=by
     refine cZ (λ_ aog pq ri h=>cX Ao (λ_ Aq p5 wc=>?_));refine az p5 (λ_ p3 _ rl=>?_);refine ws _ ?_;refine aD h (λjA h=>?_) (λjA h=>?_)
     .refine aI (p3 _ (.inl ?_));refine az p5 (λ_ rN te _=>?_);refine bc te (λ_ tf Hd _ _=>?_);obtain⟨cT,tk,h⟩:=aj h;obtain⟨dj,lU,h⟩:=aj h;refine ea (R tk (dy tk)) (an8 cT _ lU) _ ?_;refine az Hd (λ_ wE wF _=>?_);rcases dc h with⟨nN,h⟩|⟨nN,h⟩
      .refine cR (hf nN) _ ?_;refine iU rfl ?_;refine ws _ ?_;exact au (wF _ (.inr ⟨[(2,.ak 1 []),(3,.bool false)],iV [] rfl (iN (t:=2) (d:=.a8) rfl rfl (.jf _) (by decide) (cJ rfl (iW))),aw [.ak 1 [],.bool false]⟩))
      .obtain⟨df,tm,h⟩:=aj h;refine ea (b6 nN) (kx dj.1 0 63 _ tm) _ ?_;refine aD h (λAr h=>?_) (λAr h=>?_)
       .refine ws _ ?_;exact au (wF _ (.inr ⟨[(2,.ak 1 []),(3,.bool false)],iV [] rfl (iN (t:=2) (d:=.a8) rfl rfl (.jf _) (by decide) (cJ rfl (iW))),aw [.ak 1 [],.bool false]⟩))
       .refine aI (wE _ (.inl ?_));obtain⟨aoh,Lb,h⟩:=aj h;(try simp only[fD.down,Nat.zero_add,Nat.add_zero,reduceAdd]at Lb);refine tb (R (show∀s,dS af s 54 1 [(0,.int .i64 dj.1)]=some (.ak 1 [.int .i64 dj.1],s)from λs=>by kernel_rfl) (R (@kn af 54 54 2 rfl rfl) (R @ko (R @kp (R @gI (R @all_cons (R @all_nil (R Lb (@jN _ a1 1 (λ_=>rfl)))))))))) [(5,.ak 1 (br.map aX)),(6,.ak 1 ((pq++[dj.1]).map a1)),(7,.int .i64 ri)] ?_;refine tf _ (rN _ (.inl ?_));refine wr [(5,.ak 1 (br.map aX)),(6,.ak 1 ((pq++[dj.1]).map a1)),(7,.int .i64 (i64.wrap (ri+1)))] ?_;exact Aq _ (.inr ⟨_,aW rfl,aog (pq++[dj.1]) (i64.wrap (ri+1)) h⟩)
     .refine cP (rl 0 _ (wc 0 _ (hz _ (nv _ (.inl ?_)))));refine ws _ ?_;exact au (ag _ (.inl (aw [.ak 1 (pq.map a1),.bool (decide ((pq.length:Int)<=2))])))
    obtain⟨n,h⟩:=cC h;exact cW (.inr ⟨_,aW rfl,aof n [] 0 h⟩)
theorem aoi (a0 r) (h:uw a0=some r):aV af 88 [.str a0] (.bool r) []:=by
 refine bs [0] [.tmp 2] Tryz.func88 akb (λbn ag bm=>?_);refine ws _ ?_;obtain⟨U,aM,h⟩:=aj h;refine cu (RV a0 _ aM) _ ?_;refine ws _ ?_;exact au (ag _ (.inl (aw [.bool U.2])))
theorem aoj (a0 r) (h:Jz a0=some r):aV af 50 [.ref (fC a0)] (.bool r) []:=by
 refine bs [0] [.tmp 2] Tryz.func50 akc (λbn ag bm=>?_);refine ws _ ?_;obtain⟨U,aM,h⟩:=aj h;rcases dc h with⟨bw,h⟩|⟨bw,h⟩
 .obtain⟨ah,cv,h⟩:=aj h;rcases dc h with⟨cn,h⟩|⟨cn,h⟩
  .obtain⟨aK,bY,h⟩:=aj h;rcases dc h with⟨bW,h⟩|⟨bW,h⟩
   .obtain⟨bd,iH,h⟩:=aj h;refine eb (cr [(2,.bool bd)] (λP bq=>?_) ?_)
    ·(try simp only[aN.down,simprocAttr,bw,cn,bW]);refine dk (kx a0.Choice 0 199 _ aM) rfl rfl rfl rfl (.inl (by rfl)) ?_;simp only[aN.down,simprocAttr,bw,cn,bW];refine gB (kx a0.fa 0 2 _ cv) rfl rfl rfl rfl (.inl (by rfl)) ?_;simp only[aN.down,simprocAttr,bw,cn,bW];refine gB (kx a0.Second (-1) 2 _ bY) rfl rfl rfl rfl (.inl (by rfl)) ?_;simp only[aN.down,simprocAttr,bw,cn,bW];refine gB (aoi a0.Label _ iH) rfl rfl rfl rfl (.inl (by rfl)) ?_;simp only[aN.down,simprocAttr,bw,cn,bW];exact b3 (R bw (R cn bW))
    exact au (ag _ (.inl (aw [.bool bd])))
   .refine eb (cr [(2,.bool false)] (λP bq=>?_) ?_)
    ·(try simp only[aN.down,simprocAttr,bw,cn,bW]);refine dk (kx a0.Choice 0 199 _ aM) rfl rfl rfl rfl (.inl (by rfl)) ?_;simp only[aN.down,simprocAttr,bw,cn,bW];refine gB (kx a0.fa 0 2 _ cv) rfl rfl rfl rfl (.inl (by rfl)) ?_;simp only[aN.down,simprocAttr,bw,cn,bW];refine gB (kx a0.Second (-1) 2 _ bY) rfl rfl rfl rfl (.inl (by rfl)) ?_;simp only[aN.down,simprocAttr,bw,cn,bW];exact b3 (R bw (R cn bW))
    exact au (ag _ (.inl (aw [.bool false])))
  .refine eb (cr [(2,.bool false)] (λP bq=>?_) ?_)
   ·(try simp only[aN.down,simprocAttr,bw,cn]);refine dk (kx a0.Choice 0 199 _ aM) rfl rfl rfl rfl (.inl (by rfl)) ?_;simp only[aN.down,simprocAttr,bw,cn];refine gB (kx a0.fa 0 2 _ cv) rfl rfl rfl rfl (.inl (by rfl)) ?_;simp only[aN.down,simprocAttr,bw,cn];exact b3 (R bw cn)
   exact au (ag _ (.inl (aw [.bool false])))
 .refine ea bw (kx a0.Choice 0 199 _ aM) _ ?_;exact au (ag _ (.inl (aw [.bool false])))
theorem aok (a0 r) (h:JA a0=some r):aV af 23 [.slice (a0.map fC)] (.bool r) []:=by
 refine bs [0] [.tmp 2] Tryz.func23 akd (λbn ag bm=>?_);refine ws _ ?_;refine az ag (λ_ bI a_ ah=>?_);refine ws _ ?_;refine aD h (λbw h=>?_) (λbw h=>?_)
 .refine ws _ ?_;exact au (a_ _ (.inl (aw [.bool false])))
 .refine aI (bI _ (.inl ?_));refine az ag (λ_ db cO _=>?_);refine ws _ ?_;refine bc cO (λim _ gK bW _=>?_);show bj af (.loop ?gw) _ _;have gM:∀n eo,B6 a0 n eo=some r->cF af ?gw im (aq [(0,.slice (a0.map fC)),(3,.int .i64 eo)]):=by
   refine cZ (λ_ gx eo h=>cX gK (λ_ cV cb dj=>?_));refine az cb (λ_ b5 _ df=>?_);refine ws _ ?_;refine aD h (λeV h=>?_) (λeV h=>?_)
   .refine aI (b5 _ (.inl ?_));refine az cb (λ_ fb e5 _=>?_);refine bc e5 (λ_ ej dL _ _=>?_);obtain⟨U,cp,h⟩:=aj h;obtain⟨ah,dI,h⟩:=aj h;refine ea cp (aoj U _ dI) _ ?_;refine aD h (λhr h=>?_) (λhr h=>?_)
    .refine ws _ ?_;exact au (dL _ (.inl (aw [.bool false])))
    .refine aI (ej _ (fb _ (.inl ?_)));refine wr _ ?_;exact cV _ (.inr ⟨_,aW rfl,gx (i64.wrap (eo+1)) h⟩)
   .refine cP (df 0 _ (dj 0 _ (bW _ (db _ (.inl ?_)))));refine ws _ ?_;exact au (ag _ (.inl (aw [.bool true])))
  obtain⟨n,h⟩:=cC h;exact cW (.inr ⟨_,aW rfl,gM n 0 h⟩)
theorem RX (a0 r) (h:B7 a0=some r):aV af 91 [.slice (a0.map a1)] (.ak 1 (r.map a1)) []:=by
 refine bs [0] [.tmp 2] Tryz.func91 c91 (λbn ag bm=>?_);refine ws _ ?_;obtain⟨BI,aM,h⟩:=aj h;(try simp only[fD.down,Nat.zero_add,Nat.add_zero,reduceAdd]at aM);refine cR (R (show∀s,dS af s 54 0 []=some (.ak 1 [],s)from λs=>by kernel_rfl) (R (@kn af 54 54 2 rfl rfl) (R @ko (R @kp (R @gI (R @all_cons (R @all_nil (R aM (@jN _ a1 1 (λ_=>rfl)))))))))) _ ?_;exact au (ag _ (.inl (aw [.ak 1 (a0.map a1)])))
theorem wL (a0 r) (h:rj a0=some r):aV af 204 [.bool a0] (.int .i64 r) []:=by
 refine bs [0] [.tmp 2] Tryz.func204 ake (λbn ag bm=>?_);refine ws _ ?_;refine az ag (λ_ bI a_ _=>?_);refine ws _ ?_;refine aD h (λbw h=>?_) (λbw h=>?_)
 .refine ws _ ?_;exact au (a_ _ (.inl (aw [.int .i64 1])))
 .refine aI (bI _ (.inl ?_));refine ws _ ?_;exact au (ag _ (.inl (aw [.int .i64 0])))
theorem aol (a0 J r) (h:JB a0 J=some r):aV af 205 [.slice (a0.map ef),.int .i64 J] (.int .i64 r) []:=by
 refine bs [0] [.tmp 4] Tryz.func205 akf (λbn ag bm=>?_);refine ws _ ?_;refine ws _ ?_;refine az ag (λ_ eM cN _=>?_);refine bc cN (λfy _ bN bw _=>?_);show bj af (.loop ?ft) _ _;have fV:∀n gi dT,B8 a0 n gi dT=some r->cF af ?ft fy (aq [(0,.slice (a0.map ef)),(1,.int .i64 gi),(5,.int .i64 dT)]):=by
  refine cZ (λ_ fl gi dT h=>cX bN (λ_ dZ c6 bo=>?_));refine az c6 (λ_ db _ b0=>?_);refine ws _ ?_;refine aD h (λbW h=>?_) (λbW h=>?_)
  .refine aI (db _ (.inl ?_));refine bc c6 (λ_ cV _ _ _=>?_);obtain⟨U,kg,h⟩:=aj h;obtain⟨ah,eJ,h⟩:=aj h;refine ea kg (Zc U _ eJ) _ ?_;refine wr _ ?_;exact cV _ (dZ _ (.inr ⟨_,aW rfl,fl (i64.wrap (gi+1)) (i64.wrap (dT+(i64.wrap (ah-1)))) h⟩))
  .refine cP (b0 0 _ (bo 0 _ (bw _ (eM _ (.inl ?_)))));refine ws _ ?_;exact au (ag _ (.inl (aw [.int .i64 gi])))
 obtain⟨n,h⟩:=cC h;exact cW (.inr ⟨_,aW rfl,fV n J 1 h⟩)
theorem aom (a0 J a2 r) (h:JC a0 J a2=some r):aV af 206 [.int .i64 a0,.int .i64 J,.int .i64 a2] (.int .i64 r) []:=by
 refine bs [0,1,2] [.tmp 6] Tryz.func206 c206 (λbn ag bm=>?_);refine ws _ ?_;refine az ag (λ_ bI a_ ah=>?_);refine ws _ ?_;refine bc a_ (λ_ eU bN _ bd=>?_);refine ws _ ?_;refine aD h (λcn h=>?_) (λcn h=>?_)
 .refine cR (@n5 .i64 64 (by decide)) _ ?_;exact au (bN _ (.inl (aw [.int .i64 (Int.tmod (i64.wrap (J+a2)) 64)])))
 .refine ws _ ?_;refine aD h (λeP h=>?_) (λeP h=>?_)
  .refine cR (@n5 .i64 64 (by decide)) _ ?_;exact au (bN _ (.inl (aw [.int .i64 (Int.tmod (i64.wrap ((i64.wrap (J-a2))+64)) 64)])))
  .refine ws _ ?_;refine aD h (λeV h=>?_) (λeV h=>?_)
   .refine cR (@n5 .i64 64 (by decide)) _ ?_;exact au (bN _ (.inl (aw [.int .i64 (Int.tmod (i64.wrap (J*a2)) 64)])))
   .refine ws _ ?_;refine aD h (λeB h=>?_) (λeB h=>?_)
    .obtain⟨U,dI,h⟩:=aj h;refine cu (wL (J==a2) _ dI) _ ?_;exact au (bN _ (.inl (aw [.int .i64 U])))
    .refine ws _ ?_;refine aD h (λfF h=>?_) (λfF h=>?_)
     .obtain⟨ah,h1,h⟩:=aj h;refine cu (wL (J !=a2) _ h1) _ ?_;exact au (bN _ (.inl (aw [.int .i64 ah])))
     .refine ws _ ?_;refine aD h (λgg h=>?_) (λgg h=>?_)
      .obtain⟨aK,h2,h⟩:=aj h;refine cu (wL (decide (J<a2)) _ h2) _ ?_;exact au (bN _ (.inl (aw [.int .i64 aK])))
      .refine ws _ ?_;refine aD h (λou h=>?_) (λou h=>?_)
       .obtain⟨bd,pz,h⟩:=aj h;refine cu (wL (decide (J<=a2)) _ pz) _ ?_;exact au (bN _ (.inl (aw [.int .i64 bd])))
       .refine ws _ ?_;refine aD h (λg_ h=>?_) (λg_ h=>?_)
        .rcases dc h with⟨jq,h⟩|⟨jq,h⟩
         .obtain⟨bo,jo,h⟩:=aj h;refine ea jq (wL (a2 !=0) _ jo) _ ?_;exact au (bN _ (.inl (aw [.int .i64 bo])))
         .obtain⟨b0,qO,h⟩:=aj h;refine ea jq (wL false _ qO) _ ?_;exact au (bN _ (.inl (aw [.int .i64 b0])))
        .refine aI (eU _ (bI _ (.inl ?_)));rcases dc h with⟨p6,h⟩|⟨p6,h⟩
         .obtain⟨br,tm,h⟩:=aj h;refine ea p6 (wL true _ tm) _ ?_;exact au (ag _ (.inl (aw [.int .i64 br])))
         .obtain⟨cT,As,h⟩:=aj h;refine ea p6 (wL (a2 !=0) _ As) _ ?_;exact au (ag _ (.inl (aw [.int .i64 cT])))
theorem aon (B9:azv->aze->Int->azh) (RY:∀a0 J a2 r,B9 a0 J a2=some r->aV af 170 [.slice (a0.map ef),.slice (J.map a1),.int .i64 a2] (.int .i64 r) []) (a0 J a2 r) (h:Pb B9 a0 J a2=some r):aV af 170 [.slice (a0.map ef),.slice (J.map a1),.int .i64 a2] (.int .i64 r) []:=by
 refine bs [0,1,2] [.tmp 6] Tryz.func170 akg (λbn ag bm=>?_);refine ws _ ?_;refine az ag (λ_ bI a_ ah=>?_);obtain⟨U,bT,h⟩:=aj h;refine cR bT _ ?_;refine bc a_ (λ_ dZ c6 _ bo=>?_);refine ws _ ?_;refine aD h (λnZ h=>?_) (λnZ h=>?_)
 .refine cR bT _ ?_;exact au (c6 _ (.inl (aw [.int .i64 U.Value])))
 .refine ws _ ?_;refine aD h (λeQ h=>?_) (λeQ h=>?_)
  .obtain⟨ah,eJ,h⟩:=aj h;refine cR (R bT eJ) _ ?_;exact au (c6 _ (.inl (aw [.int .i64 ah])))
  .refine ws _ ?_;refine aD h (λgL h=>?_) (λgL h=>?_)
   .obtain⟨aK,cp,h⟩:=aj h;obtain⟨bd,dI,h⟩:=aj h;refine eb (cr [(6,.int .i64 bd)] (λP bq=>?_) ?_)
    ·(try simp only[aN.down,simprocAttr]);refine dk (RY a0 J (i64.wrap (a2+1)) _ cp) rfl rfl rfl rfl (.inl (by rfl)) ?_;simp only[aN.down,simprocAttr];refine dk (wL (aK==0) _ dI) rfl rfl rfl rfl (.inl (by rfl)) ?_;simp only[aN.down,simprocAttr];exact b3 trivial
    exact au (c6 _ (.inl (aw [.int .i64 bd])))
   .refine aI (dZ _ (bI _ (.inl ?_)));obtain⟨bo,gb,h⟩:=aj h;refine cu (RY a0 J (i64.wrap (a2+1)) _ gb) _ ?_;obtain⟨b0,h1,h⟩:=aj h;obtain⟨br,gN,h⟩:=aj h;refine eb (cr [(0,.slice (a0.map ef)),(2,.int .i64 a2),(7,.int .i64 bo),(8,.int .i64 br)] (λP bq=>?_) ?_)
    ·(try simp only[aN.down,simprocAttr]);refine dk (aol a0 (i64.wrap (a2+1)) _ h1) rfl rfl rfl rfl (.inl (by rfl)) ?_;simp only[aN.down,simprocAttr];refine dk (RY a0 J b0 _ gN) rfl rfl rfl rfl (.inl (by rfl)) ?_;simp only[aN.down,simprocAttr];exact b3 trivial
    obtain⟨cT,lx,h⟩:=aj h;refine ea bT (aom U.Value bo br _ lx) _ ?_;exact au (ag _ (.inl (aw [.int .i64 cT])))
theorem aoo:∀n a0 J a2 r,zA n a0 J a2=some r->aV af 170 [.slice (a0.map ef),.slice (J.map a1),.int .i64 a2] (.int .i64 r) []:=by
 intro n;induction n with
 |zero=>intro a0 J a2 r h;cases(show none=some r from h)
 |succ n ih=>intro a0 J a2 r h;exact aon (zA n) ih a0 J a2 r h
theorem aop (a0 J a2 r) (h:Pc a0 J a2=some r):aV af 170 [.slice (a0.map ef),.slice (J.map a1),.int .i64 a2] (.int .i64 r) []:=by
 obtain⟨n,h⟩:=cC h;exact aoo n a0 J a2 r h
theorem Zk (a0 J r) (h:zB a0 J=some r):aV af 129 [.slice (a0.map ef),.slice (J.map a1)] (.int .i64 r) []:=by
 refine bs [0,1] [.tmp 4] Tryz.func129 akh (λbn ag bm=>?_);refine ws _ ?_;obtain⟨U,aM,h⟩:=aj h;refine cu (aop a0 J 0 _ aM) _ ?_;exact au (ag _ (.inl (aw [.int .i64 U])))
theorem Zl (a0 J r) (h:FZ a0 J=some r):aV af 126 [.slice (a0.map iY),.slice (J.map a1)] (.ak 1 (r.map a1)) []:=by
 refine bs [0,1] [.tmp 4] Tryz.func126 aki (λbn ag bm=>?_);refine ws _ ?_;refine cR (show∀s,dS af s 54 0 []=some (.ak 1 [],s)from λs=>by kernel_rfl) _ ?_;refine az ag (λ_ eM cN _=>?_);refine ws _ ?_;refine bc cN (λqL _ c6 cI _=>?_);show bj af (.loop ?hQ) _ _;have ik:∀n fz jR,B_ a0 J n fz jR=some r->cF af ?hQ qL (aq [(0,.slice (a0.map iY)),(1,.slice (J.map a1)),(5,.ak 1 (fz.map a1)),(6,.int .i64 jR)]):=by
  refine cZ (λ_ il fz jR h=>cX c6 (λ_ db cO b0=>?_));refine az cO (λ_ dn _ br=>?_);refine ws _ ?_;refine aD h (λeP h=>?_) (λeP h=>?_)
  .refine aI (dn _ (.inl ?_));refine az cO (λ_ b5 cx _=>?_);refine bc cx (λ_ eu _ _ _=>?_);obtain⟨U,e0,h⟩:=aj h;obtain⟨ah,dp,h⟩:=aj h;obtain⟨u16,e6,h⟩:=aj h;(try simp only[fD.down,Nat.zero_add,Nat.add_zero,reduceAdd]at e6);refine Aa (R e0 (R (show∀s,dS af s 54 1 [(0,.int .i64 ah)]=some (.ak 1 [.int .i64 ah],s)from λs=>by kernel_rfl) (R (@kn af 54 54 2 rfl rfl) (R @ko (R @kp (R @gI (R @all_cons (R @all_nil (R e6 (@jN _ a1 1 (λ_=>rfl))))))))))) (Zk U J _ dp) [(0,.slice (a0.map iY)),(1,.slice (J.map a1)),(5,.ak 1 ((fz++[ah]).map a1)),(6,.int .i64 jR)] ?_;refine eu _ (b5 _ (.inl ?_));refine wr [(0,.slice (a0.map iY)),(1,.slice (J.map a1)),(5,.ak 1 ((fz++[ah]).map a1)),(6,.int .i64 (i64.wrap (jR+1)))] ?_;exact db _ (.inr ⟨_,aW rfl,il (fz++[ah]) (i64.wrap (jR+1)) h⟩)
  .refine cP (br 0 _ (b0 0 _ (cI _ (eM _ (.inl ?_)))));refine ws _ ?_;exact au (ag _ (.inl (aw [.ak 1 (fz.map a1)])))
 obtain⟨n,h⟩:=cC h;exact cW (.inr ⟨_,aW rfl,ik n [] 0 h⟩)
theorem RZ (a0 r) (h:v7 a0=some r):aV af 59 [.int .i64 a0] (.str r) []:=by
 refine bs [0] [.tmp 2] Tryz.func59 c59 (λbn ag bm=>?_);refine ws _ ?_;refine az ag (λ_ bI a_ _=>?_);refine ws _ ?_;refine aD h (λbw h=>?_) (λbw h=>?_)
 .refine ws _ ?_;exact au (a_ _ (.inl (aw [.str ([48]:azc)])))
 .refine aI (bI _ (.inl ?_));refine cR (show∀s,dS af s 163 0 []=some (.ak 1 [],s)from λs=>by kernel_rfl) _ ?_;refine az ag (λ_ dn el _=>?_);refine ws _ ?_;refine bc el (λjm _ cb eP _=>?_);have jW:∀n gX hp,nr a0 n gX hp=some r->cF af Yf jm (aq [(0,.int .i64 a0),(3,.ak 1 (gX.map iR)),(4,.int .i64 hp)]):=by
   refine cZ (λm16 jX gX hp h=>cX cb (λ_ b5 cx df=>?_));refine az cx (λ_ eu _ eA=>?_);refine ws _ ?_;refine aD h (λe1 h=>?_) (λe1 h=>?_)
   .refine aI (eu _ (.inl ?_));refine az cx (λ_ ej dL _=>?_);refine bc dL (λwM fE fK _ _=>?_);refine cR (@n5 .i64 10 (by decide)) _ ?_;have Zm:∀vZ x1 ux,Ca (nr a0 m16) a0 vZ x1 ux=some r->bj af Ye wM (aq [(0,.int .i64 a0),(3,.ak 1 (vZ.map iR)),(4,.int .i64 x1),(5,.int .i64 ux)]):=by
     intro vZ x1 ux h;obtain⟨RO,gb,h⟩:=aj h;(try simp only[fD.down,Nat.zero_add,Nat.add_zero,reduceAdd]at gb);refine tb (R (@E6 af 2 5 .u8 rfl rfl) (R (show∀s,dS af s 163 1 [(0,.int .u8 (u8.wrap (i64.wrap (48+ux))))]=some (.ak 1 [.int .u8 (u8.wrap (i64.wrap (48+ux)))],s)from λs=>by kernel_rfl) (R (@kn af 163 163 5 rfl rfl) (R @ko (R @kp (R @gI (R @all_cons (R @all_nil (R gb @NP))))))))) [(0,.int .i64 a0),(3,.ak 1 ((vZ++[(pG (i64.wrap (48+ux)))]).map iR)),(4,.int .i64 x1)] ?_;refine fE _ (ej _ (.inl ?_));refine tb (@af_ .i64 10 (by decide)) [(0,.int .i64 a0),(3,.ak 1 ((vZ++[(pG (i64.wrap (48+ux)))]).map iR)),(4,.int .i64 (i64.wrap (Int.tdiv x1 10)))] ?_;exact b5 _ (.inr ⟨_,aW rfl,jX (vZ++[(pG (i64.wrap (48+ux)))]) (i64.wrap (Int.tdiv x1 10)) h⟩)
    refine az fK (λ_ jz _ _=>?_);refine ws _ ?_;refine aD h (λtd h=>?_) (λtd h=>?_)
    .refine wr _ ?_;exact jz _ (.inr ⟨_,aW rfl,Zm gX hp (i64.wrap (0-(Int.tmod hp 10))) h⟩)
    .exact aI (jz _ (.inr ⟨_,aW rfl,Zm gX hp (Int.tmod hp 10) h⟩))
   .refine cP (eA 0 _ (df 0 _ (eP _ (dn _ (.inl ?_)))));have Zn:∀oL,uy oL=some r->bj af Yh bn (aq [(3,.ak 1 (oL.map iR))]):=by
     intro oL h;refine cR (show∀s,dS af s 163 0 []=some (.ak 1 [],s)from λs=>by kernel_rfl) _ ?_;refine az ag (λ_ p3 qM _=>?_);refine ws _ ?_;refine bc qM (λRn _ G6 jA _=>?_);have R0:∀n ib hR,Cb oL n ib hR=some r->cF af Yg Rn (aq [(3,.ak 1 (oL.map iR)),(6,.ak 1 (ib.map iR)),(7,.int .i64 hR)]):=by
      refine cZ (λ_ R1 ib hR h=>cX G6 (λ_ rN te G9=>?_));refine az te (λ_ tf _ Rq=>?_);refine ws _ ?_;refine aD h (λG_ h=>?_) (λG_ h=>?_)
      .refine aI (tf _ (.inl ?_));refine az te (λ_ Rr Ha _=>?_);refine bc Ha (λ_ wE _ _ _=>?_);obtain⟨U,py,h⟩:=aj h;obtain⟨aoq,tg,h⟩:=aj h;(try simp only[fD.down,Nat.zero_add,Nat.add_zero,reduceAdd]at tg);refine tb (R py (R (dy py) (R (show∀s,dS af s 163 1 [(0,.int .u8 (U.toNat:Int))]=some (.ak 1 [.int .u8 (U.toNat:Int)],s)from λs=>by kernel_rfl) (R (@kn af 163 163 5 rfl rfl) (R @ko (R @kp (R @gI (R @all_cons (R @all_nil (R tg @NP)))))))))) [(3,.ak 1 (oL.map iR)),(6,.ak 1 ((ib++[U]).map iR)),(7,.int .i64 hR)] ?_;refine wE _ (Rr _ (.inl ?_));refine wr [(3,.ak 1 (oL.map iR)),(6,.ak 1 ((ib++[U]).map iR)),(7,.int .i64 (i64.wrap (hR-1)))] ?_;exact rN _ (.inr ⟨_,aW rfl,R1 (ib++[U]) (i64.wrap (hR-1)) h⟩)
      .refine cP (Rq 2 _ (G9 2 _ (jA _ (p3 _ (.inl ?_)))));refine cR (R ((@af7 af 163 9 5 rfl rfl rfl).2.2) (R @af9 @af8)) _ ?_;exact au (ag _ (.inl (aw [.str ib])))
     obtain⟨n,h⟩:=cC h;exact cW (.inr ⟨_,aW rfl,R0 n [] (i64.wrap ((oL.length:Int)-1)) h⟩)
    refine az ag (λ_ ym _ _=>?_);refine ws _ ?_;refine aD h (λwI h=>?_) (λwI h=>?_)
    .obtain⟨aoh,Ds,h⟩:=aj h;(try simp only[fD.down,Nat.zero_add,Nat.add_zero,reduceAdd]at Ds);refine tb (R (show∀s,dS af s 163 1 [(0,.int .u8 45)]=some (.ak 1 [.int .u8 45],s)from λs=>by kernel_rfl) (R (@kn af 163 163 5 rfl rfl) (R @ko (R @kp (R @gI (R @all_cons (R @all_nil (R Ds @NP)))))))) [(3,.ak 1 ((gX++[(45:UInt8)]).map iR))] ?_;exact ym _ (.inr ⟨_,aW rfl,Zn (gX++[(45:UInt8)]) h⟩)
    .exact aI (ym _ (.inr ⟨_,aW rfl,Zn gX h⟩))
  obtain⟨n,h⟩:=cC h;exact cW (.inr ⟨_,aW rfl,jW n [] a0 h⟩)
theorem aor (a0 r) (h:JE a0=some r):aV af 135 [.slice (a0.map a1)] (.str r) []:=by
 refine bs [0] [.tmp 2] Tryz.func135 akj (λbn ag bm=>?_);refine ws _ ?_;refine az ag (λ_ bI a_ ah=>?_);refine ws _ ?_;refine aD h (λbw h=>?_) (λbw h=>?_)
 .refine ws _ ?_;exact au (a_ _ (.inl (aw [.str ([45]:azc)])))
 .refine aI (bI _ (.inl ?_));refine ws _ ?_;refine az ag (λ_ dn el _=>?_);refine ws _ ?_;refine bc el (λjm _ cb eP _=>?_);have jW:∀n gX hp,zE a0 n gX hp=some r->cF af Yj jm (aq [(0,.slice (a0.map a1)),(3,.str gX),(4,.int .i64 hp)]):=by
   refine cZ (λm16 jX gX hp h=>cX cb (λ_ b5 cx df=>?_));refine az cx (λ_ eu _ eA=>?_);refine ws _ ?_;refine aD h (λe1 h=>?_) (λe1 h=>?_)
   .refine aI (eu _ (.inl ?_));refine az cx (λ_ ej dL _=>?_);refine bc dL (λwM fE fK _ _=>?_);have Zo:∀v8 v_,JD (zE a0 m16) a0 v8 v_=some r->bj af Yi wM (aq [(0,.slice (a0.map a1)),(3,.str v8),(4,.int .i64 v_)]):=by
     intro v8 v_ h;obtain⟨U,eT,h⟩:=aj h;obtain⟨ah,gb,h⟩:=aj h;obtain⟨aos,gZ,h⟩:=aj h;(try simp only[fD.down,Nat.zero_add,Nat.add_zero,reduceAdd]at gZ);refine Aa (R eT (R gZ (R @zl @zm))) (RZ U _ gb) [(0,.slice (a0.map a1)),(3,.str (v8++ah)),(4,.int .i64 v_)] ?_;refine fE _ (ej _ (.inl ?_));refine wr [(0,.slice (a0.map a1)),(3,.str (v8++ah)),(4,.int .i64 (i64.wrap (v_+1)))] ?_;exact b5 _ (.inr ⟨_,aW rfl,jX (v8++ah) (i64.wrap (v_+1)) h⟩)
    refine az fK (λ_ jx _ _=>?_);refine ws _ ?_;refine aD h (λgg h=>?_) (λgg h=>?_)
    .obtain⟨aot,h2,h⟩:=aj h;(try simp only[fD.down,Nat.zero_add,Nat.add_zero,reduceAdd]at h2);refine tb (R h2 (R @zl @zm)) [(0,.slice (a0.map a1)),(3,.str (gX++([44]:azc))),(4,.int .i64 hp)] ?_;exact jx _ (.inr ⟨_,aW rfl,Zo (gX++([44]:azc)) hp h⟩)
    .exact aI (jx _ (.inr ⟨_,aW rfl,Zo gX hp h⟩))
   .refine cP (eA 0 _ (df 0 _ (eP _ (dn _ (.inl ?_)))));refine ws _ ?_;exact au (ag _ (.inl (aw [.str gX])))
  obtain⟨n,h⟩:=cC h;exact cW (.inr ⟨_,aW rfl,jW n ([]:azc) 0 h⟩)
theorem Zp (a0 J r) (h:F1 a0 J=some r):aV af 96 [.str a0,.slice (J.map a1)] (.str r) []:=by
 refine bs [0,1] [.tmp 4] Tryz.func96 akk (λbn ag bm=>?_);refine ws _ ?_;refine az ag (λ_ bI a_ _=>?_);refine ws _ ?_;refine aD h (λbw h=>?_) (λbw h=>?_)
 .refine ws _ ?_;exact au (a_ _ (.inl (aw [.str a0])))
 .refine aI (bI _ (.inl ?_));obtain⟨Dt,bY,h⟩:=aj h;(try simp only[fD.down,Nat.zero_add,Nat.add_zero,reduceAdd]at bY);obtain⟨U,fh,h⟩:=aj h;obtain⟨Dt,iH,h⟩:=aj h;(try simp only[fD.down,Nat.zero_add,Nat.add_zero,reduceAdd]at iH);obtain⟨Dt,gG,h⟩:=aj h;(try simp only[fD.down,Nat.zero_add,Nat.add_zero,reduceAdd]at gG);refine ea (R bY (R @zl (R @zm (R iH gG)))) (aor J _ fh) [(4,.str (((a0++([40]:azc))++U)++([41]:azc)))] ?_;exact au (ag _ (.inl (aw [.str (((a0++([40]:azc))++U)++([41]:azc))])))
theorem Zq (a0 J r) (h:F2 a0 J=some r):aV af 94 [.slice (a0.map a1),.slice (J.map a1)] (.bool r) []:=by
 refine bs [0,1] [.tmp 4] Tryz.func94 akl (λbn ag bm=>?_);refine ws _ ?_;refine az ag (λ_ bI a_ ah=>?_);refine ws _ ?_;refine aD h (λbw h=>?_) (λbw h=>?_)
 .refine ws _ ?_;exact au (a_ _ (.inl (aw [.bool false])))
 .refine aI (bI _ (.inl ?_));refine az ag (λ_ db cO _=>?_);refine ws _ ?_;refine bc cO (λim _ gK bW _=>?_);show bj af (.loop ?gw) _ _;have gM:∀n b7,Cc a0 J n b7=some r->cF af ?gw im (aq [(0,.slice (a0.map a1)),(1,.slice (J.map a1)),(5,.int .i64 b7)]):=by
   refine cZ (λ_ gx b7 h=>cX gK (λ_ cV cb dj=>?_));refine az cb (λ_ b5 _ df=>?_);refine ws _ ?_;refine aD h (λeV h=>?_) (λeV h=>?_)
   .refine aI (b5 _ (.inl ?_));refine az cb (λ_ fb e5 _=>?_);refine bc e5 (λ_ ej dL _ _=>?_);obtain⟨U,cp,h⟩:=aj h;obtain⟨ah,dI,h⟩:=aj h;refine oT (R cp dI) _ ?_;refine aD h (λhr h=>?_) (λhr h=>?_)
    .refine ws _ ?_;exact au (dL _ (.inl (aw [.bool false])))
    .refine aI (ej _ (fb _ (.inl ?_)));refine wr _ ?_;exact cV _ (.inr ⟨_,aW rfl,gx (i64.wrap (b7+1)) h⟩)
   .refine cP (df 0 _ (dj 0 _ (bW _ (db _ (.inl ?_)))));refine ws _ ?_;exact au (ag _ (.inl (aw [.bool true])))
  obtain⟨n,h⟩:=cC h;exact cW (.inr ⟨_,aW rfl,gM n 0 h⟩)
theorem Zr (a0 J r) (h:Cd a0 J=some r):aV af 130 [.ref (bC a0),.ref (bC J)] (.bool r) []:=by
 refine bs [0,1] [.tmp 4] Tryz.func130 c130 (λbn ag bm=>?_);refine ws _ ?_;rcases dc h with⟨fY,h⟩|⟨fY,h⟩
 .rcases dc h with⟨bw,h⟩|⟨bw,h⟩
  .obtain⟨U,cv,h⟩:=aj h;refine lS (R fY bw) (Zq a0.bV J.bV _ cv) _ ?_;exact au (ag _ (.inl (aw [.bool U])))
  .refine oT (R fY bw) _ ?_;exact au (ag _ (.inl (aw [.bool false])))
 .refine oT fY _ ?_;exact au (ag _ (.inl (aw [.bool false])))
theorem aou (a0 J r) (h:JF a0 J=some r):aV af 127 [.ak 4 (a0.map c8),c8 J] (.ak 4 (r.map c8)) [.hole,.hole]:=by
 refine bs [0,1] [.tmp 4] Tryz.func127 c127 (λbn ag bm=>?_);refine ws _ ?_;refine az ag (λ_ bI a_ ah=>?_);refine ws _ ?_;refine bc a_ (λfy _ bN bw _=>?_);show bj af (.loop ?ft) _ _;have fV:∀n dT,Ce a0 J n dT=some r->cF af ?ft fy (aq [(0,.ak 4 (a0.map c8)),(3,.aQ (c8 J)),(5,.int .i64 dT)]):=by
  refine cZ (λ_ fl dT h=>cX bN (λ_ dZ c6 bo=>?_));refine az c6 (λ_ db _ b0=>?_);refine ws _ ?_;refine aD h (λbW h=>?_) (λbW h=>?_)
  .refine aI (db _ (.inl ?_));refine az c6 (λ_ cV cb _=>?_);refine bc cb (λ_ b5 cx _ _=>?_);obtain⟨U,eJ,h⟩:=aj h;rcases dc h with⟨e1,h⟩|⟨e1,h⟩
   .obtain⟨ah,dp,h⟩:=aj h;refine iT rfl (h7 [(0,.ak 4 (a0.map c8)),(3,.aQ (c8 J)),(5,.int .i64 dT),(27,.bool ah)] (λP bq=>?_) ?_)
    ·(try simp only[cU.down,simprocAttr,eJ,dy eJ,e1]);refine lI (Zr U.Next J.Next _ dp) rfl rfl (by simp only[cU.down,simprocAttr,eJ,dy eJ,e1,YX.down]<;>rfl) rfl (.inr (by rfl)) ?_;simp only[cU.down,simprocAttr,eJ,dy eJ,e1];refine⟨hE (by kernel_rfl),?_⟩;exact b3 (R eJ (R (dy eJ) e1))
    refine aD h (λeB h=>?_) (λeB h=>?_)
    .refine ws _ ?_;exact au (cx _ (.inl (km [.ak 4 (a0.map c8)] rfl (by cases gk h;rfl) (by decide) (kM (dO (dO (kN)))))))
    .refine aI (b5 _ (cV _ (.inl ?_)));refine wr _ ?_;exact dZ _ (.inr ⟨_,aW rfl,fl (i64.wrap (dT+1)) h⟩)
   .refine oT (R eJ (R (dy eJ) e1)) _ ?_;refine n4 rfl ?_;refine aI (b5 _ (cV _ (.inl ?_)));refine wr _ ?_;exact dZ _ (.inr ⟨_,aW rfl,fl (i64.wrap (dT+1)) h⟩)
  .refine cP (b0 0 _ (bo 0 _ (bw _ (bI _ (.inl ?_)))));obtain⟨RO,gZ,h⟩:=aj h;(try simp only[fD.down,Nat.zero_add,Nat.add_zero,reduceAdd]at gZ);refine cR (R (show∀s,dS af s 105 1 [(0,.agg [.str J.Label,.agg [.int .i64 J.Next.cE,.int .i64 J.Next.Part,.slice (J.Next.bV.map a1)]])]=some (.ak 4 [.agg [.str J.Label,.agg [.int .i64 J.Next.cE,.int .i64 J.Next.Part,.slice (J.Next.bV.map a1)]]],s)from λs=>by kernel_rfl) (R (@kn af 105 105 110 rfl rfl) (R @ko (R @kp (R @gI (R @all_cons (R @all_nil (R gZ (@jN _ c8 4 (λ_=>rfl)))))))))) [(4,.ak 4 ((a0++[J]).map c8))] ?_;exact au (ag _ (.inl (km [.ak 4 ((a0++[J]).map c8)] rfl (by cases gk h;rfl) (by decide) (kM (dO (dO (kN)))))))
 obtain⟨n,h⟩:=cC h;exact cW (.inr ⟨_,aW rfl,fV n 0 h⟩)
theorem aov (ma:azx->Int->Int->aze->azD->Option azD) (Lc:∀a0 J a2 a3 a4 r,ma a0 J a2 a3 a4=some r->aV af 89 [.slice (a0.map bg),.int .i64 J,.int .i64 a2,.slice (a3.map a1),.ak 4 (a4.map c8)] (.ak 4 (r.map c8)) [.hole,.hole,.hole,.hole,.hole]) (a0 J a2 a3 a4 r) (h:x2 ma a0 J a2 a3 a4=some r):aV af 89 [.slice (a0.map bg),.int .i64 J,.int .i64 a2,.slice (a3.map a1),.ak 4 (a4.map c8)] (.ak 4 (r.map c8)) [.hole,.hole,.hole,.hole,.hole]:=by
 refine bs [0,1,2,3] [.tmp 10] Tryz.func89 akq (λbn ag bm=>?_);refine ws _ ?_;obtain⟨U,aM,h⟩:=aj h;refine cR aM _ ?_;obtain⟨ah,cv,h⟩:=aj h;refine cR cv _ ?_;refine az ag (λ_ db cO b0=>?_);refine ws _ ?_;refine aD h (λbW h=>?_) (λbW h=>?_)
 .refine ws _ ?_;exact au (cO _ (.inl (km [.ak 4 (a4.map c8)] rfl (by cases gk h;rfl) (by decide) (kM (dO (dO (dO (dO (dO (kN))))))))))
 .refine aI (db _ (.inl ?_));have Ae:∀Cf,zF ma a0 J a2 a3 Cf=some r->bj af Ym bn (aq [(0,.slice (a0.map bg)),(1,.int .i64 J),(2,.int .i64 a2),(3,.slice (a3.map a1)),(4,.ak 4 (Cf.map c8))]):=by
   intro Cf h;refine ws _ ?_;exact au (ag _ (.inl (km [.ak 4 (Cf.map c8)] rfl (by cases gk h;rfl) (by decide) (kM (dO (dO (dO (dO (dO (kN))))))))))
  refine az ag (λ_ b5 cx df=>?_);refine ws _ ?_;refine bc cx (λR2 fb e5 _ lM=>?_);refine ws _ ?_;refine aD h (λeB h=>?_) (λeB h=>?_)
  .obtain⟨aK,dI,h⟩:=aj h;refine ea (R (@mP af 72 [(2,0),(2,1),(54,2)] [(.int .i64 0),(.int .i64 0),.a8] rfl rfl (by kernel_rfl)) (R @lJ (R @lK (R @ee (R @gI (R @List.nil_append.{0} @List.cons_append.{0})))))) (RX a3 _ dI) _ ?_;have Zs:∀zG zH zI,F3 ma a3 a4 ah zG zH zI=some r->bj af Yk R2 (aq [(3,.slice (a3.map a1)),(4,.ak 4 (a4.map c8)),(12,.aQ (ei ah)),(13,.aQ (.agg [.int .i64 zG,.int .i64 zH,.ak 1 (zI.map a1)]))]):=by
    intro zG zH zI h;obtain⟨bd,gZ,h⟩:=aj h;obtain⟨bo,h1,h⟩:=aj h;obtain⟨b0,gN,h⟩:=aj h;refine iT rfl (h7 [(10,.ak 4 (b0.map c8))] (λP bq=>?_) ?_)
    ·(try simp only[cU.down,simprocAttr,K2.down,ed,dK,I.shares]);refine hx (Zl ah.cL a3 _ gZ) rfl rfl rfl rfl (.inl (by rfl)) ?_;simp only[cU.down,simprocAttr,K2.down,ed,dK,I.shares];refine hx (Zp ah.Name bd _ h1) rfl rfl (by simp only[cU.down,simprocAttr, @mP af 110 [(9,0),(72,1)] [(.str []),(.agg [(.int .i64 0),(.int .i64 0),.a8])] rfl rfl (by kernel_rfl),ed,lJ,dK,lK,ee,gI,List.nil_append,List.cons_append,oa,n_,I.shares,cS,n9, @bZ _ a1 a1 (λ_=>j_ _),h8,h9,h_,cS, @bZ _ a1 a1 (λ_=>j_ _)]<;>rfl) rfl (.inr (by rfl)) ?_;simp only[cU.down,simprocAttr,K2.down,ed,dK,I.shares];refine N1 [⟨.h 4 [],true,_,.hole⟩,⟨.agg [.str bo,.agg [.int .i64 zG,.int .i64 zH,.slice (zI.map a1)]],false,_,.hole⟩] (aou a4 (bb.mk bo (bp.mk zG zH zI)) _ gN) rfl rfl rfl (by simp only[cU.down,simprocAttr, @mP af 110 [(9,0),(72,1)] [(.str []),(.agg [(.int .i64 0),(.int .i64 0),.a8])] rfl rfl (by kernel_rfl),ed,lJ,dK,lK,ee,gI,List.nil_append,List.cons_append,oa,n_,I.shares,cS,n9, @bZ _ a1 a1 (λ_=>j_ _),pj,pP,pQ,h8,h9,h_,cS,or_true,true_or, @bZ _ c8 c8 (λ_=>Dl _)]) rfl rfl (.inl rfl) ?_;simp only[cU.down,simprocAttr, @mP af 110 [(9,0),(72,1)] [(.str []),(.agg [(.int .i64 0),(.int .i64 0),.a8])] rfl rfl (by kernel_rfl),ed,lJ,dK,lK,ee,gI,List.nil_append,List.cons_append,oa,n_,I.shares,cS,n9, @bZ _ a1 a1 (λ_=>j_ _),n7];refine⟨hE (by kernel_rfl),?_⟩;exact b3 K2.down
    exact au (e5 _ (.inl (km [.ak 4 (b0.map c8)] rfl (by cases gk h;rfl) (by decide) (kM (dO (dO (dO (dO (dO (kN))))))))))
   refine az e5 (λ_ rR _ _=>?_);obtain⟨br,lx,h⟩:=aj h;refine cR lx _ ?_;refine aD h (λot h=>?_) (λot h=>?_)
   .obtain⟨cT,tc,h⟩:=aj h;refine YU (R lx (R (@mP af 72 [(2,0),(2,1),(54,2)] [(.int .i64 0),(.int .i64 0),.a8] rfl rfl (by kernel_rfl)) (R @lJ (R @lK (R @ee (R @gI (R @List.nil_append.{0} @List.cons_append.{0}))))))) (Zl br.cL a3 _ tc) _ ?_;exact rR _ (.inr ⟨_,aW rfl,Zs br.Number 0 cT h⟩)
   .exact aI (rR _ (.inr ⟨_,aW rfl,Zs J (i64.wrap (a2+1)) aK h⟩))
  .refine ws _ ?_;refine aD h (λiq h=>?_) (λiq h=>?_)
   .obtain⟨dj,rS,h⟩:=aj h;refine eb (cr [(0,.slice (a0.map bg)),(1,.int .i64 J),(2,.int .i64 a2),(3,.slice (a3.map a1)),(4,.ak 4 (dj.map c8)),(11,.slice (U.Body.map ei))] (λP bq=>?_) ?_)
    ·(try simp only[aN.down,simprocAttr]);refine oI [⟨.slice (a0.map bg),false,_,.hole⟩,⟨.int .i64 J,false,_,.hole⟩,⟨.int .i64 (i64.wrap (a2+1)),false,_,.hole⟩,⟨.slice (a3.map a1),false,_,.hole⟩,⟨.h 4 [],true,_,.hole⟩] (Lc a0 J (i64.wrap (a2+1)) a3 a4 _ rS) rfl rfl rfl (by simp only[aN.down,simprocAttr,Q8.down]) rfl rfl (.inl rfl) ?_;simp only[aN.down,simprocAttr,n7];exact b3 trivial
    obtain⟨df,lU,h⟩:=aj h;obtain⟨eA,jo,h⟩:=aj h;refine eb (cr [(10,.ak 4 (eA.map c8))] (λP bq=>?_) ?_)
    ·(try simp only[aN.down,simprocAttr]);refine dk (Zb U.Body (i64.wrap (a2+1)) _ lU) rfl rfl rfl rfl (.inl (by rfl)) ?_;simp only[aN.down,simprocAttr];refine oI [⟨.slice (a0.map bg),false,_,.hole⟩,⟨.int .i64 J,false,_,.hole⟩,⟨.int .i64 df,false,_,.hole⟩,⟨.slice (a3.map a1),false,_,.hole⟩,⟨.h 4 [],true,_,.hole⟩] (Lc a0 J df a3 dj _ jo) rfl rfl rfl (by simp only[aN.down,simprocAttr,Q8.down]) rfl rfl (.inl rfl) ?_;simp only[aN.down,simprocAttr,n7];exact b3 trivial
    exact au (e5 _ (.inl (km [.ak 4 (eA.map c8)] rfl (by cases gk h;rfl) (by decide) (kM (dO (dO (dO (dO (dO (kN))))))))))
   .refine ws _ ?_;refine aD h (λnN h=>?_) (λnN h=>?_)
    .obtain⟨kq,tm,h⟩:=aj h;obtain⟨lM,As,h⟩:=aj h;refine ea tm (Zk kq a3 _ As) _ ?_;refine aD h (λHm h=>?_) (λHm h=>?_)
     .obtain⟨jj,Lb,h⟩:=aj h;refine eb (cr [(10,.ak 4 (jj.map c8))] (λP bq=>?_) ?_)
      ·(try simp only[aN.down,simprocAttr]);refine oI [⟨.slice (a0.map bg),false,_,.hole⟩,⟨.int .i64 J,false,_,.hole⟩,⟨.int .i64 (i64.wrap (a2+1)),false,_,.hole⟩,⟨.slice (a3.map a1),false,_,.hole⟩,⟨.h 4 [],true,_,.hole⟩] (Lc a0 J (i64.wrap (a2+1)) a3 a4 _ Lb) rfl rfl rfl (by simp only[aN.down,simprocAttr,Q8.down]) rfl rfl (.inl rfl) ?_;simp only[aN.down,simprocAttr,n7];exact b3 trivial
      exact au (e5 _ (.inl (km [.ak 4 (jj.map c8)] rfl (by cases gk h;rfl) (by decide) (kM (dO (dO (dO (dO (dO (kN))))))))))
     .exact aI (fb _ (b5 _ (.inr ⟨_,aW rfl,Ae a4 h⟩)))
    .refine ws _ ?_;refine aD h (λwG h=>?_) (λwG h=>?_)
     .refine ws _ ?_;refine bc e5 (λaow _ wJ yn _=>?_);have Hf:∀n uz k4,Cg ma a0 J a2 a3 ah n uz k4=some r->cF af Yl aow (aq [(0,.slice (a0.map bg)),(1,.int .i64 J),(2,.int .i64 a2),(3,.slice (a3.map a1)),(4,.ak 4 (uz.map c8)),(12,.aQ (ei ah)),(14,.int .i64 k4)]):=by
       refine cZ (λ_ Hg uz k4 h=>cX wJ (λ_ p4 rO aox=>?_));refine az rO (λ_ aoy _ aoz=>?_);refine ws _ ?_;refine aD h (λR3 h=>?_) (λR3 h=>?_)
       .refine aI (aoy _ (.inl ?_));refine az rO (λ_ R4 Ld _=>?_);refine bc Ld (λ_ R5 _ _ _=>?_);obtain⟨gT,wN,h⟩:=aj h;obtain⟨ayF,ov,h⟩:=aj h;(try simp only[fD.down,Nat.zero_add,Nat.add_zero,reduceAdd]at ov);obtain⟨ic,Hn,h⟩:=aj h;refine jg (cr [(0,.slice (a0.map bg)),(1,.int .i64 J),(2,.int .i64 a2),(3,.slice (a3.map a1)),(4,.ak 4 (ic.map c8)),(12,.aQ (ei ah)),(14,.int .i64 k4)] (λP bq=>?_) ?_)
        ·(try simp only[aN.down,simprocAttr,(show∀s,dS af s 54 1 [(0,.int .i64 k4)]=some (.ak 1 [.int .i64 k4],s)from λs=>by kernel_rfl),Dm.down,ov,I.shares]);refine dk (RX a3 _ wN) rfl rfl rfl rfl (.inl (by rfl)) ?_;simp only[aN.down,simprocAttr,(show∀s,dS af s 54 1 [(0,.int .i64 k4)]=some (.ak 1 [.int .i64 k4],s)from λs=>by kernel_rfl),Dm.down,ov,I.shares];refine oI [⟨.slice (a0.map bg),false,_,.hole⟩,⟨.int .i64 J,false,_,.hole⟩,⟨.int .i64 (i64.wrap (a2+1)),false,_,.hole⟩,⟨.slice ((gT++[k4]).map a1),false,_,.hole⟩,⟨.h 4 [],true,_,.hole⟩] (Lc a0 J (i64.wrap (a2+1)) (gT++[k4]) uz _ Hn) rfl rfl (by simp only[aN.down,simprocAttr,(show∀s,dS af s 54 1 [(0,.int .i64 k4)]=some (.ak 1 [.int .i64 k4],s)from λs=>by kernel_rfl),YY.down,ov,I.shares]) (by simp only[aN.down,simprocAttr,(show∀s,dS af s 54 1 [(0,.int .i64 k4)]=some (.ak 1 [.int .i64 k4],s)from λs=>by kernel_rfl), @kn af 54 54 2 rfl rfl,ko,kp,gI,all_cons,all_nil,ov, @jN _ a1 1 (λ_=>rfl),oa,n_,I.shares,cS,n9, @bZ _ a1 a1 (λ_=>j_ _),pj,pP,pQ,h8,h9,h_,cS,or_true,true_or, @bZ _ c8 c8 (λ_=>Dl _)]) rfl rfl (.inl rfl) ?_;simp only[aN.down,simprocAttr,(show∀s,dS af s 54 1 [(0,.int .i64 k4)]=some (.ak 1 [.int .i64 k4],s)from λs=>by kernel_rfl),YZ.down,ov,I.shares];exact b3 (R (show∀s,dS af s 54 1 [(0,.int .i64 k4)]=some (.ak 1 [.int .i64 k4],s)from λs=>by kernel_rfl) (R Dm.down ov))
        refine R5 _ (R4 _ (.inl ?_));refine wr _ ?_;exact p4 _ (.inr ⟨_,aW rfl,Hg ic (i64.wrap (k4+1)) h⟩)
       .exact cP (aoz 1 _ (aox 1 _ (yn _ (fb _ (b5 _ (.inr ⟨_,aW rfl,Ae uz h⟩))))))
      obtain⟨n,h⟩:=cC h;exact cW (.inr ⟨_,aW rfl,Hf n a4 0 h⟩)
     .exact aI (fb _ (b5 _ (.inr ⟨_,aW rfl,Ae a4 h⟩)))
theorem aoA:∀n a0 J a2 a3 a4 r,rk n a0 J a2 a3 a4=some r->aV af 89 [.slice (a0.map bg),.int .i64 J,.int .i64 a2,.slice (a3.map a1),.ak 4 (a4.map c8)] (.ak 4 (r.map c8)) [.hole,.hole,.hole,.hole,.hole]:=by
 intro n;induction n with
 |zero=>intro a0 J a2 a3 a4 r h;cases(show none=some r from h)
 |succ n ih=>intro a0 J a2 a3 a4 r h;exact aov (rk n) ih a0 J a2 a3 a4 r h
theorem aoB (a0 J a2 a3 a4 r) (h:JG a0 J a2 a3 a4=some r):aV af 89 [.slice (a0.map bg),.int .i64 J,.int .i64 a2,.slice (a3.map a1),.ak 4 (a4.map c8)] (.ak 4 (r.map c8)) [.hole,.hole,.hole,.hole,.hole]:=by
 obtain⟨n,h⟩:=cC h;exact aoA n a0 J a2 a3 a4 r h
theorem Zt (a0 J r) (h:uA a0 J=some r):aV af 51 [.slice (a0.map bg),.ref (bC J)] (.tuple [.ak 4 (r.1.map c8),.bool r.2]) []:=by
 refine bs [0,1] [.tmp 4,.tmp 5] Tryz.func51 c51 (λbn ag bm=>?_);refine ws _ ?_;obtain⟨U,aM,h⟩:=aj h;refine iT rfl (h7 [(6,.ak 4 (U.map c8))] (λP bq=>?_) ?_)
 ·(try simp only[cU.down,simprocAttr,(show∀s,dS af s 105 0 []=some (.ak 4 [],s)from λs=>by kernel_rfl)]);refine N1 [⟨.slice (a0.map bg),false,_,.hole⟩,⟨.int .i64 J.cE,false,_,.hole⟩,⟨.int .i64 J.Part,false,_,.hole⟩,⟨.slice (J.bV.map a1),false,_,.hole⟩,⟨.h 20 [],true,_,.hole⟩] (aoB a0 J.cE J.Part J.bV [] _ aM) rfl rfl rfl (by simp only[cU.down,simprocAttr,(show∀s,dS af s 105 0 []=some (.ak 4 [],s)from λs=>by kernel_rfl),pj,pP,pQ,h8,h9,h_,cS,or_true,true_or, @bZ _ c8 c8 (λ_=>Dl _)]) rfl rfl (.inl rfl) ?_;simp only[cU.down,simprocAttr,(show∀s,dS af s 105 0 []=some (.ak 4 [],s)from λs=>by kernel_rfl),n7];refine⟨hE (by kernel_rfl),?_⟩;exact b3 (show∀s,dS af s 105 0 []=some (.ak 4 [],s)from λs=>by kernel_rfl)
 refine ws _ ?_;exact au (ag _ (.inl (aw [.ak 4 (U.map c8),.bool (decide ((U.length:Int)<=200))])))
theorem Le (a0 r) (h:sR a0=some r):aV af 53 [.str a0] (.str r) []:=by
 refine bs [0] [.tmp 2] Tryz.func53 c53 (λbn ag bm=>?_);refine ws _ ?_;obtain⟨U,aM,h⟩:=aj h;obtain⟨ah,bT,h⟩:=aj h;refine ea bT (Zi a0 _ aM) _ ?_;exact au (ag _ (.inl (aw [.str ah])))
theorem R6 (a0 J r) (h:Ci a0 J=some r):aV af 52 [.slice (a0.map aX),.str J] (.int .i64 r) []:=by
 refine bs [0,1] [.tmp 4] Tryz.func52 akr (λbn ag bm=>?_);refine ws _ ?_;refine az ag (λ_ bI a_ _=>?_);refine ws _ ?_;refine bc a_ (λfy _ bN bw _=>?_);show bj af (.loop ?ft) _ _;have fV:∀n dT,Ch a0 J n dT=some r->cF af ?ft fy (aq [(0,.slice (a0.map aX)),(1,.str J),(5,.int .i64 dT)]):=by
  refine cZ (λ_ fl dT h=>cX bN (λ_ dZ c6 bo=>?_));refine az c6 (λ_ db _ b0=>?_);refine ws _ ?_;refine aD h (λbW h=>?_) (λbW h=>?_)
  .refine aI (db _ (.inl ?_));refine az c6 (λ_ cV cb _=>?_);refine bc cb (λ_ b5 cx _ _=>?_);obtain⟨U,eJ,h⟩:=aj h;refine cR eJ _ ?_;refine aD h (λe1 h=>?_) (λe1 h=>?_)
   .refine ws _ ?_;exact au (cx _ (.inl (aw [.int .i64 dT])))
   .refine aI (b5 _ (cV _ (.inl ?_)));refine wr _ ?_;exact dZ _ (.inr ⟨_,aW rfl,fl (i64.wrap (dT+1)) h⟩)
  .refine cP (b0 0 _ (bo 0 _ (bw _ (bI _ (.inl ?_)))));refine ws _ ?_;exact au (ag _ (.inl (aw [.int .i64 (-1)])))
 obtain⟨n,h⟩:=cC h;exact cW (.inr ⟨_,aW rfl,fV n 0 h⟩)
theorem Du (a0 r) (h:wa a0=some r):aV af 54 [.slice (a0.map bC)] (.ak 3 (r.map eO)) []:=by
 refine bs [0] [.tmp 2] Tryz.func54 aks (λbn ag bm=>?_);refine ws _ ?_;refine cR (show∀s,dS af s 41 0 []=some (.ak 3 [],s)from λs=>by kernel_rfl) _ ?_;refine az ag (λ_ eM cN _=>?_);refine ws _ ?_;refine bc cN (λqL _ c6 cI _=>?_);show bj af (.loop ?hQ) _ _;have ik:∀n bP bB,Cj a0 n bP bB=some r->cF af ?hQ qL (aq [(0,.slice (a0.map bC)),(3,.ak 3 (bP.map eO)),(4,.int .i64 bB)]):=by
  refine cZ (λ_ il bP bB h=>cX c6 (λ_ db cO b0=>?_));refine az cO (λ_ dn _ br=>?_);refine ws _ ?_;refine aD h (λeP h=>?_) (λeP h=>?_)
  .refine aI (dn _ (.inl ?_));refine az cO (λ_ b5 cx _=>?_);refine bc cx (λ_ eu _ _ _=>?_);obtain⟨U,e0,h⟩:=aj h;obtain⟨ah,dp,h⟩:=aj h;obtain⟨u16,e6,h⟩:=aj h;(try simp only[fD.down,Nat.zero_add,Nat.add_zero,reduceAdd]at e6);refine NR rfl (h7 [(0,.slice (a0.map bC)),(3,.ak 3 ((bP++[(bp.mk U.cE U.Part ah)]).map eO)),(4,.int .i64 bB)] (λP bq=>?_) ?_)
   ·(try simp only[cU.down,simprocAttr,e0,Q9.down,ed,dK,n6,e6]);refine hx (RX U.bV _ dp) rfl rfl rfl rfl (.inl (by rfl)) ?_;simp only[cU.down,simprocAttr,e0,Q9.down,ed,dK,n6,e6];refine⟨hE (by kernel_rfl),?_⟩;(try simp only[ka.down,simprocAttr,e0,Q9.down,ed,dK,n6,e6]at bq⊢);exact bq
   refine eu _ (b5 _ (.inl ?_));refine wr [(0,.slice (a0.map bC)),(3,.ak 3 ((bP++[(bp.mk U.cE U.Part ah)]).map eO)),(4,.int .i64 (i64.wrap (bB+1)))] ?_;exact db _ (.inr ⟨_,aW rfl,il (bP++[(bp.mk U.cE U.Part ah)]) (i64.wrap (bB+1)) h⟩)
  .refine cP (br 0 _ (b0 0 _ (cI _ (eM _ (.inl ?_)))));refine ws _ ?_;exact au (ag _ (.inl (aw [.ak 3 (bP.map eO)])))
 obtain⟨n,h⟩:=cC h;exact cW (.inr ⟨_,aW rfl,ik n [] 0 h⟩)
theorem R7 (a0 J r) (h:Ck a0 J=some r):aV af 56 [.ref (fk a0),.str J] (.str r) []:=by
 refine bs [0,1] [.tmp 4] Tryz.func56 QX (λbn ag bm=>?_);refine ws _ ?_;refine az ag (λ_ bI a_ ah=>?_);obtain⟨U,bT,h⟩:=aj h;obtain⟨ah,cv,h⟩:=aj h;refine iT rfl (h7 [(1,.str J),(12,.bool (decide (0<=ah)))] (λP bq=>?_) ?_)
 ·(try simp only[cU.down,simprocAttr]);refine hx (Le J _ bT) rfl rfl rfl rfl (.inl (by rfl)) ?_;simp only[cU.down,simprocAttr];refine hx (R6 a0.cy U _ cv) rfl rfl rfl rfl (.inl (by rfl)) ?_;simp only[cU.down,simprocAttr];refine⟨hE (by kernel_rfl),?_⟩;exact b3 trivial
 refine aD h (λcn h=>?_) (λcn h=>?_)
 .refine ws _ ?_;exact au (a_ _ (.inl (aw [.str ([116,97,117]:azc)])))
 .refine aI (bI _ (.inl ?_));refine ws _ ?_;exact au (ag _ (.inl (aw [.str J])))
theorem aoC (a0 J r) (h:JH a0 J=some r):aV af 92 [.slice (a0.map bC),.slice (J.map bC)] (.bool r) []:=by
 refine bs [0,1] [.tmp 4] Tryz.func92 akt (λbn ag bm=>?_);refine ws _ ?_;refine az ag (λ_ bI a_ ah=>?_);refine ws _ ?_;refine aD h (λbw h=>?_) (λbw h=>?_)
 .refine ws _ ?_;exact au (a_ _ (.inl (aw [.bool false])))
 .refine aI (bI _ (.inl ?_));refine az ag (λ_ db cO _=>?_);refine ws _ ?_;refine bc cO (λim _ gK bW _=>?_);show bj af (.loop ?gw) _ _;have gM:∀n b7,Cl a0 J n b7=some r->cF af ?gw im (aq [(0,.slice (a0.map bC)),(1,.slice (J.map bC)),(5,.int .i64 b7)]):=by
   refine cZ (λ_ gx b7 h=>cX gK (λ_ cV cb dj=>?_));refine az cb (λ_ b5 _ df=>?_);refine ws _ ?_;refine aD h (λeV h=>?_) (λeV h=>?_)
   .refine aI (b5 _ (.inl ?_));refine az cb (λ_ fb e5 _=>?_);refine bc e5 (λ_ ej dL _ _=>?_);obtain⟨U,cp,h⟩:=aj h;obtain⟨ah,dI,h⟩:=aj h;obtain⟨aK,eT,h⟩:=aj h;refine lS (R cp dI) (Zr U ah _ eT) _ ?_;refine aD h (λfF h=>?_) (λfF h=>?_)
    .refine ws _ ?_;exact au (dL _ (.inl (aw [.bool false])))
    .refine aI (ej _ (fb _ (.inl ?_)));refine wr _ ?_;exact cV _ (.inr ⟨_,aW rfl,gx (i64.wrap (b7+1)) h⟩)
   .refine cP (df 0 _ (dj 0 _ (bW _ (db _ (.inl ?_)))));refine ws _ ?_;exact au (ag _ (.inl (aw [.bool true])))
  obtain⟨n,h⟩:=cC h;exact cW (.inr ⟨_,aW rfl,gM n 0 h⟩)
theorem R8 (a0 J r) (h:zJ a0 J=some r):aV af 55 [.ak 4 (a0.map fw),fw J] (.ak 4 (r.map fw)) [.hole,.hole]:=by
 refine bs [0,1] [.tmp 4] Tryz.func55 QY (λbn ag bm=>?_);refine ws _ ?_;refine az ag (λ_ bI a_ ah=>?_);refine ws _ ?_;refine bc a_ (λfy _ bN bw _=>?_);show bj af (.loop ?ft) _ _;have fV:∀n dT,Cm a0 J n dT=some r->cF af ?ft fy (aq [(0,.ak 4 (a0.map fw)),(3,.aQ (fw J)),(5,.int .i64 dT)]):=by
  refine cZ (λ_ fl dT h=>cX bN (λ_ dZ c6 bo=>?_));refine az c6 (λ_ db _ b0=>?_);refine ws _ ?_;refine aD h (λbW h=>?_) (λbW h=>?_)
  .refine aI (db _ (.inl ?_));refine az c6 (λ_ cV cb _=>?_);refine bc cb (λ_ b5 cx _ _=>?_);obtain⟨U,eJ,h⟩:=aj h;refine cR (R eJ (dy eJ)) _ ?_;rcases dc h with⟨gL,h⟩|⟨gL,h⟩
   .rcases dc h with⟨eB,h⟩|⟨eB,h⟩
    .rcases dc h with⟨lV,h⟩|⟨lV,h⟩
     .obtain⟨ah,dI,h⟩:=aj h;refine ea (R gL (R eB lV)) (aoC U.State J.State _ dI) _ ?_;refine aD h (λhr h=>?_) (λhr h=>?_)
      .refine ws _ ?_;exact au (cx _ (.inl (km [.ak 4 (a0.map fw)] rfl (by cases gk h;rfl) (by decide) (kM (dO (dO (kN)))))))
      .refine aI (b5 _ (cV _ (.inl ?_)));refine wr _ ?_;exact dZ _ (.inr ⟨_,aW rfl,fl (i64.wrap (dT+1)) h⟩)
     .refine cR (R gL (R eB lV)) _ ?_;refine n4 rfl ?_;refine aI (b5 _ (cV _ (.inl ?_)));refine wr _ ?_;exact dZ _ (.inr ⟨_,aW rfl,fl (i64.wrap (dT+1)) h⟩)
    .refine cR (R gL eB) _ ?_;refine n4 rfl ?_;refine aI (b5 _ (cV _ (.inl ?_)));refine wr _ ?_;exact dZ _ (.inr ⟨_,aW rfl,fl (i64.wrap (dT+1)) h⟩)
   .refine cR gL _ ?_;refine n4 rfl ?_;refine aI (b5 _ (cV _ (.inl ?_)));refine wr _ ?_;exact dZ _ (.inr ⟨_,aW rfl,fl (i64.wrap (dT+1)) h⟩)
  .refine cP (b0 0 _ (bo 0 _ (bw _ (bI _ (.inl ?_)))));obtain⟨aot,h2,h⟩:=aj h;(try simp only[fD.down,Nat.zero_add,Nat.add_zero,reduceAdd]at h2);refine cR (R (show∀s,dS af s 64 1 [(0,.agg [.str J.Label,.int .i64 J.fa,.int .i64 J.Second,.slice (J.State.map bC)])]=some (.ak 4 [.agg [.str J.Label,.int .i64 J.fa,.int .i64 J.Second,.slice (J.State.map bC)]],s)from λs=>by kernel_rfl) (R (@kn af 64 64 117 rfl rfl) (R @ko (R @kp (R @gI (R @all_cons (R @all_nil (R h2 (@jN _ fw 4 (λ_=>rfl)))))))))) [(4,.ak 4 ((a0++[J]).map fw))] ?_;exact au (ag _ (.inl (km [.ak 4 ((a0++[J]).map fw)] rfl (by cases gk h;rfl) (by decide) (kM (dO (dO (kN)))))))
 obtain⟨n,h⟩:=cC h;exact cW (.inr ⟨_,aW rfl,fV n 0 h⟩)
theorem aoD (uB:azz->azc->azc->Option azc) (aoE:∀a0 J a2 r,uB a0 J a2=some r->aV af 95 [.slice (a0.map bS),.str J,.str a2] (.str r) []) (a0 J a2 r) (h:zK uB a0 J a2=some r):aV af 95 [.slice (a0.map bS),.str J,.str a2] (.str r) []:=by
 refine bs [0,1,2] [.tmp 6] Tryz.func95 aku (λbn ag bm=>?_);refine ws _ ?_;refine az ag (λ_ bI a_ ah=>?_);refine ws _ ?_;refine aD h (λbw h=>?_) (λbw h=>?_)
 .obtain⟨U,ck,h⟩:=aj h;refine cu (aoE a0 a2 J _ ck) _ ?_;exact au (a_ _ (.inl (aw [.str U])))
 .refine aI (bI _ (.inl ?_));refine az ag (λ_ dn el _=>?_);refine ws _ ?_;refine bc el (λjm _ cb eP _=>?_);show bj af (.loop ?gw) _ _;have gM:∀n sS,Cn uB a0 J a2 n sS=some r->cF af ?gw jm (aq [(0,.slice (a0.map bS)),(1,.str J),(2,.str a2),(7,.int .i64 sS)]):=by
   refine cZ (λ_ gx sS h=>cX cb (λ_ b5 cx df=>?_));refine az cx (λ_ eu _ eA=>?_);refine ws _ ?_;refine aD h (λe1 h=>?_) (λe1 h=>?_)
   .refine aI (eu _ (.inl ?_));refine az cx (λ_ ej dL _=>?_);refine bc dL (λ_ fE fK _ _=>?_);obtain⟨ah,dI,h⟩:=aj h;refine K1 (ah.Left==J) dI [(0,.slice (a0.map bS)),(1,.str J),(2,.str a2),(7,.int .i64 sS),(36,.bool ((ah.Left==J)&&(ah.cY==a2)))] ?_;refine aD h (λhr h=>?_) (λhr h=>?_)
    .refine cR dI _ ?_;exact au (fK _ (.inl (aw [.str ah.Result])))
    .refine aI (fE _ (ej _ (.inl ?_)));refine wr _ ?_;exact b5 _ (.inr ⟨_,aW rfl,gx (i64.wrap (sS+1)) h⟩)
   .refine cP (eA 0 _ (df 0 _ (eP _ (dn _ (.inl ?_)))));refine ws _ ?_;exact au (ag _ (.inl (aw [.str ([]:azc)])))
  obtain⟨n,h⟩:=cC h;exact cW (.inr ⟨_,aW rfl,gM n 0 h⟩)
theorem aoF:∀n a0 J a2 r,Co n a0 J a2=some r->aV af 95 [.slice (a0.map bS),.str J,.str a2] (.str r) []:=by
 intro n;induction n with
 |zero=>intro a0 J a2 r h;cases(show none=some r from h)
 |succ n ih=>intro a0 J a2 r h;exact aoD (Co n) ih a0 J a2 r h
theorem aoG (a0 J a2 r) (h:F4 a0 J a2=some r):aV af 95 [.slice (a0.map bS),.str J,.str a2] (.str r) []:=by
 obtain⟨n,h⟩:=cC h;exact aoF n a0 J a2 r h
theorem aoH (a0 J a2 r) (h:JI a0 J a2=some r):aV af 57 [.ref (fk a0),.str J,.str a2] (.str r) []:=by
 refine bs [0,1,2] [.tmp 6] Tryz.func57 akv (λbn ag bm=>?_);refine ws _ ?_;obtain⟨U,aM,h⟩:=aj h;refine cu (RV J _ aM) _ ?_;obtain⟨ah,cv,h⟩:=aj h;refine cu (RV a2 _ cv) _ ?_;refine az ag (λ_ db cO b0=>?_);obtain⟨aK,fh,h⟩:=aj h;refine eb (cr [(0,.ref (fk a0)),(1,.str J),(2,.str a2),(7,.ak 1 (U.1.map a1)),(25,.bool (!aK))] (λP bq=>?_) ?_)
 ·(try simp only[aN.down,simprocAttr]);refine dk (Zq U.1 ah.1 _ fh) rfl rfl (by simp only[aN.down,simprocAttr,YX.down]<;>rfl) rfl (.inr (by rfl)) ?_;simp only[aN.down,simprocAttr];exact b3 trivial
 refine aD h (λeP h=>?_) (λeP h=>?_)
 .refine ws _ ?_;exact au (cO _ (.inl (aw [.str ([]:azc)])))
 .refine aI (db _ (.inl ?_));obtain⟨bd,eJ,h⟩:=aj h;obtain⟨bo,e0,h⟩:=aj h;obtain⟨b0,dp,h⟩:=aj h;refine iT rfl (h7 [(0,.ref (fk a0)),(7,.ak 1 (U.1.map a1)),(11,.str b0)] (λP bq=>?_) ?_)
  ·(try simp only[cU.down,simprocAttr]);refine hx (Le J _ eJ) rfl rfl rfl rfl (.inl (by rfl)) ?_;simp only[cU.down,simprocAttr];refine hx (Le a2 _ e0) rfl rfl rfl rfl (.inl (by rfl)) ?_;simp only[cU.down,simprocAttr];refine hx (aoG a0.b8 bd bo _ dp) rfl rfl rfl rfl (.inl (by rfl)) ?_;simp only[cU.down,simprocAttr];refine⟨hE (by kernel_rfl),?_⟩;exact b3 trivial
  refine az ag (λ_ fE fK _=>?_);rcases dc h with⟨kS,h⟩|⟨kS,h⟩
  .refine cR kS _ ?_;refine iU rfl ?_;refine ws _ ?_;exact au (fK _ (.inl (aw [.str ([]:azc)])))
  .obtain⟨br,gb,h⟩:=aj h;refine ea kS (R6 a0.cB b0 _ gb) _ ?_;refine aD h (λga h=>?_) (λga h=>?_)
   .refine ws _ ?_;exact au (fK _ (.inl (aw [.str ([]:azc)])))
   .refine aI (fE _ (.inl ?_));obtain⟨cT,iA,h⟩:=aj h;refine eb (cr [(6,.str cT)] (λP bq=>?_) ?_)
    ·(try simp only[aN.down,simprocAttr]);refine dk (Zp b0 U.1 _ iA) rfl rfl (by simp only[aN.down,simprocAttr,K3.down]<;>rfl) rfl (.inr (by rfl)) ?_;simp only[aN.down,simprocAttr];exact b3 trivial
    exact au (ag _ (.inl (aw [.str cT])))
theorem aoI (bu bz bx bQ bR J r) (h:JN bu bz bx bQ bR J=some r):aV af 24 [.aQ (.agg [.slice (bu.map bg),.slice (bz.map dm),.slice (bx.map bS),.slice (bQ.map aX),.slice (bR.map aX)]),.slice (J.map bC)] (.tuple [.ak 4 (r.1.map fw),.bool r.2]) [.aQ (.agg [.slice (bu.map bg),.slice (bz.map dm),.slice (bx.map bS),.slice (bQ.map aX),.slice (bR.map aX)]),.hole]:=by
 refine bs [0,1] [.tmp 4,.tmp 5] Tryz.func24 akA (λbn ag bm=>?_);refine ws _ ?_;refine cR (show∀s,dS af s 64 0 []=some (.ak 4 [],s)from λs=>by kernel_rfl) _ ?_;refine cR (show∀s,dS af s 104 0 []=some (.ak 1 [],s)from λs=>by kernel_rfl) _ ?_;refine az ag (λ_ eU bN bd=>?_);refine ws _ ?_;refine bc bN (λjn _ cO cn b0=>?_);have Am:∀n gf pV,wi J bu bz bx bQ bR n gf pV=some r->cF af Yn jn (aq [(0,.aQ (.agg [.slice (bu.map bg),.slice (bz.map dm),.slice (bx.map bS),.slice (bQ.map aX),.slice (bR.map aX)])),(1,.slice (J.map bC)),(6,.ak 4 []),(7,.ak 1 (gf.map gj)),(8,.int .i64 pV)]):=by
  refine cZ (λ_ An gf pV h=>cX cO (λ_ dn el br=>?_));refine az el (λ_ hq _ cT=>?_);refine ws _ ?_;refine aD h (λeQ h=>?_) (λeQ h=>?_)
  .refine aI (hq _ (.inl ?_));refine az el (λ_ eu hM eA=>?_);refine bc hM (λ_ gY mz _ kq=>?_);obtain⟨U,dp,h⟩:=aj h;obtain⟨ah,e6,h⟩:=aj h;refine ahJ 10 11 [0,1,2,3,4,5,6,7,8,9,11,10,12] rfl rfl [(0,.aQ (.agg [.slice (bu.map bg),.slice (bz.map dm),.slice (bx.map bS),.slice (bQ.map aX),.slice (bR.map aX)])),(1,.slice (J.map bC)),(6,.ak 4 []),(7,.ak 1 (gf.map gj)),(8,.int .i64 pV),(9,.ak 4 (ah.1.map c8)),(10,.bool ah.2)] (λP bq=>?_) (λP bq=>?_) ?_
   ·(try simp only[cU.down,simprocAttr,dp,BB]);refine hx (Zt bu U _ e6) rfl rfl rfl rfl (.inl (by rfl)) ?_;simp only[cU.down,simprocAttr,dp,BB];refine⟨hE (by kernel_rfl),?_⟩;exact b3 (R dp @BB)
   .simp only[vR,List.map_cons,List.map_nil,List.getD_cons_zero,List.getD_cons_succ,simprocAttr];(try simp only[cU.down,simprocAttr,dp,BB]);refine hx (Zt bu U _ e6) rfl rfl rfl rfl (.inl (by rfl)) ?_;simp only[cU.down,simprocAttr,dp,BB];refine⟨hE (by kernel_rfl),?_⟩;exact b3 (R dp @BB)
   refine az mz (λ_ jx lT ic=>?_);refine ws _ ?_;refine aD h (λhr h=>?_) (λhr h=>?_)
   .refine ws _ ?_;exact au (lT _ (.inr ⟨[(4,.ak 4 []),(5,.bool false),(0,.aQ (.agg [.slice (bu.map bg),.slice (bz.map dm),.slice (bx.map bS),.slice (bQ.map aX),.slice (bR.map aX)]))],iV [] rfl (iN (t:=4) (d:=.a8) rfl rfl (.jf _) (by decide) (cJ rfl (cJ rfl (iW)))),km [.ak 4 [],.bool false] rfl (by cases gk h;rfl) (by decide) (kM (n8 (by cases gk h;rfl) rfl rfl rfl (dO (kN))))⟩))
   .refine aI (jx _ (.inr ⟨[(0,.aQ (.agg [.slice (bu.map bg),.slice (bz.map dm),.slice (bx.map bS),.slice (bQ.map aX),.slice (bR.map aX)])),(1,.slice (J.map bC)),(6,.ak 4 []),(7,.ak 1 (gf.map gj)),(8,.int .i64 pV),(9,.slice (ah.1.map c8)),(41,.bool (!ah.2))],iV [] rfl (cJ rfl (cJ rfl (cJ rfl (cJ rfl (cJ rfl (iN (t:=9) (d:=.ak 4 (ah.1.map c8)) (bM:=.slice (ah.1.map c8)) rfl rfl (BA rfl rfl (by simp only[cS,I.share,I.shares, @bZ _ c8 c8 (λ_=>Dl _)]<;>rfl)) (by decide) (cJ rfl (iW)))))))),?_⟩));obtain⟨aoJ,h1,h⟩:=aj h;(try simp only[fD.down,Nat.zero_add,Nat.add_zero,reduceAdd]at h1);refine tb (R (show∀s,dS af s 104 1 [(0,.slice (ah.1.map c8))]=some (.ak 1 [.slice (ah.1.map c8)],s)from λs=>by kernel_rfl) (R (@kn af 104 104 105 rfl rfl) (R @ko (R @kp (R @gI (R @all_cons (R @all_nil (R h1 (@jN _ gj 1 (λ_=>rfl)))))))))) [(0,.aQ (.agg [.slice (bu.map bg),.slice (bz.map dm),.slice (bx.map bS),.slice (bQ.map aX),.slice (bR.map aX)])),(1,.slice (J.map bC)),(6,.ak 4 []),(7,.ak 1 ((gf++[ah.1]).map gj)),(8,.int .i64 pV)] ?_;refine gY _ (eu _ (.inl ?_));refine wr [(0,.aQ (.agg [.slice (bu.map bg),.slice (bz.map dm),.slice (bx.map bS),.slice (bQ.map aX),.slice (bR.map aX)])),(1,.slice (J.map bC)),(6,.ak 4 []),(7,.ak 1 ((gf++[ah.1]).map gj)),(8,.int .i64 (i64.wrap (pV+1)))] ?_;exact dn _ (.inr ⟨_,aW rfl,An (gf++[ah.1]) (i64.wrap (pV+1)) h⟩)
  .refine cP (cT 0 _ (br 0 _ (cn _ (eU _ (.inl ?_)))));refine az ag (λ_ Hj RS ns=>?_);refine ws _ ?_;refine bc RS (λRA _ p5 ot wc=>?_);have aoK:∀n uJ uK wh,sW J bu bz bx bQ bR n uJ uK wh=some r->cF af Yq RA (aq [(0,.aQ (.agg [.slice (bu.map bg),.slice (bz.map dm),.slice (bx.map bS),.slice (bQ.map aX),.slice (bR.map aX)])),(1,.slice (J.map bC)),(6,.ak 4 (uJ.map fw)),(7,.ak 1 (uK.map gj)),(11,.int .i64 wh)]):=by
    refine cZ (λR9 aoL uJ uK wh h=>cX p5 (λ_ p3 qM rl=>?_));refine az qM (λ_ Hc _ uC=>?_);refine ws _ ?_;refine aD h (λiq h=>?_) (λiq h=>?_)
    .refine aI (Hc _ (.inl ?_));refine az qM (λ_ tf Hd _=>?_);refine bc Hd (λ_ RD RE _ _=>?_);refine ws _ ?_;refine bc RE (λaoM _ Ha jq _=>?_);have R0:∀n ib hR hL lN,x3 (sW J bu bz bx bQ bR R9) J bu bz bx bQ bR n ib hR hL lN=some r->cF af Yp aoM (aq [(0,.aQ (.agg [.slice (bu.map bg),.slice (bz.map dm),.slice (bx.map bS),.slice (bQ.map aX),.slice (bR.map aX)])),(1,.slice (J.map bC)),(6,.ak 4 (ib.map fw)),(7,.ak 1 (hR.map gj)),(11,.int .i64 hL),(12,.int .i64 lN)]):=by
      refine cZ (λaoN R1 ib hR hL lN h=>cX Ha (λaoO wE wF aoP=>?_));refine az wF (λ_ aoQ _ aoR=>?_);obtain⟨aK,tg,h⟩:=aj h;refine cR (R tg (dy tg)) _ ?_;refine aD h (λHb h=>?_) (λHb h=>?_)
      .refine aI (aoQ _ (.inl ?_));have R_:∀Cp Cq Cr Cs,F5 (sW J bu bz bx bQ bR R9) (x3 (sW J bu bz bx bQ bR R9) J bu bz bx bQ bR aoN) J bu bz bx bQ bR Cp Cq Cr Cs=some r->bj af Yo aoO (aq [(0,.aQ (.agg [.slice (bu.map bg),.slice (bz.map dm),.slice (bx.map bS),.slice (bQ.map aX),.slice (bR.map aX)])),(1,.slice (J.map bC)),(6,.ak 4 (Cp.map fw)),(7,.ak 1 (Cq.map gj)),(11,.int .i64 Cr),(12,.int .i64 Cs)]):=by
        intro Cp Cq Cr Cs h;refine wr _ ?_;exact wE _ (.inr ⟨_,aW rfl,R1 Cp Cq Cr (i64.wrap (Cs+1)) h⟩)
       refine az wF (λ_ wH yk _=>?_);refine bc yk (λ_ Ap va wI _=>?_);obtain⟨bd,Ds,h⟩:=aj h;refine cR (R tg (R (dy tg) Ds)) _ ?_;refine az va (λ_ vb _ Ho=>?_);rcases dc h with⟨yn,h⟩|⟨yn,h⟩
       .obtain⟨bo,At,h⟩:=aj h;obtain⟨b0,Sa,h⟩:=aj h;refine iT rfl (h7 [(0,.aQ (.agg [.slice (bu.map bg),.slice (bz.map dm),.slice (bx.map bS),.slice (bQ.map aX),.slice (bR.map aX)])),(1,.slice (J.map bC)),(6,.ak 4 (ib.map fw)),(7,.ak 1 (hR.map gj)),(11,.int .i64 hL),(12,.int .i64 lN),(13,.aQ (c8 bd)),(81,.bool (decide (b0<0)))] (λP bq=>?_) ?_)
        ·(try simp only[cU.down,simprocAttr,yn]);refine lI (Le bd.Label _ At) rfl rfl rfl rfl (.inl (by rfl)) ?_;simp only[cU.down,simprocAttr,yn];refine lI (R6 bQ bo _ Sa) rfl rfl rfl rfl (.inl (by rfl)) ?_;simp only[cU.down,simprocAttr,yn];refine⟨hE (by kernel_rfl),?_⟩;exact b3 yn
        refine aD h (λRs h=>?_) (λRs h=>?_)
        .exact cP (Ho 5 _ (wI _ (wH _ (.inr ⟨_,aW rfl,R_ ib hR hL lN h⟩))))
        .refine aI (vb _ (.inl ?_));obtain⟨br,wO,h⟩:=aj h;refine l9 (cr (K:=eI _) [(0,.aQ (.agg [.slice (bu.map bg),.slice (bz.map dm),.slice (bx.map bS),.slice (bQ.map aX),.slice (bR.map aX)])),(1,.slice (J.map bC)),(6,.ak 4 (ib.map fw)),(7,.ak 1 (hR.map gj)),(11,.int .i64 hL),(12,.int .i64 lN),(13,.aQ (c8 bd)),(14,.ak 3 (br.map eO))] (λP bq=>?_) (IK [(0,.aQ (.agg [.slice (bu.map bg),.slice (bz.map dm),.slice (bx.map bS),.slice (bQ.map aX),.slice (bR.map aX)])),(1,.slice (J.map bC)),(6,.ak 4 (ib.map fw)),(7,.ak 1 (hR.map gj)),(11,.int .i64 hL),(12,.int .i64 lN),(13,.aQ (c8 bd)),(14,.ak 3 (br.map bC))] (iV [] rfl (cJ rfl (cJ rfl (cJ rfl (cJ rfl (cJ rfl (cJ rfl (cJ rfl (iN (t:=14) (d:=.ak 3 (br.map eO)) (bM:=.ak 3 (br.map bC)) rfl rfl (.ak (IQ (λ_=>BA rfl rfl (pw _)) _)) (by decide) (iW)))))))))) ?_))
         ·(try simp only[aN.down,simprocAttr]);refine dk (Du J _ wO) rfl rfl rfl rfl (.inl (by rfl)) ?_;simp only[aN.down,simprocAttr];exact b3 trivial
         obtain⟨cT,yo,h⟩:=aj h;refine eb (cr [(0,.aQ (.agg [.slice (bu.map bg),.slice (bz.map dm),.slice (bx.map bS),.slice (bQ.map aX),.slice (bR.map aX)])),(1,.slice (J.map bC)),(6,.ak 4 (ib.map fw)),(7,.ak 1 (hR.map gj)),(11,.int .i64 hL),(12,.int .i64 lN),(13,.aQ (c8 bd)),(14,.ak 3 ((List.set br (Int.toNat hL) bd.Next).map bC))] (λP bq=>?_) ?_)
         .simp only[aN.down,simprocAttr,yo,dy yo,ee,dW];exact b3 (R yo (R (dy yo) @ee))
         obtain⟨dj,ov,h⟩:=aj h;obtain⟨df,Hn,h⟩:=aj h;obtain⟨eA,wP,h⟩:=aj h;refine jg (cr [(0,.aQ (.agg [.slice (bu.map bg),.slice (bz.map dm),.slice (bx.map bS),.slice (bQ.map aX),.slice (bR.map aX)])),(1,.slice (J.map bC)),(6,.ak 4 (eA.map fw)),(7,.ak 1 (hR.map gj)),(11,.int .i64 hL),(12,.int .i64 lN)] (λP bq=>?_) ?_)
         ·(try simp only[aN.down,simprocAttr,rK.down,ed,dK,I.shares]);refine dk (R7 (cM.mk bu bz bx bQ bR) bd.Label _ ov) rfl rfl (by simp only[aN.down,simprocAttr,Q_.down,ed,dK,I.shares]<;>rfl) rfl (.inr (by rfl)) ?_;simp only[aN.down,simprocAttr,rK.down,ed,dK,I.shares];refine dk (Du (List.set br (Int.toNat hL) bd.Next) _ Hn) rfl rfl (by simp only[aN.down,simprocAttr,Ra.down,ed,dK,I.shares]<;>rfl) rfl (.inr (k1 (λ_=>Dk _) _)) ?_;simp only[aN.down,simprocAttr,rK.down,ed,dK,I.shares];refine oI [⟨.h 6 [],true,_,.hole⟩,⟨.agg [.str dj,.int .i64 hL,.int .i64 (-1),.slice (df.map bC)],false,_,.hole⟩] (R8 ib (bf.mk dj hL (-1) df) _ wP) rfl rfl rfl (by simp only[aN.down,simprocAttr,Rb.down,ed,dK,I.shares]) rfl rfl (.inl rfl) ?_;simp only[aN.down,simprocAttr,Rc.down,ed,dK,I.shares];exact b3 rK.down
         exact Ap _ (wH _ (.inr ⟨_,aW rfl,R_ eA hR hL lN h⟩))
       .refine oT yn _ ?_;refine n4 rfl ?_;refine aI (vb _ (.inl ?_));obtain⟨kq,rT,h⟩:=aj h;refine l9 (cr (K:=eI _) [(0,.aQ (.agg [.slice (bu.map bg),.slice (bz.map dm),.slice (bx.map bS),.slice (bQ.map aX),.slice (bR.map aX)])),(1,.slice (J.map bC)),(6,.ak 4 (ib.map fw)),(7,.ak 1 (hR.map gj)),(11,.int .i64 hL),(12,.int .i64 lN),(13,.aQ (c8 bd)),(14,.ak 3 (kq.map eO))] (λP bq=>?_) (IK [(0,.aQ (.agg [.slice (bu.map bg),.slice (bz.map dm),.slice (bx.map bS),.slice (bQ.map aX),.slice (bR.map aX)])),(1,.slice (J.map bC)),(6,.ak 4 (ib.map fw)),(7,.ak 1 (hR.map gj)),(11,.int .i64 hL),(12,.int .i64 lN),(13,.aQ (c8 bd)),(14,.ak 3 (kq.map bC))] (iV [] rfl (cJ rfl (cJ rfl (cJ rfl (cJ rfl (cJ rfl (cJ rfl (cJ rfl (iN (t:=14) (d:=.ak 3 (kq.map eO)) (bM:=.ak 3 (kq.map bC)) rfl rfl (.ak (IQ (λ_=>BA rfl rfl (pw _)) _)) (by decide) (iW)))))))))) ?_))
        ·(try simp only[aN.down,simprocAttr]);refine dk (Du J _ rT) rfl rfl rfl rfl (.inl (by rfl)) ?_;simp only[aN.down,simprocAttr];exact b3 trivial
        obtain⟨lM,Lf,h⟩:=aj h;refine eb (cr [(0,.aQ (.agg [.slice (bu.map bg),.slice (bz.map dm),.slice (bx.map bS),.slice (bQ.map aX),.slice (bR.map aX)])),(1,.slice (J.map bC)),(6,.ak 4 (ib.map fw)),(7,.ak 1 (hR.map gj)),(11,.int .i64 hL),(12,.int .i64 lN),(13,.aQ (c8 bd)),(14,.ak 3 ((List.set kq (Int.toNat hL) bd.Next).map bC))] (λP bq=>?_) ?_)
        .simp only[aN.down,simprocAttr,Lf,dy Lf,ee,dW];exact b3 (R Lf (R (dy Lf) @ee))
        obtain⟨jj,Rx,h⟩:=aj h;obtain⟨gT,aoS,h⟩:=aj h;obtain⟨ic,Hp,h⟩:=aj h;refine jg (cr [(0,.aQ (.agg [.slice (bu.map bg),.slice (bz.map dm),.slice (bx.map bS),.slice (bQ.map aX),.slice (bR.map aX)])),(1,.slice (J.map bC)),(6,.ak 4 (ic.map fw)),(7,.ak 1 (hR.map gj)),(11,.int .i64 hL),(12,.int .i64 lN)] (λP bq=>?_) ?_)
        ·(try simp only[aN.down,simprocAttr,rK.down,ed,dK,I.shares]);refine dk (R7 (cM.mk bu bz bx bQ bR) bd.Label _ Rx) rfl rfl (by simp only[aN.down,simprocAttr,Q_.down,ed,dK,I.shares]<;>rfl) rfl (.inr (by rfl)) ?_;simp only[aN.down,simprocAttr,rK.down,ed,dK,I.shares];refine dk (Du (List.set kq (Int.toNat hL) bd.Next) _ aoS) rfl rfl (by simp only[aN.down,simprocAttr,Ra.down,ed,dK,I.shares]<;>rfl) rfl (.inr (k1 (λ_=>Dk _) _)) ?_;simp only[aN.down,simprocAttr,rK.down,ed,dK,I.shares];refine oI [⟨.h 6 [],true,_,.hole⟩,⟨.agg [.str jj,.int .i64 hL,.int .i64 (-1),.slice (gT.map bC)],false,_,.hole⟩] (R8 ib (bf.mk jj hL (-1) gT) _ Hp) rfl rfl rfl (by simp only[aN.down,simprocAttr,Rb.down,ed,dK,I.shares]) rfl rfl (.inl rfl) ?_;simp only[aN.down,simprocAttr,Rc.down,ed,dK,I.shares];exact b3 rK.down
        exact Ap _ (wH _ (.inr ⟨_,aW rfl,R_ ic hR hL lN h⟩))
      .refine cP (aoR 4 _ (aoP 4 _ (jq _ (RD _ (tf _ (.inl ?_))))));refine wr _ ?_;exact p3 _ (.inr ⟨_,aW rfl,aoL ib hR (i64.wrap (hL+1)) h⟩)
     obtain⟨n,h⟩:=cC h;exact cW (.inr ⟨_,aW rfl,R0 n uJ uK wh 0 h⟩)
    .refine cP (uC 2 _ (rl 2 _ (ot _ (Hj _ (.inl ?_)))));refine az ag (λ_ aoT aoU _=>?_);refine ws _ ?_;refine bc aoU (λaoV _ aoW qN _=>?_);have aoX:∀n rn x4 sV,lO J bu bz bx bQ bR n rn x4 sV=some r->cF af Yv aoV (aq [(0,.aQ (.agg [.slice (bu.map bg),.slice (bz.map dm),.slice (bx.map bS),.slice (bQ.map aX),.slice (bR.map aX)])),(1,.slice (J.map bC)),(6,.ak 4 (rn.map fw)),(7,.ak 1 (x4.map gj)),(15,.int .i64 sV)]):=by
      refine cZ (λpA aoY rn x4 sV h=>cX aoW (λ_ aoZ Zu ao0=>?_));refine az Zu (λ_ ao1 _ ao2=>?_);refine ws _ ?_;refine aD h (λao3 h=>?_) (λao3 h=>?_)
      .refine aI (ao1 _ (.inl ?_));refine az Zu (λ_ ao4 ao5 _=>?_);refine bc ao5 (λ_ ao6 ao7 _ _=>?_);refine ws _ ?_;refine bc ao7 (λao8 _ ao9 ao_ _=>?_);have Ro:∀n uG uH uI wg,oN (lO J bu bz bx bQ bR pA) J bu bz bx bQ bR n uG uH uI wg=some r->cF af Yu ao8 (aq [(0,.aQ (.agg [.slice (bu.map bg),.slice (bz.map dm),.slice (bx.map bS),.slice (bQ.map aX),.slice (bR.map aX)])),(1,.slice (J.map bC)),(6,.ak 4 (uG.map fw)),(7,.ak 1 (uH.map gj)),(15,.int .i64 uI),(16,.int .i64 wg)]):=by
        refine cZ (λAu Rp uG uH uI wg h=>cX ao9 (λ_ apa Zv apb=>?_));refine az Zv (λ_ apc _ apd=>?_);refine ws _ ?_;refine aD h (λape h=>?_) (λape h=>?_)
        .refine aI (apc _ (.inl ?_));refine az Zv (λ_ apf apg _=>?_);refine bc apg (λ_ aph api _ _=>?_);refine ws _ ?_;refine bc api (λapj _ apk apl _=>?_);have apm:∀n uE sT sU uF we,rm (lO J bu bz bx bQ bR pA) (oN (lO J bu bz bx bQ bR pA) J bu bz bx bQ bR Au) J bu bz bx bQ bR n uE sT sU uF we=some r->cF af Yt apj (aq [(0,.aQ (.agg [.slice (bu.map bg),.slice (bz.map dm),.slice (bx.map bS),.slice (bQ.map aX),.slice (bR.map aX)])),(1,.slice (J.map bC)),(6,.ak 4 (uE.map fw)),(7,.ak 1 (sT.map gj)),(15,.int .i64 sU),(16,.int .i64 uF),(17,.int .i64 we)]):=by
          refine cZ (λSb apn uE sT sU uF we h=>cX apk (λ_ apo Zw apq=>?_));refine az Zw (λ_ apr _ aps=>?_);obtain⟨k5,Zx,h⟩:=aj h;refine cR (R Zx (dy Zx)) _ ?_;refine aD h (λapt h=>?_) (λapt h=>?_)
          .refine aI (apr _ (.inl ?_));refine az Zw (λ_ apu apv _=>?_);refine bc apv (λ_ apw apx _ _=>?_);refine ws _ ?_;refine bc apx (λapy _ apz apA _=>?_);have apB:∀n mQ mw jS kr mR mx,uD (lO J bu bz bx bQ bR pA) (oN (lO J bu bz bx bQ bR pA) J bu bz bx bQ bR Au) (rm (lO J bu bz bx bQ bR pA) (oN (lO J bu bz bx bQ bR pA) J bu bz bx bQ bR Au) J bu bz bx bQ bR Sb) J bu bz bx bQ bR n mQ mw jS kr mR mx=some r->cF af Ys apy (aq [(0,.aQ (.agg [.slice (bu.map bg),.slice (bz.map dm),.slice (bx.map bS),.slice (bQ.map aX),.slice (bR.map aX)])),(1,.slice (J.map bC)),(6,.ak 4 (mQ.map fw)),(7,.ak 1 (mw.map gj)),(15,.int .i64 jS),(16,.int .i64 kr),(17,.int .i64 mR),(18,.int .i64 mx)]):=by
            refine cZ (λapC apD mQ mw jS kr mR mx h=>cX apz (λapE apF Zy apG=>?_));refine az Zy (λ_ apH _ apI=>?_);obtain⟨wb,p7,h⟩:=aj h;refine K1 (decide (mx<(wb.length:Int))) (R p7 (dy p7)) [(0,.aQ (.agg [.slice (bu.map bg),.slice (bz.map dm),.slice (bx.map bS),.slice (bQ.map aX),.slice (bR.map aX)])),(1,.slice (J.map bC)),(6,.ak 4 (mQ.map fw)),(7,.ak 1 (mw.map gj)),(15,.int .i64 jS),(16,.int .i64 kr),(17,.int .i64 mR),(18,.int .i64 mx),(133,.bool ((decide (mx<(wb.length:Int)))&&(decide ((mQ.length:Int)<=200))))] ?_;refine aD h (λapJ h=>?_) (λapJ h=>?_)
            .refine aI (apH _ (.inl ?_));have Zz:∀Ct Cu Cv Cw Cx Cy,JJ (lO J bu bz bx bQ bR pA) (oN (lO J bu bz bx bQ bR pA) J bu bz bx bQ bR Au) (rm (lO J bu bz bx bQ bR pA) (oN (lO J bu bz bx bQ bR pA) J bu bz bx bQ bR Au) J bu bz bx bQ bR Sb) (uD (lO J bu bz bx bQ bR pA) (oN (lO J bu bz bx bQ bR pA) J bu bz bx bQ bR Au) (rm (lO J bu bz bx bQ bR pA) (oN (lO J bu bz bx bQ bR pA) J bu bz bx bQ bR Au) J bu bz bx bQ bR Sb) J bu bz bx bQ bR apC) J bu bz bx bQ bR Ct Cu Cv Cw Cx Cy=some r->bj af Yr apE (aq [(0,.aQ (.agg [.slice (bu.map bg),.slice (bz.map dm),.slice (bx.map bS),.slice (bQ.map aX),.slice (bR.map aX)])),(1,.slice (J.map bC)),(6,.ak 4 (Ct.map fw)),(7,.ak 1 (Cu.map gj)),(15,.int .i64 Cv),(16,.int .i64 Cw),(17,.int .i64 Cx),(18,.int .i64 Cy)]):=by
              intro Ct Cu Cv Cw Cx Cy h;refine wr _ ?_;exact apF _ (.inr ⟨_,aW rfl,apD Ct Cu Cv Cw Cx (i64.wrap (Cy+1)) h⟩)
             refine az Zy (λ_ n100 apK _=>?_);refine bc apK (λ_ n102 apL apM _=>?_);obtain⟨mS,rU,h⟩:=aj h;obtain⟨mT,Dv,h⟩:=aj h;obtain⟨oM,Dw,h⟩:=aj h;obtain⟨nH,apN,h⟩:=aj h;refine iT rfl (h7 [(0,.aQ (.agg [.slice (bu.map bg),.slice (bz.map dm),.slice (bx.map bS),.slice (bQ.map aX),.slice (bR.map aX)])),(1,.slice (J.map bC)),(6,.ak 4 (mQ.map fw)),(7,.ak 1 (mw.map gj)),(15,.int .i64 jS),(16,.int .i64 kr),(17,.int .i64 mR),(18,.int .i64 mx),(19,.str nH)] (λP bq=>?_) ?_)
             ·(try simp only[cU.down,simprocAttr,rU,dy rU,Dv,p7,dy p7,Dw]);refine hx (aoH (cM.mk bu bz bx bQ bR) mT.Label oM.Label _ apN) rfl rfl (by simp only[cU.down,simprocAttr,rU,dy rU,Dv,p7,dy p7,Dw,K4.down]<;>rfl) rfl (.inr (by rfl)) ?_;simp only[cU.down,simprocAttr,rU,dy rU,Dv,p7,dy p7,Dw];refine⟨hE (by kernel_rfl),?_⟩;exact b3 (R rU (R (dy rU) (R Dv (R p7 (R (dy p7) Dw)))))
             refine az apL (λ_ n108 _ apO=>?_);refine ws _ ?_;refine aD h (λapP h=>?_) (λapP h=>?_)
             .exact cP (apO 13 _ (apM _ (n100 _ (.inr ⟨_,aW rfl,Zz mQ mw jS kr mR mx h⟩))))
             .refine aI (n108 _ (.inl ?_));obtain⟨ns,apQ,h⟩:=aj h;refine l9 (cr (K:=eI _) [(0,.aQ (.agg [.slice (bu.map bg),.slice (bz.map dm),.slice (bx.map bS),.slice (bQ.map aX),.slice (bR.map aX)])),(1,.slice (J.map bC)),(6,.ak 4 (mQ.map fw)),(7,.ak 1 (mw.map gj)),(15,.int .i64 jS),(16,.int .i64 kr),(17,.int .i64 mR),(18,.int .i64 mx),(19,.str nH),(20,.ak 3 (ns.map eO))] (λP bq=>?_) (IK [(0,.aQ (.agg [.slice (bu.map bg),.slice (bz.map dm),.slice (bx.map bS),.slice (bQ.map aX),.slice (bR.map aX)])),(1,.slice (J.map bC)),(6,.ak 4 (mQ.map fw)),(7,.ak 1 (mw.map gj)),(15,.int .i64 jS),(16,.int .i64 kr),(17,.int .i64 mR),(18,.int .i64 mx),(19,.str nH),(20,.ak 3 (ns.map bC))] (iV [] rfl (cJ rfl (cJ rfl (cJ rfl (cJ rfl (cJ rfl (cJ rfl (cJ rfl (cJ rfl (cJ rfl (iN (t:=20) (d:=.ak 3 (ns.map eO)) (bM:=.ak 3 (ns.map bC)) rfl rfl (.ak (IQ (λ_=>BA rfl rfl (pw _)) _)) (by decide) (iW)))))))))))) ?_))
              ·(try simp only[aN.down,simprocAttr]);refine dk (Du J _ apQ) rfl rfl rfl rfl (.inl (by rfl)) ?_;simp only[aN.down,simprocAttr];exact b3 trivial
              obtain⟨F6,Lg,h⟩:=aj h;refine eb (cr [(0,.aQ (.agg [.slice (bu.map bg),.slice (bz.map dm),.slice (bx.map bS),.slice (bQ.map aX),.slice (bR.map aX)])),(1,.slice (J.map bC)),(6,.ak 4 (mQ.map fw)),(7,.ak 1 (mw.map gj)),(15,.int .i64 jS),(16,.int .i64 kr),(17,.int .i64 mR),(18,.int .i64 mx),(19,.str nH),(20,.ak 3 ((List.set ns (Int.toNat jS) mT.Next).map bC))] (λP bq=>?_) ?_)
              .simp only[aN.down,simprocAttr,rU,dy rU,Dv,Lg,dy Lg,ee,dW];exact b3 (R rU (R (dy rU) (R Dv (R Lg (R (dy Lg) @ee)))))
              obtain⟨wc,Lh,h⟩:=aj h;refine eb (cr [(0,.aQ (.agg [.slice (bu.map bg),.slice (bz.map dm),.slice (bx.map bS),.slice (bQ.map aX),.slice (bR.map aX)])),(1,.slice (J.map bC)),(6,.ak 4 (mQ.map fw)),(7,.ak 1 (mw.map gj)),(15,.int .i64 jS),(16,.int .i64 kr),(17,.int .i64 mR),(18,.int .i64 mx),(19,.str nH),(20,.ak 3 ((List.set (List.set ns (Int.toNat jS) mT.Next) (Int.toNat kr) oM.Next).map bC))] (λP bq=>?_) ?_)
              .simp only[aN.down,simprocAttr,p7,dy p7,Dw,Lh,dy Lh,ee,dW];exact b3 (R p7 (R (dy p7) (R Dw (R Lh (R (dy Lh) @ee)))))
              obtain⟨rl,apR,h⟩:=aj h;obtain⟨uC,apS,h⟩:=aj h;obtain⟨JM,apT,h⟩:=aj h;refine jg (cr [(0,.aQ (.agg [.slice (bu.map bg),.slice (bz.map dm),.slice (bx.map bS),.slice (bQ.map aX),.slice (bR.map aX)])),(1,.slice (J.map bC)),(6,.ak 4 (JM.map fw)),(7,.ak 1 (mw.map gj)),(15,.int .i64 jS),(16,.int .i64 kr),(17,.int .i64 mR),(18,.int .i64 mx)] (λP bq=>?_) ?_)
              ·(try simp only[aN.down,simprocAttr,rK.down,ed,dK,I.shares]);refine dk (R7 (cM.mk bu bz bx bQ bR) nH _ apR) rfl rfl (by simp only[aN.down,simprocAttr,Q_.down,ed,dK,I.shares]<;>rfl) rfl (.inr (by rfl)) ?_;simp only[aN.down,simprocAttr,rK.down,ed,dK,I.shares];refine dk (Du (List.set (List.set ns (Int.toNat jS) mT.Next) (Int.toNat kr) oM.Next) _ apS) rfl rfl (by simp only[aN.down,simprocAttr,Ra.down,ed,dK,I.shares]<;>rfl) rfl (.inr (k1 (λ_=>Dk _) _)) ?_;simp only[aN.down,simprocAttr,rK.down,ed,dK,I.shares];refine oI [⟨.h 6 [],true,_,.hole⟩,⟨.agg [.str rl,.int .i64 jS,.int .i64 kr,.slice (uC.map bC)],false,_,.hole⟩] (R8 mQ (bf.mk rl jS kr uC) _ apT) rfl rfl rfl (by simp only[aN.down,simprocAttr,Rb.down,ed,dK,I.shares]) rfl rfl (.inl rfl) ?_;simp only[aN.down,simprocAttr,Rc.down,ed,dK,I.shares];exact b3 rK.down
              exact n102 _ (n100 _ (.inr ⟨_,aW rfl,Zz JM mw jS kr mR mx h⟩))
            .refine cP (apI 12 _ (apG 12 _ (apA _ (apw _ (apu _ (.inl ?_))))));refine wr _ ?_;exact apo _ (.inr ⟨_,aW rfl,apn mQ mw jS kr (i64.wrap (mR+1)) h⟩)
           obtain⟨n,h⟩:=cC h;exact cW (.inr ⟨_,aW rfl,apB n uE sT sU uF we 0 h⟩)
          .refine cP (aps 10 _ (apq 10 _ (apl _ (aph _ (apf _ (.inl ?_))))));refine wr _ ?_;exact apa _ (.inr ⟨_,aW rfl,Rp uE sT sU (i64.wrap (uF+1)) h⟩)
         obtain⟨n,h⟩:=cC h;exact cW (.inr ⟨_,aW rfl,apm n uG uH uI wg 0 h⟩)
        .refine cP (apd 8 _ (apb 8 _ (ao_ _ (ao6 _ (ao4 _ (.inl ?_))))));refine wr _ ?_;exact aoZ _ (.inr ⟨_,aW rfl,aoY uG uH (i64.wrap (uI+1)) h⟩)
       obtain⟨n,h⟩:=cC h;exact cW (.inr ⟨_,aW rfl,Ro n rn x4 sV (i64.wrap (sV+1)) h⟩)
      .refine cP (ao2 6 _ (ao0 6 _ (qN _ (aoT _ (.inl ?_)))));refine ws _ ?_;exact au (ag _ (.inl (km [.ak 4 (rn.map fw),.bool (decide ((rn.length:Int)<=200))] rfl (by cases gk h;rfl) (by decide) (kM (n8 (by cases gk h;rfl) rfl rfl rfl (dO (kN)))))))
     obtain⟨n,h⟩:=cC h;exact cW (.inr ⟨_,aW rfl,aoX n uJ uK 0 h⟩)
   obtain⟨n,h⟩:=cC h;exact cW (.inr ⟨_,aW rfl,aoK n [] gf 0 h⟩)
 obtain⟨n,h⟩:=cC h;exact cW (.inr ⟨_,aW rfl,Am n [] 0 h⟩)
theorem apU (a0 J r) (h:CC a0 J=some r):aV af 58 [.str a0,.int .i64 J] (.int .i64 r) []:=by
 refine bs [0] [.tmp 4] Tryz.func58 akB (λbn ag bm=>?_);refine ws _ ?_;refine az ag (λ_ bI a_ _=>?_);refine ws _ ?_;refine bc a_ (λfy _ bN bw _=>?_);show bj af (.loop ?ft) _ _;have fV:∀n gi dT,qw a0 n gi dT=some r->cF af ?ft fy (aq [(0,.str a0),(1,.int .i64 gi),(5,.int .i64 dT)]):=by
  refine cZ (λm6 fl gi dT h=>cX bN (λ_ dZ c6 bo=>?_));refine az c6 (λ_ db _ b0=>?_);refine ws _ ?_;refine aD h (λbW h=>?_) (λbW h=>?_)
  .refine aI (db _ (.inl ?_));refine az c6 (λ_ cV cb _=>?_);refine bc cb (λ_ b5 cx _ _=>?_);obtain⟨U,eJ,h⟩:=aj h;refine cR (R eJ (R (@E6 af 5 2 .i64 rfl rfl) (@Xv .i64 .u64 8 256 (by decide) (by decide)))) [(0,.str a0),(1,.int .i64 (bitsOf .xor .i64 gi (i64.wrap ((U.toNat:Int)*256)))),(5,.int .i64 dT)] ?_;refine ws _ ?_;refine bc cx (λAc _ dL gL _=>?_);show bj af (.loop ?c20) _ _;have Sc:∀n pW qv rp,wj (qw a0 m6) a0 n pW qv rp=some r->cF af ?c20 Ac (aq [(0,.str a0),(1,.int .i64 pW),(5,.int .i64 qv),(6,.int .i64 rp)]):=by
    refine cZ (λm20 Sd pW qv rp h=>cX dL (λwM fE fK gT=>?_));refine az fK (λ_ jx _ ic=>?_);refine ws _ ?_;refine aD h (λhr h=>?_) (λhr h=>?_)
    .refine aI (jx _ (.inl ?_));show bj af (.seq _ ?Q3) _ _;have ZA:∀CA CB ks,F8 (qw a0 m6) (wj (qw a0 m6) a0 m20) a0 CA CB ks=some r->bj af ?Q3 wM (aq [(0,.str a0),(1,.int .i64 CA),(5,.int .i64 CB),(6,.int .i64 ks)]):=by
      intro CA CB ks h;refine wr _ ?_;exact fE _ (.inr ⟨_,aW rfl,Sd CA CB (i64.wrap (ks+1)) h⟩)
     refine az fK (λ_ oq wC _=>?_);refine bc wC (λ_ rV _ _ _=>?_);refine cR (@Xv .i64 .u64 1 2 (by decide) (by decide)) [(0,.str a0),(1,.int .i64 (i64.wrap (pW*2))),(5,.int .i64 qv),(6,.int .i64 rp)] ?_;refine ws _ ?_;refine aD h (λhz h=>?_) (λhz h=>?_)
     .refine wr _ ?_;exact rV _ (oq _ (.inr ⟨_,aW rfl,ZA (bitsOf .xor .i64 (bitsOf .and .i64 (i64.wrap (pW*2)) 65535) 4129) qv rp h⟩))
     .exact aI (rV _ (oq _ (.inr ⟨_,aW rfl,ZA (i64.wrap (pW*2)) qv rp h⟩)))
    .refine cP (ic 2 _ (gT 2 _ (gL _ (b5 _ (cV _ (.inl ?_))))));refine wr _ ?_;exact dZ _ (.inr ⟨_,aW rfl,fl pW (i64.wrap (qv+1)) h⟩)
   obtain⟨n,h⟩:=cC h;exact cW (.inr ⟨_,aW rfl,Sc n (bitsOf .xor .i64 gi (i64.wrap ((U.toNat:Int)*256))) dT 0 h⟩)
  .refine cP (b0 0 _ (bo 0 _ (bw _ (bI _ (.inl ?_)))));refine ws _ ?_;exact au (ag _ (.inl (aw [.int .i64 gi])))
 obtain⟨n,h⟩:=cC h;exact cW (.inr ⟨_,aW rfl,fV n J 0 h⟩)
theorem apV (a0 J a2 a3 r) (h:JQ a0 J a2 a3=some r):aV af 25 [.slice (a0.map fw),.slice (J.map fC),.int .i64 a2,.int .i64 a3] (.int .i64 r) []:=by
 refine bs [0,1,2,3] [.tmp 8] Tryz.func25 akD (λbn ag bm=>?_);refine ws _ ?_;have ZB:F9 a0=some r->bj af Yx bn (aq [(0,.slice (a0.map fw))]):=by
  intro h;refine ws _ ?_;exact au (ag _ (.inl (aw [.int .i64 0])))
 refine az ag (λ_ bI a_ ah=>?_);refine ws _ ?_;refine bc a_ (λ_ dZ c6 _ bo=>?_);refine ws _ ?_;refine aD h (λnZ h=>?_) (λnZ h=>?_)
 .refine az c6 (λ_ hq gK _=>?_);refine ws _ ?_;refine aD h (λeQ h=>?_) (λeQ h=>?_)
  .refine ws _ ?_;exact au (gK _ (.inl (aw [.int .i64 0])))
  .refine aI (hq _ (.inl ?_));obtain⟨U,e0,h⟩:=aj h;refine cR e0 _ ?_;refine ws _ ?_;refine bc c6 (λwM _ fK eB _=>?_);have apW:∀n rq,zL a0 U n rq=some r->cF af Yw wM (aq [(0,.slice (a0.map fw)),(9,.int .i64 U.fa),(10,.int .i64 rq)]):=by
    refine cZ (λ_ apX rq h=>cX fK (λ_ jx lT ic=>?_));refine az lT (λ_ jz _ k5=>?_);refine ws _ ?_;refine aD h (λfF h=>?_) (λfF h=>?_)
    .refine aI (jz _ (.inl ?_));refine az lT (λ_ u9 u_ _=>?_);refine bc u_ (λ_ rV vc _ _=>?_);obtain⟨ah,iA,h⟩:=aj h;refine cR iA _ ?_;refine aD h (λhz h=>?_) (λhz h=>?_)
     .refine ws _ ?_;exact au (vc _ (.inl (aw [.int .i64 rq])))
     .refine aI (rV _ (u9 _ (.inl ?_)));refine wr _ ?_;exact jx _ (.inr ⟨_,aW rfl,apX (i64.wrap (rq+1)) h⟩)
    .exact cP (k5 1 _ (ic 1 _ (eB _ (dZ _ (bI _ (.inr ⟨_,aW rfl,ZB h⟩))))))
   obtain⟨n,h⟩:=cC h;exact cW (.inr ⟨_,aW rfl,apW n 0 h⟩)
 .refine ws _ ?_;refine aD h (λjA h=>?_) (λjA h=>?_)
  .obtain⟨aK,Av,h⟩:=aj h;obtain⟨ZC,rS,h⟩:=aj h;(try simp only[fD.down,Nat.zero_add,Nat.add_zero,reduceAdd]at rS);obtain⟨bd,tk,h⟩:=aj h;obtain⟨ZC,lU,h⟩:=aj h;(try simp only[fD.down,Nat.zero_add,Nat.add_zero,reduceAdd]at lU);obtain⟨bo,jo,h⟩:=aj h;obtain⟨ZC,qO,h⟩:=aj h;refine eb (cr [(8,.int .i64 (Int.tmod bo (a0.length:Int)))] (λP bq=>?_) ?_)
   ·(try simp only[aN.down,simprocAttr,rS,jl.down,lU, @n5 .i64 (a0.length:Int) (uc qO)]);refine dk (RZ a3 _ Av) rfl rfl rfl rfl (.inl (by rfl)) ?_;simp only[aN.down,simprocAttr,rS,jl.down,lU, @n5 .i64 (a0.length:Int) (uc qO)];refine dk (RZ (J.length:Int) _ tk) rfl rfl rfl rfl (.inl (by rfl)) ?_;simp only[aN.down,simprocAttr,rS,jl.down,lU, @n5 .i64 (a0.length:Int) (uc qO)];refine dk (apU ((aK++([45]:azc))++bd) 65535 _ jo) rfl rfl rfl rfl (.inl (by rfl)) ?_;simp only[aN.down,simprocAttr,rS,jl.down,lU, @n5 .i64 (a0.length:Int) (uc qO)];exact b3 (R rS (R jl.down (R lU (@n5 .i64 (a0.length:Int) (uc qO)))))
   exact au (c6 _ (.inl (aw [.int .i64 (Int.tmod bo (a0.length:Int))])))
  .exact aI (dZ _ (bI _ (.inr ⟨_,aW rfl,ZB h⟩)))
theorem apY (a0 J a2 a3 a4 r) (h:JR a0 J a2 a3 a4=some r):aV af 7 [fk a0,.slice (J.map bC),.slice (a2.map fC),.int .i64 a3,.int .i64 a4] (.tuple [.int .i64 r.1,.int .i64 r.2]) []:=by
 refine bs [0,1,2,3,4] [.tmp 10,.tmp 11] Tryz.func7 Nj (λbn ag bm=>?_);refine ws _ ?_;obtain⟨U,aM,h⟩:=aj h;refine eb (cr [(1,.slice (J.map bC)),(2,.slice (a2.map fC)),(3,.int .i64 a3),(4,.int .i64 a4),(5,.aQ (fk a0)),(12,.int .i64 U)] (λP bq=>?_) ?_)
 ·(try simp only[aN.down,simprocAttr]);refine dk (an4 a0 J _ aM) rfl rfl (by simp only[aN.down,simprocAttr,K4.down]<;>rfl) rfl (.inr (by rfl)) ?_;simp only[aN.down,simprocAttr];exact b3 trivial
 refine az ag (λ_ eU bN bd=>?_);refine ws _ ?_;refine aD h (λcn h=>?_) (λcn h=>?_)
 .refine ws _ ?_;exact au (bN _ (.inl (aw [.int .i64 0,.int .i64 U])))
 .refine aI (eU _ (.inl ?_));refine az ag (λ_ hq gK _=>?_);obtain⟨ah,gG,h⟩:=aj h;refine cu (an5 a3 a4 _ gG) _ ?_;refine aD h (λnu h=>?_) (λnu h=>?_)
  .refine ws _ ?_;exact au (gK _ (.inl (aw [.int .i64 0,.int .i64 2])))
  .refine aI (hq _ (.inl ?_));refine az ag (λ_ fb e5 _=>?_);obtain⟨aK,e6,h⟩:=aj h;refine cu (aok a2 _ e6) _ ?_;refine aD h (λlV h=>?_) (λlV h=>?_)
   .refine ws _ ?_;exact au (e5 _ (.inl (aw [.int .i64 0,.int .i64 7])))
   .refine aI (fb _ (.inl ?_));obtain⟨bd,gb,h⟩:=aj h;refine eb (cr [(2,.slice (a2.map fC)),(3,.int .i64 a3),(4,.int .i64 a4),(13,.ak 4 (bd.1.map fw)),(14,.bool bd.2)] (λP bq=>?_) ?_)
    ·(try simp only[aN.down,simprocAttr]);refine oI [⟨.h 5 [],true,_,_⟩,⟨.slice (J.map bC),false,_,.hole⟩] (aoI a0.cw a0.cg a0.b8 a0.cB a0.cy J _ gb) rfl rfl rfl (by simp only[aN.down,simprocAttr,pj,pP,pQ,h8,h9,h_,cS,or_true,true_or, @bZ _ bg bg (λ_=>s_ _), @bZ _ dm dm (λ_=>z8 _), @bZ _ bS bS (λ_=>rH _), @bZ _ aX aX (λ_=>lu _), @bZ _ aX aX (λ_=>lu _)]) rfl rfl (.inl rfl) ?_;simp only[aN.down,simprocAttr,n7];exact b3 trivial
    refine az ag (λ_ u9 u_ _=>?_);refine ws _ ?_;refine aD h (λtd h=>?_) (λtd h=>?_)
    .refine ws _ ?_;exact au (u_ _ (.inl (aw [.int .i64 0,.int .i64 5])))
    .refine aI (u9 _ (.inl ?_));refine az ag (λ_ ym Ao _=>?_);refine ws _ ?_;refine aD h (λjy h=>?_) (λjy h=>?_)
     .refine ws _ ?_;exact au (Ao _ (.inl (aw [.int .i64 0,.int .i64 3])))
     .refine aI (ym _ (.inl ?_));obtain⟨bo,pz,h⟩:=aj h;refine eb (cr [(10,.int .i64 bo),(11,.int .i64 0)] (λP bq=>?_) ?_)
      ·(try simp only[aN.down,simprocAttr]);refine dk (apV bd.1 a2 a3 a4 _ pz) rfl rfl (by simp only[aN.down,simprocAttr,h8,h9,h_,cS, @bZ _ fw fw (λ_=>XZ _)]<;>rfl) rfl (.inr (by rfl)) ?_;simp only[aN.down,simprocAttr];exact b3 trivial
      exact au (ag _ (.inl (aw [.int .i64 bo,.int .i64 0])))
theorem ir (a0 J a2 r) (h:ig a0 J a2=some r):aV af 68 [.int .i64 a0,.int .i64 J,.int .i64 a2] (.bool r) []:=by
 refine bs [0,1,2] [.tmp 6] Tryz.func68 akE (λbn ag bm=>?_);refine ws _ ?_;refine mY (decide (J<=a0)) [(6,.bool ((decide (J<=a0))&&(decide (a0<=a2))))] ?_;exact au (ag _ (.inl (aw [.bool ((decide (J<=a0))&&(decide (a0<=a2)))])))
theorem apZ (a0 r) (h:Pv a0=some r):aV af 209 [bg a0] (.bool r) []:=by
 refine bs [0] [.tmp 2] Tryz.func209 akF (λbn ag bm=>?_);refine ws _ ?_;obtain⟨U,aM,h⟩:=aj h;refine cu (ir a0.ek 0 3 _ aM) _ ?_;exact au (ag _ (.inl (aw [.bool (!U)])))
theorem ap0 (a0 r) (h:Px a0=some r):aV af 211 [.slice (a0.map bg),.fn 209 []] (.int .i64 r) []:=by
 refine bs [0,1] [.tmp 4] Tryz.func211 akG (λbn ag bm=>?_);refine ws _ ?_;refine az ag (λ_ bI a_ ah=>?_);refine ws _ ?_;refine bc a_ (λfy _ bN bw _=>?_);show bj af (.loop ?ft) _ _;have fV:∀n b4,F_ a0 n b4=some r->cF af ?ft fy (aq [(0,.slice (a0.map bg)),(1,.fn 209 []),(7,.int .i64 (a0.length:Int)),(8,.int .i64 b4)]):=by
  refine cZ (λ_ fl b4 h=>cX bN (λ_ dZ c6 bo=>?_));refine ws _ ?_;refine az c6 (λ_ dn _ br=>?_);refine aD h (λbW h=>?_) (λbW h=>?_)
  .refine aI (dn _ (.inl ?_));refine az c6 (λ_ cV cb _=>?_);refine bc cb (λ_ b5 cx _ _=>?_);refine ws _ ?_;obtain⟨U,e0,h⟩:=aj h;obtain⟨ah,dp,h⟩:=aj h;refine ea e0 (apZ U _ dp) _ ?_;refine aD h (λeB h=>?_) (λeB h=>?_)
   .refine ws _ ?_;exact au (cx _ (.inl (aw [.int .i64 b4])))
   .refine aI (b5 _ (cV _ (.inl ?_)));refine wr _ ?_;exact dZ _ (.inr ⟨_,aW rfl,fl (i64.wrap (b4+1)) h⟩)
  .refine cP (br 0 _ (bo 0 _ (bw _ (bI _ (.inl ?_)))));refine ws _ ?_;exact au (ag _ (.inl (aw [.int .i64 (-1)])))
 obtain⟨n,h⟩:=cC h;exact cW (.inr ⟨_,aW rfl,fV n 0 h⟩)
theorem ap1 (a0 r) (h:Py a0=some r):aV af 208 [.slice (a0.map bg),.fn 209 []] (.bool r) []:=by
 refine bs [0,1] [.tmp 4] Tryz.func208 c208 (λbn ag bm=>?_);refine ws _ ?_;obtain⟨U,aM,h⟩:=aj h;refine cu (ap0 a0 _ aM) _ ?_;exact au (ag _ (.inl (aw [.bool (decide (0<=U))])))
theorem ap2 (a0 r) (h:JS a0=some r):aV af 174 [.slice (a0.map bg)] (.bool r) []:=by
 refine bs [0] [.tmp 2] Tryz.func174 akH (λbn ag bm=>?_);refine ws _ ?_;obtain⟨U,aM,h⟩:=aj h;refine cu (ap1 a0 _ aM) _ ?_;exact au (ag _ (.inl (aw [.bool (!U)])))
theorem ap3 (a0 r) (h:Pz a0=some r):aV af 210 [.int .u8 (a0.toNat:Int)] (.bool r) []:=by
 refine bs [0] [.tmp 2] Tryz.func210 c210 (λbn ag bm=>?_);refine ws _ ?_;refine mY (decide (48<=(a0.toNat:Int))) [(2,.bool ((decide (48<=(a0.toNat:Int)))&&(decide ((a0.toNat:Int)<=57))))] ?_;exact au (ag _ (.inl (aw [.bool ((decide (48<=(a0.toNat:Int)))&&(decide ((a0.toNat:Int)<=57)))])))
theorem Li (a0 r) (h:Ga a0=some r):aV af 175 [.str a0] (.bool r) []:=by
 refine bs [0] [.tmp 2] Tryz.func175 c175 (λbn ag bm=>?_);refine ws _ ?_;refine az ag (λ_ bI a_ ah=>?_);refine ws _ ?_;refine bc a_ (λfy _ bN bw _=>?_);show bj af (.loop ?ft) _ _;have fV:∀n fP,x5 a0 n fP=some r->cF af ?ft fy (aq [(0,.str a0),(6,.int .i64 (a0.length:Int)),(7,.int .i64 fP)]):=by
  refine cZ (λ_ fl fP h=>cX bN (λ_ dZ c6 bo=>?_));refine ws _ ?_;refine az c6 (λ_ dn _ br=>?_);refine aD h (λbW h=>?_) (λbW h=>?_)
  .refine aI (dn _ (.inl ?_));refine az c6 (λ_ cV cb _=>?_);refine bc cb (λ_ b5 cx _ _=>?_);refine ws _ ?_;obtain⟨U,e0,h⟩:=aj h;refine K1 (decide (97<=(U.toNat:Int))) e0 [(0,.str a0),(3,.int .i64 fP),(4,.bool ((decide (97<=(U.toNat:Int)))&&(decide ((U.toNat:Int)<=122)))),(6,.int .i64 (a0.length:Int)),(7,.int .i64 fP)] ?_;rcases dc h with⟨eB,h⟩|⟨eB,h⟩
   .rcases dc h with⟨lV,h⟩|⟨lV,h⟩
    .refine cR (R eB lV) _ ?_;refine iU rfl ?_;refine ws _ ?_;exact au (cx _ (.inl (aw [.bool false])))
    .obtain⟨ah,eT,h⟩:=aj h;refine ea (R eB (R lV e0)) (ap3 U _ eT) _ ?_;refine aD h (λfF h=>?_) (λfF h=>?_)
     .refine ws _ ?_;exact au (cx _ (.inl (aw [.bool false])))
     .refine aI (b5 _ (cV _ (.inl ?_)));refine wr _ ?_;exact dZ _ (.inr ⟨_,aW rfl,fl (i64.wrap (fP+1)) h⟩)
   .refine cR eB _ ?_;refine n4 rfl ?_;refine aI (b5 _ (cV _ (.inl ?_)));refine wr _ ?_;exact dZ _ (.inr ⟨_,aW rfl,fl (i64.wrap (fP+1)) h⟩)
  .refine cP (br 0 _ (bo 0 _ (bw _ (bI _ (.inl ?_)))));refine mY (decide (1<=(a0.length:Int))) [(2,.bool ((decide (1<=(a0.length:Int)))&&(decide ((a0.length:Int)<=10))))] ?_;exact au (ag _ (.inl (aw [.bool ((decide (1<=(a0.length:Int)))&&(decide ((a0.length:Int)<=10)))])))
 obtain⟨n,h⟩:=cC h;exact cW (.inr ⟨_,aW rfl,fV n 0 h⟩)
theorem ap4 (a0 J r) (h:PA a0 J=some r):aV af 212 [bg a0,.ref (.str J)] (.bool r) []:=by
 refine bs [0,1] [.tmp 3] Tryz.func212 c212 (λbn ag bm=>?_);refine ws _ ?_;refine ws _ ?_;exact au (ag _ (.inl (aw [.bool (a0.Name==J)])))
theorem ap5 (a0 J r) (h:PC a0 J=some r):aV af 211 [.slice (a0.map bg),.fn 212 [.ref (.str J)]] (.int .i64 r) []:=by
 refine bs [0,1] [.tmp 4] Tryz.func211 akI (λbn ag bm=>?_);refine ws _ ?_;refine az ag (λ_ bI a_ ah=>?_);refine ws _ ?_;refine bc a_ (λfy _ bN bw _=>?_);show bj af (.loop ?ft) _ _;have fV:∀n b4,Gb a0 J n b4=some r->cF af ?ft fy (aq [(0,.slice (a0.map bg)),(1,.fn 212 [.ref (.str J)]),(7,.int .i64 (a0.length:Int)),(8,.int .i64 b4)]):=by
  refine cZ (λ_ fl b4 h=>cX bN (λ_ dZ c6 bo=>?_));refine ws _ ?_;refine az c6 (λ_ dn _ br=>?_);refine aD h (λbW h=>?_) (λbW h=>?_)
  .refine aI (dn _ (.inl ?_));refine az c6 (λ_ cV cb _=>?_);refine bc cb (λ_ b5 cx _ _=>?_);refine ws _ ?_;obtain⟨U,e0,h⟩:=aj h;obtain⟨ah,dp,h⟩:=aj h;refine ea e0 (ap4 U J _ dp) _ ?_;refine aD h (λeB h=>?_) (λeB h=>?_)
   .refine ws _ ?_;exact au (cx _ (.inl (aw [.int .i64 b4])))
   .refine aI (b5 _ (cV _ (.inl ?_)));refine wr _ ?_;exact dZ _ (.inr ⟨_,aW rfl,fl (i64.wrap (b4+1)) h⟩)
  .refine cP (br 0 _ (bo 0 _ (bw _ (bI _ (.inl ?_)))));refine ws _ ?_;exact au (ag _ (.inl (aw [.int .i64 (-1)])))
 obtain⟨n,h⟩:=cC h;exact cW (.inr ⟨_,aW rfl,fV n 0 h⟩)
theorem ap6 (a0 J r) (h:JU a0 J=some r):aV af 176 [.slice (a0.map bg),.str J] (.int .i64 r) []:=by
 refine bs [0,1] [.tmp 4] Tryz.func176 akJ (λbn ag bm=>?_);refine ws _ ?_;obtain⟨U,aM,h⟩:=aj h;refine eb (cr [(4,.int .i64 U)] (λP bq=>?_) ?_)
 ·(try simp only[aN.down,simprocAttr]);refine dk (ap5 a0 J _ aM) rfl rfl (by simp only[aN.down,simprocAttr,yg.down]<;>rfl) rfl (.inr (by rfl)) ?_;simp only[aN.down,simprocAttr];exact b3 trivial
 exact au (ag _ (.inl (aw [.int .i64 U])))
theorem ZD (a0 r) (h:Gd a0=some r):aV af 144 [ei a0] (.int .i64 r) []:=by
 refine bs [0] [.tmp 2] Tryz.func144 akK (λbn ag bm=>?_);refine ws _ ?_;refine az ag (λ_ bI a_ _=>?_);refine ws _ ?_;refine bc a_ (λfy eU bN _ _=>?_);show bj af (.seq _ ?jk) _ _;have Ad:∀dh,Gc a0 dh=some r->bj af ?jk fy (aq [(4,.int .i64 a0.Kind),(5,.bool dh)]):=by
  intro dh h;refine aD h (λcn h=>?_) (λcn h=>?_)
  .refine ws _ ?_;exact au (bN _ (.inl (aw [.int .i64 1])))
  .refine ws _ ?_;refine aD h (λeP h=>?_) (λeP h=>?_)
   .refine ws _ ?_;exact au (bN _ (.inl (aw [.int .i64 2])))
   .refine aI (eU _ (bI _ (.inl ?_)));refine ws _ ?_;exact au (ag _ (.inl (aw [.int .i64 0])))
 refine az bN (λ_ dZ _ _=>?_);refine ws _ ?_;refine aD h (λe1 h=>?_) (λe1 h=>?_)
 .simp only[e1,G5.down];exact aI (dZ _ (.inr ⟨_,aW rfl,Ad true h⟩))
 .refine ws _ ?_;refine aD h (λeB h=>?_) (λeB h=>?_)
  .simp only[eB,G5.down];exact aI (dZ _ (.inr ⟨_,aW rfl,Ad true h⟩))
  .refine wr _ ?_;exact dZ _ (.inr ⟨_,aW rfl,Ad (a0.Kind==4) h⟩)
theorem ZE (a0 J r) (h:Ge a0 J=some r):aV af 151 [bg a0,.int .i64 J] (.int .i64 r) []:=by
 refine bs [0] [.tmp 4] Tryz.func151 akL (λbn ag bm=>?_);refine ws _ ?_;refine az ag (λ_ bI a_ ah=>?_);refine ws _ ?_;refine bc a_ (λfy _ bN bw _=>?_);show bj af (.loop ?ft) _ _;have fV:∀n gi dT,CD a0 n gi dT=some r->cF af ?ft fy (aq [(1,.int .i64 gi),(2,.aQ (bg a0)),(5,.int .i64 dT)]):=by
  refine cZ (λ_ fl gi dT h=>cX bN (λ_ dZ c6 bo=>?_));refine az c6 (λ_ db _ b0=>?_);refine ws _ ?_;refine aD h (λbW h=>?_) (λbW h=>?_)
  .refine aI (db _ (.inl ?_));refine az c6 (λ_ cV cb _=>?_);refine bc cb (λ_ b5 cx _ _=>?_);refine az cx (λ_ eu hM _=>?_);refine ws _ ?_;refine aD h (λe1 h=>?_) (λe1 h=>?_)
   .refine ws _ ?_;exact au (hM _ (.inl (aw [.int .i64 (-1)])))
   .refine aI (eu _ (.inl ?_));obtain⟨U,cp,h⟩:=aj h;obtain⟨ah,dI,h⟩:=aj h;refine Aa cp (ZD U _ dI) _ ?_;refine b5 _ (cV _ (.inl ?_));refine wr _ ?_;exact dZ _ (.inr ⟨_,aW rfl,fl (i64.wrap (gi+1)) (i64.wrap (dT+(i64.wrap (ah-1)))) h⟩)
  .refine cP (b0 0 _ (bo 0 _ (bw _ (bI _ (.inl ?_)))));refine ws _ ?_;exact au (ag _ (.inl (aw [.int .i64 gi])))
 obtain⟨n,h⟩:=cC h;exact cW (.inr ⟨_,aW rfl,fV n J 1 h⟩)
end Go.Proofs.YtmaepbgkcmjcjaiGreatDoor
