/- Part of a proof that a law returns true for every input. No condition. -/
import Derived.Test.YtndfcecbamffaaaGreatC3
namespace Go.Proofs.YtndfcecbamffaaaGreat
open Option Go.IntKind Nat Or
open Go Go.c3 Go.nc
set_option maxRecDepth 100000
set_option maxHeartbeats 2800000
set_option linter.unusedSimpArgs false
set_option linter.unusedVariables false
theorem b6 (fx:afc) (dU:List ResultVar) {f:FuncId} {fn:Func} {ins outs:afh} {r:I} (a8:aq.P.funcs[f]? =some fn) (dO:aM)
 (D1:∀Q:Exit->ak->Prop,(∀s,dG (c3.Ends aq fx dU r outs) s->Q .ret s)->(∀s,dG (c3.Ends aq fx dU r outs) s->Q .normal s)->bj aq dO Q (ar (num 0 ins))) (aa:fp ⟨fn.ntmps,fx⟩ (fn.body.getD .skip)=some dO.strip:=by kernel_rfl) (U:fn.body=some (fn.body.getD .skip):=by rfl) (jt:(fn.name== "runtime.NumGoroutine")=false:=by rfl) (a4:ins.length<=fn.ntmps:=by exact le_of_ble_eq_true rfl) (fF:fn.results.toList=dU:=by rfl) (au:dO.plain=true:=by kernel_rfl):bk aq f ins r outs:=
 bk.LX AF dU (num 0 ins) a8 U jt aa a4 fF rfl D1 au
theorem dz {P:Nat->Prop} (s:∀m,P m->P (m+1)) (z:P 0:=by intros;rename_i h;cases(show none=some _ from h)):∀n,P n:=λn=>Nat.rec z s n
def Gz:=PLift.up (ad @EY (ad @US (ad @UT (ad @UU (ad @UW (ad @UX (ad @UY (ad @UZ (ad @U0 (ad @U1 (ad @U2 (ad @U3 (ad @U4 (ad @U5 (ad @U6 (ad @U7 (ad @U8 (ad @U9 (ad @U_ (ad @EZ (ad @Va (ad @Vb (ad @Vc (ad @Vd (ad @Ve (ad @kv.eq_1 (ad @dX.eq_1 (ad @ax.eq_1 (ad @bN.eq_1 (ad @cD.eq_1 (ad @aS.eq_1 (ad @BN (ad @j0.eq_1 (ad @hF.eq_1 (ad @iw.eq_1 (ad @gC.eq_1 (ad @df.eq_1 (ad @hX.eq_1 (ad @lA.eq_1 (ad @BM (ad @eC.eq_1 (ad @cJ.eq_1 (ad @Vx (ad @ix.eq_1 @dg.eq_1))))))))))))))))))))))))))))))))))))))))))))
def X0:=PLift.up (ad TZ.down Gz.down)
def ef:=PLift.up (ad T0.down Gz.down)
def hf:=PLift.up (ad T1.down Gz.down)
theorem cu {F A:Prop} (f:F) (h:F->A:=by intro bb;(try simp only[hf.down,simprocAttr,bb,dj,dW,cT,ei,I.eb,I.shares]at bm⊢);exact bm):A:=h f
theorem wr {Q l ros k} (b2:afg) (aj:Q .normal (ar b2)) (h:∀P:afg->Prop,P b2->cy aq (ar l) ros none (λ_ s=>P (fR k s)):=by
 intro P bm;simp only[X0.down,simprocAttr,dj,dW,cT,ei];(try simp only[hf.down,simprocAttr,dj,dW,cT,ei]at bm⊢);exact bm):bj aq (.eI ros (some k)) Q (ar l):=
 iW (cx b2 (h) aj)
theorem fq {Q l ros k} {b2:afg} (aj:Q .normal (ar b2)) (h:∀P:afg->Prop,P b2->cy aq (ar l) ros none (λ_ s=>P (fR k s)):=by
 intro P bm;simp only[X0.down,simprocAttr,dj,dW,cT,ei];(try simp only[hf.down,simprocAttr,dj,dW,cT,ei]at bm⊢);exact bm):bj aq (.eI ros (some k)) Q (ar l):=
 iW (cx b2 (h) aj)
theorem yH {Q l ros k g ds r} (ok:bk aq g ds r []) (b2:afg) (aj:Q .normal (ar b2)) (h:bk aq g ds r []->∀P:afg->Prop,P b2->cy aq (ar l) ros none (λ_ s=>P (fR k s)):=by
 intro mM P bm;(try simp only[X0.down,simprocAttr,dj,dW,cT,ei]);(first|refine dv mM rfl rfl rfl rfl (inl (by rfl)) ?_|refine jv mM rfl rfl rfl rfl (inl (by rfl)) ?_);simp only[X0.down,simprocAttr,dj,dW,cT,ei];(try simp only[hf.down,simprocAttr,dj,dW,cT,ei]at bm⊢);exact bm):bj aq (.eI ros (some k)) Q (ar l):=
 iW (cx b2 (h ok) aj)
theorem Yo {Q l ros k g ds r} {F:Prop} (bb:F) (ok:bk aq g ds r []) (b2:afg) (aj:Q .normal (ar b2)) (h:bk aq g ds r []->F->∀P:afg->Prop,P b2->cy aq (ar l) ros none (λ_ s=>P (fR k s)):=by
 intro mM bb P bm;(try simp only[X0.down,simprocAttr,bb,dj,dW,cT,ei]);(first|refine dv mM rfl rfl rfl rfl (inl (by rfl)) ?_|refine jv mM rfl rfl rfl rfl (inl (by rfl)) ?_);simp only[X0.down,simprocAttr,bb,dj,dW,cT,ei];(try simp only[hf.down,simprocAttr,bb,dj,dW,cT,ei]at bm⊢);exact bm):bj aq (.eI ros (some k)) Q (ar l):=
 iW (cx b2 (h ok bb) aj)
theorem MR {Q l ros k eJ} {F:Prop} (bb:F) (b2:afg) (aj:Q .normal (ar b2)) (h:F->∀P:afg->Prop,P b2->cy aq (ar l) ros (some []) (λacc s=>kC (pR eJ) 0 [] (acc.getD []).reverse=true/\P (fR k s)):=by
 intro bb P bm;simp only[ef.down,simprocAttr,bb,dj,dW,cT,ei];refine⟨mD (by kernel_rfl),?_⟩;(try simp only[hf.down,simprocAttr,bb,dj,dW,cT,ei]at bm⊢);exact bm) (hl:eJ.length=ros.length:=by rfl):bj aq (.jb ros eJ (some k)) Q (ar l):=
 xB hl (m7 b2 (h bb) aj)
theorem k5 {Q l ros k} {F:Prop} (bb:F) (b2:afg) (aj:Q .normal (ar b2)) (h:F->∀P:afg->Prop,P b2->cy aq (ar l) ros none (λ_ s=>P (fR k s)):=by
 intro bb P bm;simp only[X0.down,simprocAttr,bb,dj,dW,cT,ei];(try simp only[hf.down,simprocAttr,bb,dj,dW,cT,ei]at bm⊢);exact bm):bj aq (.eI ros (some k)) Q (ar l):=
 iW (cx b2 (h bb) aj)
theorem Yp {Q l ros k} (e:Bool) (b2:afg) (aj:Q .normal (ar b2)) (h:∀c,e=c->∀P:afg->Prop,P b2->cy aq (ar l) ros none (λ_ s=>P (fR k s)):=by
 intro c an P bm;cases c;all_goals
  (try simp only[List.length_replicate]at an);simp only[X0.down,simprocAttr,an,dj,dW,cT,ei];(try simp only[hf.down,simprocAttr,an,dj,dW,cT,ei]at bm⊢);exact bm):bj aq (.eI ros (some k)) Q (ar l):=
 iW (cx b2 (h e rfl) aj)
theorem ws {Q l ros k b} (b2:afg) (aj:bj aq b Q (ar b2)) (h:∀P:afg->Prop,P b2->cy aq (ar l) ros none (λ_ s=>P (fR k s)):=by
 intro P bm;simp only[X0.down,simprocAttr,dj,dW,cT,ei];(try simp only[hf.down,simprocAttr,dj,dW,cT,ei]at bm⊢);exact bm):bj aq (.seq (.eI ros (some k)) b) Q (ar l):=
 c0 (cx b2 (h) aj)
theorem aI {Q l ros k b} {b2:afg} (aj:bj aq b Q (ar b2)) (h:∀P:afg->Prop,P b2->cy aq (ar l) ros none (λ_ s=>P (fR k s)):=by
 intro P bm;simp only[X0.down,simprocAttr,dj,dW,cT,ei];(try simp only[hf.down,simprocAttr,dj,dW,cT,ei]at bm⊢);exact bm):bj aq (.seq (.eI ros (some k)) b) Q (ar l):=
 c0 (cx b2 (h) aj)
theorem bn {Q l ros k fx dU r} {b2:afg} (jB:∀s,dG (c3.Ends aq fx dU r []) s->Q .ret s) (ds:afh) (h:∀P:afg->Prop,P b2->cy aq (ar l) ros none (λ_ s=>P (fR k s)):=by
 intro P bm;simp only[X0.down,simprocAttr,dj,dW,cT,ei];(try simp only[hf.down,simprocAttr,dj,dW,cT,ei]at bm⊢);exact bm) (af:r=Ai ds:=by cases kM (by assumption);rfl) (ae:dU.map (oZ aq (ar b2))=ds.map some:=by rfl) (aF:(dU.map iV).Nodup:=by decide):bj aq (.seq (.eI ros (some k)) .ret) Q (ar l):=
 ws b2 (cC jB ds af ae aF) h
theorem dq {Q l ros k b g ds r} (ok:bk aq g ds r []) (b2:afg) (aj:bj aq b Q (ar b2)) (h:bk aq g ds r []->∀P:afg->Prop,P b2->cy aq (ar l) ros none (λ_ s=>P (fR k s)):=by
 intro mM P bm;(try simp only[X0.down,simprocAttr,dj,dW,cT,ei]);(first|refine dv mM rfl rfl rfl rfl (inl (by rfl)) ?_|refine jv mM rfl rfl rfl rfl (inl (by rfl)) ?_);simp only[X0.down,simprocAttr,dj,dW,cT,ei];(try simp only[hf.down,simprocAttr,dj,dW,cT,ei]at bm⊢);exact bm):bj aq (.seq (.eI ros (some k)) b) Q (ar l):=
 c0 (cx b2 (h ok) aj)
theorem fb {Q l ros k b g ds r} {F:Prop} (bb:F) (ok:bk aq g ds r []) (b2:afg) (aj:bj aq b Q (ar b2)) (h:bk aq g ds r []->F->∀P:afg->Prop,P b2->cy aq (ar l) ros none (λ_ s=>P (fR k s)):=by
 intro mM bb P bm;(try simp only[X0.down,simprocAttr,bb,dj,dW,cT,ei]);(first|refine dv mM rfl rfl rfl rfl (inl (by rfl)) ?_|refine jv mM rfl rfl rfl rfl (inl (by rfl)) ?_);simp only[X0.down,simprocAttr,bb,dj,dW,cT,ei];(try simp only[hf.down,simprocAttr,bb,dj,dW,cT,ei]at bm⊢);exact bm):bj aq (.seq (.eI ros (some k)) b) Q (ar l):=
 c0 (cx b2 (h ok bb) aj)
theorem qb {Q l ros k b eJ g ds r} {F:Prop} (bb:F) (ok:bk aq g ds r []) (b2:afg) (aj:bj aq b Q (ar b2)) (h:bk aq g ds r []->F->∀P:afg->Prop,P b2->cy aq (ar l) ros (some []) (λacc s=>kC (pR eJ) 0 [] (acc.getD []).reverse=true/\P (fR k s)):=by
 intro mM bb P bm;(try simp only[ef.down,simprocAttr,bb,dj,dW,cT,ei]);(first|refine h5 mM rfl rfl rfl rfl (inl (by rfl)) ?_|refine Em mM rfl rfl rfl rfl (inl (by rfl)) ?_);simp only[ef.down,simprocAttr,bb,dj,dW,cT,ei];refine⟨mD (by kernel_rfl),?_⟩;(try simp only[hf.down,simprocAttr,bb,dj,dW,cT,ei]at bm⊢);exact bm) (hl:eJ.length=ros.length:=by rfl):bj aq (.seq (.jb ros eJ (some k)) b) Q (ar l):=
 rW hl (m7 b2 (h ok bb) aj)
theorem yI {Q l ros k b eJ} {F:Prop} (bb:F) (b2:afg) (aj:bj aq b Q (ar b2)) (h:F->∀P:afg->Prop,P b2->cy aq (ar l) ros (some []) (λacc s=>kC (pR eJ) 0 [] (acc.getD []).reverse=true/\P (fR k s)):=by
 intro bb P bm;simp only[ef.down,simprocAttr,bb,dj,dW,cT,ei];refine⟨mD (by kernel_rfl),?_⟩;(try simp only[hf.down,simprocAttr,bb,dj,dW,cT,ei]at bm⊢);exact bm) (hl:eJ.length=ros.length:=by rfl):bj aq (.seq (.jb ros eJ (some k)) b) Q (ar l):=
 rW hl (m7 b2 (h bb) aj)
theorem cR {Q l ros k b} {F:Prop} (bb:F) (b2:afg) (aj:bj aq b Q (ar b2)) (h:F->∀P:afg->Prop,P b2->cy aq (ar l) ros none (λ_ s=>P (fR k s)):=by
 intro bb P bm;simp only[X0.down,simprocAttr,bb,dj,dW,cT,ei];(try simp only[hf.down,simprocAttr,bb,dj,dW,cT,ei]at bm⊢);exact bm):bj aq (.seq (.eI ros (some k)) b) Q (ar l):=
 c0 (cx b2 (h bb) aj)
theorem yJ {Q l ros k b} {F:Prop} (bb:F) (b2:afg) (aj:bj aq b Q (ar b2)) (h:F->∀P:afg->Prop,P b2->cy aq (ar l) ros none (λ_ s=>P (fR k s)):=by
 intro bb P bm;simp only[X0.down,simprocAttr,bb,dj,dW,cT,ei,-Int.reduceNatCast'];(try simp only[hf.down,simprocAttr,bb,dj,dW,cT,ei,-Int.reduceNatCast']at bm⊢);exact bm):bj aq (.seq (.eI ros (some k)) b) Q (ar l):=
 c0 (cx b2 (h bb) aj)
theorem tP {Q l ros k b} (e:Bool) (b2:afg) (aj:bj aq b Q (ar b2)) (h:∀c,e=c->∀P:afg->Prop,P b2->cy aq (ar l) ros none (λ_ s=>P (fR k s)):=by
 intro c an P bm;cases c;all_goals
  (try simp only[List.length_replicate]at an);simp only[X0.down,simprocAttr,an,dj,dW,cT,ei];(try simp only[hf.down,simprocAttr,an,dj,dW,cT,ei]at bm⊢);exact bm):bj aq (.seq (.eI ros (some k)) b) Q (ar l):=
 c0 (cx b2 (h e rfl) aj)
theorem Yq {Q l ros k b} (e:Bool) {F:Prop} (bb:F) (b2:afg) (aj:bj aq b Q (ar b2)) (h:F->∀c,e=c->∀P:afg->Prop,P b2->cy aq (ar l) ros none (λ_ s=>P (fR k s)):=by
 intro bb c an P bm;cases c;all_goals
  (try simp only[List.length_replicate]at an);simp only[X0.down,simprocAttr,an,bb,dj,dW,cT,ei];(try simp only[hf.down,simprocAttr,an,bb,dj,dW,cT,ei]at bm⊢);exact bm):bj aq (.seq (.eI ros (some k)) b) Q (ar l):=
 c0 (cx b2 (h bb e rfl) aj)
def jg:=PLift.up (ad @List.length_append.{0} (ad @List.length_cons.{0} (ad @List.length_nil.{0} (ad @List.length_map.{0,0} @List.length_replicate.{0}))))
def mN:=PLift.up (ad (@th aq 60 59 1 1 [.aN] rfl rfl rfl (by kernel_rfl)) (ad @pT (ad @pU (ad @e5 (ad @hd (ad @List.nil_append.{0} (ad @List.cons_append.{0} (ad (@hS aq 60 60 59 rfl rfl) (ad @hT (ad @hU (ad @hR (ad @all_nil (@hc _ dg 1 (λ_=>rfl))))))))))))))
def oz:=PLift.up (ad @xF @Tm)
def oA:=PLift.up (ad (@xD aq 62 [(22,0),(59,1),(9,2),(60,3),(60,4)] [.aN,.aN,(.str []),.aN,.aN] rfl rfl (by kernel_rfl)) (ad @pT (ad @pU (ad @e5 (ad @hd (ad @List.nil_append.{0} (ad @List.cons_append.{0} (ad (@th aq 27 62 1 5 [(.agg [.aN,.aN,(.str []),.aN,.aN])] rfl rfl rfl (by kernel_rfl)) (ad (@hS aq 27 27 62 rfl rfl) (ad @hT (ad @hU (ad @hR (ad @all_nil (@hc _ cJ 5 (λ_=>rfl)))))))))))))))
def qc:=PLift.up (ad @ik (ad @iq (ad @ir (ad @d_ (ad (@cN _ ax ax (λ_=>gN _)) (ad (@cN _ cJ cD (λ_=>q8 _)) (ad (@cN _ ax ax (λ_=>gN _)) (@cN _ cJ cD (λ_=>q8 _)))))))))
def q9:=PLift.up (ad @List.cons_append.{0} (ad @List.nil_append.{0} (ad @List.length_append.{0} (ad @List.length_cons.{0} (ad @List.length_nil.{0} (ad @List.length_map.{0,0} @List.length_replicate.{0}))))))
def vZ:=PLift.up (ad @ik (ad @iq (ad @ir @d_)))
def v3:=PLift.up (ad @ik (ad @iq (ad @ir (ad @d_ (@cN _ ax ax (λ_=>gN _))))))
def v5:=PLift.up (ad @ik (ad @iq (ad @ir (ad @d_ (ad (@cN _ ax ax (λ_=>gN _)) (@cN _ ax ax (λ_=>gN _)))))))
def BQ:=PLift.up (ad (λs y q=>(xG aq s 22 y q).1) (λs y q=>(xG aq s 22 y q).2.1))
def BR:=PLift.up (ad (@xD aq 62 [(22,0),(59,1),(9,2),(60,3),(60,4)] [.aN,.aN,(.str []),.aN,.aN] rfl rfl (by kernel_rfl)) (ad @pT (ad @pU (ad @e5 (ad @hd (ad @List.nil_append.{0} (ad @List.cons_append.{0} (ad (@th aq 27 62 1 5 [(.agg [.aN,.aN,(.str []),.aN,.aN])] rfl rfl rfl (by kernel_rfl)) (ad (@hS aq 27 27 62 rfl rfl) (ad @hT (ad @hU (ad @hR (ad @all_nil (ad (@hc _ cJ 5 (λ_=>rfl)) (ad @ik (ad @iq (ad @ir (ad @d_ (ad (@cN _ ax ax (λ_=>gN _)) (ad (@cN _ aS aS (λ_=>l8 _)) (ad (@cN _ df df (λ_=>r6 _)) (@cN _ df df (λ_=>r6 _)))))))))))))))))))))))
def GA:=PLift.up (ad @ik (ad @iq (ad @ir (ad @d_ (ad (@cN _ ax ax (λ_=>gN _)) (@cN _ cD cD (λ_=>tO _)))))))
def GB:=PLift.up (ad @Ts (ad @To (ad @d_ (ad @Tn (ad (@cN _ aS aS (λ_=>l8 _)) (ad (@cN _ df df (λ_=>r6 _)) (@cN _ lA lA (λ_=>Vv _))))))))
def GC:=PLift.up (ad @ik (ad @iq (ad @ir (ad @d_ (ad (@cN _ df df (λ_=>r6 _)) (ad (@cN _ ax ax (λ_=>gN _)) (ad (@cN _ aS aS (λ_=>l8 _)) (ad (@cN _ df df (λ_=>r6 _)) (@cN _ df df (λ_=>r6 _))))))))))
def GD:=PLift.up (ad @oc (ad @od (ad @ik (ad @iq (ad @ir (ad @d_ (ad (@cN _ ax ax (λ_=>gN _)) (@cN _ cJ cD (λ_=>q8 _)))))))))
def GF:=PLift.up (ad (@il _ ax (λ_=>q7 _)) @yC)
def MS:=PLift.up (ad @ik (ad @iq (ad @ir (ad @d_ (@cN _ aS aS (λ_=>l8 _))))))
def MT:=PLift.up (ad @ik (ad @iq (ad @ir (ad @d_ (@cN _ dX dX (λ_=>Mq _))))))
def MU:=PLift.up (ad (@th aq 60 59 1 1 [.aN] rfl rfl rfl (by kernel_rfl)) (ad @pT (ad @pU (ad @e5 (ad @hd (ad @List.nil_append.{0} (ad @List.cons_append.{0} (ad (@hS aq 60 60 59 rfl rfl) (ad @hT (ad @hU (ad @hR (ad @all_nil (ad (@hc _ dg 1 (λ_=>rfl)) (ad @ik (ad @iq (ad @ir (ad @d_ (@cN _ aS aS (λ_=>l8 _)))))))))))))))))))
def MV:=PLift.up (ad (@th aq 27 62 1 5 [(.agg [.aN,.aN,(.str []),.aN,.aN])] rfl rfl rfl (by kernel_rfl)) (ad @pT (ad @pU (ad @e5 (ad @hd (ad @List.nil_append.{0} (ad @List.cons_append.{0} (ad (@hS aq 27 27 62 rfl rfl) (ad @hT (ad @hU (ad @hR (ad @all_nil (@hc _ cJ 5 (λ_=>rfl))))))))))))))
def MW:=PLift.up (ad @Lw (ad (λs x h=> @Lv aq s 60 59 x rfl h) (ad @Tv (ad @Tu (ad @Tw (ad @Tr (ad @List.map_replicate.{0,0} (ad (λs y q=>(xG aq s 60 y q).1) (ad (λs y q=>(xG aq s 60 y q).2.1) (ad (λs y q=>(xG aq s 60 y q).2.2) @Tx))))))))))
def MX:=PLift.up (ad (@th aq 103 98 1 1 [.db] rfl rfl rfl (by kernel_rfl)) (ad @pT (ad @pU (ad @e5 (ad @hd (ad @List.nil_append.{0} (ad @List.cons_append.{0} (ad (@hS aq 103 103 98 rfl rfl) (ad @hT (ad @hU (ad @hR (ad @all_nil (@hc _ ix 1 (λ_=>rfl))))))))))))))
def MY:=PLift.up (ad @ik (ad @iq (ad @ir (ad @d_ (ad (@cN _ ax ax (λ_=>gN _)) (ad (@cN _ cD cD (λ_=>tO _)) (@cN _ ax ax (λ_=>gN _))))))))
def MZ:=PLift.up (ad @MA (ad @Vz (ad (@th aq 60 59 1 1 [.aN] rfl rfl rfl (by kernel_rfl)) (ad @pT (ad @pU (ad @e5 (ad @hd (ad @List.nil_append.{0} (ad @List.cons_append.{0} (ad (@hS aq 60 60 59 rfl rfl) (ad @hT (ad @hU (ad @hR (ad @all_nil (@hc _ dg 1 (λ_=>rfl))))))))))))))))
def M0:=PLift.up (ad @qQ (ad @o2 (ad @ik (ad @iq (ad @ir (ad @d_ (ad @or_true (ad @true_or (@cN _ aS aS (λ_=>l8 _))))))))))
def M1:=PLift.up (ad @qQ (ad @o2 (ad @ik (ad @iq (ad @ir (ad @d_ (ad @or_true (ad @true_or (@cN _ dg df (λ_=>Gr _))))))))))
def M3:=PLift.up (ad @tj (ad @qQ (ad @o2 (ad @ik (ad @iq (ad @ir (ad @d_ (ad @or_true (ad @true_or (ad (@cN _ ax ax (λ_=>gN _)) (@cN _ cJ cD (λ_=>q8 _))))))))))))
def M4:=PLift.up (ad @ik (ad @iq (ad @ir (ad @d_ (ad (@cN _ ax ax (λ_=>gN _)) (@cN _ cJ cD (λ_=>q8 _)))))))
theorem M5 (J ab r) (h:xU J ab=some r):bk aq 24 [.slice (J.map ax),.int .i64 ab] (.int .i64 r) []:=by
 refine b6 [0] [.tmp 4] Tryz.func24 VB λb4 aE b3=>aI ?_;refine aI ?_;refine aU aE λ_ hY e1 _=>aI ?_;refine a_ h (λde h=>?_) λde h=>?_
 .exact bn e1 [.int .i64 (-1)]
 .exact bf (hY _ (inl (bn aE [.int .i64 (i64.wrap (ab-(J.length:Int)))])))
theorem M6 (J ab r) (h:u4 J ab=some r):bk aq 104 [.slice (J.map iw),.int .i64 ab] (.int .i64 r) []:=by
 refine b6 [0] [.tmp 4] Tryz.func104 VC λb4 aE b3=>aI ?_;refine aI ?_;refine aU aE λ_ hY e1 _=>aI ?_;refine a_ h (λde h=>?_) λde h=>?_
 .exact bn e1 [.int .i64 (-1)]
 .exact bf (hY _ (inl (bn aE [.int .i64 (i64.wrap (ab-(J.length:Int)))])))
theorem M7 (J ab r) (h:xV J ab=some r):bk aq 105 [.slice (J.map hX),.int .i64 ab] (.int .i64 r) []:=by
 refine b6 [0] [.tmp 4] Tryz.func105 VD λb4 aE b3=>aI ?_;refine aI ?_;refine aU aE λ_ hY e1 _=>aI ?_;refine a_ h (λde h=>?_) λde h=>?_
 .exact bn e1 [.int .i64 (-1)]
 .refine bf (hY _ (inl (aU aE λ_ eR fe _=>aI ?_)));refine bM fe λq_ _ dA fM _=>?_;show bj aq (.loop ?ra) _ _;have nv:∀n jK dH,E1 J n jK dH=some r->da aq ?ra q_ (ar [(0,.slice (J.map hX)),(1,.int .i64 jK),(5,.int .i64 dH)]):=by
   refine dz λ_ nw jK dH h=>dy dA λ_ cK cS eo=>aU cS λ_ dK _ iv=>aI ?_;refine a_ h (λl_ h=>?_) λl_ h=>?_
   .refine bf (dK _ (inl (aU cS λ_ gO gv _=>bM gv λ_ g5 kJ _ _=>?_)));obtain⟨ah,h8,h⟩:=aJ h;obtain⟨aA,gD,h⟩:=aJ h;refine fb h8 (M6 ah jK _ gD) _ ?_;refine aI ?_;refine a_ h (λjh h=>?_) λjh h=>?_
    .exact bn kJ [.int .i64 (-1)]
    .refine bf (g5 _ (gO _ (inl (fq ?_))));exact cK _ (inr ⟨_,cp rfl,nw aA (i64.wrap (dH+1)) h⟩)
   .exact dx (iv 0 _ (eo 0 _ (fM _ (eR _ (inl (bn aE [.int .i64 jK]))))))
  exact eV h λn h=>nv n (i64.wrap (ab-(J.length:Int))) 0 h
theorem Yr (J ab r) (h:xW J ab=some r):bk aq 52 [hF J,.int .i64 ab] (.int .i64 r) []:=by
 refine b6 [0] [.tmp 4] Tryz.func52 VE λb4 aE b3=>aI ?_;obtain⟨ah,aY,h⟩:=aJ h;refine dq (M5 J.br ab _ aY) _ ?_;refine aU aE λ_ fz bR aQ=>aI ?_;refine a_ h (λet h=>?_) λet h=>?_
 .exact bn bR [.int .i64 (-1)]
 .refine bf (fz _ (inl ?_));obtain⟨aA,iS,h⟩:=aJ h;refine dq (M6 J.Guard ah _ iS) _ ?_;refine aU aE λ_ cK cS _=>aI ?_;refine a_ h (λhr h=>?_) λhr h=>?_
  .exact bn cS [.int .i64 (-1)]
  .refine bf (cK _ (inl (aI ?_)));refine aU aE λ_ g5 kJ _=>aI ?_;refine a_ h (λhG h=>?_) λhG h=>?_
   .exact bn kJ [.int .i64 (-1)]
   .refine bf (g5 _ (inl ?_));obtain⟨aL,j1,h⟩:=aJ h;refine dq (M7 J.bD (i64.wrap (aA-(J.Name.length:Int))) _ j1) _ ?_;refine aU aE λ_ nx ny _=>aI ?_;refine a_ h (λjw h=>?_) λjw h=>?_
    .exact bn ny [.int .i64 (-1)]
    .refine bf (nx _ (inl ?_));obtain⟨aQ,mO,h⟩:=aJ h;refine dq (M7 J.Next aL _ mO) _ ?_;refine aU aE λ_ nz tQ _=>aI ?_;refine a_ h (λGG h=>?_) λGG h=>?_
     .exact bn tQ [.int .i64 (-1)]
     .exact bf (nz _ (inl (bn aE [.int .i64 aQ])))
theorem Ys (J ab r) (h:AH J ab=some r):bk aq 25 [.slice (J.map hF),.int .i64 ab] (.int .i64 r) []:=by
 refine b6 [0] [.tmp 4] Tryz.func25 Gt λb4 aE b3=>aI ?_;refine aI ?_;refine aU aE λ_ hY e1 _=>aI ?_;refine a_ h (λde h=>?_) λde h=>?_
 .exact bn e1 [.int .i64 (-1)]
 .refine bf (hY _ (inl (aU aE λ_ eR fe _=>aI ?_)));refine bM fe λq_ _ dA fM _=>?_;show bj aq (.loop ?ra) _ _;have nv:∀n jK dH,E2 J n jK dH=some r->da aq ?ra q_ (ar [(0,.slice (J.map hF)),(1,.int .i64 jK),(5,.int .i64 dH)]):=by
   refine dz λ_ nw jK dH h=>dy dA λ_ cK cS eo=>aU cS λ_ dK _ iv=>aI ?_;refine a_ h (λl_ h=>?_) λl_ h=>?_
   .refine bf (dK _ (inl (aU cS λ_ gO gv _=>bM gv λ_ g5 kJ _ _=>?_)));obtain⟨ah,h8,h⟩:=aJ h;obtain⟨aA,gD,h⟩:=aJ h;refine fb h8 (Yr ah jK _ gD) _ ?_;refine aI ?_;refine a_ h (λjh h=>?_) λjh h=>?_
    .exact bn kJ [.int .i64 (-1)]
    .refine bf (g5 _ (gO _ (inl (fq ?_))));exact cK _ (inr ⟨_,cp rfl,nw aA (i64.wrap (dH+1)) h⟩)
   .exact dx (iv 0 _ (eo 0 _ (fM _ (eR _ (inl (bn aE [.int .i64 jK]))))))
  exact eV h λn h=>nv n (i64.wrap (ab-(J.length:Int))) 0 h
theorem Yt (J ab r) (h:AJ J ab=some r):bk aq 6 [j0 J,.int .i64 ab] (.int .i64 r) []:=by
 refine b6 [0] [.tmp 4] Tryz.func6 fg λb4 aE b3=>aI ?_;obtain⟨ah,aY,h⟩:=aJ h;refine dq (M5 J.Start ab _ aY) _ ?_;refine aU aE λ_ fz bR _=>aI ?_;refine a_ h (λet h=>?_) λet h=>?_
 .exact bn bR [.int .i64 (-1)]
 .refine bf (fz _ (inl ?_));obtain⟨aA,iS,h⟩:=aJ h;refine dq (Ys J.bu ah _ iS) _ ?_;refine aU aE λ_ cK cS _=>aI ?_;refine a_ h (λhr h=>?_) λhr h=>?_
  .exact bn cS [.int .i64 (-1)]
  .exact bf (cK _ (inl (bn aE [.int .i64 aA])))
theorem M8 (J r) (h:xX J=some r):bk aq 30 [.slice (J.map ax)] (.ag 1 (r.map ax)) []:=by
 refine b6 [0] [.tmp 2] Tryz.func30 VF λb4 aE b3=>aI ?_;obtain⟨GH,aY,h⟩:=aJ h;refine yJ (ad (sm aY) @List.map_replicate.{0,0}) [(0,.slice (J.map ax)),(3,.ag 1 ((List.replicate (Int.toNat (J.length:Int)) 0).map ax))] ?_;refine aU aE λ_ fz bR _=>ws [(0,.slice (J.map ax)),(3,.ag 1 ((List.replicate (Int.toNat (J.length:Int)) 0).map ax)),(4,.int .i64 0)] ?_;refine bM bR λjN _ dF et _=>?_;show bj aq (.loop ?gV) _ _;have gY:∀n cc cH,E3 J n cc cH=some r->da aq ?gV jN (ar [(0,.slice (J.map ax)),(3,.ag 1 (cc.map ax)),(4,.int .i64 cH)]):=by
  refine dz λ_ gn cc cH h=>dy dF λ_ eR fe bV=>aU fe λ_ fN _ c2=>aI ?_;refine a_ h (λhg h=>?_) λhg h=>?_
  .refine bf (fN _ (inl (aU fe λ_ dK fc _=>bM fc λ_ hs _ _ _=>?_)));obtain⟨ah,fs,h⟩:=aJ h;obtain⟨aA,fi,h⟩:=aJ h;refine iW (cx [(0,.slice (J.map ax)),(3,.ag 1 ((List.set cc (Int.toNat cH) ah).map ax)),(4,.int .i64 cH)] (λP bm=>?_) ?_)
   .simp only[X0.down,simprocAttr,fs,fi,cB fi,e5,dj];exact cu (ad fs (ad fi (ad (cB fi) @e5)))
   refine hs _ (dK _ (inl (wr [(0,.slice (J.map ax)),(3,.ag 1 ((List.set cc (Int.toNat cH) ah).map ax)),(4,.int .i64 (i64.wrap (cH+1)))] ?_)));exact eR _ (inr ⟨_,cp rfl,gn (List.set cc (Int.toNat cH) ah) (i64.wrap (cH+1)) h⟩)
  .exact dx (c2 0 _ (bV 0 _ (et _ (fz _ (inl (bn aE [.ag 1 (cc.map ax)]))))))
 exact eV h λn h=>gY n (List.replicate (Int.toNat (J.length:Int)) 0) 0 h
theorem Yu (J r) (h:xY J=some r):bk aq 153 [iw J] (aS r) []:=by
 refine b6 [0] [.cell 2 102] Tryz.func153 VG λb4 aE b3=>aI ?_;refine aI ?_;refine aI ?_;refine aI ?_;exact bn aE [aS (aD.mk J.Kind J.Value)]
theorem M9 (J r) (h:u5 J=some r):bk aq 112 [.slice (J.map iw)] (.ag 2 (r.map aS)) []:=by
 refine b6 [0] [.tmp 2] Tryz.func112 VH λb4 aE b3=>aI ?_;obtain⟨BS,aY,h⟩:=aJ h;refine yJ (ad (sm aY) @List.map_replicate.{0,0}) [(0,.slice (J.map iw)),(3,.ag 2 ((List.replicate (Int.toNat (J.length:Int)) (aD.mk 0 0)).map aS))] ?_;refine aU aE λ_ fz bR _=>ws [(0,.slice (J.map iw)),(3,.ag 2 ((List.replicate (Int.toNat (J.length:Int)) (aD.mk 0 0)).map aS)),(4,.int .i64 0)] ?_;refine bM bR λjN _ dF et _=>?_;show bj aq (.loop ?gV) _ _;have gY:∀n cc cH,E4 J n cc cH=some r->da aq ?gV jN (ar [(0,.slice (J.map iw)),(3,.ag 2 (cc.map aS)),(4,.int .i64 cH)]):=by
  refine dz λ_ gn cc cH h=>dy dF λ_ eR fe bV=>aU fe λ_ fN _ c2=>aI ?_;refine a_ h (λhg h=>?_) λhg h=>?_
  .refine bf (fN _ (inl (aU fe λ_ dK fc _=>bM fc λ_ hs _ _ _=>?_)));obtain⟨ah,fs,h⟩:=aJ h;obtain⟨aA,fi,h⟩:=aJ h;obtain⟨aL,dr,h⟩:=aJ h;refine iW (cx [(0,.slice (J.map iw)),(3,.ag 2 ((List.set cc (Int.toNat cH) aA).map aS)),(4,.int .i64 cH)] (λP bm=>?_) ?_)
   ·(try simp only[X0.down,simprocAttr,fs,dr,cB dr,e5,dj]);refine dv (Yu ah _ fi) (hK:= ?_);simp only[X0.down,simprocAttr,fs,dr,cB dr,e5,dj];exact cu (ad fs (ad dr (ad (cB dr) @e5)))
   refine hs _ (dK _ (inl (wr [(0,.slice (J.map iw)),(3,.ag 2 ((List.set cc (Int.toNat cH) aA).map aS)),(4,.int .i64 (i64.wrap (cH+1)))] ?_)));exact eR _ (inr ⟨_,cp rfl,gn (List.set cc (Int.toNat cH) aA) (i64.wrap (cH+1)) h⟩)
  .exact dx (c2 0 _ (bV 0 _ (et _ (fz _ (inl (bn aE [.ag 2 (cc.map aS)]))))))
 exact eV h λn h=>gY n (List.replicate (Int.toNat (J.length:Int)) (aD.mk 0 0)) 0 h
theorem M_ (J r) (h:xZ J=some r):bk aq 113 [.slice (J.map hX)] (.ag 1 (r.map dg)) []:=by
 refine b6 [0] [.tmp 2] Tryz.func113 VI λb4 aE b3=>aI ?_;obtain⟨BS,aY,h⟩:=aJ h;refine yJ (ad (sm aY) @List.map_replicate.{0,0}) [(0,.slice (J.map hX)),(3,.ag 1 (List.replicate (Int.toNat (J.length:Int)) .aN))] ?_;refine aU aE λ_ fz bR _=>ws [(0,.slice (J.map hX)),(3,.ag 1 (List.replicate (Int.toNat (J.length:Int)) .aN)),(4,.int .i64 0)] ?_;refine bM bR λjN _ dF et _=>?_;show bj aq (.loop ?gV) _ _;have gY:∀n cc cH,E5 J n cc cH=some r->da aq ?gV jN (ar [(0,.slice (J.map hX)),(3,.ag 1 (cc.map dg)),(4,.int .i64 cH)]):=by
  refine dz λ_ gn cc cH h=>dy dF λ_ eR fe bV=>aU fe λ_ fN _ c2=>aI ?_;refine a_ h (λhg h=>?_) λhg h=>?_
  .refine bf (fN _ (inl (aU fe λ_ dK fc _=>bM fc λ_ hs _ _ _=>?_)));obtain⟨ah,fs,h⟩:=aJ h;obtain⟨aA,fi,h⟩:=aJ h;obtain⟨aL,dr,h⟩:=aJ h;refine iW (cx [(0,.slice (J.map hX)),(3,.ag 1 ((List.set cc (Int.toNat cH) aA).map dg)),(4,.int .i64 cH)] (λP bm=>?_) ?_)
   ·(try simp only[X0.down,simprocAttr,fs,dr,cB dr,e5,dj]);refine dv (M9 ah _ fi) (hK:= ?_);simp only[X0.down,simprocAttr,fs,dr,cB dr,e5,dj];exact cu (ad fs (ad dr (ad (cB dr) @e5)))
   refine hs _ (dK _ (inl (wr [(0,.slice (J.map hX)),(3,.ag 1 ((List.set cc (Int.toNat cH) aA).map dg)),(4,.int .i64 (i64.wrap (cH+1)))] ?_)));exact eR _ (inr ⟨_,cp rfl,gn (List.set cc (Int.toNat cH) aA) (i64.wrap (cH+1)) h⟩)
  .exact dx (c2 0 _ (bV 0 _ (et _ (fz _ (inl (bn aE [.ag 1 (cc.map dg)]))))))
 obtain⟨n,h⟩:=jl h;exact kE (inr ⟨_,jc [] rfl (cP (t:=0) (d:=.slice (J.map hX)) rfl (im (t:=3) (d:=.ag 1 (List.replicate (Int.toNat (J.length:Int)) .aN)) (bh:=.ag 1 ((List.replicate (Int.toNat (J.length:Int)) []).map dg)) rfl rfl (K_ (u:=dg) (z:=[]) (.gM _) _) (by decide) (cP (t:=4) (d:=.int .i64 0) rfl (jd)))),gY n (List.replicate (Int.toNat (J.length:Int)) []) 0 h⟩)
theorem Yv (J r) (h:x0 J=some r):bk aq 60 [hF J] (cJ r) []:=by
 refine b6 [0] [.cell 2 62] Tryz.func60 VJ λb4 aE b3=>aI ?_;refine aI ?_;obtain⟨ah,b1,h⟩:=aJ h;refine dq (M8 J.br _ b1) _ ?_;obtain⟨aA,bQ,h⟩:=aJ h;refine dq (M9 J.Guard _ bQ) _ ?_;refine aI ?_;obtain⟨aL,iS,h⟩:=aJ h;refine dq (M_ J.bD _ iS) _ ?_;obtain⟨aQ,oL,h⟩:=aJ h;refine dq (M_ J.Next _ oL) _ ?_;exact bn aE [cJ (bc.mk ah aA J.Name aL aQ)]
theorem Yw (J r) (h:AK J=some r):bk aq 31 [.slice (J.map hF)] (.ag 5 (r.map cJ)) []:=by
 refine b6 [0] [.tmp 2] Tryz.func31 VK λb4 aE b3=>aI ?_;obtain⟨BS,aY,h⟩:=aJ h;refine yJ (ad (sm aY) @List.map_replicate.{0,0}) [(0,.slice (J.map hF)),(3,.ag 5 (List.replicate (Int.toNat (J.length:Int)) (.agg [.aN,.aN,(.str []),.aN,.aN])))] ?_;refine aU aE λ_ fz bR _=>ws [(0,.slice (J.map hF)),(3,.ag 5 (List.replicate (Int.toNat (J.length:Int)) (.agg [.aN,.aN,(.str []),.aN,.aN]))),(4,.int .i64 0)] ?_;refine bM bR λjN _ dF et _=>?_;show bj aq (.loop ?gV) _ _;have gY:∀n cc cH,E6 J n cc cH=some r->da aq ?gV jN (ar [(0,.slice (J.map hF)),(3,.ag 5 (cc.map cJ)),(4,.int .i64 cH)]):=by
  refine dz λ_ gn cc cH h=>dy dF λ_ eR fe bV=>aU fe λ_ fN _ c2=>aI ?_;refine a_ h (λhg h=>?_) λhg h=>?_
  .refine bf (fN _ (inl (aU fe λ_ dK fc _=>bM fc λ_ hs _ _ _=>?_)));obtain⟨ah,fs,h⟩:=aJ h;obtain⟨aA,fi,h⟩:=aJ h;obtain⟨aL,dr,h⟩:=aJ h;refine iW (cx [(0,.slice (J.map hF)),(3,.ag 5 ((List.set cc (Int.toNat cH) aA).map cJ)),(4,.int .i64 cH)] (λP bm=>?_) ?_)
   ·(try simp only[X0.down,simprocAttr,fs,dr,cB dr,e5,dj]);refine dv (Yv ah _ fi) (hK:= ?_);simp only[X0.down,simprocAttr,fs,dr,cB dr,e5,dj];exact cu (ad fs (ad dr (ad (cB dr) @e5)))
   refine hs _ (dK _ (inl (wr [(0,.slice (J.map hF)),(3,.ag 5 ((List.set cc (Int.toNat cH) aA).map cJ)),(4,.int .i64 (i64.wrap (cH+1)))] ?_)));exact eR _ (inr ⟨_,cp rfl,gn (List.set cc (Int.toNat cH) aA) (i64.wrap (cH+1)) h⟩)
  .exact dx (c2 0 _ (bV 0 _ (et _ (fz _ (inl (bn aE [.ag 5 (cc.map cJ)]))))))
 obtain⟨n,h⟩:=jl h;exact kE (inr ⟨_,jc [] rfl (cP (t:=0) (d:=.slice (J.map hF)) rfl (im (t:=3) (d:=.ag 5 (List.replicate (Int.toNat (J.length:Int)) (.agg [.aN,.aN,(.str []),.aN,.aN]))) (bh:=.ag 5 ((List.replicate (Int.toNat (J.length:Int)) (bc.mk [] [] ([]:nq) [] [])).map cJ)) rfl rfl (K_ (u:=cJ) (z:=(bc.mk [] [] ([]:nq) [] [])) (.agg (.cons (.gM _) (.cons (.gM _) (.cons (.refl _) (.cons (.gM _) (.cons (.gM _) (.nil))))))) _) (by decide) (cP (t:=4) (d:=.int .i64 0) rfl (jd)))),gY n (List.replicate (Int.toNat (J.length:Int)) (bc.mk [] [] ([]:nq) [] [])) 0 h⟩)
theorem BT (J r) (h:tq J=some r):bk aq 8 [j0 J] (eC r) []:=by
 refine b6 [0] [.cell 2 29] Tryz.func8 gV λb4 aE b3=>aI ?_;refine aI ?_;refine aI ?_;obtain⟨ah,cI,h⟩:=aJ h;refine dq (M8 J.Start _ cI) _ ?_;obtain⟨aA,bL,h⟩:=aJ h;refine dq (Yw J.bu _ bL) _ ?_;exact bn aE [eC (bg.mk J.bz ah aA)]
theorem r8 (J ab aW r) (h:o7 J ab aW=some r):bk aq 53 [.int .i64 J,.int .i64 ab,.int .i64 aW] (.bool r) []:=by
 refine b6 [0,1,2] [.tmp 6] Tryz.func53 VL λb4 aE b3=>aI ?_;refine tP (decide (ab<=J)) [(6,.bool ((decide (ab<=J))&&(decide (J<=aW))))] ?_;exact cC aE [.bool ((decide (ab<=J))&&(decide (J<=aW)))]
theorem Yx (J r) (h:AL J=some r):bk aq 106 [.slice (J.map ax)] (.bool r) []:=by
 refine b6 [0] [.tmp 2] Tryz.func106 VM λb4 aE b3=>aI ?_;refine aU aE λ_ b9 bx aA=>aI ?_;refine bM bx λfO _ bR cG _=>?_;show bj aq (.loop ?fg) _ _;have ga:∀n pZ,x1 J n pZ=some r->da aq ?fg fO (ar [(0,.slice (J.map ax)),(3,.int .i64 pZ)]):=by
  refine dz λ_ fT pZ h=>dy bR λ_ eW cQ aZ=>aU cQ λ_ dP _ bp=>aI ?_;refine a_ h (λdw h=>?_) λdw h=>?_
  .refine bf (dP _ (inl (aU cQ λ_ dY dA _=>bM dA λ_ cK cS _ _=>?_)));obtain⟨ah,dM,h⟩:=aJ h;obtain⟨aA,dT,h⟩:=aJ h;refine fb dM (r8 ah 0 63 _ dT) _ ?_;refine a_ h (λhH h=>?_) λhH h=>?_
   .exact bn cS [.bool false]
   .refine bf (cK _ (dY _ (inl (fq ?_))));exact eW _ (inr ⟨_,cp rfl,fT (i64.wrap (pZ+1)) h⟩)
  .exact dx (bp 0 _ (aZ 0 _ (cG _ (b9 _ (inl (bn aE [.bool true]))))))
 exact eV h λn h=>ga n 0 h
theorem Na (J ab r) (h:AM J ab=some r):bk aq 54 [.slice (J.map ax),.int .i64 ab] (.bool r) []:=by
 refine b6 [0,1] [.tmp 4] Tryz.func54 VN λb4 aE b3=>aI ?_;rcases fG h with⟨jU,h⟩|⟨jU,h⟩
 .obtain⟨ah,b1,h⟩:=aJ h;refine fb jU (Yx J _ b1) _ ?_;exact cC aE [.bool ah]
 .refine cR jU _ ?_;exact cC aE [.bool false]
theorem Yy (J r) (h:AN J=some r):bk aq 107 [.slice (J.map ax)] (.int .i64 r) []:=by
 refine b6 [0] [.tmp 2] Tryz.func107 VO λb4 aE b3=>aI ?_;refine aU aE λ_ b9 bx aA=>aI ?_;refine a_ h (λcG h=>?_) λcG h=>?_
 .exact bn bx [.int .i64 0]
 .refine bf (b9 _ (inl (aI ?_)));refine aU aE λ_ eR fe _=>aI ?_;refine bM fe λq_ _ dA fM _=>?_;show bj aq (.loop ?ra) _ _;have nv:∀n o8 p0,u6 J n o8 p0=some r->da aq ?ra q_ (ar [(0,.slice (J.map ax)),(3,.int .i64 o8),(4,.int .i64 p0)]):=by
   refine dz λ_ nw o8 p0 h=>dy dA λ_ cK cS eo=>aU cS λ_ dK _ iv=>aI ?_;refine a_ h (λl_ h=>?_) λl_ h=>?_
   .refine bf (dK _ (inl (aU cS λ_ gO gv _=>bM gv λ_ g5 kJ _ _=>aU kJ λ_ nA nB _=>?_)));obtain⟨ah,gD,h⟩:=aJ h;obtain⟨aA,eS,h⟩:=aJ h;refine fb gD (r8 ah 1 7 _ eS) _ ?_;refine a_ h (λjh h=>?_) λjh h=>?_
    .exact bn nB [.int .i64 0]
    .refine bf (nA _ (inl (k5 gD _ ?_)));refine g5 _ (gO _ (inl (fq ?_)));exact cK _ (inr ⟨_,cp rfl,nw (i64.wrap (o8*(i64.wrap (ah+1)))) (i64.wrap (p0+1)) h⟩)
   .refine dx (iv 0 _ (eo 0 _ (fM _ (eR _ (inl (aU aE λ_ rb pc _=>aI ?_))))));refine a_ h (λre h=>?_) λre h=>?_
    .exact bn pc [.int .i64 0]
    .exact bf (rb _ (inl (bn aE [.int .i64 o8])))
  exact eV h λn h=>nv n 1 0 h
theorem Yz (J ab r) (h:AO J ab=some r):bk aq 148 [.ref (aS J),.int .i64 ab] (.bool r) []:=by
 refine b6 [0,1] [.tmp 4] Tryz.func148 VP λb4 aE b3=>aI ?_;refine aU aE λ_ b9 bx aA=>aI ?_;refine bM bx λ_ fz bR _ _=>aI ?_;refine a_ h (λet h=>?_) λet h=>?_
 .obtain⟨ah,gI,h⟩:=aJ h;refine dq (r8 J.Value 0 63 _ gI) _ ?_;exact cC bR [.bool ah]
 .refine aI ?_;refine a_ h (λhg h=>?_) λhg h=>?_
  .obtain⟨aA,dM,h⟩:=aJ h;refine dq (r8 J.Value 0 (i64.wrap (ab-1)) _ dM) _ ?_;exact cC bR [.bool aA]
  .refine aI ?_;refine a_ h (λhH h=>?_) λhH h=>?_
   .obtain⟨aL,dr,h⟩:=aJ h;refine dq (r8 J.Value 0 8 _ dr) _ ?_;exact cC bR [.bool aL]
   .refine aI ?_;refine a_ h (λk6 h=>?_) λk6 h=>?_
    .exact bn bR [.bool (J.Value==0)]
    .exact bf (fz _ (b9 _ (inl (bn aE [.bool false]))))
theorem GI (J r) (h:x2 J=some r):bk aq 149 [.ref (aS J)] (.int .i64 r) []:=by
 refine b6 [0] [.tmp 2] Tryz.func149 VQ λb4 aE b3=>aI ?_;refine aU aE λ_ b9 bx _=>aI ?_;refine bM bx λ_ fz bR _ _=>aI ?_;refine a_ h (λet h=>?_) λet h=>?_
 .exact bn bR [.int .i64 2]
 .refine aI ?_;refine a_ h (λfM h=>?_) λfM h=>?_
  .exact bn bR [.int .i64 1]
  .exact bf (fz _ (b9 _ (inl (bn aE [.int .i64 0]))))
theorem GJ (J ab aW r) (h:x3 J ab aW=some r):bk aq 108 [.slice (J.map aS),.int .i64 ab,.int .i64 aW] (.bool r) []:=by
 refine b6 [0,1,2] [.tmp 6] Tryz.func108 VR λb4 aE b3=>aI ?_;refine aU aE λ_ b9 bx aA=>aI ?_;refine a_ h (λcG h=>?_) λcG h=>?_
 .exact bn bx [.bool false]
 .refine bf (b9 _ (inl (aI ?_)));refine aU aE λ_ eR fe _=>aI ?_;refine bM fe λq_ _ dA fM _=>?_;show bj aq (.loop ?ra) _ _;have nv:∀n jf p1,u7 J ab n jf p1=some r->da aq ?ra q_ (ar [(0,.slice (J.map aS)),(1,.int .i64 ab),(7,.int .i64 jf),(8,.int .i64 p1)]):=by
   refine dz λ_ nw jf p1 h=>dy dA λ_ cK cS eo=>aU cS λ_ dK _ iv=>aI ?_;refine a_ h (λl_ h=>?_) λl_ h=>?_
   .refine bf (dK _ (inl (aU cS λ_ gO gv _=>bM gv λ_ g5 kJ _ _=>aU kJ λ_ nA nB _=>?_)));rcases fG h with⟨k6,h⟩|⟨k6,h⟩
    .refine cR k6 _ ?_;refine iX rfl ?_;exact bn nB [.bool false]
    .obtain⟨ah,j1,h⟩:=aJ h;obtain⟨aA,ft,h⟩:=aJ h;refine fb (ad k6 j1) (Yz ah ab _ ft) _ ?_;refine a_ h (λnC h=>?_) λnC h=>?_
     .exact bn nB [.bool false]
     .refine bf (nA _ (inl ?_));obtain⟨aL,j2,h⟩:=aJ h;refine Yo j1 (GI ah _ j2) _ ?_;refine g5 _ (gO _ (inl (fq ?_)));exact cK _ (inr ⟨_,cp rfl,nw (i64.wrap (jf+(i64.wrap (aL-1)))) (i64.wrap (p1+1)) h⟩)
   .exact dx (iv 0 _ (eo 0 _ (fM _ (eR _ (inl (bn aE [.bool (jf==0)]))))))
  exact eV h λn h=>nv n 1 0 h
theorem v7 (J ab r) (h:tr J ab=some r):bk aq 109 [.slice (J.map df),.int .i64 ab] (.bool r) []:=by
 refine b6 [0,1] [.tmp 4] Tryz.func109 VS λb4 aE b3=>aI ?_;refine aU aE λ_ b9 bx aA=>aI ?_;refine bM bx λfO _ bR cG _=>?_;show bj aq (.loop ?fg) _ _;have ga:∀n bd,x4 J ab n bd=some r->da aq ?fg fO (ar [(0,.slice (J.map df)),(1,.int .i64 ab),(5,.int .i64 bd)]):=by
  refine dz λ_ fT bd h=>dy bR λ_ eW cQ aZ=>aU cQ λ_ dP _ bp=>aI ?_;refine a_ h (λdw h=>?_) λdw h=>?_
  .refine bf (dP _ (inl (aU cQ λ_ dY dA _=>bM dA λ_ cK cS _ _=>?_)));obtain⟨ah,dM,h⟩:=aJ h;obtain⟨aA,dT,h⟩:=aJ h;refine fb dM (GJ ah ab 60 _ dT) _ ?_;refine a_ h (λhH h=>?_) λhH h=>?_
   .exact bn cS [.bool false]
   .refine bf (cK _ (dY _ (inl (fq ?_))));exact eW _ (inr ⟨_,cp rfl,fT (i64.wrap (bd+1)) h⟩)
  .exact dx (bp 0 _ (aZ 0 _ (cG _ (b9 _ (inl (bn aE [.bool true]))))))
 exact eV h λn h=>ga n 0 h
theorem GK (J r) (h:x5 J=some r):bk aq 163 [.int .u8 (J.toNat:Int)] (.bool r) []:=by
 refine b6 [0] [.tmp 2] Tryz.func163 VT λb4 aE b3=>aI ?_;refine tP (decide (97<=(J.toNat:Int))) [(2,.bool ((decide (97<=(J.toNat:Int)))&&(decide ((J.toNat:Int)<=122))))] ?_;exact cC aE [.bool ((decide (97<=(J.toNat:Int)))&&(decide ((J.toNat:Int)<=122)))]
theorem YA (J r) (h:Fa J=some r):bk aq 164 [.int .u8 (J.toNat:Int)] (.bool r) []:=by
 refine b6 [0] [.tmp 2] Tryz.func164 VU λb4 aE b3=>aI ?_;refine tP (decide (48<=(J.toNat:Int))) [(2,.bool ((decide (48<=(J.toNat:Int)))&&(decide ((J.toNat:Int)<=57))))] ?_;exact cC aE [.bool ((decide (48<=(J.toNat:Int)))&&(decide ((J.toNat:Int)<=57)))]
theorem Nb (J r) (h:AP J=some r):bk aq 127 [.str J] (.bool r) []:=by
 refine b6 [0] [.tmp 2] Tryz.func127 VV λb4 aE b3=>aI ?_;refine aU aE λ_ b9 bx aA=>?_;rcases fG h with⟨cG,h⟩|⟨cG,h⟩
 .refine cR cG _ ?_;refine iX rfl ?_;exact bn bx [.bool false]
 .rcases fG h with⟨et,h⟩|⟨et,h⟩
  .refine cR (ad cG et) _ ?_;refine iX rfl ?_;exact bn bx [.bool false]
  .obtain⟨ah,gI,h⟩:=aJ h;obtain⟨aA,iS,h⟩:=aJ h;refine fb (ad cG (ad et gI)) (GK ah _ iS) _ ?_;refine a_ h (λhg h=>?_) λhg h=>?_
   .exact bn bx [.bool false]
   .refine bf (b9 _ (inl (aU aE λ_ hs yK _=>aI ?_)));refine bM yK λYB _ gv hH _=>?_;show bj aq (.loop ?nu) _ _;have nD:∀n fS,x6 J n fS=some r->da aq ?nu YB (ar [(0,.str J),(3,.int .i64 fS)]):=by
     refine dz λ_ mP fS h=>dy gv λ_ g5 kJ q5=>aU kJ λ_ nA _ tM=>aI ?_;refine a_ h (λk6 h=>?_) λk6 h=>?_
     .refine bf (nA _ (inl (aU kJ λ_ nE qd _=>bM qd λ_ v8 GL _ _=>?_)));obtain⟨aL,g6,h⟩:=aJ h;obtain⟨aQ,lB,h⟩:=aJ h;rcases fG h with⟨qe,h⟩|⟨qe,h⟩
      .obtain⟨aZ,j2,h⟩:=aJ h;refine c0 (cx [(0,.str J),(3,.int .i64 fS),(34,.bool (!aZ))] (λP bm=>?_) ?_)
       ·(try simp only[X0.down,simprocAttr,g6,(iZ qe)]);refine dv (GK aL _ lB) (hK:= ?_);simp only[X0.down,simprocAttr,g6,(iZ qe)];refine jv (YA aL _ j2) (hK:= ?_);simp only[X0.down,simprocAttr,g6,(iZ qe)];exact cu (ad g6 (iZ qe))
       refine a_ h (λre h=>?_) λre h=>?_
       .exact bn GL [.bool false]
       .refine bf (v8 _ (nE _ (inl (fq ?_))));exact g5 _ (inr ⟨_,cp rfl,mP (i64.wrap (fS+1)) h⟩)
      .refine fb (ad g6 (dp qe)) (GK aL _ lB) _ ?_;refine oa rfl ?_;refine bf (v8 _ (nE _ (inl (fq ?_))));exact g5 _ (inr ⟨_,cp rfl,mP (i64.wrap (fS+1)) h⟩)
     .exact dx (tM 0 _ (q5 0 _ (hH _ (hs _ (inl (bn aE [.bool true]))))))
    exact eV h λn h=>nD n 0 h
theorem Nc (J r) (h:AQ J=some r):bk aq 88 [.str J] (.bool r) []:=by
 refine b6 [0] [.tmp 2] Tryz.func88 VW λb4 aE b3=>aI ?_;obtain⟨ah,aY,h⟩:=aJ h;refine c0 (cx [(2,.bool (ah&&(!(J==([116,97,117]:nq)))))] (λP bm=>?_) ?_)
 .rcases Bool.eq_false_or_eq_true (ah)with lo|lo
  ·(try simp only[X0.down,simprocAttr,lo]);refine dv (Nb J _ aY) (hK:= ?_);simp only[X0.down,simprocAttr,lo];exact cu lo
  ·(try simp only[X0.down,simprocAttr,lo]);refine dv (Nb J _ aY) (hK:= ?_);simp only[X0.down,simprocAttr,lo];exact cu lo
 exact cC aE [.bool (ah&&(!(J==([116,97,117]:nq))))]
theorem YC (J ab r) (h:AR J ab=some r):bk aq 55 [.ref (cD J),.int .i64 ab] (.bool r) []:=by
 refine b6 [0,1] [.tmp 4] Tryz.func55 VZ λb4 aE b3=>aI ?_;refine aU aE λ_ b9 bx aA=>?_;obtain⟨ah,b1,h⟩:=aJ h;refine dq (Yy J.br _ b1) _ ?_;refine a_ h (λde h=>?_) λde h=>?_
 .exact bn bx [.bool false]
 .refine bf (b9 _ (inl (aI ?_)));refine aU aE λ_ fN h9 _=>?_;obtain⟨aA,jC,h⟩:=aJ h;refine c0 (cx [(0,.ref (cD J)),(5,.int .i64 (i64.wrap (ab+(J.br.length:Int)))),(34,.bool ((!aA)||((J.Next.length:Int) !=ab)))] (λP bm=>?_) ?_)
  .rcases Bool.eq_false_or_eq_true (aA)with tR|tR
   ·(try simp only[X0.down,simprocAttr,tR]);refine dv (GJ J.Guard (i64.wrap (ab+(J.br.length:Int))) 60 _ jC) (hK:= ?_);simp only[X0.down,simprocAttr,tR];exact cu tR
   ·(try simp only[X0.down,simprocAttr,tR]);refine dv (GJ J.Guard (i64.wrap (ab+(J.br.length:Int))) 60 _ jC) (hK:= ?_);simp only[X0.down,simprocAttr,tR];exact cu tR
  refine a_ h (λhr h=>?_) λhr h=>?_
  .exact bn h9 [.bool false]
  .refine bf (fN _ (inl (aU aE λ_ gO gv _=>?_)));rcases fG h with⟨ma,h⟩|⟨ma,h⟩
   .rcases fG h with⟨hG,h⟩|⟨hG,h⟩
    .refine cR (ad ma hG) _ ?_;refine iX rfl ?_;exact bn gv [.bool false]
    .refine cR (ad ma hG) _ ?_;refine a_ h (λgE h=>?_) λgE h=>?_
     .exact bn gv [.bool false]
     .refine bf (gO _ (inl ?_));obtain⟨aL,g6,h⟩:=aJ h;rcases fG h with⟨jw,h⟩|⟨jw,h⟩
      .obtain⟨aQ,lC,h⟩:=aJ h;refine c0 (cx [(4,.bool aQ)] (λP bm=>?_) ?_)
       ·(try simp only[X0.down,simprocAttr,jw]);refine dv (v7 J.bD (i64.wrap (ab+(J.br.length:Int))) _ g6) (hK:= ?_);simp only[X0.down,simprocAttr,jw];refine jv (v7 J.Next (i64.wrap (ab+(J.br.length:Int))) _ lC) (hK:= ?_);simp only[X0.down,simprocAttr,jw];exact cu jw
       exact cC aE [.bool aQ]
      .refine fb jw (v7 J.bD (i64.wrap (ab+(J.br.length:Int))) _ g6) _ ?_;exact cC aE [.bool false]
   .obtain⟨aZ,j2,h⟩:=aJ h;rcases fG h with⟨re,h⟩|⟨re,h⟩
    .refine fb (ad ma (iZ re)) (Nc J.Name _ j2) _ ?_;refine iX rfl ?_;exact bn gv [.bool false]
    .refine fb (ad ma (dp re)) (Nc J.Name _ j2) _ ?_;refine a_ h (λYD h=>?_) λYD h=>?_
     .exact bn gv [.bool false]
     .refine bf (gO _ (inl ?_));obtain⟨bp,km,h⟩:=aJ h;rcases fG h with⟨kK,h⟩|⟨kK,h⟩
      .obtain⟨bV,qf,h⟩:=aJ h;refine c0 (cx [(4,.bool bV)] (λP bm=>?_) ?_)
       ·(try simp only[X0.down,simprocAttr,kK]);refine dv (v7 J.bD (i64.wrap (ab+(J.br.length:Int))) _ km) (hK:= ?_);simp only[X0.down,simprocAttr,kK];refine jv (v7 J.Next (i64.wrap (ab+(J.br.length:Int))) _ qf) (hK:= ?_);simp only[X0.down,simprocAttr,kK];exact cu kK
       exact cC aE [.bool bV]
      .refine fb kK (v7 J.bD (i64.wrap (ab+(J.br.length:Int))) _ km) _ ?_;exact cC aE [.bool false]
theorem YE (J r) (h:AS J=some r):bk aq 26 [.ref (bN J)] (.bool r) []:=by
 refine b6 [0] [.tmp 2] Tryz.func26 Gu λb4 aE b3=>aI ?_;refine aU aE λ_ b9 bx aA=>?_;obtain⟨ah,b1,h⟩:=aJ h;rcases fG h with⟨de,h⟩|⟨de,h⟩
 .refine qb (iZ de) (r8 J.bz 0 21 _ b1) _ ?_;refine iX rfl ?_;exact bn bx [.bool false]
 .obtain⟨aA,bL,h⟩:=aJ h;refine rW rfl (m7 [(0,.ref (bN J)),(29,.bool ((!aA)||(decide (60<(J.bu.length:Int)))))] (λP bm=>?_) ?_)
  .rcases Bool.eq_false_or_eq_true (aA)with kn|kn
   ·(try simp only[ef.down,simprocAttr,(dp de),kn]);refine h5 (r8 J.bz 0 21 _ b1) (hK:= ?_);simp only[ef.down,simprocAttr,(dp de),kn];refine Em (Na J.Start J.bz _ bL) (hK:= ?_);simp only[ef.down,simprocAttr,(dp de),kn];refine⟨mD (by kernel_rfl),?_⟩;exact cu (ad (dp de) kn)
   ·(try simp only[ef.down,simprocAttr,(dp de),kn]);refine h5 (r8 J.bz 0 21 _ b1) (hK:= ?_);simp only[ef.down,simprocAttr,(dp de),kn];refine Em (Na J.Start J.bz _ bL) (hK:= ?_);simp only[ef.down,simprocAttr,(dp de),kn];refine⟨mD (by kernel_rfl),?_⟩;exact cu (ad (dp de) kn)
  refine a_ h (λfM h=>?_) λfM h=>?_
  .exact bn bx [.bool false]
  .refine bf (b9 _ (inl (aU aE λ_ dK fc _=>aI ?_)));refine bM fc λYF _ mQ l_ _=>?_;show bj aq (.loop ?nu) _ _;have nD:∀n fS,x7 J n fS=some r->da aq ?nu YF (ar [(0,.ref (bN J)),(3,.int .i64 fS)]):=by
    refine dz λ_ mP fS h=>dy mQ λ_ gO gv g4=>aU gv λ_ g5 _ q5=>aI ?_;refine a_ h (λhG h=>?_) λhG h=>?_
    .refine bf (g5 _ (inl (aU gv λ_ YG GM _=>bM GM λ_ nE qd _ _=>?_)));obtain⟨aL,ft,h⟩:=aJ h;obtain⟨aQ,g6,h⟩:=aJ h;refine qb ft (YC aL J.bz _ g6) _ ?_;refine a_ h (λjw h=>?_) λjw h=>?_
     .exact bn qd [.bool false]
     .refine bf (nE _ (YG _ (inl (fq ?_))));exact gO _ (inr ⟨_,cp rfl,mP (i64.wrap (fS+1)) h⟩)
    .exact dx (q5 0 _ (g4 0 _ (l_ _ (dK _ (inl (bn aE [.bool true]))))))
   exact eV h λn h=>nD n 0 h
theorem GN (J r) (h:qX J=some r):bk aq 111 [.slice (J.map aS)] (.ag 2 (r.map aS)) []:=by
 refine b6 [0] [.tmp 2] Tryz.func111 V0 λb4 aE b3=>aI ?_;obtain⟨I2,aY,h⟩:=aJ h;(try simp only[jg.down,Nat.zero_add,Nat.add_zero,reduceAdd]at aY);refine cR (ad (show∀s,eu aq s 59 0 []=some (.ag 2 [],s)from λs=>by kernel_rfl) (ad (@hS aq 59 59 102 rfl rfl) (ad @hT (ad @hU (ad @hd (ad @hR (ad @all_nil (ad aY (@hc _ aS 2 λ_=>rfl))))))))) _ ?_;exact cC aE [.ag 2 (J.map aS)]
theorem BU (J ab aW r) (h:p3 J ab aW=some r):bk aq 59 [.slice (J.map aS),.slice (ab.map dX),.slice (aW.map ax)] (.ag 2 (r.map aS)) []:=by
 refine b6 [0,1,2] [.tmp 6] Tryz.func59 Gv λb4 aE b3=>aI ?_;obtain⟨ah,aY,h⟩:=aJ h;refine dq (GN J _ aY) _ ?_;refine aU aE λ_ fz bR aQ=>aI ?_;refine bM bR λjN _ dF et _=>?_;show bj aq (.loop ?gV) _ _;have gY:∀n kk jY,p2 ab aW n kk jY=some r->da aq ?gV jN (ar [(1,.slice (ab.map dX)),(2,.slice (aW.map ax)),(7,.ag 2 (kk.map aS)),(8,.int .i64 jY)]):=by
  refine dz λi9 gn kk jY h=>dy dF λyL eR fe bV=>aU fe λ_ fN _ c2=>aI ?_;refine a_ h (λhg h=>?_) λhg h=>?_
  .refine bf (fN _ (inl ?_));show bj aq (.seq _ ?GO) _ _;have tS:∀u9 u_,ts (p2 ab aW i9) ab aW u9 u_=some r->bj aq ?GO yL (ar [(1,.slice (ab.map dX)),(2,.slice (aW.map ax)),(7,.ag 2 (u9.map aS)),(8,.int .i64 u_)]):=by
    intro u9 u_ h;refine fq ?_;exact eR _ (inr ⟨_,cp rfl,gn u9 (i64.wrap (u_+1)) h⟩)
   refine aU fe λ_ dK fc _=>bM fc λ_ ji _ _ _=>?_;obtain⟨aL,dr,h⟩:=aJ h;rcases fG h with⟨hG,h⟩|⟨hG,h⟩
   .rcases fG h with⟨k6,h⟩|⟨k6,h⟩
    .obtain⟨aQ,eS,h⟩:=aJ h;refine cR (ad dr (ad (cB dr) (ad hG (ad k6 eS)))) _ ?_;refine a_ h (λjh h=>?_) λjh h=>?_
     .obtain⟨aZ,g6,h⟩:=aJ h;refine iW (cx [(1,.slice (ab.map dX)),(2,.slice (aW.map ax)),(7,.ag 2 ((List.set kk (Int.toNat jY) (aD.mk 0 aZ)).map aS)),(8,.int .i64 jY)] (λP bm=>?_) ?_)
      .simp only[X0.down,simprocAttr,dr,cB dr,g6,(show∀s,fl aq s 102 [(0,.int .i64 0),(1,.int .i64 aZ)]=some (.agg [.int .i64 0,.int .i64 aZ],s)from λs=>by kernel_rfl),e5,dj];exact cu (ad dr (ad (cB dr) (ad g6 (ad (show∀s,fl aq s 102 [(0,.int .i64 0),(1,.int .i64 aZ)]=some (.agg [.int .i64 0,.int .i64 aZ],s)from λs=>by kernel_rfl) @e5))))
      exact ji _ (dK _ (inr ⟨_,cp rfl,tS (List.set kk (Int.toNat jY) (aD.mk 0 aZ)) jY h⟩))
     .exact bf (ji _ (dK _ (inr ⟨_,cp rfl,tS kk jY h⟩)))
    .refine cR (ad dr (ad (cB dr) (ad hG k6))) _ ?_;refine oa rfl ?_;exact bf (ji _ (dK _ (inr ⟨_,cp rfl,tS kk jY h⟩)))
   .refine cR (ad dr (ad (cB dr) hG)) _ ?_;refine oa rfl ?_;exact bf (ji _ (dK _ (inr ⟨_,cp rfl,tS kk jY h⟩)))
  .exact dx (c2 0 _ (bV 0 _ (et _ (fz _ (inl (bn aE [.ag 2 (kk.map aS)]))))))
 exact eV h λn h=>gY n ah 0 h
theorem YH (J ab r) (h:AU J ab=some r):bk aq 150 [.slice (J.map aS),.int .i64 ab] (.int .i64 r) []:=by
 refine b6 [0] [.tmp 4] Tryz.func150 V1 λb4 aE b3=>aI ?_;refine aI ?_;refine aU aE λ_ hY e1 _=>bM e1 λfO _ bR cG _=>?_;show bj aq (.loop ?fg) _ _;have ga:∀n bS bd,va J n bS bd=some r->da aq ?fg fO (ar [(0,.slice (J.map aS)),(1,.int .i64 bS),(5,.int .i64 bd)]):=by
  refine dz λ_ fT bS bd h=>dy bR λ_ eW cQ aZ=>aU cQ λ_ dP _ bp=>aI ?_;refine a_ h (λdw h=>?_) λdw h=>?_
  .refine bf (dP _ (inl (bM cQ λ_ dY _ _ _=>?_)));obtain⟨ah,oL,h⟩:=aJ h;obtain⟨aA,dM,h⟩:=aJ h;refine fb oL (GI ah _ dM) _ ?_;refine fq ?_;exact dY _ (eW _ (inr ⟨_,cp rfl,fT (i64.wrap (bS+1)) (i64.wrap (bd+(i64.wrap (aA-1)))) h⟩))
  .exact dx (bp 0 _ (aZ 0 _ (cG _ (hY _ (inl (bn aE [.int .i64 bS]))))))
 exact eV h λn h=>ga n ab 1 h
theorem rf (J r) (h:og J=some r):bk aq 151 [.bool J] (.int .i64 r) []:=by
 refine b6 [0] [.tmp 2] Tryz.func151 V2 λb4 aE b3=>aI ?_;refine aU aE λ_ b9 bx _=>aI ?_;refine a_ h (λcG h=>?_) λcG h=>?_
 .exact bn bx [.int .i64 1]
 .exact bf (b9 _ (inl (bn aE [.int .i64 0])))
theorem YI (J ab aW r) (h:AV J ab aW=some r):bk aq 152 [.int .i64 J,.int .i64 ab,.int .i64 aW] (.int .i64 r) []:=by
 refine b6 [0,1,2] [.tmp 6] Tryz.func152 V3 λb4 aE b3=>aI ?_;refine aU aE λ_ b9 bx aA=>aI ?_;refine bM bx λ_ fz bR _ aQ=>aI ?_;refine a_ h (λet h=>?_) λet h=>?_
 .refine cR (@te .i64 64 (by decide)) _ ?_;exact cC bR [.int .i64 (Int.tmod (i64.wrap (ab+aW)) 64)]
 .refine aI ?_;refine a_ h (λfM h=>?_) λfM h=>?_
  .refine cR (@te .i64 64 (by decide)) _ ?_;exact cC bR [.int .i64 (Int.tmod (i64.wrap ((i64.wrap (ab-aW))+64)) 64)]
  .refine aI ?_;refine a_ h (λhr h=>?_) λhr h=>?_
   .refine cR (@te .i64 64 (by decide)) _ ?_;exact cC bR [.int .i64 (Int.tmod (i64.wrap (ab*aW)) 64)]
   .refine aI ?_;refine a_ h (λi2 h=>?_) λi2 h=>?_
    .obtain⟨ah,h8,h⟩:=aJ h;refine dq (rf (ab==aW) _ h8) _ ?_;exact cC bR [.int .i64 ah]
    .refine aI ?_;refine a_ h (λgE h=>?_) λgE h=>?_
     .obtain⟨aA,ft,h⟩:=aJ h;refine dq (rf (ab !=aW) _ ft) _ ?_;exact cC bR [.int .i64 aA]
     .refine aI ?_;refine a_ h (λjw h=>?_) λjw h=>?_
      .obtain⟨aL,j2,h⟩:=aJ h;refine dq (rf (decide (ab<aW)) _ j2) _ ?_;exact cC bR [.int .i64 aL]
      .refine aI ?_;refine a_ h (λk7 h=>?_) λk7 h=>?_
       .obtain⟨aQ,jO,h⟩:=aJ h;refine dq (rf (decide (ab<=aW)) _ jO) _ ?_;exact cC bR [.int .i64 aQ]
       .refine aI ?_;refine a_ h (λtT h=>?_) λtT h=>?_
        .rcases fG h with⟨pd,h⟩|⟨pd,h⟩
         .obtain⟨aZ,yM,h⟩:=aJ h;refine fb pd (rf (aW !=0) _ yM) _ ?_;exact cC bR [.int .i64 aZ]
         .obtain⟨bp,j3,h⟩:=aJ h;refine fb pd (rf false _ j3) _ ?_;exact cC bR [.int .i64 bp]
        .refine bf (fz _ (b9 _ (inl ?_)));rcases fG h with⟨rh,h⟩|⟨rh,h⟩
         .obtain⟨bV,tU,h⟩:=aJ h;refine fb rh (rf true _ tU) _ ?_;exact cC aE [.int .i64 bV]
         .obtain⟨c2,v9,h⟩:=aJ h;refine fb rh (rf (aW !=0) _ v9) _ ?_;exact cC aE [.int .i64 c2]
theorem YJ (x9:afm->Option afm) (Nd:∀J r,x9 J=some r->bk aq 110 [.slice (J.map aS)] (.ag 2 (r.map aS)) []) (J r) (h:Fg x9 J=some r):bk aq 110 [.slice (J.map aS)] (.ag 2 (r.map aS)) []:=by
 refine b6 [0] [.tmp 2] Tryz.func110 V4 λb4 aE b3=>aI ?_;refine aU aE λ_ b9 bx aA=>?_;obtain⟨ah,b1,h⟩:=aJ h;obtain⟨aA,cI,h⟩:=aJ h;refine fb b1 (GI ah _ cI) _ ?_;refine a_ h (λet h=>?_) λet h=>?_
 .obtain⟨aL,gI,h⟩:=aJ h;refine dq (GN J _ gI) _ ?_;exact cC bx [.ag 2 (aL.map aS)]
 .refine bf (b9 _ (inl ?_));obtain⟨aQ,jC,h⟩:=aJ h;refine dq (YH J 1 _ jC) _ ?_;obtain⟨aZ,dM,h⟩:=aJ h;obtain⟨bp,dT,h⟩:=aJ h;refine fb (ad dM (@hc _ aS 2 λ_=>rfl)) (Nd aZ _ dT) _ ?_;refine aU aE λ_ gO gv _=>cR b1 _ ?_;refine a_ h (λma h=>?_) λma h=>?_
  .refine aU gv λ_ pe v_ _=>?_;obtain⟨bV,eS,h⟩:=aJ h;refine cR (ad eS (qW (n:=0) eS)) _ ?_;refine a_ h (λjh h=>?_) λjh h=>?_
   .obtain⟨c2,g6,h⟩:=aJ h;refine fb (ad eS (ad (qW (n:=0) eS) (ad (show∀s,fl aq s 102 [(0,.int .i64 0),(1,.int .i64 c2)]=some (.agg [.int .i64 0,.int .i64 c2],s)from λs=>by kernel_rfl) (show∀s,eu aq s 59 1 [(0,.agg [.int .i64 0,.int .i64 c2])]=some (.ag 2 [.agg [.int .i64 0,.int .i64 c2]],s)from λs=>by kernel_rfl)))) (rf (bV.Value==0) _ g6) _ ?_;exact cC v_ [.ag 2 ([(aD.mk 0 c2)].map aS)]
   .refine bf (pe _ (inl ?_));obtain⟨GP,lC,h⟩:=aJ h;(try simp only[jg.down,Nat.zero_add,Nat.add_zero,reduceAdd]at lC);refine cR (ad b1 (ad (show∀s,eu aq s 59 1 [(0,.agg [.int .i64 ah.Kind,.int .i64 ah.Value])]=some (.ag 2 [.agg [.int .i64 ah.Kind,.int .i64 ah.Value]],s)from λs=>by kernel_rfl) (ad (@hS aq 59 59 102 rfl rfl) (ad @hT (ad @hU (ad @hd (ad @hR (ad @all_nil (ad lC (@hc _ aS 2 λ_=>rfl)))))))))) [(2,.ag 2 (([ah]++bp).map aS))] ?_;exact cC gv [.ag 2 (([ah]++bp).map aS)]
  .refine bf (gO _ (inl ?_));obtain⟨dV,mO,h⟩:=aJ h;obtain⟨eo,ri,h⟩:=aJ h;refine fb (ad mO (@hc _ aS 2 λ_=>rfl)) (Nd dV _ ri) _ ?_;refine aU aE λ_ pf tV _=>?_;obtain⟨iv,qg,h⟩:=aJ h;rcases fG h with⟨tT,h⟩|⟨tT,h⟩
   .obtain⟨jZ,wa,h⟩:=aJ h;refine cR (ad qg (ad (qW (n:=0) qg) (ad tT (ad wa (qW (n:=0) wa))))) _ ?_;refine a_ h (λpd h=>?_) λpd h=>?_
    .obtain⟨ep,j3,h⟩:=aJ h;refine qb (ad b1 (ad qg (ad (qW (n:=0) qg) (ad wa (ad (qW (n:=0) wa) (ad (show∀s,fl aq s 102 [(0,.int .i64 0),(1,.int .i64 ep)]=some (.agg [.int .i64 0,.int .i64 ep],s)from λs=>by kernel_rfl) (show∀s,eu aq s 59 1 [(0,.agg [.int .i64 0,.int .i64 ep])]=some (.ag 2 [.agg [.int .i64 0,.int .i64 ep]],s)from λs=>by kernel_rfl))))))) (YI ah.Value iv.Value jZ.Value _ j3) _ ?_;exact cC tV [.ag 2 ([(aD.mk 0 ep)].map aS)]
    .refine bf (pf _ (inl ?_));obtain⟨YK,k8,h⟩:=aJ h;(try simp only[jg.down,Nat.zero_add,Nat.add_zero,reduceAdd]at k8);refine cR (ad b1 (ad (show∀s,eu aq s 59 1 [(0,.agg [.int .i64 ah.Kind,.int .i64 ah.Value])]=some (.ag 2 [.agg [.int .i64 ah.Kind,.int .i64 ah.Value]],s)from λs=>by kernel_rfl) (ad (@hS aq 59 59 102 rfl rfl) (ad @hT (ad @hU (ad @hd (ad @hR (ad @all_nil (ad k8 (@hc _ aS 2 λ_=>rfl)))))))))) [(5,.ag 2 (eo.map aS)),(6,.ag 2 (([ah]++bp).map aS))] ?_;obtain⟨YK,v9,h⟩:=aJ h;(try simp only[jg.down,Nat.zero_add,Nat.add_zero,reduceAdd]at v9);refine cR (ad (@hS aq 59 59 102 rfl rfl) (ad @hT (ad @hU (ad @hd (ad @hR (ad @all_nil (ad v9 (@hc _ aS 2 λ_=>rfl)))))))) [(2,.ag 2 ((([ah]++bp)++eo).map aS))] ?_;exact cC aE [.ag 2 ((([ah]++bp)++eo).map aS)]
   .refine cR (ad qg (ad (qW (n:=0) qg) tT)) _ ?_;refine oa rfl ?_;refine bf (pf _ (inl ?_));obtain⟨YL,yN,h⟩:=aJ h;(try simp only[jg.down,Nat.zero_add,Nat.add_zero,reduceAdd]at yN);refine cR (ad b1 (ad (show∀s,eu aq s 59 1 [(0,.agg [.int .i64 ah.Kind,.int .i64 ah.Value])]=some (.ag 2 [.agg [.int .i64 ah.Kind,.int .i64 ah.Value]],s)from λs=>by kernel_rfl) (ad (@hS aq 59 59 102 rfl rfl) (ad @hT (ad @hU (ad @hd (ad @hR (ad @all_nil (ad yN (@hc _ aS 2 λ_=>rfl)))))))))) [(5,.ag 2 (eo.map aS)),(6,.ag 2 (([ah]++bp).map aS))] ?_;obtain⟨YL,BV,h⟩:=aJ h;(try simp only[jg.down,Nat.zero_add,Nat.add_zero,reduceAdd]at BV);refine cR (ad (@hS aq 59 59 102 rfl rfl) (ad @hT (ad @hU (ad @hd (ad @hR (ad @all_nil (ad BV (@hc _ aS 2 λ_=>rfl)))))))) [(2,.ag 2 ((([ah]++bp)++eo).map aS))] ?_;exact cC aE [.ag 2 ((([ah]++bp)++eo).map aS)]
theorem YM:∀n J r,vb n J=some r->bk aq 110 [.slice (J.map aS)] (.ag 2 (r.map aS)) []:=by
 intro n;induction n with
 |zero=>intro J r h;cases(show none=some r from h)
 |succ n ih=>intro J r h;exact YJ (vb n) ih J r h
theorem YN (J r) (h:AW J=some r):bk aq 110 [.slice (J.map aS)] (.ag 2 (r.map aS)) []:=by
 obtain⟨n,h⟩:=jl h;exact YM n J r h
theorem YO (J ab aW r) (h:AX J ab aW=some r):bk aq 56 [.ref (bN J),.slice (ab.map dX),.int .i64 aW] (.bool r) []:=by
 refine b6 [0,1,2] [.tmp 6] Tryz.func56 V5 λb4 aE b3=>aI ?_;refine aU aE λ_ b9 bx aA=>aI ?_;refine bM bx λfO _ bR cG aQ=>?_;show bj aq (.loop ?fg) _ _;have ga:∀n h7,x_ J ab aW n h7=some r->da aq ?fg fO (ar [(0,.ref (bN J)),(1,.slice (ab.map dX)),(2,.int .i64 aW),(7,.int .i64 h7)]):=by
  refine dz λ_ fT h7 h=>dy bR λ_ eW cQ aZ=>aU cQ λ_ dP _ bp=>aI ?_;refine a_ h (λdw h=>?_) λdw h=>?_
  .refine bf (dP _ (inl (aU cQ λ_ dY dA _=>bM dA λ_ cK cS _ _=>?_)));obtain⟨ah,dM,h⟩:=aJ h;obtain⟨aA,dT,h⟩:=aJ h;obtain⟨aL,fs,h⟩:=aJ h;obtain⟨aQ,fi,h⟩:=aJ h;refine rW rfl (m7 [(0,.ref (bN J)),(1,.slice (ab.map dX)),(2,.int .i64 aW),(7,.int .i64 h7),(8,.ag 2 (aQ.map aS))] (λP bm=>?_) ?_)
   ·(try simp only[ef.down,simprocAttr,dM,dT]);refine h5 (BU aA ab J.Start _ fs) (hK:= ?_);simp only[ef.down,simprocAttr,dM,dT];refine h5 (YN aL _ fi) rfl rfl (by simp only[ef.down,simprocAttr,dM,dT,MS.down]<;>rfl) rfl (inr (il (λ_=>tN _) _)) ?_;simp only[ef.down,simprocAttr,dM,dT];refine⟨mD (by kernel_rfl),?_⟩;exact cu (ad dM dT)
   rcases fG h with⟨hG,h⟩|⟨hG,h⟩
   .refine yI hG _ ?_;refine iX rfl ?_;exact bn cS [.bool false]
   .obtain⟨aZ,eS,h⟩:=aJ h;rcases fG h with⟨jh,h⟩|⟨jh,h⟩
    .refine yI (ad hG (ad eS (ad (qW (n:=0) eS) jh))) _ ?_;refine iX rfl ?_;exact bn cS [.bool false]
    .obtain⟨bp,g6,h⟩:=aJ h;refine yI (ad hG (ad eS (ad (qW (n:=0) eS) (ad jh g6)))) _ ?_;refine a_ h (λjw h=>?_) λjw h=>?_
     .exact bn cS [.bool false]
     .refine bf (cK _ (dY _ (inl (fq ?_))));exact eW _ (inr ⟨_,cp rfl,fT (i64.wrap (h7+1)) h⟩)
  .exact dx (bp 0 _ (aZ 0 _ (cG _ (b9 _ (inl (bn aE [.bool true]))))))
 exact eV h λn h=>ga n 0 h
theorem YP (J r) (h:AY J=some r):bk aq 27 [.ref (bN J)] (.ag 1 (r.map dX)) []:=by
 refine b6 [0] [.tmp 2] Tryz.func27 V6 λb4 aE b3=>aI ?_;obtain⟨aeL,aY,h⟩:=aJ h;refine yJ (ad (sm aY) @List.map_replicate.{0,0}) [(0,.ref (bN J)),(3,.ag 1 ((List.replicate (Int.toNat J.bz) false).map dX))] ?_;refine aU aE λ_ fz bR _=>ws [(0,.ref (bN J)),(3,.ag 1 ((List.replicate (Int.toNat J.bz) false).map dX)),(4,.int .i64 0)] ?_;refine bM bR λjN _ dF et _=>?_;show bj aq (.loop ?gV) _ _;have gY:∀n cc cH,vf J n cc cH=some r->da aq ?gV jN (ar [(0,.ref (bN J)),(3,.ag 1 (cc.map dX)),(4,.int .i64 cH)]):=by
  refine dz λ_ gn cc cH h=>dy dF λ_ eR fe bV=>aU fe λ_ fN _ c2=>aI ?_;refine a_ h (λhg h=>?_) λhg h=>?_
  .refine bf (fN _ (inl (aU fe λ_ dK fc _=>bM fc λ_ hs _ _ _=>?_)));obtain⟨ah,fs,h⟩:=aJ h;refine iW (cx [(0,.ref (bN J)),(3,.ag 1 ((List.set cc (Int.toNat cH) true).map dX)),(4,.int .i64 cH)] (λP bm=>?_) ?_)
   .simp only[X0.down,simprocAttr,fs,cB fs,e5,dj];exact cu (ad fs (ad (cB fs) @e5))
   refine hs _ (dK _ (inl (wr [(0,.ref (bN J)),(3,.ag 1 ((List.set cc (Int.toNat cH) true).map dX)),(4,.int .i64 (i64.wrap (cH+1)))] ?_)));exact eR _ (inr ⟨_,cp rfl,gn (List.set cc (Int.toNat cH) true) (i64.wrap (cH+1)) h⟩)
  .refine dx (c2 0 _ (bV 0 _ (et _ (fz _ (inl (aU aE λ_ nA nB _=>aI ?_))))));refine bM nB λYQ _ GM k6 _=>?_;show bj aq (.loop ?YR) _ _;have YS:∀n p4 qY,qZ J n p4 qY=some r->da aq ?YR YQ (ar [(0,.ref (bN J)),(3,.ag 1 (p4.map dX)),(5,.int .i64 qY)]):=by
    refine dz λGQ YT p4 qY h=>dy GM λ_ nE qd vW=>aU qd λ_ v8 _ vX=>aI ?_;refine a_ h (λnC h=>?_) λnC h=>?_
    .refine bf (v8 _ (inl (aU qd λ_ yO yP _=>bM yP λ_ rb pc _ _=>aI ?_)));refine bM pc λYU _ GR re _=>?_;show bj aq (.loop ?Gx) _ _;have YV:∀n kl ly jL,r3 (qZ J GQ) J n kl ly jL=some r->da aq ?Gx YU (ar [(0,.ref (bN J)),(3,.ag 1 (kl.map dX)),(5,.int .i64 ly),(6,.int .i64 jL)]):=by
      refine dz λYW YX kl ly jL h=>dy GR λYY nz tQ YZ=>aU tQ λ_ pf _ Y0=>aI ?_;refine a_ h (λGS h=>?_) λGS h=>?_
      .refine bf (pf _ (inl ?_));show bj aq (.seq _ ?Gy) _ _;have GU:∀vc vd ve,ya (qZ J GQ) (r3 (qZ J GQ) J YW) J vc vd ve=some r->bj aq ?Gy YY (ar [(0,.ref (bN J)),(3,.ag 1 (vc.map dX)),(5,.int .i64 vd),(6,.int .i64 ve)]):=by
        intro vc vd ve h;refine fq ?_;exact nz _ (inr ⟨_,cp rfl,YX vc vd (i64.wrap (ve+1)) h⟩)
       refine aU tQ λ_ GV Y1 _=>bM Y1 λ_ yQ _ _ _=>?_;obtain⟨aA,j3,h⟩:=aJ h;rcases fG h with⟨iL,h⟩|⟨iL,h⟩
       .obtain⟨aL,k8,h⟩:=aJ h;refine c0 (cx [(0,.ref (bN J)),(3,.ag 1 (kl.map dX)),(5,.int .i64 ly),(6,.int .i64 jL),(49,.bool (!aL))] (λP bm=>?_) ?_)
        ·(try simp only[X0.down,simprocAttr,j3,cB j3,iL]);refine jv (YO J kl jL _ k8) rfl rfl (by simp only[X0.down,simprocAttr,j3,cB j3,iL,MT.down]<;>rfl) rfl (inr (by rfl)) ?_;simp only[X0.down,simprocAttr,j3,cB j3,iL];exact cu (ad j3 (ad (cB j3) iL))
        refine a_ h (λY2 h=>?_) λY2 h=>?_
        .refine iW (cx [(0,.ref (bN J)),(3,.ag 1 ((List.set kl (Int.toNat jL) false).map dX)),(5,.int .i64 ly),(6,.int .i64 jL)] (λP bm=>?_) ?_)
         .simp only[X0.down,simprocAttr,j3,cB j3,e5,dj];exact cu (ad j3 (ad (cB j3) @e5))
         exact yQ _ (GV _ (inr ⟨_,cp rfl,GU (List.set kl (Int.toNat jL) false) ly jL h⟩))
        .exact bf (yQ _ (GV _ (inr ⟨_,cp rfl,GU kl ly jL h⟩)))
       .refine cR (ad j3 (ad (cB j3) iL)) _ ?_;refine oa rfl ?_;exact bf (yQ _ (GV _ (inr ⟨_,cp rfl,GU kl ly jL h⟩)))
      .refine dx (Y0 4 _ (YZ 4 _ (re _ (rb _ (yO _ (inl (fq ?_)))))));exact nE _ (inr ⟨_,cp rfl,YT kl (i64.wrap (ly+1)) h⟩)
     exact eV h λn h=>YV n p4 qY 0 h
    .exact dx (vX 2 _ (vW 2 _ (k6 _ (nA _ (inl (bn aE [.ag 1 (p4.map dX)]))))))
   exact eV h λn h=>YS n cc 0 h
 exact eV h λn h=>gY n (List.replicate (Int.toNat J.bz) false) 0 h
theorem Nf (J ab r) (h:yc J ab=some r):bk aq 29 [.slice (J.map dX),.bool ab] (.ag 1 (r.map ax)) []:=by
 refine b6 [0,1] [.tmp 4] Tryz.func29 Gw λb4 aE b3=>aI ?_;refine cR (show∀s,eu aq s 22 0 []=some (.ag 1 [],s)from λs=>by kernel_rfl) _ ?_;refine aU aE λ_ hY e1 _=>aI ?_;refine bM e1 λmb _ cQ de _=>?_;show bj aq (.loop ?gV) _ _;have gY:∀n bW eQ,tt J ab n bW eQ=some r->da aq ?gV mb (ar [(0,.slice (J.map dX)),(1,.bool ab),(5,.ag 1 (bW.map ax)),(6,.int .i64 eQ)]):=by
  refine dz λi9 gn bW eQ h=>dy cQ λjN dP dF bp=>aU dF λ_ eR _ bV=>aI ?_;refine a_ h (λfM h=>?_) λfM h=>?_
  .refine bf (eR _ (inl ?_));show bj aq (.seq _ ?GO) _ _;have tS:∀vg vh,AZ (tt J ab i9) J ab vg vh=some r->bj aq ?GO jN (ar [(0,.slice (J.map dX)),(1,.bool ab),(5,.ag 1 (vg.map ax)),(6,.int .i64 vh)]):=by
    intro vg vh h;refine fq ?_;exact dP _ (inr ⟨_,cp rfl,gn vg (i64.wrap (vh+1)) h⟩)
   refine aU dF λ_ cK cS _=>bM cS λ_ hs _ _ _=>?_;obtain⟨ah,fs,h⟩:=aJ h;refine cR fs _ ?_;refine a_ h (λi2 h=>?_) λi2 h=>?_
   .obtain⟨GH,h8,h⟩:=aJ h;(try simp only[jg.down,Nat.zero_add,Nat.add_zero,reduceAdd]at h8);refine k5 (ad (show∀s,eu aq s 22 1 [(0,.int .i64 eQ)]=some (.ag 1 [.int .i64 eQ],s)from λs=>by kernel_rfl) (ad (@hS aq 22 22 2 rfl rfl) (ad @hT (ad @hU (ad @hd (ad @hR (ad @all_nil (ad h8 (@hc _ ax 1 λ_=>rfl))))))))) [(0,.slice (J.map dX)),(1,.bool ab),(5,.ag 1 ((bW++[eQ]).map ax)),(6,.int .i64 eQ)] ?_;exact hs _ (cK _ (inr ⟨_,cp rfl,tS (bW++[eQ]) eQ h⟩))
   .exact bf (hs _ (cK _ (inr ⟨_,cp rfl,tS bW eQ h⟩)))
  .exact dx (bV 0 _ (bp 0 _ (de _ (hY _ (inl (bn aE [.ag 1 (bW.map ax)]))))))
 exact eV h λn h=>gY n [] 0 h
theorem Y3 (J r) (h:A0 J=some r):bk aq 57 [.slice (J.map ax)] (.ag 1 (r.map ax)) []:=by
 refine b6 [0] [.tmp 2] Tryz.func57 V7 λb4 aE b3=>aI ?_;obtain⟨I2,aY,h⟩:=aJ h;(try simp only[jg.down,Nat.zero_add,Nat.add_zero,reduceAdd]at aY);refine cR (ad (show∀s,eu aq s 22 0 []=some (.ag 1 [],s)from λs=>by kernel_rfl) (ad (@hS aq 22 22 2 rfl rfl) (ad @hT (ad @hU (ad @hd (ad @hR (ad @all_nil (ad aY (@hc _ ax 1 λ_=>rfl))))))))) _ ?_;exact cC aE [.ag 1 (J.map ax)]
theorem GW (J ab r) (h:tv J ab=some r):bk aq 58 [.slice (J.map aS),.slice (ab.map dX)] (.ag 2 (r.map aS)) []:=by
 refine b6 [0,1] [.tmp 4] Tryz.func58 V8 λb4 aE b3=>aI ?_;obtain⟨ah,aY,h⟩:=aJ h;refine dq (GN J _ aY) _ ?_;refine aU aE λ_ fz bR aQ=>aI ?_;refine bM bR λjN _ dF et _=>?_;show bj aq (.loop ?gV) _ _;have gY:∀n bW eQ,oh ab n bW eQ=some r->da aq ?gV jN (ar [(1,.slice (ab.map dX)),(5,.ag 2 (bW.map aS)),(6,.int .i64 eQ)]):=by
  refine dz λi9 gn bW eQ h=>dy dF λyL eR fe bV=>aU fe λ_ fN _ c2=>aI ?_;refine a_ h (λhg h=>?_) λhg h=>?_
  .refine bf (fN _ (inl ?_));show bj aq (.seq _ ?Y4) _ _;have GX:∀vj vk,vi (oh ab i9) ab vj vk=some r->bj aq ?Y4 yL (ar [(1,.slice (ab.map dX)),(5,.ag 2 (vj.map aS)),(6,.int .i64 vk)]):=by
    intro vj vk h;refine fq ?_;exact eR _ (inr ⟨_,cp rfl,gn vj (i64.wrap (vk+1)) h⟩)
   refine aU fe λ_ dK fc _=>bM fc λ_ ji mQ l_ _=>aU mQ λ_ gO _ g4=>?_;obtain⟨aA,dr,h⟩:=aJ h;refine cR (ad dr (cB dr)) _ ?_;refine a_ h (λhG h=>?_) λhG h=>?_
   .exact dx (g4 1 _ (l_ _ (dK _ (inr ⟨_,cp rfl,GX bW eQ h⟩))))
   .refine bf (gO _ (inl (aI ?_)));refine aU mQ λ_ nE qd _=>aI ?_;refine bM qd λGY _ ny BW _=>?_;show bj aq (.loop ?Gw) _ _;have GZ:∀n fa i1 lz nd,tu (oh ab i9) ab n fa i1 lz nd=some r->da aq ?Gw GY (ar [(1,.slice (ab.map dX)),(5,.ag 2 (fa.map aS)),(6,.int .i64 i1),(7,.int .i64 lz),(8,.int .i64 nd)]):=by
     refine dz λG0 G1 fa i1 lz nd h=>dy ny λY5 yR tW q6=>aU tW λ_ yO _ BX=>?_;rcases fG h with⟨yS,h⟩|⟨yS,h⟩
     .obtain⟨aL,mO,h⟩:=aJ h;refine cR (ad yS (ad mO (cB mO))) _ ?_;refine a_ h (λk7 h=>?_) λk7 h=>?_
      .refine bf (yO _ (inl ?_));show bj aq (.seq _ ?Y6) _ _;have Ng:∀vl vm vn vo,A1 (oh ab i9) (tu (oh ab i9) ab G0) ab vl vm vn vo=some r->bj aq ?Y6 Y5 (ar [(1,.slice (ab.map dX)),(5,.ag 2 (vl.map aS)),(6,.int .i64 vm),(7,.int .i64 vn),(8,.int .i64 vo)]):=by
        intro vl vm vn vo h;refine fq ?_;exact yR _ (inr ⟨_,cp rfl,G1 vl vm vn (i64.wrap (vo+1)) h⟩)
       refine aU tW λ_ pf tV _=>bM tV λ_ Nh _ _ _=>?_;obtain⟨aQ,wa,h⟩:=aJ h;refine cR wa _ ?_;refine a_ h (λpd h=>?_) λpd h=>?_
       .refine fq ?_;exact Nh _ (pf _ (inr ⟨_,cp rfl,Ng fa i1 (i64.wrap (lz+1)) nd h⟩))
       .exact bf (Nh _ (pf _ (inr ⟨_,cp rfl,Ng fa i1 lz nd h⟩)))
      .refine dx (BX 2 _ (q6 2 _ (BW _ (nE _ (inl (iW (cx [(1,.slice (ab.map dX)),(5,.ag 2 ((List.set fa (Int.toNat i1) (aD.mk aL.Kind (i64.wrap (aL.Value-lz)))).map aS)),(6,.int .i64 i1)] (λP bm=>?_) ?_)))))))
       .simp only[X0.down,simprocAttr,mO,cB mO,e5,dj];exact cu (ad mO (ad (cB mO) @e5))
       exact ji _ (dK _ (inr ⟨_,cp rfl,GX (List.set fa (Int.toNat i1) (aD.mk aL.Kind (i64.wrap (aL.Value-lz)))) i1 h⟩))
     .refine cR yS _ ?_;refine oa rfl ?_;refine dx (BX 2 _ (q6 2 _ (BW _ (nE _ (inl ?_)))));obtain⟨aZ,k8,h⟩:=aJ h;refine iW (cx [(1,.slice (ab.map dX)),(5,.ag 2 ((List.set fa (Int.toNat i1) (aD.mk aZ.Kind (i64.wrap (aZ.Value-lz)))).map aS)),(6,.int .i64 i1)] (λP bm=>?_) ?_)
      .simp only[X0.down,simprocAttr,k8,cB k8,e5,dj];exact cu (ad k8 (ad (cB k8) @e5))
      exact ji _ (dK _ (inr ⟨_,cp rfl,GX (List.set fa (Int.toNat i1) (aD.mk aZ.Kind (i64.wrap (aZ.Value-lz)))) i1 h⟩))
    exact eV h λn h=>GZ n bW eQ 0 0 h
  .exact dx (c2 0 _ (bV 0 _ (et _ (fz _ (inl (bn aE [.ag 2 (bW.map aS)]))))))
 exact eV h λn h=>gY n ah 0 h
theorem Y7 (J ab r) (h:A2 J ab=some r):bk aq 28 [.ref (bN J),.slice (ab.map dX)] (eC r) []:=by
 refine b6 [0,1] [.cell 4 29] Tryz.func28 V9 λb4 aE b3=>aI ?_;obtain⟨ah,aY,h⟩:=aJ h;refine dq (Nf ab false _ aY) _ ?_;refine cR (show∀s,fl aq s 29 [(0,.int .i64 (ah.length:Int))]=some (.agg [.int .i64 (ah.length:Int),.aN,.aN],s)from λs=>by kernel_rfl) _ ?_;refine aU aE λ_ eW cQ aZ=>aI ?_;refine bM cQ λyL _ fe sK bV=>?_;show bj aq (.loop ?yG) _ _;have G2:∀n l4 ou,vr J ab ah n l4 ou=some r->da aq ?yG yL (ar [(0,.ref (bN J)),(1,.slice (ab.map dX)),(4,.aK (.agg [.int .i64 0,.aN,.aN])),(5,.ag 1 (ah.map ax)),(6,.aK (.agg [.int .i64 (ah.length:Int),.ag 1 (l4.map ax),.aN])),(7,.int .i64 ou)]):=by
  refine dz λ_ G3 l4 ou h=>dy fe λ_ fN h9 c2=>aU h9 λ_ dY _ dV=>aI ?_;refine a_ h (λmR h=>?_) λmR h=>?_
  .refine bf (dY _ (inl (aU h9 λ_ hs yK jZ=>bM yK λ_ ji _ _ ep=>?_)));obtain⟨aA,fi,h⟩:=aJ h;obtain⟨aL,dr,h⟩:=aJ h;obtain⟨BS,h8,h⟩:=aJ h;(try simp only[jg.down,Nat.zero_add,Nat.add_zero,reduceAdd]at h8);refine MR (ad fi (ad (cB fi) (ad dr (ad (show∀s,eu aq s 22 1 [(0,.int .i64 aL)]=some (.ag 1 [.int .i64 aL],s)from λs=>by kernel_rfl) (ad (@hS aq 22 22 2 rfl rfl) (ad @hT (ad @hU (ad @hd (ad @hR (ad @all_nil (ad h8 (@hc _ ax 1 λ_=>rfl)))))))))))) [(0,.ref (bN J)),(1,.slice (ab.map dX)),(4,.aK (.agg [.int .i64 0,.aN,.aN])),(5,.ag 1 (ah.map ax)),(6,.aK (.agg [.int .i64 (ah.length:Int),.ag 1 ((l4++[aL]).map ax),.aN])),(7,.int .i64 ou)] ?_;refine ji _ (hs _ (inl (wr [(0,.ref (bN J)),(1,.slice (ab.map dX)),(4,.aK (.agg [.int .i64 0,.aN,.aN])),(5,.ag 1 (ah.map ax)),(6,.aK (.agg [.int .i64 (ah.length:Int),.ag 1 ((l4++[aL]).map ax),.aN])),(7,.int .i64 (i64.wrap (ou+1)))] ?_)));exact fN _ (inr ⟨_,cp rfl,G3 (l4++[aL]) (i64.wrap (ou+1)) h⟩)
  .refine dx (dV 0 _ (c2 0 _ (sK _ (eW _ (inl (aU aE λ_ nE qd _=>aI ?_))))));refine bM qd λGY _ ny BW _=>?_;show bj aq (.loop ?Gt) _ _;have Y8:∀n om oo oq,ot J ab ah n om oo oq=some r->da aq ?Gt GY (ar [(0,.ref (bN J)),(1,.slice (ab.map dX)),(4,.aK (.agg [.int .i64 0,.aN,.aN])),(5,.ag 1 (ah.map ax)),(6,.aK (.agg [.int .i64 (ah.length:Int),.ag 1 (om.map ax),.ag 5 (oo.map cJ)])),(8,.int .i64 oq)]):=by
    refine dz λNi Y9 om oo oq h=>dy ny λ_ yR tW q6=>aU tW λ_ yO _ BX=>aI ?_;refine a_ h (λyS h=>?_) λyS h=>?_
    .refine bf (yO _ (inl (aU tW λ_ yT GR _=>bM GR λ_ nz tQ _ _=>?_)));obtain⟨aQ,jO,h⟩:=aJ h;refine cR jO _ ?_;obtain⟨aZ,km,h⟩:=aJ h;refine qb (ad (@xD aq 62 [(22,0),(59,1),(9,2),(60,3),(60,4)] [.aN,.aN,(.str []),.aN,.aN] rfl rfl (by kernel_rfl)) (ad @pT (ad @pU (ad @e5 (ad @hd (ad @List.nil_append.{0} @List.cons_append.{0})))))) (Y3 aQ.br _ km) _ ?_;obtain⟨bp,qf,h⟩:=aJ h;obtain⟨bV,yM,h⟩:=aJ h;refine rW rfl (m7 [(0,.ref (bN J)),(1,.slice (ab.map dX)),(4,.aK (.agg [.int .i64 0,.aN,.aN])),(5,.ag 1 (ah.map ax)),(6,.aK (.agg [.int .i64 (ah.length:Int),.ag 1 (om.map ax),.ag 5 (oo.map cJ)])),(8,.int .i64 oq),(9,.ref (cD aQ)),(10,.aK (.agg [.ag 1 (aZ.map ax),.ag 2 (bV.map aS),.str aQ.Name,.aN,.aN]))] (λP bm=>?_) ?_)
     ·(try simp only[ef.down,simprocAttr]);refine h5 (BU aQ.Guard ab J.Start _ qf) (hK:= ?_);simp only[ef.down,simprocAttr];refine h5 (GW bp ab _ yM) rfl rfl (by simp only[ef.down,simprocAttr,MS.down]<;>rfl) rfl (inr (il (λ_=>tN _) _)) ?_;simp only[ef.down,simprocAttr];refine⟨mD (by kernel_rfl),?_⟩;exact cu trivial
     refine aU tQ λ_ yU G4 _=>aI ?_;refine bM G4 λY_ _ Za rh _=>?_;show bj aq (.loop ?Zb) _ _;have Zc:∀n nf ng nh l3 oj,vq (ot J ab ah Ni) J ab ah aQ aZ bV n nf ng nh l3 oj=some r->da aq ?Zb Y_ (ar [(0,.ref (bN J)),(1,.slice (ab.map dX)),(4,.aK (.agg [.int .i64 0,.aN,.aN])),(5,.ag 1 (ah.map ax)),(6,.aK (.agg [.int .i64 (ah.length:Int),.ag 1 (nf.map ax),.ag 5 (ng.map cJ)])),(8,.int .i64 nh),(9,.ref (cD aQ)),(10,.aK (.agg [.ag 1 (aZ.map ax),.ag 2 (bV.map aS),.str aQ.Name,.ag 1 (l3.map dg),.aN])),(11,.int .i64 oj)]):=by
      refine dz λ_ Zd nf ng nh l3 oj h=>dy Za λ_ G5 Nj G6=>aU Nj λ_ Ze _ Zf=>aI ?_;refine a_ h (λZg h=>?_) λZg h=>?_
      .refine bf (Ze _ (inl (aU Nj λ_ Zh Zi _=>bM Zi λ_ Zj _ _ _=>?_)));obtain⟨c2,qh,h⟩:=aJ h;obtain⟨dV,BZ,h⟩:=aJ h;obtain⟨eo,tX,h⟩:=aJ h;obtain⟨aeM,wb,h⟩:=aJ h;(try simp only[q9.down,Nat.zero_add,Nat.add_zero,reduceAdd]at wb);refine xB rfl (m7 [(0,.ref (bN J)),(1,.slice (ab.map dX)),(4,.aK (.agg [.int .i64 0,.aN,.aN])),(5,.ag 1 (ah.map ax)),(6,.aK (.agg [.int .i64 (ah.length:Int),.ag 1 (nf.map ax),.ag 5 (ng.map cJ)])),(8,.int .i64 nh),(9,.ref (cD aQ)),(10,.aK (.agg [.ag 1 (aZ.map ax),.ag 2 (bV.map aS),.str aQ.Name,.ag 1 ((l3++[eo]).map dg),.aN])),(11,.int .i64 oj)] (λP bm=>?_) ?_)
       ·(try simp only[ef.down,simprocAttr,qh,mN.down,f_,cT,wb]);refine h5 (BU c2 ab J.Start _ BZ) (hK:= ?_);simp only[ef.down,simprocAttr,qh,mN.down,f_,cT,wb];refine h5 (GW dV ab _ tX) rfl rfl (by simp only[ef.down,simprocAttr,qh,MU.down,f_,cT,wb]<;>rfl) rfl (inr (il (λ_=>tN _) _)) ?_;simp only[ef.down,simprocAttr,qh,mN.down,f_,cT,wb];refine⟨mD (by kernel_rfl),?_⟩;(try simp only[hf.down,simprocAttr,qh,mN.down,f_,cT,wb]at bm⊢);exact bm
       refine Zj _ (Zh _ (inl (wr [(0,.ref (bN J)),(1,.slice (ab.map dX)),(4,.aK (.agg [.int .i64 0,.aN,.aN])),(5,.ag 1 (ah.map ax)),(6,.aK (.agg [.int .i64 (ah.length:Int),.ag 1 (nf.map ax),.ag 5 (ng.map cJ)])),(8,.int .i64 nh),(9,.ref (cD aQ)),(10,.aK (.agg [.ag 1 (aZ.map ax),.ag 2 (bV.map aS),.str aQ.Name,.ag 1 ((l3++[eo]).map dg),.aN])),(11,.int .i64 (i64.wrap (oj+1)))] ?_)));exact G5 _ (inr ⟨_,cp rfl,Zd nf ng nh (l3++[eo]) (i64.wrap (oj+1)) h⟩)
      .refine dx (Zf 4 _ (G6 4 _ (rh _ (yU _ (inl (aU tQ λ_ Zk Zl _=>aI ?_))))));refine bM Zl λZm _ Zn Zo _=>?_;show bj aq (.loop ?Gv) _ _;have Zp:∀n mI l0 mJ mK l1 oi,vp (ot J ab ah Ni) J ab ah aQ aZ bV n mI l0 mJ mK l1 oi=some r->da aq ?Gv Zm (ar [(0,.ref (bN J)),(1,.slice (ab.map dX)),(4,.aK (.agg [.int .i64 0,.aN,.aN])),(5,.ag 1 (ah.map ax)),(6,.aK (.agg [.int .i64 (ah.length:Int),.ag 1 (mI.map ax),.ag 5 (l0.map cJ)])),(8,.int .i64 mJ),(9,.ref (cD aQ)),(10,.aK (.agg [.ag 1 (aZ.map ax),.ag 2 (bV.map aS),.str aQ.Name,.ag 1 (mK.map dg),.ag 1 (l1.map dg)])),(12,.int .i64 oi)]):=by
        refine dz λ_ Zq mI l0 mJ mK l1 oi h=>dy Zn λ_ G7 B0 Zr=>aU B0 λ_ Zs _ Zt=>aI ?_;refine a_ h (λZu h=>?_) λZu h=>?_
        .refine bf (Zs _ (inl (aU B0 λ_ Zv Zw _=>bM Zw λ_ Zx _ _ _=>?_)));obtain⟨iv,qi,h⟩:=aJ h;obtain⟨jZ,yV,h⟩:=aJ h;obtain⟨ep,Zy,h⟩:=aJ h;obtain⟨g4,Zz,h⟩:=aJ h;obtain⟨aeN,wc,h⟩:=aJ h;(try simp only[q9.down,Nat.zero_add,Nat.add_zero,reduceAdd]at wc);refine xB rfl (m7 [(0,.ref (bN J)),(1,.slice (ab.map dX)),(4,.aK (.agg [.int .i64 0,.aN,.aN])),(5,.ag 1 (ah.map ax)),(6,.aK (.agg [.int .i64 (ah.length:Int),.ag 1 (mI.map ax),.ag 5 (l0.map cJ)])),(8,.int .i64 mJ),(9,.ref (cD aQ)),(10,.aK (.agg [.ag 1 (aZ.map ax),.ag 2 (bV.map aS),.str aQ.Name,.ag 1 (mK.map dg),.ag 1 ((l1++[g4]).map dg)])),(12,.int .i64 oi)] (λP bm=>?_) ?_)
         ·(try simp only[ef.down,simprocAttr,qi,cB qi,yV,mN.down,f_,cT,wc]);refine h5 (BU jZ ab J.Start _ Zy) (hK:= ?_);simp only[ef.down,simprocAttr,qi,cB qi,yV,mN.down,f_,cT,wc];refine h5 (GW ep ab _ Zz) rfl rfl (by simp only[ef.down,simprocAttr,qi,cB qi,yV,MU.down,f_,cT,wc]<;>rfl) rfl (inr (il (λ_=>tN _) _)) ?_;simp only[ef.down,simprocAttr,qi,cB qi,yV,mN.down,f_,cT,wc];refine⟨mD (by kernel_rfl),?_⟩;(try simp only[hf.down,simprocAttr,qi,cB qi,yV,mN.down,f_,cT,wc]at bm⊢);exact bm
         refine Zx _ (Zv _ (inl (wr [(0,.ref (bN J)),(1,.slice (ab.map dX)),(4,.aK (.agg [.int .i64 0,.aN,.aN])),(5,.ag 1 (ah.map ax)),(6,.aK (.agg [.int .i64 (ah.length:Int),.ag 1 (mI.map ax),.ag 5 (l0.map cJ)])),(8,.int .i64 mJ),(9,.ref (cD aQ)),(10,.aK (.agg [.ag 1 (aZ.map ax),.ag 2 (bV.map aS),.str aQ.Name,.ag 1 (mK.map dg),.ag 1 ((l1++[g4]).map dg)])),(12,.int .i64 (i64.wrap (oi+1)))] ?_)));exact G7 _ (inr ⟨_,cp rfl,Zq mI l0 mJ mK (l1++[g4]) (i64.wrap (oi+1)) h⟩)
        .refine dx (Zt 6 _ (Zr 6 _ (Zo _ (Zk _ (inl ?_)))));obtain⟨aeO,G8,h⟩:=aJ h;(try simp only[q9.down,Nat.zero_add,Nat.add_zero,reduceAdd]at G8);refine iW (cx [(0,.ref (bN J)),(1,.slice (ab.map dX)),(4,.aK (.agg [.int .i64 0,.aN,.aN])),(5,.ag 1 (ah.map ax)),(6,.aK (.agg [.int .i64 (ah.length:Int),.ag 1 (mI.map ax),.ag 5 ((l0++[(bc.mk aZ bV aQ.Name mK l1)]).map cJ)])),(8,.int .i64 mJ)] (λP bm=>?_) ?_)
         .simp only[X0.down,simprocAttr,MV.down,f_,cT,G8];(try simp only[hf.down,simprocAttr,MV.down,f_,cT,G8]at bm⊢);exact bm
         refine nz _ (yT _ (inl (wr [(0,.ref (bN J)),(1,.slice (ab.map dX)),(4,.aK (.agg [.int .i64 0,.aN,.aN])),(5,.ag 1 (ah.map ax)),(6,.aK (.agg [.int .i64 (ah.length:Int),.ag 1 (mI.map ax),.ag 5 ((l0++[(bc.mk aZ bV aQ.Name mK l1)]).map cJ)])),(8,.int .i64 (i64.wrap (mJ+1)))] ?_)));exact yR _ (inr ⟨_,cp rfl,Y9 mI (l0++[(bc.mk aZ bV aQ.Name mK l1)]) (i64.wrap (mJ+1)) h⟩)
       obtain⟨n,h⟩:=jl h;exact kE (inr ⟨_,jc [] rfl (cP (t:=0) (d:=.ref (bN J)) rfl (cP (t:=1) (d:=.slice (ab.map dX)) rfl (cP (t:=4) (d:=.aK (.agg [.int .i64 0,.aN,.aN])) rfl (cP (t:=5) (d:=.ag 1 (ah.map ax)) rfl (cP (t:=6) (d:=.aK (.agg [.int .i64 (ah.length:Int),.ag 1 (nf.map ax),.ag 5 (ng.map cJ)])) rfl (cP (t:=8) (d:=.int .i64 nh) rfl (cP (t:=9) (d:=.ref (cD aQ)) rfl (im (t:=10) (d:=.aK (.agg [.ag 1 (aZ.map ax),.ag 2 (bV.map aS),.str aQ.Name,.ag 1 (l3.map dg),.aN])) (bh:=.aK (.agg [.ag 1 (aZ.map ax),.ag 2 (bV.map aS),.str aQ.Name,.ag 1 (l3.map dg),.ag 1 []])) rfl rfl (.aK (.agg (.cons (.refl _) (.cons (.refl _) (.cons (.refl _) (.cons (.refl _) (.cons (.gM _) (.nil)))))))) (by decide) (cP (t:=12) (d:=.int .i64 0) rfl (jd)))))))))),Zp n nf ng nh l3 [] 0 h⟩)
     obtain⟨n,h⟩:=jl h;exact kE (inr ⟨_,jc [] rfl (cP (t:=0) (d:=.ref (bN J)) rfl (cP (t:=1) (d:=.slice (ab.map dX)) rfl (cP (t:=4) (d:=.aK (.agg [.int .i64 0,.aN,.aN])) rfl (cP (t:=5) (d:=.ag 1 (ah.map ax)) rfl (cP (t:=6) (d:=.aK (.agg [.int .i64 (ah.length:Int),.ag 1 (om.map ax),.ag 5 (oo.map cJ)])) rfl (cP (t:=8) (d:=.int .i64 oq) rfl (cP (t:=9) (d:=.ref (cD aQ)) rfl (im (t:=10) (d:=.aK (.agg [.ag 1 (aZ.map ax),.ag 2 (bV.map aS),.str aQ.Name,.aN,.aN])) (bh:=.aK (.agg [.ag 1 (aZ.map ax),.ag 2 (bV.map aS),.str aQ.Name,.ag 1 [],.aN])) rfl rfl (.aK (.agg (.cons (.refl _) (.cons (.refl _) (.cons (.refl _) (.cons (.gM _) (.cons (.refl _) (.nil)))))))) (by decide) (cP (t:=11) (d:=.int .i64 0) rfl (jd)))))))))),Zc n om oo oq [] 0 h⟩)
    .exact dx (BX 2 _ (q6 2 _ (BW _ (nE _ (inl (bn aE [eC (bg.mk (ah.length:Int) om oo)]))))))
   obtain⟨n,h⟩:=jl h;exact kE (inr ⟨_,jc [] rfl (cP (t:=0) (d:=.ref (bN J)) rfl (cP (t:=1) (d:=.slice (ab.map dX)) rfl (cP (t:=4) (d:=.aK (.agg [.int .i64 0,.aN,.aN])) rfl (cP (t:=5) (d:=.ag 1 (ah.map ax)) rfl (im (t:=6) (d:=.aK (.agg [.int .i64 (ah.length:Int),.ag 1 (l4.map ax),.aN])) (bh:=.aK (.agg [.int .i64 (ah.length:Int),.ag 1 (l4.map ax),.ag 5 []])) rfl rfl (.aK (.agg (.cons (.refl _) (.cons (.refl _) (.cons (.gM _) (.nil)))))) (by decide) (cP (t:=8) (d:=.int .i64 0) rfl (jd))))))),Y8 n l4 [] 0 h⟩)
 obtain⟨n,h⟩:=jl h;exact kE (inr ⟨_,jc [] rfl (cP (t:=0) (d:=.ref (bN J)) rfl (cP (t:=1) (d:=.slice (ab.map dX)) rfl (cP (t:=4) (d:=.aK (.agg [.int .i64 0,.aN,.aN])) rfl (cP (t:=5) (d:=.ag 1 (ah.map ax)) rfl (im (t:=6) (d:=.aK (.agg [.int .i64 (ah.length:Int),.aN,.aN])) (bh:=.aK (.agg [.int .i64 (ah.length:Int),.ag 1 [],.aN])) rfl rfl (.aK (.agg (.cons (.refl _) (.cons (.gM _) (.cons (.refl _) (.nil)))))) (by decide) (cP (t:=7) (d:=.int .i64 0) rfl (jd))))))),G2 n [] 0 h⟩)
theorem ZA (J r) (h:A3 J=some r):bk aq 7 [bN J] (.tuple [eC r.1,.ag 1 (r.2.1.map ax),.int .i64 r.2.2]) []:=by
 refine b6 [0] [.cell 2 29,.tmp 3,.tmp 4] Tryz.func7 DJ λb4 aE b3=>aI ?_;refine aU aE λ_ b9 bx aA=>?_;obtain⟨ah,b1,h⟩:=aJ h;refine c0 (cx [(1,.aK (bN J)),(2,.aK (.agg [.int .i64 0,.aN,.aN])),(7,.bool (!ah))] (λP bm=>?_) ?_)
 .refine dv (YE J _ b1) rfl rfl (by simp only[X0.down,simprocAttr,GA.down]<;>rfl) rfl (inr (by rfl)) ?_;simp only[X0.down,simprocAttr];exact cu trivial
 refine a_ h (λde h=>?_) λde h=>?_
 .refine cR (show∀s,fl aq s 29 []=some (.agg [.int .i64 0,.aN,.aN],s)from λs=>by kernel_rfl) _ ?_;exact lW (bx _ (inr ⟨[(2,.aK (eC (bg.mk 0 [] []))),(3,.ag 1 []),(4,.int .i64 1)],jc [] rfl (im (t:=2) (d:=.aK (.agg [.int .i64 0,.aN,.aN])) rfl rfl (.aK (.agg (.cons (.refl _) (.cons (.gM _) (.cons (.gM _) (.nil)))))) (by decide) (im (t:=3) (d:=.aN) rfl rfl (.gM _) (by decide) (cP rfl (jd)))),u2 [eC (bg.mk 0 [] []),.ag 1 [],.int .i64 1]⟩))
 .refine bf (b9 _ (inl ?_));obtain⟨aA,gI,h⟩:=aJ h;refine c0 (cx [(1,.aK (bN J)),(2,.aK (.agg [.int .i64 0,.aN,.aN])),(5,.ag 1 (aA.map dX))] (λP bm=>?_) ?_)
  .refine dv (YP J _ gI) rfl rfl (by simp only[X0.down,simprocAttr,GA.down]<;>rfl) rfl (inr (il (λ_=>Vw _) _)) ?_;simp only[X0.down,simprocAttr];exact cu trivial
  obtain⟨aL,jC,h⟩:=aJ h;obtain⟨aQ,oL,h⟩:=aJ h;refine c0 (cx [(2,.aK (eC aL)),(3,.ag 1 (aQ.map ax)),(4,.int .i64 0)] (λP bm=>?_) ?_)
  ·(try simp only[X0.down,simprocAttr]);refine dv (Y7 J aA _ jC) rfl rfl (by simp only[X0.down,simprocAttr,ik,iq,ir,d_, @cN _ ax ax (λ_=>gN _), @cN _ cD cD (λ_=>tO _), @cN _ dX dX (λ_=>Mq _)]<;>rfl) rfl (inr (yC _)) ?_;simp only[X0.down,simprocAttr];refine dv (Nf aA false _ oL) rfl rfl (by simp only[X0.down,simprocAttr,MT.down]<;>rfl) rfl (inr (il (λ_=>q7 _) _)) ?_;simp only[X0.down,simprocAttr];exact cu trivial
  exact cC aE [eC aL,.ag 1 (aQ.map ax),.int .i64 0]
theorem nF (J ab aW r) (h:ni J ab aW=some r):bk aq 61 [.int .i64 J,.int .i64 ab,.int .i64 aW] (.bool r) []:=by
 refine b6 [0,1,2] [.tmp 6] Tryz.func61 V_ λb4 aE b3=>aI ?_;refine tP (decide (ab<=J)) [(6,.bool ((decide (ab<=J))&&(decide (J<=aW))))] ?_;exact cC aE [.bool ((decide (ab<=J))&&(decide (J<=aW)))]
theorem Nk (J r) (h:A4 J=some r):bk aq 156 [.int .i64 J] (.bool r) []:=by
 refine b6 [0] [.tmp 2] Tryz.func156 Wa λb4 aE b3=>aI ?_;obtain⟨ah,aY,h⟩:=aJ h;refine dq (nF J 0 63 _ aY) _ ?_;exact cC aE [.bool ah]
theorem ZB (J r) (h:Fu J=some r):bk aq 155 [.int .i64 J] (.bool r) []:=by
 refine b6 [0] [.tmp 2] Tryz.func155 Wb λb4 aE b3=>aI ?_;obtain⟨ah,aY,h⟩:=aJ h;refine dq (Nk J _ aY) _ ?_;exact cC aE [.bool (!ah)]
theorem ZC (J r) (h:Fv J=some r):bk aq 121 [.slice (J.map ax),.fn 155 []] (.int .i64 r) []:=by
 refine b6 [0,1] [.tmp 4] Tryz.func121 Wc λb4 aE b3=>aI ?_;refine aU aE λ_ b9 bx aA=>aI ?_;refine bM bx λfO _ bR cG _=>?_;show bj aq (.loop ?fg) _ _;have ga:∀n cE,A5 J n cE=some r->da aq ?fg fO (ar [(0,.slice (J.map ax)),(1,.fn 155 []),(7,.int .i64 (J.length:Int)),(8,.int .i64 cE)]):=by
  refine dz λ_ fT cE h=>dy bR λ_ eW cQ aZ=>aI ?_;refine aU cQ λ_ eR _ bV=>a_ h (λdw h=>?_) λdw h=>?_
  .refine bf (eR _ (inl (aU cQ λ_ dY dA _=>bM dA λ_ cK cS _ _=>aI ?_)));obtain⟨ah,dT,h⟩:=aJ h;obtain⟨aA,fs,h⟩:=aJ h;refine fb dT (ZB ah _ fs) _ ?_;refine a_ h (λi2 h=>?_) λi2 h=>?_
   .exact bn cS [.int .i64 cE]
   .refine bf (cK _ (dY _ (inl (fq ?_))));exact eW _ (inr ⟨_,cp rfl,fT (i64.wrap (cE+1)) h⟩)
  .exact dx (bV 0 _ (aZ 0 _ (cG _ (b9 _ (inl (bn aE [.int .i64 (-1)]))))))
 exact eV h λn h=>ga n 0 h
theorem ZD (J r) (h:Fw J=some r):bk aq 154 [.slice (J.map ax),.fn 155 []] (.bool r) []:=by
 refine b6 [0,1] [.tmp 4] Tryz.func154 Wd λb4 aE b3=>aI ?_;obtain⟨ah,aY,h⟩:=aJ h;refine dq (ZC J _ aY) _ ?_;exact cC aE [.bool (decide (0<=ah))]
theorem ZE (J r) (h:Fx J=some r):bk aq 114 [.slice (J.map ax)] (.bool r) []:=by
 refine b6 [0] [.tmp 2] Tryz.func114 We λb4 aE b3=>aI ?_;obtain⟨ah,aY,h⟩:=aJ h;refine dq (ZD J _ aY) _ ?_;exact cC aE [.bool (!ah)]
theorem Nl (J ab r) (h:A6 J ab=some r):bk aq 62 [bN J,.slice (ab.map ax)] (.bool r) []:=by
 refine b6 [0,1] [.tmp 4] Tryz.func62 Wf λb4 aE b3=>aI ?_;rcases fG h with⟨jU,h⟩|⟨jU,h⟩
 .obtain⟨ah,b1,h⟩:=aJ h;refine fb jU (ZE ab _ b1) _ ?_;exact cC aE [.bool ah]
 .refine cR jU _ ?_;exact cC aE [.bool false]
theorem Nm (J r) (h:A7 J=some r):bk aq 116 [cD J] (.bool r) []:=by
 refine b6 [0] [.tmp 2] Tryz.func116 Wg λb4 aE b3=>aI ?_;refine aI ?_;refine aU aE λ_ hY e1 _=>aI ?_;refine bM e1 λmb _ cQ de _=>?_;show bj aq (.loop ?gV) _ _;have gY:∀n cc p5,vt J n cc p5=some r->da aq ?gV mb (ar [(1,.aK (cD J)),(3,.int .i64 cc),(7,.slice (J.br.map ax)),(8,.int .i64 (J.br.length:Int)),(9,.int .i64 p5)]):=by
  refine dz λ_ gn cc p5 h=>dy cQ λ_ dP dF bp=>aI ?_;refine aU dF λ_ fN _ c2=>a_ h (λfM h=>?_) λfM h=>?_
  .refine bf (fN _ (inl (aU dF λ_ cK cS _=>bM cS λ_ dK fc _ _=>?_)));obtain⟨ah,dT,h⟩:=aJ h;refine cR dT _ ?_;refine aU fc λ_ gO gv _=>?_;obtain⟨aA,dr,h⟩:=aJ h;refine dq (nF ah 1 7 _ dr) _ ?_;refine a_ h (λhG h=>?_) λhG h=>?_
   .exact bn gv [.bool false]
   .refine bf (gO _ (inl (fq ?_)));refine dK _ (cK _ (inl (fq ?_)));exact dP _ (inr ⟨_,cp rfl,gn (i64.wrap (cc*(i64.wrap (ah+1)))) (i64.wrap (p5+1)) h⟩)
  .refine dx (c2 0 _ (bp 0 _ (de _ (hY _ (inl (tP (decide ((J.br.length:Int)<=8)) [(2,.bool ((decide ((J.br.length:Int)<=8))&&(decide (cc<=4096))))] ?_))))));exact cC aE [.bool ((decide ((J.br.length:Int)<=8))&&(decide (cc<=4096)))]
 exact eV h λn h=>gY n 1 0 h
theorem ZF (J r) (h:Fz J=some r):bk aq 168 [.int .u8 (J.toNat:Int)] (.bool r) []:=by
 refine b6 [0] [.tmp 2] Tryz.func168 Wh λb4 aE b3=>aI ?_;refine tP (decide (48<=(J.toNat:Int))) [(2,.bool ((decide (48<=(J.toNat:Int)))&&(decide ((J.toNat:Int)<=57))))] ?_;exact cC aE [.bool ((decide (48<=(J.toNat:Int)))&&(decide ((J.toNat:Int)<=57)))]
theorem Nn (J r) (h:A9 J=some r):bk aq 131 [.str J] (.bool r) []:=by
 refine b6 [0] [.tmp 2] Tryz.func131 Wi λb4 aE b3=>aI ?_;refine aU aE λ_ b9 bx aA=>aI ?_;refine bM bx λfO _ bR cG _=>?_;show bj aq (.loop ?fg) _ _;have ga:∀n h7,r4 J n h7=some r->da aq ?fg fO (ar [(0,.str J),(6,.int .i64 (J.length:Int)),(7,.int .i64 h7)]):=by
  refine dz λ_ fT h7 h=>dy bR λ_ eW cQ aZ=>aI ?_;refine aU cQ λ_ eR _ bV=>a_ h (λdw h=>?_) λdw h=>?_
  .refine bf (eR _ (inl (aU cQ λ_ dY dA _=>bM dA λ_ cK cS _ _=>aI ?_)));obtain⟨ah,dT,h⟩:=aJ h;refine Yq (decide (97<=(ah.toNat:Int))) dT [(0,.str J),(3,.int .i64 h7),(4,.bool ((decide (97<=(ah.toNat:Int)))&&(decide ((ah.toNat:Int)<=122)))),(6,.int .i64 (J.length:Int)),(7,.int .i64 h7)] ?_;rcases fG h with⟨i2,h⟩|⟨i2,h⟩
   .rcases fG h with⟨ma,h⟩|⟨ma,h⟩
    .refine cR (ad i2 ma) _ ?_;refine iX rfl ?_;exact bn cS [.bool false]
    .obtain⟨aA,gD,h⟩:=aJ h;refine fb (ad i2 (ad ma dT)) (ZF ah _ gD) _ ?_;refine a_ h (λgE h=>?_) λgE h=>?_
     .exact bn cS [.bool false]
     .refine bf (cK _ (dY _ (inl (fq ?_))));exact eW _ (inr ⟨_,cp rfl,fT (i64.wrap (h7+1)) h⟩)
   .refine cR i2 _ ?_;refine oa rfl ?_;refine bf (cK _ (dY _ (inl (fq ?_))));exact eW _ (inr ⟨_,cp rfl,fT (i64.wrap (h7+1)) h⟩)
  .refine dx (bV 0 _ (aZ 0 _ (cG _ (b9 _ (inl (tP (decide (1<=(J.length:Int))) [(2,.bool ((decide (1<=(J.length:Int)))&&(decide ((J.length:Int)<=10))))] ?_))))));exact cC aE [.bool ((decide (1<=(J.length:Int)))&&(decide ((J.length:Int)<=10)))]
 exact eV h λn h=>ga n 0 h
theorem Np (J r) (h:yd J=some r):bk aq 92 [.str J] (.bool r) []:=by
 refine b6 [0] [.tmp 2] Tryz.func92 Wj λb4 aE b3=>aI ?_;obtain⟨ah,aY,h⟩:=aJ h;refine c0 (cx [(2,.bool (ah&&(!(J==([116,97,117]:nq)))))] (λP bm=>?_) ?_)
 .rcases Bool.eq_false_or_eq_true (ah)with lo|lo
  ·(try simp only[X0.down,simprocAttr,lo]);refine dv (Nn J _ aY) (hK:= ?_);simp only[X0.down,simprocAttr,lo];exact cu lo
  ·(try simp only[X0.down,simprocAttr,lo]);refine dv (Nn J _ aY) (hK:= ?_);simp only[X0.down,simprocAttr,lo];exact cu lo
 exact cC aE [.bool (ah&&(!(J==([116,97,117]:nq))))]
theorem ZG (ab r) (h:Ba ab=some r):bk aq 145 [.aN,.int .i64 ab] (.ag 1 []) []:=by
 refine b6 [] [.tmp 4] Tryz.func145 Wk λb4 aE b3=>aI ?_;have ZH:FA ab=some r->bj aq MD b4 (ar [(0,.aN),(1,.int .i64 ab),(6,.bool (decide (ab<0)))]):=by
  intro h;have Nq:A_=some r->bj aq MC b4 (ar [(0,.ag 1 [])]):=by
   intro h;exact bn aE [.ag 1 []]
  refine aU aE λ_ hY _ _=>cR (ad @Lw λs x h=> @Lv aq s 60 59 x rfl h) _ ?_;refine aI ?_;refine a_ h (λsK h=>?_) λsK h=>?_
  .obtain⟨aeP,iS,h⟩:=aJ h;refine iW (cx [(0,.ag 1 [])] (λP bm=>?_) ?_)
   .simp only[X0.down,simprocAttr,MW.down,sm iS,i7,-Int.reduceNatCast',ob];(try simp only[hf.down,simprocAttr,MW.down,sm iS,i7,-Int.reduceNatCast',ob]at bm⊢);exact bm
   exact hY _ (inr ⟨_,cp rfl,Nq h⟩)
  .exact bf (hY _ (inr ⟨_,jc [] rfl (im (t:=0) (d:=.aN) (bh:=.ag 1 []) rfl rfl (.gM _) (by decide) (jd)),Nq h⟩))
 refine aU aE λ_ b9 _ _=>aI ?_;refine a_ h (λmR h=>?_) λmR h=>?_
 .cases h
 .exact bf (b9 _ (inr ⟨_,cp rfl,ZH h⟩))
theorem ZI (J r) (h:Bc J=some r):bk aq 102 [.slice (J.map lA)] (.ag 1 (r.map df)) []:=by
 refine b6 [0] [.tmp 2] Tryz.func102 Wl λb4 aE b3=>aI ?_;refine aI ?_;refine aU aE λ_ hY e1 aL=>aI ?_;refine bM e1 λmb _ cQ de _=>?_;show bj aq (.loop ?gV) _ _;have gY:∀n cc ew,tx J n cc ew=some r->da aq ?gV mb (ar [(0,.slice (J.map lA)),(3,.int .i64 cc),(9,.slice (J.map lA)),(10,.int .i64 (J.length:Int)),(11,.int .i64 ew)]):=by
  refine dz λi9 gn cc ew h=>dy cQ λjN dP dF bp=>aI ?_;refine aU dF λ_ fN _ c2=>a_ h (λfM h=>?_) λfM h=>?_
  .refine bf (fN _ (inl ?_));show bj aq (.seq _ ?Gu) _ _;have ZJ:∀vu vv Bb,FB (tx J i9) J vu vv Bb=some r->bj aq ?Gu jN (ar [(0,.slice (J.map lA)),(3,.int .i64 vu),(9,.slice (J.map lA)),(10,.int .i64 (J.length:Int)),(11,.int .i64 vv),(20,.bool Bb)]):=by
    intro vu vv Bb h;refine fq ?_;exact dP _ (inr ⟨_,cp rfl,gn vu (i64.wrap (vv+1)) h⟩)
   refine aU dF λ_ cK cS _=>bM cS λ_ hs _ _ _=>?_;obtain⟨ah,fs,h⟩:=aJ h;refine cR fs _ ?_;refine aI ?_;refine aI ?_;refine a_ h (λhG h=>?_) λhG h=>?_
   .cases h
   .exact bf (hs _ (cK _ (inr ⟨_,cp rfl,ZJ (i64.wrap (cc+(ah.length:Int))) ew (decide ((i64.wrap (cc+(ah.length:Int)))<0)) h⟩)))
  .refine dx (c2 0 _ (bp 0 _ (de _ (hY _ (inl ?_)))));obtain⟨aA,j1,h⟩:=aJ h;refine dq (ZG cc _ j1) _ ?_;refine aU aE λ_ nx ny _=>aI ?_;refine bM ny λG9 _ yP jw _=>?_;show bj aq (.loop ?l9) _ _;have ZK:∀n nj ov,tw J n nj ov=some r->da aq ?l9 G9 (ar [(6,.ag 1 (nj.map df)),(25,.slice (J.map lA)),(26,.int .i64 (J.length:Int)),(27,.int .i64 ov)]):=by
    refine dz λ_ ZL nj ov h=>dy yP λ_ rb pc G_=>aI ?_;refine aU pc λ_ yT _ Ha=>a_ h (λk7 h=>?_) λk7 h=>?_
    .refine bf (yT _ (inl (aU pc λ_ pf tV _=>bM tV λ_ Hb _ _ _=>?_)));obtain⟨aL,km,h⟩:=aJ h;refine cR km _ ?_;obtain⟨aeQ,qf,h⟩:=aJ h;(try simp only[jg.down,Nat.zero_add,Nat.add_zero,reduceAdd]at qf);refine k5 (ad (@hS aq 60 60 59 rfl rfl) (ad @hT (ad @hU (ad @hd (ad @hR (ad @all_nil (ad qf (@hc _ df 1 λ_=>rfl)))))))) [(6,.ag 1 ((nj++aL).map df)),(25,.slice (J.map lA)),(26,.int .i64 (J.length:Int)),(27,.int .i64 ov)] ?_;refine Hb _ (pf _ (inl (wr [(6,.ag 1 ((nj++aL).map df)),(25,.slice (J.map lA)),(26,.int .i64 (J.length:Int)),(27,.int .i64 (i64.wrap (ov+1)))] ?_)));exact rb _ (inr ⟨_,cp rfl,ZL (nj++aL) (i64.wrap (ov+1)) h⟩)
    .exact dx (Ha 2 _ (G_ 2 _ (jw _ (nx _ (inl (bn aE [.ag 1 (nj.map df)]))))))
   exact eV h λn h=>ZK n [] 0 h
 exact eV h λn h=>gY n 0 0 h
theorem Hc (J r) (h:vw J=some r):bk aq 118 [cD J] (.ag 1 (r.map df)) []:=by
 refine b6 [0] [.tmp 2] Tryz.func118 Wm λb4 aE b3=>aI ?_;obtain⟨ah,aY,h⟩:=aJ h;refine c0 (cx [(2,.ag 1 (ah.map df))] (λP bm=>?_) ?_)
 ·(try simp only[X0.down,simprocAttr,(show∀s,eu aq s 60 1 [(0,.slice (J.Guard.map aS))]=some (.ag 1 [.slice (J.Guard.map aS)],s)from λs=>by kernel_rfl),GB.down,I.shares,(show∀s,eu aq s 161 3 [(0,.slice [.slice (J.Guard.map aS)]),(1,.slice (J.bD.map df)),(2,.slice (J.Next.map df))]=some (.ag 1 [.slice [.slice (J.Guard.map aS)],.slice (J.bD.map df),.slice (J.Next.map df)],s)from λs=>by kernel_rfl)]);refine dv (ZI [[J.Guard],J.bD,J.Next] _ aY) (hK:= ?_);simp only[X0.down,simprocAttr,(show∀s,eu aq s 60 1 [(0,.slice (J.Guard.map aS))]=some (.ag 1 [.slice (J.Guard.map aS)],s)from λs=>by kernel_rfl),GB.down,I.shares,(show∀s,eu aq s 161 3 [(0,.slice [.slice (J.Guard.map aS)]),(1,.slice (J.bD.map df)),(2,.slice (J.Next.map df))]=some (.ag 1 [.slice [.slice (J.Guard.map aS)],.slice (J.bD.map df),.slice (J.Next.map df)],s)from λs=>by kernel_rfl)];exact cu (ad (show∀s,eu aq s 60 1 [(0,.slice (J.Guard.map aS))]=some (.ag 1 [.slice (J.Guard.map aS)],s)from λs=>by kernel_rfl) (ad GB.down (show∀s,eu aq s 161 3 [(0,.slice [.slice (J.Guard.map aS)]),(1,.slice (J.bD.map df)),(2,.slice (J.Next.map df))]=some (.ag 1 [.slice [.slice (J.Guard.map aS)],.slice (J.bD.map df),.slice (J.Next.map df)],s)from λs=>by kernel_rfl)))
 exact cC aE [.ag 1 (ah.map df)]
theorem ZM (J ab r) (h:Bd J ab=some r):bk aq 158 [aS J,.int .i64 ab] (.bool r) []:=by
 refine b6 [0,1] [.tmp 4] Tryz.func158 Wn λb4 aE b3=>aI ?_;refine aU aE λ_ b9 bx aA=>aI ?_;refine bM bx λ_ fz bR _ _=>aI ?_;refine a_ h (λet h=>?_) λet h=>?_
 .obtain⟨ah,gI,h⟩:=aJ h;refine dq (Nk J.Value _ gI) _ ?_;exact cC bR [.bool ah]
 .refine aI ?_;refine a_ h (λhg h=>?_) λhg h=>?_
  .obtain⟨aA,dM,h⟩:=aJ h;refine dq (nF J.Value 0 (i64.wrap (ab-1)) _ dM) _ ?_;exact cC bR [.bool aA]
  .refine aI ?_;refine a_ h (λhH h=>?_) λhH h=>?_
   .obtain⟨aL,dr,h⟩:=aJ h;refine dq (nF J.Value 0 8 _ dr) _ ?_;exact cC bR [.bool aL]
   .refine aI ?_;refine a_ h (λk6 h=>?_) λk6 h=>?_
    .exact bn bR [.bool (J.Value==0)]
    .exact bf (fz _ (b9 _ (inl (bn aE [.bool false]))))
theorem Nr (J r) (h:Be J=some r):bk aq 159 [aS J] (.int .i64 r) []:=by
 refine b6 [0] [.tmp 2] Tryz.func159 Wo λb4 aE b3=>aI ?_;refine aU aE λ_ b9 bx _=>aI ?_;refine bM bx λ_ fz bR _ _=>aI ?_;refine a_ h (λet h=>?_) λet h=>?_
 .exact bn bR [.int .i64 2]
 .refine aI ?_;refine a_ h (λfM h=>?_) λfM h=>?_
  .exact bn bR [.int .i64 1]
  .exact bf (fz _ (b9 _ (inl (bn aE [.int .i64 0]))))
theorem ZN (J ab aW r) (h:Bf J ab aW=some r):bk aq 120 [.slice (J.map aS),.int .i64 ab,.int .i64 aW] (.bool r) []:=by
 refine b6 [0,1,2] [.tmp 6] Tryz.func120 Wp λb4 aE b3=>aI ?_;refine aU aE λ_ b9 bx aA=>?_;obtain⟨ah,b1,h⟩:=aJ h;rcases fG h with⟨de,h⟩|⟨de,h⟩
 .refine fb (iZ de) (nF ab 0 29 _ b1) _ ?_;refine iX rfl ?_;exact bn bx [.bool false]
 .obtain⟨aA,bL,h⟩:=aJ h;rcases fG h with⟨dw,h⟩|⟨dw,h⟩
  .refine c0 (cx [(0,.slice (J.map aS)),(1,.int .i64 ab),(24,.bool true)] (λP bm=>?_) ?_)
   ·(try simp only[X0.down,simprocAttr,(dp de),(iZ dw)]);refine dv (nF ab 0 29 _ b1) (hK:= ?_);simp only[X0.down,simprocAttr,(dp de),(iZ dw)];refine jv (nF aW 1 60 _ bL) (hK:= ?_);simp only[X0.down,simprocAttr,(dp de),(iZ dw)];exact cu (ad (dp de) (iZ dw))
   refine iX rfl ?_;exact bn bx [.bool false]
  .obtain⟨aL,jC,h⟩:=aJ h;refine c0 (cx [(0,.slice (J.map aS)),(1,.int .i64 ab),(24,.bool (!aL))] (λP bm=>?_) ?_)
   ·(try simp only[X0.down,simprocAttr,(dp de),(dp dw)]);refine dv (nF ab 0 29 _ b1) (hK:= ?_);simp only[X0.down,simprocAttr,(dp de),(dp dw)];refine jv (nF aW 1 60 _ bL) (hK:= ?_);simp only[X0.down,simprocAttr,(dp de),(dp dw)];refine jv (nF (J.length:Int) 1 aW _ jC) (hK:= ?_);simp only[X0.down,simprocAttr,(dp de),(dp dw)];exact cu (ad (dp de) (dp dw))
   refine a_ h (λmR h=>?_) λmR h=>?_
   .exact bn bx [.bool false]
   .refine bf (b9 _ (inl (aI ?_)));refine aU aE λ_ gO gv _=>aI ?_;refine bM gv λZO _ nB ma _=>?_;show bj aq (.loop ?ra) _ _;have nv:∀n jf p6,vx J ab n jf p6=some r->da aq ?ra ZO (ar [(1,.int .i64 ab),(7,.int .i64 jf),(25,.slice (J.map aS)),(26,.int .i64 (J.length:Int)),(27,.int .i64 p6)]):=by
     refine dz λ_ nw jf p6 h=>dy nB λ_ pe v_ yy=>aI ?_;refine aU v_ λ_ nE _ vW=>a_ h (λjh h=>?_) λjh h=>?_
     .refine bf (nE _ (inl (aU v_ λ_ nx ny _=>bM ny λ_ yR tW _ _=>?_)));obtain⟨aQ,lC,h⟩:=aJ h;refine cR lC _ ?_;refine aU tW λ_ yW we _=>?_;rcases fG h with⟨k7,h⟩|⟨k7,h⟩
      .refine cR k7 _ ?_;refine iX rfl ?_;exact bn we [.bool false]
      .obtain⟨aZ,jO,h⟩:=aJ h;refine fb k7 (ZM aQ ab _ jO) _ ?_;refine a_ h (λGS h=>?_) λGS h=>?_
       .exact bn we [.bool false]
       .refine bf (yW _ (inl ?_));obtain⟨bp,qf,h⟩:=aJ h;refine yH (Nr aQ _ qf) _ ?_;refine yR _ (nx _ (inl (fq ?_)));exact pe _ (inr ⟨_,cp rfl,nw (i64.wrap (jf+(i64.wrap (bp-1)))) (i64.wrap (p6+1)) h⟩)
     .exact dx (vW 0 _ (yy 0 _ (ma _ (gO _ (inl (bn aE [.bool (jf==0)]))))))
    exact eV h λn h=>nv n 1 0 h
theorem ZP (J ab aW r) (h:Bg J ab aW=some r):bk aq 119 [.slice (J.map aS),.ref (.int .i64 ab),.ref (cD aW)] (.bool r) []:=by
 refine b6 [0,1,2] [.tmp 4] Tryz.func119 Wq λb4 aE b3=>aI ?_;obtain⟨ah,aY,h⟩:=aJ h;refine dq (ZN J (i64.wrap (ab+(aW.br.length:Int))) 60 _ aY) _ ?_;exact cC aE [.bool (!ah)]
theorem ZQ (J a0 a2 r) (h:FG J a0 a2=some r):bk aq 157 [.slice (J.map df),.fn 119 [.ref (.int .i64 a0),.ref (cD a2)]] (.int .i64 r) []:=by
 refine b6 [0,1] [.tmp 4] Tryz.func157 Wr λb4 aE b3=>aI ?_;refine aU aE λ_ b9 bx aA=>aI ?_;refine bM bx λfO _ bR cG _=>?_;show bj aq (.loop ?fg) _ _;have ga:∀n cE,Bh J a0 a2 n cE=some r->da aq ?fg fO (ar [(0,.slice (J.map df)),(1,.fn 119 [.ref (.int .i64 a0),.ref (cD a2)]),(7,.int .i64 (J.length:Int)),(8,.int .i64 cE)]):=by
  refine dz λ_ fT cE h=>dy bR λ_ eW cQ aZ=>aI ?_;refine aU cQ λ_ eR _ bV=>a_ h (λdw h=>?_) λdw h=>?_
  .refine bf (eR _ (inl (aU cQ λ_ dY dA _=>bM dA λ_ cK cS _ _=>aI ?_)));obtain⟨ah,dT,h⟩:=aJ h;obtain⟨aA,fs,h⟩:=aJ h;refine fb dT (ZP ah a0 a2 _ fs) _ ?_;refine a_ h (λi2 h=>?_) λi2 h=>?_
   .exact bn cS [.int .i64 cE]
   .refine bf (cK _ (dY _ (inl (fq ?_))));exact eW _ (inr ⟨_,cp rfl,fT (i64.wrap (cE+1)) h⟩)
  .exact dx (bV 0 _ (aZ 0 _ (cG _ (b9 _ (inl (bn aE [.int .i64 (-1)]))))))
 exact eV h λn h=>ga n 0 h
theorem Hd (J a0 a2 r) (h:tz J a0 a2=some r):bk aq 117 [.slice (J.map df),.fn 119 [.ref (.int .i64 a0),.ref (cD a2)]] (.bool r) []:=by
 refine b6 [0,1] [.tmp 4] Tryz.func117 Ws λb4 aE b3=>aI ?_;obtain⟨ah,aY,h⟩:=aJ h;refine dq (ZQ J a0 a2 _ aY) _ ?_;exact cC aE [.bool (decide (0<=ah))]
theorem ZR (J ab r) (h:Bi J ab=some r):bk aq 65 [cD J,.int .i64 ab] (.bool r) []:=by
 refine b6 [0,1] [.tmp 4] Tryz.func65 Wu λb4 aE b3=>aI ?_;refine aU aE λ_ b9 bx aA=>?_;obtain⟨ah,b1,h⟩:=aJ h;refine c0 (cx [(2,.aK (cD J)),(3,.aK (.int .i64 ab)),(15,.bool ((!ah)||((J.Next.length:Int) !=ab)))] (λP bm=>?_) ?_)
 .rcases Bool.eq_false_or_eq_true (ah)with tY|tY
  ·(try simp only[X0.down,simprocAttr,tY]);refine dv (Nm J _ b1) (hK:= ?_);simp only[X0.down,simprocAttr,tY];exact cu tY
  ·(try simp only[X0.down,simprocAttr,tY]);refine dv (Nm J _ b1) (hK:= ?_);simp only[X0.down,simprocAttr,tY];exact cu tY
 refine a_ h (λet h=>?_) λet h=>?_
 .exact bn bx [.bool false]
 .refine bf (b9 _ (inl (aU aE λ_ fN h9 c2=>aI ?_)));rcases fG h with⟨mR,h⟩|⟨mR,h⟩
  .rcases fG h with⟨hr,h⟩|⟨hr,h⟩
   .refine cR (ad mR hr) _ ?_;refine iX rfl ?_;exact bn h9 [.bool false]
   .rcases fG h with⟨hH,h⟩|⟨hH,h⟩
    .refine cR (ad mR (ad hr hH)) _ ?_;refine iX rfl ?_;exact bn h9 [.bool false]
    .obtain⟨aA,dr,h⟩:=aJ h;refine fb (ad mR (ad hr hH)) (Np J.Name _ dr) _ ?_;refine a_ h (λhG h=>?_) λhG h=>?_
     .exact bn h9 [.bool false]
     .refine bf (fN _ (inl ?_));obtain⟨aL,j1,h⟩:=aJ h;obtain⟨aQ,ft,h⟩:=aJ h;refine c0 (cx [(4,.bool (!aQ))] (λP bm=>?_) ?_)
      ·(try simp only[X0.down,simprocAttr]);refine dv (Hc J _ j1) (hK:= ?_);simp only[X0.down,simprocAttr];refine dv (Hd aL ab J _ ft) rfl rfl (by simp only[X0.down,simprocAttr,GC.down]<;>rfl) rfl (inr (by rfl)) ?_;simp only[X0.down,simprocAttr];exact cu trivial
      exact cC aE [.bool (!aQ)]
  .rcases fG h with⟨nC,h⟩|⟨nC,h⟩
   .obtain⟨aZ,lB,h⟩:=aJ h;refine fb (ad mR nC) (Np J.Name _ lB) _ ?_;refine a_ h (λqe h=>?_) λqe h=>?_
    .exact bn h9 [.bool false]
    .refine bf (fN _ (inl ?_));obtain⟨bp,ri,h⟩:=aJ h;obtain⟨bV,He,h⟩:=aJ h;refine c0 (cx [(4,.bool (!bV))] (λP bm=>?_) ?_)
     ·(try simp only[X0.down,simprocAttr]);refine dv (Hc J _ ri) (hK:= ?_);simp only[X0.down,simprocAttr];refine dv (Hd bp ab J _ He) rfl rfl (by simp only[X0.down,simprocAttr,GC.down]<;>rfl) rfl (inr (by rfl)) ?_;simp only[X0.down,simprocAttr];exact cu trivial
     exact cC aE [.bool (!bV)]
   .refine cR (ad mR nC) _ ?_;refine oa rfl ?_;refine bf (fN _ (inl ?_));obtain⟨c2,qg,h⟩:=aJ h;obtain⟨dV,km,h⟩:=aJ h;refine c0 (cx [(4,.bool (!dV))] (λP bm=>?_) ?_)
    ·(try simp only[X0.down,simprocAttr]);refine dv (Hc J _ qg) (hK:= ?_);simp only[X0.down,simprocAttr];refine dv (Hd c2 ab J _ km) rfl rfl (by simp only[X0.down,simprocAttr,GC.down]<;>rfl) rfl (inr (by rfl)) ?_;simp only[X0.down,simprocAttr];exact cu trivial
    exact cC aE [.bool (!dV)]
theorem ZS (J ab r) (h:Bj J ab=some r):bk aq 64 [cD J,.ref (bN ab)] (.bool r) []:=by
 refine b6 [0,1] [.tmp 3] Tryz.func64 Wv λb4 aE b3=>aI ?_;obtain⟨ah,aY,h⟩:=aJ h;refine dq (ZR J ab.bz _ aY) _ ?_;exact cC aE [.bool (!ah)]
theorem ZT (J ab r) (h:FH J ab=some r):bk aq 115 [.slice (J.map cD),.fn 64 [.ref (bN ab)]] (.int .i64 r) []:=by
 refine b6 [0,1] [.tmp 4] Tryz.func115 Ww λb4 aE b3=>aI ?_;refine aU aE λ_ b9 bx aA=>aI ?_;refine bM bx λfO _ bR cG _=>?_;show bj aq (.loop ?fg) _ _;have ga:∀n cE,Bk J ab n cE=some r->da aq ?fg fO (ar [(0,.slice (J.map cD)),(1,.fn 64 [.ref (bN ab)]),(7,.int .i64 (J.length:Int)),(8,.int .i64 cE)]):=by
  refine dz λ_ fT cE h=>dy bR λ_ eW cQ aZ=>aI ?_;refine aU cQ λ_ eR _ bV=>a_ h (λdw h=>?_) λdw h=>?_
  .refine bf (eR _ (inl (aU cQ λ_ dY dA _=>bM dA λ_ cK cS _ _=>aI ?_)));obtain⟨ah,dT,h⟩:=aJ h;obtain⟨aA,fs,h⟩:=aJ h;refine fb dT (ZS ah ab _ fs) _ ?_;refine a_ h (λi2 h=>?_) λi2 h=>?_
   .exact bn cS [.int .i64 cE]
   .refine bf (cK _ (dY _ (inl (fq ?_))));exact eW _ (inr ⟨_,cp rfl,fT (i64.wrap (cE+1)) h⟩)
  .exact dx (bV 0 _ (aZ 0 _ (cG _ (b9 _ (inl (bn aE [.int .i64 (-1)]))))))
 exact eV h λn h=>ga n 0 h
theorem ZU (J ab r) (h:FI J ab=some r):bk aq 63 [.slice (J.map cD),.fn 64 [.ref (bN ab)]] (.bool r) []:=by
 refine b6 [0,1] [.tmp 4] Tryz.func63 Wx λb4 aE b3=>aI ?_;obtain⟨ah,aY,h⟩:=aJ h;refine dq (ZT J ab _ aY) _ ?_;exact cC aE [.bool (decide (0<=ah))]
theorem ZV (J r) (h:Bl J=some r):bk aq 32 [bN J] (.bool r) []:=by
 refine b6 [0] [.tmp 2] Tryz.func32 Wy λb4 aE b3=>aI ?_;refine aU aE λ_ b9 bx aA=>?_;obtain⟨ah,b1,h⟩:=aJ h;rcases fG h with⟨de,h⟩|⟨de,h⟩
 .refine fb (iZ de) (nF J.bz 0 21 _ b1) _ ?_;refine iX rfl ?_;exact bn bx [.bool false]
 .obtain⟨aA,bL,h⟩:=aJ h;refine c0 (cx [(1,.aK (bN J)),(19,.bool ((!aA)||(decide (60<(J.bu.length:Int)))))] (λP bm=>?_) ?_)
  .rcases Bool.eq_false_or_eq_true (aA)with kn|kn
   ·(try simp only[X0.down,simprocAttr,(dp de),kn]);refine dv (nF J.bz 0 21 _ b1) (hK:= ?_);simp only[X0.down,simprocAttr,(dp de),kn];refine jv (Nl J J.Start _ bL) (hK:= ?_);simp only[X0.down,simprocAttr,(dp de),kn];exact cu (ad (dp de) kn)
   ·(try simp only[X0.down,simprocAttr,(dp de),kn]);refine dv (nF J.bz 0 21 _ b1) (hK:= ?_);simp only[X0.down,simprocAttr,(dp de),kn];refine jv (Nl J J.Start _ bL) (hK:= ?_);simp only[X0.down,simprocAttr,(dp de),kn];exact cu (ad (dp de) kn)
  refine a_ h (λfM h=>?_) λfM h=>?_
  .exact bn bx [.bool false]
  .refine bf (b9 _ (inl ?_));obtain⟨aL,dM,h⟩:=aJ h;refine c0 (cx [(2,.bool (!aL))] (λP bm=>?_) ?_)
   ·(try simp only[X0.down,simprocAttr]);refine dv (ZU J.bu J _ dM) rfl rfl (by simp only[X0.down,simprocAttr,GA.down]<;>rfl) rfl (inr (by rfl)) ?_;simp only[X0.down,simprocAttr];exact cu trivial
   exact cC aE [.bool (!aL)]
theorem Ns (J r) (h:ye J=some r):bk aq 66 [.int .i64 J] (.ag 1 (r.map ax)) []:=by
 refine b6 [0] [.tmp 2] Tryz.func66 Wz λb4 aE b3=>aI ?_;refine aI ?_;refine aU aE λ_ hY e1 _=>aI ?_;refine bM e1 λmb _ cQ de _=>?_;show bj aq (.loop ?gV) _ _;have gY:∀n cc eQ,vy J n cc eQ=some r->da aq ?gV mb (ar [(3,.ag 1 (cc.map ax)),(5,.int .i64 J),(6,.int .i64 eQ)]):=by
  refine dz λ_ gn cc eQ h=>dy cQ λ_ dP dF bp=>aI ?_;refine aU dF λ_ fN _ c2=>a_ h (λfM h=>?_) λfM h=>?_
  .refine bf (fN _ (inl (aU dF λ_ cK cS _=>bM cS λ_ dK _ _ _=>aI ?_)));obtain⟨aeR,fs,h⟩:=aJ h;(try simp only[jg.down,Nat.zero_add,Nat.add_zero,reduceAdd]at fs);refine k5 (ad (show∀s,eu aq s 22 1 [(0,.int .i64 eQ)]=some (.ag 1 [.int .i64 eQ],s)from λs=>by kernel_rfl) (ad (@hS aq 22 22 2 rfl rfl) (ad @hT (ad @hU (ad @hd (ad @hR (ad @all_nil (ad fs (@hc _ ax 1 λ_=>rfl))))))))) [(3,.ag 1 ((cc++[eQ]).map ax)),(5,.int .i64 J),(6,.int .i64 eQ)] ?_;refine dK _ (cK _ (inl (wr [(3,.ag 1 ((cc++[eQ]).map ax)),(5,.int .i64 J),(6,.int .i64 (i64.wrap (eQ+1)))] ?_)));exact dP _ (inr ⟨_,cp rfl,gn (cc++[eQ]) (i64.wrap (eQ+1)) h⟩)
  .exact dx (c2 0 _ (bp 0 _ (de _ (hY _ (inl (bn aE [.ag 1 (cc.map ax)]))))))
 obtain⟨n,h⟩:=jl h;exact kE (inr ⟨_,jc [] rfl (im (t:=3) (d:=.aN) (bh:=.ag 1 []) rfl rfl (.gM _) (by decide) (cP (t:=5) (d:=.int .i64 J) rfl (cP (t:=6) (d:=.int .i64 0) rfl (jd)))),gY n [] 0 h⟩)
theorem yX (J r) (h:p7 J=some r):bk aq 68 [.slice (J.map ax)] (.ag 1 (r.map ax)) []:=by
 refine b6 [0] [.tmp 2] Tryz.func68 WA λb4 aE b3=>aI ?_;refine aU aE λ_ b9 bx _=>?_;rcases fG h with⟨cG,h⟩|⟨cG,h⟩
 .refine c0 (cx [(0,.slice (J.map ax)),(4,.eM)] (λP bm=>?_) ?_)
  .simp only[X0.down,simprocAttr,oz.down,(Lt cG)];exact cu (ad oz.down (Lt cG))
  obtain⟨bt,h⟩:=Cw h;refine Ek rfl ?_ ?_
  .replace h:=bt;refine aI ?_;exact lW (bx _ (inr ⟨[(2,.ag 1 [])],jc [] rfl (im (t:=2) (d:=.aN) rfl rfl (.gM _) (by decide) (jd)),u2 [.ag 1 []]⟩))
  .refine bf (b9 _ (inl ?_));obtain⟨u8,gI,h⟩:=aJ h;(try simp only[jg.down,Nat.zero_add,Nat.add_zero,reduceAdd]at gI);refine cR (ad (show∀s,eu aq s 22 0 []=some (.ag 1 [],s)from λs=>by kernel_rfl) (ad (@hS aq 22 22 2 rfl rfl) (ad @hT (ad @hU (ad @hd (ad @hR (ad @all_nil (ad gI (@hc _ ax 1 λ_=>rfl))))))))) _ ?_;exact cC aE [.ag 1 (J.map ax)]
 .refine c0 (cx [(0,.slice (J.map ax)),(4,.bool false)] (λP bm=>?_) ?_)
  .simp only[X0.down,simprocAttr,oz.down,(Lu cG)];exact cu (ad oz.down (Lu cG))
  refine oa rfl ?_;refine bf (b9 _ (inl ?_));obtain⟨aeS,jC,h⟩:=aJ h;(try simp only[jg.down,Nat.zero_add,Nat.add_zero,reduceAdd]at jC);refine cR (ad (show∀s,eu aq s 22 0 []=some (.ag 1 [],s)from λs=>by kernel_rfl) (ad (@hS aq 22 22 2 rfl rfl) (ad @hT (ad @hU (ad @hd (ad @hR (ad @all_nil (ad jC (@hc _ ax 1 λ_=>rfl))))))))) _ ?_;exact cC aE [.ag 1 (J.map ax)]
theorem Nt (J ab r) (h:vz J ab=some r):bk aq 82 [.slice (J.map ax),.int .i64 ab] (.int .i64 r) []:=by
 refine b6 [0,1] [.tmp 4] Tryz.func82 WB λb4 aE b3=>aI ?_;refine aU aE λ_ b9 bx _=>aI ?_;refine bM bx λfO _ bR cG _=>?_;show bj aq (.loop ?fg) _ _;have ga:∀n cE,tA J ab n cE=some r->da aq ?fg fO (ar [(0,.slice (J.map ax)),(1,.int .i64 ab),(7,.int .i64 (J.length:Int)),(8,.int .i64 cE)]):=by
  refine dz λ_ fT cE h=>dy bR λ_ eW cQ aZ=>aI ?_;refine aU cQ λ_ eR _ bV=>a_ h (λdw h=>?_) λdw h=>?_
  .refine bf (eR _ (inl (aU cQ λ_ dY dA _=>bM dA λ_ cK cS _ _=>aI ?_)));obtain⟨ah,dT,h⟩:=aJ h;refine cR dT _ ?_;refine a_ h (λhH h=>?_) λhH h=>?_
   .exact bn cS [.int .i64 cE]
   .refine bf (cK _ (dY _ (inl (fq ?_))));exact eW _ (inr ⟨_,cp rfl,fT (i64.wrap (cE+1)) h⟩)
  .exact dx (bV 0 _ (aZ 0 _ (cG _ (b9 _ (inl (bn aE [.int .i64 (-1)]))))))
 exact eV h λn h=>ga n 0 h
theorem Nu (J ab r) (h:yg J ab=some r):bk aq 74 [.slice (J.map ax),.int .i64 ab] (.bool r) []:=by
 refine b6 [0,1] [.tmp 4] Tryz.func74 WC λb4 aE b3=>aI ?_;obtain⟨ah,aY,h⟩:=aJ h;refine dq (Nt J ab _ aY) _ ?_;exact cC aE [.bool (decide (0<=ah))]
theorem ZW (J r) (h:FK J=some r):bk aq 78 [.int .i64 J] (.ag 2 (r.map aS)) []:=by
 refine b6 [0] [.tmp 2] Tryz.func78 WD λb4 aE b3=>aI ?_;refine cR (ad (show∀s,fl aq s 102 [(0,.int .i64 0),(1,.int .i64 J)]=some (.agg [.int .i64 0,.int .i64 J],s)from λs=>by kernel_rfl) (show∀s,eu aq s 59 1 [(0,.agg [.int .i64 0,.int .i64 J])]=some (.ag 2 [.agg [.int .i64 0,.int .i64 J]],s)from λs=>by kernel_rfl)) _ ?_;exact cC aE [.ag 2 ([(aD.mk 0 J)].map aS)]
theorem Nv (J ab aW r) (h:FL J ab aW=some r):bk aq 77 [.int .i64 J,.ref (.slice (ab.map ax)),.ref (bN aW)] (uV (λy=>.ag 2 (y.map aS)) r) []:=by
 refine b6 [0,1,2] [.tmp 4] Tryz.func77 WE λb4 aE b3=>aI ?_;refine aU aE λ_ b9 bx aA=>?_;obtain⟨ah,b1,h⟩:=aJ h;refine dq (Nu ab J _ b1) _ ?_;refine a_ h (λde h=>?_) λde h=>?_
 .obtain⟨aA,bL,h⟩:=aJ h;obtain⟨aL,gI,h⟩:=aJ h;refine fb bL (ZW aA _ gI) _ ?_;exact cC bx [.ag 2 (aL.map aS)]
 .exact bf (b9 _ (inl (bn aE [.aN])))
theorem ZX (J a0 a2 r) (h:FN J a0 a2=some r):bk aq 76 [.slice (J.map aS),.fn 77 [.ref (.slice (a0.map ax)),.ref (bN a2)]] (.ag 2 (r.map aS)) []:=by
 refine b6 [0,1] [.tmp 4] Tryz.func76 WG λb4 aE b3=>aI ?_;refine aI ?_;refine aU aE λ_ hY e1 aL=>aI ?_;refine bM e1 λmb _ cQ de _=>?_;show bj aq (.loop ?gV) _ _;have gY:∀n bW ew,q1 J a0 a2 n bW ew=some r->da aq ?gV mb (ar [(1,.fn 77 [.ref (.slice (a0.map ax)),.ref (bN a2)]),(5,.ag 2 (bW.map aS)),(9,.slice (J.map aS)),(10,.int .i64 (J.length:Int)),(11,.int .i64 ew)]):=by
  refine dz λi9 gn bW ew h=>dy cQ λ_ dP dF bp=>aI ?_;refine aU dF λ_ fN _ c2=>a_ h (λfM h=>?_) λfM h=>?_
  .refine bf (fN _ (inl (aU dF λ_ cK cS _=>bM cS λpg dK fc _ _=>?_)));obtain⟨ah,dT,h⟩:=aJ h;refine cR dT _ ?_;refine aI ?_;refine aU fc λ_ g5 _ _=>aI ?_;refine a_ h (λhG h=>?_) λhG h=>?_
   .obtain⟨aA,eS,h⟩:=aJ h;rcases Ls h with⟨jh,h⟩|⟨aL,jh,h⟩
    .refine yH (by have q:=(Nv ah.Value a0 a2 _ eS);simp only[jh,uV]at q;exact q) _ ?_;refine g5 _ (inl ?_);show bj aq (.seq _ ?l9) _ _;have mc:∀e6 e7 fh,q0 (q1 J a0 a2 i9) J a0 a2 e6 e7 fh=some r->bj aq ?l9 pg (ar [(1,.fn 77 [.ref (.slice (a0.map ax)),.ref (bN a2)]),(5,.ag 2 (e6.map aS)),(8,.ag 2 (e7.map aS)),(9,.slice (J.map aS)),(10,.int .i64 (J.length:Int)),(11,.int .i64 fh)]):=by
      intro e6 e7 fh h;obtain⟨GP,lB,h⟩:=aJ h;(try simp only[jg.down,Nat.zero_add,Nat.add_zero,reduceAdd]at lB);refine k5 (ad (@hS aq 59 59 102 rfl rfl) (ad @hT (ad @hU (ad @hd (ad @hR (ad @all_nil (ad lB (@hc _ aS 2 λ_=>rfl)))))))) [(1,.fn 77 [.ref (.slice (a0.map ax)),.ref (bN a2)]),(5,.ag 2 ((e6++e7).map aS)),(9,.slice (J.map aS)),(10,.int .i64 (J.length:Int)),(11,.int .i64 fh)] ?_;refine dK _ (cK _ (inl (wr [(1,.fn 77 [.ref (.slice (a0.map ax)),.ref (bN a2)]),(5,.ag 2 ((e6++e7).map aS)),(9,.slice (J.map aS)),(10,.int .i64 (J.length:Int)),(11,.int .i64 (i64.wrap (fh+1)))] ?_)));exact dP _ (inr ⟨_,cp rfl,gn (e6++e7) (i64.wrap (fh+1)) h⟩)
     refine aU fc λ_ nx _ _=>cR @xF _ ?_;refine iX rfl ?_;refine k5 (show∀s,eu aq s 59 1 [(0,.agg [.int .i64 ah.Kind,.int .i64 ah.Value])]=some (.ag 2 [.agg [.int .i64 ah.Kind,.int .i64 ah.Value]],s)from λs=>by kernel_rfl) _ ?_;exact nx _ (inr ⟨_,cp rfl,mc bW [ah] ew h⟩)
    .refine yH (by have q:=(Nv ah.Value a0 a2 _ eS);simp only[jh,uV]at q;exact q) _ ?_;refine g5 _ (inl ?_);show bj aq (.seq _ ?l9) _ _;have mc:∀e6 e7 fh,q0 (q1 J a0 a2 i9) J a0 a2 e6 e7 fh=some r->bj aq ?l9 pg (ar [(1,.fn 77 [.ref (.slice (a0.map ax)),.ref (bN a2)]),(5,.ag 2 (e6.map aS)),(8,.ag 2 (e7.map aS)),(9,.slice (J.map aS)),(10,.int .i64 (J.length:Int)),(11,.int .i64 fh)]):=by
      intro e6 e7 fh h;obtain⟨ZY,jO,h⟩:=aJ h;(try simp only[jg.down,Nat.zero_add,Nat.add_zero,reduceAdd]at jO);refine k5 (ad (@hS aq 59 59 102 rfl rfl) (ad @hT (ad @hU (ad @hd (ad @hR (ad @all_nil (ad jO (@hc _ aS 2 λ_=>rfl)))))))) [(1,.fn 77 [.ref (.slice (a0.map ax)),.ref (bN a2)]),(5,.ag 2 ((e6++e7).map aS)),(9,.slice (J.map aS)),(10,.int .i64 (J.length:Int)),(11,.int .i64 fh)] ?_;refine dK _ (cK _ (inl (wr [(1,.fn 77 [.ref (.slice (a0.map ax)),.ref (bN a2)]),(5,.ag 2 ((e6++e7).map aS)),(9,.slice (J.map aS)),(10,.int .i64 (J.length:Int)),(11,.int .i64 (i64.wrap (fh+1)))] ?_)));exact dP _ (inr ⟨_,cp rfl,gn (e6++e7) (i64.wrap (fh+1)) h⟩)
     refine aU fc λ_ nz _ _=>?_;rcases fG h with⟨kK,h⟩|⟨kK,h⟩
     .refine c0 (cx [(1,.fn 77 [.ref (.slice (a0.map ax)),.ref (bN a2)]),(5,.ag 2 (bW.map aS)),(7,.aK (aS ah)),(8,.ag 2 (aL.map aS)),(9,.slice (J.map aS)),(10,.int .i64 (J.length:Int)),(11,.int .i64 ew),(23,.eM)] (λP bm=>?_) ?_)
      .simp only[X0.down,simprocAttr,oz.down,(Ao kK)];exact cu (ad oz.down (Ao kK))
      obtain⟨Hf,h⟩:=Cw h;refine Ek rfl ?_ ?_
      .replace h:=Hf;refine k5 (show∀s,eu aq s 59 1 [(0,.agg [.int .i64 ah.Kind,.int .i64 ah.Value])]=some (.ag 2 [.agg [.int .i64 ah.Kind,.int .i64 ah.Value]],s)from λs=>by kernel_rfl) _ ?_;exact nz _ (inr ⟨_,cp rfl,mc bW [ah] ew h⟩)
      .exact bf (nz _ (inr ⟨_,cp rfl,mc bW aL ew h⟩))
     .refine c0 (cx [(1,.fn 77 [.ref (.slice (a0.map ax)),.ref (bN a2)]),(5,.ag 2 (bW.map aS)),(7,.aK (aS ah)),(8,.ag 2 (aL.map aS)),(9,.slice (J.map aS)),(10,.int .i64 (J.length:Int)),(11,.int .i64 ew),(23,.bool false)] (λP bm=>?_) ?_)
      .simp only[X0.down,simprocAttr,oz.down,(Ap kK)];exact cu (ad oz.down (Ap kK))
      refine oa rfl ?_;exact bf (nz _ (inr ⟨_,cp rfl,mc bW aL ew h⟩))
   .refine bf (g5 _ (inl ?_));show bj aq (.seq _ ?l9) _ _;have mc:∀e6 e7 fh,q0 (q1 J a0 a2 i9) J a0 a2 e6 e7 fh=some r->bj aq ?l9 pg (ar [(1,.fn 77 [.ref (.slice (a0.map ax)),.ref (bN a2)]),(5,.ag 2 (e6.map aS)),(8,.ag 2 (e7.map aS)),(9,.slice (J.map aS)),(10,.int .i64 (J.length:Int)),(11,.int .i64 fh)]):=by
     intro e6 e7 fh h;obtain⟨ZZ,k8,h⟩:=aJ h;(try simp only[jg.down,Nat.zero_add,Nat.add_zero,reduceAdd]at k8);refine k5 (ad (@hS aq 59 59 102 rfl rfl) (ad @hT (ad @hU (ad @hd (ad @hR (ad @all_nil (ad k8 (@hc _ aS 2 λ_=>rfl)))))))) [(1,.fn 77 [.ref (.slice (a0.map ax)),.ref (bN a2)]),(5,.ag 2 ((e6++e7).map aS)),(9,.slice (J.map aS)),(10,.int .i64 (J.length:Int)),(11,.int .i64 fh)] ?_;refine dK _ (cK _ (inl (wr [(1,.fn 77 [.ref (.slice (a0.map ax)),.ref (bN a2)]),(5,.ag 2 ((e6++e7).map aS)),(9,.slice (J.map aS)),(10,.int .i64 (J.length:Int)),(11,.int .i64 (i64.wrap (fh+1)))] ?_)));exact dP _ (inr ⟨_,cp rfl,gn (e6++e7) (i64.wrap (fh+1)) h⟩)
    refine aU fc λ_ yU _ _=>cR @xF _ ?_;refine iX rfl ?_;refine k5 (show∀s,eu aq s 59 1 [(0,.agg [.int .i64 ah.Kind,.int .i64 ah.Value])]=some (.ag 2 [.agg [.int .i64 ah.Kind,.int .i64 ah.Value]],s)from λs=>by kernel_rfl) _ ?_;exact yU _ (inr ⟨_,cp rfl,mc bW [ah] ew h⟩)
  .exact dx (c2 0 _ (bp 0 _ (de _ (hY _ (inl (bn aE [.ag 2 (bW.map aS)]))))))
 obtain⟨n,h⟩:=jl h;exact kE (inr ⟨_,jc [] rfl (cP (t:=1) (d:=.fn 77 [.ref (.slice (a0.map ax)),.ref (bN a2)]) rfl (im (t:=5) (d:=.aN) (bh:=.ag 2 []) rfl rfl (.gM _) (by decide) (cP (t:=9) (d:=.slice (J.map aS)) rfl (cP (t:=10) (d:=.int .i64 (J.length:Int)) rfl (cP (t:=11) (d:=.int .i64 0) rfl (jd)))))),gY n [] 0 h⟩)
theorem Nw (J ab aW r) (h:yh J ab aW=some r):bk aq 37 [bN J,.slice (ab.map aS),.slice (aW.map ax)] (.ag 2 (r.map aS)) []:=by
 refine b6 [0,1,2] [.tmp 6] Tryz.func37 WH λb4 aE b3=>aI ?_;obtain⟨ah,aY,h⟩:=aJ h;refine c0 (cx [(6,.ag 2 (ah.map aS))] (λP bm=>?_) ?_)
 ·(try simp only[X0.down,simprocAttr]);refine dv (ZX ab aW J _ aY) rfl rfl (by simp only[X0.down,simprocAttr,ik,iq,ir,d_, @cN _ ax ax (λ_=>gN _), @cN _ ax ax (λ_=>gN _), @cN _ cD cD (λ_=>tO _)]<;>rfl) rfl (inr (il (λ_=>tN _) _)) ?_;simp only[X0.down,simprocAttr];exact cu trivial
 exact cC aE [.ag 2 (ah.map aS)]
theorem Z0 (p8:afm->Option (aD×(List bI)×afm)) (Z1:∀J r,p8 J=some r->bk aq 122 [.slice (J.map aS)] (.tuple [.aK (.agg [aS r.1,.ag 1 (r.2.1.map ix)]),.slice (r.2.2.map aS)]) []) (J r) (h:FP p8 J=some r):bk aq 122 [.slice (J.map aS)] (.tuple [.aK (.agg [aS r.1,.ag 1 (r.2.1.map ix)]),.slice (r.2.2.map aS)]) []:=by
 refine b6 [0] [.tmp 2,.tmp 3] Tryz.func122 WI λb4 aE b3=>aI ?_;obtain⟨ah,aY,h⟩:=aJ h;refine cR (ad aY (show∀s,fl aq s 105 [(0,.agg [.int .i64 ah.Kind,.int .i64 ah.Value])]=some (.agg [.agg [.int .i64 ah.Kind,.int .i64 ah.Value],.aN],s)from λs=>by kernel_rfl)) _ ?_;obtain⟨aA,cI,h⟩:=aJ h;refine cR (ad cI (@hc _ aS 2 λ_=>rfl)) _ ?_;refine aU aE λ_ dP dF _=>?_;obtain⟨aL,gI,h⟩:=aJ h;refine fb aY (Nr ah _ gI) _ ?_;refine bM dF λq_ _ dA fM _=>?_;show bj aq (.loop ?yG) _ _;have G2:∀n nk p9 pa,tB p8 ah aL n nk p9 pa=some r->da aq ?yG q_ (ar [(4,.aK (.agg [aS ah,.ag 1 (nk.map ix)])),(5,.slice (p9.map aS)),(17,.int .i64 aL),(18,.int .i64 pa)]):=by
  refine dz λ_ G3 nk p9 pa h=>dy dA λ_ cK cS eo=>aI ?_;refine aU cS λ_ hs _ jZ=>a_ h (λl_ h=>?_) λl_ h=>?_
  .refine bf (hs _ (inl (aU cS λ_ gO gv _=>bM gv λ_ g5 _ _ _=>aI ?_)));obtain⟨aQ,gD,h⟩:=aJ h;refine dq (Z1 p9 _ gD) _ ?_;obtain⟨aeT,j1,h⟩:=aJ h;(try simp only[q9.down,Nat.zero_add,Nat.add_zero,reduceAdd]at j1);refine iW (cx [(4,.aK (.agg [aS ah,.ag 1 ((nk++[(bI.mk aQ.1 aQ.2.1)]).map ix)])),(5,.slice (aQ.2.2.map aS)),(17,.int .i64 aL),(18,.int .i64 pa)] (λP bm=>?_) ?_)
   .simp only[X0.down,simprocAttr,MX.down,f_,cT,j1];(try simp only[hf.down,simprocAttr,MX.down,f_,cT,j1]at bm⊢);exact bm
   refine g5 _ (gO _ (inl (wr [(4,.aK (.agg [aS ah,.ag 1 ((nk++[(bI.mk aQ.1 aQ.2.1)]).map ix)])),(5,.slice (aQ.2.2.map aS)),(17,.int .i64 aL),(18,.int .i64 (i64.wrap (pa+1)))] ?_)));exact cK _ (inr ⟨_,cp rfl,G3 (nk++[(bI.mk aQ.1 aQ.2.1)]) aQ.2.2 (i64.wrap (pa+1)) h⟩)
  .exact dx (jZ 0 _ (eo 0 _ (fM _ (dP _ (inl (bn aE [.aK (.agg [aS ah,.ag 1 (nk.map ix)]),.slice (p9.map aS)]))))))
 obtain⟨n,h⟩:=jl h;exact kE (inr ⟨_,jc [] rfl (im (t:=4) (d:=.aK (.agg [aS ah,.aN])) (bh:=.aK (.agg [aS ah,.ag 1 []])) rfl rfl (.aK (.agg (.cons (.refl _) (.cons (.gM _) (.nil))))) (by decide) (cP (t:=5) (d:=.slice (aA.map aS)) rfl (cP (t:=17) (d:=.int .i64 aL) rfl (cP (t:=18) (d:=.int .i64 0) rfl (jd))))),G2 n [] aA 0 h⟩)
theorem Z2:∀n J r,vA n J=some r->bk aq 122 [.slice (J.map aS)] (.tuple [.aK (.agg [aS r.1,.ag 1 (r.2.1.map ix)]),.slice (r.2.2.map aS)]) []:=by
 intro n;induction n with
 |zero=>intro J r h;cases(show none=some r from h)
 |succ n ih=>intro J r h;exact Z0 (vA n) ih J r h
theorem Z3 (J r) (h:FQ J=some r):bk aq 122 [.slice (J.map aS)] (.tuple [.aK (.agg [aS r.1,.ag 1 (r.2.1.map ix)]),.slice (r.2.2.map aS)]) []:=by
 obtain⟨n,h⟩:=jl h;exact Z2 n J r h
theorem Z4 (J r) (h:Bm J=some r):bk aq 71 [.slice (J.map aS)] (.aK (.agg [aS r.1,.ag 1 (r.2.map ix)])) []:=by
 refine b6 [0] [.tmp 2] Tryz.func71 WJ λb4 aE b3=>aI ?_;obtain⟨ah,aY,h⟩:=aJ h;refine dq (Z3 J _ aY) _ ?_;exact bn aE [.aK (.agg [aS ah.1,.ag 1 (ah.2.1.map ix)])]
theorem rj (J r) (h:ow J=some r):bk aq 160 [.bool J] (.int .i64 r) []:=by
 refine b6 [0] [.tmp 2] Tryz.func160 WK λb4 aE b3=>aI ?_;refine aU aE λ_ b9 bx _=>aI ?_;refine a_ h (λcG h=>?_) λcG h=>?_
 .exact bn bx [.int .i64 1]
 .exact bf (b9 _ (inl (bn aE [.int .i64 0])))
theorem Z5 (J ab aW r) (h:Bn J ab aW=some r):bk aq 161 [.int .i64 J,.int .i64 ab,.int .i64 aW] (.int .i64 r) []:=by
 refine b6 [0,1,2] [.tmp 6] Tryz.func161 WL λb4 aE b3=>aI ?_;refine aU aE λ_ b9 bx aA=>aI ?_;refine bM bx λ_ fz bR _ aQ=>aI ?_;refine a_ h (λet h=>?_) λet h=>?_
 .refine cR (@te .i64 64 (by decide)) _ ?_;exact cC bR [.int .i64 (Int.tmod (i64.wrap (ab+aW)) 64)]
 .refine aI ?_;refine a_ h (λfM h=>?_) λfM h=>?_
  .refine cR (@te .i64 64 (by decide)) _ ?_;exact cC bR [.int .i64 (Int.tmod (i64.wrap ((i64.wrap (ab-aW))+64)) 64)]
  .refine aI ?_;refine a_ h (λhr h=>?_) λhr h=>?_
   .refine cR (@te .i64 64 (by decide)) _ ?_;exact cC bR [.int .i64 (Int.tmod (i64.wrap (ab*aW)) 64)]
   .refine aI ?_;refine a_ h (λi2 h=>?_) λi2 h=>?_
    .obtain⟨ah,h8,h⟩:=aJ h;refine dq (rj (ab==aW) _ h8) _ ?_;exact cC bR [.int .i64 ah]
    .refine aI ?_;refine a_ h (λgE h=>?_) λgE h=>?_
     .obtain⟨aA,ft,h⟩:=aJ h;refine dq (rj (ab !=aW) _ ft) _ ?_;exact cC bR [.int .i64 aA]
     .refine aI ?_;refine a_ h (λjw h=>?_) λjw h=>?_
      .obtain⟨aL,j2,h⟩:=aJ h;refine dq (rj (decide (ab<aW)) _ j2) _ ?_;exact cC bR [.int .i64 aL]
      .refine aI ?_;refine a_ h (λk7 h=>?_) λk7 h=>?_
       .obtain⟨aQ,jO,h⟩:=aJ h;refine dq (rj (decide (ab<=aW)) _ jO) _ ?_;exact cC bR [.int .i64 aQ]
       .refine aI ?_;refine a_ h (λtT h=>?_) λtT h=>?_
        .rcases fG h with⟨pd,h⟩|⟨pd,h⟩
         .obtain⟨aZ,yM,h⟩:=aJ h;refine fb pd (rj (aW !=0) _ yM) _ ?_;exact cC bR [.int .i64 aZ]
         .obtain⟨bp,j3,h⟩:=aJ h;refine fb pd (rj false _ j3) _ ?_;exact cC bR [.int .i64 bp]
        .refine bf (fz _ (b9 _ (inl ?_)));rcases fG h with⟨rh,h⟩|⟨rh,h⟩
         .obtain⟨bV,tU,h⟩:=aJ h;refine fb rh (rj true _ tU) _ ?_;exact cC aE [.int .i64 bV]
         .obtain⟨c2,v9,h⟩:=aJ h;refine fb rh (rj (aW !=0) _ v9) _ ?_;exact cC aE [.int .i64 c2]
theorem Z6 (vB:bI->afb->afe) (Hg:∀J ab r,vB J ab=some r->bk aq 124 [.ref (fL J),.slice (ab.map ax)] (.int .i64 r) []) (J ab r) (h:Bo vB J ab=some r):bk aq 124 [.ref (fL J),.slice (ab.map ax)] (.int .i64 r) []:=by
 refine b6 [0,1] [.tmp 4] Tryz.func124 WM λb4 aE b3=>ws [(0,.ref (fL J)),(1,.slice (ab.map ax))] ?_;refine aU aE λ_ b9 bx aA=>ws [(0,.ref (fL J)),(1,.slice (ab.map ax)),(9,.int .i64 J.term.Kind)] ?_;refine bM bx λ_ fz bR _ aQ=>ws [(0,.ref (fL J)),(1,.slice (ab.map ax)),(9,.int .i64 J.term.Kind),(10,.bool (J.term.Kind==0))] ?_;refine a_ h (λet h=>?_) λet h=>?_
 .exact bn bR [.int .i64 J.term.Value]
 .refine ws [(0,.ref (fL J)),(1,.slice (ab.map ax)),(9,.int .i64 J.term.Kind),(17,.bool (J.term.Kind==1))] ?_;refine a_ h (λfM h=>?_) λfM h=>?_
  .obtain⟨ah,oL,h⟩:=aJ h;refine cR oL _ ?_;exact cC bR [.int .i64 ah]
  .refine ws [(0,.ref (fL J)),(1,.slice (ab.map ax)),(27,.bool (J.term.Kind==3))] ?_;refine a_ h (λl_ h=>?_) λl_ h=>?_
   .obtain⟨aA,fi,h⟩:=aJ h;obtain⟨aL,dr,h⟩:=aJ h;obtain⟨aQ,h8,h⟩:=aJ h;refine c0 (cx [(4,.int .i64 aQ)] (λP bm=>?_) ?_)
    ·(try simp only[X0.down,simprocAttr,fi]);refine dv (Hg aA ab _ dr) rfl rfl (by simp only[X0.down,simprocAttr,fi,vZ.down]<;>rfl) rfl (inl (by rfl)) ?_;simp only[X0.down,simprocAttr,fi];refine dv (rj (aL==0) _ h8) (hK:= ?_);simp only[X0.down,simprocAttr,fi];exact cu fi
    exact cC bR [.int .i64 aQ]
   .refine bf (fz _ (b9 _ (inl ?_)));obtain⟨aZ,eS,h⟩:=aJ h;obtain⟨bp,j1,h⟩:=aJ h;obtain⟨bV,ft,h⟩:=aJ h;obtain⟨c2,g6,h⟩:=aJ h;obtain⟨dV,lB,h⟩:=aJ h;refine rW rfl (m7 [(4,.int .i64 dV)] (λP bm=>?_) ?_)
    ·(try simp only[ef.down,simprocAttr,eS,ft]);refine h5 (Hg aZ ab _ j1) rfl rfl (by simp only[ef.down,simprocAttr,eS,ft,vZ.down]<;>rfl) rfl (inl (by rfl)) ?_;simp only[ef.down,simprocAttr,eS,ft];refine h5 (Hg bV ab _ g6) rfl rfl (by simp only[ef.down,simprocAttr,eS,ft,vZ.down]<;>rfl) rfl (inl (by rfl)) ?_;simp only[ef.down,simprocAttr,eS,ft];refine h5 (Z5 J.term.Value bp c2 _ lB) (hK:= ?_);simp only[ef.down,simprocAttr,eS,ft];refine⟨mD (by kernel_rfl),?_⟩;exact cu (ad eS ft)
    exact cC aE [.int .i64 dV]
theorem Z7:∀n J ab r,tC n J ab=some r->bk aq 124 [.ref (fL J),.slice (ab.map ax)] (.int .i64 r) []:=by
 intro n;induction n with
 |zero=>intro J ab r h;cases(show none=some r from h)
 |succ n ih=>intro J ab r h;exact Z6 (tC n) ih J ab r h
theorem Z8 (J ab r) (h:Bp J ab=some r):bk aq 124 [.ref (fL J),.slice (ab.map ax)] (.int .i64 r) []:=by
 obtain⟨n,h⟩:=jl h;exact Z7 n J ab r h
theorem Z9 (J r) (h:FR J=some r):bk aq 123 [.int .i64 J] (.aK (.agg [.agg [.int .i64 r.1,.int .i64 r.2],.aN])) []:=by
 refine b6 [0] [.tmp 2] Tryz.func123 WN λb4 aE b3=>aI ?_;refine cR (ad (show∀s,fl aq s 102 [(0,.int .i64 0),(1,.int .i64 J)]=some (.agg [.int .i64 0,.int .i64 J],s)from λs=>by kernel_rfl) (show∀s,fl aq s 105 [(0,.agg [.int .i64 0,.int .i64 J])]=some (.agg [.agg [.int .i64 0,.int .i64 J],.aN],s)from λs=>by kernel_rfl)) _ ?_;exact cC aE [.aK (.agg [.agg [.int .i64 0,.int .i64 J],.aN])]
theorem Z_ (p_:bI->Option bI) (aaa:∀J r,p_ J=some r->bk aq 72 [.ref (fL J)] (.ref (fL r)) []) (J r) (h:FU p_ J=some r):bk aq 72 [.ref (fL J)] (.ref (fL r)) []:=by
 refine b6 [0] [.tmp 2] Tryz.func72 WO λb4 aE b3=>ws [(0,.ref (fL J))] ?_;refine aU aE λ_ b9 bx aA=>ws [(0,.ref (fL J)),(13,.bool ((J.args.length:Int)==0))] ?_;refine a_ h (λcG h=>?_) λcG h=>?_
 .refine ws [(2,.ref (fL J))] ?_;exact cC bx [.ref (fL J)]
 .refine bf (b9 _ (inl (cR (show∀s,fl aq s 105 [(0,.agg [.int .i64 J.term.Kind,.int .i64 J.term.Value])]=some (.agg [.agg [.int .i64 J.term.Kind,.int .i64 J.term.Value],.aN],s)from λs=>by kernel_rfl) [(0,.ref (fL J)),(3,.aK (.agg [aS J.term,.aN]))] ?_)));refine ws [(0,.ref (fL J)),(3,.aK (.agg [aS J.term,.aN])),(4,.bool true)] ?_;refine aU aE λ_ fN h9 _=>aI ?_;refine bM h9 λyY _ cS hg _=>?_;show bj aq (.loop ?aab) _ _;have aac:∀n jM l5 l6,tD p_ J n jM l5 l6=some r->da aq ?aab yY (ar [(3,.aK (.agg [aS J.term,.ag 1 (jM.map gC)])),(4,.bool l5),(24,.slice (J.args.map gC)),(25,.int .i64 (J.args.length:Int)),(26,.int .i64 l6)]):=by
   refine dz λ_ aad jM l5 l6 h=>dy cS λ_ dK fc iv=>aI ?_;refine aU fc λ_ ji _ ep=>a_ h (λhH h=>?_) λhH h=>?_
   .refine bf (ji _ (inl (aU fc λ_ g5 kJ _=>bM kJ λ_ nA _ _ _=>?_)));obtain⟨ah,gD,h⟩:=aJ h;refine cR gD [(3,.aK (.agg [aS J.term,.ag 1 (jM.map gC)])),(4,.bool l5),(6,.ref (fL ah)),(24,.slice (J.args.map gC)),(25,.int .i64 (J.args.length:Int)),(26,.int .i64 l6)] ?_;obtain⟨aA,j1,h⟩:=aJ h;refine c0 (cx [(3,.aK (.agg [aS J.term,.ag 1 (jM.map gC)])),(4,.bool l5),(7,.ref (fL aA)),(24,.slice (J.args.map gC)),(25,.int .i64 (J.args.length:Int)),(26,.int .i64 l6)] (λP bm=>?_) ?_)
    ·(try simp only[X0.down,simprocAttr]);refine dv (aaa ah _ j1) rfl rfl (by simp only[X0.down,simprocAttr,vZ.down]<;>rfl) rfl (inl (by rfl)) ?_;simp only[X0.down,simprocAttr];exact cu trivial
    obtain⟨GP,g6,h⟩:=aJ h;(try simp only[jg.down,Nat.zero_add,Nat.add_zero,reduceAdd]at g6);refine cR (ad (show∀s,eu aq s 103 1 [(0,.ref (.agg [.agg [.int .i64 aA.term.Kind,.int .i64 aA.term.Value],.slice (aA.args.map gC)]))]=some (.ag 1 [.ref (.agg [.agg [.int .i64 aA.term.Kind,.int .i64 aA.term.Value],.slice (aA.args.map gC)])],s)from λs=>by kernel_rfl) (ad (@hS aq 103 103 98 rfl rfl) (ad @hT (ad @hU (ad @hd (ad @hR (ad @all_nil (ad g6 (@hc _ gC 1 λ_=>rfl))))))))) [(3,.aK (.agg [aS J.term,.ag 1 ((jM++[aA]).map gC)])),(4,.bool l5),(7,.ref (fL aA)),(24,.slice (J.args.map gC)),(25,.int .i64 (J.args.length:Int)),(26,.int .i64 l6)] ?_;refine Yp l5 [(3,.aK (.agg [aS J.term,.ag 1 ((jM++[aA]).map gC)])),(4,.bool (l5&&(aA.term.Kind==0))),(24,.slice (J.args.map gC)),(25,.int .i64 (J.args.length:Int)),(26,.int .i64 l6)] ?_;refine nA _ (g5 _ (inl (wr [(3,.aK (.agg [aS J.term,.ag 1 ((jM++[aA]).map gC)])),(4,.bool (l5&&(aA.term.Kind==0))),(24,.slice (J.args.map gC)),(25,.int .i64 (J.args.length:Int)),(26,.int .i64 (i64.wrap (l6+1)))] ?_)));exact dK _ (inr ⟨_,cp rfl,aad (jM++[aA]) (l5&&(aA.term.Kind==0)) (i64.wrap (l6+1)) h⟩)
   .refine dx (ep 0 _ (iv 0 _ (hg _ (fN _ (inl (aU aE λ_ yW we _=>aI ?_))))));refine a_ h (λk7 h=>?_) λk7 h=>?_
    .obtain⟨aL,jO,h⟩:=aJ h;obtain⟨aQ,qg,h⟩:=aJ h;refine c0 (cx [(2,.aK (.agg [.agg [.int .i64 aQ.1,.int .i64 aQ.2],.aN]))] (λP bm=>?_) ?_)
     ·(try simp only[X0.down,simprocAttr]);refine dv (bk.nil (args:=[.ref (fL (bI.mk J.term jM)),.aN]) 1 (Z8 (bI.mk J.term jM) [] _ jO) rfl) rfl rfl (by simp only[X0.down,simprocAttr,ik,iq,ir,d_, @cN _ gC gC (λ_=>Gs _)]<;>rfl) rfl (inr (by rfl)) ?_;simp only[X0.down,simprocAttr];refine dv (Z9 aL _ qg) (hK:= ?_);simp only[X0.down,simprocAttr];exact cu trivial
     exact lW (we _ (inr ⟨[(2,.ref (fL (bI.mk (aD.mk aQ.1 aQ.2) [])))],jc [] rfl (im (t:=2) (d:=.aK (.agg [.agg [.int .i64 aQ.1,.int .i64 aQ.2],.aN])) rfl rfl (.trans (An rfl rfl (by simp only[d_,I.share,I.shares,BN,BM]<;>rfl)) (.ref (.agg (.cons (.refl _) (.cons (.s5) (.nil)))))) (by decide) (jd)),u2 [.ref (fL (bI.mk (aD.mk aQ.1 aQ.2) []))]⟩))
    .refine bf (yW _ (inl (aI ?_)));exact lW (aE _ (inr ⟨[(2,.ref (fL (bI.mk J.term jM)))],jc [] rfl (im (t:=2) (d:=.aK (.agg [aS J.term,.ag 1 (jM.map gC)])) rfl rfl ((An rfl rfl (by simp only[d_,I.share,I.shares,l8, @cN _ gC gC (λ_=>Gs _),BN,BM]<;>rfl))) (by decide) (jd)),u2 [.ref (fL (bI.mk J.term jM))]⟩))
  obtain⟨n,h⟩:=jl h;exact kE (inr ⟨_,jc [] rfl (im (t:=3) (d:=.aK (.agg [aS J.term,.aN])) (bh:=.aK (.agg [aS J.term,.ag 1 []])) rfl rfl (.aK (.agg (.cons (.refl _) (.cons (.gM _) (.nil))))) (by decide) (cP (t:=4) (d:=.bool true) rfl (cP (t:=24) (d:=.slice (J.args.map gC)) rfl (cP (t:=25) (d:=.int .i64 (J.args.length:Int)) rfl (cP (t:=26) (d:=.int .i64 0) rfl (jd)))))),aac n [] true 0 h⟩)
theorem aae:∀n J r,vC n J=some r->bk aq 72 [.ref (fL J)] (.ref (fL r)) []:=by
 intro n;induction n with
 |zero=>intro J r h;cases(show none=some r from h)
 |succ n ih=>intro J r h;exact Z_ (vC n) ih J r h
theorem aaf (J r) (h:Bq J=some r):bk aq 72 [.ref (fL J)] (.ref (fL r)) []:=by
 obtain⟨n,h⟩:=jl h;exact aae n J r h
theorem aag (J ab aW fm r) (h:Br J ab aW fm=some r):bk aq 70 [cD J,.ref (bN ab),.ref (.int .i64 aW),.ref (.slice (fm.map ax))] (.bool r) []:=by
 refine b6 [0,1,2,3] [.tmp 5] Tryz.func70 WR λb4 aE b3=>aI ?_;obtain⟨ah,aY,h⟩:=aJ h;obtain⟨aA,b1,h⟩:=aJ h;obtain⟨aL,cI,h⟩:=aJ h;obtain⟨aQ,bQ,h⟩:=aJ h;refine rW rfl (m7 [(1,.ref (bN ab)),(2,.ref (.int .i64 aW)),(6,.ref (fL aQ))] (λP bm=>?_) ?_)
 ·(try simp only[ef.down,simprocAttr,aY]);refine h5 (((Nw ab ah fm _ b1)).wide (An rfl rfl (by simp only[d_,I.share,I.shares, @cN _ aS aS (λ_=>l8 _)]<;>rfl)) rfl rfl) (hK:= ?_);simp only[ef.down,simprocAttr,aY];refine h5 (((Z4 aA _ cI)).wide (An rfl rfl (by simp only[d_,I.share,I.shares,l8, @cN _ ix gC (λ_=>Mx _),BN,BM]<;>rfl)) rfl rfl) (hK:= ?_);simp only[ef.down,simprocAttr,aY];refine h5 (aaf (bI.mk aL.1 aL.2) _ bQ) rfl rfl (by simp only[ef.down,simprocAttr,aY,vZ.down]<;>rfl) rfl (inl (by rfl)) ?_;simp only[ef.down,simprocAttr,aY];refine⟨mD (by kernel_rfl),?_⟩;exact cu aY
 obtain⟨aZ,gI,h⟩:=aJ h;refine yI (ad gI (ad (show∀s,fl aq s 102 [(0,.int .i64 0),(1,.int .i64 aZ)]=some (.agg [.int .i64 0,.int .i64 aZ],s)from λs=>by kernel_rfl) (ad @aS.eq_1 @VA))) _ ?_;exact cC aE [.bool (!((aQ.term.Kind==0)&&(aQ.term.Value==aZ)))]
theorem aah (J a0 a2 kI r) (h:FV J a0 a2 kI=some r):bk aq 115 [.slice (J.map cD),.fn 70 [.ref (bN a0),.ref (.int .i64 a2),.ref (.slice (kI.map ax))]] (.int .i64 r) []:=by
 refine b6 [0,1] [.tmp 4] Tryz.func115 WS λb4 aE b3=>aI ?_;refine aU aE λ_ b9 bx aA=>aI ?_;refine bM bx λfO _ bR cG _=>?_;show bj aq (.loop ?fg) _ _;have ga:∀n cE,Bs J a0 a2 kI n cE=some r->da aq ?fg fO (ar [(0,.slice (J.map cD)),(1,.fn 70 [.ref (bN a0),.ref (.int .i64 a2),.ref (.slice (kI.map ax))]),(7,.int .i64 (J.length:Int)),(8,.int .i64 cE)]):=by
  refine dz λ_ fT cE h=>dy bR λ_ eW cQ aZ=>aI ?_;refine aU cQ λ_ eR _ bV=>a_ h (λdw h=>?_) λdw h=>?_
  .refine bf (eR _ (inl (aU cQ λ_ dY dA _=>bM dA λ_ cK cS _ _=>aI ?_)));obtain⟨ah,dT,h⟩:=aJ h;obtain⟨aA,fs,h⟩:=aJ h;refine fb dT (aag ah a0 a2 kI _ fs) _ ?_;refine a_ h (λi2 h=>?_) λi2 h=>?_
   .exact bn cS [.int .i64 cE]
   .refine bf (cK _ (dY _ (inl (fq ?_))));exact eW _ (inr ⟨_,cp rfl,fT (i64.wrap (cE+1)) h⟩)
  .exact dx (bV 0 _ (aZ 0 _ (cG _ (b9 _ (inl (bn aE [.int .i64 (-1)]))))))
 exact eV h λn h=>ga n 0 h
theorem aai (J a0 a2 kI r) (h:FW J a0 a2 kI=some r):bk aq 63 [.slice (J.map cD),.fn 70 [.ref (bN a0),.ref (.int .i64 a2),.ref (.slice (kI.map ax))]] (.bool r) []:=by
 refine b6 [0,1] [.tmp 4] Tryz.func63 WT λb4 aE b3=>aI ?_;obtain⟨ah,aY,h⟩:=aJ h;refine dq (aah J a0 a2 kI _ aY) _ ?_;exact cC aE [.bool (decide (0<=ah))]
theorem Nx (J ab aW r) (h:tE J ab aW=some r):bk aq 69 [.int .i64 J,.ref (bN ab),.ref (.slice (aW.map ax))] (.bool r) []:=by
 refine b6 [0,1,2] [.tmp 4] Tryz.func69 WU λb4 aE b3=>aI ?_;obtain⟨ah,aY,h⟩:=aJ h;refine c0 (cx [(4,.bool ah)] (λP bm=>?_) ?_)
 ·(try simp only[X0.down,simprocAttr]);refine dv (aai ab.bu ab J aW _ aY) rfl rfl (by simp only[X0.down,simprocAttr,vZ.down]<;>rfl) rfl (inr (by rfl)) ?_;simp only[X0.down,simprocAttr];exact cu trivial
 exact cC aE [.bool ah]
theorem aaj (J a0 a2 r) (h:FX J a0 a2=some r):bk aq 121 [.slice (J.map ax),.fn 69 [.ref (bN a0),.ref (.slice (a2.map ax))]] (.int .i64 r) []:=by
 refine b6 [0,1] [.tmp 4] Tryz.func121 WV λb4 aE b3=>aI ?_;refine aU aE λ_ b9 bx aA=>aI ?_;refine bM bx λfO _ bR cG _=>?_;show bj aq (.loop ?fg) _ _;have ga:∀n cE,Bt J a0 a2 n cE=some r->da aq ?fg fO (ar [(0,.slice (J.map ax)),(1,.fn 69 [.ref (bN a0),.ref (.slice (a2.map ax))]),(7,.int .i64 (J.length:Int)),(8,.int .i64 cE)]):=by
  refine dz λ_ fT cE h=>dy bR λ_ eW cQ aZ=>aI ?_;refine aU cQ λ_ eR _ bV=>a_ h (λdw h=>?_) λdw h=>?_
  .refine bf (eR _ (inl (aU cQ λ_ dY dA _=>bM dA λ_ cK cS _ _=>aI ?_)));obtain⟨ah,dT,h⟩:=aJ h;obtain⟨aA,fs,h⟩:=aJ h;refine fb dT (Nx ah a0 a2 _ fs) _ ?_;refine a_ h (λi2 h=>?_) λi2 h=>?_
   .exact bn cS [.int .i64 cE]
   .refine bf (cK _ (dY _ (inl (fq ?_))));exact eW _ (inr ⟨_,cp rfl,fT (i64.wrap (cE+1)) h⟩)
  .exact dx (bV 0 _ (aZ 0 _ (cG _ (b9 _ (inl (bn aE [.int .i64 (-1)]))))))
 exact eV h λn h=>ga n 0 h
theorem aak (J a0 a2 r) (h:Bv J a0 a2=some r):bk aq 67 [.ag 1 (J.map ax),.fn 69 [.ref (bN a0),.ref (.slice (a2.map ax))]] (.ag 1 (r.map ax)) [.hole,.hole]:=by
 refine bk.L_ (fx:=[0,1]) AF [.tmp 4] [(0,.ag 1 (J.map ax)),(1,.fn 69 [.ref (bN a0),.ref (.slice (a2.map ax))])] Tryz.func67 rfl rfl Xa (le_of_ble_eq_true rfl) W_ rfl rfl λb4 aE b3=>?_;refine aI ?_;obtain⟨ah,aY,h⟩:=aJ h;refine c0 (cx [(0,.ag 1 (J.map ax)),(1,.fn 69 [.ref (bN a0),.ref (.slice (a2.map ax))]),(5,.int .i64 ah)] (λP bm=>?_) ?_)
 ·(try simp only[X0.down,simprocAttr]);refine dv (aaj J a0 a2 _ aY) rfl rfl (by simp only[X0.down,simprocAttr,v3.down]<;>rfl) rfl (inr (by rfl)) ?_;simp only[X0.down,simprocAttr];exact cu trivial
 refine aU aE λ_ fz bR aQ=>aI ?_;refine a_ h (λet h=>?_) λet h=>?_
 .refine aI ?_;exact lW (bR _ (inl (pS [.ag 1 (J.map ax)] rfl (by cases kM h;rfl) (by decide) (qR (m8 (m8 (qS)))))))
 .refine bf (fz _ (inl (aU aE λ_ fN h9 _=>aI ?_)));refine bM h9 λyY _ cS hg _=>?_;have nv:∀n gm dH hD,tF a0 a2 n gm dH hD=some r->da aq MF yY (ar [(0,.ag 1 (gm.map ax)),(1,.fn 69 [.ref (bN a0),.ref (.slice (a2.map ax))]),(5,.int .i64 dH),(6,.int .i64 hD)]):=by
   refine dz λHh nw gm dH hD h=>dy cS λpg dK fc iv=>aU fc λ_ hs _ jZ=>aI ?_;refine a_ h (λhH h=>?_) λhH h=>?_
   .refine bf (hs _ (inl ?_));have yZ:∀nm nn np,Bu (tF a0 a2 Hh) a0 a2 nm nn np=some r->bj aq ME pg (ar [(0,.ag 1 (nm.map ax)),(1,.fn 69 [.ref (bN a0),.ref (.slice (a2.map ax))]),(5,.int .i64 nn),(6,.int .i64 np)]):=by
     intro nm nn np h;refine fq ?_;exact dK _ (inr ⟨_,cp rfl,nw nm nn (i64.wrap (np+1)) h⟩)
    refine aU fc λ_ g5 kJ _=>bM kJ λ_ pe _ _ _=>?_;obtain⟨aA,eS,h⟩:=aJ h;refine cR (ad eS (cB eS)) _ ?_;obtain⟨aL,ft,h⟩:=aJ h;refine dq (Nx aA a0 a2 _ ft) _ ?_;refine a_ h (λnC h=>?_) λnC h=>?_
    .obtain⟨aQ,lC,h⟩:=aJ h;refine c0 (cx [(0,.ag 1 ((List.set gm (Int.toNat dH) aA).map ax)),(1,.fn 69 [.ref (bN a0),.ref (.slice (a2.map ax))]),(5,.int .i64 dH),(6,.int .i64 hD)] (λP bm=>?_) ?_)
     .simp only[X0.down,simprocAttr,lC,cB lC,e5,dj];exact cu (ad lC (ad (cB lC) @e5))
     refine wr [(0,.ag 1 ((List.set gm (Int.toNat dH) aA).map ax)),(1,.fn 69 [.ref (bN a0),.ref (.slice (a2.map ax))]),(5,.int .i64 (i64.wrap (dH+1))),(6,.int .i64 hD)] ?_;exact pe _ (g5 _ (inr ⟨_,cp rfl,yZ (List.set gm (Int.toNat dH) aA) (i64.wrap (dH+1)) hD h⟩))
    .exact bf (pe _ (g5 _ (inr ⟨_,cp rfl,yZ gm dH hD h⟩)))
   .refine dx (jZ 0 _ (iv 0 _ (hg _ (fN _ (inl ?_)))));obtain⟨aZ,ri,h⟩:=aJ h;refine Ma [(0,.ag 1 ((aZ++List.replicate (gm.length-aZ.length) 0).map ax)),(5,.int .i64 dH)] (λP bm=>?_) ?_
    ·(try simp only[X0.down,simprocAttr]);refine Mb ri rfl rfl rfl rfl (by decide) (by decide) rfl rfl rfl rfl ?_;simp only[X0.down,simprocAttr,mB];exact cu trivial
    obtain⟨bp,jO,h⟩:=aJ h;refine c0 (cx [(4,.ag 1 (bp.map ax))] (λP bm=>?_) ?_)
    .simp only[X0.down,simprocAttr,jO,BQ.down,ob];(try simp only[hf.down,simprocAttr,jO,BQ.down,ob]at bm⊢);exact bm
    exact lW (aE _ (inl (pS [.ag 1 (bp.map ax)] rfl (by cases kM h;rfl) (by decide) (qR (m8 (m8 (qS)))))))
  exact eV h λn h=>nv n J ah (i64.wrap (ah+1)) h
theorem aal (J r) (h:Bw J=some r):bk aq 33 [bN J] (.ag 1 (r.map ax)) []:=by
 refine b6 [0] [.tmp 2] Tryz.func33 l9 λb4 aE b3=>aI ?_;obtain⟨ah,aY,h⟩:=aJ h;refine dq (Ns J.bz _ aY) _ ?_;refine bM aE λfO _ bR _ _=>?_;show bj aq (.loop ?pO) _ _;have aam:∀n mL,vD J n mL=some r->da aq ?pO fO (ar [(1,.aK (bN J)),(3,.aK (.ag 1 (mL.map ax)))]):=by
  refine dz λ_ aan mL h=>dy bR λ_ eW cQ _=>bM cQ λ_ dP dF _ _=>?_;obtain⟨aA,gI,h⟩:=aJ h;obtain⟨aL,iS,h⟩:=aJ h;refine c0 (cx [(1,.aK (bN J)),(3,.aK (.ag 1 (mL.map ax))),(4,.ag 1 (aL.map ax))] (λP bm=>?_) ?_)
  ·(try simp only[X0.down,simprocAttr]);refine dv (yX mL _ gI) rfl rfl (by simp only[X0.down,simprocAttr,v3.down]<;>rfl) rfl (inr (il (λ_=>q7 _) _)) ?_;simp only[X0.down,simprocAttr];refine o1 [⟨.h 9 [],true,_,.hole⟩,⟨.fn 69 [.h 1 [],.h 3 []],false,_,.hole⟩] (aak aA J mL _ iS) rfl rfl rfl (by simp only[X0.down,simprocAttr,tj,qQ,o2,ik,iq,ir,d_,or_true,true_or, @cN _ ax ax (λ_=>gN _), @cN _ ax ax (λ_=>gN _), @cN _ cD cD (λ_=>tO _), @cN _ ax ax (λ_=>gN _)]) rfl rfl ((inr (by simp only[qP,I.cM,I.hq,Bool.and_self, @il _ ax (λ_=>q7 _)]))) ?_;simp only[X0.down,simprocAttr,mB];exact cu trivial
  refine aU dF λ_ cK cS _=>aI ?_;refine a_ h (λhr h=>?_) λhr h=>?_
  .exact bn cS [.ag 1 (mL.map ax)]
  .refine bf (cK _ (inl (fq ?_)));exact dP _ (eW _ (inr ⟨_,cp rfl,aan aL h⟩))
 exact eV h λn h=>aam n ah h
theorem Ny (J ab r) (h:vE J ab=some r):bk aq 73 [.int .i64 J,.ref (.slice (ab.map ax))] (.bool r) []:=by
 refine b6 [0,1] [.tmp 3] Tryz.func73 Xb λb4 aE b3=>aI ?_;obtain⟨ah,aY,h⟩:=aJ h;refine dq (Nu ab J _ aY) _ ?_;exact cC aE [.bool ah]
theorem aao (J ab r) (h:FZ J ab=some r):bk aq 121 [.slice (J.map ax),.fn 73 [.ref (.slice (ab.map ax))]] (.int .i64 r) []:=by
 refine b6 [0,1] [.tmp 4] Tryz.func121 Xc λb4 aE b3=>aI ?_;refine aU aE λ_ b9 bx aA=>aI ?_;refine bM bx λfO _ bR cG _=>?_;show bj aq (.loop ?fg) _ _;have ga:∀n cE,Bx J ab n cE=some r->da aq ?fg fO (ar [(0,.slice (J.map ax)),(1,.fn 73 [.ref (.slice (ab.map ax))]),(7,.int .i64 (J.length:Int)),(8,.int .i64 cE)]):=by
  refine dz λ_ fT cE h=>dy bR λ_ eW cQ aZ=>aI ?_;refine aU cQ λ_ eR _ bV=>a_ h (λdw h=>?_) λdw h=>?_
  .refine bf (eR _ (inl (aU cQ λ_ dY dA _=>bM dA λ_ cK cS _ _=>aI ?_)));obtain⟨ah,dT,h⟩:=aJ h;obtain⟨aA,fs,h⟩:=aJ h;refine fb dT (Ny ah ab _ fs) _ ?_;refine a_ h (λi2 h=>?_) λi2 h=>?_
   .exact bn cS [.int .i64 cE]
   .refine bf (cK _ (dY _ (inl (fq ?_))));exact eW _ (inr ⟨_,cp rfl,fT (i64.wrap (cE+1)) h⟩)
  .exact dx (bV 0 _ (aZ 0 _ (cG _ (b9 _ (inl (bn aE [.int .i64 (-1)]))))))
 exact eV h λn h=>ga n 0 h
theorem aap (J ab r) (h:BA J ab=some r):bk aq 67 [.ag 1 (J.map ax),.fn 73 [.ref (.slice (ab.map ax))]] (.ag 1 (r.map ax)) [.hole,.hole]:=by
 refine bk.L_ (fx:=[0,1]) AF [.tmp 4] [(0,.ag 1 (J.map ax)),(1,.fn 73 [.ref (.slice (ab.map ax))])] Tryz.func67 rfl rfl Xs (le_of_ble_eq_true rfl) Xr rfl rfl λb4 aE b3=>?_;refine aI ?_;obtain⟨ah,aY,h⟩:=aJ h;refine c0 (cx [(0,.ag 1 (J.map ax)),(1,.fn 73 [.ref (.slice (ab.map ax))]),(5,.int .i64 ah)] (λP bm=>?_) ?_)
 ·(try simp only[X0.down,simprocAttr]);refine dv (aao J ab _ aY) rfl rfl (by simp only[X0.down,simprocAttr,v3.down]<;>rfl) rfl (inr (by rfl)) ?_;simp only[X0.down,simprocAttr];exact cu trivial
 refine aU aE λ_ fz bR aQ=>aI ?_;refine a_ h (λet h=>?_) λet h=>?_
 .refine aI ?_;exact lW (bR _ (inl (pS [.ag 1 (J.map ax)] rfl (by cases kM h;rfl) (by decide) (qR (m8 (m8 (qS)))))))
 .refine bf (fz _ (inl (aU aE λ_ fN h9 _=>aI ?_)));refine bM h9 λyY _ cS hg _=>?_;have nv:∀n gm dH hD,tG ab n gm dH hD=some r->da aq MI yY (ar [(0,.ag 1 (gm.map ax)),(1,.fn 73 [.ref (.slice (ab.map ax))]),(5,.int .i64 dH),(6,.int .i64 hD)]):=by
   refine dz λHh nw gm dH hD h=>dy cS λpg dK fc iv=>aU fc λ_ hs _ jZ=>aI ?_;refine a_ h (λhH h=>?_) λhH h=>?_
   .refine bf (hs _ (inl ?_));have yZ:∀nm nn np,Bz (tG ab Hh) ab nm nn np=some r->bj aq MH pg (ar [(0,.ag 1 (nm.map ax)),(1,.fn 73 [.ref (.slice (ab.map ax))]),(5,.int .i64 nn),(6,.int .i64 np)]):=by
     intro nm nn np h;refine fq ?_;exact dK _ (inr ⟨_,cp rfl,nw nm nn (i64.wrap (np+1)) h⟩)
    refine aU fc λ_ g5 kJ _=>bM kJ λ_ pe _ _ _=>?_;obtain⟨aA,eS,h⟩:=aJ h;refine cR (ad eS (cB eS)) _ ?_;obtain⟨aL,ft,h⟩:=aJ h;refine dq (Ny aA ab _ ft) _ ?_;refine a_ h (λnC h=>?_) λnC h=>?_
    .obtain⟨aQ,lC,h⟩:=aJ h;refine c0 (cx [(0,.ag 1 ((List.set gm (Int.toNat dH) aA).map ax)),(1,.fn 73 [.ref (.slice (ab.map ax))]),(5,.int .i64 dH),(6,.int .i64 hD)] (λP bm=>?_) ?_)
     .simp only[X0.down,simprocAttr,lC,cB lC,e5,dj];exact cu (ad lC (ad (cB lC) @e5))
     refine wr [(0,.ag 1 ((List.set gm (Int.toNat dH) aA).map ax)),(1,.fn 73 [.ref (.slice (ab.map ax))]),(5,.int .i64 (i64.wrap (dH+1))),(6,.int .i64 hD)] ?_;exact pe _ (g5 _ (inr ⟨_,cp rfl,yZ (List.set gm (Int.toNat dH) aA) (i64.wrap (dH+1)) hD h⟩))
    .exact bf (pe _ (g5 _ (inr ⟨_,cp rfl,yZ gm dH hD h⟩)))
   .refine dx (jZ 0 _ (iv 0 _ (hg _ (fN _ (inl ?_)))));obtain⟨aZ,ri,h⟩:=aJ h;refine Ma [(0,.ag 1 ((aZ++List.replicate (gm.length-aZ.length) 0).map ax)),(5,.int .i64 dH)] (λP bm=>?_) ?_
    ·(try simp only[X0.down,simprocAttr]);refine Mb ri rfl rfl rfl rfl (by decide) (by decide) rfl rfl rfl rfl ?_;simp only[X0.down,simprocAttr,mB];exact cu trivial
    obtain⟨bp,jO,h⟩:=aJ h;refine c0 (cx [(4,.ag 1 (bp.map ax))] (λP bm=>?_) ?_)
    .simp only[X0.down,simprocAttr,jO,BQ.down,ob];(try simp only[hf.down,simprocAttr,jO,BQ.down,ob]at bm⊢);exact bm
    exact lW (aE _ (inl (pS [.ag 1 (bp.map ax)] rfl (by cases kM h;rfl) (by decide) (qR (m8 (m8 (qS)))))))
  exact eV h λn h=>nv n J ah (i64.wrap (ah+1)) h
theorem aaq (J ab r) (h:BB J ab=some r):bk aq 34 [bN J,.slice (ab.map ax)] (.ag 1 (r.map ax)) []:=by
 refine b6 [0,1] [.tmp 4] Tryz.func34 Xt λb4 aE b3=>aI ?_;obtain⟨ah,aY,h⟩:=aJ h;obtain⟨aA,b1,h⟩:=aJ h;refine c0 (cx [(4,.ag 1 (aA.map ax))] (λP bm=>?_) ?_)
 ·(try simp only[X0.down,simprocAttr]);refine dv (Ns J.bz _ aY) (hK:= ?_);simp only[X0.down,simprocAttr];refine o1 [⟨.h 7 [],true,_,.hole⟩,⟨.fn 73 [.h 3 []],false,_,.hole⟩] (aap ah ab _ b1) rfl rfl rfl (by simp only[X0.down,simprocAttr,tj,qQ,o2,ik,iq,ir,d_,or_true,true_or, @cN _ ax ax (λ_=>gN _), @cN _ ax ax (λ_=>gN _)]) rfl rfl ((inr (by simp only[qP,I.cM,I.hq,Bool.and_self, @il _ ax (λ_=>q7 _)]))) ?_;simp only[X0.down,simprocAttr,mB];exact cu trivial
 exact cC aE [.ag 1 (aA.map ax)]
theorem Nz (J ab aW fm r) (h:yi J ab aW fm=some r):bk aq 36 [cD J,.slice (ab.map aS),.ref (bN aW),.ref (.slice (fm.map ax))] (.ag 2 (r.map aS)) []:=by
 refine b6 [0,1,2,3] [.tmp 6] Tryz.func36 Xu λb4 aE b3=>aI ?_;obtain⟨ah,aY,h⟩:=aJ h;refine dq (Nw aW ab fm _ aY) _ ?_;exact cC aE [.ag 2 (ah.map aS)]
theorem NA (J a0 a2 aW r) (h:yj J a0 a2 aW=some r):bk aq 75 [.slice (J.map df),.ref (.fn 36 [.ref (bN a0),.ref (.slice (a2.map ax))]),.ref (cD aW)] (.ag 1 (r.map dg)) []:=by
 refine b6 [0,1,2] [.tmp 4] Tryz.func75 Xv λb4 aE b3=>aI ?_;refine aI ?_;refine aU aE λ_ hY e1 _=>aI ?_;refine bM e1 λmb _ cQ de _=>?_;show bj aq (.loop ?gV) _ _;have gY:∀n bW iI,vF J aW a0 a2 n bW iI=some r->da aq ?gV mb (ar [(1,.ref (.fn 36 [.ref (bN a0),.ref (.slice (a2.map ax))])),(2,.ref (cD aW)),(5,.ag 1 (bW.map dg)),(8,.slice (J.map df)),(9,.int .i64 (J.length:Int)),(10,.int .i64 iI)]):=by
  refine dz λ_ gn bW iI h=>dy cQ λ_ dP dF bp=>aI ?_;refine aU dF λ_ fN _ c2=>a_ h (λfM h=>?_) λfM h=>?_
  .refine bf (fN _ (inl (aU dF λ_ cK cS _=>bM cS λ_ dK _ _ _=>?_)));obtain⟨ah,dT,h⟩:=aJ h;refine cR dT _ ?_;obtain⟨aA,fi,h⟩:=aJ h;obtain⟨GH,dr,h⟩:=aJ h;(try simp only[q9.down,Nat.zero_add,Nat.add_zero,reduceAdd]at dr);refine iW (cx [(1,.ref (.fn 36 [.ref (bN a0),.ref (.slice (a2.map ax))])),(2,.ref (cD aW)),(5,.ag 1 ((bW++[aA]).map dg)),(8,.slice (J.map df)),(9,.int .i64 (J.length:Int)),(10,.int .i64 iI)] (λP bm=>?_) ?_)
   ·(try simp only[X0.down,simprocAttr,mN.down,f_,cT,dr]);refine dv (Nz aW ah a0 a2 _ fi) (hK:= ?_);simp only[X0.down,simprocAttr,mN.down,f_,cT,dr];(try simp only[hf.down,simprocAttr,mN.down,f_,cT,dr]at bm⊢);exact bm
   refine dK _ (cK _ (inl (wr [(1,.ref (.fn 36 [.ref (bN a0),.ref (.slice (a2.map ax))])),(2,.ref (cD aW)),(5,.ag 1 ((bW++[aA]).map dg)),(8,.slice (J.map df)),(9,.int .i64 (J.length:Int)),(10,.int .i64 (i64.wrap (iI+1)))] ?_)));exact dP _ (inr ⟨_,cp rfl,gn (bW++[aA]) (i64.wrap (iI+1)) h⟩)
  .exact dx (c2 0 _ (bp 0 _ (de _ (hY _ (inl (bn aE [.ag 1 (bW.map dg)]))))))
 obtain⟨n,h⟩:=jl h;exact kE (inr ⟨_,jc [] rfl (cP (t:=1) (d:=.ref (.fn 36 [.ref (bN a0),.ref (.slice (a2.map ax))])) rfl (cP (t:=2) (d:=.ref (cD aW)) rfl (im (t:=5) (d:=.aN) (bh:=.ag 1 []) rfl rfl (.gM _) (by decide) (cP (t:=8) (d:=.slice (J.map df)) rfl (cP (t:=9) (d:=.int .i64 (J.length:Int)) rfl (cP (t:=10) (d:=.int .i64 0) rfl (jd))))))),gY n [] 0 h⟩)
theorem aar (J a0 a2 r) (h:BC J a0 a2=some r):bk aq 35 [bN J,.fn 36 [.ref (bN a0),.ref (.slice (a2.map ax))]] (eC r) []:=by
 refine b6 [0,1] [.cell 4 29] Tryz.func35 Gx λb4 aE b3=>cR (ad @m9 (show∀s,ic s (.fn 36 [.ref (.agg [.int .i64 a0.bz,.slice (a0.Start.map ax),.slice (a0.bu.map cD)]),.ref (.slice (a2.map ax))])=some (.ref (.fn 36 [.ref (.agg [.int .i64 a0.bz,.slice (a0.Start.map ax),.slice (a0.bu.map cD)]),.ref (.slice (a2.map ax))]),s)from λs=>rfl)) _ ?_;obtain⟨ah,aY,h⟩:=aJ h;refine qb (ad (@xD aq 29 [(2,0),(22,1),(27,2)] [(.int .i64 0),.aN,.aN] rfl rfl (by kernel_rfl)) (ad @pT (ad @pU (ad @e5 (ad @hd (ad @List.nil_append.{0} @List.cons_append.{0})))))) (yX J.Start _ aY) _ ?_;refine aU aE λ_ fz bR aQ=>aI ?_;refine bM bR λjN _ dF et bp=>?_;have gY:∀n bW iJ,vG J a0 a2 ah n bW iJ=some r->da aq MK jN (ar [(3,.ref (.fn 36 [.ref (bN a0),.ref (.slice (a2.map ax))])),(4,.aK (.agg [.int .i64 0,.aN,.aN])),(5,.aK (.agg [.int .i64 J.bz,.ag 1 (ah.map ax),.ag 5 (bW.map cJ)])),(16,.slice (J.bu.map cD)),(17,.int .i64 (J.bu.length:Int)),(18,.int .i64 iJ)]):=by
  refine dz λ_ gn bW iJ h=>dy dF λ_ eR fe bV=>aI ?_;refine aU fe λ_ dY _ dV=>a_ h (λhg h=>?_) λhg h=>?_
  .refine bf (dY _ (inl (aU fe λ_ dK fc _=>bM fc λ_ hs _ _ _=>?_)));obtain⟨aA,fs,h⟩:=aJ h;refine cR fs _ ?_;refine aI ?_;obtain⟨aL,h8,h⟩:=aJ h;obtain⟨aQ,gD,h⟩:=aJ h;obtain⟨aZ,eS,h⟩:=aJ h;obtain⟨bp,j1,h⟩:=aJ h;obtain⟨aas,ft,h⟩:=aJ h;(try simp only[q9.down,Nat.zero_add,Nat.add_zero,reduceAdd]at ft);refine xB rfl (m7 [(3,.ref (.fn 36 [.ref (bN a0),.ref (.slice (a2.map ax))])),(4,.aK (.agg [.int .i64 0,.aN,.aN])),(5,.aK (.agg [.int .i64 J.bz,.ag 1 (ah.map ax),.ag 5 ((bW++[(bc.mk aL aQ aA.Name aZ bp)]).map cJ)])),(16,.slice (J.bu.map cD)),(17,.int .i64 (J.bu.length:Int)),(18,.int .i64 iJ)] (λP bm=>?_) ?_)
   ·(try simp only[ef.down,simprocAttr,oA.down,dW,cT,f_,ft]);refine h5 (yX aA.br _ h8) (hK:= ?_);simp only[ef.down,simprocAttr,oA.down,dW,cT,f_,ft];refine h5 (Nz aA aA.Guard a0 a2 _ gD) (hK:= ?_);simp only[ef.down,simprocAttr,oA.down,dW,cT,f_,ft];refine h5 (NA aA.bD a0 a2 aA _ eS) rfl rfl (by simp only[ef.down,simprocAttr,BR.down,dW,cT,f_,ft]<;>rfl) rfl (inr (il (λ_=>vY _) _)) ?_;simp only[ef.down,simprocAttr,oA.down,dW,cT,f_,ft];refine h5 (NA aA.Next a0 a2 aA _ j1) rfl rfl (by simp only[ef.down,simprocAttr,BR.down,dW,cT,f_,ft]<;>rfl) rfl (inr (il (λ_=>vY _) _)) ?_;simp only[ef.down,simprocAttr,oA.down,dW,cT,f_,ft];refine⟨mD (by kernel_rfl),?_⟩;(try simp only[hf.down,simprocAttr,oA.down,dW,cT,f_,ft]at bm⊢);exact bm
   refine hs _ (dK _ (inl (wr [(3,.ref (.fn 36 [.ref (bN a0),.ref (.slice (a2.map ax))])),(4,.aK (.agg [.int .i64 0,.aN,.aN])),(5,.aK (.agg [.int .i64 J.bz,.ag 1 (ah.map ax),.ag 5 ((bW++[(bc.mk aL aQ aA.Name aZ bp)]).map cJ)])),(16,.slice (J.bu.map cD)),(17,.int .i64 (J.bu.length:Int)),(18,.int .i64 (i64.wrap (iJ+1)))] ?_)));exact eR _ (inr ⟨_,cp rfl,gn (bW++[(bc.mk aL aQ aA.Name aZ bp)]) (i64.wrap (iJ+1)) h⟩)
  .exact dx (dV 0 _ (bV 0 _ (et _ (fz _ (inl (bn aE [eC (bg.mk J.bz ah bW)]))))))
 obtain⟨n,h⟩:=jl h;exact kE (inr ⟨_,jc [] rfl (cP (t:=3) (d:=.ref (.fn 36 [.ref (bN a0),.ref (.slice (a2.map ax))])) rfl (cP (t:=4) (d:=.aK (.agg [.int .i64 0,.aN,.aN])) rfl (im (t:=5) (d:=.aK (.agg [.int .i64 J.bz,.ag 1 (ah.map ax),.aN])) (bh:=.aK (.agg [.int .i64 J.bz,.ag 1 (ah.map ax),.ag 5 []])) rfl rfl (.aK (.agg (.cons (.refl _) (.cons (.refl _) (.cons (.gM _) (.nil)))))) (by decide) (cP (t:=16) (d:=.slice (J.bu.map cD)) rfl (cP (t:=17) (d:=.int .i64 (J.bu.length:Int)) rfl (cP (t:=18) (d:=.int .i64 0) rfl (jd))))))),gY n [] 0 h⟩)
theorem NB (J r) (h:yk J=some r):bk aq 81 [.int .i64 J] (.ag 2 (r.map aS)) []:=by
 refine b6 [0] [.tmp 2] Tryz.func81 Xx λb4 aE b3=>aI ?_;refine cR (ad (show∀s,fl aq s 102 [(0,.int .i64 1),(1,.int .i64 J)]=some (.agg [.int .i64 1,.int .i64 J],s)from λs=>by kernel_rfl) (show∀s,eu aq s 59 1 [(0,.agg [.int .i64 1,.int .i64 J])]=some (.ag 2 [.agg [.int .i64 1,.int .i64 J]],s)from λs=>by kernel_rfl)) _ ?_;exact cC aE [.ag 2 ([(aD.mk 1 J)].map aS)]
theorem NC (J ab aW r) (h:F4 J ab aW=some r):bk aq 80 [.int .i64 J,.ref (bN ab),.ref (.slice (aW.map ax))] (uV (λy=>.ag 2 (y.map aS)) r) []:=by
 refine b6 [0,1,2] [.tmp 4] Tryz.func80 Xy λb4 aE b3=>aI ?_;refine aU aE λ_ b9 bx aA=>aI ?_;refine a_ h (λcG h=>?_) λcG h=>?_
 .obtain⟨ah,bQ,h⟩:=aJ h;refine dq (NB (i64.wrap ((i64.wrap (J-ab.bz))+(aW.length:Int))) _ bQ) _ ?_;exact cC bx [.ag 2 (ah.map aS)]
 .refine bf (b9 _ (inl (aU aE λ_ eR fe _=>?_)));obtain⟨aA,iS,h⟩:=aJ h;refine dq (Nt aW J _ iS) _ ?_;refine aI ?_;refine a_ h (λmR h=>?_) λmR h=>?_
  .obtain⟨aL,dT,h⟩:=aJ h;refine dq (NB aA _ dT) _ ?_;exact cC fe [.ag 2 (aL.map aS)]
  .exact bf (eR _ (inl (bn aE [.aN])))
theorem aat (J a0 a2 r) (h:F6 J a0 a2=some r):bk aq 76 [.slice (J.map aS),.fn 80 [.ref (bN a0),.ref (.slice (a2.map ax))]] (.ag 2 (r.map aS)) []:=by
 refine b6 [0,1] [.tmp 4] Tryz.func76 Xz λb4 aE b3=>aI ?_;refine aI ?_;refine aU aE λ_ hY e1 aL=>aI ?_;refine bM e1 λmb _ cQ de _=>?_;show bj aq (.loop ?gV) _ _;have gY:∀n bW ew,q3 J a0 a2 n bW ew=some r->da aq ?gV mb (ar [(1,.fn 80 [.ref (bN a0),.ref (.slice (a2.map ax))]),(5,.ag 2 (bW.map aS)),(9,.slice (J.map aS)),(10,.int .i64 (J.length:Int)),(11,.int .i64 ew)]):=by
  refine dz λi9 gn bW ew h=>dy cQ λ_ dP dF bp=>aI ?_;refine aU dF λ_ fN _ c2=>a_ h (λfM h=>?_) λfM h=>?_
  .refine bf (fN _ (inl (aU dF λ_ cK cS _=>bM cS λpg dK fc _ _=>?_)));obtain⟨ah,dT,h⟩:=aJ h;refine cR dT _ ?_;refine aI ?_;refine aU fc λ_ g5 _ _=>aI ?_;refine a_ h (λhG h=>?_) λhG h=>?_
   .obtain⟨aA,eS,h⟩:=aJ h;rcases Ls h with⟨jh,h⟩|⟨aL,jh,h⟩
    .refine yH (by have q:=(NC ah.Value a0 a2 _ eS);simp only[jh,uV]at q;exact q) _ ?_;refine g5 _ (inl ?_);show bj aq (.seq _ ?l9) _ _;have mc:∀e6 e7 fh,q2 (q3 J a0 a2 i9) J a0 a2 e6 e7 fh=some r->bj aq ?l9 pg (ar [(1,.fn 80 [.ref (bN a0),.ref (.slice (a2.map ax))]),(5,.ag 2 (e6.map aS)),(8,.ag 2 (e7.map aS)),(9,.slice (J.map aS)),(10,.int .i64 (J.length:Int)),(11,.int .i64 fh)]):=by
      intro e6 e7 fh h;obtain⟨GP,lB,h⟩:=aJ h;(try simp only[jg.down,Nat.zero_add,Nat.add_zero,reduceAdd]at lB);refine k5 (ad (@hS aq 59 59 102 rfl rfl) (ad @hT (ad @hU (ad @hd (ad @hR (ad @all_nil (ad lB (@hc _ aS 2 λ_=>rfl)))))))) [(1,.fn 80 [.ref (bN a0),.ref (.slice (a2.map ax))]),(5,.ag 2 ((e6++e7).map aS)),(9,.slice (J.map aS)),(10,.int .i64 (J.length:Int)),(11,.int .i64 fh)] ?_;refine dK _ (cK _ (inl (wr [(1,.fn 80 [.ref (bN a0),.ref (.slice (a2.map ax))]),(5,.ag 2 ((e6++e7).map aS)),(9,.slice (J.map aS)),(10,.int .i64 (J.length:Int)),(11,.int .i64 (i64.wrap (fh+1)))] ?_)));exact dP _ (inr ⟨_,cp rfl,gn (e6++e7) (i64.wrap (fh+1)) h⟩)
     refine aU fc λ_ nx _ _=>cR @xF _ ?_;refine iX rfl ?_;refine k5 (show∀s,eu aq s 59 1 [(0,.agg [.int .i64 ah.Kind,.int .i64 ah.Value])]=some (.ag 2 [.agg [.int .i64 ah.Kind,.int .i64 ah.Value]],s)from λs=>by kernel_rfl) _ ?_;exact nx _ (inr ⟨_,cp rfl,mc bW [ah] ew h⟩)
    .refine yH (by have q:=(NC ah.Value a0 a2 _ eS);simp only[jh,uV]at q;exact q) _ ?_;refine g5 _ (inl ?_);show bj aq (.seq _ ?l9) _ _;have mc:∀e6 e7 fh,q2 (q3 J a0 a2 i9) J a0 a2 e6 e7 fh=some r->bj aq ?l9 pg (ar [(1,.fn 80 [.ref (bN a0),.ref (.slice (a2.map ax))]),(5,.ag 2 (e6.map aS)),(8,.ag 2 (e7.map aS)),(9,.slice (J.map aS)),(10,.int .i64 (J.length:Int)),(11,.int .i64 fh)]):=by
      intro e6 e7 fh h;obtain⟨ZY,jO,h⟩:=aJ h;(try simp only[jg.down,Nat.zero_add,Nat.add_zero,reduceAdd]at jO);refine k5 (ad (@hS aq 59 59 102 rfl rfl) (ad @hT (ad @hU (ad @hd (ad @hR (ad @all_nil (ad jO (@hc _ aS 2 λ_=>rfl)))))))) [(1,.fn 80 [.ref (bN a0),.ref (.slice (a2.map ax))]),(5,.ag 2 ((e6++e7).map aS)),(9,.slice (J.map aS)),(10,.int .i64 (J.length:Int)),(11,.int .i64 fh)] ?_;refine dK _ (cK _ (inl (wr [(1,.fn 80 [.ref (bN a0),.ref (.slice (a2.map ax))]),(5,.ag 2 ((e6++e7).map aS)),(9,.slice (J.map aS)),(10,.int .i64 (J.length:Int)),(11,.int .i64 (i64.wrap (fh+1)))] ?_)));exact dP _ (inr ⟨_,cp rfl,gn (e6++e7) (i64.wrap (fh+1)) h⟩)
     refine aU fc λ_ nz _ _=>?_;rcases fG h with⟨kK,h⟩|⟨kK,h⟩
     .refine c0 (cx [(1,.fn 80 [.ref (bN a0),.ref (.slice (a2.map ax))]),(5,.ag 2 (bW.map aS)),(7,.aK (aS ah)),(8,.ag 2 (aL.map aS)),(9,.slice (J.map aS)),(10,.int .i64 (J.length:Int)),(11,.int .i64 ew),(23,.eM)] (λP bm=>?_) ?_)
      .simp only[X0.down,simprocAttr,oz.down,(Ao kK)];exact cu (ad oz.down (Ao kK))
      obtain⟨Hf,h⟩:=Cw h;refine Ek rfl ?_ ?_
      .replace h:=Hf;refine k5 (show∀s,eu aq s 59 1 [(0,.agg [.int .i64 ah.Kind,.int .i64 ah.Value])]=some (.ag 2 [.agg [.int .i64 ah.Kind,.int .i64 ah.Value]],s)from λs=>by kernel_rfl) _ ?_;exact nz _ (inr ⟨_,cp rfl,mc bW [ah] ew h⟩)
      .exact bf (nz _ (inr ⟨_,cp rfl,mc bW aL ew h⟩))
     .refine c0 (cx [(1,.fn 80 [.ref (bN a0),.ref (.slice (a2.map ax))]),(5,.ag 2 (bW.map aS)),(7,.aK (aS ah)),(8,.ag 2 (aL.map aS)),(9,.slice (J.map aS)),(10,.int .i64 (J.length:Int)),(11,.int .i64 ew),(23,.bool false)] (λP bm=>?_) ?_)
      .simp only[X0.down,simprocAttr,oz.down,(Ap kK)];exact cu (ad oz.down (Ap kK))
      refine oa rfl ?_;exact bf (nz _ (inr ⟨_,cp rfl,mc bW aL ew h⟩))
   .refine bf (g5 _ (inl ?_));show bj aq (.seq _ ?l9) _ _;have mc:∀e6 e7 fh,q2 (q3 J a0 a2 i9) J a0 a2 e6 e7 fh=some r->bj aq ?l9 pg (ar [(1,.fn 80 [.ref (bN a0),.ref (.slice (a2.map ax))]),(5,.ag 2 (e6.map aS)),(8,.ag 2 (e7.map aS)),(9,.slice (J.map aS)),(10,.int .i64 (J.length:Int)),(11,.int .i64 fh)]):=by
     intro e6 e7 fh h;obtain⟨ZZ,k8,h⟩:=aJ h;(try simp only[jg.down,Nat.zero_add,Nat.add_zero,reduceAdd]at k8);refine k5 (ad (@hS aq 59 59 102 rfl rfl) (ad @hT (ad @hU (ad @hd (ad @hR (ad @all_nil (ad k8 (@hc _ aS 2 λ_=>rfl)))))))) [(1,.fn 80 [.ref (bN a0),.ref (.slice (a2.map ax))]),(5,.ag 2 ((e6++e7).map aS)),(9,.slice (J.map aS)),(10,.int .i64 (J.length:Int)),(11,.int .i64 fh)] ?_;refine dK _ (cK _ (inl (wr [(1,.fn 80 [.ref (bN a0),.ref (.slice (a2.map ax))]),(5,.ag 2 ((e6++e7).map aS)),(9,.slice (J.map aS)),(10,.int .i64 (J.length:Int)),(11,.int .i64 (i64.wrap (fh+1)))] ?_)));exact dP _ (inr ⟨_,cp rfl,gn (e6++e7) (i64.wrap (fh+1)) h⟩)
    refine aU fc λ_ yU _ _=>cR @xF _ ?_;refine iX rfl ?_;refine k5 (show∀s,eu aq s 59 1 [(0,.agg [.int .i64 ah.Kind,.int .i64 ah.Value])]=some (.ag 2 [.agg [.int .i64 ah.Kind,.int .i64 ah.Value]],s)from λs=>by kernel_rfl) _ ?_;exact yU _ (inr ⟨_,cp rfl,mc bW [ah] ew h⟩)
  .exact dx (c2 0 _ (bp 0 _ (de _ (hY _ (inl (bn aE [.ag 2 (bW.map aS)]))))))
 obtain⟨n,h⟩:=jl h;exact kE (inr ⟨_,jc [] rfl (cP (t:=1) (d:=.fn 80 [.ref (bN a0),.ref (.slice (a2.map ax))]) rfl (im (t:=5) (d:=.aN) (bh:=.ag 2 []) rfl rfl (.gM _) (by decide) (cP (t:=9) (d:=.slice (J.map aS)) rfl (cP (t:=10) (d:=.int .i64 (J.length:Int)) rfl (cP (t:=11) (d:=.int .i64 0) rfl (jd)))))),gY n [] 0 h⟩)
theorem ND (J ab aW fm r) (h:yl J ab aW fm=some r):bk aq 79 [cD J,.slice (ab.map aS),.ref (bN aW),.ref (.slice (fm.map ax))] (.ag 2 (r.map aS)) []:=by
 refine b6 [0,1,2,3] [.tmp 6] Tryz.func79 XA λb4 aE b3=>aI ?_;obtain⟨ah,aY,h⟩:=aJ h;refine dq (aat ab aW fm _ aY) _ ?_;exact cC aE [.ag 2 (ah.map aS)]
theorem NF (J a0 a2 aW r) (h:ym J a0 a2 aW=some r):bk aq 75 [.slice (J.map df),.ref (.fn 79 [.ref (bN a0),.ref (.slice (a2.map ax))]),.ref (cD aW)] (.ag 1 (r.map dg)) []:=by
 refine b6 [0,1,2] [.tmp 4] Tryz.func75 XB λb4 aE b3=>aI ?_;refine aI ?_;refine aU aE λ_ hY e1 _=>aI ?_;refine bM e1 λmb _ cQ de _=>?_;show bj aq (.loop ?gV) _ _;have gY:∀n bW iI,vH J aW a0 a2 n bW iI=some r->da aq ?gV mb (ar [(1,.ref (.fn 79 [.ref (bN a0),.ref (.slice (a2.map ax))])),(2,.ref (cD aW)),(5,.ag 1 (bW.map dg)),(8,.slice (J.map df)),(9,.int .i64 (J.length:Int)),(10,.int .i64 iI)]):=by
  refine dz λ_ gn bW iI h=>dy cQ λ_ dP dF bp=>aI ?_;refine aU dF λ_ fN _ c2=>a_ h (λfM h=>?_) λfM h=>?_
  .refine bf (fN _ (inl (aU dF λ_ cK cS _=>bM cS λ_ dK _ _ _=>?_)));obtain⟨ah,dT,h⟩:=aJ h;refine cR dT _ ?_;obtain⟨aA,fi,h⟩:=aJ h;obtain⟨GH,dr,h⟩:=aJ h;(try simp only[q9.down,Nat.zero_add,Nat.add_zero,reduceAdd]at dr);refine iW (cx [(1,.ref (.fn 79 [.ref (bN a0),.ref (.slice (a2.map ax))])),(2,.ref (cD aW)),(5,.ag 1 ((bW++[aA]).map dg)),(8,.slice (J.map df)),(9,.int .i64 (J.length:Int)),(10,.int .i64 iI)] (λP bm=>?_) ?_)
   ·(try simp only[X0.down,simprocAttr,mN.down,f_,cT,dr]);refine dv (ND aW ah a0 a2 _ fi) (hK:= ?_);simp only[X0.down,simprocAttr,mN.down,f_,cT,dr];(try simp only[hf.down,simprocAttr,mN.down,f_,cT,dr]at bm⊢);exact bm
   refine dK _ (cK _ (inl (wr [(1,.ref (.fn 79 [.ref (bN a0),.ref (.slice (a2.map ax))])),(2,.ref (cD aW)),(5,.ag 1 ((bW++[aA]).map dg)),(8,.slice (J.map df)),(9,.int .i64 (J.length:Int)),(10,.int .i64 (i64.wrap (iI+1)))] ?_)));exact dP _ (inr ⟨_,cp rfl,gn (bW++[aA]) (i64.wrap (iI+1)) h⟩)
  .exact dx (c2 0 _ (bp 0 _ (de _ (hY _ (inl (bn aE [.ag 1 (bW.map dg)]))))))
 obtain⟨n,h⟩:=jl h;exact kE (inr ⟨_,jc [] rfl (cP (t:=1) (d:=.ref (.fn 79 [.ref (bN a0),.ref (.slice (a2.map ax))])) rfl (cP (t:=2) (d:=.ref (cD aW)) rfl (im (t:=5) (d:=.aN) (bh:=.ag 1 []) rfl rfl (.gM _) (by decide) (cP (t:=8) (d:=.slice (J.map df)) rfl (cP (t:=9) (d:=.int .i64 (J.length:Int)) rfl (cP (t:=10) (d:=.int .i64 0) rfl (jd))))))),gY n [] 0 h⟩)
theorem aau (J a0 a2 r) (h:BD J a0 a2=some r):bk aq 35 [bN J,.fn 79 [.ref (bN a0),.ref (.slice (a2.map ax))]] (eC r) []:=by
 refine b6 [0,1] [.cell 4 29] Tryz.func35 XD λb4 aE b3=>cR (ad @m9 (show∀s,ic s (.fn 79 [.ref (.agg [.int .i64 a0.bz,.slice (a0.Start.map ax),.slice (a0.bu.map cD)]),.ref (.slice (a2.map ax))])=some (.ref (.fn 79 [.ref (.agg [.int .i64 a0.bz,.slice (a0.Start.map ax),.slice (a0.bu.map cD)]),.ref (.slice (a2.map ax))]),s)from λs=>rfl)) _ ?_;obtain⟨ah,aY,h⟩:=aJ h;refine qb (ad (@xD aq 29 [(2,0),(22,1),(27,2)] [(.int .i64 0),.aN,.aN] rfl rfl (by kernel_rfl)) (ad @pT (ad @pU (ad @e5 (ad @hd (ad @List.nil_append.{0} @List.cons_append.{0})))))) (yX J.Start _ aY) _ ?_;refine aU aE λ_ fz bR aQ=>aI ?_;refine bM bR λjN _ dF et bp=>?_;have gY:∀n bW iJ,vI J a0 a2 ah n bW iJ=some r->da aq ML jN (ar [(3,.ref (.fn 79 [.ref (bN a0),.ref (.slice (a2.map ax))])),(4,.aK (.agg [.int .i64 0,.aN,.aN])),(5,.aK (.agg [.int .i64 J.bz,.ag 1 (ah.map ax),.ag 5 (bW.map cJ)])),(16,.slice (J.bu.map cD)),(17,.int .i64 (J.bu.length:Int)),(18,.int .i64 iJ)]):=by
  refine dz λ_ gn bW iJ h=>dy dF λ_ eR fe bV=>aI ?_;refine aU fe λ_ dY _ dV=>a_ h (λhg h=>?_) λhg h=>?_
  .refine bf (dY _ (inl (aU fe λ_ dK fc _=>bM fc λ_ hs _ _ _=>?_)));obtain⟨aA,fs,h⟩:=aJ h;refine cR fs _ ?_;refine aI ?_;obtain⟨aL,h8,h⟩:=aJ h;obtain⟨aQ,gD,h⟩:=aJ h;obtain⟨aZ,eS,h⟩:=aJ h;obtain⟨bp,j1,h⟩:=aJ h;obtain⟨aas,ft,h⟩:=aJ h;(try simp only[q9.down,Nat.zero_add,Nat.add_zero,reduceAdd]at ft);refine xB rfl (m7 [(3,.ref (.fn 79 [.ref (bN a0),.ref (.slice (a2.map ax))])),(4,.aK (.agg [.int .i64 0,.aN,.aN])),(5,.aK (.agg [.int .i64 J.bz,.ag 1 (ah.map ax),.ag 5 ((bW++[(bc.mk aL aQ aA.Name aZ bp)]).map cJ)])),(16,.slice (J.bu.map cD)),(17,.int .i64 (J.bu.length:Int)),(18,.int .i64 iJ)] (λP bm=>?_) ?_)
   ·(try simp only[ef.down,simprocAttr,oA.down,dW,cT,f_,ft]);refine h5 (yX aA.br _ h8) (hK:= ?_);simp only[ef.down,simprocAttr,oA.down,dW,cT,f_,ft];refine h5 (ND aA aA.Guard a0 a2 _ gD) (hK:= ?_);simp only[ef.down,simprocAttr,oA.down,dW,cT,f_,ft];refine h5 (NF aA.bD a0 a2 aA _ eS) rfl rfl (by simp only[ef.down,simprocAttr,BR.down,dW,cT,f_,ft]<;>rfl) rfl (inr (il (λ_=>vY _) _)) ?_;simp only[ef.down,simprocAttr,oA.down,dW,cT,f_,ft];refine h5 (NF aA.Next a0 a2 aA _ j1) rfl rfl (by simp only[ef.down,simprocAttr,BR.down,dW,cT,f_,ft]<;>rfl) rfl (inr (il (λ_=>vY _) _)) ?_;simp only[ef.down,simprocAttr,oA.down,dW,cT,f_,ft];refine⟨mD (by kernel_rfl),?_⟩;(try simp only[hf.down,simprocAttr,oA.down,dW,cT,f_,ft]at bm⊢);exact bm
   refine hs _ (dK _ (inl (wr [(3,.ref (.fn 79 [.ref (bN a0),.ref (.slice (a2.map ax))])),(4,.aK (.agg [.int .i64 0,.aN,.aN])),(5,.aK (.agg [.int .i64 J.bz,.ag 1 (ah.map ax),.ag 5 ((bW++[(bc.mk aL aQ aA.Name aZ bp)]).map cJ)])),(16,.slice (J.bu.map cD)),(17,.int .i64 (J.bu.length:Int)),(18,.int .i64 (i64.wrap (iJ+1)))] ?_)));exact eR _ (inr ⟨_,cp rfl,gn (bW++[(bc.mk aL aQ aA.Name aZ bp)]) (i64.wrap (iJ+1)) h⟩)
  .exact dx (dV 0 _ (bV 0 _ (et _ (fz _ (inl (bn aE [eC (bg.mk J.bz ah bW)]))))))
 obtain⟨n,h⟩:=jl h;exact kE (inr ⟨_,jc [] rfl (cP (t:=3) (d:=.ref (.fn 79 [.ref (bN a0),.ref (.slice (a2.map ax))])) rfl (cP (t:=4) (d:=.aK (.agg [.int .i64 0,.aN,.aN])) rfl (im (t:=5) (d:=.aK (.agg [.int .i64 J.bz,.ag 1 (ah.map ax),.aN])) (bh:=.aK (.agg [.int .i64 J.bz,.ag 1 (ah.map ax),.ag 5 []])) rfl rfl (.aK (.agg (.cons (.refl _) (.cons (.refl _) (.cons (.gM _) (.nil)))))) (by decide) (cP (t:=16) (d:=.slice (J.bu.map cD)) rfl (cP (t:=17) (d:=.int .i64 (J.bu.length:Int)) rfl (cP (t:=18) (d:=.int .i64 0) rfl (jd))))))),gY n [] 0 h⟩)
theorem aav (J ab r) (h:BE J ab=some r):bk aq 38 [bN J,.slice (ab.map ax)] (eC r) []:=by
 refine bk.UL (fx:=[0,1]) AF [.cell 4 29] [(0,bN J),(1,.slice (ab.map ax))] Tryz.func38 rfl rfl X3 (le_of_ble_eq_true rfl) X2 rfl rfl λb4 aE b3=>?_;refine aI ?_;obtain⟨ah,aY,h⟩:=aJ h;refine c0 (cx [(2,.aK (bN J)),(3,.aK (.slice (ab.map ax))),(4,.aK (.agg [.int .i64 0,.aN,.aN])),(5,.aK (eC ah))] (λP bm=>?_) ?_)
 ·(try simp only[X0.down,simprocAttr]);refine dv (aau J J ab _ aY) rfl rfl (by simp only[X0.down,simprocAttr,MY.down]<;>rfl) rfl (inr (yC _)) ?_;simp only[X0.down,simprocAttr];exact cu trivial
 refine aI ?_;refine aI ?_;refine aU aE λ_ dP dF bp=>aI ?_;refine bM dF λph _ h9 dw _=>?_;have aaw:∀n ns ox,vK J ab ah n ns ox=some r->da aq MM ph (ar [(2,.aK (bN J)),(3,.aK (.slice (ab.map ax))),(4,.aK (.agg [.int .i64 0,.aN,.aN])),(5,.aK (.agg [.int .i64 (ab.length:Int),.ag 1 (ns.map ax),.ag 5 (ah.bu.map cJ)])),(20,.slice (ab.map ax)),(21,.int .i64 (ab.length:Int)),(22,.int .i64 ox)]):=by
  refine dz λ_ aax ns ox h=>dy h9 λ_ dY dA dV=>aI ?_;refine aU dA λ_ dK _ iv=>a_ h (λhr h=>?_) λhr h=>?_
  .refine bf (dK _ (inl (aU dA λ_ ji mQ _=>bM mQ λ_ gO _ _ _=>?_)));obtain⟨aA,dr,h⟩:=aJ h;refine cR dr _ ?_;obtain⟨aL,gD,h⟩:=aJ h;obtain⟨aeU,eS,h⟩:=aJ h;(try simp only[jg.down,Nat.zero_add,Nat.add_zero,reduceAdd]at eS);refine MR (ad gD (ad (show∀s,eu aq s 22 1 [(0,.int .i64 aL)]=some (.ag 1 [.int .i64 aL],s)from λs=>by kernel_rfl) (ad (@hS aq 22 22 2 rfl rfl) (ad @hT (ad @hU (ad @hd (ad @hR (ad @all_nil (ad eS (@hc _ ax 1 λ_=>rfl)))))))))) [(2,.aK (bN J)),(3,.aK (.slice (ab.map ax))),(4,.aK (.agg [.int .i64 0,.aN,.aN])),(5,.aK (.agg [.int .i64 (ab.length:Int),.ag 1 ((ns++[aL]).map ax),.ag 5 (ah.bu.map cJ)])),(20,.slice (ab.map ax)),(21,.int .i64 (ab.length:Int)),(22,.int .i64 ox)] ?_;refine gO _ (ji _ (inl (wr [(2,.aK (bN J)),(3,.aK (.slice (ab.map ax))),(4,.aK (.agg [.int .i64 0,.aN,.aN])),(5,.aK (.agg [.int .i64 (ab.length:Int),.ag 1 ((ns++[aL]).map ax),.ag 5 (ah.bu.map cJ)])),(20,.slice (ab.map ax)),(21,.int .i64 (ab.length:Int)),(22,.int .i64 (i64.wrap (ox+1)))] ?_)));exact dY _ (inr ⟨_,cp rfl,aax (ns++[aL]) (i64.wrap (ox+1)) h⟩)
  .refine dx (iv 0 _ (dV 0 _ (dw _ (dP _ (inl (aU aE λ_ nx ny _=>aI ?_))))));refine bM ny λG9 _ yP jw _=>?_;have GZ:∀n fa hE eK,q4 ab ah n fa hE eK=some r->da aq MO G9 (ar [(3,.aK (.slice (ab.map ax))),(4,.aK (.agg [.int .i64 0,.aN,.aN])),(5,.aK (.agg [.int .i64 (ab.length:Int),.ag 1 (fa.map ax),.ag 5 (hE.map cJ)])),(38,.h 5 [0,2]),(39,.int .i64 (ah.bu.length:Int)),(40,.int .i64 eK)]):=by
    refine dz λG0 G1 fa hE eK h=>dy yP λ_ rb pc G_=>aI ?_;refine aU pc λ_ yT _ Ha=>a_ h (λk7 h=>?_) λk7 h=>?_
    .refine bf (yT _ (inl (aU pc λ_ pf tV _=>bM tV λ_ Hb aay _ _=>?_)));obtain⟨aQ,km,h⟩:=aJ h;refine UO [(3,.aK (.slice (ab.map ax))),(4,.aK (.agg [.int .i64 0,.aN,.aN])),(5,.aK (.agg [.int .i64 (ab.length:Int),.ag 1 (fa.map ax),.ag 5 (List.set (List.map cJ hE) (Int.toNat eK) (.agg [.ag 1 (aQ.br.map ax),.ag 2 (aQ.Guard.map aS),.str aQ.Name,.ag 1 (aQ.bD.map dg),.hole]))])),(8,.int .i64 eK),(9,.aK (.agg [.hole,.hole,.str aQ.Name,.hole,.ag 1 (aQ.Next.map dg)])),(38,.h 5 [0,2]),(39,.int .i64 (ah.bu.length:Int)),(40,.int .i64 eK)] (λP bm=>?_) ?_
     ·(try simp only[X0.down,simprocAttr,km,cB km]);refine UQ (by simp only[X0.down,simprocAttr,km,cB km,UP,e5,I.eb];rfl) ?_;simp only[X0.down,simprocAttr,km,cB km,Kf];exact cu (ad km (cB km))
     refine ws [(3,.aK (.slice (ab.map ax))),(4,.aK (.agg [.int .i64 0,.aN,.aN])),(5,.aK (.agg [.int .i64 (ab.length:Int),.ag 1 (fa.map ax),.ag 5 (List.set (List.map cJ hE) (Int.toNat eK) (.agg [.ag 1 (aQ.br.map ax),.ag 2 (aQ.Guard.map aS),.str aQ.Name,.ag 1 (aQ.bD.map dg),.hole]))])),(8,.int .i64 eK),(9,.aK (.agg [.hole,.hole,.str aQ.Name,.hole,.ag 1 (aQ.Next.map dg)])),(10,.aN),(38,.h 5 [0,2]),(39,.int .i64 (ah.bu.length:Int)),(40,.int .i64 eK)] ?_;refine aU aay λ_ yQ aaz _=>ws [(3,.aK (.slice (ab.map ax))),(4,.aK (.agg [.int .i64 0,.aN,.aN])),(5,.aK (.agg [.int .i64 (ab.length:Int),.ag 1 (fa.map ax),.ag 5 (List.set (List.map cJ hE) (Int.toNat eK) (.agg [.ag 1 (aQ.br.map ax),.ag 2 (aQ.Guard.map aS),.str aQ.Name,.ag 1 (aQ.bD.map dg),.hole]))])),(8,.int .i64 eK),(9,.aK (.agg [.hole,.hole,.str aQ.Name,.hole,.ag 1 (aQ.Next.map dg)])),(10,.aN),(38,.h 5 [0,2]),(39,.int .i64 (ah.bu.length:Int)),(40,.int .i64 eK),(45,.slice (ab.map ax)),(46,.int .i64 (ab.length:Int)),(47,.int .i64 0)] ?_;refine bM aaz λaaA _ G4 aaB _=>?_;have aaC:∀n nr k3 l7,vJ (q4 ab ah G0) ab fa eK hE ah aQ n nr k3 l7=some r->da aq MN aaA (ar [(3,.aK (.slice (ab.map ax))),(4,.aK (.agg [.int .i64 0,.aN,.aN])),(5,.aK (.agg [.int .i64 (ab.length:Int),.ag 1 (fa.map ax),.ag 5 (List.set (List.map cJ hE) (Int.toNat eK) (.agg [.ag 1 (aQ.br.map ax),.ag 2 (aQ.Guard.map aS),.str aQ.Name,.ag 1 (aQ.bD.map dg),.hole]))])),(8,.int .i64 eK),(9,.aK (.agg [.hole,.hole,.str aQ.Name,.hole,.ag 1 (nr.map qa)])),(10,.ag 1 (k3.map dg)),(38,.h 5 [0,2]),(39,.int .i64 (ah.bu.length:Int)),(40,.int .i64 eK),(45,.slice (ab.map ax)),(46,.int .i64 (ab.length:Int)),(47,.int .i64 l7)]):=by
      refine dz λ_ aaD nr k3 l7 h=>dy G4 λ_ aaE NG aaF=>ws [(3,.aK (.slice (ab.map ax))),(4,.aK (.agg [.int .i64 0,.aN,.aN])),(5,.aK (.agg [.int .i64 (ab.length:Int),.ag 1 (fa.map ax),.ag 5 (List.set (List.map cJ hE) (Int.toNat eK) (.agg [.ag 1 (aQ.br.map ax),.ag 2 (aQ.Guard.map aS),.str aQ.Name,.ag 1 (aQ.bD.map dg),.hole]))])),(8,.int .i64 eK),(9,.aK (.agg [.hole,.hole,.str aQ.Name,.hole,.ag 1 (nr.map qa)])),(10,.ag 1 (k3.map dg)),(38,.h 5 [0,2]),(39,.int .i64 (ah.bu.length:Int)),(40,.int .i64 eK),(45,.slice (ab.map ax)),(46,.int .i64 (ab.length:Int)),(47,.int .i64 l7),(48,.bool (decide (l7<(ab.length:Int))))] ?_;refine aU NG λ_ G5 _ G6=>a_ h (λjP h=>?_) λjP h=>?_
      .refine bf (G5 _ (inl (aU NG λ_ aaG aaH _=>bM aaH λ_ aaI _ _ _=>?_)));obtain⟨aZ,BV,h⟩:=aJ h;refine cR BV [(3,.aK (.slice (ab.map ax))),(4,.aK (.agg [.int .i64 0,.aN,.aN])),(5,.aK (.agg [.int .i64 (ab.length:Int),.ag 1 (fa.map ax),.ag 5 (List.set (List.map cJ hE) (Int.toNat eK) (.agg [.ag 1 (aQ.br.map ax),.ag 2 (aQ.Guard.map aS),.str aQ.Name,.ag 1 (aQ.bD.map dg),.hole]))])),(8,.int .i64 eK),(9,.aK (.agg [.hole,.hole,.str aQ.Name,.hole,.ag 1 (nr.map qa)])),(10,.ag 1 (k3.map dg)),(12,.int .i64 aZ),(38,.h 5 [0,2]),(39,.int .i64 (ah.bu.length:Int)),(40,.int .i64 eK),(45,.slice (ab.map ax)),(46,.int .i64 (ab.length:Int)),(47,.int .i64 l7)] ?_;obtain⟨bp,qh,h⟩:=aJ h;obtain⟨aaJ,BZ,h⟩:=aJ h;obtain⟨aaJ,tX,h⟩:=aJ h;(try simp only[q9.down,Nat.zero_add,Nat.add_zero,reduceAdd]at tX);refine iW (cx [(3,.aK (.slice (ab.map ax))),(4,.aK (.agg [.int .i64 0,.aN,.aN])),(5,.aK (.agg [.int .i64 (ab.length:Int),.ag 1 (fa.map ax),.ag 5 (List.set (List.map cJ hE) (Int.toNat eK) (.agg [.ag 1 (aQ.br.map ax),.ag 2 (aQ.Guard.map aS),.str aQ.Name,.ag 1 (aQ.bD.map dg),.hole]))])),(8,.int .i64 eK),(9,.aK (.agg [.hole,.hole,.str aQ.Name,.hole,.ag 1 ((List.set nr (Int.toNat aZ) (true,bp.2)).map qa)])),(10,.ag 1 ((k3++[bp.2]).map dg)),(38,.h 5 [0,2]),(39,.int .i64 (ah.bu.length:Int)),(40,.int .i64 eK),(45,.slice (ab.map ax)),(46,.int .i64 (ab.length:Int)),(47,.int .i64 l7)] (λP bm=>?_) ?_)
       .simp only[X0.down,simprocAttr,qh,cB qh,MZ.down,(MB BZ),f_,cT,tX];(try simp only[hf.down,simprocAttr,qh,cB qh,MZ.down,(MB BZ),f_,cT,tX]at bm⊢);exact bm
       refine aaI _ (aaG _ (inl (wr [(3,.aK (.slice (ab.map ax))),(4,.aK (.agg [.int .i64 0,.aN,.aN])),(5,.aK (.agg [.int .i64 (ab.length:Int),.ag 1 (fa.map ax),.ag 5 (List.set (List.map cJ hE) (Int.toNat eK) (.agg [.ag 1 (aQ.br.map ax),.ag 2 (aQ.Guard.map aS),.str aQ.Name,.ag 1 (aQ.bD.map dg),.hole]))])),(8,.int .i64 eK),(9,.aK (.agg [.hole,.hole,.str aQ.Name,.hole,.ag 1 ((List.set nr (Int.toNat aZ) (true,bp.2)).map qa)])),(10,.ag 1 ((k3++[bp.2]).map dg)),(38,.h 5 [0,2]),(39,.int .i64 (ah.bu.length:Int)),(40,.int .i64 eK),(45,.slice (ab.map ax)),(46,.int .i64 (ab.length:Int)),(47,.int .i64 (i64.wrap (l7+1)))] ?_)));exact aaE _ (inr ⟨_,cp rfl,aaD (List.set nr (Int.toNat aZ) (true,bp.2)) (k3++[bp.2]) (i64.wrap (l7+1)) h⟩)
      .refine dx (G6 4 _ (aaF 4 _ (aaB _ (yQ _ (inl ?_)))));obtain⟨bV,r9,h⟩:=aJ h;refine iW (cx [(3,.aK (.slice (ab.map ax))),(4,.aK (.agg [.int .i64 0,.aN,.aN])),(5,.aK (.agg [.int .i64 (ab.length:Int),.ag 1 (fa.map ax),.ag 5 ((List.set hE (Int.toNat eK) (bc.mk aQ.br aQ.Guard aQ.Name aQ.bD k3)).map cJ)])),(38,.h 5 [0,2]),(39,.int .i64 (ah.bu.length:Int)),(40,.int .i64 eK)] (λP bm=>?_) ?_)
       .simp only[X0.down,simprocAttr,r9,cB r9,(tk (cB r9)),tl,(Me r9),e5,dj,Lx,Ly];exact cu (ad r9 (ad (cB r9) (ad (tk (cB r9)) (ad @tl (ad (Me r9) (ad @e5 (ad @Lx @Ly)))))))
       refine Hb _ (pf _ (inl (wr [(3,.aK (.slice (ab.map ax))),(4,.aK (.agg [.int .i64 0,.aN,.aN])),(5,.aK (.agg [.int .i64 (ab.length:Int),.ag 1 (fa.map ax),.ag 5 ((List.set hE (Int.toNat eK) (bc.mk aQ.br aQ.Guard aQ.Name aQ.bD k3)).map cJ)])),(38,.h 5 [0,2]),(39,.int .i64 (ah.bu.length:Int)),(40,.int .i64 (i64.wrap (eK+1)))] ?_)));exact rb _ (inr ⟨_,cp rfl,G1 fa (List.set hE (Int.toNat eK) (bc.mk aQ.br aQ.Guard aQ.Name aQ.bD k3)) (i64.wrap (eK+1)) h⟩)
     obtain⟨n,h⟩:=jl h;exact kE (inr ⟨_,jc [5] rfl (cP (t:=3) (d:=.aK (.slice (ab.map ax))) rfl (cP (t:=4) (d:=.aK (.agg [.int .i64 0,.aN,.aN])) rfl (cP (t:=5) (d:=.aK (.agg [.int .i64 (ab.length:Int),.ag 1 (fa.map ax),.ag 5 (List.set (List.map cJ hE) (Int.toNat eK) (.agg [.ag 1 (aQ.br.map ax),.ag 2 (aQ.Guard.map aS),.str aQ.Name,.ag 1 (aQ.bD.map dg),.hole]))])) rfl (cP (t:=8) (d:=.int .i64 eK) rfl (im (t:=9) (d:=.aK (.agg [.hole,.hole,.str aQ.Name,.hole,.ag 1 (aQ.Next.map dg)])) (bh:=.aK (.agg [.hole,.hole,.str aQ.Name,.hole,.ag 1 ((List.map (λx=>(false,x)) aQ.Next).map qa)])) rfl rfl (.aK (.agg (.cons (.refl _) (.cons (.refl _) (.cons (.refl _) (.cons (.refl _) (.cons (T4 MA _) (.nil)))))))) (by decide) (im (t:=10) (d:=.aN) (bh:=.ag 1 []) rfl rfl (.gM _) (by decide) (cP (t:=38) (d:=.h 5 [0,2]) rfl (cP (t:=39) (d:=.int .i64 (ah.bu.length:Int)) rfl (cP (t:=40) (d:=.int .i64 eK) rfl (cP (t:=45) (d:=.slice (ab.map ax)) rfl (cP (t:=46) (d:=.int .i64 (ab.length:Int)) rfl (cP (t:=47) (d:=.int .i64 0) rfl (jd))))))))))))),aaC n (List.map (λx=>(false,x)) aQ.Next) [] 0 h⟩)
    .exact dx (Ha 2 _ (G_ 2 _ (jw _ (nx _ (inl (bn aE [eC (bg.mk (ab.length:Int) fa hE)]))))))
   exact eV h λn h=>GZ n ns ah.bu 0 h
 obtain⟨n,h⟩:=jl h;exact kE (inr ⟨_,jc [] rfl (cP (t:=2) (d:=.aK (bN J)) rfl (cP (t:=3) (d:=.aK (.slice (ab.map ax))) rfl (cP (t:=4) (d:=.aK (.agg [.int .i64 0,.aN,.aN])) rfl (im (t:=5) (d:=.aK (.agg [.int .i64 (ab.length:Int),.aN,.ag 5 (ah.bu.map cJ)])) (bh:=.aK (.agg [.int .i64 (ab.length:Int),.ag 1 [],.ag 5 (ah.bu.map cJ)])) rfl rfl (.aK (.agg (.cons (.refl _) (.cons (.gM _) (.cons (.refl _) (.nil)))))) (by decide) (cP (t:=20) (d:=.slice (ab.map ax)) rfl (cP (t:=21) (d:=.int .i64 (ab.length:Int)) rfl (cP (t:=22) (d:=.int .i64 0) rfl (jd)))))))),aaw n [] 0 h⟩)
theorem NH (J r) (h:yn J=some r):bk aq 9 [bN J] (.tuple [eC r.1,.ag 1 (r.2.1.map ax),.int .i64 r.2.2]) []:=by
 refine b6 [0] [.cell 2 29,.tmp 3,.tmp 4] Tryz.func9 DK λb4 aE b3=>aI ?_;refine aU aE λ_ b9 bx aA=>?_;obtain⟨ah,b1,h⟩:=aJ h;refine dq (ZV J _ b1) _ ?_;refine a_ h (λde h=>?_) λde h=>?_
 .refine cR (show∀s,fl aq s 29 []=some (.agg [.int .i64 0,.aN,.aN],s)from λs=>by kernel_rfl) _ ?_;exact lW (bx _ (inr ⟨[(2,.aK (eC (bg.mk 0 [] []))),(3,.ag 1 []),(4,.int .i64 1)],jc [] rfl (im (t:=2) (d:=.aK (.agg [.int .i64 0,.aN,.aN])) rfl rfl (.aK (.agg (.cons (.refl _) (.cons (.gM _) (.cons (.gM _) (.nil)))))) (by decide) (im (t:=3) (d:=.aN) rfl rfl (.gM _) (by decide) (cP rfl (jd)))),u2 [eC (bg.mk 0 [] []),.ag 1 [],.int .i64 1]⟩))
 .refine bf (b9 _ (inl ?_));obtain⟨aA,gI,h⟩:=aJ h;refine dq (aal J _ gI) _ ?_;obtain⟨aL,jC,h⟩:=aJ h;refine c0 (cx [(1,.aK (bN J)),(2,.aK (.agg [.int .i64 0,.aN,.aN])),(5,.aK (.ag 1 (aA.map ax))),(6,.ag 1 (aL.map ax))] (λP bm=>?_) ?_)
  ·(try simp only[X0.down,simprocAttr]);refine dv (aaq J aA _ jC) rfl rfl (by simp only[X0.down,simprocAttr,v3.down]<;>rfl) rfl (inr (il (λ_=>q7 _) _)) ?_;simp only[X0.down,simprocAttr];exact cu trivial
  obtain⟨aQ,dM,h⟩:=aJ h;obtain⟨aZ,dT,h⟩:=aJ h;refine c0 (cx [(2,.aK (eC aZ)),(3,.ag 1 (aL.map ax)),(4,.int .i64 0)] (λP bm=>?_) ?_)
  ·(try simp only[X0.down,simprocAttr]);refine dv (aar J J aA _ dM) rfl rfl (by simp only[X0.down,simprocAttr,MY.down]<;>rfl) rfl (inr (yC _)) ?_;simp only[X0.down,simprocAttr];refine dv (aav aQ aL _ dT) rfl rfl (by simp only[X0.down,simprocAttr,ik,iq,ir,d_, @cN _ ax ax (λ_=>gN _), @cN _ cJ cD (λ_=>q8 _), @cN _ ax ax (λ_=>gN _)]<;>rfl) rfl (inr (yC _)) ?_;simp only[X0.down,simprocAttr];exact cu trivial
  exact cC aE [eC aZ,.ag 1 (aL.map ax),.int .i64 0]
theorem r_ (J ab r) (h:r5 J ab=some r):bk aq 11 [.slice (J.map ax),.slice (ab.map ax)] (.bool r) []:=by
 refine b6 [0,1] [.tmp 4] Tryz.func11 X4 λb4 aE b3=>aI ?_;refine aU aE λ_ b9 bx aA=>aI ?_;refine a_ h (λcG h=>?_) λcG h=>?_
 .exact bn bx [.bool false]
 .refine bf (b9 _ (inl (aU aE λ_ dP dF _=>aI ?_)));refine bM dF λph _ h9 dw _=>?_;show bj aq (.loop ?nu) _ _;have nD:∀n e8,Gb J ab n e8=some r->da aq ?nu ph (ar [(0,.slice (J.map ax)),(1,.slice (ab.map ax)),(5,.int .i64 e8)]):=by
   refine dz λ_ mP e8 h=>dy h9 λ_ dY dA dV=>aU dA λ_ cK _ eo=>aI ?_;refine a_ h (λhr h=>?_) λhr h=>?_
   .refine bf (cK _ (inl (aU dA λ_ ji mQ _=>bM mQ λ_ gO gv _ _=>?_)));obtain⟨ah,dr,h⟩:=aJ h;obtain⟨aA,h8,h⟩:=aJ h;refine yI (ad dr h8) _ ?_;refine a_ h (λk6 h=>?_) λk6 h=>?_
    .exact bn gv [.bool false]
    .refine bf (gO _ (ji _ (inl (fq ?_))));exact dY _ (inr ⟨_,cp rfl,mP (i64.wrap (e8+1)) h⟩)
   .exact dx (eo 0 _ (dV 0 _ (dw _ (dP _ (inl (bn aE [.bool true]))))))
  exact eV h λn h=>nD n 0 h
theorem aaK (J ab r) (h:yo J ab=some r):bk aq 162 [aS J,aS ab] (.bool r) []:=by
 refine b6 [0,1] [.tmp 4] Tryz.func162 X5 λb4 aE b3=>aI ?_;refine aU aE λ_ b9 bx _=>aI ?_;refine a_ h (λcG h=>?_) λcG h=>?_
 .exact bn bx [.bool false]
 .refine bf (b9 _ (inl (aU aE λ_ dP dF _=>aI ?_)));refine a_ h (λdw h=>?_) λdw h=>?_
  .exact bn dF [.bool false]
  .exact bf (dP _ (inl (bn aE [.bool true])))
theorem NI (J ab r) (h:vL J ab=some r):bk aq 125 [.slice (J.map aS),.slice (ab.map aS)] (.bool r) []:=by
 refine b6 [0,1] [.tmp 4] Tryz.func125 X6 λb4 aE b3=>aI ?_;refine aU aE λ_ b9 bx aA=>aI ?_;refine a_ h (λcG h=>?_) λcG h=>?_
 .exact bn bx [.bool false]
 .refine bf (b9 _ (inl (aU aE λ_ dP dF _=>aI ?_)));refine bM dF λph _ h9 dw _=>?_;show bj aq (.loop ?nu) _ _;have nD:∀n e8,Gc J ab n e8=some r->da aq ?nu ph (ar [(0,.slice (J.map aS)),(1,.slice (ab.map aS)),(5,.int .i64 e8)]):=by
   refine dz λ_ mP e8 h=>dy h9 λ_ dY dA dV=>aU dA λ_ cK _ eo=>aI ?_;refine a_ h (λhr h=>?_) λhr h=>?_
   .refine bf (cK _ (inl (aU dA λ_ ji mQ _=>bM mQ λ_ gO gv _ _=>?_)));obtain⟨ah,dr,h⟩:=aJ h;obtain⟨aA,h8,h⟩:=aJ h;obtain⟨aL,gD,h⟩:=aJ h;refine qb (ad dr h8) (aaK ah aA _ gD) _ ?_;refine a_ h (λgE h=>?_) λgE h=>?_
    .exact bn gv [.bool false]
    .refine bf (gO _ (ji _ (inl (fq ?_))));exact dY _ (inr ⟨_,cp rfl,mP (i64.wrap (e8+1)) h⟩)
   .exact dx (eo 0 _ (dV 0 _ (dw _ (dP _ (inl (bn aE [.bool true]))))))
  exact eV h λn h=>nD n 0 h
theorem NJ (J ab r) (h:yp J ab=some r):bk aq 126 [.slice (J.map df),.slice (ab.map df)] (.bool r) []:=by
 refine b6 [0,1] [.tmp 4] Tryz.func126 X7 λb4 aE b3=>aI ?_;refine aU aE λ_ b9 bx aA=>aI ?_;refine a_ h (λcG h=>?_) λcG h=>?_
 .exact bn bx [.bool false]
 .refine bf (b9 _ (inl (aU aE λ_ dP dF _=>aI ?_)));refine bM dF λph _ h9 dw _=>?_;show bj aq (.loop ?nu) _ _;have nD:∀n e8,Gd J ab n e8=some r->da aq ?nu ph (ar [(0,.slice (J.map df)),(1,.slice (ab.map df)),(5,.int .i64 e8)]):=by
   refine dz λ_ mP e8 h=>dy h9 λ_ dY dA dV=>aU dA λ_ cK _ eo=>aI ?_;refine a_ h (λhr h=>?_) λhr h=>?_
   .refine bf (cK _ (inl (aU dA λ_ ji mQ _=>bM mQ λ_ gO gv _ _=>?_)));obtain⟨ah,dr,h⟩:=aJ h;obtain⟨aA,h8,h⟩:=aJ h;obtain⟨aL,gD,h⟩:=aJ h;refine qb (ad dr h8) (NI ah aA _ gD) _ ?_;refine a_ h (λgE h=>?_) λgE h=>?_
    .exact bn gv [.bool false]
    .refine bf (gO _ (ji _ (inl (fq ?_))));exact dY _ (inr ⟨_,cp rfl,mP (i64.wrap (e8+1)) h⟩)
   .exact dx (eo 0 _ (dV 0 _ (dw _ (dP _ (inl (bn aE [.bool true]))))))
  exact eV h λn h=>nD n 0 h
theorem aaL (J ab r) (h:yq J ab=some r):bk aq 83 [cD J,cD ab] (.bool r) []:=by
 refine b6 [0,1] [.tmp 4] Tryz.func83 X8 λb4 aE b3=>aI ?_;refine aU aE λ_ b9 bx aA=>?_;obtain⟨ah,b1,h⟩:=aJ h;refine dq (r_ J.br ab.br _ b1) _ ?_;refine a_ h (λde h=>?_) λde h=>?_
 .exact bn bx [.bool false]
 .refine bf (b9 _ (inl (aU aE λ_ eR fe _=>?_)));obtain⟨aA,iS,h⟩:=aJ h;refine dq (NI J.Guard ab.Guard _ iS) _ ?_;refine a_ h (λhg h=>?_) λhg h=>?_
  .exact bn fe [.bool false]
  .refine bf (eR _ (inl (aU aE λ_ hs yK _=>aI ?_)));refine a_ h (λhH h=>?_) λhH h=>?_
   .exact bn yK [.bool false]
   .refine bf (hs _ (inl (aU aE λ_ nA nB _=>?_)));obtain⟨aL,gD,h⟩:=aJ h;refine dq (NJ J.bD ab.bD _ gD) _ ?_;refine a_ h (λgE h=>?_) λgE h=>?_
    .exact bn nB [.bool false]
    .refine bf (nA _ (inl (aU aE λ_ nx ny _=>?_)));obtain⟨aQ,lB,h⟩:=aJ h;refine dq (NJ J.Next ab.Next _ lB) _ ?_;refine a_ h (λqe h=>?_) λqe h=>?_
     .exact bn ny [.bool false]
     .exact bf (nx _ (inl (bn aE [.bool true])))
theorem aaM (J ab r) (h:BF J ab=some r):bk aq 39 [.slice (J.map cD),.slice (ab.map cD)] (.bool r) []:=by
 refine b6 [0,1] [.tmp 4] Tryz.func39 X9 λb4 aE b3=>aI ?_;refine aU aE λ_ b9 bx aA=>aI ?_;refine a_ h (λcG h=>?_) λcG h=>?_
 .exact bn bx [.bool false]
 .refine bf (b9 _ (inl (aU aE λ_ dP dF _=>aI ?_)));refine bM dF λph _ h9 dw _=>?_;show bj aq (.loop ?nu) _ _;have nD:∀n e8,Ge J ab n e8=some r->da aq ?nu ph (ar [(0,.slice (J.map cD)),(1,.slice (ab.map cD)),(5,.int .i64 e8)]):=by
   refine dz λ_ mP e8 h=>dy h9 λ_ dY dA dV=>aU dA λ_ cK _ eo=>aI ?_;refine a_ h (λhr h=>?_) λhr h=>?_
   .refine bf (cK _ (inl (aU dA λ_ ji mQ _=>bM mQ λ_ gO gv _ _=>?_)));obtain⟨ah,dr,h⟩:=aJ h;obtain⟨aA,h8,h⟩:=aJ h;obtain⟨aL,gD,h⟩:=aJ h;refine qb (ad dr h8) (aaL ah aA _ gD) _ ?_;refine a_ h (λgE h=>?_) λgE h=>?_
    .exact bn gv [.bool false]
    .refine bf (gO _ (ji _ (inl (fq ?_))));exact dY _ (inr ⟨_,cp rfl,mP (i64.wrap (e8+1)) h⟩)
   .exact dx (eo 0 _ (dV 0 _ (dw _ (dP _ (inl (bn aE [.bool true]))))))
  exact eV h λn h=>nD n 0 h
theorem qj (J ab r) (h:tH J ab=some r):bk aq 10 [bN J,bN ab] (.bool r) []:=by
 refine b6 [0,1] [.tmp 4] Tryz.func10 yG λb4 aE b3=>aI ?_;refine aU aE λ_ b9 bx aA=>aI ?_;refine a_ h (λcG h=>?_) λcG h=>?_
 .exact bn bx [.bool false]
 .refine bf (b9 _ (inl (aU aE λ_ dP dF _=>?_)));obtain⟨ah,gI,h⟩:=aJ h;refine dq (r_ J.Start ab.Start _ gI) _ ?_;refine a_ h (λfM h=>?_) λfM h=>?_
  .exact bn dF [.bool false]
  .refine bf (dP _ (inl (aU aE λ_ dK fc _=>?_)));obtain⟨aA,dT,h⟩:=aJ h;refine dq (aaM J.bu ab.bu _ dT) _ ?_;refine a_ h (λhH h=>?_) λhH h=>?_
   .exact bn fc [.bool false]
   .exact bf (dK _ (inl (bn aE [.bool true])))
theorem Hi (J ab r) (h:vN J ab=some r):bk aq 13 [.ag 1 (J.map ax),.int .i64 ab] (.int .i64 r.1) [.ag 1 (r.2.map ax),.hole]:=by
 refine b6 [0] [.tmp 4] Tryz.func13 X_ λb4 aE b3=>aI ?_;refine aU aE λ_ b9 bx _=>aI ?_;refine bM bx λfO _ bR cG _=>?_;show bj aq (.loop ?fg) _ _;have ga:∀n dk bS bd,vM n dk bS bd=some r->da aq ?fg fO (ar [(0,.ag 1 (dk.map ax)),(1,.int .i64 bS),(5,.int .i64 bd)]):=by
  refine dz λ_ fT dk bS bd h=>dy bR λ_ eW cQ aZ=>aU cQ λ_ dP _ bp=>aI ?_;refine a_ h (λdw h=>?_) λdw h=>?_
  .refine bf (dP _ (inl (aU cQ λ_ dY dA _=>bM dA λ_ cK _ _ _=>?_)));obtain⟨ah,dM,h⟩:=aJ h;refine c0 (cx [(0,.ag 1 ((List.set dk (Int.toNat bd) bS).map ax)),(1,.int .i64 bS),(5,.int .i64 bd)] (λP bm=>?_) ?_)
   .simp only[X0.down,simprocAttr,dM,cB dM,e5,dj];exact cu (ad dM (ad (cB dM) @e5))
   refine wr [(0,.ag 1 ((List.set dk (Int.toNat bd) bS).map ax)),(1,.int .i64 (i64.wrap (bS+1))),(5,.int .i64 bd)] ?_;refine cK _ (dY _ (inl (wr [(0,.ag 1 ((List.set dk (Int.toNat bd) bS).map ax)),(1,.int .i64 (i64.wrap (bS+1))),(5,.int .i64 (i64.wrap (bd+1)))] ?_)));exact eW _ (inr ⟨_,cp rfl,fT (List.set dk (Int.toNat bd) bS) (i64.wrap (bS+1)) (i64.wrap (bd+1)) h⟩)
  .refine dx (bp 0 _ (aZ 0 _ (cG _ (b9 _ (inl (aI ?_))))));exact lW (aE _ (inl (pS [.int .i64 bS] rfl (by cases kM h;rfl) (by decide) (qR (xE (by cases kM h;rfl) rfl rfl rfl (m8 (qS)))))))
 exact eV h λn h=>ga n J ab 0 h
theorem NK (J ab r) (h:yr J ab=some r):bk aq 84 [.ag 2 (J.map aS),.int .i64 ab] (.int .i64 r.1) [.ag 2 (r.2.map aS),.hole]:=by
 refine b6 [0] [.tmp 4] Tryz.func84 Ya λb4 aE b3=>aI ?_;refine aU aE λ_ b9 bx aA=>aI ?_;refine bM bx λfO _ bR cG _=>?_;show bj aq (.loop ?fg) _ _;have ga:∀n dk bS bd,vO n dk bS bd=some r->da aq ?fg fO (ar [(0,.ag 2 (dk.map aS)),(1,.int .i64 bS),(5,.int .i64 bd)]):=by
  refine dz λ_ fT dk bS bd h=>dy bR λ_ eW cQ aZ=>aU cQ λ_ dP _ bp=>aI ?_;refine a_ h (λdw h=>?_) λdw h=>?_
  .refine bf (dP _ (inl (aU cQ λ_ dY dA _=>bM dA λ_ cK _ _ _=>?_)));obtain⟨ah,dM,h⟩:=aJ h;refine c0 (cx [(0,.ag 2 ((List.set dk (Int.toNat bd) (aD.mk bS ah.Value)).map aS)),(1,.int .i64 bS),(5,.int .i64 bd)] (λP bm=>?_) ?_)
   .simp only[X0.down,simprocAttr,dM,cB dM,e5,dj];exact cu (ad dM (ad (cB dM) @e5))
   refine ws [(0,.ag 2 ((List.set dk (Int.toNat bd) (aD.mk bS ah.Value)).map aS)),(1,.int .i64 (i64.wrap (bS+1))),(5,.int .i64 bd)] ?_;obtain⟨aA,fi,h⟩:=aJ h;refine c0 (cx [(0,.ag 2 ((List.set (List.set dk (Int.toNat bd) (aD.mk bS ah.Value)) (Int.toNat bd) (aD.mk aA.Kind (i64.wrap (bS+1)))).map aS)),(1,.int .i64 (i64.wrap (bS+1))),(5,.int .i64 bd)] (λP bm=>?_) ?_)
   .simp only[X0.down,simprocAttr,fi,cB fi,e5,dj];exact cu (ad fi (ad (cB fi) @e5))
   refine wr [(0,.ag 2 ((List.set (List.set dk (Int.toNat bd) (aD.mk bS ah.Value)) (Int.toNat bd) (aD.mk aA.Kind (i64.wrap (bS+1)))).map aS)),(1,.int .i64 (i64.wrap ((i64.wrap (bS+1))+1))),(5,.int .i64 bd)] ?_;refine cK _ (dY _ (inl (wr [(0,.ag 2 ((List.set (List.set dk (Int.toNat bd) (aD.mk bS ah.Value)) (Int.toNat bd) (aD.mk aA.Kind (i64.wrap (bS+1)))).map aS)),(1,.int .i64 (i64.wrap ((i64.wrap (bS+1))+1))),(5,.int .i64 (i64.wrap (bd+1)))] ?_)));exact eW _ (inr ⟨_,cp rfl,fT (List.set (List.set dk (Int.toNat bd) (aD.mk bS ah.Value)) (Int.toNat bd) (aD.mk aA.Kind (i64.wrap (bS+1)))) (i64.wrap ((i64.wrap (bS+1))+1)) (i64.wrap (bd+1)) h⟩)
  .refine dx (bp 0 _ (aZ 0 _ (cG _ (b9 _ (inl (aI ?_))))));exact lW (aE _ (inl (pS [.int .i64 bS] rfl (by cases kM h;rfl) (by decide) (qR (xE (by cases kM h;rfl) rfl rfl rfl (m8 (qS)))))))
 exact eV h λn h=>ga n J ab 0 h
theorem NL (J r) (h:ys J=some r):bk aq 49 [.int .i64 J] (.str r) []:=by
 refine b6 [] [.tmp 2] Tryz.func49 Gy λb4 aE b3=>aI ?_;refine aU aE λ_ b9 bx _=>aI ?_;refine a_ h (λcG h=>?_) λcG h=>?_
 .exact bn bx [.str ([109,48]:nq)]
 .refine bf (b9 _ (inl (aI ?_)));refine aU aE λ_ eR fe _=>bM fe λph _ h9 dw _=>?_;have nD:∀n k4 fS,tI n k4 fS=some r->da aq MQ ph (ar [(0,.int .i64 k4),(3,.str fS)]):=by
   refine dz λ_ mP k4 fS h=>dy h9 λ_ dY dA dV=>aU dA λ_ cK _ eo=>aI ?_;refine a_ h (λhr h=>?_) λhr h=>?_
   .refine bf (cK _ (inl (bM dA λ_ ji _ _ _=>?_)));obtain⟨u16,fi,h⟩:=aJ h;(try simp only[jg.down,Nat.zero_add,Nat.add_zero,reduceAdd]at fi);refine cR (ad (@te .i64 10 (by decide)) (ad (@SZ aq 3 5 .u8 rfl rfl) (ad (show∀s,eu aq s 129 1 [(0,.int .u8 (u8.wrap (i64.wrap (48+(Int.tmod k4 10)))))]=some (.ag 1 [.int .u8 (u8.wrap (i64.wrap (48+(Int.tmod k4 10))))],s)from λs=>by kernel_rfl) (ad ((@S0 aq 129 9 5 rfl rfl rfl).2.2) (ad @S4 (ad @S3 (ad fi (ad @Ld @Le)))))))) [(0,.int .i64 k4),(3,.str ([(qq (i64.wrap (48+(Int.tmod k4 10))))]++fS))] ?_;refine k5 (@S5 .i64 10 (by decide)) [(0,.int .i64 (i64.wrap (Int.tdiv k4 10))),(3,.str ([(qq (i64.wrap (48+(Int.tmod k4 10))))]++fS))] ?_;exact ji _ (dY _ (inr ⟨_,cp rfl,mP (i64.wrap (Int.tdiv k4 10)) ([(qq (i64.wrap (48+(Int.tmod k4 10))))]++fS) h⟩))
   .refine dx (eo 0 _ (dV 0 _ (dw _ (eR _ (inl ?_)))));obtain⟨BS,gD,h⟩:=aJ h;(try simp only[jg.down,Nat.zero_add,Nat.add_zero,reduceAdd]at gD);refine cR (ad gD (ad @Ld @Le)) [(2,.str (([109]:nq)++fS))] ?_;exact cC aE [.str (([109]:nq)++fS)]
  exact eV h λn h=>nD n J ([]:nq) h
end Go.Proofs.YtndfcecbamffaaaGreat
