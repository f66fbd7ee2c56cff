/- Part of a proof that a law returns true for every input. No condition. -/
import Derived.Test.YtngohoaiimbacabGreatDoorSl
namespace Go.Proofs.YtngohoaiimbacabGreatDoor
open Option Go.IntKind Nat Or
open Go Go.c_ Go.lV
set_option maxRecDepth 100000
set_option maxHeartbeats 8800000
set_option linter.unusedSimpArgs false
set_option linter.unusedVariables false
theorem bA (fx:ahw) (eC:List ResultVar) {f:FuncId} {fn:Func} {ins outs:ahB} {r:I} (bd:al.P.funcs[f]? =some fn) (cX:aG)
 (Er:∀Q:Exit->aw->Prop,(∀s,dR (c_.Ends al fx eC r outs) s->Q .ret s)->(∀s,dR (c_.Ends al fx eC r outs) s->Q .normal s)->a_ al cX Q (ax (num 0 ins))) (U:eQ ⟨fn.ntmps,fx⟩ (fn.body.getD .skip)=some cX.strip:=by kernel_rfl) (R:fn.body=some (fn.body.getD .skip):=by rfl) (jX:(fn.name== "runtime.NumGoroutine")=false:=by rfl) (aU:ins.length<=fn.ntmps:=by exact le_of_ble_eq_true rfl) (gp:fn.results.toList=eC:=by rfl) (an:cX.plain=true:=by kernel_rfl):aX al f ins r outs:=
 aX.Fh Fk eC (num 0 ins) bd R jX U aU gp rfl Er an
theorem c7 {P:Nat->Prop} (s:∀m,P m->P (m+1)) (z:P 0:=by intros;rename_i h;cases(show none=some _ from h)):∀n,P n:=λn=>Nat.rec z s n
def Ho:=PLift.up (af @Vu (af @Vv (af @Vw (af @Vx (af @Vy (af @Vz (af @VA (af @VB (af @VC (af @VD (af @VE (af @VF (af @VG (af @VH (af @VI (af @VJ (af @VK (af @VL (af @VM (af @VN (af @VO (af @VP (af @VQ (af @VR (af @VS (af @VT (af @VU (af @VV (af @VW (af @VX (af @VY (af @VZ (af @V0 (af @V1 (af @V2 (af @V3 (af @kU.eq_1 (af @cA.eq_1 (af @ho.eq_1 (af @bU.eq_1 (af @cb.eq_1 (af @df.eq_1 (af @fk.eq_1 (af @fj.eq_1 (af @e0.eq_1 (af @ep.eq_1 (af @h1.eq_1 (af @h0.eq_1 (af @hH.eq_1 (af @ie.eq_1 (af @l0.eq_1 (af @kl.eq_1 (af @je.eq_1 (af @jd.eq_1 (af @bn.eq_1 (af @gd.eq_1 (af @fS.eq_1 (af @hn.eq_1 (af @eX.eq_1 (af @pN.eq_1 @jf.eq_1))))))))))))))))))))))))))))))))))))))))))))))))))))))))))))
def aS:=PLift.up (af Ve.down Ho.down)
def dX:=PLift.up (af Vf.down Ho.down)
def iL:=PLift.up (af Vg.down Ho.down)
theorem bZ {F A:Prop} (f:F) (h:F->A:=by intro a8;(try simp only[iL.down,simprocAttr,a8,cP,eW,eR,en,I.dU,I.shares]at bg⊢);exact bg):A:=h f
theorem wr {Q l ros k} (cd:ahA) (aq:Q .normal (ax cd)) (h:∀P:ahA->Prop,P cd->dj al (ax l) ros none (λ_ s=>P (gu k s)):=by
 intro P bg;simp only[aS.down,simprocAttr,cP,eW,eR,en];(try simp only[iL.down,simprocAttr,cP,eW,eR,en]at bg⊢);exact bg):a_ al (.fq ros (some k)) Q (ax l):=
 kg (ch cd (h) aq)
theorem dI {Q l ros k} {cd:ahA} (aq:Q .normal (ax cd)) (h:∀P:ahA->Prop,P cd->dj al (ax l) ros none (λ_ s=>P (gu k s)):=by
 intro P bg;simp only[aS.down,simprocAttr,cP,eW,eR,en];(try simp only[iL.down,simprocAttr,cP,eW,eR,en]at bg⊢);exact bg):a_ al (.fq ros (some k)) Q (ax l):=
 kg (ch cd (h) aq)
theorem NJ {Q l ros k g ds r} (ok:aX al g ds r []) (cd:ahA) (aq:Q .normal (ax cd)) (h:aX al g ds r []->∀P:ahA->Prop,P cd->dj al (ax l) ros none (λ_ s=>P (gu k s)):=by
 intro km P bg;(try simp only[aS.down,simprocAttr,cP,eW,eR,en]);(first|refine ey km rfl rfl rfl rfl (inl (by rfl)) ?_|refine hk km rfl rfl rfl rfl (inl (by rfl)) ?_);simp only[aS.down,simprocAttr,cP,eW,eR,en];(try simp only[iL.down,simprocAttr,cP,eW,eR,en]at bg⊢);exact bg):a_ al (.fq ros (some k)) Q (ax l):=
 kg (ch cd (h ok) aq)
theorem Hp {Q l ros k g ds r} {F:Prop} (a8:F) (ok:aX al g ds r []) (cd:ahA) (aq:Q .normal (ax cd)) (h:aX al g ds r []->F->∀P:ahA->Prop,P cd->dj al (ax l) ros none (λ_ s=>P (gu k s)):=by
 intro km a8 P bg;(try simp only[aS.down,simprocAttr,a8,cP,eW,eR,en]);(first|refine ey km rfl rfl rfl rfl (inl (by rfl)) ?_|refine hk km rfl rfl rfl rfl (inl (by rfl)) ?_);simp only[aS.down,simprocAttr,a8,cP,eW,eR,en];(try simp only[iL.down,simprocAttr,a8,cP,eW,eR,en]at bg⊢);exact bg):a_ al (.fq ros (some k)) Q (ax l):=
 kg (ch cd (h ok a8) aq)
theorem Zi {Q l ros k ew g ds r} {F:Prop} (a8:F) (ok:aX al g ds r []) (cd:ahA) (aq:Q .normal (ax cd)) (h:aX al g ds r []->F->∀P:ahA->Prop,P cd->dj al (ax l) ros (some []) (λacc s=>kf (nO ew) 0 [] (acc.getD []).reverse=true/\P (gu k s)):=by
 intro km a8 P bg;(try simp only[dX.down,simprocAttr,a8,cP,eW,eR,en]);(first|refine kG km rfl rfl rfl rfl (inl (by rfl)) ?_|refine jY km rfl rfl rfl rfl (inl (by rfl)) ?_);simp only[dX.down,simprocAttr,a8,cP,eW,eR,en];refine⟨jI (by kernel_rfl),?_⟩;(try simp only[iL.down,simprocAttr,a8,cP,eW,eR,en]at bg⊢);exact bg) (hl:ew.length=ros.length:=by rfl):a_ al (.iY ros ew (some k)) Q (ax l):=
 LO hl (jH cd (h ok a8) aq)
theorem vH {Q l ros k} {F:Prop} (a8:F) (cd:ahA) (aq:Q .normal (ax cd)) (h:F->∀P:ahA->Prop,P cd->dj al (ax l) ros none (λ_ s=>P (gu k s)):=by
 intro a8 P bg;simp only[aS.down,simprocAttr,a8,cP,eW,eR,en];(try simp only[iL.down,simprocAttr,a8,cP,eW,eR,en]at bg⊢);exact bg):a_ al (.fq ros (some k)) Q (ax l):=
 kg (ch cd (h a8) aq)
theorem ws {Q l ros k b} (cd:ahA) (aq:a_ al b Q (ax cd)) (h:∀P:ahA->Prop,P cd->dj al (ax l) ros none (λ_ s=>P (gu k s)):=by
 intro P bg;simp only[aS.down,simprocAttr,cP,eW,eR,en];(try simp only[iL.down,simprocAttr,cP,eW,eR,en]at bg⊢);exact bg):a_ al (.seq (.fq ros (some k)) b) Q (ax l):=
 dv (ch cd (h) aq)
theorem aj {Q l ros k b} {cd:ahA} (aq:a_ al b Q (ax cd)) (h:∀P:ahA->Prop,P cd->dj al (ax l) ros none (λ_ s=>P (gu k s)):=by
 intro P bg;simp only[aS.down,simprocAttr,cP,eW,eR,en];(try simp only[iL.down,simprocAttr,cP,eW,eR,en]at bg⊢);exact bg):a_ al (.seq (.fq ros (some k)) b) Q (ax l):=
 dv (ch cd (h) aq)
theorem aM {Q l ros k fx eC r} {cd:ahA} (kx:∀s,dR (c_.Ends al fx eC r []) s->Q .ret s) (ds:ahB) (h:∀P:ahA->Prop,P cd->dj al (ax l) ros none (λ_ s=>P (gu k s)):=by
 intro P bg;simp only[aS.down,simprocAttr,cP,eW,eR,en];(try simp only[iL.down,simprocAttr,cP,eW,eR,en]at bg⊢);exact bg) (ad:r=Ap ds:=by cases h7 (by assumption);rfl) (ab:eC.map (ow al (ax cd))=ds.map some:=by rfl) (aC:(eC.map iZ).Nodup:=by decide):a_ al (.seq (.fq ros (some k)) .ret) Q (ax l):=
 ws cd (dk kx ds ad ab aC) h
theorem cN {Q l ros k b g ds r} (ok:aX al g ds r []) (cd:ahA) (aq:a_ al b Q (ax cd)) (h:aX al g ds r []->∀P:ahA->Prop,P cd->dj al (ax l) ros none (λ_ s=>P (gu k s)):=by
 intro km P bg;(try simp only[aS.down,simprocAttr,cP,eW,eR,en]);(first|refine ey km rfl rfl rfl rfl (inl (by rfl)) ?_|refine hk km rfl rfl rfl rfl (inl (by rfl)) ?_);simp only[aS.down,simprocAttr,cP,eW,eR,en];(try simp only[iL.down,simprocAttr,cP,eW,eR,en]at bg⊢);exact bg):a_ al (.seq (.fq ros (some k)) b) Q (ax l):=
 dv (ch cd (h ok) aq)
theorem fc {Q l ros k b g ds r} {F:Prop} (a8:F) (ok:aX al g ds r []) (cd:ahA) (aq:a_ al b Q (ax cd)) (h:aX al g ds r []->F->∀P:ahA->Prop,P cd->dj al (ax l) ros none (λ_ s=>P (gu k s)):=by
 intro km a8 P bg;(try simp only[aS.down,simprocAttr,a8,cP,eW,eR,en]);(first|refine ey km rfl rfl rfl rfl (inl (by rfl)) ?_|refine hk km rfl rfl rfl rfl (inl (by rfl)) ?_);simp only[aS.down,simprocAttr,a8,cP,eW,eR,en];(try simp only[iL.down,simprocAttr,a8,cP,eW,eR,en]at bg⊢);exact bg):a_ al (.seq (.fq ros (some k)) b) Q (ax l):=
 dv (ch cd (h ok a8) aq)
theorem Zj {Q l ros k b ew g ds r} (ok:aX al g ds r []) (cd:ahA) (aq:a_ al b Q (ax cd)) (h:aX al g ds r []->∀P:ahA->Prop,P cd->dj al (ax l) ros (some []) (λacc s=>kf (nO ew) 0 [] (acc.getD []).reverse=true/\P (gu k s)):=by
 intro km P bg;(try simp only[dX.down,simprocAttr,cP,eW,eR,en]);(first|refine kG km rfl rfl rfl rfl (inl (by rfl)) ?_|refine jY km rfl rfl rfl rfl (inl (by rfl)) ?_);simp only[dX.down,simprocAttr,cP,eW,eR,en];refine⟨jI (by kernel_rfl),?_⟩;(try simp only[iL.down,simprocAttr,cP,eW,eR,en]at bg⊢);exact bg) (hl:ew.length=ros.length:=by rfl):a_ al (.seq (.iY ros ew (some k)) b) Q (ax l):=
 kh hl (jH cd (h ok) aq)
theorem k6 {Q l ros k b ew g ds r} {F:Prop} (a8:F) (ok:aX al g ds r []) (cd:ahA) (aq:a_ al b Q (ax cd)) (h:aX al g ds r []->F->∀P:ahA->Prop,P cd->dj al (ax l) ros (some []) (λacc s=>kf (nO ew) 0 [] (acc.getD []).reverse=true/\P (gu k s)):=by
 intro km a8 P bg;(try simp only[dX.down,simprocAttr,a8,cP,eW,eR,en]);(first|refine kG km rfl rfl rfl rfl (inl (by rfl)) ?_|refine jY km rfl rfl rfl rfl (inl (by rfl)) ?_);simp only[dX.down,simprocAttr,a8,cP,eW,eR,en];refine⟨jI (by kernel_rfl),?_⟩;(try simp only[iL.down,simprocAttr,a8,cP,eW,eR,en]at bg⊢);exact bg) (hl:ew.length=ros.length:=by rfl):a_ al (.seq (.iY ros ew (some k)) b) Q (ax l):=
 kh hl (jH cd (h ok a8) aq)
theorem pP {Q l ros k b ew} {F:Prop} (a8:F) (cd:ahA) (aq:a_ al b Q (ax cd)) (h:F->∀P:ahA->Prop,P cd->dj al (ax l) ros (some []) (λacc s=>kf (nO ew) 0 [] (acc.getD []).reverse=true/\P (gu k s)):=by
 intro a8 P bg;simp only[dX.down,simprocAttr,a8,cP,eW,eR,en];refine⟨jI (by kernel_rfl),?_⟩;(try simp only[iL.down,simprocAttr,a8,cP,eW,eR,en]at bg⊢);exact bg) (hl:ew.length=ros.length:=by rfl):a_ al (.seq (.iY ros ew (some k)) b) Q (ax l):=
 kh hl (jH cd (h a8) aq)
theorem NK {Q l ros k b ew} (e:Bool) {F:Prop} (a8:F) (cd:ahA) (aq:a_ al b Q (ax cd)) (h:F->∀c,e=c->∀P:ahA->Prop,P cd->dj al (ax l) ros (some []) (λacc s=>kf (nO ew) 0 [] (acc.getD []).reverse=true/\P (gu k s)):=by
 intro a8 c ai P bg;cases c;all_goals
  (try simp only[List.length_replicate]at ai);simp only[dX.down,simprocAttr,ai,a8,cP,eW,eR,en];refine⟨jI (by kernel_rfl),?_⟩;(try simp only[iL.down,simprocAttr,ai,a8,cP,eW,eR,en]at bg⊢);exact bg) (hl:ew.length=ros.length:=by rfl):a_ al (.seq (.iY ros ew (some k)) b) Q (ax l):=
 kh hl (jH cd (h a8 e rfl) aq)
theorem eH {Q l ros k b} {F:Prop} (a8:F) (cd:ahA) (aq:a_ al b Q (ax cd)) (h:F->∀P:ahA->Prop,P cd->dj al (ax l) ros none (λ_ s=>P (gu k s)):=by
 intro a8 P bg;simp only[aS.down,simprocAttr,a8,cP,eW,eR,en];(try simp only[iL.down,simprocAttr,a8,cP,eW,eR,en]at bg⊢);exact bg):a_ al (.seq (.fq ros (some k)) b) Q (ax l):=
 dv (ch cd (h a8) aq)
theorem oJ {Q l ros k b} {F:Prop} (a8:F) (cd:ahA) (aq:a_ al b Q (ax cd)) (h:F->∀P:ahA->Prop,P cd->dj al (ax l) ros none (λ_ s=>P (gu k s)):=by
 intro a8 P bg;simp only[aS.down,simprocAttr,a8,cP,eW,eR,en,-Int.reduceNatCast'];(try simp only[iL.down,simprocAttr,a8,cP,eW,eR,en,-Int.reduceNatCast']at bg⊢);exact bg):a_ al (.seq (.fq ros (some k)) b) Q (ax l):=
 dv (ch cd (h a8) aq)
theorem k7 {Q l ros k b} (e:Bool) (cd:ahA) (aq:a_ al b Q (ax cd)) (h:∀c,e=c->∀P:ahA->Prop,P cd->dj al (ax l) ros none (λ_ s=>P (gu k s)):=by
 intro c ai P bg;cases c;all_goals
  (try simp only[List.length_replicate]at ai);simp only[aS.down,simprocAttr,ai,cP,eW,eR,en];(try simp only[iL.down,simprocAttr,ai,cP,eW,eR,en]at bg⊢);exact bg):a_ al (.seq (.fq ros (some k)) b) Q (ax l):=
 dv (ch cd (h e rfl) aq)
theorem Zk {Q l ros k b} (e:Bool) {F:Prop} (a8:F) (cd:ahA) (aq:a_ al b Q (ax cd)) (h:F->∀c,e=c->∀P:ahA->Prop,P cd->dj al (ax l) ros none (λ_ s=>P (gu k s)):=by
 intro a8 c ai P bg;cases c;all_goals
  (try simp only[List.length_replicate]at ai);simp only[aS.down,simprocAttr,ai,a8,cP,eW,eR,en];(try simp only[iL.down,simprocAttr,ai,a8,cP,eW,eR,en]at bg⊢);exact bg):a_ al (.seq (.fq ros (some k)) b) Q (ax l):=
 dv (ch cd (h a8 e rfl) aq)
def nZ:=PLift.up (af @rE (af @rG @rF))
def oK:=PLift.up (af @List.length_append.{0} (af @List.length_cons.{0} (af @List.length_nil.{0} (af @List.length_map.{0,0} @List.length_replicate.{0}))))
def vI:=PLift.up (af @jq (af @jr (af @js (af @dL (af (@cL _ eX fk (λ_=>Cb _)) (@cL _ fk fk (λ_=>WG _)))))))
def Ce:=PLift.up (af @jq (af @jr (af @js (af @dL (af (@cL _ bU bU (λ_=>Hb _)) (af (@cL _ ho ho (λ_=>He _)) (af (@cL _ cb cb (λ_=>pM _)) (af (@cL _ bn bn (λ_=>kL _)) (@cL _ bn bn (λ_=>kL _))))))))))
def Cf:=PLift.up (af @jq (af @jr (af @js @dL)))
def Cg:=PLift.up (af @jq (af @jr (af @js (af @dL (@cL _ eX fk (λ_=>Cb _))))))
def Ch:=PLift.up (af @rE (af @rG (af @rF (af @Mj (af @mE @EF)))))
def Ci:=PLift.up (af @rE (af @rG (af @rF (af @oz (af @Mj @mE)))))
def Hq:=PLift.up (af @jq (af @jr (af @js (af @dL (@cL _ bn bn (λ_=>kL _))))))
def Hr:=PLift.up (af (@TV al 52 [(2,0),(2,1),(50,2)] [(.int .i64 0),(.int .i64 0),.bf] rfl rfl (by kernel_rfl)) (af @Mb (af @Mc (af @dF (af @s4 (af @List.nil_append.{0} (af @List.cons_append.{0} (af (@Ma al 29 52 1 3 [(.agg [(.int .i64 0),(.int .i64 0),.bf])] rfl rfl rfl (by kernel_rfl)) (af (@sZ al 29 29 52 rfl rfl) (af @s0 (af @s3 (af @sW (af @all_nil (@oy _ eX 3 (λ_=>rfl)))))))))))))))
def NL:=PLift.up (af @jq (af @jr (af @js (af @dL (@cL _ df df (λ_=>B4 _))))))
def NM:=PLift.up (af @jq (af @jr (af @js (af @dL (@cL _ cA cA (λ_=>qF _))))))
def NN:=PLift.up (af @List.cons_append.{0} (af @List.nil_append.{0} (af @List.length_append.{0} (af @List.length_cons.{0} (af @List.length_nil.{0} (af @List.length_map.{0,0} @List.length_replicate.{0}))))))
def NO:=PLift.up (af (@Ma al 29 52 1 3 [(.agg [(.int .i64 0),(.int .i64 0),.bf])] rfl rfl rfl (by kernel_rfl)) (af @Mb (af @Mc (af @dF (af @s4 (af @List.nil_append.{0} (af @List.cons_append.{0} (af (@sZ al 29 29 52 rfl rfl) (af @s0 (af @s3 (af @sW (af @all_nil (@oy _ eX 3 (λ_=>rfl))))))))))))))
def NP:=PLift.up (af (λs y q=>(Mm al s 25 y q).1) (λs y q=>(Mm al s 25 y q).2.1))
def NQ:=PLift.up (af @nQ (af @mE (af @jq (af @jr (af @js (af @dL (af @or_true (af @true_or (@cL _ cA cA (λ_=>qF _))))))))))
def NR:=PLift.up (af @rE (af @rG (af @rF (af @qp (af @nQ (af @mE (af @jq (af @jr (af @js (af @dL (af @or_true (af @true_or (@cL _ bn bn (λ_=>kL _))))))))))))))
def NS:=PLift.up (af @jq (af @jr (af @js (af @dL (af (@cL _ fS bU (λ_=>tz _)) (af (@cL _ gd ho (λ_=>tA _)) (af (@cL _ cb cb (λ_=>pM _)) (af (@cL _ bn bn (λ_=>kL _)) (@cL _ bn bn (λ_=>kL _))))))))))
theorem Zl (a0 J r) (h:xG a0 J=some r):aX al 178 [.slice (a0.map kl),.int .i64 J] (.int .i64 r) []:=by
 refine bA [0] [.tmp 4] Tryz.func178 WI λbs ah bw=>aj ?_;refine aj ?_;refine aE ah λ_ fH db _=>aj ?_;refine aL h (λcT h=>?_) λcT h=>?_
 .exact aM db [.int .i64 (-1)]
 .exact aO (fH _ (inl (aM ah [.int .i64 (i64.wrap (J-(a0.length:Int)))])))
theorem Zm (a0 J r) (h:AJ a0 J=some r):aX al 143 [.slice (a0.map jd),.int .i64 J] (.int .i64 r) []:=by
 refine bA [0] [.tmp 4] Tryz.func143 c143 λbs ah bw=>aj ?_;refine aj ?_;refine aE ah λ_ fH db _=>aj ?_;refine aL h (λcT h=>?_) λcT h=>?_
 .exact aM db [.int .i64 (-1)]
 .refine aO (fH _ (inl (aE ah λ_ dx eG _=>aj ?_)));refine bo eG λkM _ bS gm _=>?_;show a_ al (.loop ?iK) _ _;have j3:∀n dO dC,Fl a0 n dO dC=some r->cR al ?iK kM (ax [(0,.slice (a0.map jd)),(1,.int .i64 dO),(5,.int .i64 dC)]):=by
   refine c7 λ_ j4 dO dC h=>c6 bS λ_ n10 cV dV=>aE cV λ_ n11 _ eZ=>aj ?_;refine aL h (λhc h=>?_) λhc h=>?_
   .refine aO (n11 _ (inl (aE cV λ_ n14 ee _=>bo ee λ_ n15 hp _ _=>?_)));obtain⟨aa,ef,h⟩:=aB h;obtain⟨ag,dZ,h⟩:=aB h;refine fc ef (Zl aa dO _ dZ) _ ?_;refine aj ?_;refine aL h (λfu h=>?_) λfu h=>?_
    .exact aM hp [.int .i64 (-1)]
    .refine aO (n15 _ (n14 _ (inl (dI ?_))));exact n10 _ (inr ⟨_,bL rfl,j4 ag (i64.wrap (dC+1)) h⟩)
   .exact c1 (eZ 0 _ (dV 0 _ (gm _ (dx _ (inl (aM ah [.int .i64 dO]))))))
  exact dp h λn h=>j3 n (i64.wrap (J-(a0.length:Int))) 0 h
theorem Zn (a0 J r) (h:xH a0 J=some r):aX al 106 [ie a0,.int .i64 J] (.int .i64 r) []:=by
 refine bA [0] [.tmp 4] Tryz.func106 WJ λbs ah bw=>aj ?_;refine aj ?_;refine aE ah λ_ fH db _=>aj ?_;refine aL h (λcT h=>?_) λcT h=>?_
 .exact aM db [.int .i64 (-1)]
 .refine aO (fH _ (inl ?_));obtain⟨aa,gL,h⟩:=aB h;refine cN (Zm a0.ck (i64.wrap (J-(a0.Name.length:Int))) _ gL) _ ?_;refine aE ah λ_ cn bS _=>aj ?_;refine aL h (λhI h=>?_) λhI h=>?_
  .exact aM bS [.int .i64 (-1)]
  .exact aO (cn _ (inl (aM ah [.int .i64 aa])))
theorem Zo (a0 J r) (h:AK a0 J=some r):aX al 71 [.slice (a0.map ie),.int .i64 J] (.int .i64 r) []:=by
 refine bA [0] [.tmp 4] Tryz.func71 WK λbs ah bw=>aj ?_;refine aj ?_;refine aE ah λ_ fH db _=>aj ?_;refine aL h (λcT h=>?_) λcT h=>?_
 .exact aM db [.int .i64 (-1)]
 .refine aO (fH _ (inl (aE ah λ_ dx eG _=>aj ?_)));refine bo eG λkM _ bS gm _=>?_;show a_ al (.loop ?iK) _ _;have j3:∀n dO dC,Fm a0 n dO dC=some r->cR al ?iK kM (ax [(0,.slice (a0.map ie)),(1,.int .i64 dO),(5,.int .i64 dC)]):=by
   refine c7 λ_ j4 dO dC h=>c6 bS λ_ n10 cV dV=>aE cV λ_ n11 _ eZ=>aj ?_;refine aL h (λhc h=>?_) λhc h=>?_
   .refine aO (n11 _ (inl (aE cV λ_ n14 ee _=>bo ee λ_ n15 hp _ _=>?_)));obtain⟨aa,ef,h⟩:=aB h;obtain⟨ag,dZ,h⟩:=aB h;refine fc ef (Zn aa dO _ dZ) _ ?_;refine aj ?_;refine aL h (λfu h=>?_) λfu h=>?_
    .exact aM hp [.int .i64 (-1)]
    .refine aO (n15 _ (n14 _ (inl (dI ?_))));exact n10 _ (inr ⟨_,bL rfl,j4 ag (i64.wrap (dC+1)) h⟩)
   .exact c1 (eZ 0 _ (dV 0 _ (gm _ (dx _ (inl (aM ah [.int .i64 dO]))))))
  exact dp h λn h=>j3 n (i64.wrap (J-(a0.length:Int))) 0 h
theorem Zp (a0 J r) (h:xI a0 J=some r):aX al 42 [h0 a0,.int .i64 J] (.int .i64 r) []:=by
 refine bA [0] [.tmp 4] Tryz.func42 WL λbs ah bw=>aj ?_;refine aj ?_;refine aE ah λ_ fH db _=>aj ?_;refine aL h (λcT h=>?_) λcT h=>?_
 .exact aM db [.int .i64 (-1)]
 .refine aO (fH _ (inl ?_));obtain⟨aa,gL,h⟩:=aB h;refine cN (Zo a0.Body (i64.wrap (J-(a0.Name.length:Int))) _ gL) _ ?_;refine aE ah λ_ cn bS _=>aj ?_;refine aL h (λhI h=>?_) λhI h=>?_
  .exact aM bS [.int .i64 (-1)]
  .exact aO (cn _ (inl (aM ah [.int .i64 aa])))
theorem Zq (a0 J r) (h:AL a0 J=some r):aX al 13 [.slice (a0.map h0),.int .i64 J] (.int .i64 r) []:=by
 refine bA [0] [.tmp 4] Tryz.func13 WM λbs ah bw=>aj ?_;refine aj ?_;refine aE ah λ_ fH db _=>aj ?_;refine aL h (λcT h=>?_) λcT h=>?_
 .exact aM db [.int .i64 (-1)]
 .refine aO (fH _ (inl (aE ah λ_ dx eG _=>aj ?_)));refine bo eG λkM _ bS gm _=>?_;show a_ al (.loop ?iK) _ _;have j3:∀n dO dC,Fo a0 n dO dC=some r->cR al ?iK kM (ax [(0,.slice (a0.map h0)),(1,.int .i64 dO),(5,.int .i64 dC)]):=by
   refine c7 λ_ j4 dO dC h=>c6 bS λ_ n10 cV dV=>aE cV λ_ n11 _ eZ=>aj ?_;refine aL h (λhc h=>?_) λhc h=>?_
   .refine aO (n11 _ (inl (aE cV λ_ n14 ee _=>bo ee λ_ n15 hp _ _=>?_)));obtain⟨aa,ef,h⟩:=aB h;obtain⟨ag,dZ,h⟩:=aB h;refine fc ef (Zp aa dO _ dZ) _ ?_;refine aj ?_;refine aL h (λfu h=>?_) λfu h=>?_
    .exact aM hp [.int .i64 (-1)]
    .refine aO (n15 _ (n14 _ (inl (dI ?_))));exact n10 _ (inr ⟨_,bL rfl,j4 ag (i64.wrap (dC+1)) h⟩)
   .exact c1 (eZ 0 _ (dV 0 _ (gm _ (dx _ (inl (aM ah [.int .i64 dO]))))))
  exact dp h λn h=>j3 n (i64.wrap (J-(a0.length:Int))) 0 h
theorem Zr (a0 J r) (h:AM a0 J=some r):aX al 72 [.slice (a0.map cA),.int .i64 J] (.int .i64 r) []:=by
 refine bA [0] [.tmp 4] Tryz.func72 c72 λbs ah bw=>aj ?_;refine aj ?_;refine aE ah λ_ fH db _=>aj ?_;refine aL h (λcT h=>?_) λcT h=>?_
 .exact aM db [.int .i64 (-1)]
 .exact aO (fH _ (inl (aM ah [.int .i64 (i64.wrap (J-(a0.length:Int)))])))
theorem Zs (a0 J r) (h:xJ a0 J=some r):aX al 43 [h1 a0,.int .i64 J] (.int .i64 r) []:=by
 refine bA [0] [.tmp 4] Tryz.func43 WN λbs ah bw=>aj ?_;obtain⟨aa,aR,h⟩:=aB h;refine cN (Zr a0.b5 J _ aR) _ ?_;refine aE ah λ_ fC bJ _=>aj ?_;refine aL h (λdi h=>?_) λdi h=>?_
 .exact aM bJ [.int .i64 (-1)]
 .exact aO (fC _ (inl (aM ah [.int .i64 aa])))
theorem Zt (a0 J r) (h:AN a0 J=some r):aX al 14 [.slice (a0.map h1),.int .i64 J] (.int .i64 r) []:=by
 refine bA [0] [.tmp 4] Tryz.func14 hb λbs ah bw=>aj ?_;refine aj ?_;refine aE ah λ_ fH db _=>aj ?_;refine aL h (λcT h=>?_) λcT h=>?_
 .exact aM db [.int .i64 (-1)]
 .refine aO (fH _ (inl (aE ah λ_ dx eG _=>aj ?_)));refine bo eG λkM _ bS gm _=>?_;show a_ al (.loop ?iK) _ _;have j3:∀n dO dC,Fp a0 n dO dC=some r->cR al ?iK kM (ax [(0,.slice (a0.map h1)),(1,.int .i64 dO),(5,.int .i64 dC)]):=by
   refine c7 λ_ j4 dO dC h=>c6 bS λ_ n10 cV dV=>aE cV λ_ n11 _ eZ=>aj ?_;refine aL h (λhc h=>?_) λhc h=>?_
   .refine aO (n11 _ (inl (aE cV λ_ n14 ee _=>bo ee λ_ n15 hp _ _=>?_)));obtain⟨aa,ef,h⟩:=aB h;obtain⟨ag,dZ,h⟩:=aB h;refine fc ef (Zs aa dO _ dZ) _ ?_;refine aj ?_;refine aL h (λfu h=>?_) λfu h=>?_
    .exact aM hp [.int .i64 (-1)]
    .refine aO (n15 _ (n14 _ (inl (dI ?_))));exact n10 _ (inr ⟨_,bL rfl,j4 ag (i64.wrap (dC+1)) h⟩)
   .exact c1 (eZ 0 _ (dV 0 _ (gm _ (dx _ (inl (aM ah [.int .i64 dO]))))))
  exact dp h λn h=>j3 n (i64.wrap (J-(a0.length:Int))) 0 h
theorem Zu (a0 J r) (h:xK a0 J=some r):aX al 44 [hH a0,.int .i64 J] (.int .i64 r) []:=by
 refine bA [0] [.tmp 4] Tryz.func44 yU λbs ah bw=>aj ?_;refine aj ?_;refine aE ah λ_ fH db _=>aj ?_;refine aL h (λcT h=>?_) λcT h=>?_
 .exact aM db [.int .i64 (-1)]
 .refine aO (fH _ (inl (aj ?_)));refine aE ah λ_ ig hB _=>aj ?_;refine aL h (λfv h=>?_) λfv h=>?_
  .exact aM hB [.int .i64 (-1)]
  .refine aO (ig _ (inl (aj ?_)));refine aE ah λ_ n13 fI _=>aj ?_;refine aL h (λeI h=>?_) λeI h=>?_
   .exact aM fI [.int .i64 (-1)]
   .exact aO (n13 _ (inl (aM ah [.int .i64 (i64.wrap ((i64.wrap ((i64.wrap (J-(a0.Left.length:Int)))-(a0.b0.length:Int)))-(a0.Result.length:Int)))])))
theorem Zv (a0 J r) (h:AO a0 J=some r):aX al 15 [.slice (a0.map hH),.int .i64 J] (.int .i64 r) []:=by
 refine bA [0] [.tmp 4] Tryz.func15 WO λbs ah bw=>aj ?_;refine aj ?_;refine aE ah λ_ fH db _=>aj ?_;refine aL h (λcT h=>?_) λcT h=>?_
 .exact aM db [.int .i64 (-1)]
 .refine aO (fH _ (inl (aE ah λ_ dx eG _=>aj ?_)));refine bo eG λkM _ bS gm _=>?_;show a_ al (.loop ?iK) _ _;have j3:∀n dO dC,Fq a0 n dO dC=some r->cR al ?iK kM (ax [(0,.slice (a0.map hH)),(1,.int .i64 dO),(5,.int .i64 dC)]):=by
   refine c7 λ_ j4 dO dC h=>c6 bS λ_ n10 cV dV=>aE cV λ_ n11 _ eZ=>aj ?_;refine aL h (λhc h=>?_) λhc h=>?_
   .refine aO (n11 _ (inl (aE cV λ_ n14 ee _=>bo ee λ_ n15 hp _ _=>?_)));obtain⟨aa,ef,h⟩:=aB h;obtain⟨ag,dZ,h⟩:=aB h;refine fc ef (Zu aa dO _ dZ) _ ?_;refine aj ?_;refine aL h (λfu h=>?_) λfu h=>?_
    .exact aM hp [.int .i64 (-1)]
    .refine aO (n15 _ (n14 _ (inl (dI ?_))));exact n10 _ (inr ⟨_,bL rfl,j4 ag (i64.wrap (dC+1)) h⟩)
   .exact c1 (eZ 0 _ (dV 0 _ (gm _ (dx _ (inl (aM ah [.int .i64 dO]))))))
  exact dp h λn h=>j3 n (i64.wrap (J-(a0.length:Int))) 0 h
theorem NT (a0 J r) (h:xL a0 J=some r):aX al 16 [.slice (a0.map bn),.int .i64 J] (.int .i64 r) []:=by
 refine bA [0] [.tmp 4] Tryz.func16 iK λbs ah bw=>aj ?_;refine aj ?_;refine aE ah λ_ fH db _=>aj ?_;refine aL h (λcT h=>?_) λcT h=>?_
 .exact aM db [.int .i64 (-1)]
 .refine aO (fH _ (inl (aE ah λ_ dx eG _=>aj ?_)));refine bo eG λkM _ bS gm _=>?_;show a_ al (.loop ?iK) _ _;have j3:∀n dO dC,Fs a0 n dO dC=some r->cR al ?iK kM (ax [(0,.slice (a0.map bn)),(1,.int .i64 dO),(5,.int .i64 dC)]):=by
   refine c7 λ_ j4 dO dC h=>c6 bS λ_ n10 cV dV=>aE cV λ_ n11 _ eZ=>aj ?_;refine aL h (λhc h=>?_) λhc h=>?_
   .refine aO (n11 _ (inl (aE cV λ_ n14 ee _=>bo ee λ_ n15 hp _ _=>?_)));obtain⟨aa,ef,h⟩:=aB h;refine eH ef _ ?_;refine aj ?_;refine aL h (λfJ h=>?_) λfJ h=>?_
    .exact aM hp [.int .i64 (-1)]
    .refine aO (n15 _ (n14 _ (inl (dI ?_))));exact n10 _ (inr ⟨_,bL rfl,j4 (i64.wrap (dO-(aa.length:Int))) (i64.wrap (dC+1)) h⟩)
   .exact c1 (eZ 0 _ (dV 0 _ (gm _ (dx _ (inl (aM ah [.int .i64 dO]))))))
  exact dp h λn h=>j3 n (i64.wrap (J-(a0.length:Int))) 0 h
theorem Zw (a0 J r) (h:xM a0 J=some r):aX al 4 [l0 a0,.int .i64 J] (.int .i64 r) []:=by
 refine bA [0] [.tmp 4] Tryz.func4 c4 λbs ah bw=>aj ?_;obtain⟨aa,aR,h⟩:=aB h;refine cN (Zq a0.br J _ aR) _ ?_;refine aE ah λ_ fC bJ a6=>aj ?_;refine aL h (λdi h=>?_) λdi h=>?_
 .exact aM bJ [.int .i64 (-1)]
 .refine aO (fC _ (inl ?_));obtain⟨ag,kT,h⟩:=aB h;refine cN (Zt a0.cw aa _ kT) _ ?_;refine aE ah λ_ n10 cV _=>aj ?_;refine aL h (λfK h=>?_) λfK h=>?_
  .exact aM cV [.int .i64 (-1)]
  .refine aO (n10 _ (inl ?_));obtain⟨aK,d_,h⟩:=aB h;refine cN (Zv a0.gP ag _ d_) _ ?_;refine aE ah λ_ n16 iM _=>aj ?_;refine aL h (λjv h=>?_) λjv h=>?_
   .exact aM iM [.int .i64 (-1)]
   .refine aO (n16 _ (inl ?_));obtain⟨a6,jg,h⟩:=aB h;refine cN (NT a0.gF aK _ jg) _ ?_;refine aE ah λ_ n22 kn _=>aj ?_;refine aL h (λgU h=>?_) λgU h=>?_
    .exact aM kn [.int .i64 (-1)]
    .refine aO (n22 _ (inl ?_));obtain⟨ba,rU,h⟩:=aB h;refine cN (NT a0.gG a6 _ rU) _ ?_;refine aE ah λ_ n28 Hs _=>aj ?_;refine aL h (λkN h=>?_) λkN h=>?_
     .exact aM Hs [.int .i64 (-1)]
     .exact aO (n28 _ (inl (aM ah [.int .i64 ba])))
theorem Zx (a0 r) (h:xN a0=some r):aX al 201 [kl a0] (e0 r) []:=by
 refine bA [0] [.cell 2 225] Tryz.func201 c201 λbs ah bw=>aj ?_;refine aj ?_;refine aj ?_;refine aj ?_;exact aM ah [e0 (cj.mk a0.Kind a0.Value)]
theorem Zy (a0 r) (h:xO a0=some r):aX al 181 [.slice (a0.map kl)] (.ao 2 (r.map e0)) []:=by
 refine bA [0] [.tmp 2] Tryz.func181 WQ λbs ah bw=>aj ?_;obtain⟨vJ,aR,h⟩:=aB h;refine oJ (af (n8 aR) @List.map_replicate.{0,0}) [(0,.slice (a0.map kl)),(3,.ao 2 ((List.replicate (Int.toNat (a0.length:Int)) (cj.mk 0 0)).map e0))] ?_;refine aE ah λ_ fC bJ _=>ws [(0,.slice (a0.map kl)),(3,.ao 2 ((List.replicate (Int.toNat (a0.length:Int)) (cj.mk 0 0)).map e0)),(4,.int .i64 0)] ?_;refine bo bJ λj5 _ dA di _=>?_;show a_ al (.loop ?iG) _ _;have jw:∀n cg bz,Ft a0 n cg bz=some r->cR al ?iG j5 (ax [(0,.slice (a0.map kl)),(3,.ao 2 (cg.map e0)),(4,.int .i64 bz)]):=by
  refine c7 λ_ jx cg bz h=>c6 dA λ_ dx eG cG=>aE eG λ_ ig _ e9=>aj ?_;refine aL h (λfv h=>?_) λfv h=>?_
  .refine aO (ig _ (inl (aE eG λ_ n11 hd _=>bo hd λ_ n12 _ _ _=>?_)));obtain⟨aa,ea,h⟩:=aB h;obtain⟨ag,d_,h⟩:=aB h;obtain⟨aK,cC,h⟩:=aB h;refine kg (ch [(0,.slice (a0.map kl)),(3,.ao 2 ((List.set cg (Int.toNat bz) ag).map e0)),(4,.int .i64 bz)] (λP bg=>?_) ?_)
   ·(try simp only[aS.down,simprocAttr,ea,cC,cq cC,dF,cP]);refine ey (Zx aa _ d_) (hK:= ?_);simp only[aS.down,simprocAttr,ea,cC,cq cC,dF,cP];exact bZ (af ea (af cC (af (cq cC) @dF)))
   refine n12 _ (n11 _ (inl (wr [(0,.slice (a0.map kl)),(3,.ao 2 ((List.set cg (Int.toNat bz) ag).map e0)),(4,.int .i64 (i64.wrap (bz+1)))] ?_)));exact dx _ (inr ⟨_,bL rfl,jx (List.set cg (Int.toNat bz) ag) (i64.wrap (bz+1)) h⟩)
  .exact c1 (e9 0 _ (cG 0 _ (di _ (fC _ (inl (aM ah [.ao 2 (cg.map e0)]))))))
 exact dp h λn h=>jw n (List.replicate (Int.toNat (a0.length:Int)) (cj.mk 0 0)) 0 h
theorem Zz (a0 r) (h:AP a0=some r):aX al 148 [.slice (a0.map jd)] (.ao 1 (r.map jf)) []:=by
 refine bA [0] [.tmp 2] Tryz.func148 c148 λbs ah bw=>aj ?_;obtain⟨vJ,aR,h⟩:=aB h;refine oJ (af (n8 aR) @List.map_replicate.{0,0}) [(0,.slice (a0.map jd)),(3,.ao 1 (List.replicate (Int.toNat (a0.length:Int)) .bf))] ?_;refine aE ah λ_ fC bJ _=>ws [(0,.slice (a0.map jd)),(3,.ao 1 (List.replicate (Int.toNat (a0.length:Int)) .bf)),(4,.int .i64 0)] ?_;refine bo bJ λj5 _ dA di _=>?_;show a_ al (.loop ?iG) _ _;have jw:∀n cg bz,Fu a0 n cg bz=some r->cR al ?iG j5 (ax [(0,.slice (a0.map jd)),(3,.ao 1 (cg.map jf)),(4,.int .i64 bz)]):=by
  refine c7 λ_ jx cg bz h=>c6 dA λ_ dx eG cG=>aE eG λ_ ig _ e9=>aj ?_;refine aL h (λfv h=>?_) λfv h=>?_
  .refine aO (ig _ (inl (aE eG λ_ n11 hd _=>bo hd λ_ n12 _ _ _=>?_)));obtain⟨aa,ea,h⟩:=aB h;obtain⟨ag,d_,h⟩:=aB h;obtain⟨aK,cC,h⟩:=aB h;refine kg (ch [(0,.slice (a0.map jd)),(3,.ao 1 ((List.set cg (Int.toNat bz) ag).map jf)),(4,.int .i64 bz)] (λP bg=>?_) ?_)
   ·(try simp only[aS.down,simprocAttr,ea,cC,cq cC,dF,cP]);refine ey (Zy aa _ d_) (hK:= ?_);simp only[aS.down,simprocAttr,ea,cC,cq cC,dF,cP];exact bZ (af ea (af cC (af (cq cC) @dF)))
   refine n12 _ (n11 _ (inl (wr [(0,.slice (a0.map jd)),(3,.ao 1 ((List.set cg (Int.toNat bz) ag).map jf)),(4,.int .i64 (i64.wrap (bz+1)))] ?_)));exact dx _ (inr ⟨_,bL rfl,jx (List.set cg (Int.toNat bz) ag) (i64.wrap (bz+1)) h⟩)
  .exact c1 (e9 0 _ (cG 0 _ (di _ (fC _ (inl (aM ah [.ao 1 (cg.map jf)]))))))
 obtain⟨n,h⟩:=p6 h;exact ry (inr ⟨_,i1 [] rfl (gE (t:=0) (d:=.slice (a0.map jd)) rfl (i7 (t:=3) (d:=.ao 1 (List.replicate (Int.toNat (a0.length:Int)) .bf)) (bp:=.ao 1 ((List.replicate (Int.toNat (a0.length:Int)) []).map jf)) rfl rfl (Ar (u:=jf) (z:=[]) (.hQ _) _) (by decide) (gE (t:=4) (d:=.int .i64 0) rfl (i6)))),jw n (List.replicate (Int.toNat (a0.length:Int)) []) 0 h⟩)
theorem ZA (a0 r) (h:xP a0=some r):aX al 112 [ie a0] (hn r) []:=by
 refine bA [0] [.cell 2 128] Tryz.func112 WR λbs ah bw=>aj ?_;refine aj ?_;refine aj ?_;refine aj ?_;refine aj ?_;obtain⟨aa,bF,h⟩:=aB h;refine cN (Zz a0.ck _ bF) _ ?_;exact aM ah [hn (bD.mk a0.Kind a0.Number a0.Name aa)]
theorem ZB (a0 r) (h:AQ a0=some r):aX al 81 [.slice (a0.map ie)] (.ao 4 (r.map hn)) []:=by
 refine bA [0] [.tmp 2] Tryz.func81 WS λbs ah bw=>aj ?_;obtain⟨vJ,aR,h⟩:=aB h;refine oJ (af (n8 aR) @List.map_replicate.{0,0}) [(0,.slice (a0.map ie)),(3,.ao 4 (List.replicate (Int.toNat (a0.length:Int)) (.agg [(.int .i64 0),(.int .i64 0),(.str []),.bf])))] ?_;refine aE ah λ_ fC bJ _=>ws [(0,.slice (a0.map ie)),(3,.ao 4 (List.replicate (Int.toNat (a0.length:Int)) (.agg [(.int .i64 0),(.int .i64 0),(.str []),.bf]))),(4,.int .i64 0)] ?_;refine bo bJ λj5 _ dA di _=>?_;show a_ al (.loop ?iG) _ _;have jw:∀n cg bz,Fv a0 n cg bz=some r->cR al ?iG j5 (ax [(0,.slice (a0.map ie)),(3,.ao 4 (cg.map hn)),(4,.int .i64 bz)]):=by
  refine c7 λ_ jx cg bz h=>c6 dA λ_ dx eG cG=>aE eG λ_ ig _ e9=>aj ?_;refine aL h (λfv h=>?_) λfv h=>?_
  .refine aO (ig _ (inl (aE eG λ_ n11 hd _=>bo hd λ_ n12 _ _ _=>?_)));obtain⟨aa,ea,h⟩:=aB h;obtain⟨ag,d_,h⟩:=aB h;obtain⟨aK,cC,h⟩:=aB h;refine kg (ch [(0,.slice (a0.map ie)),(3,.ao 4 ((List.set cg (Int.toNat bz) ag).map hn)),(4,.int .i64 bz)] (λP bg=>?_) ?_)
   ·(try simp only[aS.down,simprocAttr,ea,cC,cq cC,dF,cP]);refine ey (ZA aa _ d_) (hK:= ?_);simp only[aS.down,simprocAttr,ea,cC,cq cC,dF,cP];exact bZ (af ea (af cC (af (cq cC) @dF)))
   refine n12 _ (n11 _ (inl (wr [(0,.slice (a0.map ie)),(3,.ao 4 ((List.set cg (Int.toNat bz) ag).map hn)),(4,.int .i64 (i64.wrap (bz+1)))] ?_)));exact dx _ (inr ⟨_,bL rfl,jx (List.set cg (Int.toNat bz) ag) (i64.wrap (bz+1)) h⟩)
  .exact c1 (e9 0 _ (cG 0 _ (di _ (fC _ (inl (aM ah [.ao 4 (cg.map hn)]))))))
 obtain⟨n,h⟩:=p6 h;exact ry (inr ⟨_,i1 [] rfl (gE (t:=0) (d:=.slice (a0.map ie)) rfl (i7 (t:=3) (d:=.ao 4 (List.replicate (Int.toNat (a0.length:Int)) (.agg [(.int .i64 0),(.int .i64 0),(.str []),.bf]))) (bp:=.ao 4 ((List.replicate (Int.toNat (a0.length:Int)) (bD.mk 0 0 ([]:aht) [])).map hn)) rfl rfl (Ar (u:=hn) (z:=(bD.mk 0 0 ([]:aht) [])) (.agg (.cons (.refl _) (.cons (.refl _) (.cons (.refl _) (.cons (.hQ _) (.nil)))))) _) (by decide) (gE (t:=4) (d:=.int .i64 0) rfl (i6)))),jw n (List.replicate (Int.toNat (a0.length:Int)) (bD.mk 0 0 ([]:aht) [])) 0 h⟩)
theorem ZC (a0 r) (h:xQ a0=some r):aX al 49 [h0 a0] (fS r) []:=by
 refine bA [0] [.cell 2 90] Tryz.func49 c49 λbs ah bw=>aj ?_;refine aj ?_;refine aj ?_;refine aj ?_;obtain⟨aa,bV,h⟩:=aB h;refine cN (ZB a0.Body _ bV) _ ?_;exact aM ah [fS (bl.mk a0.Name a0.cU aa)]
theorem ZD (a0 r) (h:AR a0=some r):aX al 20 [.slice (a0.map h0)] (.ao 3 (r.map fS)) []:=by
 refine bA [0] [.tmp 2] Tryz.func20 c20 λbs ah bw=>aj ?_;obtain⟨vJ,aR,h⟩:=aB h;refine oJ (af (n8 aR) @List.map_replicate.{0,0}) [(0,.slice (a0.map h0)),(3,.ao 3 (List.replicate (Int.toNat (a0.length:Int)) (.agg [(.str []),(.int .i64 0),.bf])))] ?_;refine aE ah λ_ fC bJ _=>ws [(0,.slice (a0.map h0)),(3,.ao 3 (List.replicate (Int.toNat (a0.length:Int)) (.agg [(.str []),(.int .i64 0),.bf]))),(4,.int .i64 0)] ?_;refine bo bJ λj5 _ dA di _=>?_;show a_ al (.loop ?iG) _ _;have jw:∀n cg bz,Fw a0 n cg bz=some r->cR al ?iG j5 (ax [(0,.slice (a0.map h0)),(3,.ao 3 (cg.map fS)),(4,.int .i64 bz)]):=by
  refine c7 λ_ jx cg bz h=>c6 dA λ_ dx eG cG=>aE eG λ_ ig _ e9=>aj ?_;refine aL h (λfv h=>?_) λfv h=>?_
  .refine aO (ig _ (inl (aE eG λ_ n11 hd _=>bo hd λ_ n12 _ _ _=>?_)));obtain⟨aa,ea,h⟩:=aB h;obtain⟨ag,d_,h⟩:=aB h;obtain⟨aK,cC,h⟩:=aB h;refine kg (ch [(0,.slice (a0.map h0)),(3,.ao 3 ((List.set cg (Int.toNat bz) ag).map fS)),(4,.int .i64 bz)] (λP bg=>?_) ?_)
   ·(try simp only[aS.down,simprocAttr,ea,cC,cq cC,dF,cP]);refine ey (ZC aa _ d_) (hK:= ?_);simp only[aS.down,simprocAttr,ea,cC,cq cC,dF,cP];exact bZ (af ea (af cC (af (cq cC) @dF)))
   refine n12 _ (n11 _ (inl (wr [(0,.slice (a0.map h0)),(3,.ao 3 ((List.set cg (Int.toNat bz) ag).map fS)),(4,.int .i64 (i64.wrap (bz+1)))] ?_)));exact dx _ (inr ⟨_,bL rfl,jx (List.set cg (Int.toNat bz) ag) (i64.wrap (bz+1)) h⟩)
  .exact c1 (e9 0 _ (cG 0 _ (di _ (fC _ (inl (aM ah [.ao 3 (cg.map fS)]))))))
 obtain⟨n,h⟩:=p6 h;exact ry (inr ⟨_,i1 [] rfl (gE (t:=0) (d:=.slice (a0.map h0)) rfl (i7 (t:=3) (d:=.ao 3 (List.replicate (Int.toNat (a0.length:Int)) (.agg [(.str []),(.int .i64 0),.bf]))) (bp:=.ao 3 ((List.replicate (Int.toNat (a0.length:Int)) (bl.mk ([]:aht) 0 [])).map fS)) rfl rfl (Ar (u:=fS) (z:=(bl.mk ([]:aht) 0 [])) (.agg (.cons (.refl _) (.cons (.refl _) (.cons (.hQ _) (.nil))))) _) (by decide) (gE (t:=4) (d:=.int .i64 0) rfl (i6)))),jw n (List.replicate (Int.toNat (a0.length:Int)) (bl.mk ([]:aht) 0 [])) 0 h⟩)
theorem ZE (a0 r) (h:AU a0=some r):aX al 82 [.slice (a0.map cA)] (.ao 1 (r.map cA)) []:=by
 refine bA [0] [.tmp 2] Tryz.func82 WT λbs ah bw=>aj ?_;obtain⟨ZF,aR,h⟩:=aB h;refine oJ (af (n8 aR) @List.map_replicate.{0,0}) [(0,.slice (a0.map cA)),(3,.ao 1 ((List.replicate (Int.toNat (a0.length:Int)) 0).map cA))] ?_;refine aE ah λ_ fC bJ _=>ws [(0,.slice (a0.map cA)),(3,.ao 1 ((List.replicate (Int.toNat (a0.length:Int)) 0).map cA)),(4,.int .i64 0)] ?_;refine bo bJ λj5 _ dA di _=>?_;show a_ al (.loop ?iG) _ _;have jw:∀n cg bz,Fx a0 n cg bz=some r->cR al ?iG j5 (ax [(0,.slice (a0.map cA)),(3,.ao 1 (cg.map cA)),(4,.int .i64 bz)]):=by
  refine c7 λ_ jx cg bz h=>c6 dA λ_ dx eG cG=>aE eG λ_ ig _ e9=>aj ?_;refine aL h (λfv h=>?_) λfv h=>?_
  .refine aO (ig _ (inl (aE eG λ_ n11 hd _=>bo hd λ_ n12 _ _ _=>?_)));obtain⟨aa,ea,h⟩:=aB h;obtain⟨ag,d_,h⟩:=aB h;refine kg (ch [(0,.slice (a0.map cA)),(3,.ao 1 ((List.set cg (Int.toNat bz) aa).map cA)),(4,.int .i64 bz)] (λP bg=>?_) ?_)
   .simp only[aS.down,simprocAttr,ea,d_,cq d_,dF,cP];exact bZ (af ea (af d_ (af (cq d_) @dF)))
   refine n12 _ (n11 _ (inl (wr [(0,.slice (a0.map cA)),(3,.ao 1 ((List.set cg (Int.toNat bz) aa).map cA)),(4,.int .i64 (i64.wrap (bz+1)))] ?_)));exact dx _ (inr ⟨_,bL rfl,jx (List.set cg (Int.toNat bz) aa) (i64.wrap (bz+1)) h⟩)
  .exact c1 (e9 0 _ (cG 0 _ (di _ (fC _ (inl (aM ah [.ao 1 (cg.map cA)]))))))
 exact dp h λn h=>jw n (List.replicate (Int.toNat (a0.length:Int)) 0) 0 h
theorem ZG (a0 r) (h:xR a0=some r):aX al 50 [h1 a0] (gd r) []:=by
 refine bA [0] [.cell 2 94] Tryz.func50 WU λbs ah bw=>aj ?_;refine aj ?_;refine aj ?_;obtain⟨aa,cz,h⟩:=aB h;refine cN (ZE a0.b5 _ cz) _ ?_;exact aM ah [gd (dG.mk a0.dd aa)]
theorem ZH (a0 r) (h:AV a0=some r):aX al 21 [.slice (a0.map h1)] (.ao 2 (r.map gd)) []:=by
 refine bA [0] [.tmp 2] Tryz.func21 c21 λbs ah bw=>aj ?_;obtain⟨vJ,aR,h⟩:=aB h;refine oJ (af (n8 aR) @List.map_replicate.{0,0}) [(0,.slice (a0.map h1)),(3,.ao 2 (List.replicate (Int.toNat (a0.length:Int)) (.agg [(.int .i64 0),.bf])))] ?_;refine aE ah λ_ fC bJ _=>ws [(0,.slice (a0.map h1)),(3,.ao 2 (List.replicate (Int.toNat (a0.length:Int)) (.agg [(.int .i64 0),.bf]))),(4,.int .i64 0)] ?_;refine bo bJ λj5 _ dA di _=>?_;show a_ al (.loop ?iG) _ _;have jw:∀n cg bz,Fy a0 n cg bz=some r->cR al ?iG j5 (ax [(0,.slice (a0.map h1)),(3,.ao 2 (cg.map gd)),(4,.int .i64 bz)]):=by
  refine c7 λ_ jx cg bz h=>c6 dA λ_ dx eG cG=>aE eG λ_ ig _ e9=>aj ?_;refine aL h (λfv h=>?_) λfv h=>?_
  .refine aO (ig _ (inl (aE eG λ_ n11 hd _=>bo hd λ_ n12 _ _ _=>?_)));obtain⟨aa,ea,h⟩:=aB h;obtain⟨ag,d_,h⟩:=aB h;obtain⟨aK,cC,h⟩:=aB h;refine kg (ch [(0,.slice (a0.map h1)),(3,.ao 2 ((List.set cg (Int.toNat bz) ag).map gd)),(4,.int .i64 bz)] (λP bg=>?_) ?_)
   ·(try simp only[aS.down,simprocAttr,ea,cC,cq cC,dF,cP]);refine ey (ZG aa _ d_) (hK:= ?_);simp only[aS.down,simprocAttr,ea,cC,cq cC,dF,cP];exact bZ (af ea (af cC (af (cq cC) @dF)))
   refine n12 _ (n11 _ (inl (wr [(0,.slice (a0.map h1)),(3,.ao 2 ((List.set cg (Int.toNat bz) ag).map gd)),(4,.int .i64 (i64.wrap (bz+1)))] ?_)));exact dx _ (inr ⟨_,bL rfl,jx (List.set cg (Int.toNat bz) ag) (i64.wrap (bz+1)) h⟩)
  .exact c1 (e9 0 _ (cG 0 _ (di _ (fC _ (inl (aM ah [.ao 2 (cg.map gd)]))))))
 obtain⟨n,h⟩:=p6 h;exact ry (inr ⟨_,i1 [] rfl (gE (t:=0) (d:=.slice (a0.map h1)) rfl (i7 (t:=3) (d:=.ao 2 (List.replicate (Int.toNat (a0.length:Int)) (.agg [(.int .i64 0),.bf]))) (bp:=.ao 2 ((List.replicate (Int.toNat (a0.length:Int)) (dG.mk 0 [])).map gd)) rfl rfl (Ar (u:=gd) (z:=(dG.mk 0 [])) (.agg (.cons (.refl _) (.cons (.hQ _) (.nil)))) _) (by decide) (gE (t:=4) (d:=.int .i64 0) rfl (i6)))),jw n (List.replicate (Int.toNat (a0.length:Int)) (dG.mk 0 [])) 0 h⟩)
theorem ZI (a0 r) (h:xS a0=some r):aX al 51 [hH a0] (cb r) []:=by
 refine bA [0] [.cell 2 96] Tryz.func51 c51 λbs ah bw=>aj ?_;refine aj ?_;refine aj ?_;refine aj ?_;refine aj ?_;exact aM ah [cb (cp.mk a0.Left a0.b0 a0.Result)]
theorem ZJ (a0 r) (h:AW a0=some r):aX al 22 [.slice (a0.map hH)] (.ao 3 (r.map cb)) []:=by
 refine bA [0] [.tmp 2] Tryz.func22 Hg λbs ah bw=>aj ?_;obtain⟨vJ,aR,h⟩:=aB h;refine oJ (af (n8 aR) @List.map_replicate.{0,0}) [(0,.slice (a0.map hH)),(3,.ao 3 ((List.replicate (Int.toNat (a0.length:Int)) (cp.mk ([]:aht) ([]:aht) ([]:aht))).map cb))] ?_;refine aE ah λ_ fC bJ _=>ws [(0,.slice (a0.map hH)),(3,.ao 3 ((List.replicate (Int.toNat (a0.length:Int)) (cp.mk ([]:aht) ([]:aht) ([]:aht))).map cb)),(4,.int .i64 0)] ?_;refine bo bJ λj5 _ dA di _=>?_;show a_ al (.loop ?iG) _ _;have jw:∀n cg bz,Fz a0 n cg bz=some r->cR al ?iG j5 (ax [(0,.slice (a0.map hH)),(3,.ao 3 (cg.map cb)),(4,.int .i64 bz)]):=by
  refine c7 λ_ jx cg bz h=>c6 dA λ_ dx eG cG=>aE eG λ_ ig _ e9=>aj ?_;refine aL h (λfv h=>?_) λfv h=>?_
  .refine aO (ig _ (inl (aE eG λ_ n11 hd _=>bo hd λ_ n12 _ _ _=>?_)));obtain⟨aa,ea,h⟩:=aB h;obtain⟨ag,d_,h⟩:=aB h;obtain⟨aK,cC,h⟩:=aB h;refine kg (ch [(0,.slice (a0.map hH)),(3,.ao 3 ((List.set cg (Int.toNat bz) ag).map cb)),(4,.int .i64 bz)] (λP bg=>?_) ?_)
   ·(try simp only[aS.down,simprocAttr,ea,cC,cq cC,dF,cP]);refine ey (ZI aa _ d_) (hK:= ?_);simp only[aS.down,simprocAttr,ea,cC,cq cC,dF,cP];exact bZ (af ea (af cC (af (cq cC) @dF)))
   refine n12 _ (n11 _ (inl (wr [(0,.slice (a0.map hH)),(3,.ao 3 ((List.set cg (Int.toNat bz) ag).map cb)),(4,.int .i64 (i64.wrap (bz+1)))] ?_)));exact dx _ (inr ⟨_,bL rfl,jx (List.set cg (Int.toNat bz) ag) (i64.wrap (bz+1)) h⟩)
  .exact c1 (e9 0 _ (cG 0 _ (di _ (fC _ (inl (aM ah [.ao 3 (cg.map cb)]))))))
 exact dp h λn h=>jw n (List.replicate (Int.toNat (a0.length:Int)) (cp.mk ([]:aht) ([]:aht) ([]:aht))) 0 h
theorem NU (a0 r) (h:xT a0=some r):aX al 23 [.slice (a0.map bn)] (.ao 1 (r.map bn)) []:=by
 refine bA [0] [.tmp 2] Tryz.func23 WV λbs ah bw=>aj ?_;obtain⟨ZF,aR,h⟩:=aB h;refine oJ (af (n8 aR) @List.map_replicate.{0,0}) [(0,.slice (a0.map bn)),(3,.ao 1 ((List.replicate (Int.toNat (a0.length:Int)) ([]:aht)).map bn))] ?_;refine aE ah λ_ fC bJ _=>ws [(0,.slice (a0.map bn)),(3,.ao 1 ((List.replicate (Int.toNat (a0.length:Int)) ([]:aht)).map bn)),(4,.int .i64 0)] ?_;refine bo bJ λj5 _ dA di _=>?_;show a_ al (.loop ?iG) _ _;have jw:∀n cg bz,FA a0 n cg bz=some r->cR al ?iG j5 (ax [(0,.slice (a0.map bn)),(3,.ao 1 (cg.map bn)),(4,.int .i64 bz)]):=by
  refine c7 λ_ jx cg bz h=>c6 dA λ_ dx eG cG=>aE eG λ_ ig _ e9=>aj ?_;refine aL h (λfv h=>?_) λfv h=>?_
  .refine aO (ig _ (inl (aE eG λ_ n11 hd _=>bo hd λ_ n12 _ _ _=>?_)));obtain⟨aa,ea,h⟩:=aB h;obtain⟨ag,d_,h⟩:=aB h;refine kg (ch [(0,.slice (a0.map bn)),(3,.ao 1 ((List.set cg (Int.toNat bz) aa).map bn)),(4,.int .i64 bz)] (λP bg=>?_) ?_)
   .simp only[aS.down,simprocAttr,ea,d_,cq d_,dF,cP];exact bZ (af ea (af d_ (af (cq d_) @dF)))
   refine n12 _ (n11 _ (inl (wr [(0,.slice (a0.map bn)),(3,.ao 1 ((List.set cg (Int.toNat bz) aa).map bn)),(4,.int .i64 (i64.wrap (bz+1)))] ?_)));exact dx _ (inr ⟨_,bL rfl,jx (List.set cg (Int.toNat bz) aa) (i64.wrap (bz+1)) h⟩)
  .exact c1 (e9 0 _ (cG 0 _ (di _ (fC _ (inl (aM ah [.ao 1 (cg.map bn)]))))))
 exact dp h λn h=>jw n (List.replicate (Int.toNat (a0.length:Int)) ([]:aht)) 0 h
theorem Cj (a0 r) (h:rK a0=some r):aX al 6 [l0 a0] (pN r) []:=by
 refine bA [0] [.cell 2 36] Tryz.func6 eo λbs ah bw=>aj ?_;refine aj ?_;obtain⟨aa,b4,h⟩:=aB h;refine cN (ZD a0.br _ b4) _ ?_;obtain⟨ag,bV,h⟩:=aB h;refine cN (ZH a0.cw _ bV) _ ?_;obtain⟨aK,gL,h⟩:=aB h;refine cN (ZJ a0.gP _ gL) _ ?_;obtain⟨a6,lO,h⟩:=aB h;refine cN (NU a0.gF _ lO) _ ?_;obtain⟨ba,dD,h⟩:=aB h;refine cN (NU a0.gG _ dD) _ ?_;exact aM ah [pN (dH.mk aa ag aK a6 ba)]
theorem Ht (a0 r) (h:xU a0=some r):aX al 144 [.int .u8 (a0.toNat:Int)] (.bool r) []:=by
 refine bA [0] [.tmp 2] Tryz.func144 WW λbs ah bw=>aj ?_;refine k7 (decide (97<=(a0.toNat:Int))) [(2,.bool ((decide (97<=(a0.toNat:Int)))&&(decide ((a0.toNat:Int)<=122))))] ?_;exact dk ah [.bool ((decide (97<=(a0.toNat:Int)))&&(decide ((a0.toNat:Int)<=122)))]
theorem Hu (a0 r) (h:u1 a0=some r):aX al 77 [.int .u8 (a0.toNat:Int)] (.bool r) []:=by
 refine bA [0] [.tmp 2] Tryz.func77 WX λbs ah bw=>aj ?_;refine k7 (decide (48<=(a0.toNat:Int))) [(2,.bool ((decide (48<=(a0.toNat:Int)))&&(decide ((a0.toNat:Int)<=57))))] ?_;exact dk ah [.bool ((decide (48<=(a0.toNat:Int)))&&(decide ((a0.toNat:Int)<=57)))]
theorem yZ (a0 r) (h:u2 a0=some r):aX al 107 [.str a0] (.bool r) []:=by
 refine bA [0] [.tmp 2] Tryz.func107 c107 λbs ah bw=>aj ?_;refine aE ah λ_ bB a7 ag=>?_;rcases eg h with⟨bO,h⟩|⟨bO,h⟩
 .refine eH bO _ ?_;refine hU rfl ?_;exact aM a7 [.bool false]
 .rcases eg h with⟨di,h⟩|⟨di,h⟩
  .refine eH (af bO di) _ ?_;refine hU rfl ?_;exact aM a7 [.bool false]
  .obtain⟨aa,gL,h⟩:=aB h;obtain⟨ag,kT,h⟩:=aB h;refine fc (af bO (af di gL)) (Ht aa _ kT) _ ?_;refine aL h (λfv h=>?_) λfv h=>?_
   .exact aM a7 [.bool false]
   .refine aO (bB _ (inl (aE ah λ_ n12 jK _=>aj ?_)));refine bo jK λHv _ ee hC _=>?_;show a_ al (.loop ?hb) _ _;have hf:∀n cY,xV a0 n cY=some r->cR al ?hb Hv (ax [(0,.str a0),(3,.int .i64 cY)]):=by
     refine c7 λ_ gQ cY h=>c6 ee λ_ n15 hp nY=>aE hp λ_ n16 _ rT=>aj ?_;refine aL h (λjv h=>?_) λjv h=>?_
     .refine aO (n16 _ (inl (aE hp λ_ n19 Hw _=>bo Hw λ_ n20 tB _ _=>?_)));obtain⟨aK,gv,h⟩:=aB h;obtain⟨a6,ko,h⟩:=aB h;rcases eg h with⟨gU,h⟩|⟨gU,h⟩
      .obtain⟨ba,kO,h⟩:=aB h;refine dv (ch [(0,.str a0),(3,.int .i64 cY),(34,.bool (!ba))] (λP bg=>?_) ?_)
       ·(try simp only[aS.down,simprocAttr,gv,(gb gU)]);refine ey (Ht aK _ ko) (hK:= ?_);simp only[aS.down,simprocAttr,gv,(gb gU)];refine hk (Hu aK _ kO) (hK:= ?_);simp only[aS.down,simprocAttr,gv,(gb gU)];exact bZ (af gv (gb gU))
       refine aL h (λh6 h=>?_) λh6 h=>?_
       .exact aM tB [.bool false]
       .refine aO (n20 _ (n19 _ (inl (dI ?_))));exact n15 _ (inr ⟨_,bL rfl,gQ (i64.wrap (cY+1)) h⟩)
      .refine fc (af gv (bC gU)) (Ht aK _ ko) _ ?_;refine qo rfl ?_;refine aO (n20 _ (n19 _ (inl (dI ?_))));exact n15 _ (inr ⟨_,bL rfl,gQ (i64.wrap (cY+1)) h⟩)
     .exact c1 (rT 0 _ (nY 0 _ (hC _ (n12 _ (inl (aM ah [.bool true]))))))
    exact dp h λn h=>hf n 0 h
theorem mi (a0 J a2 r) (h:j1 a0 J a2=some r):aX al 78 [.int .i64 a0,.int .i64 J,.int .i64 a2] (.bool r) []:=by
 refine bA [0,1,2] [.tmp 6] Tryz.func78 WY λbs ah bw=>aj ?_;refine k7 (decide (J<=a0)) [(6,.bool ((decide (J<=a0))&&(decide (a0<=a2))))] ?_;exact dk ah [.bool ((decide (J<=a0))&&(decide (a0<=a2)))]
theorem NV (a0 r) (h:xX a0=some r):aX al 147 [.ref (df a0)] (.int .i64 r) []:=by
 refine bA [0] [.tmp 2] Tryz.func147 WZ λbs ah bw=>aj ?_;refine aE ah λ_ bB a7 _=>aj ?_;refine bo a7 λer fC bJ _ _=>?_;show a_ al (.seq _ ?iK) _ _;have tC:∀hY,xW a0 hY=some r->a_ al ?iK er (ax [(6,.int .i64 a0.Kind),(7,.bool hY)]):=by
  intro hY h;refine aL h (λdi h=>?_) λdi h=>?_
  .exact aM bJ [.int .i64 1]
  .refine aj ?_;refine aL h (λgm h=>?_) λgm h=>?_
   .exact aM bJ [.int .i64 2]
   .exact aO (fC _ (bB _ (inl (aM ah [.int .i64 0]))))
 refine aE bJ λ_ dJ _ _=>aj ?_;refine aL h (λhc h=>?_) λhc h=>?_
 .simp only[hc,yY.down];exact aO (dJ _ (inr ⟨_,bL rfl,tC true h⟩))
 .refine aj ?_;refine aL h (λeI h=>?_) λeI h=>?_
  .simp only[eI,yY.down];exact aO (dJ _ (inr ⟨_,bL rfl,tC true h⟩))
  .refine dI ?_;exact dJ _ (inr ⟨_,bL rfl,tC (a0.Kind==4) h⟩)
theorem ZK (a0 r) (h:AX a0=some r):aX al 145 [.slice (a0.map df)] (.bool r) []:=by
 refine bA [0] [.tmp 2] Tryz.func145 c145 λbs ah bw=>aj ?_;refine aE ah λ_ bB a7 ag=>k7 ((a0.length:Int)==0) [(0,.slice (a0.map df)),(12,.bool (((a0.length:Int)==0)||(decide (20<(a0.length:Int)))))] ?_;refine aL h (λbO h=>?_) λbO h=>?_
 .exact aM a7 [.bool false]
 .refine aO (bB _ (inl (aj ?_)));refine aE ah λ_ dx eG _=>aj ?_;refine bo eG λkM _ bS gm _=>?_;show a_ al (.loop ?iK) _ _;have j3:∀n oE py,u3 a0 n oE py=some r->cR al ?iK kM (ax [(0,.slice (a0.map df)),(3,.int .i64 oE),(4,.int .i64 py)]):=by
   refine c7 λ_ j4 oE py h=>c6 bS λ_ n10 cV dV=>aE cV λ_ n11 _ eZ=>aj ?_;refine aL h (λhc h=>?_) λhc h=>?_
   .refine aO (n11 _ (inl (aE cV λ_ n14 ee _=>bo ee λ_ n15 hp _ _=>aE hp λ_ n16 iM _=>aj ?_)));refine aL h (λjv h=>?_) λjv h=>?_
    .exact aM iM [.bool false]
    .refine aO (n16 _ (inl ?_));obtain⟨aa,jg,h⟩:=aB h;obtain⟨ag,gv,h⟩:=aB h;refine Hp jg (NV aa _ gv) _ ?_;refine n15 _ (n14 _ (inl (dI ?_)));exact n10 _ (inr ⟨_,bL rfl,j4 (i64.wrap (oE+(i64.wrap (ag-1)))) (i64.wrap (py+1)) h⟩)
   .exact c1 (eZ 0 _ (dV 0 _ (gm _ (dx _ (inl (aM ah [.bool (oE==0)]))))))
  exact dp h λn h=>j3 n 1 0 h
theorem ZL (a0 r) (h:FD a0=some r):aX al 179 [.ref (df a0)] (.bool r) []:=by
 refine bA [0] [.tmp 2] Tryz.func179 W0 λbs ah bw=>aj ?_;refine aE ah λ_ bB a7 _=>aj ?_;refine bo a7 λer fC bJ _ _=>?_;show a_ al (.seq _ ?c12) _ _;have vK:∀xY,AY a0 xY=some r->a_ al ?c12 er (ax [(0,.ref (df a0)),(6,.int .i64 a0.Kind),(7,.bool xY)]):=by
  intro xY h;refine aL h (λdi h=>?_) λdi h=>?_
  .refine dv (ch [(2,.bool (((a0.Number==0)&&(a0.Name==([]:aht)))&&((a0.ck.length:Int)==0)))] (λP bg=>?_) ?_)
   ·(rcases Bool.eq_false_or_eq_true (a0.Number==0)with rV|rV)<;>(rcases Bool.eq_false_or_eq_true (a0.Name==([]:aht))with n0|n0)<;>
     (simp only[aS.down,simprocAttr,rV,n0]
      exact bZ (af rV n0))
   exact dk bJ [.bool (((a0.Number==0)&&(a0.Name==([]:aht)))&&((a0.ck.length:Int)==0))]
  .refine aj ?_;refine aL h (λhI h=>?_) λhI h=>?_
   .exact aM bJ [.bool (a0.Number==0)]
   .refine aj ?_;refine aL h (λhC h=>?_) λhC h=>?_
    .refine k7 (a0.Number==0) [(2,.bool ((a0.Number==0)&&(a0.Name==([]:aht))))] ?_;exact dk bJ [.bool ((a0.Number==0)&&(a0.Name==([]:aht)))]
    .refine aj ?_;refine aL h (λjL h=>?_) λjL h=>?_
     .refine k7 (a0.Name==([]:aht)) [(2,.bool ((a0.Name==([]:aht))&&((a0.ck.length:Int)==0)))] ?_;exact dk bJ [.bool ((a0.Name==([]:aht))&&((a0.ck.length:Int)==0))]
     .refine aj ?_;refine aL h (λfu h=>?_) λfu h=>?_
      .exact aM bJ [.bool (a0.Name==([]:aht))]
      .exact aO (fC _ (bB _ (inl (aM ah [.bool false]))))
 refine aE bJ λ_ dJ _ _=>aj ?_;refine aL h (λgU h=>?_) λgU h=>?_
 .simp only[gU,yY.down];exact aO (dJ _ (inr ⟨_,bL rfl,vK true h⟩))
 .refine dI ?_;exact dJ _ (inr ⟨_,bL rfl,vK (a0.Kind==2) h⟩)
theorem ZM (a0 J r) (h:AZ a0 J=some r):aX al 111 [.slice (a0.map df),.int .i64 J] (.int .i64 r) []:=by
 refine bA [0] [.tmp 4] Tryz.func111 W1 λbs ah bw=>aj ?_;refine aj ?_;refine aE ah λ_ fH db _=>bo db λer _ bJ bO _=>?_;show a_ al (.loop ?eo) _ _;have eM:∀n aQ aJ,u4 a0 n aQ aJ=some r->cR al ?eo er (ax [(0,.slice (a0.map df)),(1,.int .i64 aQ),(5,.int .i64 aJ)]):=by
  refine c7 λ_ eD aQ aJ h=>c6 bJ λ_ dJ cJ ba=>aE cJ λ_ n6 _ bP=>aj ?_;refine aL h (λb9 h=>?_) λb9 h=>?_
  .refine aO (n6 _ (inl (bo cJ λ_ cn _ _ _=>?_)));obtain⟨aa,lP,h⟩:=aB h;obtain⟨ag,dD,h⟩:=aB h;refine fc lP (NV aa _ dD) _ ?_;refine dI ?_;exact cn _ (dJ _ (inr ⟨_,bL rfl,eD (i64.wrap (aQ+1)) (i64.wrap (aJ+(i64.wrap (ag-1)))) h⟩))
  .exact c1 (bP 0 _ (ba 0 _ (bO _ (fH _ (inl (aM ah [.int .i64 aQ]))))))
 exact dp h λn h=>eM n J 1 h
theorem Hx (a0 J r) (h:rL a0 J=some r):aX al 79 [.ref (bU a0),.int .i64 J] (.int .i64 r) []:=by
 refine bA [0,1] [.tmp 4] Tryz.func79 W2 λbs ah bw=>aj ?_;refine aj ?_;refine aE ah λ_ fH db _=>aj ?_;refine bo db λy0 _ cJ cT _=>?_;show a_ al (.loop ?iG) _ _;have jw:∀n fR lX,ta a0 J n fR lX=some r->cR al ?iG y0 (ax [(0,.ref (bU a0)),(1,.int .i64 J),(5,.int .i64 fR),(6,.int .i64 lX)]):=by
  refine c7 λm8 jx fR lX h=>c6 cJ λj5 n6 dA bP=>aE dA λ_ dx _ cG=>aj ?_;refine aL h (λgm h=>?_) λgm h=>?_
  .refine aO (dx _ (inl ?_));show a_ al (.seq _ ?Hg) _ _;have Hy:∀u5 u6,xZ (ta a0 J m8) a0 J u5 u6=some r->a_ al ?Hg j5 (ax [(0,.ref (bU a0)),(1,.int .i64 J),(5,.int .i64 u5),(6,.int .i64 u6)]):=by
    intro u5 u6 h;refine dI ?_;exact n6 _ (inr ⟨_,bL rfl,jx u5 (i64.wrap (u6+1)) h⟩)
   refine aE dA λ_ n10 cV _=>bo cV λ_ n12 _ _ _=>?_;obtain⟨aa,ea,h⟩:=aB h;rcases eg h with⟨eI,h⟩|⟨eI,h⟩
   .obtain⟨ag,cC,h⟩:=aB h;refine fc (af ea eI) (ZM a0.Body lX _ cC) _ ?_;refine aL h (λjL h=>?_) λjL h=>?_
    .refine dI ?_;exact n12 _ (n10 _ (inr ⟨_,bL rfl,Hy (i64.wrap (fR+1)) lX h⟩))
    .exact aO (n12 _ (n10 _ (inr ⟨_,bL rfl,Hy fR lX h⟩)))
   .refine eH (af ea eI) _ ?_;refine qo rfl ?_;exact aO (n12 _ (n10 _ (inr ⟨_,bL rfl,Hy fR lX h⟩)))
  .exact c1 (cG 0 _ (bP 0 _ (cT _ (fH _ (inl (aM ah [.int .i64 fR]))))))
 exact dp h λn h=>jw n a0.cU 0 h
theorem ZN (a0 J r) (h:A0 a0 J=some r):aX al 199 [.ref (e0 a0),.int .i64 J] (.bool r) []:=by
 refine bA [0,1] [.tmp 4] Tryz.func199 W3 λbs ah bw=>aj ?_;refine aE ah λ_ bB a7 ag=>aj ?_;refine bo a7 λ_ fC bJ _ _=>aj ?_;refine aL h (λdi h=>?_) λdi h=>?_
 .obtain⟨aa,gL,h⟩:=aB h;refine cN (mi a0.Value 0 63 _ gL) _ ?_;exact dk bJ [.bool aa]
 .refine aj ?_;refine aL h (λfv h=>?_) λfv h=>?_
  .obtain⟨ag,dD,h⟩:=aB h;refine cN (mi a0.Value 0 (i64.wrap (J-1)) _ dD) _ ?_;exact dk bJ [.bool ag]
  .refine aj ?_;refine aL h (λhC h=>?_) λhC h=>?_
   .obtain⟨aK,cC,h⟩:=aB h;refine cN (mi a0.Value 0 8 _ cC) _ ?_;exact dk bJ [.bool aK]
   .refine aj ?_;refine aL h (λjv h=>?_) λjv h=>?_
    .exact aM bJ [.bool (a0.Value==0)]
    .exact aO (fC _ (bB _ (inl (aM ah [.bool false]))))
theorem ZO (a0 r) (h:FG a0=some r):aX al 200 [.ref (e0 a0)] (.int .i64 r) []:=by
 refine bA [0] [.tmp 2] Tryz.func200 W4 λbs ah bw=>aj ?_;refine aE ah λ_ bB a7 _=>aj ?_;refine bo a7 λ_ fC bJ _ _=>aj ?_;refine aL h (λdi h=>?_) λdi h=>?_
 .exact aM bJ [.int .i64 2]
 .refine aj ?_;refine aL h (λgm h=>?_) λgm h=>?_
  .exact aM bJ [.int .i64 1]
  .exact aO (fC _ (bB _ (inl (aM ah [.int .i64 0]))))
theorem ZP (a0 J a2 r) (h:A1 a0 J a2=some r):aX al 180 [.slice (a0.map e0),.int .i64 J,.int .i64 a2] (.bool r) []:=by
 refine bA [0,1,2] [.tmp 6] Tryz.func180 W5 λbs ah bw=>aj ?_;refine aE ah λ_ bB a7 ag=>aj ?_;refine aL h (λbO h=>?_) λbO h=>?_
 .exact aM a7 [.bool false]
 .refine aO (bB _ (inl (aj ?_)));refine aE ah λ_ dx eG _=>aj ?_;refine bo eG λkM _ bS gm _=>?_;show a_ al (.loop ?iK) _ _;have j3:∀n hY pz,u7 a0 J n hY pz=some r->cR al ?iK kM (ax [(0,.slice (a0.map e0)),(1,.int .i64 J),(7,.int .i64 hY),(8,.int .i64 pz)]):=by
   refine c7 λ_ j4 hY pz h=>c6 bS λ_ n10 cV dV=>aE cV λ_ n11 _ eZ=>aj ?_;refine aL h (λhc h=>?_) λhc h=>?_
   .refine aO (n11 _ (inl (aE cV λ_ n14 ee _=>bo ee λ_ n15 hp _ _=>aE hp λ_ n16 iM _=>?_)));rcases eg h with⟨jv,h⟩|⟨jv,h⟩
    .refine eH jv _ ?_;refine hU rfl ?_;exact aM iM [.bool false]
    .obtain⟨aa,iN,h⟩:=aB h;obtain⟨ag,jg,h⟩:=aB h;refine fc (af jv iN) (ZN aa J _ jg) _ ?_;refine aL h (λtD h=>?_) λtD h=>?_
     .exact aM iM [.bool false]
     .refine aO (n16 _ (inl ?_));obtain⟨aK,kO,h⟩:=aB h;refine Hp iN (ZO aa _ kO) _ ?_;refine n15 _ (n14 _ (inl (dI ?_)));exact n10 _ (inr ⟨_,bL rfl,j4 (i64.wrap (hY+(i64.wrap (aK-1)))) (i64.wrap (pz+1)) h⟩)
   .exact c1 (eZ 0 _ (dV 0 _ (gm _ (dx _ (inl (aM ah [.bool (hY==0)]))))))
  exact dp h λn h=>j3 n 1 0 h
theorem ZQ (a0 J a2 r) (h:x3 a0 J a2=some r):aX al 146 [.slice (a0.map bU),.ref (bU J),.int .i64 a2] (.int .i64 r) []:=by
 refine bA [0,1,2] [.tmp 6] Tryz.func146 c146 λbs ah bw=>aj ?_;obtain⟨aa,aR,h⟩:=aB h;refine eH aR _ ?_;refine aE ah λ_ fC bJ a6=>?_;obtain⟨ag,bV,h⟩:=aB h;refine dv (ch [(0,.slice (a0.map bU)),(1,.ref (bU J)),(2,.int .i64 a2),(7,.a1 (df aa)),(19,.bool (!ag))] (λP bg=>?_) ?_)
 .refine ey (ZL aa _ bV) rfl rfl (by simp only[aS.down,simprocAttr,jq,jr,js,dL, @cL _ je je (λ_=>Ha _)]<;>rfl) rfl (inr (by rfl)) ?_;simp only[aS.down,simprocAttr];exact bZ trivial
 refine aL h (λsE h=>?_) λsE h=>?_
 .exact aM bJ [.int .i64 2]
 .refine aO (fC _ (inl (aE ah λkM cn bS e_=>?_)));have NW:∀x2,A2 a0 J a2 aa x2=some r->a_ al Ni kM (ax [(0,.slice (a0.map bU)),(1,.ref (bU J)),(2,.int .i64 a2),(7,.a1 (df aa)),(28,.bool x2)]):=by
   intro x2 h;refine aL h (λfv h=>?_) λfv h=>?_
   .exact aM bS [.int .i64 3]
   .refine aO (cn _ (inl (aE ah λtE n12 jK _=>?_)));have y1:∀x1,td a0 J a2 aa x1=some r->a_ al Nj tE (ax [(0,.slice (a0.map bU)),(1,.ref (bU J)),(2,.int .i64 a2),(7,.a1 (df aa)),(51,.bool x1)]):=by
     intro x1 h;refine aL h (λhc h=>?_) λhc h=>?_
     .exact aM jK [.int .i64 4]
     .refine aO (n12 _ (inl (aj ?_)));have Ck:tc J a2 aa=some r->a_ al Nn bs (ax [(1,.ref (bU J)),(2,.int .i64 a2),(7,.a1 (df aa)),(8,.int .i64 (aa.ck.length:Int))]):=by
       intro h;refine aE ah λHz n17 hJ _=>?_;have HA:∀x0,u9 J a2 aa x0=some r->a_ al Nk Hz (ax [(1,.ref (bU J)),(2,.int .i64 a2),(7,.a1 (df aa)),(8,.int .i64 (aa.ck.length:Int)),(102,.bool x0)]):=by
        intro x0 h;refine aL h (λjv h=>?_) λjv h=>?_
        .exact aM hJ [.int .i64 6]
        .refine aO (n17 _ (inl ?_));obtain⟨aK,jg,h⟩:=aB h;refine cN (Hx J a2 _ jg) _ ?_;refine aE ah λ_ n22 kn _=>k7 (aa.Kind==4) [(7,.a1 (df aa)),(8,.int .i64 (aa.ck.length:Int)),(9,.int .i64 aK),(112,.bool ((aa.Kind==4)&&(decide (6<=aK))))] ?_;refine aL h (λgU h=>?_) λgU h=>?_
         .exact aM kn [.int .i64 7]
         .refine aO (n22 _ (inl (aE ah λ_ n26 pQ _=>aj ?_)));refine bo pQ λZR _ Hs jh _=>?_;have ZS:∀n pA pB,tb aa n pA pB=some r->cR al Nl ZR (ax [(7,.a1 (df aa)),(8,.int .i64 (aa.ck.length:Int)),(9,.int .i64 pA),(10,.int .i64 pB)]):=by
           refine c7 λ_ ZT pA pB h=>c6 Hs λ_ n29 Cl HB=>aE Cl λ_ n30 _ ZU=>aj ?_;refine aL h (λZV h=>?_) λZV h=>?_
           .refine aO (n30 _ (inl (aE Cl λ_ n33 ZW _=>bo ZW λ_ n34 ZX _ _=>?_)));obtain⟨a6,HC,h⟩:=aB h;obtain⟨ba,rW,h⟩:=aB h;refine fc HC (ZP a6 pA 15 _ rW) _ ?_;refine aL h (λHD h=>?_) λHD h=>?_
            .exact aM ZX [.int .i64 8]
            .refine aO (n34 _ (n33 _ (inl (dI ?_))));exact n29 _ (inr ⟨_,bL rfl,ZT pA (i64.wrap (pB+1)) h⟩)
           .exact c1 (ZU 1 _ (HB 1 _ (jh _ (n26 _ (inl (aM ah [.int .i64 0]))))))
          exact dp h λn h=>ZS n aK 0 h
       rcases eg h with⟨tF,h⟩|⟨tF,h⟩
       .rcases eg h with⟨tG,h⟩|⟨tG,h⟩
        .refine kY (ch (K:=dR _) [(1,.ref (bU J)),(2,.int .i64 a2),(7,.a1 (df aa)),(8,.int .i64 (aa.ck.length:Int)),(102,.bool true)] (λP bg=>?_) ?_)
         .simp only[aS.down,simprocAttr,tF,tG];exact bZ (af tF tG)
         exact inr ⟨_,bL rfl,HA true h⟩
        .obtain⟨bP,vL,h⟩:=aB h;refine kY (ch (K:=dR _) [(1,.ref (bU J)),(2,.int .i64 a2),(7,.a1 (df aa)),(8,.int .i64 (aa.ck.length:Int)),(102,.bool (bP.Kind !=1))] (λP bg=>?_) ?_)
         .simp only[aS.down,simprocAttr,tF,tG,vL];exact bZ (af tF (af tG vL))
         exact inr ⟨_,bL rfl,HA (bP.Kind !=1) h⟩
       .refine kY (ch (K:=dR _) [(1,.ref (bU J)),(2,.int .i64 a2),(7,.a1 (df aa)),(8,.int .i64 (aa.ck.length:Int)),(102,.bool false)] (λP bg=>?_) ?_)
        .simp only[aS.down,simprocAttr,tF];exact bZ tF
        exact inr ⟨_,bL rfl,HA false h⟩
      refine aE ah λ_ n16 iM _=>aj ?_;refine bo iM λ_ rX tH _ _=>aj ?_;refine aL h (λZY h=>?_) λZY h=>?_
      .refine dv (ch [(1,.ref (bU J)),(2,.int .i64 a2),(7,.a1 (df aa)),(8,.int .i64 (aa.ck.length:Int)),(69,.bool ((decide (2<(aa.ck.length:Int)))||((decide (0<(aa.ck.length:Int)))&&(aa.Name==([116,97,117]:aht)))))] (λP bg=>?_) ?_)
       ·(rcases Bool.eq_false_or_eq_true (decide (2<(aa.ck.length:Int)))with HE|HE)<;>(rcases Bool.eq_false_or_eq_true (decide (0<(aa.ck.length:Int)))with HF|HF)<;>
         (simp only[aS.down,simprocAttr,HE,HF]
          exact bZ (af HE HF))
       refine aL h (λZZ h=>?_) λZZ h=>?_
       .exact aM tH [.int .i64 5]
       .exact aO (rX _ (n16 _ (inr ⟨_,bL rfl,Ck h⟩)))
      .refine aj ?_;refine aL h (λHG h=>?_) λHG h=>?_
       .refine aj ?_;refine aL h (λHH h=>?_) λHH h=>?_
        .exact aM tH [.int .i64 5]
        .exact aO (rX _ (n16 _ (inr ⟨_,bL rfl,Ck h⟩)))
       .refine aj ?_;refine aL h (λtI h=>?_) λtI h=>?_
        .obtain⟨cG,Z0,h⟩:=aB h;refine eH Z0 _ ?_;refine aL h (λHI h=>?_) λHI h=>?_
         .exact aM tH [.int .i64 5]
         .exact aO (rX _ (n16 _ (inr ⟨_,bL rfl,Ck h⟩)))
        .exact aO (rX _ (n16 _ (inr ⟨_,bL rfl,Ck h⟩)))
    rcases eg h with⟨l1,h⟩|⟨l1,h⟩
    .obtain⟨e9,y2,h⟩:=aB h;rcases eg h with⟨oL,h⟩|⟨oL,h⟩
     .refine kY (ch (K:=dR _) [(0,.slice (a0.map bU)),(1,.ref (bU J)),(2,.int .i64 a2),(7,.a1 (df aa)),(51,.bool true)] (λP bg=>?_) ?_)
      ·(try simp only[aS.down,simprocAttr,l1,(gb oL)]);refine hk (mi aa.Number 1 7 _ y2) (hK:= ?_);simp only[aS.down,simprocAttr,l1,(gb oL)];exact bZ (af l1 (gb oL))
      exact inr ⟨_,bL rfl,y1 true h⟩
     .rcases eg h with⟨rY,h⟩|⟨rY,h⟩
      .obtain⟨e_,Z1,h⟩:=aB h;refine kY (ch (K:=dR _) [(0,.slice (a0.map bU)),(1,.ref (bU J)),(2,.int .i64 a2),(7,.a1 (df aa)),(51,.bool (!e_))] (λP bg=>?_) ?_)
       ·(try simp only[aS.down,simprocAttr,l1,(bC oL),rY]);refine hk (mi aa.Number 1 7 _ y2) (hK:= ?_);simp only[aS.down,simprocAttr,l1,(bC oL),rY];refine hk (mi aa.Number 0 (i64.wrap ((a0.length:Int)-1)) _ Z1) (hK:= ?_);simp only[aS.down,simprocAttr,l1,(bC oL),rY];exact bZ (af l1 (af (bC oL) rY))
       exact inr ⟨_,bL rfl,y1 (!e_) h⟩
      .refine kY (ch (K:=dR _) [(0,.slice (a0.map bU)),(1,.ref (bU J)),(2,.int .i64 a2),(7,.a1 (df aa)),(51,.bool false)] (λP bg=>?_) ?_)
       ·(try simp only[aS.down,simprocAttr,l1,(bC oL),rY]);refine hk (mi aa.Number 1 7 _ y2) (hK:= ?_);simp only[aS.down,simprocAttr,l1,(bC oL),rY];exact bZ (af l1 (af (bC oL) rY))
       exact inr ⟨_,bL rfl,y1 false h⟩
    .rcases eg h with⟨vM,h⟩|⟨vM,h⟩
     .obtain⟨dV,Z2,h⟩:=aB h;refine kY (ch (K:=dR _) [(0,.slice (a0.map bU)),(1,.ref (bU J)),(2,.int .i64 a2),(7,.a1 (df aa)),(51,.bool (!dV))] (λP bg=>?_) ?_)
      ·(try simp only[aS.down,simprocAttr,l1,vM]);refine hk (mi aa.Number 0 (i64.wrap ((a0.length:Int)-1)) _ Z2) (hK:= ?_);simp only[aS.down,simprocAttr,l1,vM];exact bZ (af l1 vM)
      exact inr ⟨_,bL rfl,y1 (!dV) h⟩
     .refine kY (ch (K:=dR _) [(0,.slice (a0.map bU)),(1,.ref (bU J)),(2,.int .i64 a2),(7,.a1 (df aa)),(51,.bool false)] (λP bg=>?_) ?_)
      .simp only[aS.down,simprocAttr,l1,vM];exact bZ (af l1 vM)
      exact inr ⟨_,bL rfl,y1 false h⟩
  rcases eg h with⟨rZ,h⟩|⟨rZ,h⟩
  .obtain⟨eZ,Z3,h⟩:=aB h;refine kY (ch (K:=dR _) [(0,.slice (a0.map bU)),(1,.ref (bU J)),(2,.int .i64 a2),(7,.a1 (df aa)),(28,.bool (!eZ))] (λP bg=>?_) ?_)
   ·(try simp only[aS.down,simprocAttr,rZ]);refine hk (yZ aa.Name _ Z3) (hK:= ?_);simp only[aS.down,simprocAttr,rZ];exact bZ rZ
   exact inr ⟨_,bL rfl,NW (!eZ) h⟩
  .refine kY (ch (K:=dR _) [(0,.slice (a0.map bU)),(1,.ref (bU J)),(2,.int .i64 a2),(7,.a1 (df aa)),(28,.bool false)] (λP bg=>?_) ?_)
   .simp only[aS.down,simprocAttr,rZ];exact bZ rZ
   exact inr ⟨_,bL rfl,NW false h⟩
theorem Z4 (a0 J r) (h:tf a0 J=some r):aX al 108 [.slice (a0.map bU),.ref (bU J)] (.tuple [.int .i64 r.1,.int .i64 r.2]) []:=by
 refine bA [0,1] [.tmp 4,.tmp 5] Tryz.func108 W8 λbs ah bw=>aj ?_;refine aE ah λ_ bB a7 ag=>?_;obtain⟨aa,b4,h⟩:=aB h;refine cN (ZK J.Body _ b4) _ ?_;refine aL h (λcT h=>?_) λcT h=>?_
 .exact aM a7 [.int .i64 0,.int .i64 1]
 .refine aO (bB _ (inl (aE ah λ_ dx eG _=>aj ?_)));refine bo eG λkM _ bS gm _=>?_;show a_ al (.loop ?hb) _ _;have hf:∀n nf,te a0 J n nf=some r->cR al ?hb kM (ax [(0,.slice (a0.map bU)),(1,.ref (bU J)),(6,.int .i64 nf)]):=by
   refine c7 λ_ gQ nf h=>c6 bS λ_ n10 cV dV=>aE cV λ_ n11 _ eZ=>aj ?_;refine aL h (λhc h=>?_) λhc h=>?_
   .refine aO (n11 _ (inl (aE cV λ_ n14 ee _=>bo ee λ_ n15 hp _ _=>?_)));obtain⟨ag,ef,h⟩:=aB h;refine cN (ZQ a0 J nf _ ef) _ ?_;refine aj ?_;refine aL h (λfJ h=>?_) λfJ h=>?_
    .exact aM hp [.int .i64 nf,.int .i64 ag]
    .refine aO (n15 _ (n14 _ (inl (dI ?_))));exact n10 _ (inr ⟨_,bL rfl,gQ (i64.wrap (nf+1)) h⟩)
   .exact c1 (eZ 0 _ (dV 0 _ (gm _ (dx _ (inl (aM ah [.int .i64 0,.int .i64 0]))))))
  exact dp h λn h=>hf n 0 h
theorem Z5 (a0 r) (h:A4 a0=some r):aX al 73 [.slice (a0.map bU)] (.bool r) []:=by
 refine bA [0] [.tmp 2] Tryz.func73 W9 λbs ah bw=>aj ?_;refine aE ah λ_ bB a7 ag=>k7 ((a0.length:Int)==0) [(0,.slice (a0.map bU)),(15,.bool (((a0.length:Int)==0)||(decide (4<(a0.length:Int)))))] ?_;refine aL h (λbO h=>?_) λbO h=>?_
 .exact aM a7 [.bool false]
 .refine aO (bB _ (inl (aE ah λ_ n6 dA bP=>aj ?_)));refine bo dA λiO _ hB b9 _=>?_;show a_ al (.loop ?hb) _ _;have hf:∀n cY,qv a0 n cY=some r->cR al ?hb iO (ax [(0,.slice (a0.map bU)),(3,.int .i64 cY)]):=by
   refine c7 λm14 gQ cY h=>c6 hB λ_ cn bS e_=>aE bS λ_ n10 _ dV=>aj ?_;refine aL h (λfK h=>?_) λfK h=>?_
   .refine aO (n10 _ (inl (aE bS λ_ n13 fI _=>bo fI λ_ n14 ee _ _=>aE ee λ_ n15 hp _=>?_)));obtain⟨aa,ef,h⟩:=aB h;obtain⟨ag,dZ,h⟩:=aB h;rcases eg h with⟨fJ,h⟩|⟨fJ,h⟩
    .refine fc (af ef (gb fJ)) (yZ aa.Name _ dZ) _ ?_;refine hU rfl ?_;exact aM hp [.bool false]
    .obtain⟨aK,jg,h⟩:=aB h;refine dv (ch [(0,.slice (a0.map bU)),(3,.int .i64 cY),(37,.bool (!aK))] (λP bg=>?_) ?_)
     ·(try simp only[aS.down,simprocAttr,ef,(bC fJ)]);refine ey (yZ aa.Name _ dZ) (hK:= ?_);simp only[aS.down,simprocAttr,ef,(bC fJ)];refine hk (mi aa.cU 0 3 _ jg) (hK:= ?_);simp only[aS.down,simprocAttr,ef,(bC fJ)];exact bZ (af ef (bC fJ))
     refine aL h (λtD h=>?_) λtD h=>?_
     .exact aM hp [.bool false]
     .refine aO (n15 _ (inl (aj ?_)));refine bo ee λZ6 _ qG oM _=>?_;show a_ al (.loop ?yW) _ _;have HJ:∀n nS pC,u_ (qv a0 m14) a0 n nS pC=some r->cR al ?yW Z6 (ax [(0,.slice (a0.map bU)),(3,.int .i64 nS),(4,.int .i64 pC)]):=by
       refine c7 λ_ HK nS pC h=>c6 qG λ_ n26 pQ HL=>aE pQ λ_ n27 _ Z7=>aj ?_;refine aL h (λji h=>?_) λji h=>?_
       .refine aO (n27 _ (inl (aE pQ λ_ n30 Z8 _=>bo Z8 λ_ n31 Z9 _ _=>?_)));obtain⟨a6,qH,h⟩:=aB h;obtain⟨ba,lC,h⟩:=aB h;refine pP (af qH lC) _ ?_;refine aL h (λy3 h=>?_) λy3 h=>?_
        .exact aM Z9 [.bool false]
        .refine aO (n31 _ (n30 _ (inl (dI ?_))));exact n26 _ (inr ⟨_,bL rfl,HK nS (i64.wrap (pC+1)) h⟩)
       .refine c1 (Z7 2 _ (HL 2 _ (oM _ (n14 _ (n13 _ (inl (dI ?_)))))));exact cn _ (inr ⟨_,bL rfl,gQ (i64.wrap (nS+1)) h⟩)
      exact dp h λn h=>HJ n cY 0 h
   .refine c1 (dV 0 _ (e_ 0 _ (b9 _ (n6 _ (inl (aE ah λ_ n39 Cm _=>aj ?_))))));refine bo Cm λZ_ _ vN HM _=>?_;show a_ al (.loop ?aaa) _ _;have aab:∀n pD,tg a0 n pD=some r->cR al ?aaa Z_ (ax [(0,.slice (a0.map bU)),(5,.int .i64 pD)]):=by
     refine c7 λ_ aac pD h=>c6 vN λ_ HN NX HO=>aE NX λ_ HP _ aad=>aj ?_;refine aL h (λy4 h=>?_) λy4 h=>?_
     .refine aO (HP _ (inl (aE NX λ_ HQ HR _=>bo HR λ_ rX tH _ _=>?_)));obtain⟨bP,Cn,h⟩:=aB h;obtain⟨cG,HS,h⟩:=aB h;refine fc Cn (Z4 a0 bP _ HS) _ ?_;refine aj ?_;refine aL h (λHT h=>?_) λHT h=>?_
      .exact aM tH [.bool false]
      .refine aO (rX _ (HQ _ (inl (dI ?_))));exact HN _ (inr ⟨_,bL rfl,aac (i64.wrap (pD+1)) h⟩)
     .exact c1 (aad 4 _ (HO 4 _ (HM _ (n39 _ (inl (aM ah [.bool true]))))))
    exact dp h λn h=>aab n 0 h
  exact dp h λn h=>hf n 0 h
theorem NY (a0 r) (h:x4 a0=some r):aX al 80 [.slice (a0.map cA)] (.bool r) []:=by
 refine bA [0] [.tmp 2] Tryz.func80 c80 λbs ah bw=>aj ?_;refine aE ah λ_ bB a7 ag=>aj ?_;refine bo a7 λer _ bJ bO _=>?_;show a_ al (.loop ?eo) _ _;have eM:∀n j2,va a0 n j2=some r->cR al ?eo er (ax [(0,.slice (a0.map cA)),(3,.int .i64 j2)]):=by
  refine c7 λ_ eD j2 h=>c6 bJ λ_ dJ cJ ba=>aE cJ λ_ n6 _ bP=>aj ?_;refine aL h (λb9 h=>?_) λb9 h=>?_
  .refine aO (n6 _ (inl (aE cJ λ_ cn bS _=>bo bS λ_ n10 cV _ _=>?_)));obtain⟨aa,dD,h⟩:=aB h;obtain⟨ag,dE,h⟩:=aB h;refine fc dD (mi aa 0 63 _ dE) _ ?_;refine aL h (λhC h=>?_) λhC h=>?_
   .exact aM cV [.bool false]
   .refine aO (n10 _ (cn _ (inl (dI ?_))));exact dJ _ (inr ⟨_,bL rfl,eD (i64.wrap (j2+1)) h⟩)
  .exact c1 (bP 0 _ (ba 0 _ (bO _ (bB _ (inl (aM ah [.bool true]))))))
 exact dp h λn h=>eM n 0 h
theorem aae (a0 r) (h:A5 a0=some r):aX al 74 [.ref (fj a0)] (.bool r) []:=by
 refine bA [0] [.tmp 2] Tryz.func74 W_ λbs ah bw=>aj ?_;refine aE ah λ_ bB a7 ag=>k7 ((a0.cw.length:Int)==0) [(0,.ref (fj a0)),(18,.bool (((a0.cw.length:Int)==0)||(decide (3<(a0.cw.length:Int)))))] ?_;refine aL h (λbO h=>?_) λbO h=>?_
 .exact aM a7 [.bool false]
 .refine aO (bB _ (inl (aE ah λ_ n6 dA _=>aj ?_)));refine bo dA λiO _ hB b9 _=>?_;show a_ al (.loop ?hb) _ _;have hf:∀n cY,vb a0 n cY=some r->cR al ?hb iO (ax [(0,.ref (fj a0)),(3,.int .i64 cY)]):=by
   refine c7 λ_ gQ cY h=>c6 hB λ_ cn bS e_=>aE bS λ_ n10 _ dV=>aj ?_;refine aL h (λfK h=>?_) λfK h=>?_
   .refine aO (n10 _ (inl (aE bS λ_ n13 fI _=>bo fI λ_ n14 ee _ _=>?_)));obtain⟨aa,cC,h⟩:=aB h;refine eH cC _ ?_;refine aE ee λ_ n17 hJ _=>?_;obtain⟨ag,fT,h⟩:=aB h;refine Zj (mi aa.dd 0 (i64.wrap ((a0.br.length:Int)-1)) _ fT) _ ?_;refine aL h (λfu h=>?_) λfu h=>?_
    .exact aM hJ [.bool false]
    .refine aO (n17 _ (inl ?_));obtain⟨aK,ko,h⟩:=aB h;rcases eg h with⟨gU,h⟩|⟨gU,h⟩
     .refine pP (af ko gU) _ ?_;refine hU rfl ?_;exact aM ee [.bool false]
     .obtain⟨a6,oN,h⟩:=aB h;refine k6 (af ko gU) (NY aa.b5 _ oN) _ ?_;refine aL h (λmj h=>?_) λmj h=>?_
      .exact aM ee [.bool false]
      .refine aO (n14 _ (n13 _ (inl (dI ?_))));exact cn _ (inr ⟨_,bL rfl,gQ (i64.wrap (cY+1)) h⟩)
   .exact c1 (dV 0 _ (e_ 0 _ (b9 _ (n6 _ (inl (aM ah [.bool true]))))))
  exact dp h λn h=>hf n 0 h
theorem pR (a0 r) (h:th a0=some r):aX al 109 [.str a0] (.bool r) []:=by
 refine bA [0] [.tmp 2] Tryz.func109 c109 λbs ah bw=>aj ?_;obtain⟨aa,aR,h⟩:=aB h;refine dv (ch [(2,.bool (aa&&(!(a0==([116,97,117]:aht)))))] (λP bg=>?_) ?_)
 .rcases Bool.eq_false_or_eq_true (aa)with ke|ke
  ·(try simp only[aS.down,simprocAttr,ke]);refine ey (yZ a0 _ aR) (hK:= ?_);simp only[aS.down,simprocAttr,ke];exact bZ ke
  ·(try simp only[aS.down,simprocAttr,ke]);refine ey (yZ a0 _ aR) (hK:= ?_);simp only[aS.down,simprocAttr,ke];exact bZ ke
 exact dk ah [.bool (aa&&(!(a0==([116,97,117]:aht))))]
theorem aaf (a0 r) (h:A6 a0=some r):aX al 75 [.slice (a0.map cb)] (.bool r) []:=by
 refine bA [0] [.tmp 2] Tryz.func75 c75 λbs ah bw=>aj ?_;refine aE ah λ_ bB a7 ag=>aj ?_;refine aL h (λbO h=>?_) λbO h=>?_
 .exact aM a7 [.bool false]
 .refine aO (bB _ (inl (aE ah λ_ n6 dA bP=>aj ?_)));refine bo dA λiO _ hB b9 _=>?_;show a_ al (.loop ?hb) _ _;have hf:∀n cY,oF a0 n cY=some r->cR al ?hb iO (ax [(0,.slice (a0.map cb)),(3,.int .i64 cY)]):=by
   refine c7 λm14 gQ cY h=>c6 hB λ_ cn bS e_=>aE bS λ_ n10 _ dV=>aj ?_;refine aL h (λfK h=>?_) λfK h=>?_
   .refine aO (n10 _ (inl (aE bS λ_ n13 fI _=>bo fI λ_ n14 ee _ _=>?_)));obtain⟨aa,cC,h⟩:=aB h;refine eH cC _ ?_;refine aE ee λ_ n17 hJ _=>?_;obtain⟨ag,fT,h⟩:=aB h;rcases eg h with⟨fu,h⟩|⟨fu,h⟩
    .refine fc (gb fu) (pR aa.Left _ fT) _ ?_;refine hU rfl ?_;exact aM hJ [.bool false]
    .obtain⟨aK,gv,h⟩:=aB h;rcases eg h with⟨fL,h⟩|⟨fL,h⟩
     .refine dv (ch [(0,.slice (a0.map cb)),(3,.int .i64 cY),(4,.a1 (cb aa)),(41,.bool true)] (λP bg=>?_) ?_)
      ·(try simp only[aS.down,simprocAttr,(bC fu),(gb fL)]);refine ey (pR aa.Left _ fT) (hK:= ?_);simp only[aS.down,simprocAttr,(bC fu),(gb fL)];refine hk (pR aa.b0 _ gv) (hK:= ?_);simp only[aS.down,simprocAttr,(bC fu),(gb fL)];exact bZ (af (bC fu) (gb fL))
      refine hU rfl ?_;exact aM hJ [.bool false]
     .obtain⟨a6,kO,h⟩:=aB h;refine dv (ch [(0,.slice (a0.map cb)),(3,.int .i64 cY),(4,.a1 (cb aa)),(41,.bool ((!a6)||(!(Op.bytesLess aa.Left aa.b0||aa.Left==aa.b0))))] (λP bg=>?_) ?_)
      .rcases Bool.eq_false_or_eq_true (a6)with oO|oO
       ·(try simp only[aS.down,simprocAttr,(bC fu),(bC fL),oO]);refine ey (pR aa.Left _ fT) (hK:= ?_);simp only[aS.down,simprocAttr,(bC fu),(bC fL),oO];refine hk (pR aa.b0 _ gv) (hK:= ?_);simp only[aS.down,simprocAttr,(bC fu),(bC fL),oO];refine hk (pR aa.Result _ kO) (hK:= ?_);simp only[aS.down,simprocAttr,(bC fu),(bC fL),oO];exact bZ (af (bC fu) (af (bC fL) oO))
       ·(try simp only[aS.down,simprocAttr,(bC fu),(bC fL),oO]);refine ey (pR aa.Left _ fT) (hK:= ?_);simp only[aS.down,simprocAttr,(bC fu),(bC fL),oO];refine hk (pR aa.b0 _ gv) (hK:= ?_);simp only[aS.down,simprocAttr,(bC fu),(bC fL),oO];refine hk (pR aa.Result _ kO) (hK:= ?_);simp only[aS.down,simprocAttr,(bC fu),(bC fL),oO];exact bZ (af (bC fu) (af (bC fL) oO))
      refine aL h (λmj h=>?_) λmj h=>?_
      .exact aM hJ [.bool false]
      .refine aO (n17 _ (inl (aE ee λ_ n29 Cl _=>?_)));rcases eg h with⟨hh,h⟩|⟨hh,h⟩
       .obtain⟨ba,Co,h⟩:=aB h;refine kh rfl (jH [(0,.slice (a0.map cb)),(3,.int .i64 cY),(4,.a1 (cb aa)),(76,.bool ((!(Op.bytesLess ba.Left aa.Left||ba.Left==aa.Left))||((ba.Left==aa.Left)&&(!(Op.bytesLess ba.b0 aa.b0)))))] (λP bg=>?_) ?_)
        ·(rcases Bool.eq_false_or_eq_true (Op.bytesLess ba.Left aa.Left)with HU|HU)<;>(rcases Bool.eq_false_or_eq_true (ba.Left==aa.Left)with HV|HV)<;>
          (simp only[dX.down,simprocAttr,hh,Co,HU,HV]
           refine⟨jI (by kernel_rfl),?_⟩;exact bZ (af hh (af Co (af HU HV))))
        refine aL h (λy3 h=>?_) λy3 h=>?_
        .exact aM Cl [.bool false]
        .refine aO (n29 _ (inl (aj ?_)));refine bo ee λaag _ HW HD _=>?_;show a_ al (.loop ?yU) _ _;have HX:∀n k1 lv,qw (oF a0 m14) a0 aa n k1 lv=some r->cR al ?yU aag (ax [(0,.slice (a0.map cb)),(3,.int .i64 k1),(4,.a1 (cb aa)),(5,.int .i64 lv)]):=by
          refine c7 λaah HY k1 lv h=>c6 HW λ_ n39 Cm aai=>aE Cm λ_ aaj _ aak=>aj ?_;refine aL h (λaal h=>?_) λaal h=>?_
          .refine aO (aaj _ (inl (aE Cm λ_ HP aam _=>bo aam λ_ aan aao _ _=>?_)));obtain⟨bP,aap,h⟩:=aB h;refine NK (bP.Left==aa.Result) aap [(0,.slice (a0.map cb)),(3,.int .i64 k1),(4,.a1 (cb aa)),(5,.int .i64 lv),(100,.bool ((bP.Left==aa.Result)||(bP.b0==aa.Result)))] ?_;refine aL h (λaaq h=>?_) λaaq h=>?_
           .exact aM aao [.bool false]
           .refine aO (aan _ (HP _ (inl (dI ?_))));exact n39 _ (inr ⟨_,bL rfl,HY k1 (i64.wrap (lv+1)) h⟩)
          .refine c1 (aak 2 _ (aai 2 _ (HD _ (n14 _ (n13 _ (inl (dI ?_)))))));exact cn _ (inr ⟨_,bL rfl,gQ (i64.wrap (k1+1)) h⟩)
         exact dp h λn h=>HX n cY 0 h
       .refine pP hh _ ?_;refine qo rfl ?_;refine aO (n29 _ (inl (aj ?_)));refine bo ee λaar _ aas HT _=>?_;show a_ al (.loop ?yU) _ _;have HX:∀n k1 lv,qw (oF a0 m14) a0 aa n k1 lv=some r->cR al ?yU aar (ax [(0,.slice (a0.map cb)),(3,.int .i64 k1),(4,.a1 (cb aa)),(5,.int .i64 lv)]):=by
         refine c7 λaah HY k1 lv h=>c6 aas λ_ HZ Cp aat=>aE Cp λ_ aau _ aav=>aj ?_;refine aL h (λHG h=>?_) λHG h=>?_
         .refine aO (aau _ (inl (aE Cp λ_ aaw aax _=>bo aax λ_ aay aaz _ _=>?_)));obtain⟨cG,aaA,h⟩:=aB h;refine NK (cG.Left==aa.Result) aaA [(0,.slice (a0.map cb)),(3,.int .i64 k1),(4,.a1 (cb aa)),(5,.int .i64 lv),(100,.bool ((cG.Left==aa.Result)||(cG.b0==aa.Result)))] ?_;refine aL h (λtI h=>?_) λtI h=>?_
          .exact aM aaz [.bool false]
          .refine aO (aay _ (aaw _ (inl (dI ?_))));exact HZ _ (inr ⟨_,bL rfl,HY k1 (i64.wrap (lv+1)) h⟩)
         .refine c1 (aav 2 _ (aat 2 _ (HT _ (n14 _ (n13 _ (inl (dI ?_)))))));exact cn _ (inr ⟨_,bL rfl,gQ (i64.wrap (k1+1)) h⟩)
        exact dp h λn h=>HX n cY 0 h
   .exact c1 (dV 0 _ (e_ 0 _ (b9 _ (n6 _ (inl (aM ah [.bool true]))))))
  exact dp h λn h=>hf n 0 h
theorem aaB (a0 r) (h:A7 a0=some r):aX al 110 [.slice (a0.map bn)] (.bool r) []:=by
 refine bA [0] [.tmp 2] Tryz.func110 Xa λbs ah bw=>aj ?_;refine aE ah λ_ bB a7 ag=>aj ?_;refine bo a7 λer _ bJ bO _=>?_;show a_ al (.loop ?eo) _ _;have eM:∀n j2,vc a0 n j2=some r->cR al ?eo er (ax [(0,.slice (a0.map bn)),(3,.int .i64 j2)]):=by
  refine c7 λ_ eD j2 h=>c6 bJ λ_ dJ cJ ba=>aE cJ λ_ n6 _ bP=>aj ?_;refine aL h (λb9 h=>?_) λb9 h=>?_
  .refine aO (n6 _ (inl (aE cJ λ_ cn bS _=>bo bS λ_ n10 cV _ _=>?_)));obtain⟨aa,dD,h⟩:=aB h;obtain⟨ag,dE,h⟩:=aB h;refine fc dD (pR aa _ dE) _ ?_;refine aL h (λhC h=>?_) λhC h=>?_
   .exact aM cV [.bool false]
   .refine aO (n10 _ (cn _ (inl (dI ?_))));exact dJ _ (inr ⟨_,bL rfl,eD (i64.wrap (j2+1)) h⟩)
  .exact c1 (bP 0 _ (ba 0 _ (bO _ (bB _ (inl (aM ah [.bool true]))))))
 exact dp h λn h=>eM n 0 h
theorem NZ (a0 r) (h:x5 a0=some r):aX al 76 [.slice (a0.map bn)] (.bool r) []:=by
 refine bA [0] [.tmp 2] Tryz.func76 c76 λbs ah bw=>aj ?_;refine aE ah λ_ bB a7 ag=>?_;rcases eg h with⟨bO,h⟩|⟨bO,h⟩
 .refine eH bO _ ?_;refine hU rfl ?_;exact aM a7 [.bool false]
 .obtain⟨aa,bV,h⟩:=aB h;refine fc bO (aaB a0 _ bV) _ ?_;refine aL h (λsE h=>?_) λsE h=>?_
  .exact aM a7 [.bool false]
  .refine aO (bB _ (inl (aE ah λ_ cn bS _=>aj ?_)));refine bo bS λy5 _ hd hI _=>?_;show a_ al (.loop ?hb) _ _;have hf:∀n cY,nT a0 n cY=some r->cR al ?hb y5 (ax [(0,.slice (a0.map bn)),(3,.int .i64 cY)]):=by
    refine c7 λ_ gQ cY h=>c6 hd λ_ n12 jK pK=>aE jK λ_ n13 _ oI=>aj ?_;refine aL h (λeI h=>?_) λeI h=>?_
    .refine aO (n13 _ (inl (aE jK λ_ n16 iM _=>bo iM λ_ n17 hJ _ _=>?_)));obtain⟨ag,fT,h⟩:=aB h;obtain⟨aK,iN,h⟩:=aB h;refine pP (af fT iN) _ ?_;refine aL h (λr0 h=>?_) λr0 h=>?_
     .exact aM hJ [.bool false]
     .refine aO (n17 _ (n16 _ (inl (dI ?_))));exact n12 _ (inr ⟨_,bL rfl,gQ (i64.wrap (cY+1)) h⟩)
    .exact c1 (oI 0 _ (pK 0 _ (hI _ (cn _ (inl (aM ah [.bool true]))))))
   exact dp h λn h=>hf n 1 h
theorem aaC (a0 r) (h:A9 a0=some r):aX al 45 [.ref (fj a0)] (.int .i64 r) []:=by
 refine bA [0] [.tmp 2] Tryz.func45 Xb λbs ah bw=>aj ?_;refine aE ah λ_ bB a7 ag=>?_;obtain⟨aa,b4,h⟩:=aB h;refine cN (Z5 a0.br _ b4) _ ?_;refine aL h (λcT h=>?_) λcT h=>?_
 .exact aM a7 [.int .i64 1]
 .refine aO (bB _ (inl (aE ah λ_ dx eG _=>?_)));obtain⟨ag,kT,h⟩:=aB h;refine cN (aae a0 _ kT) _ ?_;refine aL h (λfv h=>?_) λfv h=>?_
  .exact aM eG [.int .i64 2]
  .refine aO (dx _ (inl (aE ah λ_ n12 jK _=>?_)));obtain⟨aK,ea,h⟩:=aB h;refine cN (aaf a0.gP _ ea) _ ?_;refine aL h (λeI h=>?_) λeI h=>?_
   .exact aM jK [.int .i64 3]
   .refine aO (n12 _ (inl (aE ah λ_ n17 hJ _=>?_)));obtain⟨a6,fT,h⟩:=aB h;refine cN (NZ a0.gF _ fT) _ ?_;refine aL h (λfu h=>?_) λfu h=>?_
    .exact aM hJ [.int .i64 4]
    .refine aO (n17 _ (inl (aE ah λ_ n22 kn _=>?_)));obtain⟨ba,jy,h⟩:=aB h;refine cN (NZ a0.gG _ jy) _ ?_;refine aL h (λoM h=>?_) λoM h=>?_
     .exact aM kn [.int .i64 5]
     .exact aO (n22 _ (inl (aM ah [.int .i64 0])))
theorem aaD (a0 r) (h:A_ a0=some r):aX al 17 [.ref (fj a0)] (.bool r) []:=by
 refine bA [0] [.tmp 2] Tryz.func17 Xc λbs ah bw=>aj ?_;obtain⟨aa,aR,h⟩:=aB h;refine cN (aaC a0 _ aR) _ ?_;exact dk ah [.bool (aa==0)]
theorem H0 (a0 J r) (h:vd a0 J=some r):aX al 18 [.str a0,.int .u8 (J.toNat:Int)] (.ao 1 (r.map bn)) []:=by
 refine bA [0,1] [.tmp 4] Tryz.func18 Hh λbs ah bw=>aj ?_;refine eH (show∀s,f_ al s 25 0 []=some (.ao 1 [],s)from λs=>by kernel_rfl) _ ?_;refine aj ?_;refine aE ah λ_ fC bJ _=>aj ?_;refine bo bJ λj5 _ dA di _=>?_;show a_ al (.loop ?yX) _ _;have aaE:∀n lx pE k2,ti a0 J n lx pE k2=some r->cR al ?yX j5 (ax [(0,.str a0),(1,.int .u8 (J.toNat:Int)),(5,.ao 1 (lx.map bn)),(6,.int .i64 pE),(7,.int .i64 k2)]):=by
  refine c7 λm10 aaF lx pE k2 h=>c6 dA λaaG dx eG cG=>aE eG λ_ ig _ e9=>aj ?_;refine aL h (λfv h=>?_) λfv h=>?_
  .refine aO (ig _ (inl ?_));show a_ al (.seq _ ?yV) _ _;have N0:∀kk kJ ju,Ba (ti a0 J m10) a0 J kk kJ ju=some r->a_ al ?yV aaG (ax [(0,.str a0),(1,.int .u8 (J.toNat:Int)),(5,.ao 1 (kk.map bn)),(6,.int .i64 kJ),(7,.int .i64 ju)]):=by
    intro kk kJ ju h;refine dI ?_;exact dx _ (inr ⟨_,bL rfl,aaF kk kJ (i64.wrap (ju+1)) h⟩)
   refine aE eG λ_ n11 hd _=>bo hd λ_ n13 _ _ _=>?_;obtain⟨aa,d_,h⟩:=aB h;refine eH d_ _ ?_;refine aL h (λml h=>?_) λml h=>?_
   .obtain⟨ag,dZ,h⟩:=aB h;obtain⟨Cq,fT,h⟩:=aB h;(try simp only[oK.down,Nat.zero_add,Nat.add_zero,reduceAdd]at fT);refine eH (af dZ (af (show∀s,f_ al s 25 1 [(0,.str ag)]=some (.ao 1 [.str ag],s)from λs=>by kernel_rfl) (af (@sZ al 25 25 9 rfl rfl) (af @s0 (af @s3 (af @s4 (af @sW (af @all_nil (af fT (@oy _ bn 1 λ_=>rfl)))))))))) [(0,.str a0),(1,.int .u8 (J.toNat:Int)),(5,.ao 1 ((lx++[ag]).map bn)),(7,.int .i64 k2)] ?_;refine wr [(0,.str a0),(1,.int .u8 (J.toNat:Int)),(5,.ao 1 ((lx++[ag]).map bn)),(6,.int .i64 (i64.wrap (k2+1))),(7,.int .i64 k2)] ?_;exact n13 _ (n11 _ (inr ⟨_,bL rfl,N0 (lx++[ag]) (i64.wrap (k2+1)) k2 h⟩))
   .exact aO (n13 _ (n11 _ (inr ⟨_,bL rfl,N0 lx pE k2 h⟩)))
  .refine c1 (e9 0 _ (cG 0 _ (di _ (fC _ (inl ?_)))));obtain⟨aK,gv,h⟩:=aB h;obtain⟨ahe,ko,h⟩:=aB h;(try simp only[oK.down,Nat.zero_add,Nat.add_zero,reduceAdd]at ko);refine eH (af gv (af (show∀s,f_ al s 25 1 [(0,.str aK)]=some (.ao 1 [.str aK],s)from λs=>by kernel_rfl) (af (@sZ al 25 25 9 rfl rfl) (af @s0 (af @s3 (af @s4 (af @sW (af @all_nil (af ko (@oy _ bn 1 λ_=>rfl)))))))))) [(4,.ao 1 ((lx++[aK]).map bn))] ?_;exact dk ah [.ao 1 ((lx++[aK]).map bn)]
 exact dp h λn h=>aaE n [] 0 0 h
theorem N1 (a0 r) (h:x7 a0=some r):aX al 46 [.str a0] (.tuple [.int .i64 r.1,.bool r.2]) []:=by
 refine bA [0] [.tmp 2,.tmp 3] Tryz.func46 c46 λbs ah bw=>aj ?_;refine aj ?_;show a_ al (.seq _ ?yX) _ _;have H2:∀jJ,ve a0 jJ=some r->a_ al ?yX bs (ax [(0,.str a0),(4,.int .i64 jJ)]):=by
  intro jJ h;refine aE ah λ_ fC bJ a6=>?_;rcases eg h with⟨di,h⟩|⟨di,h⟩
  .refine eH di _ ?_;refine hU rfl ?_;exact aM bJ [.int .i64 0,.bool false]
  .rcases eg h with⟨b9,h⟩|⟨b9,h⟩
   .refine eH (af di b9) _ ?_;refine hU rfl ?_;exact aM bJ [.int .i64 0,.bool false]
   .obtain⟨aa,lO,h⟩:=aB h;rcases eg h with⟨hI,h⟩|⟨hI,h⟩
    .refine eH (af di (af b9 (af lO hI))) _ ?_;refine aL h (λfK h=>?_) λfK h=>?_
     .exact aM bJ [.int .i64 0,.bool false]
     .refine aO (fC _ (inl (aj ?_)));refine aE ah λ_ n15 hp _=>aj ?_;refine bo hp λHz _ hJ jL _=>?_;show a_ al (.loop ?c24) _ _;have H3:∀n kK mh,qx a0 jJ n kK mh=some r->cR al ?c24 Hz (ax [(0,.str a0),(4,.int .i64 jJ),(5,.int .i64 kK),(6,.int .i64 mh)]):=by
       refine c7 λm24 H4 kK mh h=>c6 hJ λ_ n18 qI H5=>aE qI λ_ n19 _ H6=>aj ?_;refine aL h (λr0 h=>?_) λr0 h=>?_
       .refine aO (n19 _ (inl (aE qI λ_ n22 kn _=>bo kn λ_ n23 aaH _ _=>aE aaH λ_ n24 aaI _=>?_)));obtain⟨ag,oN,h⟩:=aB h;obtain⟨aK,rU,h⟩:=aB h;refine fc oN (Hu ag _ rU) _ ?_;refine aL h (λjh h=>?_) λjh h=>?_
        .exact aM aaI [.int .i64 0,.bool false]
        .refine aO (n24 _ (inl (vH (af oN (@EM al 5 2 .i64 rfl rfl)) _ ?_)));refine n23 _ (n22 _ (inl (dI ?_)));exact n18 _ (inr ⟨_,bL rfl,H4 (i64.wrap ((i64.wrap (10*kK))+(i64.wrap (u8.wrap ((ag.toNat:Int)-48))))) (i64.wrap (mh+1)) h⟩)
       .refine c1 (H6 0 _ (H5 0 _ (jL _ (n15 _ (inl ?_)))));show a_ al (.seq _ ?c49) _ _;have y6:∀oG,x6 oG=some r->a_ al ?c49 bs (ax [(5,.int .i64 oG)]):=by
         intro oG h;exact aM ah [.int .i64 oG,.bool true]
        refine aE ah λ_ n32 _ _=>aj ?_;refine aL h (λy3 h=>?_) λy3 h=>?_
        .refine dI ?_;exact n32 _ (inr ⟨_,bL rfl,y6 (i64.wrap (0-kK)) h⟩)
        .exact aO (n32 _ (inr ⟨_,bL rfl,y6 kK h⟩))
      exact dp h λn h=>H3 n 0 jJ h
    .refine eH (af di (af b9 (af lO hI))) _ ?_;refine qo rfl ?_;refine aO (fC _ (inl (aj ?_)));refine aE ah λ_ n38 HW _=>aj ?_;refine bo HW λaaJ _ aaK H7 _=>?_;show a_ al (.loop ?c24) _ _;have H3:∀n kK mh,qx a0 jJ n kK mh=some r->cR al ?c24 aaJ (ax [(0,.str a0),(4,.int .i64 jJ),(5,.int .i64 kK),(6,.int .i64 mh)]):=by
      refine c7 λm24 H4 kK mh h=>c6 aaK λ_ H8 vN aaL=>aE vN λ_ HN _ HO=>aj ?_;refine aL h (λtG h=>?_) λtG h=>?_
      .refine aO (HN _ (inl (aE vN λ_ H9 aaM _=>bo aaM λ_ HQ HR _ _=>aE HR λ_ rX tH _=>?_)));obtain⟨a6,Cn,h⟩:=aB h;obtain⟨ba,HS,h⟩:=aB h;refine fc Cn (Hu a6 _ HS) _ ?_;refine aL h (λH_ h=>?_) λH_ h=>?_
       .exact aM tH [.int .i64 0,.bool false]
       .refine aO (rX _ (inl (vH (af Cn (@EM al 5 2 .i64 rfl rfl)) _ ?_)));refine HQ _ (H9 _ (inl (dI ?_)));exact H8 _ (inr ⟨_,bL rfl,H4 (i64.wrap ((i64.wrap (10*kK))+(i64.wrap (u8.wrap ((a6.toNat:Int)-48))))) (i64.wrap (mh+1)) h⟩)
      .refine c1 (HO 0 _ (aaL 0 _ (H7 _ (n38 _ (inl ?_)))));show a_ al (.seq _ ?c49) _ _;have y6:∀oG,x6 oG=some r->a_ al ?c49 bs (ax [(5,.int .i64 oG)]):=by
        intro oG h;exact aM ah [.int .i64 oG,.bool true]
       refine aE ah λ_ N2 _ _=>aj ?_;refine aL h (λHH h=>?_) λHH h=>?_
       .refine dI ?_;exact N2 _ (inr ⟨_,bL rfl,y6 (i64.wrap (0-kK)) h⟩)
       .exact aO (N2 _ (inr ⟨_,bL rfl,y6 kK h⟩))
     exact dp h λn h=>H3 n 0 jJ h
 refine aE ah λ_ fH _ aK=>?_;rcases eg h with⟨tI,h⟩|⟨tI,h⟩
 .obtain⟨bP,Cr,h⟩:=aB h;refine eH (af tI Cr) _ ?_;refine aL h (λaaN h=>?_) λaaN h=>?_
  .refine dI ?_;exact fH _ (inr ⟨_,bL rfl,H2 1 h⟩)
  .exact aO (fH _ (inr ⟨_,bL rfl,H2 0 h⟩))
 .refine eH tI _ ?_;refine qo rfl ?_;exact aO (fH _ (inr ⟨_,bL rfl,H2 0 h⟩))
theorem aaO (a0 r) (h:Bb a0=some r):aX al 47 [.str a0] (.tuple [.ao 1 (r.1.map cA),.bool r.2]) []:=by
 refine bA [0] [.tmp 2,.tmp 3] Tryz.func47 Xe λbs ah bw=>aj ?_;refine aE ah λ_ bB a7 ag=>aj ?_;refine aL h (λbO h=>?_) λbO h=>?_
 .refine eH (show∀s,f_ al s 50 0 []=some (.ao 1 [],s)from λs=>by kernel_rfl) _ ?_;exact dk a7 [.ao 1 [],.bool true]
 .refine aO (bB _ (inl ?_));obtain⟨aa,bF,h⟩:=aB h;refine cN (H0 a0 (44:UInt8) _ bF) _ ?_;refine aE ah λ_ ig hB _=>aj ?_;refine aL h (λfv h=>?_) λfv h=>?_
  .refine aj ?_;exact hV (hB _ (inr ⟨[(2,.ao 1 []),(3,.bool false)],i1 [] rfl (i7 (t:=2) (d:=.bf) rfl rfl (.hQ _) (by decide) (gE rfl (i6))),kZ [.ao 1 [],.bool false]⟩))
  .refine aO (ig _ (inl (eH (show∀s,f_ al s 50 0 []=some (.ao 1 [],s)from λs=>by kernel_rfl) _ ?_)));refine aE ah λ_ n13 fI _=>aj ?_;refine bo fI λaaP _ hp eI _=>?_;have Ia:∀n kk kJ,tj aa n kk kJ=some r->cR al Np aaP (ax [(4,.ao 1 (aa.map bn)),(5,.ao 1 (kk.map cA)),(6,.int .i64 kJ)]):=by
    refine c7 λ_ Ib kk kJ h=>c6 hp λ_ n16 iM rT=>aE iM λ_ n17 _ tJ=>aj ?_;refine aL h (λfJ h=>?_) λfJ h=>?_
    .refine aO (n17 _ (inl (aE iM λ_ n20 tB _=>bo tB λ_ n21 pS _ _=>?_)));obtain⟨ag,ko,h⟩:=aB h;obtain⟨aK,jy,h⟩:=aB h;refine fc (af ko (cq ko)) (N1 ag _ jy) _ ?_;refine aE pS λ_ n25 qG _=>?_;rcases eg h with⟨mj,h⟩|⟨mj,h⟩
     .refine eH (gb mj) _ ?_;refine hU rfl ?_;refine aj ?_;exact hV (qG _ (inr ⟨[(2,.ao 1 []),(3,.bool false)],i1 [] rfl (i7 (t:=2) (d:=.bf) rfl rfl (.hQ _) (by decide) (gE rfl (i6))),kZ [.ao 1 [],.bool false]⟩))
     .obtain⟨a6,oP,h⟩:=aB h;refine fc (bC mj) (mi aK.1 (-1000000000000) 1000000000000 _ oP) _ ?_;refine aL h (λkN h=>?_) λkN h=>?_
      .refine aj ?_;exact hV (qG _ (inr ⟨[(2,.ao 1 []),(3,.bool false)],i1 [] rfl (i7 (t:=2) (d:=.bf) rfl rfl (.hQ _) (by decide) (gE rfl (i6))),kZ [.ao 1 [],.bool false]⟩))
      .refine aO (n25 _ (inl ?_));obtain⟨ahf,qH,h⟩:=aB h;(try simp only[oK.down,Nat.zero_add,Nat.add_zero,reduceAdd]at qH);refine vH (af (show∀s,f_ al s 50 1 [(0,.int .i64 aK.1)]=some (.ao 1 [.int .i64 aK.1],s)from λs=>by kernel_rfl) (af (@sZ al 50 50 2 rfl rfl) (af @s0 (af @s3 (af @s4 (af @sW (af @all_nil (af qH (@oy _ cA 1 λ_=>rfl))))))))) [(4,.ao 1 (aa.map bn)),(5,.ao 1 ((kk++[aK.1]).map cA)),(6,.int .i64 kJ)] ?_;refine n21 _ (n20 _ (inl (wr [(4,.ao 1 (aa.map bn)),(5,.ao 1 ((kk++[aK.1]).map cA)),(6,.int .i64 (i64.wrap (kJ+1)))] ?_)));exact n16 _ (inr ⟨_,bL rfl,Ib (kk++[aK.1]) (i64.wrap (kJ+1)) h⟩)
    .exact c1 (tJ 0 _ (rT 0 _ (eI _ (n13 _ (inl (aM ah [.ao 1 (kk.map cA),.bool true]))))))
   exact dp h λn h=>Ia n [] 0 h
theorem aaQ (a0 J r) (h:rM a0 J=some r):aX al 48 [.slice (a0.map bU),.ref (fk J)] (.bool r) []:=by
 refine bA [0,1] [.tmp 4] Tryz.func48 Xf λbs ah bw=>aj ?_;refine aE ah λ_ bB a7 ag=>?_;obtain⟨aa,b4,h⟩:=aB h;refine cN (mi J.dd 0 (i64.wrap ((a0.length:Int)-1)) _ b4) _ ?_;refine aL h (λcT h=>?_) λcT h=>?_
 .exact aM a7 [.bool false]
 .refine aO (bB _ (inl ?_));obtain⟨ag,gL,h⟩:=aB h;refine eH gL _ ?_;refine aE ah λ_ cn bS _=>?_;obtain⟨aK,lP,h⟩:=aB h;rcases eg h with⟨fK,h⟩|⟨fK,h⟩
  .refine k6 (gb fK) (mi J.Part 0 (i64.wrap ((ag.Body.length:Int)-1)) _ lP) _ ?_;refine hU rfl ?_;exact aM bS [.bool false]
  .obtain⟨a6,ea,h⟩:=aB h;refine k6 (af (bC fK) ea) (mi J.Part 0 (i64.wrap ((ag.Body.length:Int)-1)) _ lP) _ ?_;refine aL h (λeI h=>?_) λeI h=>?_
   .exact aM bS [.bool false]
   .refine aO (cn _ (inl ?_));obtain⟨ba,dZ,h⟩:=aB h;rcases eg h with⟨fJ,h⟩|⟨fJ,h⟩
    .obtain⟨bP,iN,h⟩:=aB h;refine kh rfl (jH [(4,.bool bP)] (λP bg=>?_) ?_)
     ·(try simp only[dX.down,simprocAttr,fJ]);refine kG (Hx ag J.Part _ dZ) rfl rfl (by simp only[dX.down,simprocAttr,fJ,NL.down]<;>rfl) rfl (inr (by rfl)) ?_;simp only[dX.down,simprocAttr,fJ];refine jY (NY J.b5 _ iN) (hK:= ?_);simp only[dX.down,simprocAttr,fJ];refine⟨jI (by kernel_rfl),?_⟩;exact bZ fJ
     exact dk ah [.bool bP]
    .refine kh rfl (jH [(4,.bool false)] (λP bg=>?_) ?_)
     ·(try simp only[dX.down,simprocAttr,fJ]);refine kG (Hx ag J.Part _ dZ) rfl rfl (by simp only[dX.down,simprocAttr,fJ,NL.down]<;>rfl) rfl (inr (by rfl)) ?_;simp only[dX.down,simprocAttr,fJ];refine⟨jI (by kernel_rfl),?_⟩;exact bZ fJ
     exact dk ah [.bool false]
theorem aaR (a0 J r) (h:Be a0 J=some r):aX al 19 [.ref (fj a0),.str J] (.tuple [eX r.1,.bool r.2]) []:=by
 refine bA [0,1] [.cell 4 52,.tmp 5] Tryz.func19 Xg λbs ah bw=>aj ?_;obtain⟨aa,aR,h⟩:=aB h;refine cN (H0 J (58:UInt8) _ aR) _ ?_;refine aE ah λ_ fC bJ a6=>aj ?_;refine aL h (λdi h=>?_) λdi h=>?_
 .refine eH (show∀s,gr al s 52 []=some (.agg [.int .i64 0,.int .i64 0,.bf],s)from λs=>by kernel_rfl) _ ?_;exact hV (bJ _ (inr ⟨[(4,.a1 (eX (bY.mk 0 0 []))),(5,.bool false)],i1 [] rfl (i7 (t:=4) (d:=.a1 (.agg [.int .i64 0,.int .i64 0,.bf])) rfl rfl (.a1 (.agg (.cons (.refl _) (.cons (.refl _) (.cons (.hQ _) (.nil)))))) (by decide) (gE rfl (i6))),kZ [eX (bY.mk 0 0 []),.bool false]⟩))
 .refine aO (fC _ (inl (eH (show∀s,gr al s 52 [(0,.int .i64 (-1))]=some (.agg [.int .i64 (-1),.int .i64 0,.bf],s)from λs=>by kernel_rfl) _ ?_)));refine aE ah λ_ cn bS _=>aj ?_;refine bo bS λy5 _ hd hI _=>?_;show a_ al (.loop ?Hh) _ _;have aaS:∀n ly mI,rN a0 aa n ly mI=some r->cR al ?Hh y5 (ax [(0,.ref (fj a0)),(4,.a1 (.agg [.int .i64 0,.int .i64 0,.bf])),(6,.ao 1 (aa.map bn)),(7,.a1 (.agg [.int .i64 ly,.int .i64 0,.bf])),(8,.int .i64 mI)]):=by
   refine c7 λm18 aaT ly mI h=>c6 hd λtE n12 jK pK=>aE jK λ_ n13 _ oI=>aj ?_;refine aL h (λeI h=>?_) λeI h=>?_
   .refine aO (n13 _ (inl ?_));show a_ al (.seq _ ?Hk) _ _;have N3:∀vf vg,Bc (rN a0 aa m18) a0 aa vf vg=some r->a_ al ?Hk tE (ax [(0,.ref (fj a0)),(4,.a1 (.agg [.int .i64 0,.int .i64 0,.bf])),(6,.ao 1 (aa.map bn)),(7,.a1 (.agg [.int .i64 vf,.int .i64 0,.bf])),(8,.int .i64 vg)]):=by
     intro vf vg h;refine dI ?_;exact n12 _ (inr ⟨_,bL rfl,aaT vf (i64.wrap (vg+1)) h⟩)
    refine aE jK λ_ n16 iM _=>bo iM λ_ n18 _ _ _=>?_;obtain⟨ag,iN,h⟩:=aB h;obtain⟨aK,jg,h⟩:=aB h;refine pP (af iN (af jg (rJ (n:=0) jg))) _ ?_;refine aL h (λtD h=>?_) λtD h=>?_
    .refine dI ?_;exact n18 _ (n16 _ (inr ⟨_,bL rfl,N3 mI mI h⟩))
    .exact aO (n18 _ (n16 _ (inr ⟨_,bL rfl,N3 ly mI h⟩)))
   .refine c1 (oI 0 _ (pK 0 _ (hI _ (cn _ (inl ?_)))));obtain⟨a6,kO,h⟩:=aB h;obtain⟨ba,oN,h⟩:=aB h;refine fc (af kO (rJ (n:=1) kO)) (N1 a6 _ oN) _ ?_;obtain⟨bP,nj,h⟩:=aB h;obtain⟨cG,oP,h⟩:=aB h;refine fc (af nj (rJ (n:=2) nj)) (aaO bP _ oP) _ ?_;refine aj ?_;refine aj ?_;rcases eg h with⟨h2,h⟩|⟨h2,h⟩
    .rcases eg h with⟨r1,h⟩|⟨r1,h⟩
     .obtain⟨e9,Ic,h⟩:=aB h;refine kh rfl (jH [(4,.a1 (.agg [.int .i64 ly,.int .i64 ba.1,.ao 1 (cG.1.map cA)])),(5,.bool e9)] (λP bg=>?_) ?_)
      ·(try simp only[dX.down,simprocAttr,h2,r1]);refine jY (aaQ a0.br (bY.mk ly ba.1 cG.1) _ Ic) rfl rfl (by simp only[dX.down,simprocAttr,h2,r1,NM.down]<;>rfl) rfl (inr (by rfl)) ?_;simp only[dX.down,simprocAttr,h2,r1];refine⟨jI (by kernel_rfl),?_⟩;exact bZ (af h2 r1)
      exact dk ah [eX (bY.mk ly ba.1 cG.1),.bool e9]
     .refine pP (af h2 r1) _ ?_;exact dk ah [eX (bY.mk ly ba.1 cG.1),.bool false]
    .refine pP h2 _ ?_;exact dk ah [eX (bY.mk ly ba.1 cG.1),.bool false]
  exact dp h λn h=>aaS n (-1) 0 h
theorem aaU (a0 J r) (h:Bf a0 J=some r):aX al 5 [fj a0,.str J] (.tuple [.ao 3 (r.1.map fk),.bool r.2]) []:=by
 refine bA [0,1] [.tmp 4,.tmp 5] Tryz.func5 c5 λbs ah bw=>aj ?_;refine aE ah λ_ bB a7 ag=>?_;obtain⟨aa,b4,h⟩:=aB h;refine dv (ch [(1,.str J),(2,.a1 (fj a0)),(12,.bool (!aa))] (λP bg=>?_) ?_)
 .refine ey (aaD a0 _ b4) rfl rfl (by simp only[aS.down,simprocAttr,Ce.down]<;>rfl) rfl (inr (by rfl)) ?_;simp only[aS.down,simprocAttr];exact bZ trivial
 refine aL h (λcT h=>?_) λcT h=>?_
 .refine aj ?_;exact hV (a7 _ (inr ⟨[(4,.ao 3 []),(5,.bool false)],i1 [] rfl (i7 (t:=4) (d:=.bf) rfl rfl (.hQ _) (by decide) (gE rfl (i6))),kZ [.ao 3 [],.bool false]⟩))
 .refine aO (bB _ (inl ?_));obtain⟨ag,gL,h⟩:=aB h;refine cN (H0 J (32:UInt8) _ gL) _ ?_;refine aE ah λ_ cn bS _=>aj ?_;refine aL h (λhI h=>?_) λhI h=>?_
  .refine aj ?_;exact hV (bS _ (inr ⟨[(4,.ao 3 []),(5,.bool false)],i1 [] rfl (i7 (t:=4) (d:=.bf) rfl rfl (.hQ _) (by decide) (gE rfl (i6))),kZ [.ao 3 [],.bool false]⟩))
  .refine aO (cn _ (inl (eH (show∀s,f_ al s 29 0 []=some (.ao 3 [],s)from λs=>by kernel_rfl) _ ?_)));refine aE ah λ_ n14 ee _=>aj ?_;refine bo ee λIe _ iM ml _=>?_;show a_ al (.loop ?yV) _ _;have Ia:∀n ju ng,rO a0 ag n ju ng=some r->cR al ?yV Ie (ax [(2,.a1 (fj a0)),(6,.ao 1 (ag.map bn)),(7,.ao 3 (ju.map eX)),(8,.int .i64 ng)]):=by
    refine c7 λ_ Ib ju ng h=>c6 iM λ_ n17 hJ tJ=>aE hJ λ_ n18 _ H5=>aj ?_;refine aL h (λfu h=>?_) λfu h=>?_
    .refine aO (n18 _ (inl (aE hJ λ_ n21 pS _=>bo pS λ_ n22 kn _ _=>?_)));obtain⟨aK,jy,h⟩:=aB h;obtain⟨a6,kO,h⟩:=aB h;refine dv (ch [(2,.a1 (fj a0)),(6,.ao 1 (ag.map bn)),(7,.ao 3 (ju.map eX)),(8,.int .i64 ng),(9,.a1 (eX a6.1)),(10,.bool a6.2)] (λP bg=>?_) ?_)
     ·(try simp only[aS.down,simprocAttr,jy,cq jy]);refine ey (aaR a0 aK _ kO) rfl rfl (by simp only[aS.down,simprocAttr,jy,cq jy,Ce.down]<;>rfl) rfl (inr (by simp only[I.cF,I.gM,Hf,Bool.and_self])) ?_;simp only[aS.down,simprocAttr,jy,cq jy];exact bZ (af jy (cq jy))
     refine aE kn λ_ n26 pQ _=>aj ?_;refine aL h (λjh h=>?_) λjh h=>?_
     .refine aj ?_;exact hV (pQ _ (inr ⟨[(4,.ao 3 []),(5,.bool false)],i1 [] rfl (i7 (t:=4) (d:=.bf) rfl rfl (.hQ _) (by decide) (gE rfl (i6))),kZ [.ao 3 [],.bool false]⟩))
     .refine aO (n26 _ (inl ?_));obtain⟨u32,tK,h⟩:=aB h;(try simp only[NN.down,Nat.zero_add,Nat.add_zero,reduceAdd]at tK);refine kg (ch [(2,.a1 (fj a0)),(6,.ao 1 (ag.map bn)),(7,.ao 3 ((ju++[a6.1]).map eX)),(8,.int .i64 ng)] (λP bg=>?_) ?_)
      .simp only[aS.down,simprocAttr,NO.down,uQ,eR,tK];(try simp only[iL.down,simprocAttr,NO.down,uQ,eR,tK]at bg⊢);exact bg
      refine n22 _ (n21 _ (inl (wr [(2,.a1 (fj a0)),(6,.ao 1 (ag.map bn)),(7,.ao 3 ((ju++[a6.1]).map eX)),(8,.int .i64 (i64.wrap (ng+1)))] ?_)));exact n17 _ (inr ⟨_,bL rfl,Ib (ju++[a6.1]) (i64.wrap (ng+1)) h⟩)
    .refine c1 (H5 0 _ (tJ 0 _ (ml _ (n14 _ (inl (aj ?_))))));exact hV (ah _ (inr ⟨[(4,.ao 3 (ju.map fk)),(5,.bool true)],i1 [] rfl (i7 (t:=4) (d:=.ao 3 (ju.map eX)) rfl rfl (.ao (Ml (λ_=>Mk rfl rfl (Cb _)) _)) (by decide) (gE rfl (i6))),kZ [.ao 3 (ju.map fk),.bool true]⟩))
   exact dp h λn h=>Ia n [] 0 h
theorem jM (a0 J a2 r) (h:iw a0 J a2=some r):aX al 84 [.int .i64 a0,.int .i64 J,.int .i64 a2] (.bool r) []:=by
 refine bA [0,1,2] [.tmp 6] Tryz.func84 Xh λbs ah bw=>aj ?_;refine k7 (decide (J<=a0)) [(6,.bool ((decide (J<=a0))&&(decide (a0<=a2))))] ?_;exact dk ah [.bool ((decide (J<=a0))&&(decide (a0<=a2)))]
theorem aaV (a0 r) (h:FZ a0=some r):aX al 150 [bU a0] (.bool r) []:=by
 refine bA [0] [.tmp 2] Tryz.func150 Xi λbs ah bw=>aj ?_;obtain⟨aa,aR,h⟩:=aB h;refine cN (jM a0.cU 0 3 _ aR) _ ?_;exact dk ah [.bool (!aa)]
theorem aaW (a0 r) (h:F2 a0=some r):aX al 61 [.slice (a0.map bU),.fn 150 []] (.int .i64 r) []:=by
 refine bA [0,1] [.tmp 4] Tryz.func61 Xj λbs ah bw=>aj ?_;refine aE ah λ_ bB a7 ag=>aj ?_;refine bo a7 λer _ bJ bO _=>?_;show a_ al (.loop ?eo) _ _;have eM:∀n cx,x8 a0 n cx=some r->cR al ?eo er (ax [(0,.slice (a0.map bU)),(1,.fn 150 []),(7,.int .i64 (a0.length:Int)),(8,.int .i64 cx)]):=by
  refine c7 λ_ eD cx h=>c6 bJ λ_ dJ cJ ba=>aj ?_;refine aE cJ λ_ dx _ cG=>aL h (λb9 h=>?_) λb9 h=>?_
  .refine aO (dx _ (inl (aE cJ λ_ cn bS _=>bo bS λ_ n10 cV _ _=>aj ?_)));obtain⟨aa,dE,h⟩:=aB h;obtain⟨ag,ea,h⟩:=aB h;refine fc dE (aaV aa _ ea) _ ?_;refine aL h (λeI h=>?_) λeI h=>?_
   .exact aM cV [.int .i64 cx]
   .refine aO (n10 _ (cn _ (inl (dI ?_))));exact dJ _ (inr ⟨_,bL rfl,eD (i64.wrap (cx+1)) h⟩)
  .exact c1 (cG 0 _ (ba 0 _ (bO _ (bB _ (inl (aM ah [.int .i64 (-1)]))))))
 exact dp h λn h=>eM n 0 h
theorem aaX (a0 r) (h:F3 a0=some r):aX al 149 [.slice (a0.map bU),.fn 150 []] (.bool r) []:=by
 refine bA [0,1] [.tmp 4] Tryz.func149 Xk λbs ah bw=>aj ?_;obtain⟨aa,aR,h⟩:=aB h;refine cN (aaW a0 _ aR) _ ?_;exact dk ah [.bool (decide (0<=aa))]
theorem aaY (a0 r) (h:Bg a0=some r):aX al 113 [.slice (a0.map bU)] (.bool r) []:=by
 refine bA [0] [.tmp 2] Tryz.func113 Xl λbs ah bw=>aj ?_;obtain⟨aa,aR,h⟩:=aB h;refine cN (aaX a0 _ aR) _ ?_;exact dk ah [.bool (!aa)]
theorem aaZ (a0 r) (h:F4 a0=some r):aX al 151 [.int .u8 (a0.toNat:Int)] (.bool r) []:=by
 refine bA [0] [.tmp 2] Tryz.func151 Xm λbs ah bw=>aj ?_;refine k7 (decide (48<=(a0.toNat:Int))) [(2,.bool ((decide (48<=(a0.toNat:Int)))&&(decide ((a0.toNat:Int)<=57))))] ?_;exact dk ah [.bool ((decide (48<=(a0.toNat:Int)))&&(decide ((a0.toNat:Int)<=57)))]
theorem Cs (a0 r) (h:x9 a0=some r):aX al 114 [.str a0] (.bool r) []:=by
 refine bA [0] [.tmp 2] Tryz.func114 Xn λbs ah bw=>aj ?_;refine aE ah λ_ bB a7 ag=>aj ?_;refine bo a7 λer _ bJ bO _=>?_;show a_ al (.loop ?eo) _ _;have eM:∀n eS,rP a0 n eS=some r->cR al ?eo er (ax [(0,.str a0),(6,.int .i64 (a0.length:Int)),(7,.int .i64 eS)]):=by
  refine c7 λ_ eD eS h=>c6 bJ λ_ dJ cJ ba=>aj ?_;refine aE cJ λ_ dx _ cG=>aL h (λb9 h=>?_) λb9 h=>?_
  .refine aO (dx _ (inl (aE cJ λ_ cn bS _=>bo bS λ_ n10 cV _ _=>aj ?_)));obtain⟨aa,dE,h⟩:=aB h;refine Zk (decide (97<=(aa.toNat:Int))) dE [(0,.str a0),(3,.int .i64 eS),(4,.bool ((decide (97<=(aa.toNat:Int)))&&(decide ((aa.toNat:Int)<=122)))),(6,.int .i64 (a0.length:Int)),(7,.int .i64 eS)] ?_;rcases eg h with⟨eI,h⟩|⟨eI,h⟩
   .rcases eg h with⟨ml,h⟩|⟨ml,h⟩
    .refine eH (af eI ml) _ ?_;refine hU rfl ?_;exact aM cV [.bool false]
    .obtain⟨ag,dZ,h⟩:=aB h;refine fc (af eI (af ml dE)) (aaZ aa _ dZ) _ ?_;refine aL h (λfJ h=>?_) λfJ h=>?_
     .exact aM cV [.bool false]
     .refine aO (n10 _ (cn _ (inl (dI ?_))));exact dJ _ (inr ⟨_,bL rfl,eD (i64.wrap (eS+1)) h⟩)
   .refine eH eI _ ?_;refine qo rfl ?_;refine aO (n10 _ (cn _ (inl (dI ?_))));exact dJ _ (inr ⟨_,bL rfl,eD (i64.wrap (eS+1)) h⟩)
  .refine c1 (cG 0 _ (ba 0 _ (bO _ (bB _ (inl (k7 (decide (1<=(a0.length:Int))) [(2,.bool ((decide (1<=(a0.length:Int)))&&(decide ((a0.length:Int)<=10))))] ?_))))));exact dk ah [.bool ((decide (1<=(a0.length:Int)))&&(decide ((a0.length:Int)<=10)))]
 exact dp h λn h=>eM n 0 h
theorem aa0 (a0 J r) (h:Bi a0 J=some r):aX al 62 [bU a0,.ref (.str J)] (.bool r) []:=by
 refine bA [0,1] [.tmp 3] Tryz.func62 Xo λbs ah bw=>aj ?_;exact aM ah [.bool (a0.Name==J)]
theorem aa1 (a0 J r) (h:Bj a0 J=some r):aX al 61 [.slice (a0.map bU),.fn 62 [.ref (.str J)]] (.int .i64 r) []:=by
 refine bA [0,1] [.tmp 4] Tryz.func61 Xp λbs ah bw=>aj ?_;refine aE ah λ_ bB a7 ag=>aj ?_;refine bo a7 λer _ bJ bO _=>?_;show a_ al (.loop ?eo) _ _;have eM:∀n cx,rQ a0 J n cx=some r->cR al ?eo er (ax [(0,.slice (a0.map bU)),(1,.fn 62 [.ref (.str J)]),(7,.int .i64 (a0.length:Int)),(8,.int .i64 cx)]):=by
  refine c7 λ_ eD cx h=>c6 bJ λ_ dJ cJ ba=>aj ?_;refine aE cJ λ_ dx _ cG=>aL h (λb9 h=>?_) λb9 h=>?_
  .refine aO (dx _ (inl (aE cJ λ_ cn bS _=>bo bS λ_ n10 cV _ _=>aj ?_)));obtain⟨aa,dE,h⟩:=aB h;obtain⟨ag,ea,h⟩:=aB h;refine fc dE (aa0 aa J _ ea) _ ?_;refine aL h (λeI h=>?_) λeI h=>?_
   .exact aM cV [.int .i64 cx]
   .refine aO (n10 _ (cn _ (inl (dI ?_))));exact dJ _ (inr ⟨_,bL rfl,eD (i64.wrap (cx+1)) h⟩)
  .exact c1 (cG 0 _ (ba 0 _ (bO _ (bB _ (inl (aM ah [.int .i64 (-1)]))))))
 exact dp h λn h=>eM n 0 h
theorem N4 (a0 J r) (h:tk a0 J=some r):aX al 29 [.slice (a0.map bU),.str J] (.int .i64 r) []:=by
 refine bA [0,1] [.tmp 4] Tryz.func29 Xq λbs ah bw=>aj ?_;obtain⟨aa,aR,h⟩:=aB h;refine dv (ch [(4,.int .i64 aa)] (λP bg=>?_) ?_)
 ·(try simp only[aS.down,simprocAttr]);refine ey (aa1 a0 J _ aR) rfl rfl (by simp only[aS.down,simprocAttr,Cf.down]<;>rfl) rfl (inr (by rfl)) ?_;simp only[aS.down,simprocAttr];exact bZ trivial
 exact dk ah [.int .i64 aa]
theorem N5 (a0 r) (h:yb a0=some r):aX al 173 [df a0] (.int .i64 r) []:=by
 refine bA [0] [.tmp 2] Tryz.func173 c173 λbs ah bw=>aj ?_;refine aE ah λ_ bB a7 _=>aj ?_;refine bo a7 λer fC bJ _ _=>?_;show a_ al (.seq _ ?iK) _ _;have tC:∀dC,ya a0 dC=some r->a_ al ?iK er (ax [(4,.int .i64 a0.Kind),(5,.bool dC)]):=by
  intro dC h;refine aL h (λdi h=>?_) λdi h=>?_
  .exact aM bJ [.int .i64 1]
  .refine aj ?_;refine aL h (λgm h=>?_) λgm h=>?_
   .exact aM bJ [.int .i64 2]
   .exact aO (fC _ (bB _ (inl (aM ah [.int .i64 0]))))
 refine aE bJ λ_ dJ _ _=>aj ?_;refine aL h (λhc h=>?_) λhc h=>?_
 .simp only[hc,yY.down];exact aO (dJ _ (inr ⟨_,bL rfl,tC true h⟩))
 .refine aj ?_;refine aL h (λeI h=>?_) λeI h=>?_
  .simp only[eI,yY.down];exact aO (dJ _ (inr ⟨_,bL rfl,tC true h⟩))
  .refine dI ?_;exact dJ _ (inr ⟨_,bL rfl,tC (a0.Kind==4) h⟩)
theorem aa2 (a0 J r) (h:Bk a0 J=some r):aX al 152 [bU a0,.int .i64 J] (.int .i64 r) []:=by
 refine bA [0] [.tmp 4] Tryz.func152 c152 λbs ah bw=>aj ?_;refine aE ah λ_ bB a7 ag=>aj ?_;refine bo a7 λer _ bJ bO _=>?_;show a_ al (.loop ?eo) _ _;have eM:∀n aQ aJ,vh a0 n aQ aJ=some r->cR al ?eo er (ax [(1,.int .i64 aQ),(2,.a1 (bU a0)),(5,.int .i64 aJ)]):=by
  refine c7 λ_ eD aQ aJ h=>c6 bJ λ_ dJ cJ ba=>aE cJ λ_ n6 _ bP=>aj ?_;refine aL h (λb9 h=>?_) λb9 h=>?_
  .refine aO (n6 _ (inl (aE cJ λ_ cn bS _=>bo bS λ_ n10 cV _ _=>aE cV λ_ n11 hd _=>aj ?_)));refine aL h (λhc h=>?_) λhc h=>?_
   .exact aM hd [.int .i64 (-1)]
   .refine aO (n11 _ (inl ?_));obtain⟨aa,cC,h⟩:=aB h;obtain⟨ag,ef,h⟩:=aB h;refine Hp cC (N5 aa _ ef) _ ?_;refine n10 _ (cn _ (inl (dI ?_)));exact dJ _ (inr ⟨_,bL rfl,eD (i64.wrap (aQ+1)) (i64.wrap (aJ+(i64.wrap (ag-1)))) h⟩)
  .exact c1 (bP 0 _ (ba 0 _ (bO _ (bB _ (inl (aM ah [.int .i64 aQ]))))))
 exact dp h λn h=>eM n J 1 h
theorem aa3 (mJ:Int->cM->ahP->bl->Option (Int×ahP)) (aa4:∀a0 J a2 a3 r,mJ a0 J a2 a3=some r->mf al 172 2 4 [.int .i64 a0,ep J,.a1 (.ao 2 (a2.map ep)),.ref (bU a3),.ref (.hole)] (.int .i64 r.1) [.hole,.hole,.a1 (.ao 2 (r.2.map ep)),.hole,.hole]) (a0 J a2 a3 r) (h:F7 mJ a0 J a2 a3=some r):mf al 172 2 4 [.int .i64 a0,ep J,.a1 (.ao 2 (a2.map ep)),.ref (bU a3),.ref (.hole)] (.int .i64 r.1) [.hole,.hole,.a1 (.ao 2 (r.2.map ep)),.hole,.hole]:=by
 refine mf.Fh (fx:=[0,1,2,3,4]) Fk [.tmp 7] [(0,.int .i64 a0),(1,ep J),(2,.a1 (.ao 2 (a2.map ep))),(3,.ref (bU a3)),(4,.ref (.hole))] Tryz.func172 rfl rfl XE (le_of_ble_eq_true rfl) XD rfl rfl λbs ah bw=>?_;refine aj ?_;obtain⟨aa,aR,h⟩:=aB h;refine dv (ch [(0,.int .i64 a0),(2,.a1 (.ao 2 ((List.set a2 (Int.toNat a0) J).map ep))),(3,.ref (bU a3)),(4,.ref (.hole)),(6,.a1 (ep J))] (λP bg=>?_) ?_)
 .simp only[aS.down,simprocAttr,aR,cq aR,dF,cP];exact bZ (af aR (af (cq aR) @dF))
 obtain⟨ag,cz,h⟩:=aB h;refine eH cz [(0,.int .i64 a0),(2,.a1 (.ao 2 ((List.set a2 (Int.toNat a0) J).map ep))),(3,.ref (bU a3)),(4,.ref (.hole)),(6,.a1 (ep J)),(8,.a1 (df ag))] ?_;refine eH (show∀s,gr al s 184 [(0,.int .i64 J.scope),(1,.bool (ag.Kind==1))]=some (.agg [.int .i64 J.scope,.bool (ag.Kind==1)],s)from λs=>by kernel_rfl) [(0,.int .i64 a0),(2,.a1 (.ao 2 ((List.set a2 (Int.toNat a0) J).map ep))),(3,.ref (bU a3)),(4,.ref (.hole)),(8,.a1 (df ag)),(9,.a1 (.agg [.int .i64 J.scope,.bool (ag.Kind==1)]))] ?_;have N6:∀lz,Bl mJ a0 J a2 a3 ag lz=some r->a_ al Nr bs (ax [(0,.int .i64 a0),(2,.a1 (.ao 2 ((List.set a2 (Int.toNat a0) J).map ep))),(3,.ref (bU a3)),(4,.ref (.hole)),(8,.a1 (df ag)),(9,.a1 (.agg [.int .i64 lz,.bool (ag.Kind==1)]))]):=by
  intro lz h;refine ws [(2,.a1 (.ao 2 ((List.set a2 (Int.toNat a0) J).map ep))),(3,.ref (bU a3)),(4,.ref (.hole)),(8,.a1 (df ag)),(9,.a1 (.agg [.int .i64 lz,.bool (ag.Kind==1)])),(10,.int .i64 (i64.wrap (a0+1)))] ?_;refine aE ah λ_ cn bS _=>?_;obtain⟨aK,lP,h⟩:=aB h;refine cN (N5 ag _ lP) [(2,.a1 (.ao 2 ((List.set a2 (Int.toNat a0) J).map ep))),(3,.ref (bU a3)),(4,.ref (.hole)),(9,.a1 (.agg [.int .i64 lz,.bool (ag.Kind==1)])),(10,.int .i64 (i64.wrap (a0+1))),(36,.int .i64 aK),(37,.int .i64 0)] ?_;refine bo bS λtE _ jK fK _=>?_;have aa5:∀n qy oH pF,tl mJ a3 lz ag aK n qy oH pF=some r->cR al Nq tE (ax [(2,.a1 (.ao 2 (qy.map ep))),(3,.ref (bU a3)),(4,.ref (.hole)),(9,.a1 (.agg [.int .i64 lz,.bool (ag.Kind==1)])),(10,.int .i64 oH),(36,.int .i64 aK),(37,.int .i64 pF)]):=by
   refine c7 λ_ aa6 qy oH pF h=>c6 jK λ_ n13 fI oI=>aj ?_;refine aE fI λ_ n15 _ nY=>aL h (λml h=>?_) λml h=>?_
   .refine aO (n15 _ (inl (aE fI λ_ n17 hJ _=>bo hJ λ_ n18 _ _ _=>?_)));obtain⟨a6,iN,h⟩:=aB h;refine Ux [(2,.a1 (.ao 2 (a6.2.map ep))),(3,.ref (bU a3)),(4,.ref (.hole)),(9,.a1 (.agg [.int .i64 lz,.bool (ag.Kind==1)])),(10,.int .i64 a6.1),(36,.int .i64 aK),(37,.int .i64 pF)] (λP bg=>?_) ?_
    ·(try simp only[aS.down,simprocAttr,oD]);refine MB [⟨.int .i64 oH,false,_,.hole⟩,⟨.agg [.int .i64 lz,.bool (ag.Kind==1)],false,_,.hole⟩,⟨.h 2 [],true,_,_⟩,⟨.ref (bU a3),false,_,.hole⟩,⟨.ref (.hole),false,_,.hole⟩] (aa4 oH (cM.mk lz (ag.Kind==1)) qy a3 _ iN) rfl (by simp only[aS.down,simprocAttr,oD,qp,nQ,mE,jq,jr,js,dL,or_true,true_or, @cL _ ep ep (λ_=>Ng _)]) rfl rfl (inl rfl) ?_;simp only[aS.down,simprocAttr,oD,oz];(try simp only[iL.down,simprocAttr,oD]at bg⊢);exact bg
    refine n18 _ (n17 _ (inl (dI ?_)));exact n13 _ (inr ⟨_,bL rfl,aa6 a6.2 a6.1 (i64.wrap (pF+1)) h⟩)
   .refine c1 (nY 0 _ (oI 0 _ (fK _ (cn _ (inl (aj ?_))))));exact hV (ah _ (inl (nP [.int .i64 oH] rfl (by cases h7 h;rfl) (by decide) (oA (mF (mF (oB (by cases h7 h;rfl) rfl rfl rfl (mF (mF (oC))))))))))
  exact dp h λn h=>aa5 n (List.set a2 (Int.toNat a0) J) (i64.wrap (a0+1)) 0 h
 refine aE ah λ_ dx _ _=>ws [(0,.int .i64 a0),(2,.a1 (.ao 2 ((List.set a2 (Int.toNat a0) J).map ep))),(3,.ref (bU a3)),(4,.ref (.hole)),(8,.a1 (df ag)),(9,.a1 (.agg [.int .i64 J.scope,.bool (ag.Kind==1)])),(28,.bool (ag.Kind==4))] ?_;refine aL h (λgU h=>?_) λgU h=>?_
 .refine wr [(0,.int .i64 a0),(2,.a1 (.ao 2 ((List.set a2 (Int.toNat a0) J).map ep))),(3,.ref (bU a3)),(4,.ref (.hole)),(8,.a1 (df ag)),(9,.a1 (.agg [.int .i64 (i64.wrap (J.scope+1)),.bool (ag.Kind==1)]))] ?_;exact dx _ (inr ⟨_,bL rfl,N6 (i64.wrap (J.scope+1)) h⟩)
 .exact aO (dx _ (inr ⟨_,bL rfl,N6 J.scope h⟩))
theorem aa7:∀n a0 J a2 a3 r,tm n a0 J a2 a3=some r->mf al 172 2 4 [.int .i64 a0,ep J,.a1 (.ao 2 (a2.map ep)),.ref (bU a3),.ref (.hole)] (.int .i64 r.1) [.hole,.hole,.a1 (.ao 2 (r.2.map ep)),.hole,.hole]:=by
 intro n;induction n with
 |zero=>intro a0 J a2 a3 r h;cases(show none=some r from h)
 |succ n ih=>intro a0 J a2 a3 r h;exact aa3 (tm n) ih a0 J a2 a3 r h
theorem aa8 (a0 J a2 a3 r) (h:Bm a0 J a2 a3=some r):mf al 172 2 4 [.int .i64 a0,ep J,.a1 (.ao 2 (a2.map ep)),.ref (bU a3),.ref (.hole)] (.int .i64 r.1) [.hole,.hole,.a1 (.ao 2 (r.2.map ep)),.hole,.hole]:=by
 obtain⟨n,h⟩:=p6 h;exact aa7 n a0 J a2 a3 r h
theorem Ig (a0 r) (h:vi a0=some r):aX al 136 [bU a0] (.ao 2 (r.map ep)) []:=by
 refine aX.Vj (fx:=[0]) Fk [.tmp 2] [(0,bU a0)] Tryz.func136 rfl rfl XJ (le_of_ble_eq_true rfl) XI rfl rfl λbs ah bw=>?_;refine aj ?_;obtain⟨N7,aR,h⟩:=aB h;refine oJ (af (n8 aR) @List.map_replicate.{0,0}) [(1,.a1 (bU a0)),(3,.a1 (.ao 2 ((List.replicate (Int.toNat (a0.Body.length:Int)) (cM.mk 0 false)).map ep)))] ?_;obtain⟨aa,cz,h⟩:=aB h;refine Vd [(3,.a1 (.ao 2 (aa.2.map ep)))] (λP bg=>?_) ?_
 ·(try simp only[aS.down,simprocAttr,(show∀s,gr al s 184 [(0,.int .i64 a0.cU)]=some (.agg [.int .i64 a0.cU,.bool false],s)from λs=>by kernel_rfl),oD]);refine MB [⟨.int .i64 0,false,_,.hole⟩,⟨.agg [.int .i64 a0.cU,.bool false],false,_,.hole⟩,⟨.h 3 [],true,_,_⟩,⟨.h 1 [],false,_,.hole⟩,⟨.ref (.hole),false,_,.hole⟩] (aa8 0 (cM.mk a0.cU false) (List.replicate (Int.toNat (a0.Body.length:Int)) (cM.mk 0 false)) a0 _ cz) rfl (by simp only[aS.down,simprocAttr,(show∀s,gr al s 184 [(0,.int .i64 a0.cU)]=some (.agg [.int .i64 a0.cU,.bool false],s)from λs=>by kernel_rfl),oD,qp,nQ,mE,jq,jr,js,dL,or_true,true_or, @cL _ ep ep (λ_=>Ng _), @cL _ df df (λ_=>B4 _)]) rfl rfl ((inr (by simp only[qq,I.cF,I.gM,Bool.and_self, @ki _ ep (λ_=>WH _)]))) ?_;simp only[aS.down,simprocAttr,(show∀s,gr al s 184 [(0,.int .i64 a0.cU)]=some (.agg [.int .i64 a0.cU,.bool false],s)from λs=>by kernel_rfl),oD,oz];(try simp only[iL.down,simprocAttr,(show∀s,gr al s 184 [(0,.int .i64 a0.cU)]=some (.agg [.int .i64 a0.cU,.bool false],s)from λs=>by kernel_rfl),oD]at bg⊢);exact bg
 exact aM ah [.ao 2 (aa.2.map ep)]
theorem aa9 (a0 r) (h:F8 a0=some r):aX al 182 [df a0] (.bool r) []:=by
 refine bA [0] [.tmp 2] Tryz.func182 c182 λbs ah bw=>aj ?_;refine k7 (a0.Kind==4) [(1,.a1 (df a0)),(3,.bool ((a0.Kind==4)||(a0.Kind==5)))] ?_;refine dv (ch [(1,.a1 (df a0)),(3,.bool ((a0.Kind==4)||(a0.Kind==5))),(4,.bool (((a0.Kind==1)||(a0.Kind==3))||(a0.Kind==5)))] (λP bg=>?_) ?_)
 ·(rcases Bool.eq_false_or_eq_true (a0.Kind==1)with ke|ke)<;>(rcases Bool.eq_false_or_eq_true (a0.Kind==3)with Ih|Ih)<;>
   (simp only[aS.down,simprocAttr,ke,Ih]
    exact bZ (af ke Ih))
 obtain⟨aa,bF,h⟩:=aB h;refine dv (ch [(2,.bool (((aa&&(((a0.Kind==4)||(a0.Kind==5))||(a0.Number==0)))&&((a0.Kind==1)||(a0.Name==([]:aht))))&&((((a0.Kind==1)||(a0.Kind==3))||(a0.Kind==5))||((a0.ck.length:Int)==0))))] (λP bg=>?_) ?_)
 ·(rcases Bool.eq_false_or_eq_true (aa)with rV|rV)<;>(rcases Bool.eq_false_or_eq_true (a0.Kind==4)with n0|n0)<;>(rcases Bool.eq_false_or_eq_true (a0.Kind==5)with r2|r2)<;>(rcases Bool.eq_false_or_eq_true (a0.Number==0)with Ct|Ct)<;>(rcases Bool.eq_false_or_eq_true (a0.Kind==1)with Cu|Cu)<;>(rcases Bool.eq_false_or_eq_true (a0.Name==([]:aht))with Cv|Cv)<;>(rcases Bool.eq_false_or_eq_true (a0.Kind==3)with Cw|Cw)<;>
   ((try simp only[aS.down,simprocAttr,rV,n0,r2,Ct,Cu,Cv,Cw])
    refine ey (jM a0.Kind 0 5 _ bF) (hK:= ?_);simp only[aS.down,simprocAttr,rV,n0,r2,Ct,Cu,Cv,Cw];exact bZ (af rV (af n0 (af r2 (af Ct (af Cu (af Cv Cw)))))))
 exact dk ah [.bool (((aa&&(((a0.Kind==4)||(a0.Kind==5))||(a0.Number==0)))&&((a0.Kind==1)||(a0.Name==([]:aht))))&&((((a0.Kind==1)||(a0.Kind==3))||(a0.Kind==5))||((a0.ck.length:Int)==0)))]
theorem kP (a0 r) (h:qz a0=some r):aX al 119 [.str a0] (.bool r) []:=by
 refine bA [0] [.tmp 2] Tryz.func119 c119 λbs ah bw=>aj ?_;obtain⟨aa,aR,h⟩:=aB h;refine dv (ch [(2,.bool (aa&&(!(a0==([116,97,117]:aht)))))] (λP bg=>?_) ?_)
 .rcases Bool.eq_false_or_eq_true (aa)with ke|ke
  ·(try simp only[aS.down,simprocAttr,ke]);refine ey (Cs a0 _ aR) (hK:= ?_);simp only[aS.down,simprocAttr,ke];exact bZ ke
  ·(try simp only[aS.down,simprocAttr,ke]);refine ey (Cs a0 _ aR) (hK:= ?_);simp only[aS.down,simprocAttr,ke];exact bZ ke
 exact dk ah [.bool (aa&&(!(a0==([116,97,117]:aht))))]
theorem r3 (a0 J r) (h:rR a0 J=some r):aX al 117 [.int .i64 a0,.int .i64 J] (.bool r) []:=by
 refine bA [0,1] [.tmp 4] Tryz.func117 c117 λbs ah bw=>aj ?_;obtain⟨aa,aR,h⟩:=aB h;refine cN (jM a0 0 (i64.wrap (J-1)) _ aR) _ ?_;exact dk ah [.bool aa]
theorem aa_ (a0 J r) (h:F9 a0 J=some r):aX al 183 [df a0,.slice (J.map bU)] (.bool r) []:=by
 refine bA [0,1] [.tmp 4] Tryz.func183 c183 λbs ah bw=>aj ?_;refine aj ?_;refine aE ah λ_ fH db _=>aj ?_;refine bo db λ_ dJ cJ _ _=>aj ?_;refine aL h (λsE h=>?_) λsE h=>?_
 .refine dv (ch [(4,.bool (((a0.ck.length:Int)==0)||((!(a0.Name==([116,97,117]:aht)))&&(decide ((a0.ck.length:Int)<=2)))))] (λP bg=>?_) ?_)
  ·(rcases Bool.eq_false_or_eq_true ((a0.ck.length:Int)==0)with n0|n0)<;>(rcases Bool.eq_false_or_eq_true (a0.Name==([116,97,117]:aht))with r2|r2)<;>
    (simp only[aS.down,simprocAttr,n0,r2]
     exact bZ (af n0 r2))
  exact dk cJ [.bool (((a0.ck.length:Int)==0)||((!(a0.Name==([116,97,117]:aht)))&&(decide ((a0.ck.length:Int)<=2))))]
 .refine aj ?_;refine aL h (λfK h=>?_) λfK h=>?_
  .exact aM cJ [.bool ((a0.ck.length:Int)==1)]
  .refine aj ?_;refine aL h (λeI h=>?_) λeI h=>?_
   .obtain⟨aa,ef,h⟩:=aB h;refine eH ef _ ?_;exact dk cJ [.bool ((a0.ck.length:Int)==aa.cU)]
   .exact aO (dJ _ (fH _ (inl (aM ah [.bool true]))))
theorem N8 (a0 r) (h:yc a0=some r):aX al 155 [.int .i64 a0] (.bool r) []:=by
 refine bA [0] [.tmp 2] Tryz.func155 XL λbs ah bw=>aj ?_;obtain⟨aa,aR,h⟩:=aB h;refine cN (jM a0 0 63 _ aR) _ ?_;exact dk ah [.bool aa]
theorem aba (a0 J r) (h:Bn a0 J=some r):aX al 203 [e0 a0,.int .i64 J] (.bool r) []:=by
 refine bA [0,1] [.tmp 4] Tryz.func203 c203 λbs ah bw=>aj ?_;refine aE ah λ_ bB a7 ag=>aj ?_;refine bo a7 λ_ fC bJ _ _=>aj ?_;refine aL h (λdi h=>?_) λdi h=>?_
 .obtain⟨aa,gL,h⟩:=aB h;refine cN (N8 a0.Value _ gL) _ ?_;exact dk bJ [.bool aa]
 .refine aj ?_;refine aL h (λfv h=>?_) λfv h=>?_
  .obtain⟨ag,dD,h⟩:=aB h;refine cN (jM a0.Value 0 (i64.wrap (J-1)) _ dD) _ ?_;exact dk bJ [.bool ag]
  .refine aj ?_;refine aL h (λhC h=>?_) λhC h=>?_
   .obtain⟨aK,cC,h⟩:=aB h;refine cN (jM a0.Value 0 8 _ cC) _ ?_;exact dk bJ [.bool aK]
   .refine aj ?_;refine aL h (λjv h=>?_) λjv h=>?_
    .exact aM bJ [.bool (a0.Value==0)]
    .exact aO (fC _ (bB _ (inl (aM ah [.bool false]))))
theorem abb (a0 r) (h:F_ a0=some r):aX al 204 [e0 a0] (.int .i64 r) []:=by
 refine bA [0] [.tmp 2] Tryz.func204 XM λbs ah bw=>aj ?_;refine aE ah λ_ bB a7 _=>aj ?_;refine bo a7 λ_ fC bJ _ _=>aj ?_;refine aL h (λdi h=>?_) λdi h=>?_
 .exact aM bJ [.int .i64 2]
 .refine aj ?_;refine aL h (λgm h=>?_) λgm h=>?_
  .exact aM bJ [.int .i64 1]
  .exact aO (fC _ (bB _ (inl (aM ah [.int .i64 0]))))
theorem abc (a0 J a2 r) (h:Bo a0 J a2=some r):aX al 186 [.slice (a0.map e0),.int .i64 J,.int .i64 a2] (.bool r) []:=by
 refine bA [0,1,2] [.tmp 6] Tryz.func186 XN λbs ah bw=>aj ?_;refine aE ah λ_ bB a7 ag=>?_;obtain⟨aa,b4,h⟩:=aB h;rcases eg h with⟨cT,h⟩|⟨cT,h⟩
 .refine fc (gb cT) (jM J 0 29 _ b4) _ ?_;refine hU rfl ?_;exact aM a7 [.bool false]
 .obtain⟨ag,bF,h⟩:=aB h;rcases eg h with⟨b9,h⟩|⟨b9,h⟩
  .refine dv (ch [(0,.slice (a0.map e0)),(1,.int .i64 J),(24,.bool true)] (λP bg=>?_) ?_)
   ·(try simp only[aS.down,simprocAttr,(bC cT),(gb b9)]);refine ey (jM J 0 29 _ b4) (hK:= ?_);simp only[aS.down,simprocAttr,(bC cT),(gb b9)];refine hk (jM a2 1 60 _ bF) (hK:= ?_);simp only[aS.down,simprocAttr,(bC cT),(gb b9)];exact bZ (af (bC cT) (gb b9))
   refine hU rfl ?_;exact aM a7 [.bool false]
  .obtain⟨aK,lO,h⟩:=aB h;refine dv (ch [(0,.slice (a0.map e0)),(1,.int .i64 J),(24,.bool (!aK))] (λP bg=>?_) ?_)
   ·(try simp only[aS.down,simprocAttr,(bC cT),(bC b9)]);refine ey (jM J 0 29 _ b4) (hK:= ?_);simp only[aS.down,simprocAttr,(bC cT),(bC b9)];refine hk (jM a2 1 60 _ bF) (hK:= ?_);simp only[aS.down,simprocAttr,(bC cT),(bC b9)];refine hk (jM (a0.length:Int) 1 a2 _ lO) (hK:= ?_);simp only[aS.down,simprocAttr,(bC cT),(bC b9)];exact bZ (af (bC cT) (bC b9))
   refine aL h (λhI h=>?_) λhI h=>?_
   .exact aM a7 [.bool false]
   .refine aO (bB _ (inl (aj ?_)));refine aE ah λ_ n14 ee _=>aj ?_;refine bo ee λIe _ iM ml _=>?_;show a_ al (.loop ?iK) _ _;have j3:∀n hY pG,vj a0 J n hY pG=some r->cR al ?iK Ie (ax [(1,.int .i64 J),(7,.int .i64 hY),(25,.slice (a0.map e0)),(26,.int .i64 (a0.length:Int)),(27,.int .i64 pG)]):=by
     refine c7 λ_ j4 hY pG h=>c6 iM λ_ n17 hJ tJ=>aj ?_;refine aE hJ λ_ n19 _ H6=>aL h (λfu h=>?_) λfu h=>?_
     .refine aO (n19 _ (inl (aE hJ λ_ n21 pS _=>bo pS λ_ n22 kn _ _=>?_)));obtain⟨a6,jy,h⟩:=aB h;refine eH jy _ ?_;refine aE kn λ_ n25 qG _=>?_;rcases eg h with⟨mj,h⟩|⟨mj,h⟩
      .refine eH mj _ ?_;refine hU rfl ?_;exact aM qG [.bool false]
      .obtain⟨ba,oP,h⟩:=aB h;refine fc mj (aba a6 J _ oP) _ ?_;refine aL h (λkN h=>?_) λkN h=>?_
       .exact aM qG [.bool false]
       .refine aO (n25 _ (inl ?_));obtain⟨bP,qH,h⟩:=aB h;refine NJ (abb a6 _ qH) _ ?_;refine n22 _ (n21 _ (inl (dI ?_)));exact n17 _ (inr ⟨_,bL rfl,j4 (i64.wrap (hY+(i64.wrap (bP-1)))) (i64.wrap (pG+1)) h⟩)
     .exact c1 (H6 0 _ (tJ 0 _ (ml _ (n14 _ (inl (aM ah [.bool (hY==0)]))))))
    exact dp h λn h=>j3 n 1 0 h
theorem abd (a0 J r) (h:Gb a0 J=some r):aX al 185 [.slice (a0.map e0),.ref (ep J)] (.bool r) []:=by
 refine bA [0,1] [.tmp 3] Tryz.func185 XO λbs ah bw=>aj ?_;obtain⟨aa,aR,h⟩:=aB h;refine cN (abc a0 J.scope 15 _ aR) _ ?_;exact dk ah [.bool (!aa)]
theorem abe (a0 J r) (h:Gd a0 J=some r):aX al 202 [.slice (a0.map je),.fn 185 [.ref (ep J)]] (.int .i64 r) []:=by
 refine bA [0,1] [.tmp 4] Tryz.func202 XP λbs ah bw=>aj ?_;refine aE ah λ_ bB a7 ag=>aj ?_;refine bo a7 λer _ bJ bO _=>?_;show a_ al (.loop ?eo) _ _;have eM:∀n cx,yd a0 J n cx=some r->cR al ?eo er (ax [(0,.slice (a0.map je)),(1,.fn 185 [.ref (ep J)]),(7,.int .i64 (a0.length:Int)),(8,.int .i64 cx)]):=by
  refine c7 λ_ eD cx h=>c6 bJ λ_ dJ cJ ba=>aj ?_;refine aE cJ λ_ dx _ cG=>aL h (λb9 h=>?_) λb9 h=>?_
  .refine aO (dx _ (inl (aE cJ λ_ cn bS _=>bo bS λ_ n10 cV _ _=>aj ?_)));obtain⟨aa,dE,h⟩:=aB h;obtain⟨ag,ea,h⟩:=aB h;refine fc dE (abd aa J _ ea) _ ?_;refine aL h (λeI h=>?_) λeI h=>?_
   .exact aM cV [.int .i64 cx]
   .refine aO (n10 _ (cn _ (inl (dI ?_))));exact dJ _ (inr ⟨_,bL rfl,eD (i64.wrap (cx+1)) h⟩)
  .exact c1 (cG 0 _ (ba 0 _ (bO _ (bB _ (inl (aM ah [.int .i64 (-1)]))))))
 exact dp h λn h=>eM n 0 h
theorem abf (a0 J r) (h:Bp a0 J=some r):aX al 184 [.slice (a0.map je),.fn 185 [.ref (ep J)]] (.bool r) []:=by
 refine bA [0,1] [.tmp 4] Tryz.func184 XQ λbs ah bw=>aj ?_;obtain⟨aa,aR,h⟩:=aB h;refine cN (abe a0 J _ aR) _ ?_;exact dk ah [.bool (decide (0<=aa))]
theorem abg (a0 J a2 r) (h:yh a0 J a2=some r):aX al 153 [df a0,.slice (J.map bU),ep a2] (.int .i64 r) []:=by
 refine bA [0,1,2] [.tmp 6] Tryz.func153 XU λbs ah bw=>aj ?_;refine aE ah λ_ bB a7 ag=>bo a7 λN9 fH db _ aK=>?_;obtain⟨aa,cz,h⟩:=aB h;refine cN (aa9 a0 _ cz) _ ?_;refine aL h (λdi h=>?_) λdi h=>?_
 .exact aM db [.int .i64 2]
 .skip;have vK:∀yg,yf a0 J a2 yg=some r->a_ al Nv N9 (ax [(1,.slice (J.map bU)),(3,.a1 (df a0)),(5,.a1 (ep a2)),(11,.bool yg)]):=by
   intro yg h;refine aL h (λb9 h=>?_) λb9 h=>?_
   .exact aM db [.int .i64 3]
   .skip;have y7:∀ye,tn a0 J a2 ye=some r->a_ al Nu N9 (ax [(1,.slice (J.map bU)),(3,.a1 (df a0)),(5,.a1 (ep a2)),(26,.bool ye)]):=by
     intro ye h;refine aL h (λfv h=>?_) λfv h=>?_
     .exact aM db [.int .i64 4]
     .obtain⟨ag,dE,h⟩:=aB h;refine cN (aa_ a0 J _ dE) _ ?_;refine aL h (λhC h=>?_) λhC h=>?_
      .exact aM db [.int .i64 5]
      .refine k7 (a0.Kind==5) [(3,.a1 (df a0)),(5,.a1 (ep a2)),(54,.bool ((a0.Kind==5)&&(!a2.behind)))] ?_;refine aL h (λjL h=>?_) λjL h=>?_
       .exact aM db [.int .i64 6]
       .refine k7 (a0.Kind==4) [(3,.a1 (df a0)),(5,.a1 (ep a2)),(63,.bool ((a0.Kind==4)&&(decide (6<=a2.scope))))] ?_;refine aL h (λfu h=>?_) λfu h=>?_
        .exact aM db [.int .i64 7]
        .obtain⟨aK,ko,h⟩:=aB h;refine dv (ch [(72,.bool aK)] (λP bg=>?_) ?_)
         ·(try simp only[aS.down,simprocAttr]);refine ey (abf a0.ck a2 _ ko) rfl rfl (by simp only[aS.down,simprocAttr,Cf.down]<;>rfl) rfl (inr (by rfl)) ?_;simp only[aS.down,simprocAttr];exact bZ trivial
         refine aL h (λgU h=>?_) λgU h=>?_
         .exact aM db [.int .i64 8]
         .exact aO (fH _ (bB _ (inl (aM ah [.int .i64 0]))))
    rcases eg h with⟨jh,h⟩|⟨jh,h⟩
    .obtain⟨a6,oP,h⟩:=aB h;rcases eg h with⟨kN,h⟩|⟨kN,h⟩
     .refine kY (ch (K:=dR _) [(1,.slice (J.map bU)),(3,.a1 (df a0)),(5,.a1 (ep a2)),(26,.bool true)] (λP bg=>?_) ?_)
      ·(try simp only[aS.down,simprocAttr,jh,(gb kN)]);refine hk (jM a0.Number 1 7 _ oP) (hK:= ?_);simp only[aS.down,simprocAttr,jh,(gb kN)];exact bZ (af jh (gb kN))
      exact inr ⟨_,bL rfl,y7 true h⟩
     .rcases eg h with⟨hh,h⟩|⟨hh,h⟩
      .obtain⟨ba,Co,h⟩:=aB h;refine kY (ch (K:=dR _) [(1,.slice (J.map bU)),(3,.a1 (df a0)),(5,.a1 (ep a2)),(26,.bool (!ba))] (λP bg=>?_) ?_)
       ·(try simp only[aS.down,simprocAttr,jh,(bC kN),hh]);refine hk (jM a0.Number 1 7 _ oP) (hK:= ?_);simp only[aS.down,simprocAttr,jh,(bC kN),hh];refine hk (r3 a0.Number (J.length:Int) _ Co) (hK:= ?_);simp only[aS.down,simprocAttr,jh,(bC kN),hh];exact bZ (af jh (af (bC kN) hh))
       exact inr ⟨_,bL rfl,y7 (!ba) h⟩
      .refine kY (ch (K:=dR _) [(1,.slice (J.map bU)),(3,.a1 (df a0)),(5,.a1 (ep a2)),(26,.bool false)] (λP bg=>?_) ?_)
       ·(try simp only[aS.down,simprocAttr,jh,(bC kN),hh]);refine hk (jM a0.Number 1 7 _ oP) (hK:= ?_);simp only[aS.down,simprocAttr,jh,(bC kN),hh];exact bZ (af jh (af (bC kN) hh))
       exact inr ⟨_,bL rfl,y7 false h⟩
    .rcases eg h with⟨h2,h⟩|⟨h2,h⟩
     .obtain⟨bP,lC,h⟩:=aB h;refine kY (ch (K:=dR _) [(1,.slice (J.map bU)),(3,.a1 (df a0)),(5,.a1 (ep a2)),(26,.bool (!bP))] (λP bg=>?_) ?_)
      ·(try simp only[aS.down,simprocAttr,jh,h2]);refine hk (r3 a0.Number (J.length:Int) _ lC) (hK:= ?_);simp only[aS.down,simprocAttr,jh,h2];exact bZ (af jh h2)
      exact inr ⟨_,bL rfl,y7 (!bP) h⟩
     .refine kY (ch (K:=dR _) [(1,.slice (J.map bU)),(3,.a1 (df a0)),(5,.a1 (ep a2)),(26,.bool false)] (λP bg=>?_) ?_)
      .simp only[aS.down,simprocAttr,jh,h2];exact bZ (af jh h2)
      exact inr ⟨_,bL rfl,y7 false h⟩
  rcases eg h with⟨pT,h⟩|⟨pT,h⟩
  .rcases eg h with⟨lD,h⟩|⟨lD,h⟩
   .obtain⟨cG,Ii,h⟩:=aB h;refine kY (ch (K:=dR _) [(1,.slice (J.map bU)),(3,.a1 (df a0)),(5,.a1 (ep a2)),(11,.bool (!cG))] (λP bg=>?_) ?_)
    ·(try simp only[aS.down,simprocAttr,pT,lD]);refine hk (kP a0.Name _ Ii) (hK:= ?_);simp only[aS.down,simprocAttr,pT,lD];exact bZ (af pT lD)
    exact inr ⟨_,bL rfl,vK (!cG) h⟩
   .refine kY (ch (K:=dR _) [(1,.slice (J.map bU)),(3,.a1 (df a0)),(5,.a1 (ep a2)),(11,.bool false)] (λP bg=>?_) ?_)
    .simp only[aS.down,simprocAttr,pT,lD];exact bZ (af pT lD)
    exact inr ⟨_,bL rfl,vK false h⟩
  .refine kY (ch (K:=dR _) [(1,.slice (J.map bU)),(3,.a1 (df a0)),(5,.a1 (ep a2)),(11,.bool false)] (λP bg=>?_) ?_)
   .simp only[aS.down,simprocAttr,pT];exact bZ pT
   exact inr ⟨_,bL rfl,vK false h⟩
theorem abh (a0 J r) (h:yi a0 J=some r):aX al 115 [.slice (a0.map bU),bU J] (.tuple [.int .i64 r.1,.int .i64 r.2]) []:=by
 refine bA [0,1] [.tmp 4,.tmp 5] Tryz.func115 XV λbs ah bw=>aj ?_;refine aE ah λ_ bB a7 ag=>?_;obtain⟨aa,b4,h⟩:=aB h;rcases eg h with⟨cT,h⟩|⟨cT,h⟩
 .refine k6 (gb cT) (jM (J.Body.length:Int) 1 20 _ b4) _ ?_;refine hU rfl ?_;exact aM a7 [.int .i64 0,.int .i64 1]
 .obtain⟨ag,bF,h⟩:=aB h;refine kh rfl (jH [(0,.slice (a0.map bU)),(3,.a1 (bU J)),(22,.bool (ag !=(J.Body.length:Int)))] (λP bg=>?_) ?_)
  ·(try simp only[dX.down,simprocAttr,(bC cT)]);refine kG (jM (J.Body.length:Int) 1 20 _ b4) (hK:= ?_);simp only[dX.down,simprocAttr,(bC cT)];refine jY (aa2 J 0 _ bF) (hK:= ?_);simp only[dX.down,simprocAttr,(bC cT)];refine⟨jI (by kernel_rfl),?_⟩;exact bZ (bC cT)
  refine aL h (λb9 h=>?_) λb9 h=>?_
  .exact aM a7 [.int .i64 0,.int .i64 1]
  .refine aO (bB _ (inl ?_));obtain⟨aK,lP,h⟩:=aB h;refine cN (Ig J _ lP) _ ?_;refine aE ah λ_ n12 jK _=>aj ?_;refine bo jK λHv _ ee hC _=>?_;show a_ al (.loop ?iK) _ _;have j3:∀n nh,tp a0 J aK n nh=some r->cR al ?iK Hv (ax [(0,.slice (a0.map bU)),(6,.ao 2 (aK.map ep)),(26,.slice (J.Body.map df)),(27,.int .i64 (J.Body.length:Int)),(28,.int .i64 nh)]):=by
    refine c7 λ_ j4 nh h=>c6 ee λ_ n15 hp nY=>aj ?_;refine aE hp λ_ n17 _ tJ=>aL h (λjv h=>?_) λjv h=>?_
    .refine aO (n17 _ (inl (aE hp λ_ n19 Hw _=>bo Hw λ_ n20 tB _ _=>?_)));obtain⟨a6,gv,h⟩:=aB h;refine eH gv _ ?_;obtain⟨ba,jy,h⟩:=aB h;obtain⟨bP,kO,h⟩:=aB h;refine k6 (af jy (cq jy)) (abg a6 a0 ba _ kO) _ ?_;refine aj ?_;refine aL h (λmj h=>?_) λmj h=>?_
     .exact aM tB [.int .i64 nh,.int .i64 bP]
     .refine aO (n20 _ (n19 _ (inl (dI ?_))));exact n15 _ (inr ⟨_,bL rfl,j4 (i64.wrap (nh+1)) h⟩)
    .exact c1 (tJ 0 _ (nY 0 _ (hC _ (n12 _ (inl (aM ah [.int .i64 0,.int .i64 0]))))))
   exact dp h λn h=>j3 n 0 h
theorem abj (a0 r) (h:Br a0=some r):aX al 83 [.slice (a0.map bU)] (.bool r) []:=by
 refine bA [0] [.tmp 2] Tryz.func83 XW λbs ah bw=>aj ?_;refine aE ah λ_ bB a7 ag=>?_;obtain⟨aa,b4,h⟩:=aB h;rcases eg h with⟨cT,h⟩|⟨cT,h⟩
 .refine fc (gb cT) (jM (a0.length:Int) 1 4 _ b4) _ ?_;refine hU rfl ?_;exact aM a7 [.bool false]
 .obtain⟨ag,bF,h⟩:=aB h;refine dv (ch [(0,.slice (a0.map bU)),(15,.bool (!ag))] (λP bg=>?_) ?_)
  ·(try simp only[aS.down,simprocAttr,(bC cT)]);refine ey (jM (a0.length:Int) 1 4 _ b4) (hK:= ?_);simp only[aS.down,simprocAttr,(bC cT)];refine hk (aaY a0 _ bF) (hK:= ?_);simp only[aS.down,simprocAttr,(bC cT)];exact bZ (bC cT)
  refine aL h (λb9 h=>?_) λb9 h=>?_
  .exact aM a7 [.bool false]
  .refine aO (bB _ (inl (aE ah λ_ n10 cV _=>aj ?_)));refine bo cV λtE _ jK fK _=>?_;show a_ al (.loop ?hb) _ _;have hf:∀n nU,vk a0 n nU=some r->cR al ?hb tE (ax [(0,.slice (a0.map bU)),(16,.slice (a0.map bU)),(17,.int .i64 (a0.length:Int)),(18,.int .i64 nU)]):=by
    refine c7 λ_ gQ nU h=>c6 jK λ_ n13 fI oI=>aj ?_;refine aE fI λ_ n15 _ nY=>aL h (λml h=>?_) λml h=>?_
    .refine aO (n15 _ (inl (aE fI λ_ n17 hJ _=>bo hJ λ_ n18 qI _ _=>?_)));obtain⟨aK,iN,h⟩:=aB h;refine eH iN _ ?_;refine aE qI λ_ n21 pS _=>?_;obtain⟨a6,ko,h⟩:=aB h;rcases eg h with⟨gU,h⟩|⟨gU,h⟩
     .refine k6 (gb gU) (Cs aK.Name _ ko) _ ?_;refine hU rfl ?_;exact aM pS [.bool false]
     .obtain⟨ba,oN,h⟩:=aB h;obtain⟨bP,rU,h⟩:=aB h;refine kh rfl (jH [(0,.slice (a0.map bU)),(4,.a1 (bU aK)),(16,.slice (a0.map bU)),(17,.int .i64 (a0.length:Int)),(18,.int .i64 nU),(35,.bool (decide (0<=bP)))] (λP bg=>?_) ?_)
      ·(try simp only[dX.down,simprocAttr,(bC gU),oN, @oy _ bU 3 (λ_=>rfl)]);refine kG (Cs aK.Name _ ko) (hK:= ?_);simp only[dX.down,simprocAttr,(bC gU),oN, @oy _ bU 3 (λ_=>rfl)];refine jY (N4 ba aK.Name _ rU) (hK:= ?_);simp only[dX.down,simprocAttr,(bC gU),oN, @oy _ bU 3 (λ_=>rfl)];refine⟨jI (by kernel_rfl),?_⟩;exact bZ (af (bC gU) (af oN (@oy _ bU 3 λ_=>rfl)))
      refine aL h (λjh h=>?_) λjh h=>?_
      .exact aM pS [.bool false]
      .refine aO (n21 _ (inl ?_));obtain⟨cG,tK,h⟩:=aB h;refine cN (abh a0 aK _ tK) _ ?_;refine aj ?_;refine aL h (λh2 h=>?_) λh2 h=>?_
       .exact aM qI [.bool false]
       .refine aO (n18 _ (n17 _ (inl (dI ?_))));exact n13 _ (inr ⟨_,bL rfl,gQ (i64.wrap (nU+1)) h⟩)
    .exact c1 (nY 0 _ (oI 0 _ (fK _ (n10 _ (inl (aM ah [.bool true]))))))
   exact dp h λn h=>hf n 0 h
theorem abk (a0 r) (h:Gf a0=some r):aX al 154 [.int .i64 a0] (.bool r) []:=by
 refine bA [0] [.tmp 2] Tryz.func154 c154 λbs ah bw=>aj ?_;obtain⟨aa,aR,h⟩:=aB h;refine cN (N8 a0 _ aR) _ ?_;exact dk ah [.bool (!aa)]
theorem abl (a0 r) (h:Gh a0=some r):aX al 134 [.slice (a0.map cA),.fn 154 []] (.int .i64 r) []:=by
 refine bA [0,1] [.tmp 4] Tryz.func134 XX λbs ah bw=>aj ?_;refine aE ah λ_ bB a7 ag=>aj ?_;refine bo a7 λer _ bJ bO _=>?_;show a_ al (.loop ?eo) _ _;have eM:∀n cx,yj a0 n cx=some r->cR al ?eo er (ax [(0,.slice (a0.map cA)),(1,.fn 154 []),(7,.int .i64 (a0.length:Int)),(8,.int .i64 cx)]):=by
  refine c7 λ_ eD cx h=>c6 bJ λ_ dJ cJ ba=>aj ?_;refine aE cJ λ_ dx _ cG=>aL h (λb9 h=>?_) λb9 h=>?_
  .refine aO (dx _ (inl (aE cJ λ_ cn bS _=>bo bS λ_ n10 cV _ _=>aj ?_)));obtain⟨aa,dE,h⟩:=aB h;obtain⟨ag,ea,h⟩:=aB h;refine fc dE (abk aa _ ea) _ ?_;refine aL h (λeI h=>?_) λeI h=>?_
   .exact aM cV [.int .i64 cx]
   .refine aO (n10 _ (cn _ (inl (dI ?_))));exact dJ _ (inr ⟨_,bL rfl,eD (i64.wrap (cx+1)) h⟩)
  .exact c1 (cG 0 _ (ba 0 _ (bO _ (bB _ (inl (aM ah [.int .i64 (-1)]))))))
 exact dp h λn h=>eM n 0 h
theorem abm (a0 r) (h:Gi a0=some r):aX al 97 [.slice (a0.map cA),.fn 154 []] (.bool r) []:=by
 refine bA [0,1] [.tmp 4] Tryz.func97 XY λbs ah bw=>aj ?_;obtain⟨aa,aR,h⟩:=aB h;refine cN (abl a0 _ aR) _ ?_;exact dk ah [.bool (decide (0<=aa))]
theorem N_ (a0 r) (h:yk a0=some r):aX al 118 [.slice (a0.map cA)] (.bool r) []:=by
 refine bA [0] [.tmp 2] Tryz.func118 XZ λbs ah bw=>aj ?_;obtain⟨aa,aR,h⟩:=aB h;refine cN (abm a0 _ aR) _ ?_;exact dk ah [.bool (!aa)]
theorem abn (a0 J r) (h:Bs a0 J=some r):aX al 87 [.slice (a0.map bU),ho J] (.bool r) []:=by
 refine bA [0,1] [.tmp 4] Tryz.func87 c87 λbs ah bw=>aj ?_;obtain⟨aa,aR,h⟩:=aB h;rcases eg h with⟨bO,h⟩|⟨bO,h⟩
 .obtain⟨ag,cz,h⟩:=aB h;rcases eg h with⟨di,h⟩|⟨di,h⟩
  .obtain⟨aK,bF,h⟩:=aB h;refine kh rfl (jH [(4,.bool aK)] (λP bg=>?_) ?_)
   ·(try simp only[dX.down,simprocAttr,bO,cz,di]);refine kG (r3 J.dd (a0.length:Int) _ aR) (hK:= ?_);simp only[dX.down,simprocAttr,bO,cz,di];refine jY (N_ J.b5 _ bF) (hK:= ?_);simp only[dX.down,simprocAttr,bO,cz,di];refine⟨jI (by kernel_rfl),?_⟩;exact bZ (af bO (af cz di))
   exact dk ah [.bool aK]
  .refine k6 (af bO (af cz di)) (r3 J.dd (a0.length:Int) _ aR) _ ?_;exact dk ah [.bool false]
 .refine k6 bO (r3 J.dd (a0.length:Int) _ aR) _ ?_;exact dk ah [.bool false]
theorem abo (a0 J r) (h:Gj a0 J=some r):aX al 86 [ho a0,.ref (fj J)] (.bool r) []:=by
 refine bA [0,1] [.tmp 3] Tryz.func86 X0 λbs ah bw=>aj ?_;obtain⟨aa,aR,h⟩:=aB h;refine cN (abn J.br a0 _ aR) _ ?_;exact dk ah [.bool (!aa)]
theorem abp (a0 J r) (h:Gl a0 J=some r):aX al 116 [.slice (a0.map ho),.fn 86 [.ref (fj J)]] (.int .i64 r) []:=by
 refine bA [0,1] [.tmp 4] Tryz.func116 c116 λbs ah bw=>aj ?_;refine aE ah λ_ bB a7 ag=>aj ?_;refine bo a7 λer _ bJ bO _=>?_;show a_ al (.loop ?eo) _ _;have eM:∀n cx,yl a0 J n cx=some r->cR al ?eo er (ax [(0,.slice (a0.map ho)),(1,.fn 86 [.ref (fj J)]),(7,.int .i64 (a0.length:Int)),(8,.int .i64 cx)]):=by
  refine c7 λ_ eD cx h=>c6 bJ λ_ dJ cJ ba=>aj ?_;refine aE cJ λ_ dx _ cG=>aL h (λb9 h=>?_) λb9 h=>?_
  .refine aO (dx _ (inl (aE cJ λ_ cn bS _=>bo bS λ_ n10 cV _ _=>aj ?_)));obtain⟨aa,dE,h⟩:=aB h;obtain⟨ag,ea,h⟩:=aB h;refine fc dE (abo aa J _ ea) _ ?_;refine aL h (λeI h=>?_) λeI h=>?_
   .exact aM cV [.int .i64 cx]
   .refine aO (n10 _ (cn _ (inl (dI ?_))));exact dJ _ (inr ⟨_,bL rfl,eD (i64.wrap (cx+1)) h⟩)
  .exact c1 (cG 0 _ (ba 0 _ (bO _ (bB _ (inl (aM ah [.int .i64 (-1)]))))))
 exact dp h λn h=>eM n 0 h
theorem abq (a0 J r) (h:Bt a0 J=some r):aX al 85 [.slice (a0.map ho),.fn 86 [.ref (fj J)]] (.bool r) []:=by
 refine bA [0,1] [.tmp 4] Tryz.func85 c85 λbs ah bw=>aj ?_;obtain⟨aa,aR,h⟩:=aB h;refine cN (abp a0 J _ aR) _ ?_;exact dk ah [.bool (decide (0<=aa))]
theorem Oa (a0 r) (h:cmp_isNaN_string a0=some r):aX al 205 [.str a0] (.bool r) []:=by
 refine bA [0] [.tmp 2] Tryz.func205 X1 λbs ah bw=>aj ?_;exact aM ah [.bool false]
theorem abr (a0 J r) (h:Bu a0 J=some r):aX al 187 [.str a0,.str J] (.int .i64 r) []:=by
 refine bA [0,1] [.tmp 4] Tryz.func187 X2 λbs ah bw=>aj ?_;obtain⟨aa,aR,h⟩:=aB h;refine cN (Oa a0 _ aR) _ ?_;obtain⟨ag,cz,h⟩:=aB h;refine cN (Oa J _ cz) _ ?_;refine aE ah λ_ n6 dA _=>aj ?_;refine aL h (λb9 h=>?_) λb9 h=>?_
 .refine aE dA λ_ cn bS _=>aj ?_;refine aL h (λhI h=>?_) λhI h=>?_
  .exact aM bS [.int .i64 0]
  .exact aO (cn _ (inl (aM dA [.int .i64 (-1)])))
 .refine aO (n6 _ (inl (aE ah λ_ n14 ee _=>aj ?_)));refine aL h (λml h=>?_) λml h=>?_
  .exact aM ee [.int .i64 1]
  .refine aO (n14 _ (inl (aE ah λ_ n18 qI _=>aj ?_)));refine aL h (λfu h=>?_) λfu h=>?_
   .exact aM qI [.int .i64 (-1)]
   .refine aO (n18 _ (inl (aE ah λ_ n22 kn _=>aj ?_)));refine aL h (λgU h=>?_) λgU h=>?_
    .exact aM kn [.int .i64 1]
    .exact aO (n22 _ (inl (aM ah [.int .i64 0])))
theorem abt (a0 J r) (h:Bw a0 J=some r):aX al 156 [.slice (a0.map bn),.slice (J.map bn)] (.int .i64 r) []:=by
 refine bA [0,1] [.tmp 4] Tryz.func156 c156 λbs ah bw=>aj ?_;refine aE ah λ_ bB a7 ag=>aj ?_;refine bo a7 λer _ bJ bO _=>?_;show a_ al (.loop ?eo) _ _;have eM:∀n nV,Bv a0 J n nV=some r->cR al ?eo er (ax [(0,.slice (a0.map bn)),(1,.slice (J.map bn)),(9,.slice (a0.map bn)),(10,.int .i64 (a0.length:Int)),(11,.int .i64 nV)]):=by
  refine c7 λ_ eD nV h=>c6 bJ λ_ dJ cJ ba=>aj ?_;refine aE cJ λ_ dx _ cG=>aL h (λb9 h=>?_) λb9 h=>?_
  .refine aO (dx _ (inl (aE cJ λ_ cn bS _=>bo bS λ_ n10 cV _ _=>?_)));obtain⟨aa,dD,h⟩:=aB h;refine eH dD _ ?_;refine aE cV λ_ n13 fI _=>aj ?_;refine aL h (λeI h=>?_) λeI h=>?_
   .exact aM fI [.int .i64 1]
   .refine aO (n13 _ (inl ?_));obtain⟨ag,dZ,h⟩:=aB h;refine eH dZ _ ?_;obtain⟨aK,iN,h⟩:=aB h;refine cN (abr aa ag _ iN) _ ?_;refine aj ?_;refine aL h (λtD h=>?_) λtD h=>?_
    .exact aM cV [.int .i64 aK]
    .refine aO (n10 _ (cn _ (inl (dI ?_))));exact dJ _ (inr ⟨_,bL rfl,eD (i64.wrap (nV+1)) h⟩)
  .refine c1 (cG 0 _ (ba 0 _ (bO _ (bB _ (inl (aE ah λ_ n25 qG _=>aj ?_))))));refine aL h (λmj h=>?_) λmj h=>?_
   .exact aM qG [.int .i64 (-1)]
   .exact aO (n25 _ (inl (aM ah [.int .i64 0])))
 exact dp h λn h=>eM n 0 h
theorem abu (a0 J r) (h:Bx a0 J=some r):aX al 120 [cb a0,cb J] (.int .i64 r) []:=by
 refine bA [0,1] [.tmp 4] Tryz.func120 X3 λbs ah bw=>aj ?_;obtain⟨aa,aR,h⟩:=aB h;refine dv (ch [(4,.int .i64 aa)] (λP bg=>?_) ?_)
 ·(try simp only[aS.down,simprocAttr,(show∀s,f_ al s 25 2 [(0,.str a0.Left),(1,.str a0.b0)]=some (.ao 1 [.str a0.Left,.str a0.b0],s)from λs=>by kernel_rfl),(show∀s,f_ al s 25 2 [(0,.str J.Left),(1,.str J.b0)]=some (.ao 1 [.str J.Left,.str J.b0],s)from λs=>by kernel_rfl)]);refine ey (abt [a0.Left,a0.b0] [J.Left,J.b0] _ aR) rfl rfl (by simp only[aS.down,simprocAttr,(show∀s,f_ al s 25 2 [(0,.str a0.Left),(1,.str a0.b0)]=some (.ao 1 [.str a0.Left,.str a0.b0],s)from λs=>by kernel_rfl),(show∀s,f_ al s 25 2 [(0,.str J.Left),(1,.str J.b0)]=some (.ao 1 [.str J.Left,.str J.b0],s)from λs=>by kernel_rfl),jq,jr,js,dL,I.shares, @cL _ bn bn (λ_=>kL _), @cL _ bn bn (λ_=>kL _)]<;>rfl) rfl (inr (by rfl)) ?_;simp only[aS.down,simprocAttr,(show∀s,f_ al s 25 2 [(0,.str a0.Left),(1,.str a0.b0)]=some (.ao 1 [.str a0.Left,.str a0.b0],s)from λs=>by kernel_rfl),(show∀s,f_ al s 25 2 [(0,.str J.Left),(1,.str J.b0)]=some (.ao 1 [.str J.Left,.str J.b0],s)from λs=>by kernel_rfl)];exact bZ (af (show∀s,f_ al s 25 2 [(0,.str a0.Left),(1,.str a0.b0)]=some (.ao 1 [.str a0.Left,.str a0.b0],s)from λs=>by kernel_rfl) (show∀s,f_ al s 25 2 [(0,.str J.Left),(1,.str J.b0)]=some (.ao 1 [.str J.Left,.str J.b0],s)from λs=>by kernel_rfl))
 exact dk ah [.int .i64 aa]
theorem abv (a0 J r) (h:Gm a0 J=some r):aX al 122 [cb a0,.ref (cb J)] (.bool r) []:=by
 refine bA [0,1] [.tmp 3] Tryz.func122 X4 λbs ah bw=>aj ?_;refine k7 (a0.Left==J.Result) [(3,.bool ((a0.Left==J.Result)||(a0.b0==J.Result)))] ?_;exact dk ah [.bool ((a0.Left==J.Result)||(a0.b0==J.Result))]
theorem abw (a0 J r) (h:Gp a0 J=some r):aX al 157 [.slice (a0.map cb),.fn 122 [.ref (cb J)]] (.int .i64 r) []:=by
 refine bA [0,1] [.tmp 4] Tryz.func157 c157 λbs ah bw=>aj ?_;refine aE ah λ_ bB a7 ag=>aj ?_;refine bo a7 λer _ bJ bO _=>?_;show a_ al (.loop ?eo) _ _;have eM:∀n cx,ym a0 J n cx=some r->cR al ?eo er (ax [(0,.slice (a0.map cb)),(1,.fn 122 [.ref (cb J)]),(7,.int .i64 (a0.length:Int)),(8,.int .i64 cx)]):=by
  refine c7 λ_ eD cx h=>c6 bJ λ_ dJ cJ ba=>aj ?_;refine aE cJ λ_ dx _ cG=>aL h (λb9 h=>?_) λb9 h=>?_
  .refine aO (dx _ (inl (aE cJ λ_ cn bS _=>bo bS λ_ n10 cV _ _=>aj ?_)));obtain⟨aa,dE,h⟩:=aB h;obtain⟨ag,ea,h⟩:=aB h;refine fc dE (abv aa J _ ea) _ ?_;refine aL h (λeI h=>?_) λeI h=>?_
   .exact aM cV [.int .i64 cx]
   .refine aO (n10 _ (cn _ (inl (dI ?_))));exact dJ _ (inr ⟨_,bL rfl,eD (i64.wrap (cx+1)) h⟩)
  .exact c1 (cG 0 _ (ba 0 _ (bO _ (bB _ (inl (aM ah [.int .i64 (-1)]))))))
 exact dp h λn h=>eM n 0 h
theorem Ob (a0 J r) (h:yn a0 J=some r):aX al 121 [.slice (a0.map cb),.fn 122 [.ref (cb J)]] (.bool r) []:=by
 refine bA [0,1] [.tmp 4] Tryz.func121 X5 λbs ah bw=>aj ?_;obtain⟨aa,aR,h⟩:=aB h;refine cN (abw a0 J _ aR) _ ?_;exact dk ah [.bool (decide (0<=aa))]
theorem abx (a0 r) (h:Bz a0=some r):aX al 88 [.slice (a0.map cb)] (.bool r) []:=by
 refine bA [0] [.tmp 2] Tryz.func88 X6 λbs ah bw=>aj ?_;refine aE ah λ_ bB a7 _=>aj ?_;refine bo a7 λer _ bJ bO _=>?_;show a_ al (.loop ?eo) _ _;have eM:∀n eS,vl a0 n eS=some r->cR al ?eo er (ax [(0,.slice (a0.map cb)),(5,.slice (a0.map cb)),(6,.int .i64 (a0.length:Int)),(7,.int .i64 eS)]):=by
  refine c7 λ_ eD eS h=>c6 bJ λ_ dJ cJ ba=>aj ?_;refine aE cJ λ_ dx _ cG=>aL h (λb9 h=>?_) λb9 h=>?_
  .refine aO (dx _ (inl (aE cJ λ_ cn bS e_=>bo bS λ_ n10 cV _ dV=>?_)));obtain⟨aa,dD,h⟩:=aB h;refine eH dD _ ?_;refine aE cV λ_ n13 fI _=>?_;obtain⟨ba,gv,h⟩:=aB h;rcases eg h with⟨fL,h⟩|⟨fL,h⟩
   .refine k6 (gb fL) (kP aa.Left _ gv) _ ?_;refine hU rfl ?_;exact aM fI [.bool false]
   .obtain⟨bP,kO,h⟩:=aB h;rcases eg h with⟨h6,h⟩|⟨h6,h⟩
    .refine kh rfl (jH [(0,.slice (a0.map cb)),(4,.a1 (cb aa)),(5,.slice (a0.map cb)),(6,.int .i64 (a0.length:Int)),(7,.int .i64 eS),(48,.bool true)] (λP bg=>?_) ?_)
     ·(try simp only[dX.down,simprocAttr,(bC fL),(gb h6)]);refine kG (kP aa.Left _ gv) (hK:= ?_);simp only[dX.down,simprocAttr,(bC fL),(gb h6)];refine jY (kP aa.b0 _ kO) (hK:= ?_);simp only[dX.down,simprocAttr,(bC fL),(gb h6)];refine⟨jI (by kernel_rfl),?_⟩;exact bZ (af (bC fL) (gb h6))
     refine hU rfl ?_;exact aM fI [.bool false]
    .obtain⟨cG,nj,h⟩:=aB h;rcases eg h with⟨ji,h⟩|⟨ji,h⟩
     .refine kh rfl (jH [(0,.slice (a0.map cb)),(4,.a1 (cb aa)),(5,.slice (a0.map cb)),(6,.int .i64 (a0.length:Int)),(7,.int .i64 eS),(48,.bool true)] (λP bg=>?_) ?_)
      ·(try simp only[dX.down,simprocAttr,(bC fL),(bC h6),(gb ji)]);refine kG (kP aa.Left _ gv) (hK:= ?_);simp only[dX.down,simprocAttr,(bC fL),(bC h6),(gb ji)];refine jY (kP aa.b0 _ kO) (hK:= ?_);simp only[dX.down,simprocAttr,(bC fL),(bC h6),(gb ji)];refine jY (kP aa.Result _ nj) (hK:= ?_);simp only[dX.down,simprocAttr,(bC fL),(bC h6),(gb ji)];refine⟨jI (by kernel_rfl),?_⟩;exact bZ (af (bC fL) (af (bC h6) (gb ji)))
      refine hU rfl ?_;exact aM fI [.bool false]
     .rcases eg h with⟨hh,h⟩|⟨hh,h⟩
      .refine kh rfl (jH [(0,.slice (a0.map cb)),(4,.a1 (cb aa)),(5,.slice (a0.map cb)),(6,.int .i64 (a0.length:Int)),(7,.int .i64 eS),(48,.bool true)] (λP bg=>?_) ?_)
       ·(try simp only[dX.down,simprocAttr,(bC fL),(bC h6),(bC ji),hh]);refine kG (kP aa.Left _ gv) (hK:= ?_);simp only[dX.down,simprocAttr,(bC fL),(bC h6),(bC ji),hh];refine jY (kP aa.b0 _ kO) (hK:= ?_);simp only[dX.down,simprocAttr,(bC fL),(bC h6),(bC ji),hh];refine jY (kP aa.Result _ nj) (hK:= ?_);simp only[dX.down,simprocAttr,(bC fL),(bC h6),(bC ji),hh];refine⟨jI (by kernel_rfl),?_⟩;exact bZ (af (bC fL) (af (bC h6) (af (bC ji) hh)))
       refine hU rfl ?_;exact aM fI [.bool false]
      .rcases eg h with⟨h2,h⟩|⟨h2,h⟩
       .obtain⟨e9,lC,h⟩:=aB h;obtain⟨e_,Ic,h⟩:=aB h;refine kh rfl (jH [(0,.slice (a0.map cb)),(4,.a1 (cb aa)),(5,.slice (a0.map cb)),(6,.int .i64 (a0.length:Int)),(7,.int .i64 eS),(48,.bool (decide (0<=e_)))] (λP bg=>?_) ?_)
        ·(try simp only[dX.down,simprocAttr,(bC fL),(bC h6),(bC ji),hh,h2,lC]);refine kG (kP aa.Left _ gv) (hK:= ?_);simp only[dX.down,simprocAttr,(bC fL),(bC h6),(bC ji),hh,h2,lC];refine jY (kP aa.b0 _ kO) (hK:= ?_);simp only[dX.down,simprocAttr,(bC fL),(bC h6),(bC ji),hh,h2,lC];refine jY (kP aa.Result _ nj) (hK:= ?_);simp only[dX.down,simprocAttr,(bC fL),(bC h6),(bC ji),hh,h2,lC];refine jY (abu e9 aa _ Ic) (hK:= ?_);simp only[dX.down,simprocAttr,(bC fL),(bC h6),(bC ji),hh,h2,lC];refine⟨jI (by kernel_rfl),?_⟩;exact bZ (af (bC fL) (af (bC h6) (af (bC ji) (af hh (af h2 lC)))))
        refine aL h (λpT h=>?_) λpT h=>?_
        .exact aM fI [.bool false]
        .refine aO (n13 _ (inl ?_));obtain⟨dV,qJ,h⟩:=aB h;refine dv (ch [(0,.slice (a0.map cb)),(5,.slice (a0.map cb)),(6,.int .i64 (a0.length:Int)),(7,.int .i64 eS),(51,.bool dV)] (λP bg=>?_) ?_)
         ·(try simp only[aS.down,simprocAttr]);refine ey (Ob a0 aa _ qJ) rfl rfl (by simp only[aS.down,simprocAttr,Cf.down]<;>rfl) rfl (inr (by rfl)) ?_;simp only[aS.down,simprocAttr];exact bZ trivial
         refine aL h (λH7 h=>?_) λH7 h=>?_
         .exact aM cV [.bool false]
         .refine aO (n10 _ (cn _ (inl (dI ?_))));exact dJ _ (inr ⟨_,bL rfl,eD (i64.wrap (eS+1)) h⟩)
       .refine kh rfl (jH [(0,.slice (a0.map cb)),(4,.a1 (cb aa)),(5,.slice (a0.map cb)),(6,.int .i64 (a0.length:Int)),(7,.int .i64 eS),(48,.bool false)] (λP bg=>?_) ?_)
        ·(try simp only[dX.down,simprocAttr,(bC fL),(bC h6),(bC ji),hh,h2]);refine kG (kP aa.Left _ gv) (hK:= ?_);simp only[dX.down,simprocAttr,(bC fL),(bC h6),(bC ji),hh,h2];refine jY (kP aa.b0 _ kO) (hK:= ?_);simp only[dX.down,simprocAttr,(bC fL),(bC h6),(bC ji),hh,h2];refine jY (kP aa.Result _ nj) (hK:= ?_);simp only[dX.down,simprocAttr,(bC fL),(bC h6),(bC ji),hh,h2];refine⟨jI (by kernel_rfl),?_⟩;exact bZ (af (bC fL) (af (bC h6) (af (bC ji) (af hh h2))))
        refine qo rfl ?_;refine aO (n13 _ (inl ?_));obtain⟨eZ,aby,h⟩:=aB h;refine dv (ch [(0,.slice (a0.map cb)),(5,.slice (a0.map cb)),(6,.int .i64 (a0.length:Int)),(7,.int .i64 eS),(51,.bool eZ)] (λP bg=>?_) ?_)
        ·(try simp only[aS.down,simprocAttr]);refine ey (Ob a0 aa _ aby) rfl rfl (by simp only[aS.down,simprocAttr,Cf.down]<;>rfl) rfl (inr (by rfl)) ?_;simp only[aS.down,simprocAttr];exact bZ trivial
        refine aL h (λy4 h=>?_) λy4 h=>?_
        .exact aM cV [.bool false]
        .refine aO (n10 _ (cn _ (inl (dI ?_))));exact dJ _ (inr ⟨_,bL rfl,eD (i64.wrap (eS+1)) h⟩)
  .exact c1 (cG 0 _ (ba 0 _ (bO _ (bB _ (inl (aM ah [.bool (decide ((a0.length:Int)<=6))]))))))
 exact dp h λn h=>eM n 0 h
theorem Oc (a0 r) (h:yo a0=some r):aX al 89 [.slice (a0.map bn)] (.bool r) []:=by
 refine bA [0] [.tmp 2] Tryz.func89 X7 λbs ah bw=>aj ?_;refine aE ah λ_ bB a7 ag=>aj ?_;refine bo a7 λer _ bJ bO _=>?_;show a_ al (.loop ?eo) _ _;have eM:∀n eS,vm a0 n eS=some r->cR al ?eo er (ax [(0,.slice (a0.map bn)),(5,.slice (a0.map bn)),(6,.int .i64 (a0.length:Int)),(7,.int .i64 eS)]):=by
  refine c7 λ_ eD eS h=>c6 bJ λ_ dJ cJ ba=>aj ?_;refine aE cJ λ_ dx _ cG=>aL h (λb9 h=>?_) λb9 h=>?_
  .refine aO (dx _ (inl (aE cJ λ_ cn bS _=>bo bS λ_ n10 cV _ _=>?_)));obtain⟨aa,dD,h⟩:=aB h;refine eH dD _ ?_;obtain⟨ag,ea,h⟩:=aB h;rcases eg h with⟨eI,h⟩|⟨eI,h⟩
   .refine fc (gb eI) (kP aa _ ea) _ ?_;refine hU rfl ?_;exact aM cV [.bool false]
   .rcases eg h with⟨jL,h⟩|⟨jL,h⟩
    .obtain⟨aK,dZ,h⟩:=aB h;refine fc (af (bC eI) (af jL dZ)) (kP aa _ ea) _ ?_;refine aL h (λfJ h=>?_) λfJ h=>?_
     .exact aM cV [.bool false]
     .refine aO (n10 _ (cn _ (inl (dI ?_))));exact dJ _ (inr ⟨_,bL rfl,eD (i64.wrap (eS+1)) h⟩)
    .refine fc (af (bC eI) jL) (kP aa _ ea) _ ?_;refine qo rfl ?_;refine aO (n10 _ (cn _ (inl (dI ?_))));exact dJ _ (inr ⟨_,bL rfl,eD (i64.wrap (eS+1)) h⟩)
  .exact c1 (cG 0 _ (ba 0 _ (bO _ (bB _ (inl (aM ah [.bool (decide ((a0.length:Int)<=12))]))))))
 exact dp h λn h=>eM n 0 h
theorem abz (a0 r) (h:BA a0=some r):aX al 52 [fj a0] (.int .i64 r) []:=by
 refine bA [0] [.tmp 2] Tryz.func52 X8 λbs ah bw=>aj ?_;refine aE ah λ_ bB a7 ag=>bo a7 λ_ fH db _ aK=>?_;obtain⟨aa,cz,h⟩:=aB h;refine cN (abj a0.br _ cz) _ ?_;refine aL h (λdi h=>?_) λdi h=>?_
 .exact aM db [.int .i64 1]
 .obtain⟨ag,kT,h⟩:=aB h;rcases eg h with⟨fv,h⟩|⟨fv,h⟩
  .refine fc (gb fv) (jM (a0.cw.length:Int) 1 3 _ kT) _ ?_;refine hU rfl ?_;exact aM db [.int .i64 2]
  .obtain⟨aK,dD,h⟩:=aB h;refine dv (ch [(1,.a1 (fj a0)),(8,.bool aK)] (λP bg=>?_) ?_)
   ·(try simp only[aS.down,simprocAttr,(bC fv)]);refine ey (jM (a0.cw.length:Int) 1 3 _ kT) (hK:= ?_);simp only[aS.down,simprocAttr,(bC fv)];refine hk (abq a0.cw a0 _ dD) rfl rfl (by simp only[aS.down,simprocAttr,(bC fv),Ce.down]<;>rfl) rfl (inr (by rfl)) ?_;simp only[aS.down,simprocAttr,(bC fv)];exact bZ (bC fv)
   refine aL h (λhc h=>?_) λhc h=>?_
   .exact aM db [.int .i64 2]
   .obtain⟨a6,cC,h⟩:=aB h;refine cN (abx a0.gP _ cC) _ ?_;refine aL h (λjL h=>?_) λjL h=>?_
    .exact aM db [.int .i64 3]
    .obtain⟨ba,iN,h⟩:=aB h;refine cN (Oc a0.gF _ iN) _ ?_;refine aL h (λr0 h=>?_) λr0 h=>?_
     .exact aM db [.int .i64 4]
     .obtain⟨bP,jy,h⟩:=aB h;refine cN (Oc a0.gG _ jy) _ ?_;refine aL h (λoM h=>?_) λoM h=>?_
      .exact aM db [.int .i64 5]
      .exact aO (fH _ (bB _ (inl (aM ah [.int .i64 0]))))
theorem Cx (a0 r) (h:yp a0=some r):aX al 24 [fj a0] (.bool r) []:=by
 refine bA [0] [.tmp 2] Tryz.func24 c24 λbs ah bw=>aj ?_;obtain⟨aa,aR,h⟩:=aB h;refine cN (abz a0 _ aR) _ ?_;exact dk ah [.bool (aa==0)]
theorem abA (a0:aht) (r:nq) (h:strings_FieldsFunc a0=some r):aX al 53 [.str a0,.fn 54 []] (.ao 1 (r.map bn)) []:=Zh a0 r h
theorem abB (a0 r) (h:BB a0=some r):aX al 25 [.str a0] (.ao 1 (r.map bn)) []:=by
 refine bA [0] [.tmp 2] Tryz.func25 X9 λbs ah bw=>aj ?_;obtain⟨aa,aR,h⟩:=aB h;refine cN (abA a0 _ aR) _ ?_;exact dk ah [.ao 1 (aa.map bn)]
theorem abC (a0:aht) (J:UInt8) (r:Int) (h:Gs a0 J=some r):aX al 125 [.str a0,.int .u8 J.toNat] (.int .i64 r) []:=by
 rw[show r=((Lib.countByte a0 J:Nat):Int)from h7 h];exact Mi Tryz.func125 (by kernel_rfl) (by kernel_rfl) (by kernel_rfl) (E:=Extern.BytealgCount.count) (by kernel_rfl) a0 J _ λw=>by
  rw[Lib.run_countString,show((J.toNat:Int).toNat).toUInt8=J from by simp]
theorem Od:∀a c,qA a c=Lib.indexByte a c
 |[],_=>rfl
 |a::x,c=>by simp only[qA,Lib.indexByte,Od x c]
theorem abD (a0:aht) (J:UInt8) (r:Int) (h:Gt a0 J=some r):aX al 188 [.str a0,.int .u8 J.toNat] (.int .i64 r) []:=by
 rw[show r=Lib.indexByte a0 J from(h7 h).trans (Od _ _)];exact Mi Tryz.func188 (by kernel_rfl) (by kernel_rfl) (by kernel_rfl) (E:=Extern.BytealgIndexByte.indexByte) (by kernel_rfl) a0 J _ λw=>by
  rw[Lib.run_indexByteString,show((J.toNat:Int).toNat).toUInt8=J from by simp]
theorem abE (a0 J r) (h:Gu a0 J=some r):aX al 159 [.str a0,.int .u8 (J.toNat:Int)] (.int .i64 r) []:=by
 refine bA [0,1] [.tmp 4] Tryz.func159 c159 λbs ah bw=>aj ?_;obtain⟨aa,aR,h⟩:=aB h;refine cN (abD a0 J _ aR) _ ?_;exact dk ah [.int .i64 aa]
theorem abF (a0 J r) (h:tq a0 J=some r):aX al 126 [.str a0,.str J] (.int .i64 r) []:=by
 refine bA [0,1] [.tmp 4] Tryz.func126 X_ λbs ah bw=>aj ?_;refine aj ?_;refine aE ah λ_ _ db _=>bo db λ_ _ bJ _ _=>k7 ((J.length:Int)==0) [(0,.str a0),(1,.str J),(5,.int .i64 (J.length:Int)),(16,.bool (((J.length:Int)==0)||(J==a0)))] ?_;refine aL h (λdi h=>?_) λdi h=>?_
 .exact aM bJ [.int .i64 0]
 .refine aj ?_;refine aL h (λgm h=>?_) λgm h=>?_
  .obtain⟨aa,lP,h⟩:=aB h;obtain⟨ag,dD,h⟩:=aB h;refine fc lP (abE a0 aa _ dD) _ ?_;exact dk bJ [.int .i64 ag]
  .refine aj ?_;refine aL h (λhC h=>?_) λhC h=>?_
   .exact aM bJ [.int .i64 (-1)]
   .cases h
theorem Oe (a0 J r) (h:yq a0 J=some r):aX al 92 [.str a0,.str J] (.int .i64 r) []:=by
 refine bA [0,1] [.tmp 4] Tryz.func92 Ya λbs ah bw=>aj ?_;obtain⟨aa,aR,h⟩:=aB h;refine cN (abF a0 J _ aR) _ ?_;exact dk ah [.int .i64 aa]
theorem abG (a0 J r) (h:Gw a0 J=some r):aX al 91 [.str a0,.str J] (.int .i64 r) []:=by
 refine bA [1] [.tmp 4] Tryz.func91 c91 λbs ah bw=>aj ?_;refine aE ah λ_ bB _ ag=>aj ?_;refine aL h (λbO h=>?_) λbO h=>?_
 .cases h
 .refine aO (bB _ (inl (aE ah λ_ n6 dA _=>aj ?_)));refine aL h (λb9 h=>?_) λb9 h=>?_
  .obtain⟨aa,lO,h⟩:=aB h;obtain⟨ag,lP,h⟩:=aB h;refine fc lO (abC a0 aa _ lP) _ ?_;exact dk dA [.int .i64 ag]
  .refine aO (n6 _ (inl (aj ?_)));refine bo ah λabH _ fI _ _=>?_;show a_ al (.loop ?c21) _ _;have abI:∀n pH pI,Gv J n pH pI=some r->cR al ?c21 abH (ax [(0,.str pH),(1,.str J),(5,.int .i64 pI)]):=by
    refine c7 λ_ abJ pH pI h=>c6 fI λ_ n14 ee _=>bo ee λ_ n15 hp _ _=>?_;obtain⟨aK,ef,h⟩:=aB h;refine cN (Oe pH J _ ef) _ ?_;refine aE hp λ_ n18 qI _=>aj ?_;refine aL h (λfu h=>?_) λfu h=>?_
    .exact aM qI [.int .i64 pI]
    .refine aO (n18 _ (inl (aj ?_)));obtain⟨a6,jy,h⟩:=aB h;refine vH jy _ ?_;exact n15 _ (n14 _ (inr ⟨_,bL rfl,abJ a6 (i64.wrap (pI+1)) h⟩))
   exact dp h λn h=>abI n a0 0 h
theorem abK (a0 J a2 a3 r) (h:Gy a0 J a2 a3=some r):aX al 55 [.str a0,.str J,.int .i64 a2,.int .i64 a3] (.ao 1 (r.map bn)) []:=by
 refine bA [1,2] [.tmp 8] Tryz.func55 Hj λbs ah bw=>aj ?_;refine aE ah λ_ bB a7 ag=>aj ?_;refine aL h (λbO h=>?_) λbO h=>?_
 .refine aj ?_;exact hV (a7 _ (inr ⟨[(8,.ao 1 [])],i1 [] rfl (i7 (t:=8) (d:=.bf) rfl rfl (.hQ _) (by decide) (i6)),kZ [.ao 1 []]⟩))
 .refine aO (bB _ (inl (aE ah λ_ n6 _ bP=>aj ?_)));refine aL h (λb9 h=>?_) λb9 h=>?_
  .cases h
  .refine aO (n6 _ (inl ?_));show a_ al (.seq _ ?c24) _ _;have Of:∀hZ,BC a0 J a2 hZ=some r->a_ al ?c24 bs (ax [(0,.str a0),(1,.str J),(2,.int .i64 a2),(3,.int .i64 hZ)]):=by
    intro hZ h;refine eH (af @Ua @Ub) _ ?_;obtain⟨ahg,dE,h⟩:=aB h;refine oJ (af (n8 dE) @List.map_replicate.{0,0}) [(0,.str a0),(1,.str J),(2,.int .i64 a2),(3,.int .i64 (iy false hZ (i64.wrap ((a0.length:Int)+1)))),(9,.ao 1 ((List.replicate (Int.toNat (iy false hZ (i64.wrap ((a0.length:Int)+1)))) ([]:aht)).map bn))] ?_;refine ws [(0,.str a0),(1,.str J),(2,.int .i64 a2),(3,.int .i64 (i64.wrap ((iy false hZ (i64.wrap ((a0.length:Int)+1)))-1))),(9,.ao 1 ((List.replicate (Int.toNat (iy false hZ (i64.wrap ((a0.length:Int)+1)))) ([]:aht)).map bn))] ?_;refine ws [(0,.str a0),(1,.str J),(2,.int .i64 a2),(3,.int .i64 (i64.wrap ((iy false hZ (i64.wrap ((a0.length:Int)+1)))-1))),(9,.ao 1 ((List.replicate (Int.toNat (iy false hZ (i64.wrap ((a0.length:Int)+1)))) ([]:aht)).map bn)),(10,.int .i64 0)] ?_;show a_ al (.seq _ ?Hj) _ _;have Og:∀vn tr qB,yr a0 J a2 hZ vn tr qB=some r->a_ al ?Hj bs (ax [(0,.str vn),(1,.str J),(2,.int .i64 a2),(3,.int .i64 (i64.wrap ((iy false hZ (i64.wrap ((a0.length:Int)+1)))-1))),(9,.ao 1 (tr.map bn)),(10,.int .i64 qB)]):=by
     intro vn tr qB h;obtain⟨aa,dZ,h⟩:=aB h;refine dv (ch [(9,.ao 1 ((List.set tr (Int.toNat qB) vn).map bn)),(10,.int .i64 qB)] (λP bg=>?_) ?_)
     .simp only[aS.down,simprocAttr,dZ,cq dZ,dF,cP];exact bZ (af dZ (af (cq dZ) @dF))
     obtain⟨ag,iN,h⟩:=aB h;refine dv (ch [(8,.ao 1 (ag.map bn))] (λP bg=>?_) ?_)
     .simp only[aS.down,simprocAttr,iN,NP.down,rD];(try simp only[iL.down,simprocAttr,iN,NP.down,rD]at bg⊢);exact bg
     exact dk ah [.ao 1 (ag.map bn)]
    refine aE ah λ_ n16 iM _=>bo iM λabL _ pS r0 _=>?_;show a_ al (.loop ?yW) _ _;have HJ:∀n lY k4 jc,ts a0 J a2 hZ n lY k4 jc=some r->cR al ?yW abL (ax [(0,.str lY),(1,.str J),(2,.int .i64 a2),(3,.int .i64 (i64.wrap ((iy false hZ (i64.wrap ((a0.length:Int)+1)))-1))),(9,.ao 1 (k4.map bn)),(10,.int .i64 jc)]):=by
     refine c7 λ_ HK lY k4 jc h=>c6 pS λ_ n22 kn Oh=>aE kn λ_ n23 _ abM=>aj ?_;refine aL h (λoM h=>?_) λoM h=>?_
     .refine aO (n23 _ (inl (bo kn λ_ n26 pQ _ HL=>?_)));obtain⟨aK,nj,h⟩:=aB h;refine cN (Oe lY J _ nj) _ ?_;refine aE pQ λ_ n29 _ HB=>aj ?_;refine aL h (λhh h=>?_) λhh h=>?_
      .exact c1 (HB 0 _ (HL 0 _ (by decide) (Oh 0 _ (r0 _ (n16 _ (inr ⟨_,bL rfl,Og lY k4 jc h⟩))))))
      .refine aO (n29 _ (inl ?_));obtain⟨a6,qH,h⟩:=aB h;obtain⟨ba,lC,h⟩:=aB h;refine dv (ch [(0,.str lY),(1,.str J),(2,.int .i64 a2),(3,.int .i64 (i64.wrap ((iy false hZ (i64.wrap ((a0.length:Int)+1)))-1))),(9,.ao 1 ((List.set k4 (Int.toNat jc) a6).map bn)),(10,.int .i64 jc),(11,.int .i64 aK)] (λP bg=>?_) ?_)
       .simp only[aS.down,simprocAttr,qH,lC,cq lC,dF,cP,(show(List.map bn k4).set (Int.toNat jc) (.str a6)=List.map bn (List.set k4 (Int.toNat jc) a6)from(List.map_set ..).symm)];exact bZ (af qH (af lC (af (cq lC) @dF)))
       obtain⟨bP,HC,h⟩:=aB h;refine eH HC [(0,.str bP),(1,.str J),(2,.int .i64 a2),(3,.int .i64 (i64.wrap ((iy false hZ (i64.wrap ((a0.length:Int)+1)))-1))),(9,.ao 1 ((List.set k4 (Int.toNat jc) a6).map bn)),(10,.int .i64 jc)] ?_;refine wr [(0,.str bP),(1,.str J),(2,.int .i64 a2),(3,.int .i64 (i64.wrap ((iy false hZ (i64.wrap ((a0.length:Int)+1)))-1))),(9,.ao 1 ((List.set k4 (Int.toNat jc) a6).map bn)),(10,.int .i64 (i64.wrap (jc+1)))] ?_;exact n26 _ (n22 _ (inr ⟨_,bL rfl,HK bP (List.set k4 (Int.toNat jc) a6) (i64.wrap (jc+1)) h⟩))
     .exact c1 (abM 0 _ (Oh 0 _ (r0 _ (n16 _ (inr ⟨_,bL rfl,Og lY k4 jc h⟩)))))
    exact dp h λn h=>HJ n a0 (List.replicate (Int.toNat (iy false hZ (i64.wrap ((a0.length:Int)+1)))) ([]:aht)) 0 h
   refine aE ah λ_ n10 _ _=>aj ?_;refine aL h (λabN h=>?_) λabN h=>?_
   .obtain⟨cG,abO,h⟩:=aB h;refine NJ (abG a0 J _ abO) _ ?_;exact n10 _ (inr ⟨_,bL rfl,Of (i64.wrap (cG+1)) h⟩)
   .exact aO (n10 _ (inr ⟨_,bL rfl,Of a3 h⟩))
theorem Oi (a0 J r) (h:ys a0 J=some r):aX al 26 [.str a0,.str J] (.ao 1 (r.map bn)) []:=by
 refine bA [0,1] [.tmp 4] Tryz.func26 yV λbs ah bw=>aj ?_;obtain⟨aa,aR,h⟩:=aB h;refine cN (abK a0 J 0 (-1) _ aR) _ ?_;exact dk ah [.ao 1 (aa.map bn)]
theorem Oj (a0:aht) (r:Int×Bool) (h:vo a0=some r):aX al 27 [.str a0] (.tuple [.int .i64 r.1,.bool r.2]) []:=Y_ a0 r h
theorem abP (a0 r) (h:BD a0=some r):aX al 59 [.slice (a0.map bn)] (.tuple [.ao 1 (r.1.map cA),.bool r.2]) []:=by
 refine bA [0] [.tmp 2,.tmp 3] Tryz.func59 c59 λbs ah bw=>aj ?_;refine aj ?_;refine aE ah λ_ fH db _=>aj ?_;refine bo db λy0 _ cJ cT _=>?_;show a_ al (.loop ?iG) _ _;have jw:∀n bz nW,vp a0 n bz nW=some r->cR al ?iG y0 (ax [(4,.ao 1 (bz.map cA)),(9,.slice (a0.map bn)),(10,.int .i64 (a0.length:Int)),(11,.int .i64 nW)]):=by
  refine c7 λ_ jx bz nW h=>c6 cJ λ_ n6 dA bP=>aj ?_;refine aE dA λ_ ig _ e9=>aL h (λgm h=>?_) λgm h=>?_
  .refine aO (ig _ (inl (aE dA λ_ n10 cV _=>bo cV λ_ n11 hd _ _=>?_)));obtain⟨aa,dE,h⟩:=aB h;refine eH dE _ ?_;obtain⟨ag,d_,h⟩:=aB h;refine cN (Oj aa _ d_) _ ?_;refine aE hd λ_ n16 iM _=>aj ?_;refine aL h (λjv h=>?_) λjv h=>?_
   .refine aj ?_;exact hV (iM _ (inr ⟨[(2,.ao 1 []),(3,.bool false)],i1 [] rfl (i7 (t:=2) (d:=.bf) rfl rfl (.hQ _) (by decide) (gE rfl (i6))),kZ [.ao 1 [],.bool false]⟩))
   .refine aO (n16 _ (inl ?_));obtain⟨ahh,jg,h⟩:=aB h;(try simp only[oK.down,Nat.zero_add,Nat.add_zero,reduceAdd]at jg);refine vH (af (show∀s,f_ al s 50 1 [(0,.int .i64 ag.1)]=some (.ao 1 [.int .i64 ag.1],s)from λs=>by kernel_rfl) (af (@sZ al 50 50 2 rfl rfl) (af @s0 (af @s3 (af @s4 (af @sW (af @all_nil (af jg (@oy _ cA 1 λ_=>rfl))))))))) [(4,.ao 1 ((bz++[ag.1]).map cA)),(9,.slice (a0.map bn)),(10,.int .i64 (a0.length:Int)),(11,.int .i64 nW)] ?_;refine n11 _ (n10 _ (inl (wr [(4,.ao 1 ((bz++[ag.1]).map cA)),(9,.slice (a0.map bn)),(10,.int .i64 (a0.length:Int)),(11,.int .i64 (i64.wrap (nW+1)))] ?_)));exact n6 _ (inr ⟨_,bL rfl,jx (bz++[ag.1]) (i64.wrap (nW+1)) h⟩)
  .exact c1 (e9 0 _ (bP 0 _ (cT _ (fH _ (inl (aM ah [.ao 1 (bz.map cA),.bool true]))))))
 obtain⟨n,h⟩:=p6 h;exact ry (inr ⟨_,i1 [] rfl (i7 (t:=4) (d:=.bf) (bp:=.ao 1 []) rfl rfl (.hQ _) (by decide) (gE (t:=9) (d:=.slice (a0.map bn)) rfl (gE (t:=10) (d:=.int .i64 (a0.length:Int)) rfl (gE (t:=11) (d:=.int .i64 0) rfl (i6))))),jw n [] 0 h⟩)
theorem abQ (a0 r) (h:BE a0=some r):aX al 98 [.int .i64 a0] (.bool r) []:=by
 refine bA [0] [.tmp 2] Tryz.func98 Yb λbs ah bw=>aj ?_;obtain⟨aa,aR,h⟩:=aB h;refine cN (jM a0 (-1000000000000) 1000000000000 _ aR) _ ?_;exact dk ah [.bool (!aa)]
theorem abR (a0 r) (h:BF a0=some r):aX al 134 [.slice (a0.map cA),.fn 98 []] (.int .i64 r) []:=by
 refine bA [0,1] [.tmp 4] Tryz.func134 Yc λbs ah bw=>aj ?_;refine aE ah λ_ bB a7 ag=>aj ?_;refine bo a7 λer _ bJ bO _=>?_;show a_ al (.loop ?eo) _ _;have eM:∀n cx,qC a0 n cx=some r->cR al ?eo er (ax [(0,.slice (a0.map cA)),(1,.fn 98 []),(7,.int .i64 (a0.length:Int)),(8,.int .i64 cx)]):=by
  refine c7 λ_ eD cx h=>c6 bJ λ_ dJ cJ ba=>aj ?_;refine aE cJ λ_ dx _ cG=>aL h (λb9 h=>?_) λb9 h=>?_
  .refine aO (dx _ (inl (aE cJ λ_ cn bS _=>bo bS λ_ n10 cV _ _=>aj ?_)));obtain⟨aa,dE,h⟩:=aB h;obtain⟨ag,ea,h⟩:=aB h;refine fc dE (abQ aa _ ea) _ ?_;refine aL h (λeI h=>?_) λeI h=>?_
   .exact aM cV [.int .i64 cx]
   .refine aO (n10 _ (cn _ (inl (dI ?_))));exact dJ _ (inr ⟨_,bL rfl,eD (i64.wrap (cx+1)) h⟩)
  .exact c1 (cG 0 _ (ba 0 _ (bO _ (bB _ (inl (aM ah [.int .i64 (-1)]))))))
 exact dp h λn h=>eM n 0 h
theorem abS (a0 r) (h:BG a0=some r):aX al 97 [.slice (a0.map cA),.fn 98 []] (.bool r) []:=by
 refine bA [0,1] [.tmp 4] Tryz.func97 Yd λbs ah bw=>aj ?_;obtain⟨aa,aR,h⟩:=aB h;refine cN (abR a0 _ aR) _ ?_;exact dk ah [.bool (decide (0<=aa))]
theorem Ok (a0 r) (h:tt a0=some r):aX al 60 [.slice (a0.map cA)] (.bool r) []:=by
 refine bA [0] [.tmp 2] Tryz.func60 Ye λbs ah bw=>aj ?_;rcases eg h with⟨iE,h⟩|⟨iE,h⟩
 .obtain⟨aa,b4,h⟩:=aB h;refine fc iE (abS a0 _ b4) _ ?_;exact dk ah [.bool (!aa)]
 .refine eH iE _ ?_;exact dk ah [.bool false]
theorem abT (a0 r) (h:BH a0=some r):aX al 28 [.str a0] (.tuple [.ao 1 (r.1.map cA),.bool r.2]) []:=by
 refine bA [0] [.tmp 2,.tmp 3] Tryz.func28 c28 λbs ah bw=>aj ?_;refine aE ah λ_ bB a7 ag=>aj ?_;refine aL h (λbO h=>?_) λbO h=>?_
 .refine aj ?_;exact hV (a7 _ (inr ⟨[(2,.ao 1 []),(3,.bool true)],i1 [] rfl (i7 (t:=2) (d:=.bf) rfl rfl (.hQ _) (by decide) (gE rfl (i6))),kZ [.ao 1 [],.bool true]⟩))
 .refine aO (bB _ (inl ?_));obtain⟨aa,bF,h⟩:=aB h;obtain⟨ag,gL,h⟩:=aB h;refine dv (ch [(4,.ao 1 (ag.1.map cA)),(5,.bool ag.2)] (λP bg=>?_) ?_)
  ·(try simp only[aS.down,simprocAttr]);refine ey (Oi a0 ([44]:aht) _ bF) (hK:= ?_);simp only[aS.down,simprocAttr];refine ey (abP aa _ gL) rfl rfl (by simp only[aS.down,simprocAttr,Hq.down]<;>rfl) rfl (inr (by simp only[I.cF,I.gM, @ki _ cA (λ_=>B3 _),Bool.and_self])) ?_;simp only[aS.down,simprocAttr];exact bZ trivial
  refine aE ah λ_ cn bS _=>?_;rcases eg h with⟨hI,h⟩|⟨hI,h⟩
  .refine eH (gb hI) _ ?_;refine hU rfl ?_;refine aj ?_;exact hV (bS _ (inr ⟨[(2,.ao 1 []),(3,.bool false)],i1 [] rfl (i7 (t:=2) (d:=.bf) rfl rfl (.hQ _) (by decide) (gE rfl (i6))),kZ [.ao 1 [],.bool false]⟩))
  .obtain⟨aK,dE,h⟩:=aB h;refine dv (ch [(4,.ao 1 (ag.1.map cA)),(20,.bool (!aK))] (λP bg=>?_) ?_)
   ·(try simp only[aS.down,simprocAttr,(bC hI)]);refine hk (Ok ag.1 _ dE) rfl rfl (by simp only[aS.down,simprocAttr,(bC hI),NM.down]<;>rfl) rfl (inr (by rfl)) ?_;simp only[aS.down,simprocAttr,(bC hI)];exact bZ (bC hI)
   refine aL h (λhC h=>?_) λhC h=>?_
   .refine aj ?_;exact hV (bS _ (inr ⟨[(2,.ao 1 []),(3,.bool false)],i1 [] rfl (i7 (t:=2) (d:=.bf) rfl rfl (.hQ _) (by decide) (gE rfl (i6))),kZ [.ao 1 [],.bool false]⟩))
   .exact aO (cn _ (inl (aM ah [.ao 1 (ag.1.map cA),.bool true])))
theorem abU (a0 J r) (h:yu a0 J=some r):aX al 101 [.slice (a0.map bU),fk J] (.bool r) []:=by
 refine bA [0,1] [.tmp 4] Tryz.func101 Yg λbs ah bw=>aj ?_;refine aE ah λ_ bB a7 ag=>?_;obtain⟨aa,b4,h⟩:=aB h;rcases eg h with⟨cT,h⟩|⟨cT,h⟩
 .refine k6 (gb cT) (r3 J.dd (a0.length:Int) _ b4) _ ?_;refine hU rfl ?_;exact aM a7 [.bool false]
 .obtain⟨ag,bF,h⟩:=aB h;obtain⟨aK,gL,h⟩:=aB h;refine kh rfl (jH [(0,.slice (a0.map bU)),(3,.a1 (fk J)),(24,.bool (!aK))] (λP bg=>?_) ?_)
  ·(try simp only[dX.down,simprocAttr,(bC cT),bF]);refine kG (r3 J.dd (a0.length:Int) _ b4) (hK:= ?_);simp only[dX.down,simprocAttr,(bC cT),bF];refine jY (r3 J.Part (ag.Body.length:Int) _ gL) (hK:= ?_);simp only[dX.down,simprocAttr,(bC cT),bF];refine⟨jI (by kernel_rfl),?_⟩;exact bZ (af (bC cT) bF)
  refine aL h (λgm h=>?_) λgm h=>?_
  .exact aM a7 [.bool false]
  .refine aO (bB _ (inl (eH bF _ ?_)));obtain⟨a6,dE,h⟩:=aB h;rcases eg h with⟨hC,h⟩|⟨hC,h⟩
   .obtain⟨ba,d_,h⟩:=aB h;obtain⟨bP,cC,h⟩:=aB h;rcases eg h with⟨jL,h⟩|⟨jL,h⟩
    .obtain⟨cG,dZ,h⟩:=aB h;refine kh rfl (jH [(4,.bool cG)] (λP bg=>?_) ?_)
     ·(try simp only[dX.down,simprocAttr,dE,hC,cC,cq cC,jL]);refine jY (Ig ag _ d_) (hK:= ?_);simp only[dX.down,simprocAttr,dE,hC,cC,cq cC,jL];refine jY (N_ J.b5 _ dZ) (hK:= ?_);simp only[dX.down,simprocAttr,dE,hC,cC,cq cC,jL];refine⟨jI (by kernel_rfl),?_⟩;exact bZ (af dE (af hC (af cC (af (cq cC) jL))))
     exact dk ah [.bool cG]
    .refine k6 (af dE (af hC (af cC (af (cq cC) jL)))) (Ig ag _ d_) _ ?_;exact dk ah [.bool false]
   .refine pP (af dE hC) _ ?_;exact dk ah [.bool false]
theorem abV (a0 J r) (h:GA a0 J=some r):aX al 100 [fk a0,.ref (fj J)] (.bool r) []:=by
 refine bA [0,1] [.tmp 3] Tryz.func100 Yh λbs ah bw=>aj ?_;obtain⟨aa,aR,h⟩:=aB h;refine cN (abU J.br a0 _ aR) _ ?_;exact dk ah [.bool (!aa)]
theorem abW (a0 J r) (h:GC a0 J=some r):aX al 135 [.slice (a0.map fk),.fn 100 [.ref (fj J)]] (.int .i64 r) []:=by
 refine bA [0,1] [.tmp 4] Tryz.func135 Yi λbs ah bw=>aj ?_;refine aE ah λ_ bB a7 ag=>aj ?_;refine bo a7 λer _ bJ bO _=>?_;show a_ al (.loop ?eo) _ _;have eM:∀n cx,yv a0 J n cx=some r->cR al ?eo er (ax [(0,.slice (a0.map fk)),(1,.fn 100 [.ref (fj J)]),(7,.int .i64 (a0.length:Int)),(8,.int .i64 cx)]):=by
  refine c7 λ_ eD cx h=>c6 bJ λ_ dJ cJ ba=>aj ?_;refine aE cJ λ_ dx _ cG=>aL h (λb9 h=>?_) λb9 h=>?_
  .refine aO (dx _ (inl (aE cJ λ_ cn bS _=>bo bS λ_ n10 cV _ _=>aj ?_)));obtain⟨aa,dE,h⟩:=aB h;obtain⟨ag,ea,h⟩:=aB h;refine fc dE (abV aa J _ ea) _ ?_;refine aL h (λeI h=>?_) λeI h=>?_
   .exact aM cV [.int .i64 cx]
   .refine aO (n10 _ (cn _ (inl (dI ?_))));exact dJ _ (inr ⟨_,bL rfl,eD (i64.wrap (cx+1)) h⟩)
  .exact c1 (cG 0 _ (ba 0 _ (bO _ (bB _ (inl (aM ah [.int .i64 (-1)]))))))
 exact dp h λn h=>eM n 0 h
theorem abX (a0 J r) (h:BI a0 J=some r):aX al 99 [.slice (a0.map fk),.fn 100 [.ref (fj J)]] (.bool r) []:=by
 refine bA [0,1] [.tmp 4] Tryz.func99 Yj λbs ah bw=>aj ?_;obtain⟨aa,aR,h⟩:=aB h;refine cN (abW a0 J _ aR) _ ?_;exact dk ah [.bool (decide (0<=aa))]
theorem abY (a0 J r) (h:GD a0 J=some r):aX al 63 [fj a0,.slice (J.map fk)] (.bool r) []:=by
 refine bA [0,1] [.tmp 4] Tryz.func63 Yk λbs ah bw=>aj ?_;obtain⟨ag,b4,h⟩:=aB h;rcases eg h with⟨cT,h⟩|⟨cT,h⟩
 .rcases eg h with⟨di,h⟩|⟨di,h⟩
  .obtain⟨aK,bF,h⟩:=aB h;refine dv (ch [(4,.bool (!aK))] (λP bg=>?_) ?_)
   ·(try simp only[aS.down,simprocAttr,cT,di]);refine ey (Cx a0 _ b4) (hK:= ?_);simp only[aS.down,simprocAttr,cT,di];refine hk (abX J a0 _ bF) rfl rfl (by simp only[aS.down,simprocAttr,cT,di,Ce.down]<;>rfl) rfl (inr (by rfl)) ?_;simp only[aS.down,simprocAttr,cT,di];exact bZ (af cT di)
   exact dk ah [.bool (!aK)]
  .refine fc (af cT di) (Cx a0 _ b4) _ ?_;exact dk ah [.bool false]
 .refine fc cT (Cx a0 _ b4) _ ?_;exact dk ah [.bool false]
theorem abZ (a0 J:Int) (r:aht) (h:yw a0 J=some r):aX al 96 [.int .i64 a0,.int .i64 J] (.str r) []:=YY a0 J r h
theorem Ol (a0 r) (h:vq a0=some r):aX al 58 [.int .i64 a0] (.str r) []:=by
 refine bA [0] [.tmp 2] Tryz.func58 Yl λbs ah bw=>aj ?_;obtain⟨aa,aR,h⟩:=aB h;refine cN (abZ a0 10 _ aR) _ ?_;exact dk ah [.str aa]
theorem Om (a0:nq) (J:aht) (r:aht) (h:strings_Join a0 J=some r):aX al 103 [.slice (a0.map bn),.str J] (.str r) []:=YZ a0 J r h
theorem ab0 (a0 J r) (h:BK a0 J=some r):aX al 174 [.slice (a0.map cA),.str J] (.str r) []:=by
 refine bA [0,1] [.tmp 4] Tryz.func174 Ym λbs ah bw=>aj ?_;obtain⟨Cq,aR,h⟩:=aB h;refine oJ (af (n8 aR) @List.map_replicate.{0,0}) [(0,.slice (a0.map cA)),(1,.str J),(5,.ao 1 ((List.replicate (Int.toNat (a0.length:Int)) ([]:aht)).map bn))] ?_;refine aE ah λ_ fC bJ a6=>ws [(1,.str J),(5,.ao 1 ((List.replicate (Int.toNat (a0.length:Int)) ([]:aht)).map bn)),(11,.slice (a0.map cA)),(12,.int .i64 (a0.length:Int)),(13,.int .i64 0)] ?_;refine bo bJ λj5 _ dA di _=>?_;show a_ al (.loop ?iG) _ _;have jw:∀n fR lA,vr a0 J n fR lA=some r->cR al ?iG j5 (ax [(1,.str J),(5,.ao 1 (fR.map bn)),(11,.slice (a0.map cA)),(12,.int .i64 (a0.length:Int)),(13,.int .i64 lA)]):=by
  refine c7 λ_ jx fR lA h=>c6 dA λ_ dx eG cG=>aj ?_;refine aE eG λ_ cn _ e_=>aL h (λfv h=>?_) λfv h=>?_
  .refine aO (cn _ (inl (aE eG λ_ n11 hd _=>bo hd λ_ n12 _ _ _=>?_)));obtain⟨aa,ea,h⟩:=aB h;refine eH ea _ ?_;obtain⟨ag,cC,h⟩:=aB h;obtain⟨aK,ef,h⟩:=aB h;refine kg (ch [(1,.str J),(5,.ao 1 ((List.set fR (Int.toNat lA) ag).map bn)),(11,.slice (a0.map cA)),(12,.int .i64 (a0.length:Int)),(13,.int .i64 lA)] (λP bg=>?_) ?_)
   ·(try simp only[aS.down,simprocAttr,ef,cq ef,dF,cP]);refine ey (Ol aa _ cC) (hK:= ?_);simp only[aS.down,simprocAttr,ef,cq ef,dF,cP];exact bZ (af ef (af (cq ef) @dF))
   refine n12 _ (n11 _ (inl (wr [(1,.str J),(5,.ao 1 ((List.set fR (Int.toNat lA) ag).map bn)),(11,.slice (a0.map cA)),(12,.int .i64 (a0.length:Int)),(13,.int .i64 (i64.wrap (lA+1)))] ?_)));exact dx _ (inr ⟨_,bL rfl,jx (List.set fR (Int.toNat lA) ag) (i64.wrap (lA+1)) h⟩)
  .refine c1 (e_ 0 _ (cG 0 _ (di _ (fC _ (inl ?_)))));obtain⟨a6,iN,h⟩:=aB h;refine dv (ch [(4,.str a6)] (λP bg=>?_) ?_)
   ·(try simp only[aS.down,simprocAttr]);refine ey (Om fR J _ iN) rfl rfl (by simp only[aS.down,simprocAttr,Hq.down]<;>rfl) rfl (inr (by rfl)) ?_;simp only[aS.down,simprocAttr];exact bZ trivial
   exact dk ah [.str a6]
 exact dp h λn h=>jw n (List.replicate (Int.toNat (a0.length:Int)) ([]:aht)) 0 h
theorem ab1 (a0 r) (h:BL a0=some r):aX al 137 [.slice (a0.map cA)] (.str r) []:=by
 refine bA [0] [.tmp 2] Tryz.func137 Yn λbs ah bw=>aj ?_;refine aE ah λ_ bB a7 ag=>bo a7 λ_ fH db _ _=>?_;obtain⟨aa,cz,h⟩:=aB h;refine cN (Ok a0 _ cz) _ ?_;refine aL h (λdi h=>?_) λdi h=>?_
 .exact aM db [.str ([]:aht)]
 .refine aj ?_;refine aL h (λgm h=>?_) λgm h=>?_
  .exact aM db [.str ([45]:aht)]
  .refine aO (fH _ (bB _ (inl ?_)));obtain⟨ag,dD,h⟩:=aB h;refine cN (ab0 a0 ([44]:aht) _ dD) _ ?_;exact dk ah [.str ag]
theorem ab2 (a0 r) (h:GG a0=some r):aX al 102 [fk a0] (.str r) []:=by
 refine bA [0] [.tmp 2] Tryz.func102 Yo λbs ah bw=>aj ?_;obtain⟨aa,aR,h⟩:=aB h;obtain⟨N7,b4,h⟩:=aB h;(try simp only[oK.down,Nat.zero_add,Nat.add_zero,reduceAdd]at b4);obtain⟨ag,cz,h⟩:=aB h;obtain⟨N7,bV,h⟩:=aB h;(try simp only[oK.down,Nat.zero_add,Nat.add_zero,reduceAdd]at bV);refine kh rfl (jH [(2,.str ((aa++([58]:aht))++ag))] (λP bg=>?_) ?_)
 ·(try simp only[dX.down,simprocAttr,b4,sX,sY,bV]);refine kG (Ol a0.Part _ aR) (hK:= ?_);simp only[dX.down,simprocAttr,b4,sX,sY,bV];refine kG (ab1 a0.b5 _ cz) (hK:= ?_);simp only[dX.down,simprocAttr,b4,sX,sY,bV];refine⟨jI (by kernel_rfl),?_⟩;exact bZ (af b4 (af @sX (af @sY bV)))
 exact dk ah [.str ((aa++([58]:aht))++ag)]
theorem ab3 (a0 J r) (h:BM a0 J=some r):aX al 64 [fj a0,.slice (J.map fk)] (.str r) []:=by
 refine bA [0,1] [.tmp 4] Tryz.func64 Yq λbs ah bw=>aj ?_;refine aj ?_;refine aE ah λ_ fH db aK=>aj ?_;refine bo db λy0 _ cJ cT _=>?_;have jw:∀n fR nX,vt a0 J n fR nX=some r->cR al Nw y0 (ax [(2,.a1 (fj a0)),(5,.ao 1 (fR.map bn)),(8,.slice (J.map fk)),(9,.int .i64 (J.length:Int)),(10,.int .i64 nX)]):=by
  refine c7 λ_ jx fR nX h=>c6 cJ λ_ n6 dA bP=>aj ?_;refine aE dA λ_ ig _ e9=>aL h (λgm h=>?_) λgm h=>?_
  .refine aO (ig _ (inl (aE dA λ_ n10 cV _=>bo cV λ_ n11 _ _ _=>?_)));obtain⟨aa,dE,h⟩:=aB h;refine eH dE _ ?_;obtain⟨ag,d_,h⟩:=aB h;obtain⟨Cq,cC,h⟩:=aB h;(try simp only[oK.down,Nat.zero_add,Nat.add_zero,reduceAdd]at cC);obtain⟨aK,ef,h⟩:=aB h;obtain⟨Cq,dZ,h⟩:=aB h;(try simp only[oK.down,Nat.zero_add,Nat.add_zero,reduceAdd]at dZ);obtain⟨Cq,fT,h⟩:=aB h;(try simp only[oK.down,Nat.zero_add,Nat.add_zero,reduceAdd]at fT);refine Zi (af d_ (af cC (af @sX (af @sY (af dZ (af (show∀s,f_ al s 25 1 [(0,.str ((ag.Name++([58]:aht))++aK))]=some (.ao 1 [.str ((ag.Name++([58]:aht))++aK)],s)from λs=>by kernel_rfl) (af (@sZ al 25 25 9 rfl rfl) (af @s0 (af @s3 (af @s4 (af @sW (af @all_nil (af fT (@oy _ bn 1 λ_=>rfl)))))))))))))) (ab2 aa _ ef) [(2,.a1 (fj a0)),(5,.ao 1 ((fR++[((ag.Name++([58]:aht))++aK)]).map bn)),(8,.slice (J.map fk)),(9,.int .i64 (J.length:Int)),(10,.int .i64 nX)] ?_;refine n11 _ (n10 _ (inl (wr [(2,.a1 (fj a0)),(5,.ao 1 ((fR++[((ag.Name++([58]:aht))++aK)]).map bn)),(8,.slice (J.map fk)),(9,.int .i64 (J.length:Int)),(10,.int .i64 (i64.wrap (nX+1)))] ?_)));exact n6 _ (inr ⟨_,bL rfl,jx (fR++[((ag.Name++([58]:aht))++aK)]) (i64.wrap (nX+1)) h⟩)
  .refine c1 (e9 0 _ (bP 0 _ (cT _ (fH _ (inl ?_)))));obtain⟨a6,gv,h⟩:=aB h;refine dv (ch [(4,.str a6)] (λP bg=>?_) ?_)
   ·(try simp only[aS.down,simprocAttr]);refine ey (Om fR ([32]:aht) _ gv) rfl rfl (by simp only[aS.down,simprocAttr,Hq.down]<;>rfl) rfl (inr (by rfl)) ?_;simp only[aS.down,simprocAttr];exact bZ trivial
   exact dk ah [.str a6]
 obtain⟨n,h⟩:=p6 h;exact ry (inr ⟨_,i1 [] rfl (gE (t:=2) (d:=.a1 (fj a0)) rfl (i7 (t:=5) (d:=.bf) (bp:=.ao 1 []) rfl rfl (.hQ _) (by decide) (gE (t:=8) (d:=.slice (J.map fk)) rfl (gE (t:=9) (d:=.int .i64 (J.length:Int)) rfl (gE (t:=10) (d:=.int .i64 0) rfl (i6)))))),jw n [] 0 h⟩)
theorem On (a0 J r) (h:yx a0 J=some r):aX al 30 [fj a0,.slice (J.map fk)] (.str r) []:=by
 refine bA [0,1] [.tmp 4] Tryz.func30 Yr λbs ah bw=>aj ?_;refine aE ah λ_ bB a7 ag=>?_;obtain⟨aa,b4,h⟩:=aB h;refine cN (abY a0 J _ b4) _ ?_;refine aL h (λcT h=>?_) λcT h=>?_
 .exact aM a7 [.str ([]:aht)]
 .refine aO (bB _ (inl ?_));obtain⟨ag,gL,h⟩:=aB h;refine cN (ab3 a0 J _ gL) _ ?_;exact dk ah [.str ag]
theorem Oo (a0 J r) (h:yy a0 J=some r):aX al 7 [fj a0,.str J] (.tuple [.ao 3 (r.1.map eX),.bool r.2]) []:=by
 refine bA [0,1] [.tmp 4,.tmp 5] Tryz.func7 D_ λbs ah bw=>aj ?_;refine aE ah λ_ bB a7 ag=>?_;obtain⟨aa,b4,h⟩:=aB h;refine cN (Cx a0 _ b4) _ ?_;refine aL h (λcT h=>?_) λcT h=>?_
 .refine aj ?_;exact hV (a7 _ (inr ⟨[(4,.ao 3 []),(5,.bool false)],i1 [] rfl (i7 (t:=4) (d:=.bf) rfl rfl (.hQ _) (by decide) (gE rfl (i6))),kZ [.ao 3 [],.bool false]⟩))
 .refine aO (bB _ (inl (aj ?_)));refine aE ah λ_ ig hB e9=>?_;obtain⟨ag,lO,h⟩:=aB h;refine cN (abB J _ lO) _ ?_;refine bo hB λy5 _ hd hI eZ=>?_;have j3:∀n k5 ni,tv a0 J ag n k5 ni=some r->cR al Nx y5 (ax [(1,.str J),(2,.a1 (fj a0)),(6,.ao 3 (k5.map eX)),(18,.ao 1 (ag.map bn)),(19,.int .i64 (ag.length:Int)),(20,.int .i64 ni)]):=by
   refine c7 λ_ j4 k5 ni h=>c6 hd λ_ n12 jK pK=>aj ?_;refine aE jK λ_ n14 _ pL=>aL h (λeI h=>?_) λeI h=>?_
   .refine aO (n14 _ (inl (aE jK λ_ n16 iM _=>bo iM λ_ n17 hJ _ _=>?_)));obtain⟨aK,fT,h⟩:=aB h;refine eH (af fT (cq fT)) _ ?_;obtain⟨a6,jg,h⟩:=aB h;refine cN (Oi aK ([58]:aht) _ jg) _ ?_;refine aE hJ λ_ n22 kn _=>aj ?_;refine aL h (λgU h=>?_) λgU h=>?_
    .refine aj ?_;exact hV (kn _ (inr ⟨[(4,.ao 3 []),(5,.bool false)],i1 [] rfl (i7 (t:=4) (d:=.bf) rfl rfl (.hQ _) (by decide) (gE rfl (i6))),kZ [.ao 3 [],.bool false]⟩))
    .refine aO (n22 _ (inl ?_));obtain⟨ba,rU,h⟩:=aB h;obtain⟨bP,nj,h⟩:=aB h;refine fc (af rU (rJ (n:=1) rU)) (Oj ba _ nj) _ ?_;obtain⟨cG,Oq,h⟩:=aB h;obtain⟨e9,tK,h⟩:=aB h;refine fc (af Oq (rJ (n:=2) Oq)) (abT cG _ tK) _ ?_;refine aE hJ λ_ n32 ab4 _=>k7 (bP.2) [(1,.str J),(2,.a1 (fj a0)),(6,.ao 3 (k5.map eX)),(9,.ao 1 (a6.map bn)),(10,.int .i64 bP.1),(12,.ao 1 (e9.1.map cA)),(18,.ao 1 (ag.map bn)),(19,.int .i64 (ag.length:Int)),(20,.int .i64 ni),(48,.bool ((!bP.2)||(!e9.2)))] ?_;refine aL h (λr1 h=>?_) λr1 h=>?_
     .refine aj ?_;exact hV (ab4 _ (inr ⟨[(4,.ao 3 []),(5,.bool false)],i1 [] rfl (i7 (t:=4) (d:=.bf) rfl rfl (.hQ _) (by decide) (gE rfl (i6))),kZ [.ao 3 [],.bool false]⟩))
     .refine aO (n32 _ (inl ?_));obtain⟨e_,rW,h⟩:=aB h;obtain⟨dV,Ii,h⟩:=aB h;obtain⟨ahi,qJ,h⟩:=aB h;(try simp only[NN.down,Nat.zero_add,Nat.add_zero,reduceAdd]at qJ);refine LO rfl (jH [(1,.str J),(2,.a1 (fj a0)),(6,.ao 3 ((k5++[(bY.mk dV bP.1 e9.1)]).map eX)),(18,.ao 1 (ag.map bn)),(19,.int .i64 (ag.length:Int)),(20,.int .i64 ni)] (λP bg=>?_) ?_)
      ·(try simp only[dX.down,simprocAttr,rW,(rJ (n:=0) rW),Hr.down,eW,eR,uQ,qJ]);refine kG (N4 a0.br e_ _ Ii) (hK:= ?_);simp only[dX.down,simprocAttr,rW,(rJ (n:=0) rW),Hr.down,eW,eR,uQ,qJ];refine⟨jI (by kernel_rfl),?_⟩;(try simp only[iL.down,simprocAttr,rW,(rJ (n:=0) rW),Hr.down,eW,eR,uQ,qJ]at bg⊢);exact bg
      refine n17 _ (n16 _ (inl (wr [(1,.str J),(2,.a1 (fj a0)),(6,.ao 3 ((k5++[(bY.mk dV bP.1 e9.1)]).map eX)),(18,.ao 1 (ag.map bn)),(19,.int .i64 (ag.length:Int)),(20,.int .i64 (i64.wrap (ni+1)))] ?_)));exact n12 _ (inr ⟨_,bL rfl,j4 (k5++[(bY.mk dV bP.1 e9.1)]) (i64.wrap (ni+1)) h⟩)
   .refine c1 (pL 0 _ (pK 0 _ (hI _ (ig _ (inl (aE ah λ_ H8 vN _=>?_))))));obtain⟨eZ,Ot,h⟩:=aB h;refine dv (ch [(6,.ao 3 (k5.map eX)),(70,.bool ((!(eZ==J))||(J==([]:aht))))] (λP bg=>?_) ?_)
    .rcases Bool.eq_false_or_eq_true (eZ==J)with qK|qK
     ·(try simp only[aS.down,simprocAttr,qK]);refine ey (On a0 k5 _ Ot) rfl rfl (by simp only[aS.down,simprocAttr,qK,Cg.down]<;>rfl) rfl (inr (by rfl)) ?_;simp only[aS.down,simprocAttr,qK];exact bZ qK
     ·(try simp only[aS.down,simprocAttr,qK]);refine ey (On a0 k5 _ Ot) rfl rfl (by simp only[aS.down,simprocAttr,qK,Cg.down]<;>rfl) rfl (inr (by rfl)) ?_;simp only[aS.down,simprocAttr,qK];exact bZ qK
    refine aL h (λy4 h=>?_) λy4 h=>?_
    .refine aj ?_;exact hV (vN _ (inr ⟨[(4,.ao 3 []),(5,.bool false)],i1 [] rfl (i7 (t:=4) (d:=.bf) rfl rfl (.hQ _) (by decide) (gE rfl (i6))),kZ [.ao 3 [],.bool false]⟩))
    .exact aO (H8 _ (inl (aM ah [.ao 3 (k5.map eX),.bool true])))
  obtain⟨n,h⟩:=p6 h;exact ry (inr ⟨_,i1 [] rfl (gE (t:=1) (d:=.str J) rfl (gE (t:=2) (d:=.a1 (fj a0)) rfl (i7 (t:=6) (d:=.bf) (bp:=.ao 3 []) rfl rfl (.hQ _) (by decide) (gE (t:=18) (d:=.ao 1 (ag.map bn)) rfl (gE (t:=19) (d:=.int .i64 (ag.length:Int)) rfl (gE (t:=20) (d:=.int .i64 0) rfl (i6))))))),j3 n [] 0 h⟩)
theorem Ou (a0 J r) (h:yz a0 J=some r):aX al 65 [.slice (a0.map cA),.slice (J.map cA)] (.bool r) []:=by
 refine bA [0,1] [.tmp 4] Tryz.func65 Yv λbs ah bw=>aj ?_;refine aE ah λ_ bB a7 ag=>aj ?_;refine aL h (λbO h=>?_) λbO h=>?_
 .exact aM a7 [.bool false]
 .refine aO (bB _ (inl (aE ah λ_ n6 dA _=>aj ?_)));refine bo dA λiO _ hB b9 _=>?_;show a_ al (.loop ?hb) _ _;have hf:∀n cm,GJ a0 J n cm=some r->cR al ?hb iO (ax [(0,.slice (a0.map cA)),(1,.slice (J.map cA)),(5,.int .i64 cm)]):=by
   refine c7 λ_ gQ cm h=>c6 hB λ_ cn bS e_=>aE bS λ_ n10 _ dV=>aj ?_;refine aL h (λfK h=>?_) λfK h=>?_
   .refine aO (n10 _ (inl (aE bS λ_ n13 fI _=>bo fI λ_ n14 ee _ _=>?_)));obtain⟨aa,cC,h⟩:=aB h;obtain⟨ag,ef,h⟩:=aB h;refine pP (af cC ef) _ ?_;refine aL h (λjv h=>?_) λjv h=>?_
    .exact aM ee [.bool false]
    .refine aO (n14 _ (n13 _ (inl (dI ?_))));exact cn _ (inr ⟨_,bL rfl,gQ (i64.wrap (cm+1)) h⟩)
   .exact c1 (dV 0 _ (e_ 0 _ (b9 _ (n6 _ (inl (aM ah [.bool true]))))))
  exact dp h λn h=>hf n 0 h
theorem ab5 (a0 J r) (h:yA a0 J=some r):aX al 31 [fk a0,fk J] (.bool r) []:=by
 refine bA [0,1] [.tmp 4] Tryz.func31 c31 λbs ah bw=>aj ?_;refine aE ah λ_ bB a7 _=>aj ?_;refine aL h (λbO h=>?_) λbO h=>?_
 .exact aM a7 [.bool false]
 .refine aO (bB _ (inl (aE ah λ_ n6 dA _=>aj ?_)));refine aL h (λb9 h=>?_) λb9 h=>?_
  .exact aM dA [.bool false]
  .refine aO (n6 _ (inl (aE ah λ_ n10 cV _=>?_)));obtain⟨aa,dD,h⟩:=aB h;refine cN (Ou a0.b5 J.b5 _ dD) _ ?_;refine aL h (λhc h=>?_) λhc h=>?_
   .exact aM cV [.bool false]
   .exact aO (n10 _ (inl (aM ah [.bool true])))
theorem vO (a0 J r) (h:vu a0 J=some r):aX al 8 [.slice (a0.map fk),.slice (J.map fk)] (.bool r) []:=by
 refine bA [0,1] [.tmp 4] Tryz.func8 iG λbs ah bw=>aj ?_;refine aE ah λ_ bB a7 ag=>aj ?_;refine aL h (λbO h=>?_) λbO h=>?_
 .exact aM a7 [.bool false]
 .refine aO (bB _ (inl (aE ah λ_ n6 dA _=>aj ?_)));refine bo dA λiO _ hB b9 _=>?_;show a_ al (.loop ?hb) _ _;have hf:∀n cm,GK a0 J n cm=some r->cR al ?hb iO (ax [(0,.slice (a0.map fk)),(1,.slice (J.map fk)),(5,.int .i64 cm)]):=by
   refine c7 λ_ gQ cm h=>c6 hB λ_ cn bS e_=>aE bS λ_ n10 _ dV=>aj ?_;refine aL h (λfK h=>?_) λfK h=>?_
   .refine aO (n10 _ (inl (aE bS λ_ n13 fI _=>bo fI λ_ n14 ee _ _=>?_)));obtain⟨aa,cC,h⟩:=aB h;obtain⟨ag,ef,h⟩:=aB h;obtain⟨aK,dZ,h⟩:=aB h;refine k6 (af cC ef) (ab5 aa ag _ dZ) _ ?_;refine aL h (λfJ h=>?_) λfJ h=>?_
    .exact aM ee [.bool false]
    .refine aO (n14 _ (n13 _ (inl (dI ?_))));exact cn _ (inr ⟨_,bL rfl,gQ (i64.wrap (cm+1)) h⟩)
   .exact c1 (dV 0 _ (e_ 0 _ (b9 _ (n6 _ (inl (aM ah [.bool true]))))))
  exact dp h λn h=>hf n 0 h
theorem ab6 (a0 J r) (h:yB a0 J=some r):aX al 208 [e0 a0,e0 J] (.bool r) []:=by
 refine bA [0,1] [.tmp 4] Tryz.func208 c208 λbs ah bw=>aj ?_;refine aE ah λ_ bB a7 _=>aj ?_;refine aL h (λbO h=>?_) λbO h=>?_
 .exact aM a7 [.bool false]
 .refine aO (bB _ (inl (aE ah λ_ n6 dA _=>aj ?_)));refine aL h (λb9 h=>?_) λb9 h=>?_
  .exact aM dA [.bool false]
  .exact aO (n6 _ (inl (aM ah [.bool true])))
theorem ab7 (a0 J r) (h:yC a0 J=some r):aX al 198 [.slice (a0.map e0),.slice (J.map e0)] (.bool r) []:=by
 refine bA [0,1] [.tmp 4] Tryz.func198 c198 λbs ah bw=>aj ?_;refine aE ah λ_ bB a7 ag=>aj ?_;refine aL h (λbO h=>?_) λbO h=>?_
 .exact aM a7 [.bool false]
 .refine aO (bB _ (inl (aE ah λ_ n6 dA _=>aj ?_)));refine bo dA λiO _ hB b9 _=>?_;show a_ al (.loop ?hb) _ _;have hf:∀n cm,GL a0 J n cm=some r->cR al ?hb iO (ax [(0,.slice (a0.map e0)),(1,.slice (J.map e0)),(5,.int .i64 cm)]):=by
   refine c7 λ_ gQ cm h=>c6 hB λ_ cn bS e_=>aE bS λ_ n10 _ dV=>aj ?_;refine aL h (λfK h=>?_) λfK h=>?_
   .refine aO (n10 _ (inl (aE bS λ_ n13 fI _=>bo fI λ_ n14 ee _ _=>?_)));obtain⟨aa,cC,h⟩:=aB h;obtain⟨ag,ef,h⟩:=aB h;obtain⟨aK,dZ,h⟩:=aB h;refine k6 (af cC ef) (ab6 aa ag _ dZ) _ ?_;refine aL h (λfJ h=>?_) λfJ h=>?_
    .exact aM ee [.bool false]
    .refine aO (n14 _ (n13 _ (inl (dI ?_))));exact cn _ (inr ⟨_,bL rfl,gQ (i64.wrap (cm+1)) h⟩)
   .exact c1 (dV 0 _ (e_ 0 _ (b9 _ (n6 _ (inl (aM ah [.bool true]))))))
  exact dp h λn h=>hf n 0 h
theorem ab8 (a0 J r) (h:BN a0 J=some r):aX al 177 [.slice (a0.map je),.slice (J.map je)] (.bool r) []:=by
 refine bA [0,1] [.tmp 4] Tryz.func177 Yw λbs ah bw=>aj ?_;refine aE ah λ_ bB a7 ag=>aj ?_;refine aL h (λbO h=>?_) λbO h=>?_
 .exact aM a7 [.bool false]
 .refine aO (bB _ (inl (aE ah λ_ n6 dA _=>aj ?_)));refine bo dA λiO _ hB b9 _=>?_;show a_ al (.loop ?hb) _ _;have hf:∀n cm,GM a0 J n cm=some r->cR al ?hb iO (ax [(0,.slice (a0.map je)),(1,.slice (J.map je)),(5,.int .i64 cm)]):=by
   refine c7 λ_ gQ cm h=>c6 hB λ_ cn bS e_=>aE bS λ_ n10 _ dV=>aj ?_;refine aL h (λfK h=>?_) λfK h=>?_
   .refine aO (n10 _ (inl (aE bS λ_ n13 fI _=>bo fI λ_ n14 ee _ _=>?_)));obtain⟨aa,cC,h⟩:=aB h;obtain⟨ag,ef,h⟩:=aB h;obtain⟨aK,dZ,h⟩:=aB h;refine k6 (af cC ef) (ab7 aa ag _ dZ) _ ?_;refine aL h (λfJ h=>?_) λfJ h=>?_
    .exact aM ee [.bool false]
    .refine aO (n14 _ (n13 _ (inl (dI ?_))));exact cn _ (inr ⟨_,bL rfl,gQ (i64.wrap (cm+1)) h⟩)
   .exact c1 (dV 0 _ (e_ 0 _ (b9 _ (n6 _ (inl (aM ah [.bool true]))))))
  exact dp h λn h=>hf n 0 h
theorem ab9 (a0 J r) (h:yD a0 J=some r):aX al 141 [df a0,df J] (.bool r) []:=by
 refine bA [0,1] [.tmp 4] Tryz.func141 c141 λbs ah bw=>aj ?_;refine aE ah λ_ bB a7 _=>aj ?_;refine aL h (λbO h=>?_) λbO h=>?_
 .exact aM a7 [.bool false]
 .refine aO (bB _ (inl (aE ah λ_ n6 dA _=>aj ?_)));refine aL h (λb9 h=>?_) λb9 h=>?_
  .exact aM dA [.bool false]
  .refine aO (n6 _ (inl (aE ah λ_ n10 cV _=>aj ?_)));refine aL h (λfK h=>?_) λfK h=>?_
   .exact aM cV [.bool false]
   .refine aO (n10 _ (inl (aE ah λ_ n14 ee _=>?_)));obtain⟨aa,cC,h⟩:=aB h;refine cN (ab8 a0.ck J.ck _ cC) _ ?_;refine aL h (λjL h=>?_) λjL h=>?_
    .exact aM ee [.bool false]
    .exact aO (n14 _ (inl (aM ah [.bool true])))
theorem ab_ (a0 J r) (h:BO a0 J=some r):aX al 104 [.slice (a0.map df),.slice (J.map df)] (.bool r) []:=by
 refine bA [0,1] [.tmp 4] Tryz.func104 Yx λbs ah bw=>aj ?_;refine aE ah λ_ bB a7 ag=>aj ?_;refine aL h (λbO h=>?_) λbO h=>?_
 .exact aM a7 [.bool false]
 .refine aO (bB _ (inl (aE ah λ_ n6 dA _=>aj ?_)));refine bo dA λiO _ hB b9 _=>?_;show a_ al (.loop ?hb) _ _;have hf:∀n cm,GN a0 J n cm=some r->cR al ?hb iO (ax [(0,.slice (a0.map df)),(1,.slice (J.map df)),(5,.int .i64 cm)]):=by
   refine c7 λ_ gQ cm h=>c6 hB λ_ cn bS e_=>aE bS λ_ n10 _ dV=>aj ?_;refine aL h (λfK h=>?_) λfK h=>?_
   .refine aO (n10 _ (inl (aE bS λ_ n13 fI _=>bo fI λ_ n14 ee _ _=>?_)));obtain⟨aa,cC,h⟩:=aB h;obtain⟨ag,ef,h⟩:=aB h;obtain⟨aK,dZ,h⟩:=aB h;refine k6 (af cC ef) (ab9 aa ag _ dZ) _ ?_;refine aL h (λfJ h=>?_) λfJ h=>?_
    .exact aM ee [.bool false]
    .refine aO (n14 _ (n13 _ (inl (dI ?_))));exact cn _ (inr ⟨_,bL rfl,gQ (i64.wrap (cm+1)) h⟩)
   .exact c1 (dV 0 _ (e_ 0 _ (b9 _ (n6 _ (inl (aM ah [.bool true]))))))
  exact dp h λn h=>hf n 0 h
end Go.Proofs.YtngohoaiimbacabGreatDoor
