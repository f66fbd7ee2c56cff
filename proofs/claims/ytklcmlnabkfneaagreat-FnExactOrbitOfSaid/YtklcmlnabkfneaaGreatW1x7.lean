/- Part of a proof that a law returns true for every input. No condition. -/
import Derived.Test.YtklcmlnabkfneaaGreatSl
namespace Go.Proofs.YtklcmlnabkfneaaGreat
open Option Go.IntKind Nat Or
open Go Go.de Go.l3
set_option maxRecDepth 100000
set_option maxHeartbeats 8800000
set_option linter.unusedSimpArgs false
set_option linter.unusedVariables false
theorem bA (fx:alR) (eL:List ResultVar) {f:FuncId} {fn:Func} {ins outs:alW} {r:I} (bo:ak.P.funcs[f]? =some fn) (dj:aI)
 (FE:∀Q:Exit->aw->Prop,(∀s,dK (de.Ends ak fx eL r outs) s->Q .ret s)->(∀s,dK (de.Ends ak fx eL r outs) s->Q .normal s)->a_ ak dj Q (ay (num 0 ins))) (ad:e5 ⟨fn.ntmps,fx⟩ (fn.body.getD .skip)=some dj.strip:=by kernel_rfl) (R:fn.body=some (fn.body.getD .skip):=by rfl) (kP:(fn.name== "runtime.NumGoroutine")=false:=by rfl) (aS:ins.length<=fn.ntmps:=by exact le_of_ble_eq_true rfl) (fw:fn.results.toList=eL:=by rfl) (aq:dj.plain=true:=by kernel_rfl):aY ak f ins r outs:=
 aY.Gp GC eL (num 0 ins) bo R kP ad aS fw rfl FE aq
theorem cO {P:Nat->Prop} (s:∀m,P m->P (m+1)) (z:P 0:=by intros;rename_i h;cases(show none=some _ from h)):∀n,P n:=λn=>Nat.rec z s n
def IQ:=PLift.up (af @Xy (af @Xz (af @XA (af @XB (af @XC (af @XD (af @XE (af @XF (af @XG (af @XH (af @XI (af @XJ (af @XK (af @XL (af @XM (af @XN (af @XO (af @XP (af @XQ (af @XR (af @XS (af @XT (af @XU (af @XV (af @XW (af @XX (af @XY (af @XZ (af @X0 (af @X1 (af @X2 (af @X3 (af @X4 (af @X5 (af @X6 (af @X7 (af @X8 (af @X9 (af @X_ (af @Ya (af @Yb (af @Yc (af @k6.eq_1 (af @bj.eq_1 (af @hj.eq_1 (af @b4.eq_1 (af @cq.eq_1 (af @dA.eq_1 (af @c6.eq_1 (af @h3.eq_1 (af @fh.eq_1 (af @eE.eq_1 (af @im.eq_1 (af @il.eq_1 (af @h1.eq_1 (af @iJ.eq_1 (af @h2.eq_1 (af @lb.eq_1 (af @kz.eq_1 (af @nH.eq_1 (af @c7.eq_1 (af @jr.eq_1 (af @jq.eq_1 (af @cd.eq_1 (af @gi.eq_1 (af @fY.eq_1 (af @hC.eq_1 (af @b0.eq_1 (af @pe.eq_1 (af @ke.eq_1 (af @ew.eq_1 @js.eq_1)))))))))))))))))))))))))))))))))))))))))))))))))))))))))))))))))))))))
def aP:=PLift.up (af W1.down IQ.down)
def et:=PLift.up (af W2.down IQ.down)
def i7:=PLift.up (af W3.down IQ.down)
theorem bJ {F A:Prop} (f:F) (h:F->A:=by intro bh;(try simp only[i7.down,simprocAttr,bh,cJ,ft,eI,eK,I.eg,I.shares]at ba⊢);exact ba):A:=h f
theorem wr {Q l ros k} (cn:alV) (ax:Q .normal (ay cn)) (h:∀P:alV->Prop,P cn->dE ak (ay l) ros none (λ_ s=>P (gO k s)):=by
 intro P ba;simp only[aP.down,simprocAttr,cJ,ft,eI,eK];(try simp only[i7.down,simprocAttr,cJ,ft,eI,eK]at ba⊢);exact ba):a_ ak (.fN ros (some k)) Q (ay l):=
 hM (bX cn (h) ax)
theorem dt {Q l ros k} {cn:alV} (ax:Q .normal (ay cn)) (h:∀P:alV->Prop,P cn->dE ak (ay l) ros none (λ_ s=>P (gO k s)):=by
 intro P ba;simp only[aP.down,simprocAttr,cJ,ft,eI,eK];(try simp only[i7.down,simprocAttr,cJ,ft,eI,eK]at ba⊢);exact ba):a_ ak (.fN ros (some k)) Q (ay l):=
 hM (bX cn (h) ax)
theorem acp {Q l ros k g ds r} (ok:aY ak g ds r []) (cn:alV) (ax:Q .normal (ay cn)) (h:aY ak g ds r []->∀P:alV->Prop,P cn->dE ak (ay l) ros none (λ_ s=>P (gO k s)):=by
 intro lK P ba;(try simp only[aP.down,simprocAttr,cJ,ft,eI,eK]);(first|refine eB lK rfl rfl rfl rfl (inl (by rfl)) ?_|refine gU lK rfl rfl rfl rfl (inl (by rfl)) ?_);simp only[aP.down,simprocAttr,cJ,ft,eI,eK];(try simp only[i7.down,simprocAttr,cJ,ft,eI,eK]at ba⊢);exact ba):a_ ak (.fN ros (some k)) Q (ay l):=
 hM (bX cn (h ok) ax)
theorem IU {Q l ros k g ds r} {F:Prop} (bh:F) (ok:aY ak g ds r []) (cn:alV) (ax:Q .normal (ay cn)) (h:aY ak g ds r []->F->∀P:alV->Prop,P cn->dE ak (ay l) ros none (λ_ s=>P (gO k s)):=by
 intro lK bh P ba;(try simp only[aP.down,simprocAttr,bh,cJ,ft,eI,eK]);(first|refine eB lK rfl rfl rfl rfl (inl (by rfl)) ?_|refine gU lK rfl rfl rfl rfl (inl (by rfl)) ?_);simp only[aP.down,simprocAttr,bh,cJ,ft,eI,eK];(try simp only[i7.down,simprocAttr,bh,cJ,ft,eI,eK]at ba⊢);exact ba):a_ ak (.fN ros (some k)) Q (ay l):=
 hM (bX cn (h ok bh) ax)
theorem Px {Q l ros k} {F:Prop} (bh:F) (cn:alV) (ax:Q .normal (ay cn)) (h:F->∀P:alV->Prop,P cn->dE ak (ay l) ros none (λ_ s=>P (gO k s)):=by
 intro bh P ba;simp only[aP.down,simprocAttr,bh,cJ,ft,eI,eK];(try simp only[i7.down,simprocAttr,bh,cJ,ft,eI,eK]at ba⊢);exact ba):a_ ak (.fN ros (some k)) Q (ay l):=
 hM (bX cn (h bh) ax)
theorem ws {Q l ros k b} (cn:alV) (ax:a_ ak b Q (ay cn)) (h:∀P:alV->Prop,P cn->dE ak (ay l) ros none (λ_ s=>P (gO k s)):=by
 intro P ba;simp only[aP.down,simprocAttr,cJ,ft,eI,eK];(try simp only[i7.down,simprocAttr,cJ,ft,eI,eK]at ba⊢);exact ba):a_ ak (.seq (.fN ros (some k)) b) Q (ay l):=
 da (bX cn (h) ax)
theorem al {Q l ros k b} {cn:alV} (ax:a_ ak b Q (ay cn)) (h:∀P:alV->Prop,P cn->dE ak (ay l) ros none (λ_ s=>P (gO k s)):=by
 intro P ba;simp only[aP.down,simprocAttr,cJ,ft,eI,eK];(try simp only[i7.down,simprocAttr,cJ,ft,eI,eK]at ba⊢);exact ba):a_ ak (.seq (.fN ros (some k)) b) Q (ay l):=
 da (bX cn (h) ax)
theorem aK {Q l ros k fx eL r} {cn:alV} (dX:∀s,dK (de.Ends ak fx eL r []) s->Q .ret s) (ds:alW) (h:∀P:alV->Prop,P cn->dE ak (ay l) ros none (λ_ s=>P (gO k s)):=by
 intro P ba;simp only[aP.down,simprocAttr,cJ,ft,eI,eK];(try simp only[i7.down,simprocAttr,cJ,ft,eI,eK]at ba⊢);exact ba) (ae:r=BD ds:=by cases fC (by assumption);rfl) (ab:eL.map (oU ak (ay cn))=ds.map some:=by rfl) (az:(eL.map jg).Nodup:=by decide):a_ ak (.seq (.fN ros (some k)) .ret) Q (ay l):=
 ws cn (dY dX ds ae ab az) h
theorem c9 {Q l ros k b g ds r} (ok:aY ak g ds r []) (cn:alV) (ax:a_ ak b Q (ay cn)) (h:aY ak g ds r []->∀P:alV->Prop,P cn->dE ak (ay l) ros none (λ_ s=>P (gO k s)):=by
 intro lK P ba;(try simp only[aP.down,simprocAttr,cJ,ft,eI,eK]);(first|refine eB lK rfl rfl rfl rfl (inl (by rfl)) ?_|refine gU lK rfl rfl rfl rfl (inl (by rfl)) ?_);simp only[aP.down,simprocAttr,cJ,ft,eI,eK];(try simp only[i7.down,simprocAttr,cJ,ft,eI,eK]at ba⊢);exact ba):a_ ak (.seq (.fN ros (some k)) b) Q (ay l):=
 da (bX cn (h ok) ax)
theorem gH {Q l ros k b g ds r} {F:Prop} (bh:F) (ok:aY ak g ds r []) (cn:alV) (ax:a_ ak b Q (ay cn)) (h:aY ak g ds r []->F->∀P:alV->Prop,P cn->dE ak (ay l) ros none (λ_ s=>P (gO k s)):=by
 intro lK bh P ba;(try simp only[aP.down,simprocAttr,bh,cJ,ft,eI,eK]);(first|refine eB lK rfl rfl rfl rfl (inl (by rfl)) ?_|refine gU lK rfl rfl rfl rfl (inl (by rfl)) ?_);simp only[aP.down,simprocAttr,bh,cJ,ft,eI,eK];(try simp only[i7.down,simprocAttr,bh,cJ,ft,eI,eK]at ba⊢);exact ba):a_ ak (.seq (.fN ros (some k)) b) Q (ay l):=
 da (bX cn (h ok bh) ax)
theorem Py {Q l ros k b eX g ds r} (ok:aY ak g ds r []) (cn:alV) (ax:a_ ak b Q (ay cn)) (h:aY ak g ds r []->∀P:alV->Prop,P cn->dE ak (ay l) ros (some []) (λacc s=>kR (oW eX) 0 [] (acc.getD []).reverse=true/\P (gO k s)):=by
 intro lK P ba;(try simp only[et.down,simprocAttr,cJ,ft,eI,eK]);(first|refine kv lK rfl rfl rfl rfl (inl (by rfl)) ?_|refine kT lK rfl rfl rfl rfl (inl (by rfl)) ?_);simp only[et.down,simprocAttr,cJ,ft,eI,eK];refine⟨ky (by kernel_rfl),?_⟩;(try simp only[i7.down,simprocAttr,cJ,ft,eI,eK]at ba⊢);exact ba) (hl:eX.length=ros.length:=by rfl):a_ ak (.seq (.j7 ros eX (some k)) b) Q (ay l):=
 kS hl (ku cn (h ok) ax)
theorem jD {Q l ros k b eX g ds r} {F:Prop} (bh:F) (ok:aY ak g ds r []) (cn:alV) (ax:a_ ak b Q (ay cn)) (h:aY ak g ds r []->F->∀P:alV->Prop,P cn->dE ak (ay l) ros (some []) (λacc s=>kR (oW eX) 0 [] (acc.getD []).reverse=true/\P (gO k s)):=by
 intro lK bh P ba;(try simp only[et.down,simprocAttr,bh,cJ,ft,eI,eK]);(first|refine kv lK rfl rfl rfl rfl (inl (by rfl)) ?_|refine kT lK rfl rfl rfl rfl (inl (by rfl)) ?_);simp only[et.down,simprocAttr,bh,cJ,ft,eI,eK];refine⟨ky (by kernel_rfl),?_⟩;(try simp only[i7.down,simprocAttr,bh,cJ,ft,eI,eK]at ba⊢);exact ba) (hl:eX.length=ros.length:=by rfl):a_ ak (.seq (.j7 ros eX (some k)) b) Q (ay l):=
 kS hl (ku cn (h ok bh) ax)
theorem ld {Q l ros k b eX} {F:Prop} (bh:F) (cn:alV) (ax:a_ ak b Q (ay cn)) (h:F->∀P:alV->Prop,P cn->dE ak (ay l) ros (some []) (λacc s=>kR (oW eX) 0 [] (acc.getD []).reverse=true/\P (gO k s)):=by
 intro bh P ba;simp only[et.down,simprocAttr,bh,cJ,ft,eI,eK];refine⟨ky (by kernel_rfl),?_⟩;(try simp only[i7.down,simprocAttr,bh,cJ,ft,eI,eK]at ba⊢);exact ba) (hl:eX.length=ros.length:=by rfl):a_ ak (.seq (.j7 ros eX (some k)) b) Q (ay l):=
 kS hl (ku cn (h bh) ax)
theorem Pz {Q l ros k b eX} (e:Bool) {F:Prop} (bh:F) (cn:alV) (ax:a_ ak b Q (ay cn)) (h:F->∀c,e=c->∀P:alV->Prop,P cn->dE ak (ay l) ros (some []) (λacc s=>kR (oW eX) 0 [] (acc.getD []).reverse=true/\P (gO k s)):=by
 intro bh c an P ba;cases c;all_goals
  (try simp only[List.length_replicate]at an);simp only[et.down,simprocAttr,an,bh,cJ,ft,eI,eK];refine⟨ky (by kernel_rfl),?_⟩;(try simp only[i7.down,simprocAttr,an,bh,cJ,ft,eI,eK]at ba⊢);exact ba) (hl:eX.length=ros.length:=by rfl):a_ ak (.seq (.j7 ros eX (some k)) b) Q (ay l):=
 kS hl (ku cn (h bh e rfl) ax)
theorem e0 {Q l ros k b} {F:Prop} (bh:F) (cn:alV) (ax:a_ ak b Q (ay cn)) (h:F->∀P:alV->Prop,P cn->dE ak (ay l) ros none (λ_ s=>P (gO k s)):=by
 intro bh P ba;simp only[aP.down,simprocAttr,bh,cJ,ft,eI,eK];(try simp only[i7.down,simprocAttr,bh,cJ,ft,eI,eK]at ba⊢);exact ba):a_ ak (.seq (.fN ros (some k)) b) Q (ay l):=
 da (bX cn (h bh) ax)
theorem qu {Q l ros k b} {F:Prop} (bh:F) (cn:alV) (ax:a_ ak b Q (ay cn)) (h:F->∀P:alV->Prop,P cn->dE ak (ay l) ros none (λ_ s=>P (gO k s)):=by
 intro bh P ba;simp only[aP.down,simprocAttr,bh,cJ,ft,eI,eK,-Int.reduceNatCast'];(try simp only[i7.down,simprocAttr,bh,cJ,ft,eI,eK,-Int.reduceNatCast']at ba⊢);exact ba):a_ ak (.seq (.fN ros (some k)) b) Q (ay l):=
 da (bX cn (h bh) ax)
theorem lL {Q l ros k b} (e:Bool) (cn:alV) (ax:a_ ak b Q (ay cn)) (h:∀c,e=c->∀P:alV->Prop,P cn->dE ak (ay l) ros none (λ_ s=>P (gO k s)):=by
 intro c an P ba;cases c;all_goals
  (try simp only[List.length_replicate]at an);simp only[aP.down,simprocAttr,an,cJ,ft,eI,eK];(try simp only[i7.down,simprocAttr,an,cJ,ft,eI,eK]at ba⊢);exact ba):a_ ak (.seq (.fN ros (some k)) b) Q (ay l):=
 da (bX cn (h e rfl) ax)
theorem acq {Q l ros k b} (e:Bool) {F:Prop} (bh:F) (cn:alV) (ax:a_ ak b Q (ay cn)) (h:F->∀c,e=c->∀P:alV->Prop,P cn->dE ak (ay l) ros none (λ_ s=>P (gO k s)):=by
 intro bh c an P ba;cases c;all_goals
  (try simp only[List.length_replicate]at an);simp only[aP.down,simprocAttr,an,bh,cJ,ft,eI,eK];(try simp only[i7.down,simprocAttr,an,bh,cJ,ft,eI,eK]at ba⊢);exact ba):a_ ak (.seq (.fN ros (some k)) b) Q (ay l):=
 da (bX cn (h bh e rfl) ax)
def ot:=PLift.up (af @sd (af @sf @se))
def ph:=PLift.up (af @List.length_append.{0} (af @List.length_cons.{0} (af @List.length_nil.{0} (af @List.length_map.{0,0} @List.length_replicate.{0}))))
def sD:=PLift.up (af (show∀s,fa ak s 67 1 [(0,.bd)]=some (.ag 1 [.bd],s)from λs=>by kernel_rfl) (af (@oY ak 67 67 62 rfl rfl) (af @p6 (af @p7 (af @p8 (af @p5 (af @all_nil (@mn _ c7 1 (λ_=>rfl)))))))))
def wD:=PLift.up (af @hN (af @hP (af @hQ (af @dr (af (@cr _ ew c7 (λ_=>Dn _)) (@cr _ c7 c7 (λ_=>YY _)))))))
def Dr:=PLift.up (af @List.cons_append.{0} (af @List.nil_append.{0} (af @List.length_append.{0} (af @List.length_cons.{0} (af @List.length_nil.{0} (af @List.length_map.{0,0} @List.length_replicate.{0}))))))
def Ds:=PLift.up (af @dr (@cr _ b0 c6 (λ_=>qt _)))
def Dt:=PLift.up (af @hN (af @hP (af @hQ (af @dr (af (@cr _ b4 b4 (λ_=>Df _)) (af (@cr _ hj hj (λ_=>Di _)) (af (@cr _ cq cq (λ_=>pd _)) (af (@cr _ cd cd (λ_=>kA _)) (@cr _ cd cd (λ_=>kA _))))))))))
def Du:=PLift.up (af @hN (af @hP (af @hQ @dr)))
def Dv:=PLift.up (af @sd (af @sf (af @se (af @NF (af @lE @FR)))))
def Dw:=PLift.up (af @sd (af @sf (af @se (af @kU (af @NF @lE)))))
def IV:=PLift.up (af (@VC ak 119 [(2,0),(2,1),(22,2)] [(.int .i64 0),(.int .i64 0),.bd] rfl rfl (by kernel_rfl)) (af @yh (af @yi (af @cM (af @p8 (af @List.nil_append.{0} (af @List.cons_append.{0} (af (@yg ak 62 119 1 3 [(.agg [(.int .i64 0),(.int .i64 0),.bd])] rfl rfl rfl (by kernel_rfl)) (af (@oY ak 62 62 119 rfl rfl) (af @p6 (af @p7 (af @p5 (af @all_nil (@mn _ b0 3 (λ_=>rfl)))))))))))))))
def IW:=PLift.up (af @hN (af @hP (af @hQ (af @dr (@cr _ b0 c6 (λ_=>qt _))))))
def IX:=PLift.up (af @oZ (af @mo (af @lE (af @hN (af @hP (af @hQ (af @dr (af @or_true (af @true_or (@cr _ b0 c6 (λ_=>qt _)))))))))))
def IY:=PLift.up (af (@oY ak 22 22 2 rfl rfl) (af @p6 (af @p7 (af @p8 (af @p5 (af @all_nil (af (@mn _ bj 1 (λ_=>rfl)) (af (@yg ak 200 22 1 1 [.bd] rfl rfl rfl (by kernel_rfl)) (af @yh (af @yi (af @cM (af @List.nil_append.{0} (af @List.cons_append.{0} (af (@oY ak 200 200 22 rfl rfl) (@mn _ ke 1 (λ_=>rfl))))))))))))))))
def IZ:=PLift.up (af (@yg ak 62 119 1 3 [(.agg [(.int .i64 0),(.int .i64 0),.bd])] rfl rfl rfl (by kernel_rfl)) (af @yh (af @yi (af @cM (af @p8 (af @List.nil_append.{0} (af @List.cons_append.{0} (af (@oY ak 62 62 119 rfl rfl) (af @p6 (af @p7 (af @p5 (af @all_nil (@mn _ b0 3 (λ_=>rfl))))))))))))))
def I0:=PLift.up (af (@yg ak 67 62 1 1 [.bd] rfl rfl rfl (by kernel_rfl)) (af @yh (af @yi (af @cM (af @p8 (af @List.nil_append.{0} (af @List.cons_append.{0} (af (@oY ak 67 67 62 rfl rfl) (af @p6 (af @p7 (af @p5 (af @all_nil (@mn _ ew 1 (λ_=>rfl))))))))))))))
def I1:=PLift.up (af @oZ (af @mo (af @lE (af @hN (af @hP (af @hQ (af @dr (af @or_true (af @true_or (@cr _ ew c7 (λ_=>Dn _)))))))))))
def PA:=PLift.up (af @hN (af @hP (af @hQ (af @dr (@cr _ dA dA (λ_=>De _))))))
def PB:=PLift.up (af @oZ (af @mo (af @lE (af @hN (af @hP (af @hQ (af @dr (af @or_true (af @true_or (@cr _ bj bj (λ_=>mA _)))))))))))
def PC:=PLift.up (af @mo (af @lE (af @hN (af @hP (af @hQ (af @dr (af @or_true (af @true_or (@cr _ bj bj (λ_=>mA _))))))))))
def PD:=PLift.up (af @sd (af @sf (af @se (af @oZ (af @mo (af @lE (af @hN (af @hP (af @hQ (af @dr (af @or_true (af @true_or (@cr _ cd cd (λ_=>kA _))))))))))))))
def PE:=PLift.up (af @hN (af @hP (af @hQ (af @dr (af (@cr _ fY b4 (λ_=>t_ _)) (af (@cr _ gi hj (λ_=>ua _)) (af (@cr _ cq cq (λ_=>pd _)) (af (@cr _ cd cd (λ_=>kA _)) (af (@cr _ cd cd (λ_=>kA _)) (@cr _ b0 c6 (λ_=>qt _)))))))))))
def PF:=PLift.up (af @hN (af @hP (af @hQ (af @dr (@cr _ ew c7 (λ_=>Dn _))))))
theorem acr (a0 J r) (h:yH a0 J=some r):aY ak 166 [.slice (a0.map kz),.int .i64 J] (.int .i64 r) []:=by
 refine bA [0] [.tmp 4] Tryz.func166 Y0 λbz aj bw=>al ?_;refine al ?_;refine aD aj λ_ ff cZ _=>al ?_;refine aL h (λcI h=>?_) λcI h=>?_
 .exact aK cZ [.int .i64 (-1)]
 .exact aQ (ff _ (inl (aK aj [.int .i64 (i64.wrap (J-(a0.length:Int)))])))
theorem acs (a0 J r) (h:BV a0 J=some r):aY ak 167 [.slice (a0.map jq),.int .i64 J] (.int .i64 r) []:=by
 refine bA [0] [.tmp 4] Tryz.func167 Y1 λbz aj bw=>al ?_;refine al ?_;refine aD aj λ_ ff cZ _=>al ?_;refine aL h (λcI h=>?_) λcI h=>?_
 .exact aK cZ [.int .i64 (-1)]
 .refine aQ (ff _ (inl (aD aj λ_ dc ei _=>al ?_)));refine bc ei λkf _ bP fP _=>?_;show a_ ak (.loop ?i_) _ _;have kg:∀n dy dm,GD a0 n dy dm=some r->cy ak ?i_ kf (ay [(0,.slice (a0.map jq)),(1,.int .i64 dy),(5,.int .i64 dm)]):=by
   refine cO λ_ kh dy dm h=>cN bP λ_ n10 cz dh=>aD cz λ_ n11 _ gG=>al ?_;refine aL h (λgI h=>?_) λgI h=>?_
   .refine aQ (n11 _ (inl (aD cz λ_ n14 dO _=>bc dO λ_ n15 h4 _ _=>?_)));obtain⟨U,c3,h⟩:=aA h;obtain⟨ah,dZ,h⟩:=aA h;refine gH c3 (acr U dy _ dZ) _ ?_;refine al ?_;refine aL h (λfz h=>?_) λfz h=>?_
    .exact aK h4 [.int .i64 (-1)]
    .refine aQ (n15 _ (n14 _ (inl (dt ?_))));exact n10 _ (inr ⟨_,bQ rfl,kh ah (i64.wrap (dm+1)) h⟩)
   .exact cK (gG 0 _ (dh 0 _ (fP _ (dc _ (inl (aK aj [.int .i64 dy]))))))
  exact c4 h λn h=>kg n (i64.wrap (J-(a0.length:Int))) 0 h
theorem acu (a0 J r) (h:yI a0 J=some r):aY ak 264 [iJ a0,.int .i64 J] (.int .i64 r) []:=by
 refine bA [0] [.tmp 4] Tryz.func264 Y2 λbz aj bw=>al ?_;refine al ?_;refine aD aj λ_ ff cZ _=>al ?_;refine aL h (λcI h=>?_) λcI h=>?_
 .exact aK cZ [.int .i64 (-1)]
 .refine aQ (ff _ (inl ?_));obtain⟨U,hy,h⟩:=aA h;refine c9 (acs a0.cw (i64.wrap (J-(a0.Name.length:Int))) _ hy) _ ?_;refine aD aj λ_ cf bP _=>al ?_;refine aL h (λmB h=>?_) λmB h=>?_
  .exact aK bP [.int .i64 (-1)]
  .exact aQ (cf _ (inl (aK aj [.int .i64 U])))
theorem acv (a0 J r) (h:BW a0 J=some r):aY ak 210 [.slice (a0.map iJ),.int .i64 J] (.int .i64 r) []:=by
 refine bA [0] [.tmp 4] Tryz.func210 Y3 λbz aj bw=>al ?_;refine al ?_;refine aD aj λ_ ff cZ _=>al ?_;refine aL h (λcI h=>?_) λcI h=>?_
 .exact aK cZ [.int .i64 (-1)]
 .refine aQ (ff _ (inl (aD aj λ_ dc ei _=>al ?_)));refine bc ei λkf _ bP fP _=>?_;show a_ ak (.loop ?i_) _ _;have kg:∀n dy dm,GF a0 n dy dm=some r->cy ak ?i_ kf (ay [(0,.slice (a0.map iJ)),(1,.int .i64 dy),(5,.int .i64 dm)]):=by
   refine cO λ_ kh dy dm h=>cN bP λ_ n10 cz dh=>aD cz λ_ n11 _ gG=>al ?_;refine aL h (λgI h=>?_) λgI h=>?_
   .refine aQ (n11 _ (inl (aD cz λ_ n14 dO _=>bc dO λ_ n15 h4 _ _=>?_)));obtain⟨U,c3,h⟩:=aA h;obtain⟨ah,dZ,h⟩:=aA h;refine gH c3 (acu U dy _ dZ) _ ?_;refine al ?_;refine aL h (λfz h=>?_) λfz h=>?_
    .exact aK h4 [.int .i64 (-1)]
    .refine aQ (n15 _ (n14 _ (inl (dt ?_))));exact n10 _ (inr ⟨_,bQ rfl,kh ah (i64.wrap (dm+1)) h⟩)
   .exact cK (gG 0 _ (dh 0 _ (fP _ (dc _ (inl (aK aj [.int .i64 dy]))))))
  exact c4 h λn h=>kg n (i64.wrap (J-(a0.length:Int))) 0 h
theorem acw (a0 J r) (h:yJ a0 J=some r):aY ak 142 [il a0,.int .i64 J] (.int .i64 r) []:=by
 refine bA [0] [.tmp 4] Tryz.func142 Y4 λbz aj bw=>al ?_;refine al ?_;refine aD aj λ_ ff cZ _=>al ?_;refine aL h (λcI h=>?_) λcI h=>?_
 .exact aK cZ [.int .i64 (-1)]
 .refine aQ (ff _ (inl ?_));obtain⟨U,hy,h⟩:=aA h;refine c9 (acv a0.Body (i64.wrap (J-(a0.Name.length:Int))) _ hy) _ ?_;refine aD aj λ_ cf bP _=>al ?_;refine aL h (λmB h=>?_) λmB h=>?_
  .exact aK bP [.int .i64 (-1)]
  .exact aQ (cf _ (inl (aK aj [.int .i64 U])))
theorem acx (a0 J r) (h:BX a0 J=some r):aY ak 69 [.slice (a0.map il),.int .i64 J] (.int .i64 r) []:=by
 refine bA [0] [.tmp 4] Tryz.func69 Y5 λbz aj bw=>al ?_;refine al ?_;refine aD aj λ_ ff cZ _=>al ?_;refine aL h (λcI h=>?_) λcI h=>?_
 .exact aK cZ [.int .i64 (-1)]
 .refine aQ (ff _ (inl (aD aj λ_ dc ei _=>al ?_)));refine bc ei λkf _ bP fP _=>?_;show a_ ak (.loop ?i_) _ _;have kg:∀n dy dm,GG a0 n dy dm=some r->cy ak ?i_ kf (ay [(0,.slice (a0.map il)),(1,.int .i64 dy),(5,.int .i64 dm)]):=by
   refine cO λ_ kh dy dm h=>cN bP λ_ n10 cz dh=>aD cz λ_ n11 _ gG=>al ?_;refine aL h (λgI h=>?_) λgI h=>?_
   .refine aQ (n11 _ (inl (aD cz λ_ n14 dO _=>bc dO λ_ n15 h4 _ _=>?_)));obtain⟨U,c3,h⟩:=aA h;obtain⟨ah,dZ,h⟩:=aA h;refine gH c3 (acw U dy _ dZ) _ ?_;refine al ?_;refine aL h (λfz h=>?_) λfz h=>?_
    .exact aK h4 [.int .i64 (-1)]
    .refine aQ (n15 _ (n14 _ (inl (dt ?_))));exact n10 _ (inr ⟨_,bQ rfl,kh ah (i64.wrap (dm+1)) h⟩)
   .exact cK (gG 0 _ (dh 0 _ (fP _ (dc _ (inl (aK aj [.int .i64 dy]))))))
  exact c4 h λn h=>kg n (i64.wrap (J-(a0.length:Int))) 0 h
theorem PG (a0 J r) (h:yK a0 J=some r):aY ak 41 [.slice (a0.map bj),.int .i64 J] (.int .i64 r) []:=by
 refine bA [0] [.tmp 4] Tryz.func41 Y6 λbz aj bw=>al ?_;refine al ?_;refine aD aj λ_ ff cZ _=>al ?_;refine aL h (λcI h=>?_) λcI h=>?_
 .exact aK cZ [.int .i64 (-1)]
 .exact aQ (ff _ (inl (aK aj [.int .i64 (i64.wrap (J-(a0.length:Int)))])))
theorem acy (a0 J r) (h:yL a0 J=some r):aY ak 143 [im a0,.int .i64 J] (.int .i64 r) []:=by
 refine bA [0] [.tmp 4] Tryz.func143 Y7 λbz aj bw=>al ?_;obtain⟨U,aW,h⟩:=aA h;refine c9 (PG a0.bL J _ aW) _ ?_;refine aD aj λ_ gy bU _=>al ?_;refine aL h (λeb h=>?_) λeb h=>?_
 .exact aK bU [.int .i64 (-1)]
 .exact aQ (gy _ (inl (aK aj [.int .i64 U])))
theorem acz (a0 J r) (h:BZ a0 J=some r):aY ak 70 [.slice (a0.map im),.int .i64 J] (.int .i64 r) []:=by
 refine bA [0] [.tmp 4] Tryz.func70 Y8 λbz aj bw=>al ?_;refine al ?_;refine aD aj λ_ ff cZ _=>al ?_;refine aL h (λcI h=>?_) λcI h=>?_
 .exact aK cZ [.int .i64 (-1)]
 .refine aQ (ff _ (inl (aD aj λ_ dc ei _=>al ?_)));refine bc ei λkf _ bP fP _=>?_;show a_ ak (.loop ?i_) _ _;have kg:∀n dy dm,GH a0 n dy dm=some r->cy ak ?i_ kf (ay [(0,.slice (a0.map im)),(1,.int .i64 dy),(5,.int .i64 dm)]):=by
   refine cO λ_ kh dy dm h=>cN bP λ_ n10 cz dh=>aD cz λ_ n11 _ gG=>al ?_;refine aL h (λgI h=>?_) λgI h=>?_
   .refine aQ (n11 _ (inl (aD cz λ_ n14 dO _=>bc dO λ_ n15 h4 _ _=>?_)));obtain⟨U,c3,h⟩:=aA h;obtain⟨ah,dZ,h⟩:=aA h;refine gH c3 (acy U dy _ dZ) _ ?_;refine al ?_;refine aL h (λfz h=>?_) λfz h=>?_
    .exact aK h4 [.int .i64 (-1)]
    .refine aQ (n15 _ (n14 _ (inl (dt ?_))));exact n10 _ (inr ⟨_,bQ rfl,kh ah (i64.wrap (dm+1)) h⟩)
   .exact cK (gG 0 _ (dh 0 _ (fP _ (dc _ (inl (aK aj [.int .i64 dy]))))))
  exact c4 h λn h=>kg n (i64.wrap (J-(a0.length:Int))) 0 h
theorem acA (a0 J r) (h:yM a0 J=some r):aY ak 59 [h1 a0,.int .i64 J] (.int .i64 r) []:=by
 refine bA [0] [.tmp 4] Tryz.func59 Y9 λbz aj bw=>al ?_;refine al ?_;refine aD aj λ_ ff cZ _=>al ?_;refine aL h (λcI h=>?_) λcI h=>?_
 .exact aK cZ [.int .i64 (-1)]
 .refine aQ (ff _ (inl (al ?_)));refine aD aj λ_ ja gZ _=>al ?_;refine aL h (λfQ h=>?_) λfQ h=>?_
  .exact aK gZ [.int .i64 (-1)]
  .refine aQ (ja _ (inl (al ?_)));refine aD aj λ_ n13 eM _=>al ?_;refine aL h (λeF h=>?_) λeF h=>?_
   .exact aK eM [.int .i64 (-1)]
   .exact aQ (n13 _ (inl (aK aj [.int .i64 (i64.wrap ((i64.wrap ((i64.wrap (J-(a0.Left.length:Int)))-(a0.b_.length:Int)))-(a0.Result.length:Int)))])))
theorem acB (a0 J r) (h:B0 a0 J=some r):aY ak 18 [.slice (a0.map h1),.int .i64 J] (.int .i64 r) []:=by
 refine bA [0] [.tmp 4] Tryz.func18 Y_ λbz aj bw=>al ?_;refine al ?_;refine aD aj λ_ ff cZ _=>al ?_;refine aL h (λcI h=>?_) λcI h=>?_
 .exact aK cZ [.int .i64 (-1)]
 .refine aQ (ff _ (inl (aD aj λ_ dc ei _=>al ?_)));refine bc ei λkf _ bP fP _=>?_;show a_ ak (.loop ?i_) _ _;have kg:∀n dy dm,GI a0 n dy dm=some r->cy ak ?i_ kf (ay [(0,.slice (a0.map h1)),(1,.int .i64 dy),(5,.int .i64 dm)]):=by
   refine cO λ_ kh dy dm h=>cN bP λ_ n10 cz dh=>aD cz λ_ n11 _ gG=>al ?_;refine aL h (λgI h=>?_) λgI h=>?_
   .refine aQ (n11 _ (inl (aD cz λ_ n14 dO _=>bc dO λ_ n15 h4 _ _=>?_)));obtain⟨U,c3,h⟩:=aA h;obtain⟨ah,dZ,h⟩:=aA h;refine gH c3 (acA U dy _ dZ) _ ?_;refine al ?_;refine aL h (λfz h=>?_) λfz h=>?_
    .exact aK h4 [.int .i64 (-1)]
    .refine aQ (n15 _ (n14 _ (inl (dt ?_))));exact n10 _ (inr ⟨_,bQ rfl,kh ah (i64.wrap (dm+1)) h⟩)
   .exact cK (gG 0 _ (dh 0 _ (fP _ (dc _ (inl (aK aj [.int .i64 dy]))))))
  exact c4 h λn h=>kg n (i64.wrap (J-(a0.length:Int))) 0 h
theorem PH (a0 J r) (h:yN a0 J=some r):aY ak 71 [.slice (a0.map cd),.int .i64 J] (.int .i64 r) []:=by
 refine bA [0] [.tmp 4] Tryz.func71 Za λbz aj bw=>al ?_;refine al ?_;refine aD aj λ_ ff cZ _=>al ?_;refine aL h (λcI h=>?_) λcI h=>?_
 .exact aK cZ [.int .i64 (-1)]
 .refine aQ (ff _ (inl (aD aj λ_ dc ei _=>al ?_)));refine bc ei λkf _ bP fP _=>?_;show a_ ak (.loop ?i_) _ _;have kg:∀n dy dm,GJ a0 n dy dm=some r->cy ak ?i_ kf (ay [(0,.slice (a0.map cd)),(1,.int .i64 dy),(5,.int .i64 dm)]):=by
   refine cO λ_ kh dy dm h=>cN bP λ_ n10 cz dh=>aD cz λ_ n11 _ gG=>al ?_;refine aL h (λgI h=>?_) λgI h=>?_
   .refine aQ (n11 _ (inl (aD cz λ_ n14 dO _=>bc dO λ_ n15 h4 _ _=>?_)));obtain⟨U,c3,h⟩:=aA h;refine e0 c3 _ ?_;refine al ?_;refine aL h (λfi h=>?_) λfi h=>?_
    .exact aK h4 [.int .i64 (-1)]
    .refine aQ (n15 _ (n14 _ (inl (dt ?_))));exact n10 _ (inr ⟨_,bQ rfl,kh (i64.wrap (dy-(U.length:Int))) (i64.wrap (dm+1)) h⟩)
   .exact cK (gG 0 _ (dh 0 _ (fP _ (dc _ (inl (aK aj [.int .i64 dy]))))))
  exact c4 h λn h=>kg n (i64.wrap (J-(a0.length:Int))) 0 h
theorem acC (a0 J r) (h:yO a0 J=some r):aY ak 26 [lb a0,.int .i64 J] (.int .i64 r) []:=by
 refine bA [0] [.tmp 4] Tryz.func26 Zb λbz aj bw=>al ?_;obtain⟨U,aW,h⟩:=aA h;refine c9 (acx a0.dU J _ aW) _ ?_;refine aD aj λ_ gy bU bx=>al ?_;refine aL h (λeb h=>?_) λeb h=>?_
 .exact aK bU [.int .i64 (-1)]
 .refine aQ (gy _ (inl ?_));obtain⟨ah,jx,h⟩:=aA h;refine c9 (acz a0.cU U _ jx) _ ?_;refine aD aj λ_ n10 cz _=>al ?_;refine aL h (λe8 h=>?_) λe8 h=>?_
  .exact aK cz [.int .i64 (-1)]
  .refine aQ (n10 _ (inl ?_));obtain⟨aO,ey,h⟩:=aA h;refine c9 (acB a0.gV ah _ ey) _ ?_;refine aD aj λ_ n16 mC _=>al ?_;refine aL h (λiK h=>?_) λiK h=>?_
   .exact aK mC [.int .i64 (-1)]
   .refine aQ (n16 _ (inl ?_));obtain⟨bx,l7,h⟩:=aA h;refine c9 (PH a0.gP aO _ l7) _ ?_;refine aD aj λ_ n22 l8 _=>al ?_;refine aL h (λhD h=>?_) λhD h=>?_
    .exact aK l8 [.int .i64 (-1)]
    .refine aQ (n22 _ (inl ?_));obtain⟨a7,wE,h⟩:=aA h;refine c9 (PH a0.gQ bx _ wE) _ ?_;refine aD aj λ_ n28 I2 _=>al ?_;refine aL h (λmD h=>?_) λmD h=>?_
     .exact aK I2 [.int .i64 (-1)]
     .exact aQ (n28 _ (inl (aK aj [.int .i64 a7])))
theorem acD (a0 J r) (h:yP a0 J=some r):aY ak 72 [h2 a0,.int .i64 J] (.int .i64 r) []:=by
 refine bA [0] [.tmp 4] Tryz.func72 Zc λbz aj bw=>al ?_;obtain⟨U,aW,h⟩:=aA h;refine c9 (PG a0.bL J _ aW) _ ?_;refine aD aj λ_ gy bU _=>al ?_;refine aL h (λeb h=>?_) λeb h=>?_
 .exact aK bU [.int .i64 (-1)]
 .exact aQ (gy _ (inl (aK aj [.int .i64 U])))
theorem acE (a0 J r) (h:B1 a0 J=some r):aY ak 27 [.slice (a0.map h2),.int .i64 J] (.int .i64 r) []:=by
 refine bA [0] [.tmp 4] Tryz.func27 z1 λbz aj bw=>al ?_;refine al ?_;refine aD aj λ_ ff cZ _=>al ?_;refine aL h (λcI h=>?_) λcI h=>?_
 .exact aK cZ [.int .i64 (-1)]
 .refine aQ (ff _ (inl (aD aj λ_ dc ei _=>al ?_)));refine bc ei λkf _ bP fP _=>?_;show a_ ak (.loop ?i_) _ _;have kg:∀n dy dm,GK a0 n dy dm=some r->cy ak ?i_ kf (ay [(0,.slice (a0.map h2)),(1,.int .i64 dy),(5,.int .i64 dm)]):=by
   refine cO λ_ kh dy dm h=>cN bP λ_ n10 cz dh=>aD cz λ_ n11 _ gG=>al ?_;refine aL h (λgI h=>?_) λgI h=>?_
   .refine aQ (n11 _ (inl (aD cz λ_ n14 dO _=>bc dO λ_ n15 h4 _ _=>?_)));obtain⟨U,c3,h⟩:=aA h;obtain⟨ah,dZ,h⟩:=aA h;refine gH c3 (acD U dy _ dZ) _ ?_;refine al ?_;refine aL h (λfz h=>?_) λfz h=>?_
    .exact aK h4 [.int .i64 (-1)]
    .refine aQ (n15 _ (n14 _ (inl (dt ?_))));exact n10 _ (inr ⟨_,bQ rfl,kh ah (i64.wrap (dm+1)) h⟩)
   .exact cK (gG 0 _ (dh 0 _ (fP _ (dc _ (inl (aK aj [.int .i64 dy]))))))
  exact c4 h λn h=>kg n (i64.wrap (J-(a0.length:Int))) 0 h
theorem acF (a0 r) (h:yQ a0=some r):aY ak 232 [kz a0] (fh r) []:=by
 refine bA [0] [.cell 2 151] Tryz.func232 Zd λbz aj bw=>al ?_;refine al ?_;refine al ?_;refine al ?_;exact aK aj [fh (ct.mk a0.Kind a0.Value)]
theorem acG (a0 r) (h:yR a0=some r):aY ak 174 [.slice (a0.map kz)] (.ag 2 (r.map fh)) []:=by
 refine bA [0] [.tmp 2] Tryz.func174 Ze λbz aj bw=>al ?_;obtain⟨qv,aW,h⟩:=aA h;refine qu (af (pF aW) @List.map_replicate.{0,0}) [(0,.slice (a0.map kz)),(3,.ag 2 ((List.replicate (Int.toNat (a0.length:Int)) (ct.mk 0 0)).map fh))] ?_;refine aD aj λ_ gy bU _=>ws [(0,.slice (a0.map kz)),(3,.ag 2 ((List.replicate (Int.toNat (a0.length:Int)) (ct.mk 0 0)).map fh)),(4,.int .i64 0)] ?_;refine bc bU λki _ c0 eb _=>?_;show a_ ak (.loop ?hL) _ _;have hU:∀n bt bp,GL a0 n bt bp=some r->cy ak ?hL ki (ay [(0,.slice (a0.map kz)),(3,.ag 2 (bt.map fh)),(4,.int .i64 bp)]):=by
  refine cO λ_ hV bt bp h=>cN c0 λ_ dc ei cG=>aD ei λ_ ja _ eD=>al ?_;refine aL h (λfQ h=>?_) λfQ h=>?_
  .refine aQ (ja _ (inl (aD ei λ_ n11 gJ _=>bc gJ λ_ n12 _ _ _=>?_)));obtain⟨U,dF,h⟩:=aA h;obtain⟨ah,ey,h⟩:=aA h;obtain⟨aO,ck,h⟩:=aA h;refine hM (bX [(0,.slice (a0.map kz)),(3,.ag 2 ((List.set bt (Int.toNat bp) ah).map fh)),(4,.int .i64 bp)] (λP ba=>?_) ?_)
   ·(try simp only[aP.down,simprocAttr,dF,ck,br ck,cM,cJ]);refine eB (acF U _ ey) (hK:= ?_);simp only[aP.down,simprocAttr,dF,ck,br ck,cM,cJ];exact bJ (af dF (af ck (af (br ck) @cM)))
   refine n12 _ (n11 _ (inl (wr [(0,.slice (a0.map kz)),(3,.ag 2 ((List.set bt (Int.toNat bp) ah).map fh)),(4,.int .i64 (i64.wrap (bp+1)))] ?_)));exact dc _ (inr ⟨_,bQ rfl,hV (List.set bt (Int.toNat bp) ah) (i64.wrap (bp+1)) h⟩)
  .exact cK (eD 0 _ (cG 0 _ (eb _ (gy _ (inl (aK aj [.ag 2 (bt.map fh)]))))))
 exact c4 h λn h=>hU n (List.replicate (Int.toNat (a0.length:Int)) (ct.mk 0 0)) 0 h
theorem acH (a0 r) (h:B2 a0=some r):aY ak 175 [.slice (a0.map jq)] (.ag 1 (r.map js)) []:=by
 refine bA [0] [.tmp 2] Tryz.func175 Zf λbz aj bw=>al ?_;obtain⟨qv,aW,h⟩:=aA h;refine qu (af (pF aW) @List.map_replicate.{0,0}) [(0,.slice (a0.map jq)),(3,.ag 1 (List.replicate (Int.toNat (a0.length:Int)) .bd))] ?_;refine aD aj λ_ gy bU _=>ws [(0,.slice (a0.map jq)),(3,.ag 1 (List.replicate (Int.toNat (a0.length:Int)) .bd)),(4,.int .i64 0)] ?_;refine bc bU λki _ c0 eb _=>?_;show a_ ak (.loop ?hL) _ _;have hU:∀n bt bp,GM a0 n bt bp=some r->cy ak ?hL ki (ay [(0,.slice (a0.map jq)),(3,.ag 1 (bt.map js)),(4,.int .i64 bp)]):=by
  refine cO λ_ hV bt bp h=>cN c0 λ_ dc ei cG=>aD ei λ_ ja _ eD=>al ?_;refine aL h (λfQ h=>?_) λfQ h=>?_
  .refine aQ (ja _ (inl (aD ei λ_ n11 gJ _=>bc gJ λ_ n12 _ _ _=>?_)));obtain⟨U,dF,h⟩:=aA h;obtain⟨ah,ey,h⟩:=aA h;obtain⟨aO,ck,h⟩:=aA h;refine hM (bX [(0,.slice (a0.map jq)),(3,.ag 1 ((List.set bt (Int.toNat bp) ah).map js)),(4,.int .i64 bp)] (λP ba=>?_) ?_)
   ·(try simp only[aP.down,simprocAttr,dF,ck,br ck,cM,cJ]);refine eB (acG U _ ey) (hK:= ?_);simp only[aP.down,simprocAttr,dF,ck,br ck,cM,cJ];exact bJ (af dF (af ck (af (br ck) @cM)))
   refine n12 _ (n11 _ (inl (wr [(0,.slice (a0.map jq)),(3,.ag 1 ((List.set bt (Int.toNat bp) ah).map js)),(4,.int .i64 (i64.wrap (bp+1)))] ?_)));exact dc _ (inr ⟨_,bQ rfl,hV (List.set bt (Int.toNat bp) ah) (i64.wrap (bp+1)) h⟩)
  .exact cK (eD 0 _ (cG 0 _ (eb _ (gy _ (inl (aK aj [.ag 1 (bt.map js)]))))))
 obtain⟨n,h⟩:=pE h;exact q3 (inr ⟨_,jW [] rfl (dB (t:=0) (d:=.slice (a0.map jq)) rfl (jY (t:=3) (d:=.ag 1 (List.replicate (Int.toNat (a0.length:Int)) .bd)) (bg:=.ag 1 ((List.replicate (Int.toNat (a0.length:Int)) []).map js)) rfl rfl (yf (u:=js) (z:=[]) (.kN _) _) (by decide) (dB (t:=4) (d:=.int .i64 0) rfl (jX)))),hU n (List.replicate (Int.toNat (a0.length:Int)) []) 0 h⟩)
theorem acI (a0 r) (h:yS a0=some r):aY ak 270 [iJ a0] (hC r) []:=by
 refine bA [0] [.cell 2 243] Tryz.func270 Zg λbz aj bw=>al ?_;refine al ?_;refine al ?_;refine al ?_;refine al ?_;obtain⟨U,bW,h⟩:=aA h;refine c9 (acH a0.cw _ bW) _ ?_;exact aK aj [hC (bT.mk a0.Kind a0.Number a0.Name U)]
theorem acJ (a0 r) (h:B3 a0=some r):aY ak 217 [.slice (a0.map iJ)] (.ag 4 (r.map hC)) []:=by
 refine bA [0] [.tmp 2] Tryz.func217 Zh λbz aj bw=>al ?_;obtain⟨qv,aW,h⟩:=aA h;refine qu (af (pF aW) @List.map_replicate.{0,0}) [(0,.slice (a0.map iJ)),(3,.ag 4 (List.replicate (Int.toNat (a0.length:Int)) (.agg [(.int .i64 0),(.int .i64 0),(.str []),.bd])))] ?_;refine aD aj λ_ gy bU _=>ws [(0,.slice (a0.map iJ)),(3,.ag 4 (List.replicate (Int.toNat (a0.length:Int)) (.agg [(.int .i64 0),(.int .i64 0),(.str []),.bd]))),(4,.int .i64 0)] ?_;refine bc bU λki _ c0 eb _=>?_;show a_ ak (.loop ?hL) _ _;have hU:∀n bt bp,GN a0 n bt bp=some r->cy ak ?hL ki (ay [(0,.slice (a0.map iJ)),(3,.ag 4 (bt.map hC)),(4,.int .i64 bp)]):=by
  refine cO λ_ hV bt bp h=>cN c0 λ_ dc ei cG=>aD ei λ_ ja _ eD=>al ?_;refine aL h (λfQ h=>?_) λfQ h=>?_
  .refine aQ (ja _ (inl (aD ei λ_ n11 gJ _=>bc gJ λ_ n12 _ _ _=>?_)));obtain⟨U,dF,h⟩:=aA h;obtain⟨ah,ey,h⟩:=aA h;obtain⟨aO,ck,h⟩:=aA h;refine hM (bX [(0,.slice (a0.map iJ)),(3,.ag 4 ((List.set bt (Int.toNat bp) ah).map hC)),(4,.int .i64 bp)] (λP ba=>?_) ?_)
   ·(try simp only[aP.down,simprocAttr,dF,ck,br ck,cM,cJ]);refine eB (acI U _ ey) (hK:= ?_);simp only[aP.down,simprocAttr,dF,ck,br ck,cM,cJ];exact bJ (af dF (af ck (af (br ck) @cM)))
   refine n12 _ (n11 _ (inl (wr [(0,.slice (a0.map iJ)),(3,.ag 4 ((List.set bt (Int.toNat bp) ah).map hC)),(4,.int .i64 (i64.wrap (bp+1)))] ?_)));exact dc _ (inr ⟨_,bQ rfl,hV (List.set bt (Int.toNat bp) ah) (i64.wrap (bp+1)) h⟩)
  .exact cK (eD 0 _ (cG 0 _ (eb _ (gy _ (inl (aK aj [.ag 4 (bt.map hC)]))))))
 obtain⟨n,h⟩:=pE h;exact q3 (inr ⟨_,jW [] rfl (dB (t:=0) (d:=.slice (a0.map iJ)) rfl (jY (t:=3) (d:=.ag 4 (List.replicate (Int.toNat (a0.length:Int)) (.agg [(.int .i64 0),(.int .i64 0),(.str []),.bd]))) (bg:=.ag 4 ((List.replicate (Int.toNat (a0.length:Int)) (bT.mk 0 0 ([]:alO) [])).map hC)) rfl rfl (yf (u:=hC) (z:=(bT.mk 0 0 ([]:alO) [])) (.agg (.cons (.refl _) (.cons (.refl _) (.cons (.refl _) (.cons (.kN _) (.nil)))))) _) (by decide) (dB (t:=4) (d:=.int .i64 0) rfl (jX)))),hU n (List.replicate (Int.toNat (a0.length:Int)) (bT.mk 0 0 ([]:alO) [])) 0 h⟩)
theorem acK (a0 r) (h:yT a0=some r):aY ak 151 [il a0] (fY r) []:=by
 refine bA [0] [.cell 2 192] Tryz.func151 Zi λbz aj bw=>al ?_;refine al ?_;refine al ?_;refine al ?_;obtain⟨U,b7,h⟩:=aA h;refine c9 (acJ a0.Body _ b7) _ ?_;exact aK aj [fY (bs.mk a0.Name a0.db U)]
theorem acL (a0 r) (h:B4 a0=some r):aY ak 76 [.slice (a0.map il)] (.ag 3 (r.map fY)) []:=by
 refine bA [0] [.tmp 2] Tryz.func76 Zj λbz aj bw=>al ?_;obtain⟨qv,aW,h⟩:=aA h;refine qu (af (pF aW) @List.map_replicate.{0,0}) [(0,.slice (a0.map il)),(3,.ag 3 (List.replicate (Int.toNat (a0.length:Int)) (.agg [(.str []),(.int .i64 0),.bd])))] ?_;refine aD aj λ_ gy bU _=>ws [(0,.slice (a0.map il)),(3,.ag 3 (List.replicate (Int.toNat (a0.length:Int)) (.agg [(.str []),(.int .i64 0),.bd]))),(4,.int .i64 0)] ?_;refine bc bU λki _ c0 eb _=>?_;show a_ ak (.loop ?hL) _ _;have hU:∀n bt bp,GO a0 n bt bp=some r->cy ak ?hL ki (ay [(0,.slice (a0.map il)),(3,.ag 3 (bt.map fY)),(4,.int .i64 bp)]):=by
  refine cO λ_ hV bt bp h=>cN c0 λ_ dc ei cG=>aD ei λ_ ja _ eD=>al ?_;refine aL h (λfQ h=>?_) λfQ h=>?_
  .refine aQ (ja _ (inl (aD ei λ_ n11 gJ _=>bc gJ λ_ n12 _ _ _=>?_)));obtain⟨U,dF,h⟩:=aA h;obtain⟨ah,ey,h⟩:=aA h;obtain⟨aO,ck,h⟩:=aA h;refine hM (bX [(0,.slice (a0.map il)),(3,.ag 3 ((List.set bt (Int.toNat bp) ah).map fY)),(4,.int .i64 bp)] (λP ba=>?_) ?_)
   ·(try simp only[aP.down,simprocAttr,dF,ck,br ck,cM,cJ]);refine eB (acK U _ ey) (hK:= ?_);simp only[aP.down,simprocAttr,dF,ck,br ck,cM,cJ];exact bJ (af dF (af ck (af (br ck) @cM)))
   refine n12 _ (n11 _ (inl (wr [(0,.slice (a0.map il)),(3,.ag 3 ((List.set bt (Int.toNat bp) ah).map fY)),(4,.int .i64 (i64.wrap (bp+1)))] ?_)));exact dc _ (inr ⟨_,bQ rfl,hV (List.set bt (Int.toNat bp) ah) (i64.wrap (bp+1)) h⟩)
  .exact cK (eD 0 _ (cG 0 _ (eb _ (gy _ (inl (aK aj [.ag 3 (bt.map fY)]))))))
 obtain⟨n,h⟩:=pE h;exact q3 (inr ⟨_,jW [] rfl (dB (t:=0) (d:=.slice (a0.map il)) rfl (jY (t:=3) (d:=.ag 3 (List.replicate (Int.toNat (a0.length:Int)) (.agg [(.str []),(.int .i64 0),.bd]))) (bg:=.ag 3 ((List.replicate (Int.toNat (a0.length:Int)) (bs.mk ([]:alO) 0 [])).map fY)) rfl rfl (yf (u:=fY) (z:=(bs.mk ([]:alO) 0 [])) (.agg (.cons (.refl _) (.cons (.refl _) (.cons (.kN _) (.nil))))) _) (by decide) (dB (t:=4) (d:=.int .i64 0) rfl (jX)))),hU n (List.replicate (Int.toNat (a0.length:Int)) (bs.mk ([]:alO) 0 [])) 0 h⟩)
theorem PI (a0 r) (h:yU a0=some r):aY ak 47 [.slice (a0.map bj)] (.ag 1 (r.map bj)) []:=by
 refine bA [0] [.tmp 2] Tryz.func47 z6 λbz aj bw=>al ?_;obtain⟨acM,aW,h⟩:=aA h;refine qu (af (pF aW) @List.map_replicate.{0,0}) [(0,.slice (a0.map bj)),(3,.ag 1 ((List.replicate (Int.toNat (a0.length:Int)) 0).map bj))] ?_;refine aD aj λ_ gy bU _=>ws [(0,.slice (a0.map bj)),(3,.ag 1 ((List.replicate (Int.toNat (a0.length:Int)) 0).map bj)),(4,.int .i64 0)] ?_;refine bc bU λki _ c0 eb _=>?_;show a_ ak (.loop ?hL) _ _;have hU:∀n bt bp,GP a0 n bt bp=some r->cy ak ?hL ki (ay [(0,.slice (a0.map bj)),(3,.ag 1 (bt.map bj)),(4,.int .i64 bp)]):=by
  refine cO λ_ hV bt bp h=>cN c0 λ_ dc ei cG=>aD ei λ_ ja _ eD=>al ?_;refine aL h (λfQ h=>?_) λfQ h=>?_
  .refine aQ (ja _ (inl (aD ei λ_ n11 gJ _=>bc gJ λ_ n12 _ _ _=>?_)));obtain⟨U,dF,h⟩:=aA h;obtain⟨ah,ey,h⟩:=aA h;refine hM (bX [(0,.slice (a0.map bj)),(3,.ag 1 ((List.set bt (Int.toNat bp) U).map bj)),(4,.int .i64 bp)] (λP ba=>?_) ?_)
   .simp only[aP.down,simprocAttr,dF,ey,br ey,cM,cJ];exact bJ (af dF (af ey (af (br ey) @cM)))
   refine n12 _ (n11 _ (inl (wr [(0,.slice (a0.map bj)),(3,.ag 1 ((List.set bt (Int.toNat bp) U).map bj)),(4,.int .i64 (i64.wrap (bp+1)))] ?_)));exact dc _ (inr ⟨_,bQ rfl,hV (List.set bt (Int.toNat bp) U) (i64.wrap (bp+1)) h⟩)
  .exact cK (eD 0 _ (cG 0 _ (eb _ (gy _ (inl (aK aj [.ag 1 (bt.map bj)]))))))
 exact c4 h λn h=>hU n (List.replicate (Int.toNat (a0.length:Int)) 0) 0 h
theorem acN (a0 r) (h:yV a0=some r):aY ak 152 [im a0] (gi r) []:=by
 refine bA [0] [.cell 2 194] Tryz.func152 Zk λbz aj bw=>al ?_;refine al ?_;refine al ?_;obtain⟨U,cC,h⟩:=aA h;refine c9 (PI a0.bL _ cC) _ ?_;exact aK aj [gi (dR.mk a0.b6 U)]
theorem acO (a0 r) (h:B5 a0=some r):aY ak 77 [.slice (a0.map im)] (.ag 2 (r.map gi)) []:=by
 refine bA [0] [.tmp 2] Tryz.func77 Zl λbz aj bw=>al ?_;obtain⟨qv,aW,h⟩:=aA h;refine qu (af (pF aW) @List.map_replicate.{0,0}) [(0,.slice (a0.map im)),(3,.ag 2 (List.replicate (Int.toNat (a0.length:Int)) (.agg [(.int .i64 0),.bd])))] ?_;refine aD aj λ_ gy bU _=>ws [(0,.slice (a0.map im)),(3,.ag 2 (List.replicate (Int.toNat (a0.length:Int)) (.agg [(.int .i64 0),.bd]))),(4,.int .i64 0)] ?_;refine bc bU λki _ c0 eb _=>?_;show a_ ak (.loop ?hL) _ _;have hU:∀n bt bp,GQ a0 n bt bp=some r->cy ak ?hL ki (ay [(0,.slice (a0.map im)),(3,.ag 2 (bt.map gi)),(4,.int .i64 bp)]):=by
  refine cO λ_ hV bt bp h=>cN c0 λ_ dc ei cG=>aD ei λ_ ja _ eD=>al ?_;refine aL h (λfQ h=>?_) λfQ h=>?_
  .refine aQ (ja _ (inl (aD ei λ_ n11 gJ _=>bc gJ λ_ n12 _ _ _=>?_)));obtain⟨U,dF,h⟩:=aA h;obtain⟨ah,ey,h⟩:=aA h;obtain⟨aO,ck,h⟩:=aA h;refine hM (bX [(0,.slice (a0.map im)),(3,.ag 2 ((List.set bt (Int.toNat bp) ah).map gi)),(4,.int .i64 bp)] (λP ba=>?_) ?_)
   ·(try simp only[aP.down,simprocAttr,dF,ck,br ck,cM,cJ]);refine eB (acN U _ ey) (hK:= ?_);simp only[aP.down,simprocAttr,dF,ck,br ck,cM,cJ];exact bJ (af dF (af ck (af (br ck) @cM)))
   refine n12 _ (n11 _ (inl (wr [(0,.slice (a0.map im)),(3,.ag 2 ((List.set bt (Int.toNat bp) ah).map gi)),(4,.int .i64 (i64.wrap (bp+1)))] ?_)));exact dc _ (inr ⟨_,bQ rfl,hV (List.set bt (Int.toNat bp) ah) (i64.wrap (bp+1)) h⟩)
  .exact cK (eD 0 _ (cG 0 _ (eb _ (gy _ (inl (aK aj [.ag 2 (bt.map gi)]))))))
 obtain⟨n,h⟩:=pE h;exact q3 (inr ⟨_,jW [] rfl (dB (t:=0) (d:=.slice (a0.map im)) rfl (jY (t:=3) (d:=.ag 2 (List.replicate (Int.toNat (a0.length:Int)) (.agg [(.int .i64 0),.bd]))) (bg:=.ag 2 ((List.replicate (Int.toNat (a0.length:Int)) (dR.mk 0 [])).map gi)) rfl rfl (yf (u:=gi) (z:=(dR.mk 0 [])) (.agg (.cons (.refl _) (.cons (.kN _) (.nil)))) _) (by decide) (dB (t:=4) (d:=.int .i64 0) rfl (jX)))),hU n (List.replicate (Int.toNat (a0.length:Int)) (dR.mk 0 [])) 0 h⟩)
theorem acP (a0 r) (h:yW a0=some r):aY ak 62 [h1 a0] (cq r) []:=by
 refine bA [0] [.cell 2 101] Tryz.func62 Zm λbz aj bw=>al ?_;refine al ?_;refine al ?_;refine al ?_;refine al ?_;exact aK aj [cq (cA.mk a0.Left a0.b_ a0.Result)]
theorem acQ (a0 r) (h:B6 a0=some r):aY ak 20 [.slice (a0.map h1)] (.ag 3 (r.map cq)) []:=by
 refine bA [0] [.tmp 2] Tryz.func20 Zn λbz aj bw=>al ?_;obtain⟨qv,aW,h⟩:=aA h;refine qu (af (pF aW) @List.map_replicate.{0,0}) [(0,.slice (a0.map h1)),(3,.ag 3 ((List.replicate (Int.toNat (a0.length:Int)) (cA.mk ([]:alO) ([]:alO) ([]:alO))).map cq))] ?_;refine aD aj λ_ gy bU _=>ws [(0,.slice (a0.map h1)),(3,.ag 3 ((List.replicate (Int.toNat (a0.length:Int)) (cA.mk ([]:alO) ([]:alO) ([]:alO))).map cq)),(4,.int .i64 0)] ?_;refine bc bU λki _ c0 eb _=>?_;show a_ ak (.loop ?hL) _ _;have hU:∀n bt bp,GR a0 n bt bp=some r->cy ak ?hL ki (ay [(0,.slice (a0.map h1)),(3,.ag 3 (bt.map cq)),(4,.int .i64 bp)]):=by
  refine cO λ_ hV bt bp h=>cN c0 λ_ dc ei cG=>aD ei λ_ ja _ eD=>al ?_;refine aL h (λfQ h=>?_) λfQ h=>?_
  .refine aQ (ja _ (inl (aD ei λ_ n11 gJ _=>bc gJ λ_ n12 _ _ _=>?_)));obtain⟨U,dF,h⟩:=aA h;obtain⟨ah,ey,h⟩:=aA h;obtain⟨aO,ck,h⟩:=aA h;refine hM (bX [(0,.slice (a0.map h1)),(3,.ag 3 ((List.set bt (Int.toNat bp) ah).map cq)),(4,.int .i64 bp)] (λP ba=>?_) ?_)
   ·(try simp only[aP.down,simprocAttr,dF,ck,br ck,cM,cJ]);refine eB (acP U _ ey) (hK:= ?_);simp only[aP.down,simprocAttr,dF,ck,br ck,cM,cJ];exact bJ (af dF (af ck (af (br ck) @cM)))
   refine n12 _ (n11 _ (inl (wr [(0,.slice (a0.map h1)),(3,.ag 3 ((List.set bt (Int.toNat bp) ah).map cq)),(4,.int .i64 (i64.wrap (bp+1)))] ?_)));exact dc _ (inr ⟨_,bQ rfl,hV (List.set bt (Int.toNat bp) ah) (i64.wrap (bp+1)) h⟩)
  .exact cK (eD 0 _ (cG 0 _ (eb _ (gy _ (inl (aK aj [.ag 3 (bt.map cq)]))))))
 exact c4 h λn h=>hU n (List.replicate (Int.toNat (a0.length:Int)) (cA.mk ([]:alO) ([]:alO) ([]:alO))) 0 h
theorem PJ (a0 r) (h:yX a0=some r):aY ak 78 [.slice (a0.map cd)] (.ag 1 (r.map cd)) []:=by
 refine bA [0] [.tmp 2] Tryz.func78 Zo λbz aj bw=>al ?_;obtain⟨acM,aW,h⟩:=aA h;refine qu (af (pF aW) @List.map_replicate.{0,0}) [(0,.slice (a0.map cd)),(3,.ag 1 ((List.replicate (Int.toNat (a0.length:Int)) ([]:alO)).map cd))] ?_;refine aD aj λ_ gy bU _=>ws [(0,.slice (a0.map cd)),(3,.ag 1 ((List.replicate (Int.toNat (a0.length:Int)) ([]:alO)).map cd)),(4,.int .i64 0)] ?_;refine bc bU λki _ c0 eb _=>?_;show a_ ak (.loop ?hL) _ _;have hU:∀n bt bp,GS a0 n bt bp=some r->cy ak ?hL ki (ay [(0,.slice (a0.map cd)),(3,.ag 1 (bt.map cd)),(4,.int .i64 bp)]):=by
  refine cO λ_ hV bt bp h=>cN c0 λ_ dc ei cG=>aD ei λ_ ja _ eD=>al ?_;refine aL h (λfQ h=>?_) λfQ h=>?_
  .refine aQ (ja _ (inl (aD ei λ_ n11 gJ _=>bc gJ λ_ n12 _ _ _=>?_)));obtain⟨U,dF,h⟩:=aA h;obtain⟨ah,ey,h⟩:=aA h;refine hM (bX [(0,.slice (a0.map cd)),(3,.ag 1 ((List.set bt (Int.toNat bp) U).map cd)),(4,.int .i64 bp)] (λP ba=>?_) ?_)
   .simp only[aP.down,simprocAttr,dF,ey,br ey,cM,cJ];exact bJ (af dF (af ey (af (br ey) @cM)))
   refine n12 _ (n11 _ (inl (wr [(0,.slice (a0.map cd)),(3,.ag 1 ((List.set bt (Int.toNat bp) U).map cd)),(4,.int .i64 (i64.wrap (bp+1)))] ?_)));exact dc _ (inr ⟨_,bQ rfl,hV (List.set bt (Int.toNat bp) U) (i64.wrap (bp+1)) h⟩)
  .exact cK (eD 0 _ (cG 0 _ (eb _ (gy _ (inl (aK aj [.ag 1 (bt.map cd)]))))))
 exact c4 h λn h=>hU n (List.replicate (Int.toNat (a0.length:Int)) ([]:alO)) 0 h
theorem Dx (a0 r) (h:sr a0=some r):aY ak 29 [lb a0] (pe r) []:=by
 refine bA [0] [.cell 2 60] Tryz.func29 Zp λbz aj bw=>al ?_;refine al ?_;obtain⟨U,cm,h⟩:=aA h;refine c9 (acL a0.dU _ cm) _ ?_;obtain⟨ah,b7,h⟩:=aA h;refine c9 (acO a0.cU _ b7) _ ?_;obtain⟨aO,hy,h⟩:=aA h;refine c9 (acQ a0.gV _ hy) _ ?_;obtain⟨bx,lu,h⟩:=aA h;refine c9 (PJ a0.gP _ lu) _ ?_;obtain⟨a7,df,h⟩:=aA h;refine c9 (PJ a0.gQ _ df) _ ?_;exact aK aj [pe (e1.mk U ah aO bx a7)]
theorem acR (a0 r) (h:yY a0=some r):aY ak 79 [h2 a0] (b0 r) []:=by
 refine bA [0] [.cell 2 119] Tryz.func79 Zq λbz aj bw=>al ?_;refine al ?_;refine al ?_;refine al ?_;obtain⟨U,b7,h⟩:=aA h;refine c9 (PI a0.bL _ b7) _ ?_;exact aK aj [b0 (aT.mk a0.b6 a0.Part U)]
theorem Dy (a0 r) (h:tK a0=some r):aY ak 30 [.slice (a0.map h2)] (.ag 3 (r.map b0)) []:=by
 refine bA [0] [.tmp 2] Tryz.func30 Zr λbz aj bw=>al ?_;obtain⟨qv,aW,h⟩:=aA h;refine qu (af (pF aW) @List.map_replicate.{0,0}) [(0,.slice (a0.map h2)),(3,.ag 3 (List.replicate (Int.toNat (a0.length:Int)) (.agg [(.int .i64 0),(.int .i64 0),.bd])))] ?_;refine aD aj λ_ gy bU _=>ws [(0,.slice (a0.map h2)),(3,.ag 3 (List.replicate (Int.toNat (a0.length:Int)) (.agg [(.int .i64 0),(.int .i64 0),.bd]))),(4,.int .i64 0)] ?_;refine bc bU λki _ c0 eb _=>?_;show a_ ak (.loop ?hL) _ _;have hU:∀n bt bp,GU a0 n bt bp=some r->cy ak ?hL ki (ay [(0,.slice (a0.map h2)),(3,.ag 3 (bt.map b0)),(4,.int .i64 bp)]):=by
  refine cO λ_ hV bt bp h=>cN c0 λ_ dc ei cG=>aD ei λ_ ja _ eD=>al ?_;refine aL h (λfQ h=>?_) λfQ h=>?_
  .refine aQ (ja _ (inl (aD ei λ_ n11 gJ _=>bc gJ λ_ n12 _ _ _=>?_)));obtain⟨U,dF,h⟩:=aA h;obtain⟨ah,ey,h⟩:=aA h;obtain⟨aO,ck,h⟩:=aA h;refine hM (bX [(0,.slice (a0.map h2)),(3,.ag 3 ((List.set bt (Int.toNat bp) ah).map b0)),(4,.int .i64 bp)] (λP ba=>?_) ?_)
   ·(try simp only[aP.down,simprocAttr,dF,ck,br ck,cM,cJ]);refine eB (acR U _ ey) (hK:= ?_);simp only[aP.down,simprocAttr,dF,ck,br ck,cM,cJ];exact bJ (af dF (af ck (af (br ck) @cM)))
   refine n12 _ (n11 _ (inl (wr [(0,.slice (a0.map h2)),(3,.ag 3 ((List.set bt (Int.toNat bp) ah).map b0)),(4,.int .i64 (i64.wrap (bp+1)))] ?_)));exact dc _ (inr ⟨_,bQ rfl,hV (List.set bt (Int.toNat bp) ah) (i64.wrap (bp+1)) h⟩)
  .exact cK (eD 0 _ (cG 0 _ (eb _ (gy _ (inl (aK aj [.ag 3 (bt.map b0)]))))))
 obtain⟨n,h⟩:=pE h;exact q3 (inr ⟨_,jW [] rfl (dB (t:=0) (d:=.slice (a0.map h2)) rfl (jY (t:=3) (d:=.ag 3 (List.replicate (Int.toNat (a0.length:Int)) (.agg [(.int .i64 0),(.int .i64 0),.bd]))) (bg:=.ag 3 ((List.replicate (Int.toNat (a0.length:Int)) (aT.mk 0 0 [])).map b0)) rfl rfl (yf (u:=b0) (z:=(aT.mk 0 0 [])) (.agg (.cons (.refl _) (.cons (.refl _) (.cons (.kN _) (.nil))))) _) (by decide) (dB (t:=4) (d:=.int .i64 0) rfl (jX)))),hU n (List.replicate (Int.toNat (a0.length:Int)) (aT.mk 0 0 [])) 0 h⟩)
theorem I3 (a0 r) (h:yZ a0=some r):aY ak 242 [.int .u8 (a0.toNat:Int)] (.bool r) []:=by
 refine bA [0] [.tmp 2] Tryz.func242 Zs λbz aj bw=>al ?_;refine lL (decide (97<=(a0.toNat:Int))) [(2,.bool ((decide (97<=(a0.toNat:Int)))&&(decide ((a0.toNat:Int)<=122))))] ?_;exact dY aj [.bool ((decide (97<=(a0.toNat:Int)))&&(decide ((a0.toNat:Int)<=122)))]
theorem acS (a0 r) (h:GV a0=some r):aY ak 243 [.int .u8 (a0.toNat:Int)] (.bool r) []:=by
 refine bA [0] [.tmp 2] Tryz.func243 Zt λbz aj bw=>al ?_;refine lL (decide (48<=(a0.toNat:Int))) [(2,.bool ((decide (48<=(a0.toNat:Int)))&&(decide ((a0.toNat:Int)<=57))))] ?_;exact dY aj [.bool ((decide (48<=(a0.toNat:Int)))&&(decide ((a0.toNat:Int)<=57)))]
theorem Aa (a0 r) (h:vt a0=some r):aY ak 189 [.str a0] (.bool r) []:=by
 refine bA [0] [.tmp 2] Tryz.func189 Zu λbz aj bw=>al ?_;refine aD aj λ_ bB aZ ah=>?_;rcases ez h with⟨bG,h⟩|⟨bG,h⟩
 .refine e0 bG _ ?_;refine iz rfl ?_;exact aK aZ [.bool false]
 .rcases ez h with⟨eb,h⟩|⟨eb,h⟩
  .refine e0 (af bG eb) _ ?_;refine iz rfl ?_;exact aK aZ [.bool false]
  .obtain⟨U,hy,h⟩:=aA h;obtain⟨ah,jx,h⟩:=aA h;refine gH (af bG (af eb hy)) (I3 U _ jx) _ ?_;refine aL h (λfQ h=>?_) λfQ h=>?_
   .exact aK aZ [.bool false]
   .refine aQ (bB _ (inl (aD aj λ_ n12 lf _=>al ?_)));refine bc lf λI4 _ dO iq _=>?_;show a_ ak (.loop ?gz) _ _;have gf:∀n dn,y0 a0 n dn=some r->cy ak ?gz I4 (ay [(0,.str a0),(3,.int .i64 dn)]):=by
     refine cO λ_ fR dn h=>cN dO λ_ n15 h4 oq=>aD h4 λ_ n16 _ rj=>al ?_;refine aL h (λiK h=>?_) λiK h=>?_
     .refine aQ (n16 _ (inl (aD h4 λ_ n19 Ab _=>bc Ab λ_ n20 uc _ _=>?_)));obtain⟨aO,hk,h⟩:=aA h;obtain⟨bx,lM,h⟩:=aA h;rcases ez h with⟨hD,h⟩|⟨hD,h⟩
      .obtain⟨a7,jE,h⟩:=aA h;refine da (bX [(0,.str a0),(3,.int .i64 dn),(34,.bool (!a7))] (λP ba=>?_) ?_)
       ·(try simp only[aP.down,simprocAttr,hk,(gd hD)]);refine eB (I3 aO _ lM) (hK:= ?_);simp only[aP.down,simprocAttr,hk,(gd hD)];refine gU (acS aO _ jE) (hK:= ?_);simp only[aP.down,simprocAttr,hk,(gd hD)];exact bJ (af hk (gd hD))
       refine aL h (λh5 h=>?_) λh5 h=>?_
       .exact aK uc [.bool false]
       .refine aQ (n20 _ (n19 _ (inl (dt ?_))));exact n15 _ (inr ⟨_,bQ rfl,fR (i64.wrap (dn+1)) h⟩)
      .refine gH (af hk (bS hD)) (I3 aO _ lM) _ ?_;refine p4 rfl ?_;refine aQ (n20 _ (n19 _ (inl (dt ?_))));exact n15 _ (inr ⟨_,bQ rfl,fR (i64.wrap (dn+1)) h⟩)
     .exact cK (rj 0 _ (oq 0 _ (iq _ (n12 _ (inl (aK aj [.bool true]))))))
    exact c4 h λn h=>gf n 0 h
theorem na (a0 J a2 r) (h:kX a0 J a2=some r):aY ak 91 [.int .i64 a0,.int .i64 J,.int .i64 a2] (.bool r) []:=by
 refine bA [0,1,2] [.tmp 6] Tryz.func91 Zv λbz aj bw=>al ?_;refine lL (decide (J<=a0)) [(6,.bool ((decide (J<=a0))&&(decide (a0<=a2))))] ?_;exact dY aj [.bool ((decide (J<=a0))&&(decide (a0<=a2)))]
theorem PK (a0 r) (h:y2 a0=some r):aY ak 301 [.ref (dA a0)] (.int .i64 r) []:=by
 refine bA [0] [.tmp 2] Tryz.func301 Zw λbz aj bw=>al ?_;refine aD aj λ_ bB aZ _=>al ?_;refine bc aZ λdI gy bU _ _=>?_;show a_ ak (.seq _ ?i_) _ _;have ud:∀ij,y1 a0 ij=some r->a_ ak ?i_ dI (ay [(6,.int .i64 a0.Kind),(7,.bool ij)]):=by
  intro ij h;refine aL h (λeb h=>?_) λeb h=>?_
  .exact aK bU [.int .i64 1]
  .refine al ?_;refine aL h (λfP h=>?_) λfP h=>?_
   .exact aK bU [.int .i64 2]
   .exact aQ (gy _ (bB _ (inl (aK aj [.int .i64 0]))))
 refine aD bU λ_ dd _ _=>al ?_;refine aL h (λgI h=>?_) λgI h=>?_
 .simp only[gI,z7.down];exact aQ (dd _ (inr ⟨_,bQ rfl,ud true h⟩))
 .refine al ?_;refine aL h (λeF h=>?_) λeF h=>?_
  .simp only[eF,z7.down];exact aQ (dd _ (inr ⟨_,bQ rfl,ud true h⟩))
  .refine dt ?_;exact dd _ (inr ⟨_,bQ rfl,ud (a0.Kind==4) h⟩)
theorem acT (a0 r) (h:B7 a0=some r):aY ak 299 [.slice (a0.map dA)] (.bool r) []:=by
 refine bA [0] [.tmp 2] Tryz.func299 Zx λbz aj bw=>al ?_;refine aD aj λ_ bB aZ ah=>lL ((a0.length:Int)==0) [(0,.slice (a0.map dA)),(12,.bool (((a0.length:Int)==0)||(decide (20<(a0.length:Int)))))] ?_;refine aL h (λbG h=>?_) λbG h=>?_
 .exact aK aZ [.bool false]
 .refine aQ (bB _ (inl (al ?_)));refine aD aj λ_ dc ei _=>al ?_;refine bc ei λkf _ bP fP _=>?_;show a_ ak (.loop ?i_) _ _;have kg:∀n o5 qc,vu a0 n o5 qc=some r->cy ak ?i_ kf (ay [(0,.slice (a0.map dA)),(3,.int .i64 o5),(4,.int .i64 qc)]):=by
   refine cO λ_ kh o5 qc h=>cN bP λ_ n10 cz dh=>aD cz λ_ n11 _ gG=>al ?_;refine aL h (λgI h=>?_) λgI h=>?_
   .refine aQ (n11 _ (inl (aD cz λ_ n14 dO _=>bc dO λ_ n15 h4 _ _=>aD h4 λ_ n16 mC _=>al ?_)));refine aL h (λiK h=>?_) λiK h=>?_
    .exact aK mC [.bool false]
    .refine aQ (n16 _ (inl ?_));obtain⟨U,l7,h⟩:=aA h;obtain⟨ah,hk,h⟩:=aA h;refine IU l7 (PK U _ hk) _ ?_;refine n15 _ (n14 _ (inl (dt ?_)));exact n10 _ (inr ⟨_,bQ rfl,kh (i64.wrap (o5+(i64.wrap (ah-1)))) (i64.wrap (qc+1)) h⟩)
   .exact cK (gG 0 _ (dh 0 _ (fP _ (dc _ (inl (aK aj [.bool (o5==0)]))))))
  exact c4 h λn h=>kg n 1 0 h
theorem acU (a0 r) (h:GY a0=some r):aY ak 310 [.ref (dA a0)] (.bool r) []:=by
 refine bA [0] [.tmp 2] Tryz.func310 Zy λbz aj bw=>al ?_;refine aD aj λ_ bB aZ _=>al ?_;refine bc aZ λdI gy bU _ _=>?_;show a_ ak (.seq _ ?acV) _ _;have wF:∀y3,B8 a0 y3=some r->a_ ak ?acV dI (ay [(0,.ref (dA a0)),(6,.int .i64 a0.Kind),(7,.bool y3)]):=by
  intro y3 h;refine aL h (λeb h=>?_) λeb h=>?_
  .refine da (bX [(2,.bool (((a0.Number==0)&&(a0.Name==([]:alO)))&&((a0.cw.length:Int)==0)))] (λP ba=>?_) ?_)
   ·(rcases Bool.eq_false_or_eq_true (a0.Number==0)with sE|sE)<;>(rcases Bool.eq_false_or_eq_true (a0.Name==([]:alO))with ou|ou)<;>
     (simp only[aP.down,simprocAttr,sE,ou]
      exact bJ (af sE ou))
   exact dY bU [.bool (((a0.Number==0)&&(a0.Name==([]:alO)))&&((a0.cw.length:Int)==0))]
  .refine al ?_;refine aL h (λmB h=>?_) λmB h=>?_
   .exact aK bU [.bool (a0.Number==0)]
   .refine al ?_;refine aL h (λiq h=>?_) λiq h=>?_
    .refine lL (a0.Number==0) [(2,.bool ((a0.Number==0)&&(a0.Name==([]:alO))))] ?_;exact dY bU [.bool ((a0.Number==0)&&(a0.Name==([]:alO)))]
    .refine al ?_;refine aL h (λkB h=>?_) λkB h=>?_
     .refine lL (a0.Name==([]:alO)) [(2,.bool ((a0.Name==([]:alO))&&((a0.cw.length:Int)==0)))] ?_;exact dY bU [.bool ((a0.Name==([]:alO))&&((a0.cw.length:Int)==0))]
     .refine al ?_;refine aL h (λfz h=>?_) λfz h=>?_
      .exact aK bU [.bool (a0.Name==([]:alO))]
      .exact aQ (gy _ (bB _ (inl (aK aj [.bool false]))))
 refine aD bU λ_ dd _ _=>al ?_;refine aL h (λhD h=>?_) λhD h=>?_
 .simp only[hD,z7.down];exact aQ (dd _ (inr ⟨_,bQ rfl,wF true h⟩))
 .refine dt ?_;exact dd _ (inr ⟨_,bQ rfl,wF (a0.Kind==2) h⟩)
theorem acW (a0 J r) (h:B9 a0 J=some r):aY ak 267 [.slice (a0.map dA),.int .i64 J] (.int .i64 r) []:=by
 refine bA [0] [.tmp 4] Tryz.func267 Zz λbz aj bw=>al ?_;refine al ?_;refine aD aj λ_ ff cZ _=>bc cZ λdI _ bU bG _=>?_;show a_ ak (.loop ?dN) _ _;have dV:∀n aU aG,vv a0 n aU aG=some r->cy ak ?dN dI (ay [(0,.slice (a0.map dA)),(1,.int .i64 aU),(5,.int .i64 aG)]):=by
  refine cO λ_ dP aU aG h=>cN bU λ_ dd b9 a7=>aD b9 λ_ n6 _ bM=>al ?_;refine aL h (λbY h=>?_) λbY h=>?_
  .refine aQ (n6 _ (inl (bc b9 λ_ cf _ _ _=>?_)));obtain⟨U,lW,h⟩:=aA h;obtain⟨ah,df,h⟩:=aA h;refine gH lW (PK U _ df) _ ?_;refine dt ?_;exact cf _ (dd _ (inr ⟨_,bQ rfl,dP (i64.wrap (aU+1)) (i64.wrap (aG+(i64.wrap (ah-1)))) h⟩))
  .exact cK (bM 0 _ (a7 0 _ (bG _ (ff _ (inl (aK aj [.int .i64 aU]))))))
 exact c4 h λn h=>dV n J 1 h
theorem I5 (a0 J r) (h:ss a0 J=some r):aY ak 214 [.ref (b4 a0),.int .i64 J] (.int .i64 r) []:=by
 refine bA [0,1] [.tmp 4] Tryz.func214 ZA λbz aj bw=>al ?_;refine al ?_;refine aD aj λ_ ff cZ _=>al ?_;refine bc cZ λnI _ b9 cI _=>?_;show a_ ak (.loop ?hL) _ _;have hU:∀n fW ik,tL a0 J n fW ik=some r->cy ak ?hL nI (ay [(0,.ref (b4 a0)),(1,.int .i64 J),(5,.int .i64 fW),(6,.int .i64 ik)]):=by
  refine cO λm8 hV fW ik h=>cN b9 λki n6 c0 bM=>aD c0 λ_ dc _ cG=>al ?_;refine aL h (λfP h=>?_) λfP h=>?_
  .refine aQ (dc _ (inl ?_));show a_ ak (.seq _ ?II) _ _;have I6:∀vw vx,y4 (tL a0 J m8) a0 J vw vx=some r->a_ ak ?II ki (ay [(0,.ref (b4 a0)),(1,.int .i64 J),(5,.int .i64 vw),(6,.int .i64 vx)]):=by
    intro vw vx h;refine dt ?_;exact n6 _ (inr ⟨_,bQ rfl,hV vw (i64.wrap (vx+1)) h⟩)
   refine aD c0 λ_ n10 cz _=>bc cz λ_ n12 _ _ _=>?_;obtain⟨U,dF,h⟩:=aA h;rcases ez h with⟨eF,h⟩|⟨eF,h⟩
   .obtain⟨ah,ck,h⟩:=aA h;refine gH (af dF eF) (acW a0.Body ik _ ck) _ ?_;refine aL h (λkB h=>?_) λkB h=>?_
    .refine dt ?_;exact n12 _ (n10 _ (inr ⟨_,bQ rfl,I6 (i64.wrap (fW+1)) ik h⟩))
    .exact aQ (n12 _ (n10 _ (inr ⟨_,bQ rfl,I6 fW ik h⟩)))
   .refine e0 (af dF eF) _ ?_;refine p4 rfl ?_;exact aQ (n12 _ (n10 _ (inr ⟨_,bQ rfl,I6 fW ik h⟩)))
  .exact cK (cG 0 _ (bM 0 _ (cI _ (ff _ (inl (aK aj [.int .i64 fW]))))))
 exact c4 h λn h=>hU n a0.db 0 h
theorem acX (a0 J r) (h:B_ a0 J=some r):aY ak 227 [.ref (fh a0),.int .i64 J] (.bool r) []:=by
 refine bA [0,1] [.tmp 4] Tryz.func227 ZB λbz aj bw=>al ?_;refine aD aj λ_ bB aZ ah=>al ?_;refine bc aZ λ_ gy bU _ _=>al ?_;refine aL h (λeb h=>?_) λeb h=>?_
 .obtain⟨U,hy,h⟩:=aA h;refine c9 (na a0.Value 0 63 _ hy) _ ?_;exact dY bU [.bool U]
 .refine al ?_;refine aL h (λfQ h=>?_) λfQ h=>?_
  .obtain⟨ah,df,h⟩:=aA h;refine c9 (na a0.Value 0 (i64.wrap (J-1)) _ df) _ ?_;exact dY bU [.bool ah]
  .refine al ?_;refine aL h (λiq h=>?_) λiq h=>?_
   .obtain⟨aO,ck,h⟩:=aA h;refine c9 (na a0.Value 0 8 _ ck) _ ?_;exact dY bU [.bool aO]
   .refine al ?_;refine aL h (λiK h=>?_) λiK h=>?_
    .exact aK bU [.bool (a0.Value==0)]
    .exact aQ (gy _ (bB _ (inl (aK aj [.bool false]))))
theorem acY (a0 r) (h:G1 a0=some r):aY ak 228 [.ref (fh a0)] (.int .i64 r) []:=by
 refine bA [0] [.tmp 2] Tryz.func228 ZC λbz aj bw=>al ?_;refine aD aj λ_ bB aZ _=>al ?_;refine bc aZ λ_ gy bU _ _=>al ?_;refine aL h (λeb h=>?_) λeb h=>?_
 .exact aK bU [.int .i64 2]
 .refine al ?_;refine aL h (λfP h=>?_) λfP h=>?_
  .exact aK bU [.int .i64 1]
  .exact aQ (gy _ (bB _ (inl (aK aj [.int .i64 0]))))
theorem acZ (a0 J a2 r) (h:Ca a0 J a2=some r):aY ak 170 [.slice (a0.map fh),.int .i64 J,.int .i64 a2] (.bool r) []:=by
 refine bA [0,1,2] [.tmp 6] Tryz.func170 ZD λbz aj bw=>al ?_;refine aD aj λ_ bB aZ ah=>al ?_;refine aL h (λbG h=>?_) λbG h=>?_
 .exact aK aZ [.bool false]
 .refine aQ (bB _ (inl (al ?_)));refine aD aj λ_ dc ei _=>al ?_;refine bc ei λkf _ bP fP _=>?_;show a_ ak (.loop ?i_) _ _;have kg:∀n ij qd,vy a0 J n ij qd=some r->cy ak ?i_ kf (ay [(0,.slice (a0.map fh)),(1,.int .i64 J),(7,.int .i64 ij),(8,.int .i64 qd)]):=by
   refine cO λ_ kh ij qd h=>cN bP λ_ n10 cz dh=>aD cz λ_ n11 _ gG=>al ?_;refine aL h (λgI h=>?_) λgI h=>?_
   .refine aQ (n11 _ (inl (aD cz λ_ n14 dO _=>bc dO λ_ n15 h4 _ _=>aD h4 λ_ n16 mC _=>?_)));rcases ez h with⟨iK,h⟩|⟨iK,h⟩
    .refine e0 iK _ ?_;refine iz rfl ?_;exact aK mC [.bool false]
    .obtain⟨U,iS,h⟩:=aA h;obtain⟨ah,l7,h⟩:=aA h;refine gH (af iK iS) (acX U J _ l7) _ ?_;refine aL h (λrm h=>?_) λrm h=>?_
     .exact aK mC [.bool false]
     .refine aQ (n16 _ (inl ?_));obtain⟨aO,jE,h⟩:=aA h;refine IU iS (acY U _ jE) _ ?_;refine n15 _ (n14 _ (inl (dt ?_)));exact n10 _ (inr ⟨_,bQ rfl,kh (i64.wrap (ij+(i64.wrap (aO-1)))) (i64.wrap (qd+1)) h⟩)
   .exact cK (gG 0 _ (dh 0 _ (fP _ (dc _ (inl (aK aj [.bool (ij==0)]))))))
  exact c4 h λn h=>kg n 1 0 h
theorem ac0 (a0 J a2 r) (h:y8 a0 J a2=some r):aY ak 300 [.slice (a0.map b4),.ref (b4 J),.int .i64 a2] (.int .i64 r) []:=by
 refine bA [0,1,2] [.tmp 6] Tryz.func300 ZI λbz aj bw=>al ?_;obtain⟨U,aW,h⟩:=aA h;refine e0 aW _ ?_;refine aD aj λ_ gy bU bx=>?_;obtain⟨ah,b7,h⟩:=aA h;refine da (bX [(0,.slice (a0.map b4)),(1,.ref (b4 J)),(2,.int .i64 a2),(7,.bf (dA U)),(19,.bool (!ah))] (λP ba=>?_) ?_)
 .refine eB (acU U _ b7) rfl rfl (by simp only[aP.down,simprocAttr,hN,hP,hQ,dr, @cr _ jr jr (λ_=>ID _)]<;>rfl) rfl (inr (by rfl)) ?_;simp only[aP.down,simprocAttr];exact bJ trivial
 refine aL h (λqW h=>?_) λqW h=>?_
 .exact aK bU [.int .i64 2]
 .refine aQ (gy _ (inl (aD aj λkf cf bP dT=>?_)));have PL:∀y7,Cb a0 J a2 U y7=some r->a_ ak O5 kf (ay [(0,.slice (a0.map b4)),(1,.ref (b4 J)),(2,.int .i64 a2),(7,.bf (dA U)),(28,.bool y7)]):=by
   intro y7 h;refine aL h (λfQ h=>?_) λfQ h=>?_
   .exact aK bP [.int .i64 3]
   .refine aQ (cf _ (inl (aD aj λue n12 lf _=>?_)));have Ac:∀y6,tO a0 J a2 U y6=some r->a_ ak O6 ue (ay [(0,.slice (a0.map b4)),(1,.ref (b4 J)),(2,.int .i64 a2),(7,.bf (dA U)),(51,.bool y6)]):=by
     intro y6 h;refine aL h (λgI h=>?_) λgI h=>?_
     .exact aK lf [.int .i64 4]
     .refine aQ (n12 _ (inl (al ?_)));have Dz:tN J a2 U=some r->a_ ak O9 bz (ay [(1,.ref (b4 J)),(2,.int .i64 a2),(7,.bf (dA U)),(8,.int .i64 (U.cw.length:Int))]):=by
       intro h;refine aD aj λac1 n17 j1 _=>?_;have I7:∀y5,vz J a2 U y5=some r->a_ ak O7 ac1 (ay [(1,.ref (b4 J)),(2,.int .i64 a2),(7,.bf (dA U)),(8,.int .i64 (U.cw.length:Int)),(102,.bool y5)]):=by
        intro y5 h;refine aL h (λiK h=>?_) λiK h=>?_
        .exact aK j1 [.int .i64 6]
        .refine aQ (n17 _ (inl ?_));obtain⟨aO,l7,h⟩:=aA h;refine c9 (I5 J a2 _ l7) _ ?_;refine aD aj λ_ n22 l8 _=>lL (U.Kind==4) [(7,.bf (dA U)),(8,.int .i64 (U.cw.length:Int)),(9,.int .i64 aO),(112,.bool ((U.Kind==4)&&(decide (6<=aO))))] ?_;refine aL h (λhD h=>?_) λhD h=>?_
         .exact aK l8 [.int .i64 7]
         .refine aQ (n22 _ (inl (aD aj λ_ n26 uf _=>al ?_)));refine bc uf λac2 _ I2 iL _=>?_;have ac3:∀n qe qf,tM U n qe qf=some r->cy ak O8 ac2 (ay [(7,.bf (dA U)),(8,.int .i64 (U.cw.length:Int)),(9,.int .i64 qe),(10,.int .i64 qf)]):=by
           refine cO λ_ ac4 qe qf h=>cN I2 λ_ n29 DA ac5=>aD DA λ_ n30 _ ac6=>al ?_;refine aL h (λac7 h=>?_) λac7 h=>?_
           .refine aQ (n30 _ (inl (aD DA λ_ n33 I8 _=>bc I8 λ_ n34 DB _ _=>?_)));obtain⟨bx,ac8,h⟩:=aA h;obtain⟨a7,ac9,h⟩:=aA h;refine gH ac8 (acZ bx qe 15 _ ac9) _ ?_;refine aL h (λI9 h=>?_) λI9 h=>?_
            .exact aK DB [.int .i64 8]
            .refine aQ (n34 _ (n33 _ (inl (dt ?_))));exact n29 _ (inr ⟨_,bQ rfl,ac4 qe (i64.wrap (qf+1)) h⟩)
           .exact cK (ac6 1 _ (ac5 1 _ (iL _ (n26 _ (inl (aK aj [.int .i64 0]))))))
          exact c4 h λn h=>ac3 n aO 0 h
       rcases ez h with⟨ug,h⟩|⟨ug,h⟩
       .rcases ez h with⟨Ad,h⟩|⟨Ad,h⟩
        .refine ji (bX (K:=dK _) [(1,.ref (b4 J)),(2,.int .i64 a2),(7,.bf (dA U)),(8,.int .i64 (U.cw.length:Int)),(102,.bool true)] (λP ba=>?_) ?_)
         .simp only[aP.down,simprocAttr,ug,Ad];exact bJ (af ug Ad)
         exact inr ⟨_,bQ rfl,I7 true h⟩
        .obtain⟨bM,nb,h⟩:=aA h;refine ji (bX (K:=dK _) [(1,.ref (b4 J)),(2,.int .i64 a2),(7,.bf (dA U)),(8,.int .i64 (U.cw.length:Int)),(102,.bool (bM.Kind !=1))] (λP ba=>?_) ?_)
         .simp only[aP.down,simprocAttr,ug,Ad,nb];exact bJ (af ug (af Ad nb))
         exact inr ⟨_,bQ rfl,I7 (bM.Kind !=1) h⟩
       .refine ji (bX (K:=dK _) [(1,.ref (b4 J)),(2,.int .i64 a2),(7,.bf (dA U)),(8,.int .i64 (U.cw.length:Int)),(102,.bool false)] (λP ba=>?_) ?_)
        .simp only[aP.down,simprocAttr,ug];exact bJ ug
        exact inr ⟨_,bQ rfl,I7 false h⟩
      refine aD aj λ_ n16 mC _=>al ?_;refine bc mC λ_ n47 Ae _ _=>al ?_;refine aL h (λac_ h=>?_) λac_ h=>?_
      .refine da (bX [(1,.ref (b4 J)),(2,.int .i64 a2),(7,.bf (dA U)),(8,.int .i64 (U.cw.length:Int)),(69,.bool ((decide (2<(U.cw.length:Int)))||((decide (0<(U.cw.length:Int)))&&(U.Name==([116,97,117]:alO)))))] (λP ba=>?_) ?_)
       ·(rcases Bool.eq_false_or_eq_true (decide (2<(U.cw.length:Int)))with I_|I_)<;>(rcases Bool.eq_false_or_eq_true (decide (0<(U.cw.length:Int)))with Ja|Ja)<;>
         (simp only[aP.down,simprocAttr,I_,Ja]
          exact bJ (af I_ Ja))
       refine aL h (λJb h=>?_) λJb h=>?_
       .exact aK Ae [.int .i64 5]
       .exact aQ (n47 _ (n16 _ (inr ⟨_,bQ rfl,Dz h⟩)))
      .refine al ?_;refine aL h (λAf h=>?_) λAf h=>?_
       .refine al ?_;refine aL h (λada h=>?_) λada h=>?_
        .exact aK Ae [.int .i64 5]
        .exact aQ (n47 _ (n16 _ (inr ⟨_,bQ rfl,Dz h⟩)))
       .refine al ?_;refine aL h (λJc h=>?_) λJc h=>?_
        .obtain⟨cG,adb,h⟩:=aA h;refine e0 adb _ ?_;refine aL h (λJd h=>?_) λJd h=>?_
         .exact aK Ae [.int .i64 5]
         .exact aQ (n47 _ (n16 _ (inr ⟨_,bQ rfl,Dz h⟩)))
        .exact aQ (n47 _ (n16 _ (inr ⟨_,bQ rfl,Dz h⟩)))
    rcases ez h with⟨l9,h⟩|⟨l9,h⟩
    .obtain⟨eD,Je,h⟩:=aA h;rcases ez h with⟨pj,h⟩|⟨pj,h⟩
     .refine ji (bX (K:=dK _) [(0,.slice (a0.map b4)),(1,.ref (b4 J)),(2,.int .i64 a2),(7,.bf (dA U)),(51,.bool true)] (λP ba=>?_) ?_)
      ·(try simp only[aP.down,simprocAttr,l9,(gd pj)]);refine gU (na U.Number 1 7 _ Je) (hK:= ?_);simp only[aP.down,simprocAttr,l9,(gd pj)];exact bJ (af l9 (gd pj))
      exact inr ⟨_,bQ rfl,Ac true h⟩
     .rcases ez h with⟨sF,h⟩|⟨sF,h⟩
      .obtain⟨dT,Jf,h⟩:=aA h;refine ji (bX (K:=dK _) [(0,.slice (a0.map b4)),(1,.ref (b4 J)),(2,.int .i64 a2),(7,.bf (dA U)),(51,.bool (!dT))] (λP ba=>?_) ?_)
       ·(try simp only[aP.down,simprocAttr,l9,(bS pj),sF]);refine gU (na U.Number 1 7 _ Je) (hK:= ?_);simp only[aP.down,simprocAttr,l9,(bS pj),sF];refine gU (na U.Number 0 (i64.wrap ((a0.length:Int)-1)) _ Jf) (hK:= ?_);simp only[aP.down,simprocAttr,l9,(bS pj),sF];exact bJ (af l9 (af (bS pj) sF))
       exact inr ⟨_,bQ rfl,Ac (!dT) h⟩
      .refine ji (bX (K:=dK _) [(0,.slice (a0.map b4)),(1,.ref (b4 J)),(2,.int .i64 a2),(7,.bf (dA U)),(51,.bool false)] (λP ba=>?_) ?_)
       ·(try simp only[aP.down,simprocAttr,l9,(bS pj),sF]);refine gU (na U.Number 1 7 _ Je) (hK:= ?_);simp only[aP.down,simprocAttr,l9,(bS pj),sF];exact bJ (af l9 (af (bS pj) sF))
       exact inr ⟨_,bQ rfl,Ac false h⟩
    .rcases ez h with⟨wG,h⟩|⟨wG,h⟩
     .obtain⟨dh,uh,h⟩:=aA h;refine ji (bX (K:=dK _) [(0,.slice (a0.map b4)),(1,.ref (b4 J)),(2,.int .i64 a2),(7,.bf (dA U)),(51,.bool (!dh))] (λP ba=>?_) ?_)
      ·(try simp only[aP.down,simprocAttr,l9,wG]);refine gU (na U.Number 0 (i64.wrap ((a0.length:Int)-1)) _ uh) (hK:= ?_);simp only[aP.down,simprocAttr,l9,wG];exact bJ (af l9 wG)
      exact inr ⟨_,bQ rfl,Ac (!dh) h⟩
     .refine ji (bX (K:=dK _) [(0,.slice (a0.map b4)),(1,.ref (b4 J)),(2,.int .i64 a2),(7,.bf (dA U)),(51,.bool false)] (λP ba=>?_) ?_)
      .simp only[aP.down,simprocAttr,l9,wG];exact bJ (af l9 wG)
      exact inr ⟨_,bQ rfl,Ac false h⟩
  rcases ez h with⟨wH,h⟩|⟨wH,h⟩
  .obtain⟨gG,DC,h⟩:=aA h;refine ji (bX (K:=dK _) [(0,.slice (a0.map b4)),(1,.ref (b4 J)),(2,.int .i64 a2),(7,.bf (dA U)),(28,.bool (!gG))] (λP ba=>?_) ?_)
   ·(try simp only[aP.down,simprocAttr,wH]);refine gU (Aa U.Name _ DC) (hK:= ?_);simp only[aP.down,simprocAttr,wH];exact bJ wH
   exact inr ⟨_,bQ rfl,PL (!gG) h⟩
  .refine ji (bX (K:=dK _) [(0,.slice (a0.map b4)),(1,.ref (b4 J)),(2,.int .i64 a2),(7,.bf (dA U)),(28,.bool false)] (λP ba=>?_) ?_)
   .simp only[aP.down,simprocAttr,wH];exact bJ wH
   exact inr ⟨_,bQ rfl,PL false h⟩
theorem ade (a0 J r) (h:tQ a0 J=some r):aY ak 265 [.slice (a0.map b4),.ref (b4 J)] (.tuple [.int .i64 r.1,.int .i64 r.2]) []:=by
 refine bA [0,1] [.tmp 4,.tmp 5] Tryz.func265 ZJ λbz aj bw=>al ?_;refine aD aj λ_ bB aZ ah=>?_;obtain⟨U,cm,h⟩:=aA h;refine c9 (acT J.Body _ cm) _ ?_;refine aL h (λcI h=>?_) λcI h=>?_
 .exact aK aZ [.int .i64 0,.int .i64 1]
 .refine aQ (bB _ (inl (aD aj λ_ dc ei _=>al ?_)));refine bc ei λkf _ bP fP _=>?_;show a_ ak (.loop ?gz) _ _;have gf:∀n nz,tP a0 J n nz=some r->cy ak ?gz kf (ay [(0,.slice (a0.map b4)),(1,.ref (b4 J)),(6,.int .i64 nz)]):=by
   refine cO λ_ fR nz h=>cN bP λ_ n10 cz dh=>aD cz λ_ n11 _ gG=>al ?_;refine aL h (λgI h=>?_) λgI h=>?_
   .refine aQ (n11 _ (inl (aD cz λ_ n14 dO _=>bc dO λ_ n15 h4 _ _=>?_)));obtain⟨ah,c3,h⟩:=aA h;refine c9 (ac0 a0 J nz _ c3) _ ?_;refine al ?_;refine aL h (λfi h=>?_) λfi h=>?_
    .exact aK h4 [.int .i64 nz,.int .i64 ah]
    .refine aQ (n15 _ (n14 _ (inl (dt ?_))));exact n10 _ (inr ⟨_,bQ rfl,fR (i64.wrap (nz+1)) h⟩)
   .exact cK (gG 0 _ (dh 0 _ (fP _ (dc _ (inl (aK aj [.int .i64 0,.int .i64 0]))))))
  exact c4 h λn h=>gf n 0 h
theorem adf (a0 r) (h:Cd a0=some r):aY ak 211 [.slice (a0.map b4)] (.bool r) []:=by
 refine bA [0] [.tmp 2] Tryz.func211 ZK λbz aj bw=>al ?_;refine aD aj λ_ bB aZ ah=>lL ((a0.length:Int)==0) [(0,.slice (a0.map b4)),(15,.bool (((a0.length:Int)==0)||(decide (4<(a0.length:Int)))))] ?_;refine aL h (λbG h=>?_) λbG h=>?_
 .exact aK aZ [.bool false]
 .refine aQ (bB _ (inl (aD aj λ_ n6 c0 bM=>al ?_)));refine bc c0 λhs _ gZ bY _=>?_;show a_ ak (.loop ?gz) _ _;have gf:∀n dn,q9 a0 n dn=some r->cy ak ?gz hs (ay [(0,.slice (a0.map b4)),(3,.int .i64 dn)]):=by
   refine cO λm14 fR dn h=>cN gZ λ_ cf bP dT=>aD bP λ_ n10 _ dh=>al ?_;refine aL h (λe8 h=>?_) λe8 h=>?_
   .refine aQ (n10 _ (inl (aD bP λ_ n13 eM _=>bc eM λ_ n14 dO _ _=>aD dO λ_ n15 h4 _=>?_)));obtain⟨U,c3,h⟩:=aA h;obtain⟨ah,dZ,h⟩:=aA h;rcases ez h with⟨fi,h⟩|⟨fi,h⟩
    .refine gH (af c3 (gd fi)) (Aa U.Name _ dZ) _ ?_;refine iz rfl ?_;exact aK h4 [.bool false]
    .obtain⟨aO,l7,h⟩:=aA h;refine da (bX [(0,.slice (a0.map b4)),(3,.int .i64 dn),(37,.bool (!aO))] (λP ba=>?_) ?_)
     ·(try simp only[aP.down,simprocAttr,c3,(bS fi)]);refine eB (Aa U.Name _ dZ) (hK:= ?_);simp only[aP.down,simprocAttr,c3,(bS fi)];refine gU (na U.db 0 3 _ l7) (hK:= ?_);simp only[aP.down,simprocAttr,c3,(bS fi)];exact bJ (af c3 (bS fi))
     refine aL h (λrm h=>?_) λrm h=>?_
     .exact aK h4 [.bool false]
     .refine aQ (n15 _ (inl (al ?_)));refine bc dO λJg _ l_ nJ _=>?_;show a_ ak (.loop ?rn) _ _;have rp:∀n ev eR,vA (q9 a0 m14) a0 n ev eR=some r->cy ak ?rn Jg (ay [(0,.slice (a0.map b4)),(3,.int .i64 ev),(4,.int .i64 eR)]):=by
       refine cO λ_ rq ev eR h=>cN l_ λ_ n26 uf Jh=>aD uf λ_ n27 _ adg=>al ?_;refine aL h (λiD h=>?_) λiD h=>?_
       .refine aQ (n27 _ (inl (aD uf λ_ n30 Ji _=>bc Ji λ_ n31 Ag _ _=>?_)));obtain⟨bx,Ah,h⟩:=aA h;obtain⟨a7,ov,h⟩:=aA h;refine ld (af Ah ov) _ ?_;refine aL h (λAi h=>?_) λAi h=>?_
        .exact aK Ag [.bool false]
        .refine aQ (n31 _ (n30 _ (inl (dt ?_))));exact n26 _ (inr ⟨_,bQ rfl,rq ev (i64.wrap (eR+1)) h⟩)
       .refine cK (adg 2 _ (Jh 2 _ (nJ _ (n14 _ (n13 _ (inl (dt ?_)))))));exact cf _ (inr ⟨_,bQ rfl,fR (i64.wrap (ev+1)) h⟩)
      exact c4 h λn h=>rp n dn 0 h
   .refine cK (dh 0 _ (dT 0 _ (bY _ (n6 _ (inl (aD aj λ_ n39 DD _=>al ?_))))));refine bc DD λadh _ adi Jj _=>?_;show a_ ak (.loop ?adj) _ _;have adk:∀n qg,tR a0 n qg=some r->cy ak ?adj adh (ay [(0,.slice (a0.map b4)),(5,.int .i64 qg)]):=by
     refine cO λ_ adl qg h=>cN adi λ_ adm PM adn=>aD PM λ_ Jk _ ado=>al ?_;refine aL h (λJl h=>?_) λJl h=>?_
     .refine aQ (Jk _ (inl (aD PM λ_ n46 adp _=>bc adp λ_ n47 Ae _ _=>?_)));obtain⟨bM,Aj,h⟩:=aA h;obtain⟨cG,adq,h⟩:=aA h;refine gH Aj (ade a0 bM _ adq) _ ?_;refine al ?_;refine aL h (λAk h=>?_) λAk h=>?_
      .exact aK Ae [.bool false]
      .refine aQ (n47 _ (n46 _ (inl (dt ?_))));exact adm _ (inr ⟨_,bQ rfl,adl (i64.wrap (qg+1)) h⟩)
     .exact cK (ado 4 _ (adn 4 _ (Jj _ (n39 _ (inl (aK aj [.bool true]))))))
    exact c4 h λn h=>adk n 0 h
  exact c4 h λn h=>gf n 0 h
theorem PN (a0 r) (h:y9 a0=some r):aY ak 168 [.slice (a0.map bj)] (.bool r) []:=by
 refine bA [0] [.tmp 2] Tryz.func168 ZL λbz aj bw=>al ?_;refine aD aj λ_ bB aZ ah=>al ?_;refine bc aZ λdI _ bU bG _=>?_;show a_ ak (.loop ?dN) _ _;have dV:∀n gx,vB a0 n gx=some r->cy ak ?dN dI (ay [(0,.slice (a0.map bj)),(3,.int .i64 gx)]):=by
  refine cO λ_ dP gx h=>cN bU λ_ dd b9 a7=>aD b9 λ_ n6 _ bM=>al ?_;refine aL h (λbY h=>?_) λbY h=>?_
  .refine aQ (n6 _ (inl (aD b9 λ_ cf bP _=>bc bP λ_ n10 cz _ _=>?_)));obtain⟨U,df,h⟩:=aA h;obtain⟨ah,dw,h⟩:=aA h;refine gH df (na U 0 63 _ dw) _ ?_;refine aL h (λiq h=>?_) λiq h=>?_
   .exact aK cz [.bool false]
   .refine aQ (n10 _ (cf _ (inl (dt ?_))));exact dd _ (inr ⟨_,bQ rfl,dP (i64.wrap (gx+1)) h⟩)
  .exact cK (bM 0 _ (a7 0 _ (bG _ (bB _ (inl (aK aj [.bool true]))))))
 exact c4 h λn h=>dV n 0 h
theorem adr (a0 r) (h:Ce a0=some r):aY ak 212 [.ref (h3 a0)] (.bool r) []:=by
 refine bA [0] [.tmp 2] Tryz.func212 ZM λbz aj bw=>al ?_;refine aD aj λ_ bB aZ ah=>lL ((a0.cU.length:Int)==0) [(0,.ref (h3 a0)),(18,.bool (((a0.cU.length:Int)==0)||(decide (3<(a0.cU.length:Int)))))] ?_;refine aL h (λbG h=>?_) λbG h=>?_
 .exact aK aZ [.bool false]
 .refine aQ (bB _ (inl (aD aj λ_ n6 c0 _=>al ?_)));refine bc c0 λhs _ gZ bY _=>?_;show a_ ak (.loop ?gz) _ _;have gf:∀n dn,vC a0 n dn=some r->cy ak ?gz hs (ay [(0,.ref (h3 a0)),(3,.int .i64 dn)]):=by
   refine cO λ_ fR dn h=>cN gZ λ_ cf bP dT=>aD bP λ_ n10 _ dh=>al ?_;refine aL h (λe8 h=>?_) λe8 h=>?_
   .refine aQ (n10 _ (inl (aD bP λ_ n13 eM _=>bc eM λ_ n14 dO _ _=>?_)));obtain⟨U,ck,h⟩:=aA h;refine e0 ck _ ?_;refine aD dO λ_ n17 j1 _=>?_;obtain⟨ah,hW,h⟩:=aA h;refine Py (na U.b6 0 (i64.wrap ((a0.dU.length:Int)-1)) _ hW) _ ?_;refine aL h (λfz h=>?_) λfz h=>?_
    .exact aK j1 [.bool false]
    .refine aQ (n17 _ (inl ?_));obtain⟨aO,lM,h⟩:=aA h;rcases ez h with⟨hD,h⟩|⟨hD,h⟩
     .refine ld (af lM hD) _ ?_;refine iz rfl ?_;exact aK dO [.bool false]
     .obtain⟨bx,wI,h⟩:=aA h;refine jD (af lM hD) (PN U.bL _ wI) _ ?_;refine aL h (λlN h=>?_) λlN h=>?_
      .exact aK dO [.bool false]
      .refine aQ (n14 _ (n13 _ (inl (dt ?_))));exact cf _ (inr ⟨_,bQ rfl,fR (i64.wrap (dn+1)) h⟩)
   .exact cK (dh 0 _ (dT 0 _ (bY _ (n6 _ (inl (aK aj [.bool true]))))))
  exact c4 h λn h=>gf n 0 h
theorem qw (a0 r) (h:tS a0=some r):aY ak 126 [.str a0] (.bool r) []:=by
 refine bA [0] [.tmp 2] Tryz.func126 ZN λbz aj bw=>al ?_;obtain⟨U,aW,h⟩:=aA h;refine da (bX [(2,.bool (U&&(!(a0==([116,97,117]:alO)))))] (λP ba=>?_) ?_)
 .rcases Bool.eq_false_or_eq_true (U)with kt|kt
  ·(try simp only[aP.down,simprocAttr,kt]);refine eB (Aa a0 _ aW) (hK:= ?_);simp only[aP.down,simprocAttr,kt];exact bJ kt
  ·(try simp only[aP.down,simprocAttr,kt]);refine eB (Aa a0 _ aW) (hK:= ?_);simp only[aP.down,simprocAttr,kt];exact bJ kt
 exact dY aj [.bool (U&&(!(a0==([116,97,117]:alO))))]
theorem ads (a0 r) (h:Cf a0=some r):aY ak 60 [.slice (a0.map cq)] (.bool r) []:=by
 refine bA [0] [.tmp 2] Tryz.func60 ZO λbz aj bw=>al ?_;refine aD aj λ_ bB aZ ah=>al ?_;refine aL h (λbG h=>?_) λbG h=>?_
 .exact aK aZ [.bool false]
 .refine aQ (bB _ (inl (aD aj λ_ n6 c0 bM=>al ?_)));refine bc c0 λhs _ gZ bY _=>?_;show a_ ak (.loop ?gz) _ _;have gf:∀n dn,o6 a0 n dn=some r->cy ak ?gz hs (ay [(0,.slice (a0.map cq)),(3,.int .i64 dn)]):=by
   refine cO λm14 fR dn h=>cN gZ λ_ cf bP dT=>aD bP λ_ n10 _ dh=>al ?_;refine aL h (λe8 h=>?_) λe8 h=>?_
   .refine aQ (n10 _ (inl (aD bP λ_ n13 eM _=>bc eM λ_ n14 dO _ _=>?_)));obtain⟨U,ck,h⟩:=aA h;refine e0 ck _ ?_;refine aD dO λ_ n17 j1 _=>?_;obtain⟨ah,hW,h⟩:=aA h;rcases ez h with⟨fz,h⟩|⟨fz,h⟩
    .refine gH (gd fz) (qw U.Left _ hW) _ ?_;refine iz rfl ?_;exact aK j1 [.bool false]
    .obtain⟨aO,hk,h⟩:=aA h;rcases ez h with⟨fF,h⟩|⟨fF,h⟩
     .refine da (bX [(0,.slice (a0.map cq)),(3,.int .i64 dn),(4,.bf (cq U)),(41,.bool true)] (λP ba=>?_) ?_)
      ·(try simp only[aP.down,simprocAttr,(bS fz),(gd fF)]);refine eB (qw U.Left _ hW) (hK:= ?_);simp only[aP.down,simprocAttr,(bS fz),(gd fF)];refine gU (qw U.b_ _ hk) (hK:= ?_);simp only[aP.down,simprocAttr,(bS fz),(gd fF)];exact bJ (af (bS fz) (gd fF))
      refine iz rfl ?_;exact aK j1 [.bool false]
     .obtain⟨bx,jE,h⟩:=aA h;refine da (bX [(0,.slice (a0.map cq)),(3,.int .i64 dn),(4,.bf (cq U)),(41,.bool ((!bx)||(!(Op.bytesLess U.Left U.b_||U.Left==U.b_))))] (λP ba=>?_) ?_)
      .rcases Bool.eq_false_or_eq_true (bx)with pk|pk
       ·(try simp only[aP.down,simprocAttr,(bS fz),(bS fF),pk]);refine eB (qw U.Left _ hW) (hK:= ?_);simp only[aP.down,simprocAttr,(bS fz),(bS fF),pk];refine gU (qw U.b_ _ hk) (hK:= ?_);simp only[aP.down,simprocAttr,(bS fz),(bS fF),pk];refine gU (qw U.Result _ jE) (hK:= ?_);simp only[aP.down,simprocAttr,(bS fz),(bS fF),pk];exact bJ (af (bS fz) (af (bS fF) pk))
       ·(try simp only[aP.down,simprocAttr,(bS fz),(bS fF),pk]);refine eB (qw U.Left _ hW) (hK:= ?_);simp only[aP.down,simprocAttr,(bS fz),(bS fF),pk];refine gU (qw U.b_ _ hk) (hK:= ?_);simp only[aP.down,simprocAttr,(bS fz),(bS fF),pk];refine gU (qw U.Result _ jE) (hK:= ?_);simp only[aP.down,simprocAttr,(bS fz),(bS fF),pk];exact bJ (af (bS fz) (af (bS fF) pk))
      refine aL h (λlN h=>?_) λlN h=>?_
      .exact aK j1 [.bool false]
      .refine aQ (n17 _ (inl (aD dO λ_ n29 DA _=>?_)));rcases ez h with⟨hX,h⟩|⟨hX,h⟩
       .obtain⟨a7,rr,h⟩:=aA h;refine kS rfl (ku [(0,.slice (a0.map cq)),(3,.int .i64 dn),(4,.bf (cq U)),(76,.bool ((!(Op.bytesLess a7.Left U.Left||a7.Left==U.Left))||((a7.Left==U.Left)&&(!(Op.bytesLess a7.b_ U.b_)))))] (λP ba=>?_) ?_)
        ·(rcases Bool.eq_false_or_eq_true (Op.bytesLess a7.Left U.Left)with Jm|Jm)<;>(rcases Bool.eq_false_or_eq_true (a7.Left==U.Left)with Jn|Jn)<;>
          (simp only[et.down,simprocAttr,hX,rr,Jm,Jn]
           refine⟨ky (by kernel_rfl),?_⟩;exact bJ (af hX (af rr (af Jm Jn))))
        refine aL h (λAi h=>?_) λAi h=>?_
        .exact aK DA [.bool false]
        .refine aQ (n29 _ (inl (al ?_)));refine bc dO λadt _ Jo I9 _=>?_;show a_ ak (.loop ?Jp) _ _;have Jq:∀n la lH,q_ (o6 a0 m14) a0 U n la lH=some r->cy ak ?Jp adt (ay [(0,.slice (a0.map cq)),(3,.int .i64 la),(4,.bf (cq U)),(5,.int .i64 lH)]):=by
          refine cO λadu Jr la lH h=>cN Jo λ_ n39 DD adv=>aD DD λ_ adw _ adx=>al ?_;refine aL h (λady h=>?_) λady h=>?_
          .refine aQ (adw _ (inl (aD DD λ_ Jk adz _=>bc adz λ_ adA adB _ _=>?_)));obtain⟨bM,Js,h⟩:=aA h;refine Pz (bM.Left==U.Result) Js [(0,.slice (a0.map cq)),(3,.int .i64 la),(4,.bf (cq U)),(5,.int .i64 lH),(100,.bool ((bM.Left==U.Result)||(bM.b_==U.Result)))] ?_;refine aL h (λJt h=>?_) λJt h=>?_
           .exact aK adB [.bool false]
           .refine aQ (adA _ (Jk _ (inl (dt ?_))));exact n39 _ (inr ⟨_,bQ rfl,Jr la (i64.wrap (lH+1)) h⟩)
          .refine cK (adx 2 _ (adv 2 _ (I9 _ (n14 _ (n13 _ (inl (dt ?_)))))));exact cf _ (inr ⟨_,bQ rfl,fR (i64.wrap (la+1)) h⟩)
         exact c4 h λn h=>Jq n dn 0 h
       .refine ld hX _ ?_;refine p4 rfl ?_;refine aQ (n29 _ (inl (al ?_)));refine bc dO λJu _ Jv Ak _=>?_;show a_ ak (.loop ?Jp) _ _;have Jq:∀n la lH,q_ (o6 a0 m14) a0 U n la lH=some r->cy ak ?Jp Ju (ay [(0,.slice (a0.map cq)),(3,.int .i64 la),(4,.bf (cq U)),(5,.int .i64 lH)]):=by
         refine cO λadu Jr la lH h=>cN Jv λ_ Jw Al Jx=>aD Al λ_ Jy _ Jz=>al ?_;refine aL h (λAf h=>?_) λAf h=>?_
         .refine aQ (Jy _ (inl (aD Al λ_ n57 Am _=>bc Am λ_ An DE _ _=>?_)));obtain⟨cG,wJ,h⟩:=aA h;refine Pz (cG.Left==U.Result) wJ [(0,.slice (a0.map cq)),(3,.int .i64 la),(4,.bf (cq U)),(5,.int .i64 lH),(100,.bool ((cG.Left==U.Result)||(cG.b_==U.Result)))] ?_;refine aL h (λJc h=>?_) λJc h=>?_
          .exact aK DE [.bool false]
          .refine aQ (An _ (n57 _ (inl (dt ?_))));exact Jw _ (inr ⟨_,bQ rfl,Jr la (i64.wrap (lH+1)) h⟩)
         .refine cK (Jz 2 _ (Jx 2 _ (Ak _ (n14 _ (n13 _ (inl (dt ?_)))))));exact cf _ (inr ⟨_,bQ rfl,fR (i64.wrap (la+1)) h⟩)
        exact c4 h λn h=>Jq n dn 0 h
   .exact cK (dh 0 _ (dT 0 _ (bY _ (n6 _ (inl (aK aj [.bool true]))))))
  exact c4 h λn h=>gf n 0 h
theorem adC (a0 r) (h:Cg a0=some r):aY ak 266 [.slice (a0.map cd)] (.bool r) []:=by
 refine bA [0] [.tmp 2] Tryz.func266 ZP λbz aj bw=>al ?_;refine aD aj λ_ bB aZ ah=>al ?_;refine bc aZ λdI _ bU bG _=>?_;show a_ ak (.loop ?dN) _ _;have dV:∀n gx,vD a0 n gx=some r->cy ak ?dN dI (ay [(0,.slice (a0.map cd)),(3,.int .i64 gx)]):=by
  refine cO λ_ dP gx h=>cN bU λ_ dd b9 a7=>aD b9 λ_ n6 _ bM=>al ?_;refine aL h (λbY h=>?_) λbY h=>?_
  .refine aQ (n6 _ (inl (aD b9 λ_ cf bP _=>bc bP λ_ n10 cz _ _=>?_)));obtain⟨U,df,h⟩:=aA h;obtain⟨ah,dw,h⟩:=aA h;refine gH df (qw U _ dw) _ ?_;refine aL h (λiq h=>?_) λiq h=>?_
   .exact aK cz [.bool false]
   .refine aQ (n10 _ (cf _ (inl (dt ?_))));exact dd _ (inr ⟨_,bQ rfl,dP (i64.wrap (gx+1)) h⟩)
  .exact cK (bM 0 _ (a7 0 _ (bG _ (bB _ (inl (aK aj [.bool true]))))))
 exact c4 h λn h=>dV n 0 h
theorem PO (a0 r) (h:y_ a0=some r):aY ak 213 [.slice (a0.map cd)] (.bool r) []:=by
 refine bA [0] [.tmp 2] Tryz.func213 ZQ λbz aj bw=>al ?_;refine aD aj λ_ bB aZ ah=>?_;rcases ez h with⟨bG,h⟩|⟨bG,h⟩
 .refine e0 bG _ ?_;refine iz rfl ?_;exact aK aZ [.bool false]
 .obtain⟨U,b7,h⟩:=aA h;refine gH bG (adC a0 _ b7) _ ?_;refine aL h (λqW h=>?_) λqW h=>?_
  .exact aK aZ [.bool false]
  .refine aQ (bB _ (inl (aD aj λ_ cf bP _=>al ?_)));refine bc bP λadD _ gJ mB _=>?_;show a_ ak (.loop ?gz) _ _;have gf:∀n dn,oh a0 n dn=some r->cy ak ?gz adD (ay [(0,.slice (a0.map cd)),(3,.int .i64 dn)]):=by
    refine cO λ_ fR dn h=>cN gJ λ_ n12 lf l5=>aD lf λ_ n13 _ iC=>al ?_;refine aL h (λeF h=>?_) λeF h=>?_
    .refine aQ (n13 _ (inl (aD lf λ_ n16 mC _=>bc mC λ_ n17 j1 _ _=>?_)));obtain⟨ah,hW,h⟩:=aA h;obtain⟨aO,iS,h⟩:=aA h;refine ld (af hW iS) _ ?_;refine aL h (λJA h=>?_) λJA h=>?_
     .exact aK j1 [.bool false]
     .refine aQ (n17 _ (n16 _ (inl (dt ?_))));exact n12 _ (inr ⟨_,bQ rfl,fR (i64.wrap (dn+1)) h⟩)
    .exact cK (iC 0 _ (l5 0 _ (mB _ (cf _ (inl (aK aj [.bool true]))))))
   exact c4 h λn h=>gf n 1 h
theorem adE (a0 r) (h:Ci a0=some r):aY ak 144 [.ref (h3 a0)] (.int .i64 r) []:=by
 refine bA [0] [.tmp 2] Tryz.func144 ZR λbz aj bw=>al ?_;refine aD aj λ_ bB aZ ah=>?_;obtain⟨U,cm,h⟩:=aA h;refine c9 (adf a0.dU _ cm) _ ?_;refine aL h (λcI h=>?_) λcI h=>?_
 .exact aK aZ [.int .i64 1]
 .refine aQ (bB _ (inl (aD aj λ_ dc ei _=>?_)));obtain⟨ah,jx,h⟩:=aA h;refine c9 (adr a0 _ jx) _ ?_;refine aL h (λfQ h=>?_) λfQ h=>?_
  .exact aK ei [.int .i64 2]
  .refine aQ (dc _ (inl (aD aj λ_ n12 lf _=>?_)));obtain⟨aO,dF,h⟩:=aA h;refine c9 (ads a0.gV _ dF) _ ?_;refine aL h (λeF h=>?_) λeF h=>?_
   .exact aK lf [.int .i64 3]
   .refine aQ (n12 _ (inl (aD aj λ_ n17 j1 _=>?_)));obtain⟨bx,hW,h⟩:=aA h;refine c9 (PO a0.gP _ hW) _ ?_;refine aL h (λfz h=>?_) λfz h=>?_
    .exact aK j1 [.int .i64 4]
    .refine aQ (n17 _ (inl (aD aj λ_ n22 l8 _=>?_)));obtain⟨a7,kj,h⟩:=aA h;refine c9 (PO a0.gQ _ kj) _ ?_;refine aL h (λnJ h=>?_) λnJ h=>?_
     .exact aK l8 [.int .i64 5]
     .exact aQ (n22 _ (inl (aK aj [.int .i64 0])))
theorem PQ (a0 r) (h:Cj a0=some r):aY ak 73 [.ref (h3 a0)] (.bool r) []:=by
 refine bA [0] [.tmp 2] Tryz.func73 ZS λbz aj bw=>al ?_;obtain⟨U,aW,h⟩:=aA h;refine c9 (adE a0 _ aW) _ ?_;exact dY aj [.bool (U==0)]
theorem adF (a0 J r) (h:su a0 J=some r):aY ak 145 [.slice (a0.map b4),.ref (c6 J)] (.bool r) []:=by
 refine bA [0,1] [.tmp 4] Tryz.func145 ZT λbz aj bw=>al ?_;refine aD aj λ_ bB aZ ah=>?_;obtain⟨U,cm,h⟩:=aA h;refine c9 (na J.b6 0 (i64.wrap ((a0.length:Int)-1)) _ cm) _ ?_;refine aL h (λcI h=>?_) λcI h=>?_
 .exact aK aZ [.bool false]
 .refine aQ (bB _ (inl ?_));obtain⟨ah,hy,h⟩:=aA h;refine e0 hy _ ?_;refine aD aj λ_ cf bP _=>?_;obtain⟨aO,lW,h⟩:=aA h;rcases ez h with⟨e8,h⟩|⟨e8,h⟩
  .refine jD (gd e8) (na J.Part 0 (i64.wrap ((ah.Body.length:Int)-1)) _ lW) _ ?_;refine iz rfl ?_;exact aK bP [.bool false]
  .obtain⟨bx,dF,h⟩:=aA h;refine jD (af (bS e8) dF) (na J.Part 0 (i64.wrap ((ah.Body.length:Int)-1)) _ lW) _ ?_;refine aL h (λeF h=>?_) λeF h=>?_
   .exact aK bP [.bool false]
   .refine aQ (cf _ (inl ?_));obtain⟨a7,dZ,h⟩:=aA h;rcases ez h with⟨fi,h⟩|⟨fi,h⟩
    .obtain⟨bM,iS,h⟩:=aA h;refine kS rfl (ku [(4,.bool bM)] (λP ba=>?_) ?_)
     ·(try simp only[et.down,simprocAttr,fi]);refine kv (I5 ah J.Part _ dZ) rfl rfl (by simp only[et.down,simprocAttr,fi,PA.down]<;>rfl) rfl (inr (by rfl)) ?_;simp only[et.down,simprocAttr,fi];refine kT (PN J.bL _ iS) (hK:= ?_);simp only[et.down,simprocAttr,fi];refine⟨ky (by kernel_rfl),?_⟩;exact bJ fi
     exact dY aj [.bool bM]
    .refine kS rfl (ku [(4,.bool false)] (λP ba=>?_) ?_)
     ·(try simp only[et.down,simprocAttr,fi]);refine kv (I5 ah J.Part _ dZ) rfl rfl (by simp only[et.down,simprocAttr,fi,PA.down]<;>rfl) rfl (inr (by rfl)) ?_;simp only[et.down,simprocAttr,fi];refine⟨ky (by kernel_rfl),?_⟩;exact bJ fi
     exact dY aj [.bool false]
theorem adG (a0 J r) (h:Ck a0 J=some r):aY ak 74 [.ref (h3 a0),.slice (J.map c6)] (.bool r) []:=by
 refine bA [0,1] [.tmp 4] Tryz.func74 ZU λbz aj bw=>al ?_;refine aD aj λ_ bB aZ ah=>al ?_;refine aL h (λbG h=>?_) λbG h=>?_
 .exact aK aZ [.bool false]
 .refine aQ (bB _ (inl (aD aj λ_ n6 c0 _=>al ?_)));refine bc c0 λhs _ gZ bY _=>?_;show a_ ak (.loop ?gz) _ _;have gf:∀n bN,vE a0 J n bN=some r->cy ak ?gz hs (ay [(0,.ref (h3 a0)),(1,.slice (J.map c6)),(5,.int .i64 bN)]):=by
   refine cO λ_ fR bN h=>cN gZ λ_ cf bP dT=>aD bP λ_ n10 _ dh=>al ?_;refine aL h (λe8 h=>?_) λe8 h=>?_
   .refine aQ (n10 _ (inl (aD bP λ_ n13 eM _=>bc eM λ_ n14 dO _ _=>?_)));obtain⟨U,ck,h⟩:=aA h;obtain⟨ah,c3,h⟩:=aA h;refine jD ck (adF a0.dU U _ c3) _ ?_;refine aL h (λiK h=>?_) λiK h=>?_
    .exact aK dO [.bool false]
    .refine aQ (n14 _ (n13 _ (inl (dt ?_))));exact cf _ (inr ⟨_,bQ rfl,fR (i64.wrap (bN+1)) h⟩)
   .exact cK (dh 0 _ (dT 0 _ (bY _ (n6 _ (inl (aK aj [.bool true]))))))
  exact c4 h λn h=>gf n 0 h
theorem adH (a0 r) (h:Cl a0=some r):aY ak 146 [.int .i64 a0] (.ag 1 (r.map bj)) []:=by
 refine bA [0] [.tmp 2] Tryz.func146 ZV λbz aj bw=>al ?_;refine e0 (show∀s,fa ak s 22 0 []=some (.ag 1 [],s)from λs=>by kernel_rfl) _ ?_;refine aD aj λ_ ff cZ _=>al ?_;refine bc cZ λnI _ b9 cI _=>?_;show a_ ak (.loop ?hL) _ _;have hU:∀n bt bp,vF a0 n bt bp=some r->cy ak ?hL nI (ay [(0,.int .i64 a0),(3,.ag 1 (bt.map bj)),(4,.int .i64 bp)]):=by
  refine cO λ_ hV bt bp h=>cN b9 λ_ n6 c0 bM=>aD c0 λ_ dc _ cG=>al ?_;refine aL h (λfP h=>?_) λfP h=>?_
  .refine aQ (dc _ (inl (aD c0 λ_ n10 cz _=>bc cz λ_ n11 _ _ _=>?_)));obtain⟨alv,dw,h⟩:=aA h;(try simp only[ph.down,Nat.zero_add,Nat.add_zero,reduceAdd]at dw);refine Px (af (show∀s,fa ak s 22 1 [(0,.int .i64 bp)]=some (.ag 1 [.int .i64 bp],s)from λs=>by kernel_rfl) (af (@oY ak 22 22 2 rfl rfl) (af @p6 (af @p7 (af @p8 (af @p5 (af @all_nil (af dw (@mn _ bj 1 λ_=>rfl))))))))) [(0,.int .i64 a0),(3,.ag 1 ((bt++[bp]).map bj)),(4,.int .i64 bp)] ?_;refine n11 _ (n10 _ (inl (wr [(0,.int .i64 a0),(3,.ag 1 ((bt++[bp]).map bj)),(4,.int .i64 (i64.wrap (bp+1)))] ?_)));exact n6 _ (inr ⟨_,bQ rfl,hV (bt++[bp]) (i64.wrap (bp+1)) h⟩)
  .exact cK (cG 0 _ (bM 0 _ (cI _ (ff _ (inl (aK aj [.ag 1 (bt.map bj)]))))))
 exact c4 h λn h=>hU n [] 0 h
theorem adI (a0 r) (h:za a0=some r):aY ak 95 [.slice (a0.map bj)] (.ag 1 (r.map bj)) []:=by
 refine bA [0] [.tmp 2] Tryz.func95 ZW λbz aj bw=>al ?_;obtain⟨yp,aW,h⟩:=aA h;(try simp only[ph.down,Nat.zero_add,Nat.add_zero,reduceAdd]at aW);refine e0 (af (show∀s,fa ak s 22 0 []=some (.ag 1 [],s)from λs=>by kernel_rfl) (af (@oY ak 22 22 2 rfl rfl) (af @p6 (af @p7 (af @p8 (af @p5 (af @all_nil (af aW (@mn _ bj 1 λ_=>rfl))))))))) _ ?_;exact dY aj [.ag 1 (a0.map bj)]
theorem adJ (a0 J r) (h:Cn a0 J=some r):aY ak 147 [.slice (a0.map c6),.slice (J.map bj)] (.ag 3 (r.map b0)) []:=by
 refine bA [0,1] [.tmp 4] Tryz.func147 ZX λbz aj bw=>al ?_;refine e0 (show∀s,fa ak s 62 0 []=some (.ag 3 [],s)from λs=>by kernel_rfl) _ ?_;refine aD aj λ_ ff cZ aO=>al ?_;refine bc cZ λnI _ b9 cI _=>?_;show a_ ak (.loop ?hL) _ _;have hU:∀n fW ik,Cm a0 J n fW ik=some r->cy ak ?hL nI (ay [(0,.slice (a0.map c6)),(1,.slice (J.map bj)),(5,.ag 3 (fW.map b0)),(6,.int .i64 ik)]):=by
  refine cO λ_ hV fW ik h=>cN b9 λ_ n6 c0 bM=>aD c0 λ_ dc _ cG=>al ?_;refine aL h (λfP h=>?_) λfP h=>?_
  .refine aQ (dc _ (inl (aD c0 λ_ n10 cz _=>bc cz λ_ n11 _ _ _=>?_)));obtain⟨U,dw,h⟩:=aA h;obtain⟨ah,dF,h⟩:=aA h;refine e0 (af dw dF) _ ?_;obtain⟨aO,ck,h⟩:=aA h;obtain⟨qv,c3,h⟩:=aA h;(try simp only[Dr.down,Nat.zero_add,Nat.add_zero,reduceAdd]at c3);refine Vo rfl (ku [(0,.slice (a0.map c6)),(1,.slice (J.map bj)),(5,.ag 3 ((fW++[(aT.mk ah.b6 ah.Part aO)]).map b0)),(6,.int .i64 ik)] (λP ba=>?_) ?_)
   ·(try simp only[et.down,simprocAttr,IV.down,ft,eI,mT,c3]);refine kv (adI ah.bL _ ck) (hK:= ?_);simp only[et.down,simprocAttr,IV.down,ft,eI,mT,c3];refine⟨ky (by kernel_rfl),?_⟩;(try simp only[i7.down,simprocAttr,IV.down,ft,eI,mT,c3]at ba⊢);exact ba
   refine n11 _ (n10 _ (inl (wr [(0,.slice (a0.map c6)),(1,.slice (J.map bj)),(5,.ag 3 ((fW++[(aT.mk ah.b6 ah.Part aO)]).map b0)),(6,.int .i64 (i64.wrap (ik+1)))] ?_)));exact n6 _ (inr ⟨_,bQ rfl,hV (fW++[(aT.mk ah.b6 ah.Part aO)]) (i64.wrap (ik+1)) h⟩)
  .exact cK (cG 0 _ (bM 0 _ (cI _ (ff _ (inl (aK aj [.ag 3 (fW.map b0)]))))))
 exact c4 h λn h=>hU n [] 0 h
theorem PR (a0 J r) (h:zb a0 J=some r):aY ak 268 [.slice (a0.map bj),.slice (J.map bj)] (.int .i64 r) []:=by
 refine bA [0,1] [.tmp 4] Tryz.func268 ZY λbz aj bw=>al ?_;refine aD aj λ_ bB aZ ah=>al ?_;refine bc aZ λdI _ bU bG _=>?_;show a_ ak (.loop ?dN) _ _;have dV:∀n aG,vG a0 J n aG=some r->cy ak ?dN dI (ay [(0,.slice (a0.map bj)),(1,.slice (J.map bj)),(5,.int .i64 aG)]):=by
  refine cO λ_ dP aG h=>cN bU λ_ dd b9 a7=>aD b9 λ_ n6 _ bM=>lL (decide (aG<(a0.length:Int))) [(0,.slice (a0.map bj)),(1,.slice (J.map bj)),(5,.int .i64 aG),(15,.bool ((decide (aG<(a0.length:Int)))&&(decide (aG<(J.length:Int)))))] ?_;refine aL h (λbY h=>?_) λbY h=>?_
  .refine aQ (n6 _ (inl (aD b9 λ_ cf bP _=>bc bP λ_ n10 cz _ _=>aD cz λ_ n11 gJ _=>?_)));obtain⟨U,dw,h⟩:=aA h;obtain⟨ah,dF,h⟩:=aA h;refine ld (af dw dF) _ ?_;refine aL h (λeF h=>?_) λeF h=>?_
   .exact aK gJ [.int .i64 (-1)]
   .refine aQ (n11 _ (inl (ld (af dw dF) _ ?_)));refine aL h (λiK h=>?_) λiK h=>?_
    .exact aK cz [.int .i64 1]
    .refine aQ (n10 _ (cf _ (inl (dt ?_))));exact dd _ (inr ⟨_,bQ rfl,dP (i64.wrap (aG+1)) h⟩)
  .refine cK (bM 0 _ (a7 0 _ (bG _ (bB _ (inl (aD aj λ_ n21 pn _=>al ?_))))));refine aL h (λfF h=>?_) λfF h=>?_
   .exact aK pn [.int .i64 (-1)]
   .refine aQ (n21 _ (inl (aD aj λ_ n25 l_ _=>al ?_)));refine aL h (λlN h=>?_) λlN h=>?_
    .exact aK l_ [.int .i64 1]
    .exact aQ (n25 _ (inl (aK aj [.int .i64 0])))
 exact c4 h λn h=>dV n 0 h
theorem adK (a0 J r) (h:Co a0 J=some r):aY ak 215 [.ref (c6 a0),.ref (c6 J)] (.int .i64 r) []:=by
 refine bA [0,1] [.tmp 4] Tryz.func215 ZZ λbz aj bw=>al ?_;refine ld (show∀s,fa ak s 22 2 [(0,.int .i64 a0.b6),(1,.int .i64 a0.Part)]=some (.ag 1 [.int .i64 a0.b6,.int .i64 a0.Part],s)from λs=>by kernel_rfl) _ ?_;refine ld (show∀s,fa ak s 22 2 [(0,.int .i64 J.b6),(1,.int .i64 J.Part)]=some (.ag 1 [.int .i64 J.b6,.int .i64 J.Part],s)from λs=>by kernel_rfl) _ ?_;obtain⟨U,cC,h⟩:=aA h;refine da (bX [(0,.ref (c6 a0)),(1,.ref (c6 J)),(7,.int .i64 U)] (λP ba=>?_) ?_)
 ·(try simp only[aP.down,simprocAttr]);refine eB (PR [a0.b6,a0.Part] [J.b6,J.Part] _ cC) rfl rfl (by simp only[aP.down,simprocAttr,hN,hP,hQ,dr,I.shares, @cr _ bj bj (λ_=>mA _), @cr _ bj bj (λ_=>mA _)]<;>rfl) rfl (inr (by rfl)) ?_;simp only[aP.down,simprocAttr];exact bJ trivial
 refine aD aj λ_ n6 c0 _=>al ?_;refine aL h (λbY h=>?_) λbY h=>?_
 .exact aK c0 [.int .i64 U]
 .refine aQ (n6 _ (inl ?_));obtain⟨ah,lW,h⟩:=aA h;refine Py (PR a0.bL J.bL _ lW) _ ?_;exact dY aj [.int .i64 ah]
theorem adL (a0 J r) (h:Cp a0 J=some r):aY ak 148 [.slice (a0.map c6),.slice (J.map c6)] (.bool r) []:=by
 refine bA [0,1] [.tmp 4] Tryz.func148 Z0 λbz aj bw=>al ?_;refine aD aj λ_ bB aZ ah=>al ?_;refine bc aZ λdI _ bU bG _=>?_;show a_ ak (.loop ?dN) _ _;have dV:∀n aG,vH a0 J n aG=some r->cy ak ?dN dI (ay [(0,.slice (a0.map c6)),(1,.slice (J.map c6)),(5,.int .i64 aG)]):=by
  refine cO λ_ dP aG h=>cN bU λ_ dd b9 a7=>aD b9 λ_ n6 _ bM=>al ?_;refine aL h (λbY h=>?_) λbY h=>?_
  .refine aQ (n6 _ (inl (aD b9 λ_ cf bP _=>bc bP λ_ n10 cz _ _=>?_)));obtain⟨U,df,h⟩:=aA h;obtain⟨ah,dw,h⟩:=aA h;obtain⟨aO,dF,h⟩:=aA h;refine jD (af df dw) (adK U ah _ dF) _ ?_;refine al ?_;refine aL h (λjt h=>?_) λjt h=>?_
   .exact aK cz [.bool (decide (aO<0))]
   .refine aQ (n10 _ (cf _ (inl (dt ?_))));exact dd _ (inr ⟨_,bQ rfl,dP (i64.wrap (aG+1)) h⟩)
  .exact cK (bM 0 _ (a7 0 _ (bG _ (bB _ (inl (aK aj [.bool false]))))))
 exact c4 h λn h=>dV n 0 h
theorem adM (a0 J r) (h:Cq a0 J=some r):aY ak 269 [.slice (a0.map bj),.slice (J.map bj)] (.bool r) []:=by
 refine bA [0,1] [.tmp 4] Tryz.func269 Z1 λbz aj bw=>al ?_;refine aD aj λ_ bB aZ ah=>al ?_;refine aL h (λbG h=>?_) λbG h=>?_
 .exact aK aZ [.bool false]
 .refine aQ (bB _ (inl (aD aj λ_ n6 c0 _=>al ?_)));refine bc c0 λhs _ gZ bY _=>?_;show a_ ak (.loop ?gz) _ _;have gf:∀n bN,vI a0 J n bN=some r->cy ak ?gz hs (ay [(0,.slice (a0.map bj)),(1,.slice (J.map bj)),(5,.int .i64 bN)]):=by
   refine cO λ_ fR bN h=>cN gZ λ_ cf bP dT=>aD bP λ_ n10 _ dh=>al ?_;refine aL h (λe8 h=>?_) λe8 h=>?_
   .refine aQ (n10 _ (inl (aD bP λ_ n13 eM _=>bc eM λ_ n14 dO _ _=>?_)));obtain⟨U,ck,h⟩:=aA h;obtain⟨ah,c3,h⟩:=aA h;refine ld (af ck c3) _ ?_;refine aL h (λiK h=>?_) λiK h=>?_
    .exact aK dO [.bool false]
    .refine aQ (n14 _ (n13 _ (inl (dt ?_))));exact cf _ (inr ⟨_,bQ rfl,fR (i64.wrap (bN+1)) h⟩)
   .exact cK (dh 0 _ (dT 0 _ (bY _ (n6 _ (inl (aK aj [.bool true]))))))
  exact c4 h λn h=>gf n 0 h
theorem adN (a0 J r) (h:Cr a0 J=some r):aY ak 216 [.ref (c6 a0),.ref (c6 J)] (.bool r) []:=by
 refine bA [0,1] [.tmp 4] Tryz.func216 Z2 λbz aj bw=>al ?_;rcases ez h with⟨jQ,h⟩|⟨jQ,h⟩
 .rcases ez h with⟨bG,h⟩|⟨bG,h⟩
  .obtain⟨U,cC,h⟩:=aA h;refine jD (af jQ bG) (adM a0.bL J.bL _ cC) _ ?_;exact dY aj [.bool U]
  .refine ld (af jQ bG) _ ?_;exact dY aj [.bool false]
 .refine ld jQ _ ?_;exact dY aj [.bool false]
theorem PS (a0 J r) (h:zc a0 J=some r):aY ak 149 [.slice (a0.map c6),.slice (J.map c6)] (.bool r) []:=by
 refine bA [0,1] [.tmp 4] Tryz.func149 Z3 λbz aj bw=>al ?_;refine aD aj λ_ bB aZ ah=>al ?_;refine aL h (λbG h=>?_) λbG h=>?_
 .exact aK aZ [.bool false]
 .refine aQ (bB _ (inl (aD aj λ_ n6 c0 _=>al ?_)));refine bc c0 λhs _ gZ bY _=>?_;show a_ ak (.loop ?gz) _ _;have gf:∀n bN,vJ a0 J n bN=some r->cy ak ?gz hs (ay [(0,.slice (a0.map c6)),(1,.slice (J.map c6)),(5,.int .i64 bN)]):=by
   refine cO λ_ fR bN h=>cN gZ λ_ cf bP dT=>aD bP λ_ n10 _ dh=>al ?_;refine aL h (λe8 h=>?_) λe8 h=>?_
   .refine aQ (n10 _ (inl (aD bP λ_ n13 eM _=>bc eM λ_ n14 dO _ _=>?_)));obtain⟨U,ck,h⟩:=aA h;obtain⟨ah,c3,h⟩:=aA h;obtain⟨aO,dZ,h⟩:=aA h;refine jD (af ck c3) (adN U ah _ dZ) _ ?_;refine aL h (λfi h=>?_) λfi h=>?_
    .exact aK dO [.bool false]
    .refine aQ (n14 _ (n13 _ (inl (dt ?_))));exact cf _ (inr ⟨_,bQ rfl,fR (i64.wrap (bN+1)) h⟩)
   .exact cK (dh 0 _ (dT 0 _ (bY _ (n6 _ (inl (aK aj [.bool true]))))))
  exact c4 h λn h=>gf n 0 h
theorem PT (a0 r) (h:j0 a0=some r):aY ak 150 [.ag 1 (a0.map bj)] (.bool r.1) [.ag 1 (r.2.map bj)]:=by
 refine bA [0] [.tmp 2] Tryz.func150 Z4 λbz aj bw=>al ?_;refine al ?_;refine aD aj λ_ ff cZ aO=>bc cZ λdI _ bU bG bx=>?_;show a_ ak (.loop ?dN) _ _;have dV:∀n gx,Hi a0 n gx=some r->cy ak ?dN dI (ay [(0,.ag 1 (a0.map bj)),(3,.int .i64 gx)]):=by
  refine cO λ_ dP gx h=>cN bU λ_ dd b9 a7=>aD b9 λ_ n6 _ bM=>?_;rcases ez h with⟨bY,h⟩|⟨bY,h⟩
  .obtain⟨U,jx,h⟩:=aA h;obtain⟨ah,lu,h⟩:=aA h;refine ld (af bY (af jx (af (br jx) (af lu (br lu))))) _ ?_;refine aL h (λmB h=>?_) λmB h=>?_
   .refine aQ (n6 _ (inl (bc b9 λ_ n12 _ _ l5=>dt ?_)));exact n12 _ (dd _ (inr ⟨_,bQ rfl,dP (i64.wrap (gx-1)) h⟩))
   .refine cK (bM 0 _ (a7 0 _ (bG _ (ff _ (inl (aD aj λ_ n14 dO mx=>al ?_))))));refine aL h (λjt h=>?_) λjt h=>?_
    .refine al ?_;exact jh (dO _ (inl (jU [.bool false] rfl (by cases fC h;rfl) (by decide) (j_ (ka (by cases fC h;rfl) rfl rfl rfl (kb))))))
    .refine aQ (n14 _ (inl (al ?_)));refine aD aj λ_ n19 Ab _=>bc Ab λadO _ uc fz _=>?_;show a_ ak (.loop ?z1) _ _;have JB:∀n fX hT,o7 a0 n fX hT=some r->cy ak ?z1 adO (ay [(0,.ag 1 (a0.map bj)),(3,.int .i64 fX),(4,.int .i64 hT)]):=by
      refine cO λadP JC fX hT h=>cN uc λ_ n21 pn oi=>aD pn λ_ n22 _ wA=>?_;obtain⟨aO,kj,h⟩:=aA h;obtain⟨bx,jE,h⟩:=aA h;refine ld (af kj (af (br kj) (af jE (br jE)))) _ ?_;refine aL h (λh5 h=>?_) λh5 h=>?_
      .refine aQ (n22 _ (inl (bc pn λ_ n27 _ _ _=>dt ?_)));exact n27 _ (n21 _ (inr ⟨_,bQ rfl,JC fX (i64.wrap (hT-1)) h⟩))
      .refine cK (wA 2 _ (oi 2 _ (fz _ (n19 _ (inl (e0 (af jE (br jE)) _ ?_))))));refine da (bX [(0,.ag 1 ((List.set a0 (Int.toNat fX) aO).map bj)),(3,.int .i64 fX),(4,.int .i64 hT),(5,.int .i64 bx)] (λP ba=>?_) ?_)
       .simp only[aP.down,simprocAttr,kj,br kj,jE,br jE,cM,cJ];exact bJ (af kj (af (br kj) (af jE (af (br jE) @cM))))
       obtain⟨a7,rr,h⟩:=aA h;refine da (bX [(0,.ag 1 ((List.set (List.set a0 (Int.toNat fX) aO) (Int.toNat hT) bx).map bj)),(3,.int .i64 fX)] (λP ba=>?_) ?_)
       .simp only[aP.down,simprocAttr,rr,br rr,cM,cJ];exact bJ (af rr (af (br rr) @cM))
       refine ws [(0,.ag 1 ((List.set (List.set a0 (Int.toNat fX) aO) (Int.toNat hT) bx).map bj)),(6,.int .i64 (i64.wrap (fX+1)))] ?_;refine ws [(0,.ag 1 ((List.set (List.set a0 (Int.toNat fX) aO) (Int.toNat hT) bx).map bj)),(6,.int .i64 (i64.wrap (fX+1))),(7,.int .i64 (i64.wrap (((List.set (List.set a0 (Int.toNat fX) aO) (Int.toNat hT) bx).length:Int)-1)))] ?_;refine aD aj λ_ n35 adQ _=>bc adQ λadR _ adS nc _=>?_;show a_ ak (.loop ?JD) _ _;have JE:∀n i1 gW hr,qh n i1 gW hr=some r->cy ak ?JD adR (ay [(0,.ag 1 (i1.map bj)),(6,.int .i64 gW),(7,.int .i64 hr)]):=by
        refine cO λadT JF i1 gW hr h=>cN adS λ_ n37 DF adU=>aD DF λ_ n38 _ adV=>al ?_;refine aL h (λJG h=>?_) λJG h=>?_
        .refine aQ (n38 _ (inl (bc DF λ_ adW _ _ _=>?_)));obtain⟨bM,wK,h⟩:=aA h;refine e0 (af wK (br wK)) _ ?_;obtain⟨cG,nb,h⟩:=aA h;refine da (bX [(0,.ag 1 ((List.set i1 (Int.toNat gW) cG).map bj)),(6,.int .i64 gW),(7,.int .i64 hr),(8,.int .i64 bM)] (λP ba=>?_) ?_)
         .simp only[aP.down,simprocAttr,nb,br nb,wK,br wK,cM,cJ];exact bJ (af nb (af (br nb) (af wK (af (br wK) @cM))))
         obtain⟨eD,wL,h⟩:=aA h;refine da (bX [(0,.ag 1 ((List.set (List.set i1 (Int.toNat gW) cG) (Int.toNat hr) bM).map bj)),(6,.int .i64 gW),(7,.int .i64 hr)] (λP ba=>?_) ?_)
         .simp only[aP.down,simprocAttr,wL,br wL,cM,cJ];exact bJ (af wL (af (br wL) @cM))
         refine ws [(0,.ag 1 ((List.set (List.set i1 (Int.toNat gW) cG) (Int.toNat hr) bM).map bj)),(6,.int .i64 (i64.wrap (gW+1))),(7,.int .i64 hr)] ?_;refine wr [(0,.ag 1 ((List.set (List.set i1 (Int.toNat gW) cG) (Int.toNat hr) bM).map bj)),(6,.int .i64 (i64.wrap (gW+1))),(7,.int .i64 (i64.wrap (hr-1)))] ?_;exact adW _ (n37 _ (inr ⟨_,bQ rfl,JF (List.set (List.set i1 (Int.toNat gW) cG) (Int.toNat hr) bM) (i64.wrap (gW+1)) (i64.wrap (hr-1)) h⟩))
        .refine cK (adV 4 _ (adU 4 _ (nc _ (n35 _ (inl (al ?_))))));exact jh (aj _ (inl (jU [.bool true] rfl (by cases fC h;rfl) (by decide) (j_ (ka (by cases fC h;rfl) rfl rfl rfl (kb))))))
       exact c4 h λn h=>JE n (List.set (List.set a0 (Int.toNat fX) aO) (Int.toNat hT) bx) (i64.wrap (fX+1)) (i64.wrap (((List.set (List.set a0 (Int.toNat fX) aO) (Int.toNat hT) bx).length:Int)-1)) h
     exact c4 h λn h=>JB n gx (i64.wrap ((a0.length:Int)-1)) h
  .refine ld bY _ ?_;refine p4 rfl ?_;refine cK (bM 0 _ (a7 0 _ (bG _ (ff _ (inl (aD aj λ_ adX adY _=>al ?_))))));refine aL h (λJb h=>?_) λJb h=>?_
   .refine al ?_;exact jh (adY _ (inl (jU [.bool false] rfl (by cases fC h;rfl) (by decide) (j_ (ka (by cases fC h;rfl) rfl rfl rfl (kb))))))
   .refine aQ (adX _ (inl (al ?_)));refine aD aj λ_ adZ ad0 _=>bc ad0 λad1 _ Am ad2 _=>?_;show a_ ak (.loop ?z1) _ _;have JB:∀n fX hT,o7 a0 n fX hT=some r->cy ak ?z1 ad1 (ay [(0,.ag 1 (a0.map bj)),(3,.int .i64 fX),(4,.int .i64 hT)]):=by
     refine cO λadP JC fX hT h=>cN Am λ_ An DE ad3=>aD DE λ_ ad4 _ ad5=>?_;obtain⟨dT,nK,h⟩:=aA h;obtain⟨dh,sG,h⟩:=aA h;refine ld (af nK (af (br nK) (af sG (br sG)))) _ ?_;refine aL h (λad6 h=>?_) λad6 h=>?_
     .refine aQ (ad4 _ (inl (bc DE λ_ ad7 _ _ _=>dt ?_)));exact ad7 _ (An _ (inr ⟨_,bQ rfl,JC fX (i64.wrap (hT-1)) h⟩))
     .refine cK (ad5 2 _ (ad3 2 _ (ad2 _ (adZ _ (inl (e0 (af sG (br sG)) _ ?_))))));refine da (bX [(0,.ag 1 ((List.set a0 (Int.toNat fX) dT).map bj)),(3,.int .i64 fX),(4,.int .i64 hT),(5,.int .i64 dh)] (λP ba=>?_) ?_)
      .simp only[aP.down,simprocAttr,nK,br nK,sG,br sG,cM,cJ];exact bJ (af nK (af (br nK) (af sG (af (br sG) @cM))))
      obtain⟨gG,DG,h⟩:=aA h;refine da (bX [(0,.ag 1 ((List.set (List.set a0 (Int.toNat fX) dT) (Int.toNat hT) dh).map bj)),(3,.int .i64 fX)] (λP ba=>?_) ?_)
      .simp only[aP.down,simprocAttr,DG,br DG,cM,cJ];exact bJ (af DG (af (br DG) @cM))
      refine ws [(0,.ag 1 ((List.set (List.set a0 (Int.toNat fX) dT) (Int.toNat hT) dh).map bj)),(6,.int .i64 (i64.wrap (fX+1)))] ?_;refine ws [(0,.ag 1 ((List.set (List.set a0 (Int.toNat fX) dT) (Int.toNat hT) dh).map bj)),(6,.int .i64 (i64.wrap (fX+1))),(7,.int .i64 (i64.wrap (((List.set (List.set a0 (Int.toNat fX) dT) (Int.toNat hT) dh).length:Int)-1)))] ?_;refine aD aj λ_ ad8 ad9 _=>bc ad9 λad_ _ aea aeb _=>?_;show a_ ak (.loop ?JD) _ _;have JE:∀n i1 gW hr,qh n i1 gW hr=some r->cy ak ?JD ad_ (ay [(0,.ag 1 (i1.map bj)),(6,.int .i64 gW),(7,.int .i64 hr)]):=by
       refine cO λadT JF i1 gW hr h=>cN aea λ_ Ao wM aec=>aD wM λ_ aed _ aee=>al ?_;refine aL h (λaef h=>?_) λaef h=>?_
       .refine aQ (aed _ (inl (bc wM λ_ JH _ _ _=>?_)));obtain⟨l5,wN,h⟩:=aA h;refine e0 (af wN (br wN)) _ ?_;obtain⟨iC,wO,h⟩:=aA h;refine da (bX [(0,.ag 1 ((List.set i1 (Int.toNat gW) iC).map bj)),(6,.int .i64 gW),(7,.int .i64 hr),(8,.int .i64 l5)] (λP ba=>?_) ?_)
        .simp only[aP.down,simprocAttr,wO,br wO,wN,br wN,cM,cJ];exact bJ (af wO (af (br wO) (af wN (af (br wN) @cM))))
        obtain⟨mx,ru,h⟩:=aA h;refine da (bX [(0,.ag 1 ((List.set (List.set i1 (Int.toNat gW) iC) (Int.toNat hr) l5).map bj)),(6,.int .i64 gW),(7,.int .i64 hr)] (λP ba=>?_) ?_)
        .simp only[aP.down,simprocAttr,ru,br ru,cM,cJ];exact bJ (af ru (af (br ru) @cM))
        refine ws [(0,.ag 1 ((List.set (List.set i1 (Int.toNat gW) iC) (Int.toNat hr) l5).map bj)),(6,.int .i64 (i64.wrap (gW+1))),(7,.int .i64 hr)] ?_;refine wr [(0,.ag 1 ((List.set (List.set i1 (Int.toNat gW) iC) (Int.toNat hr) l5).map bj)),(6,.int .i64 (i64.wrap (gW+1))),(7,.int .i64 (i64.wrap (hr-1)))] ?_;exact JH _ (Ao _ (inr ⟨_,bQ rfl,JF (List.set (List.set i1 (Int.toNat gW) iC) (Int.toNat hr) l5) (i64.wrap (gW+1)) (i64.wrap (hr-1)) h⟩))
       .refine cK (aee 4 _ (aec 4 _ (aeb _ (ad8 _ (inl (al ?_))))));exact jh (aj _ (inl (jU [.bool true] rfl (by cases fC h;rfl) (by decide) (j_ (ka (by cases fC h;rfl) rfl rfl rfl (kb))))))
      exact c4 h λn h=>JE n (List.set (List.set a0 (Int.toNat fX) dT) (Int.toNat hT) dh) (i64.wrap (fX+1)) (i64.wrap (((List.set (List.set a0 (Int.toNat fX) dT) (Int.toNat hT) dh).length:Int)-1)) h
    exact c4 h λn h=>JB n gx (i64.wrap ((a0.length:Int)-1)) h
 exact c4 h λn h=>dV n (i64.wrap ((a0.length:Int)-2)) h
theorem aeg (a0 r) (h:vL a0=some r):aY ak 75 [.ag 3 (a0.map b0)] (.ag 1 (r.map c7)) [.ag 3 (a0.map b0)]:=by
 refine bA [0] [.tmp 2] Tryz.func75 Z5 λbz aj bw=>al ?_;refine e0 (show∀s,fa ak s 67 0 []=some (.ag 1 [],s)from λs=>by kernel_rfl) _ ?_;obtain⟨U,cm,h⟩:=aA h;refine c9 (adH (a0.length:Int) _ cm) _ ?_;refine bc aj λnI _ b9 _ a7=>?_;show a_ ak (.loop ?xO) _ _;have aeh:∀n pa pb,my a0 n pa pb=some r->cy ak ?xO nI (ay [(0,.ag 3 (a0.map b0)),(3,.ag 1 (pa.map c7)),(4,.ag 1 (pb.map bj))]):=by
  refine cO λm7 PU pa pb h=>cN b9 λ_ n6 c0 bM=>bc c0 λPV dc ei _ cG=>?_;obtain⟨ah,jx,h⟩:=aA h;refine da (bX [(0,.ag 3 (a0.map b0)),(3,.ag 1 (pa.map c7)),(4,.ag 1 (pb.map bj)),(5,.ag 3 (ah.map b0))] (λP ba=>?_) ?_)
  ·(try simp only[aP.down,simprocAttr]);refine eB (adJ a0 pb _ jx) rfl rfl (by simp only[aP.down,simprocAttr,hN,hP,hQ,dr, @cr _ b0 c6 (λ_=>qt _), @cr _ bj bj (λ_=>mA _)]<;>rfl) rfl (inr (jV (λ_=>IG _) _)) ?_;simp only[aP.down,simprocAttr];exact bJ trivial
  refine al ?_;refine aD ei λ_ n11 gJ gG=>bc gJ λue _ lf e8 l5=>?_;show a_ ak (.loop ?IJ) _ _;have aei:∀n er gX gR,sv (my a0 m7) a0 ah n er gX gR=some r->cy ak ?IJ ue (ay [(0,.ag 3 (a0.map b0)),(3,.ag 1 (er.map c7)),(4,.ag 1 (gX.map bj)),(5,.ag 3 (ah.map b0)),(6,.int .i64 gR)]):=by
   refine cO λ_ aej er gX gR h=>cN lf λ_ n13 eM iC=>aD eM λ_ n14 _ mx=>?_;rcases ez h with⟨jt,h⟩|⟨jt,h⟩
   .obtain⟨aO,c3,h⟩:=aA h;obtain⟨bx,dZ,h⟩:=aA h;refine da (bX [(0,.ag 3 (a0.map b0)),(3,.ag 1 (er.map c7)),(4,.ag 1 (gX.map bj)),(5,.ag 3 (ah.map b0)),(6,.int .i64 gR),(27,.bool bx)] (λP ba=>?_) ?_)
    ·(try simp only[aP.down,simprocAttr,jt,c3,br c3]);refine gU (adL ah aO _ dZ) rfl rfl (by simp only[aP.down,simprocAttr,jt,c3,br c3,IW.down]<;>rfl) rfl (inr (by rfl)) ?_;simp only[aP.down,simprocAttr,jt,c3,br c3];exact bJ (af jt (af c3 (br c3)))
    refine aL h (λfi h=>?_) λfi h=>?_
    .refine aQ (n14 _ (inl (bc eM λ_ n20 _ _ vK=>dt ?_)));exact n20 _ (n13 _ (inr ⟨_,bQ rfl,aej er gX (i64.wrap (gR-1)) h⟩))
    .refine cK (mx 2 _ (iC 2 _ (e8 _ (n11 _ (inl ?_)))));show a_ ak (.seq _ ?z6) _ _;have ui:∀l6 o9,o8 (my a0 m7) a0 l6 o9=some r->a_ ak ?z6 PV (ay [(0,.ag 3 (a0.map b0)),(3,.ag 1 (l6.map c7)),(4,.ag 1 (o9.map bj))]):=by
      intro l6 o9 h;obtain⟨a7,kj,h⟩:=aA h;refine da (bX [(0,.ag 3 (a0.map b0)),(3,.ag 1 (l6.map c7)),(4,.ag 1 (a7.2.map bj)),(67,.bool (!a7.1))] (λP ba=>?_) ?_)
      ·(try simp only[aP.down,simprocAttr]);refine l0 [⟨.h 4 [],true,_,_⟩] (PT o9 _ kj) rfl rfl rfl (by simp only[aP.down,simprocAttr,PB.down]) rfl rfl (inl rfl) ?_;simp only[aP.down,simprocAttr,kU];exact bJ trivial
      refine aL h (λnJ h=>?_) λnJ h=>?_
      .refine al ?_;exact jh (ei _ (inl (jU [.ag 1 (l6.map c7)] rfl (by cases fC h;rfl) (by decide) (j_ (ka (by cases fC h;rfl) rfl rfl rfl (kb))))))
      .exact aQ (dc _ (n6 _ (inr ⟨_,bQ rfl,PU l6 a7.2 h⟩)))
     refine aD ei λ_ n22 l8 _=>?_;rcases ez h with⟨iL,h⟩|⟨iL,h⟩
     .refine e0 iL _ ?_;refine iz rfl ?_;obtain⟨alw,JI,h⟩:=aA h;(try simp only[ph.down,Nat.zero_add,Nat.add_zero,reduceAdd]at JI);refine ji (bX (K:=dK _) [(0,.ag 3 (a0.map b0)),(3,.ag 1 (List.map c7 er++[.bd])),(4,.ag 1 (gX.map bj)),(5,.ag 3 (ah.map b0)),(6,.int .i64 gR)] (λP ba=>?_) (vd [(0,.ag 3 (a0.map b0)),(3,.ag 1 ((er++[[]]).map c7)),(4,.ag 1 (gX.map bj)),(5,.ag 3 (ah.map b0)),(6,.int .i64 gR)] (jW [] rfl (dB rfl (jY (t:=3) (d:=.ag 1 (List.map c7 er++[.bd])) (bg:=.ag 1 ((er++[[]]).map c7)) rfl rfl (.ag (yj (e:=c7) (ys:=[[]]) (.cons (.p1) (.nil)) _)) (by decide) (dB rfl (dB rfl (dB rfl (jX))))))) ?_))
      .simp only[aP.down,simprocAttr,sD.down,JI];exact bJ (af sD.down JI)
      refine aD l8 λ_ n31 Ag _=>ws [(0,.ag 3 (a0.map b0)),(3,.ag 1 ((er++[[]]).map c7)),(4,.ag 1 (gX.map bj)),(5,.ag 3 (ah.map b0)),(6,.int .i64 gR),(7,.int .i64 (i64.wrap (((er++[[]]).length:Int)-1)))] ?_;refine bc Ag λaek _ I8 jF _=>?_;show a_ ak (.loop ?rn) _ _;have rp:∀n ev eR fe eS,nA (my a0 m7) a0 ah n ev eR fe eS=some r->cy ak ?rn aek (ay [(0,.ag 3 (a0.map b0)),(3,.ag 1 (ev.map c7)),(4,.ag 1 (eR.map bj)),(5,.ag 3 (ah.map b0)),(6,.int .i64 fe),(7,.int .i64 eS)]):=by
       refine cO λJJ rq ev eR fe eS h=>cN I8 λ_ n34 DB ael=>aD DB λ_ n35 _ aem=>al ?_;refine aL h (λsH h=>?_) λsH h=>?_
       .refine aQ (n35 _ (inl (aD DB λ_ n38 Jo _=>bc Jo λ_ n39 _ _ _=>?_)));obtain⟨bM,DH,h⟩:=aA h;obtain⟨cG,DI,h⟩:=aA h;refine hM (bX [(0,.ag 3 (a0.map b0)),(3,.ag 1 ((List.set ev (Int.toNat eS) bM).map c7)),(4,.ag 1 (eR.map bj)),(5,.ag 3 (ah.map b0)),(6,.int .i64 fe),(7,.int .i64 eS)] (λP ba=>?_) ?_)
        .simp only[aP.down,simprocAttr,DH,br DH,DI,br DI,cM,cJ];exact bJ (af DH (af (br DH) (af DI (af (br DI) @cM))))
        refine n39 _ (n38 _ (inl (wr [(0,.ag 3 (a0.map b0)),(3,.ag 1 ((List.set ev (Int.toNat eS) bM).map c7)),(4,.ag 1 (eR.map bj)),(5,.ag 3 (ah.map b0)),(6,.int .i64 fe),(7,.int .i64 (i64.wrap (eS-1)))] ?_)));exact n34 _ (inr ⟨_,bQ rfl,rq (List.set ev (Int.toNat eS) bM) eR fe (i64.wrap (eS-1)) h⟩)
       .refine cK (aem 4 _ (ael 4 _ (jF _ (n31 _ (inr ⟨[(0,.ag 3 (a0.map b0)),(3,.ag 1 (ev.map c7)),(4,.ag 1 (eR.map bj)),(5,.slice (ah.map c6)),(6,.int .i64 fe),(7,.int .i64 eS),(50,.bool (decide (fe<eS)))],jW [] rfl (dB rfl (dB rfl (dB rfl (jY (t:=5) (d:=.ag 3 (ah.map b0)) (bg:=.slice (ah.map c6)) rfl rfl (ve rfl rfl (by simp only[Ds.down,I.share,I.shares]<;>rfl)) (by decide) (dB rfl (dB rfl (dB rfl (jX)))))))),?_⟩)))));obtain⟨eD,nb,h⟩:=aA h;refine hM (bX [(0,.ag 3 (a0.map b0)),(3,.ag 1 ((List.set ev (Int.toNat fe) ah).map c7)),(4,.ag 1 (eR.map bj))] (λP ba=>?_) ?_)
        .simp only[aP.down,simprocAttr,nb,br nb,cM,cJ];exact bJ (af nb (af (br nb) @cM))
        exact n22 _ (inr ⟨_,bQ rfl,ui (List.set ev (Int.toNat fe) ah) eR h⟩)
      exact c4 h λn h=>rp n (er++[[]]) gX gR (i64.wrap (((er++[[]]).length:Int)-1)) h
     .obtain⟨dT,Js,h⟩:=aA h;refine da (bX [(0,.ag 3 (a0.map b0)),(3,.ag 1 (er.map c7)),(4,.ag 1 (gX.map bj)),(5,.ag 3 (ah.map b0)),(6,.int .i64 gR),(41,.bool (!dT))] (λP ba=>?_) ?_)
      ·(try simp only[aP.down,simprocAttr,iL,c3,br c3]);refine gU (PS aO ah _ Js) rfl rfl (by simp only[aP.down,simprocAttr,iL,c3,br c3,IW.down]<;>rfl) rfl (inr (by rfl)) ?_;simp only[aP.down,simprocAttr,iL,c3,br c3];exact bJ (af iL (af c3 (br c3)))
      refine aL h (λJt h=>?_) λJt h=>?_
      .obtain⟨u64,Aj,h⟩:=aA h;(try simp only[ph.down,Nat.zero_add,Nat.add_zero,reduceAdd]at Aj);refine ji (bX (K:=dK _) [(0,.ag 3 (a0.map b0)),(3,.ag 1 (List.map c7 er++[.bd])),(4,.ag 1 (gX.map bj)),(5,.ag 3 (ah.map b0)),(6,.int .i64 gR)] (λP ba=>?_) (vd [(0,.ag 3 (a0.map b0)),(3,.ag 1 ((er++[[]]).map c7)),(4,.ag 1 (gX.map bj)),(5,.ag 3 (ah.map b0)),(6,.int .i64 gR)] (jW [] rfl (dB rfl (jY (t:=3) (d:=.ag 1 (List.map c7 er++[.bd])) (bg:=.ag 1 ((er++[[]]).map c7)) rfl rfl (.ag (yj (e:=c7) (ys:=[[]]) (.cons (.p1) (.nil)) _)) (by decide) (dB rfl (dB rfl (dB rfl (jX))))))) ?_))
       .simp only[aP.down,simprocAttr,sD.down,Aj];exact bJ (af sD.down Aj)
       refine aD l8 λ_ n50 aen _=>ws [(0,.ag 3 (a0.map b0)),(3,.ag 1 ((er++[[]]).map c7)),(4,.ag 1 (gX.map bj)),(5,.ag 3 (ah.map b0)),(6,.int .i64 gR),(7,.int .i64 (i64.wrap (((er++[[]]).length:Int)-1)))] ?_;refine bc aen λJu _ Jv Ak _=>?_;show a_ ak (.loop ?rn) _ _;have rp:∀n ev eR fe eS,nA (my a0 m7) a0 ah n ev eR fe eS=some r->cy ak ?rn Ju (ay [(0,.ag 3 (a0.map b0)),(3,.ag 1 (ev.map c7)),(4,.ag 1 (eR.map bj)),(5,.ag 3 (ah.map b0)),(6,.int .i64 fe),(7,.int .i64 eS)]):=by
        refine cO λJJ rq ev eR fe eS h=>cN Jv λ_ Jw Al Jx=>aD Al λ_ Jy _ Jz=>al ?_;refine aL h (λAf h=>?_) λAf h=>?_
        .refine aQ (Jy _ (inl (aD Al λ_ n57 Am _=>bc Am λ_ An _ _ _=>?_)));obtain⟨dh,wJ,h⟩:=aA h;obtain⟨gG,nK,h⟩:=aA h;refine hM (bX [(0,.ag 3 (a0.map b0)),(3,.ag 1 ((List.set ev (Int.toNat eS) dh).map c7)),(4,.ag 1 (eR.map bj)),(5,.ag 3 (ah.map b0)),(6,.int .i64 fe),(7,.int .i64 eS)] (λP ba=>?_) ?_)
         .simp only[aP.down,simprocAttr,wJ,br wJ,nK,br nK,cM,cJ];exact bJ (af wJ (af (br wJ) (af nK (af (br nK) @cM))))
         refine An _ (n57 _ (inl (wr [(0,.ag 3 (a0.map b0)),(3,.ag 1 ((List.set ev (Int.toNat eS) dh).map c7)),(4,.ag 1 (eR.map bj)),(5,.ag 3 (ah.map b0)),(6,.int .i64 fe),(7,.int .i64 (i64.wrap (eS-1)))] ?_)));exact Jw _ (inr ⟨_,bQ rfl,rq (List.set ev (Int.toNat eS) dh) eR fe (i64.wrap (eS-1)) h⟩)
        .refine cK (Jz 4 _ (Jx 4 _ (Ak _ (n50 _ (inr ⟨[(0,.ag 3 (a0.map b0)),(3,.ag 1 (ev.map c7)),(4,.ag 1 (eR.map bj)),(5,.slice (ah.map c6)),(6,.int .i64 fe),(7,.int .i64 eS),(50,.bool (decide (fe<eS)))],jW [] rfl (dB rfl (dB rfl (dB rfl (jY (t:=5) (d:=.ag 3 (ah.map b0)) (bg:=.slice (ah.map c6)) rfl rfl (ve rfl rfl (by simp only[Ds.down,I.share,I.shares]<;>rfl)) (by decide) (dB rfl (dB rfl (dB rfl (jX)))))))),?_⟩)))));obtain⟨l5,DJ,h⟩:=aA h;refine hM (bX [(0,.ag 3 (a0.map b0)),(3,.ag 1 ((List.set ev (Int.toNat fe) ah).map c7)),(4,.ag 1 (eR.map bj))] (λP ba=>?_) ?_)
         .simp only[aP.down,simprocAttr,DJ,br DJ,cM,cJ];exact bJ (af DJ (af (br DJ) @cM))
         exact n22 _ (inr ⟨_,bQ rfl,ui (List.set ev (Int.toNat fe) ah) eR h⟩)
       exact c4 h λn h=>rp n (er++[[]]) gX gR (i64.wrap (((er++[[]]).length:Int)-1)) h
      .exact aQ (n22 _ (inr ⟨_,bQ rfl,ui er gX h⟩))
   .refine e0 jt _ ?_;refine p4 rfl ?_;refine cK (mx 2 _ (iC 2 _ (e8 _ (n11 _ (inl ?_)))));show a_ ak (.seq _ ?z6) _ _;have ui:∀l6 o9,o8 (my a0 m7) a0 l6 o9=some r->a_ ak ?z6 PV (ay [(0,.ag 3 (a0.map b0)),(3,.ag 1 (l6.map c7)),(4,.ag 1 (o9.map bj))]):=by
     intro l6 o9 h;obtain⟨iC,aeo,h⟩:=aA h;refine da (bX [(0,.ag 3 (a0.map b0)),(3,.ag 1 (l6.map c7)),(4,.ag 1 (iC.2.map bj)),(67,.bool (!iC.1))] (λP ba=>?_) ?_)
     ·(try simp only[aP.down,simprocAttr]);refine l0 [⟨.h 4 [],true,_,_⟩] (PT o9 _ aeo) rfl rfl rfl (by simp only[aP.down,simprocAttr,PB.down]) rfl rfl (inl rfl) ?_;simp only[aP.down,simprocAttr,kU];exact bJ trivial
     refine aL h (λJK h=>?_) λJK h=>?_
     .refine al ?_;exact jh (ei _ (inl (jU [.ag 1 (l6.map c7)] rfl (by cases fC h;rfl) (by decide) (j_ (ka (by cases fC h;rfl) rfl rfl rfl (kb))))))
     .exact aQ (dc _ (n6 _ (inr ⟨_,bQ rfl,PU l6 iC.2 h⟩)))
    refine aD ei λ_ JL PW _=>?_;rcases ez h with⟨wP,h⟩|⟨wP,h⟩
    .refine e0 wP _ ?_;refine iz rfl ?_;obtain⟨alx,uh,h⟩:=aA h;(try simp only[ph.down,Nat.zero_add,Nat.add_zero,reduceAdd]at uh);refine ji (bX (K:=dK _) [(0,.ag 3 (a0.map b0)),(3,.ag 1 (List.map c7 er++[.bd])),(4,.ag 1 (gX.map bj)),(5,.ag 3 (ah.map b0)),(6,.int .i64 gR)] (λP ba=>?_) (vd [(0,.ag 3 (a0.map b0)),(3,.ag 1 ((er++[[]]).map c7)),(4,.ag 1 (gX.map bj)),(5,.ag 3 (ah.map b0)),(6,.int .i64 gR)] (jW [] rfl (dB rfl (jY (t:=3) (d:=.ag 1 (List.map c7 er++[.bd])) (bg:=.ag 1 ((er++[[]]).map c7)) rfl rfl (.ag (yj (e:=c7) (ys:=[[]]) (.cons (.p1) (.nil)) _)) (by decide) (dB rfl (dB rfl (dB rfl (jX))))))) ?_))
     .simp only[aP.down,simprocAttr,sD.down,uh];exact bJ (af sD.down uh)
     refine aD PW λ_ Ao wM _=>ws [(0,.ag 3 (a0.map b0)),(3,.ag 1 ((er++[[]]).map c7)),(4,.ag 1 (gX.map bj)),(5,.ag 3 (ah.map b0)),(6,.int .i64 gR),(7,.int .i64 (i64.wrap (((er++[[]]).length:Int)-1)))] ?_;refine bc wM λaep _ aeq aer _=>?_;show a_ ak (.loop ?rn) _ _;have rp:∀n ev eR fe eS,nA (my a0 m7) a0 ah n ev eR fe eS=some r->cy ak ?rn aep (ay [(0,.ag 3 (a0.map b0)),(3,.ag 1 (ev.map c7)),(4,.ag 1 (eR.map bj)),(5,.ag 3 (ah.map b0)),(6,.int .i64 fe),(7,.int .i64 eS)]):=by
      refine cO λJJ rq ev eR fe eS h=>cN aeq λ_ aes PX aet=>aD PX λ_ JH _ aeu=>al ?_;refine aL h (λaev h=>?_) λaev h=>?_
      .refine aQ (JH _ (inl (aD PX λ_ aew aex _=>bc aex λ_ aey _ _ _=>?_)));obtain⟨mx,ru,h⟩:=aA h;obtain⟨oq,DK,h⟩:=aA h;refine hM (bX [(0,.ag 3 (a0.map b0)),(3,.ag 1 ((List.set ev (Int.toNat eS) mx).map c7)),(4,.ag 1 (eR.map bj)),(5,.ag 3 (ah.map b0)),(6,.int .i64 fe),(7,.int .i64 eS)] (λP ba=>?_) ?_)
       .simp only[aP.down,simprocAttr,ru,br ru,DK,br DK,cM,cJ];exact bJ (af ru (af (br ru) (af DK (af (br DK) @cM))))
       refine aey _ (aew _ (inl (wr [(0,.ag 3 (a0.map b0)),(3,.ag 1 ((List.set ev (Int.toNat eS) mx).map c7)),(4,.ag 1 (eR.map bj)),(5,.ag 3 (ah.map b0)),(6,.int .i64 fe),(7,.int .i64 (i64.wrap (eS-1)))] ?_)));exact aes _ (inr ⟨_,bQ rfl,rq (List.set ev (Int.toNat eS) mx) eR fe (i64.wrap (eS-1)) h⟩)
      .refine cK (aeu 4 _ (aet 4 _ (aer _ (Ao _ (inr ⟨[(0,.ag 3 (a0.map b0)),(3,.ag 1 (ev.map c7)),(4,.ag 1 (eR.map bj)),(5,.slice (ah.map c6)),(6,.int .i64 fe),(7,.int .i64 eS),(50,.bool (decide (fe<eS)))],jW [] rfl (dB rfl (dB rfl (dB rfl (jY (t:=5) (d:=.ag 3 (ah.map b0)) (bg:=.slice (ah.map c6)) rfl rfl (ve rfl rfl (by simp only[Ds.down,I.share,I.shares]<;>rfl)) (by decide) (dB rfl (dB rfl (dB rfl (jX)))))))),?_⟩)))));obtain⟨rj,DL,h⟩:=aA h;refine hM (bX [(0,.ag 3 (a0.map b0)),(3,.ag 1 ((List.set ev (Int.toNat fe) ah).map c7)),(4,.ag 1 (eR.map bj))] (λP ba=>?_) ?_)
       .simp only[aP.down,simprocAttr,DL,br DL,cM,cJ];exact bJ (af DL (af (br DL) @cM))
       exact JL _ (inr ⟨_,bQ rfl,ui (List.set ev (Int.toNat fe) ah) eR h⟩)
     exact c4 h λn h=>rp n (er++[[]]) gX gR (i64.wrap (((er++[[]]).length:Int)-1)) h
    .obtain⟨jo,sI,h⟩:=aA h;obtain⟨qi,aez,h⟩:=aA h;refine da (bX [(0,.ag 3 (a0.map b0)),(3,.ag 1 (er.map c7)),(4,.ag 1 (gX.map bj)),(5,.ag 3 (ah.map b0)),(6,.int .i64 gR),(41,.bool (!qi))] (λP ba=>?_) ?_)
     ·(try simp only[aP.down,simprocAttr,wP,sI,br sI]);refine gU (PS jo ah _ aez) rfl rfl (by simp only[aP.down,simprocAttr,wP,sI,br sI,IW.down]<;>rfl) rfl (inr (by rfl)) ?_;simp only[aP.down,simprocAttr,wP,sI,br sI];exact bJ (af wP (af sI (br sI)))
     refine aL h (λaeA h=>?_) λaeA h=>?_
     .obtain⟨aly,JM,h⟩:=aA h;(try simp only[ph.down,Nat.zero_add,Nat.add_zero,reduceAdd]at JM);refine ji (bX (K:=dK _) [(0,.ag 3 (a0.map b0)),(3,.ag 1 (List.map c7 er++[.bd])),(4,.ag 1 (gX.map bj)),(5,.ag 3 (ah.map b0)),(6,.int .i64 gR)] (λP ba=>?_) (vd [(0,.ag 3 (a0.map b0)),(3,.ag 1 ((er++[[]]).map c7)),(4,.ag 1 (gX.map bj)),(5,.ag 3 (ah.map b0)),(6,.int .i64 gR)] (jW [] rfl (dB rfl (jY (t:=3) (d:=.ag 1 (List.map c7 er++[.bd])) (bg:=.ag 1 ((er++[[]]).map c7)) rfl rfl (.ag (yj (e:=c7) (ys:=[[]]) (.cons (.p1) (.nil)) _)) (by decide) (dB rfl (dB rfl (dB rfl (jX))))))) ?_))
      .simp only[aP.down,simprocAttr,sD.down,JM];exact bJ (af sD.down JM)
      refine aD PW λ_ aeB aeC _=>ws [(0,.ag 3 (a0.map b0)),(3,.ag 1 ((er++[[]]).map c7)),(4,.ag 1 (gX.map bj)),(5,.ag 3 (ah.map b0)),(6,.int .i64 gR),(7,.int .i64 (i64.wrap (((er++[[]]).length:Int)-1)))] ?_;refine bc aeC λaeD _ aeE aeF _=>?_;show a_ ak (.loop ?rn) _ _;have rp:∀n ev eR fe eS,nA (my a0 m7) a0 ah n ev eR fe eS=some r->cy ak ?rn aeD (ay [(0,.ag 3 (a0.map b0)),(3,.ag 1 (ev.map c7)),(4,.ag 1 (eR.map bj)),(5,.ag 3 (ah.map b0)),(6,.int .i64 fe),(7,.int .i64 eS)]):=by
       refine cO λJJ rq ev eR fe eS h=>cN aeE λ_ aeG PY aeH=>aD PY λ_ aeI _ aeJ=>al ?_;refine aL h (λaeK h=>?_) λaeK h=>?_
       .refine aQ (aeI _ (inl (aD PY λ_ n101 aeL _=>bc aeL λ_ n102 _ _ _=>?_)));obtain⟨o_,DM,h⟩:=aA h;obtain⟨vK,DN,h⟩:=aA h;refine hM (bX [(0,.ag 3 (a0.map b0)),(3,.ag 1 ((List.set ev (Int.toNat eS) o_).map c7)),(4,.ag 1 (eR.map bj)),(5,.ag 3 (ah.map b0)),(6,.int .i64 fe),(7,.int .i64 eS)] (λP ba=>?_) ?_)
        .simp only[aP.down,simprocAttr,DM,br DM,DN,br DN,cM,cJ];exact bJ (af DM (af (br DM) (af DN (af (br DN) @cM))))
        refine n102 _ (n101 _ (inl (wr [(0,.ag 3 (a0.map b0)),(3,.ag 1 ((List.set ev (Int.toNat eS) o_).map c7)),(4,.ag 1 (eR.map bj)),(5,.ag 3 (ah.map b0)),(6,.int .i64 fe),(7,.int .i64 (i64.wrap (eS-1)))] ?_)));exact aeG _ (inr ⟨_,bQ rfl,rq (List.set ev (Int.toNat eS) o_) eR fe (i64.wrap (eS-1)) h⟩)
       .refine cK (aeJ 4 _ (aeH 4 _ (aeF _ (aeB _ (inr ⟨[(0,.ag 3 (a0.map b0)),(3,.ag 1 (ev.map c7)),(4,.ag 1 (eR.map bj)),(5,.slice (ah.map c6)),(6,.int .i64 fe),(7,.int .i64 eS),(50,.bool (decide (fe<eS)))],jW [] rfl (dB rfl (dB rfl (dB rfl (jY (t:=5) (d:=.ag 3 (ah.map b0)) (bg:=.slice (ah.map c6)) rfl rfl (ve rfl rfl (by simp only[Ds.down,I.share,I.shares]<;>rfl)) (by decide) (dB rfl (dB rfl (dB rfl (jX)))))))),?_⟩)))));obtain⟨oi,DO,h⟩:=aA h;refine hM (bX [(0,.ag 3 (a0.map b0)),(3,.ag 1 ((List.set ev (Int.toNat fe) ah).map c7)),(4,.ag 1 (eR.map bj))] (λP ba=>?_) ?_)
        .simp only[aP.down,simprocAttr,DO,br DO,cM,cJ];exact bJ (af DO (af (br DO) @cM))
        exact JL _ (inr ⟨_,bQ rfl,ui (List.set ev (Int.toNat fe) ah) eR h⟩)
      exact c4 h λn h=>rp n (er++[[]]) gX gR (i64.wrap (((er++[[]]).length:Int)-1)) h
     .exact aQ (JL _ (inr ⟨_,bQ rfl,ui er gX h⟩))
  exact c4 h λn h=>aei n pa pb (pa.length:Int) h
 exact c4 h λn h=>aeh n [] U h
theorem aeM (a0 J r) (h:Ct a0 J=some r):aY ak 34 [h3 a0,.ag 3 (J.map b0)] (.tuple [.ag 1 (r.1.map c7),.int .i64 r.2]) [.hole,.ag 3 (J.map b0)]:=by
 refine bA [0,1] [.tmp 4,.tmp 5] Tryz.func34 Z6 λbz aj bw=>al ?_;refine aD aj λ_ bB aZ ah=>?_;obtain⟨U,cm,h⟩:=aA h;rcases ez h with⟨cI,h⟩|⟨cI,h⟩
 .refine da (bX [(1,.ag 3 (J.map b0)),(12,.bool true)] (λP ba=>?_) ?_)
  .refine eB (PQ a0 _ cm) rfl rfl (by simp only[aP.down,simprocAttr,(gd cI),Dt.down]<;>rfl) rfl (inr (by rfl)) ?_;simp only[aP.down,simprocAttr,(gd cI)];exact bJ (gd cI)
  refine iz rfl ?_;refine al ?_;exact jh (aZ _ (inr ⟨[(4,.ag 1 []),(5,.int .i64 1),(1,.ag 3 (J.map b0))],jW [] rfl (jY (t:=4) (d:=.bd) rfl rfl (.kN _) (by decide) (dB rfl (dB rfl (jX)))),jU [.ag 1 [],.int .i64 1] rfl (by cases fC h;rfl) (by decide) (j_ (k_ (ka (by cases fC h;rfl) rfl rfl rfl (kb))))⟩))
 .obtain⟨ah,bW,h⟩:=aA h;refine da (bX [(1,.ag 3 (J.map b0)),(12,.bool (!ah))] (λP ba=>?_) ?_)
  .refine eB (PQ a0 _ cm) rfl rfl (by simp only[aP.down,simprocAttr,(bS cI),Dt.down]<;>rfl) rfl (inr (by rfl)) ?_;simp only[aP.down,simprocAttr,(bS cI)];refine gU (adG a0 J _ bW) rfl rfl (by simp only[aP.down,simprocAttr,(bS cI),hN,hP,hQ,dr, @cr _ b4 b4 (λ_=>Df _), @cr _ hj hj (λ_=>Di _), @cr _ cq cq (λ_=>pd _), @cr _ cd cd (λ_=>kA _), @cr _ cd cd (λ_=>kA _), @cr _ b0 c6 (λ_=>qt _)]<;>rfl) rfl (inr (by rfl)) ?_;simp only[aP.down,simprocAttr,(bS cI)];exact bJ (bS cI)
  refine aL h (λbY h=>?_) λbY h=>?_
  .refine al ?_;exact jh (aZ _ (inr ⟨[(4,.ag 1 []),(5,.int .i64 1),(1,.ag 3 (J.map b0))],jW [] rfl (jY (t:=4) (d:=.bd) rfl rfl (.kN _) (by decide) (dB rfl (dB rfl (jX)))),jU [.ag 1 [],.int .i64 1] rfl (by cases fC h;rfl) (by decide) (j_ (k_ (ka (by cases fC h;rfl) rfl rfl rfl (kb))))⟩))
  .refine aQ (bB _ (inl ?_));obtain⟨aO,lW,h⟩:=aA h;refine da (bX [(1,.ag 3 (J.map b0)),(4,.ag 1 (aO.map c7)),(5,.int .i64 0)] (λP ba=>?_) ?_)
   ·(try simp only[aP.down,simprocAttr]);refine l0 [⟨.h 1 [],true,_,_⟩] (aeg J _ lW) rfl rfl rfl (by simp only[aP.down,simprocAttr,IX.down]) rfl rfl (inl rfl) ?_;simp only[aP.down,simprocAttr,kU];exact bJ trivial
   exact jh (aj _ (inl (jU [.ag 1 (aO.map c7),.int .i64 0] rfl (by cases fC h;rfl) (by decide) (j_ (k_ (ka (by cases fC h;rfl) rfl rfl rfl (kb)))))))
theorem kk (a0 J a2 r) (h:jB a0 J a2=some r):aY ak 99 [.int .i64 a0,.int .i64 J,.int .i64 a2] (.bool r) []:=by
 refine bA [0,1,2] [.tmp 6] Tryz.func99 Z7 λbz aj bw=>al ?_;refine lL (decide (J<=a0)) [(6,.bool ((decide (J<=a0))&&(decide (a0<=a2))))] ?_;exact dY aj [.bool ((decide (J<=a0))&&(decide (a0<=a2)))]
theorem aeN (a0 r) (h:Hl a0=some r):aY ak 312 [b4 a0] (.bool r) []:=by
 refine bA [0] [.tmp 2] Tryz.func312 Z8 λbz aj bw=>al ?_;obtain⟨U,aW,h⟩:=aA h;refine c9 (kk a0.db 0 3 _ aW) _ ?_;exact dY aj [.bool (!U)]
theorem aeO (a0 r) (h:Hn a0=some r):aY ak 313 [.slice (a0.map b4),.fn 312 []] (.int .i64 r) []:=by
 refine bA [0,1] [.tmp 4] Tryz.func313 Z9 λbz aj bw=>al ?_;refine aD aj λ_ bB aZ ah=>al ?_;refine bc aZ λdI _ bU bG _=>?_;show a_ ak (.loop ?dN) _ _;have dV:∀n cH,zd a0 n cH=some r->cy ak ?dN dI (ay [(0,.slice (a0.map b4)),(1,.fn 312 []),(7,.int .i64 (a0.length:Int)),(8,.int .i64 cH)]):=by
  refine cO λ_ dP cH h=>cN bU λ_ dd b9 a7=>al ?_;refine aD b9 λ_ dc _ cG=>aL h (λbY h=>?_) λbY h=>?_
  .refine aQ (dc _ (inl (aD b9 λ_ cf bP _=>bc bP λ_ n10 cz _ _=>al ?_)));obtain⟨U,dw,h⟩:=aA h;obtain⟨ah,dF,h⟩:=aA h;refine gH dw (aeN U _ dF) _ ?_;refine aL h (λeF h=>?_) λeF h=>?_
   .exact aK cz [.int .i64 cH]
   .refine aQ (n10 _ (cf _ (inl (dt ?_))));exact dd _ (inr ⟨_,bQ rfl,dP (i64.wrap (cH+1)) h⟩)
  .exact cK (cG 0 _ (a7 0 _ (bG _ (bB _ (inl (aK aj [.int .i64 (-1)]))))))
 exact c4 h λn h=>dV n 0 h
theorem aeP (a0 r) (h:Ho a0=some r):aY ak 311 [.slice (a0.map b4),.fn 312 []] (.bool r) []:=by
 refine bA [0,1] [.tmp 4] Tryz.func311 Z_ λbz aj bw=>al ?_;obtain⟨U,aW,h⟩:=aA h;refine c9 (aeO a0 _ aW) _ ?_;exact dY aj [.bool (decide (0<=U))]
theorem aeQ (a0 r) (h:Cu a0=some r):aY ak 302 [.slice (a0.map b4)] (.bool r) []:=by
 refine bA [0] [.tmp 2] Tryz.func302 aaa λbz aj bw=>al ?_;obtain⟨U,aW,h⟩:=aA h;refine c9 (aeP a0 _ aW) _ ?_;exact dY aj [.bool (!U)]
theorem aeR (a0 r) (h:Hp a0=some r):aY ak 247 [.int .u8 (a0.toNat:Int)] (.bool r) []:=by
 refine bA [0] [.tmp 2] Tryz.func247 aab λbz aj bw=>al ?_;refine lL (decide (48<=(a0.toNat:Int))) [(2,.bool ((decide (48<=(a0.toNat:Int)))&&(decide ((a0.toNat:Int)<=57))))] ?_;exact dY aj [.bool ((decide (48<=(a0.toNat:Int)))&&(decide ((a0.toNat:Int)<=57)))]
theorem DP (a0 r) (h:ze a0=some r):aY ak 193 [.str a0] (.bool r) []:=by
 refine bA [0] [.tmp 2] Tryz.func193 aac λbz aj bw=>al ?_;refine aD aj λ_ bB aZ ah=>al ?_;refine bc aZ λdI _ bU bG _=>?_;show a_ ak (.loop ?dN) _ _;have dV:∀n e7,sw a0 n e7=some r->cy ak ?dN dI (ay [(0,.str a0),(6,.int .i64 (a0.length:Int)),(7,.int .i64 e7)]):=by
  refine cO λ_ dP e7 h=>cN bU λ_ dd b9 a7=>al ?_;refine aD b9 λ_ dc _ cG=>aL h (λbY h=>?_) λbY h=>?_
  .refine aQ (dc _ (inl (aD b9 λ_ cf bP _=>bc bP λ_ n10 cz _ _=>al ?_)));obtain⟨U,dw,h⟩:=aA h;refine acq (decide (97<=(U.toNat:Int))) dw [(0,.str a0),(3,.int .i64 e7),(4,.bool ((decide (97<=(U.toNat:Int)))&&(decide ((U.toNat:Int)<=122)))),(6,.int .i64 (a0.length:Int)),(7,.int .i64 e7)] ?_;rcases ez h with⟨eF,h⟩|⟨eF,h⟩
   .rcases ez h with⟨jt,h⟩|⟨jt,h⟩
    .refine e0 (af eF jt) _ ?_;refine iz rfl ?_;exact aK cz [.bool false]
    .obtain⟨ah,dZ,h⟩:=aA h;refine gH (af eF (af jt dw)) (aeR U _ dZ) _ ?_;refine aL h (λfi h=>?_) λfi h=>?_
     .exact aK cz [.bool false]
     .refine aQ (n10 _ (cf _ (inl (dt ?_))));exact dd _ (inr ⟨_,bQ rfl,dP (i64.wrap (e7+1)) h⟩)
   .refine e0 eF _ ?_;refine p4 rfl ?_;refine aQ (n10 _ (cf _ (inl (dt ?_))));exact dd _ (inr ⟨_,bQ rfl,dP (i64.wrap (e7+1)) h⟩)
  .refine cK (cG 0 _ (a7 0 _ (bG _ (bB _ (inl (lL (decide (1<=(a0.length:Int))) [(2,.bool ((decide (1<=(a0.length:Int)))&&(decide ((a0.length:Int)<=10))))] ?_))))));exact dY aj [.bool ((decide (1<=(a0.length:Int)))&&(decide ((a0.length:Int)<=10)))]
 exact c4 h λn h=>dV n 0 h
theorem aeS (a0 J r) (h:Hq a0 J=some r):aY ak 314 [b4 a0,.ref (.str J)] (.bool r) []:=by
 refine bA [0,1] [.tmp 3] Tryz.func314 aad λbz aj bw=>al ?_;exact aK aj [.bool (a0.Name==J)]
theorem aeT (a0 J r) (h:Hs a0 J=some r):aY ak 313 [.slice (a0.map b4),.fn 314 [.ref (.str J)]] (.int .i64 r) []:=by
 refine bA [0,1] [.tmp 4] Tryz.func313 aae λbz aj bw=>al ?_;refine aD aj λ_ bB aZ ah=>al ?_;refine bc aZ λdI _ bU bG _=>?_;show a_ ak (.loop ?dN) _ _;have dV:∀n cH,zf a0 J n cH=some r->cy ak ?dN dI (ay [(0,.slice (a0.map b4)),(1,.fn 314 [.ref (.str J)]),(7,.int .i64 (a0.length:Int)),(8,.int .i64 cH)]):=by
  refine cO λ_ dP cH h=>cN bU λ_ dd b9 a7=>al ?_;refine aD b9 λ_ dc _ cG=>aL h (λbY h=>?_) λbY h=>?_
  .refine aQ (dc _ (inl (aD b9 λ_ cf bP _=>bc bP λ_ n10 cz _ _=>al ?_)));obtain⟨U,dw,h⟩:=aA h;obtain⟨ah,dF,h⟩:=aA h;refine gH dw (aeS U J _ dF) _ ?_;refine aL h (λeF h=>?_) λeF h=>?_
   .exact aK cz [.int .i64 cH]
   .refine aQ (n10 _ (cf _ (inl (dt ?_))));exact dd _ (inr ⟨_,bQ rfl,dP (i64.wrap (cH+1)) h⟩)
  .exact cK (cG 0 _ (a7 0 _ (bG _ (bB _ (inl (aK aj [.int .i64 (-1)]))))))
 exact c4 h λn h=>dV n 0 h
theorem aeU (a0 J r) (h:Cw a0 J=some r):aY ak 303 [.slice (a0.map b4),.str J] (.int .i64 r) []:=by
 refine bA [0,1] [.tmp 4] Tryz.func303 aaf λbz aj bw=>al ?_;obtain⟨U,aW,h⟩:=aA h;refine da (bX [(4,.int .i64 U)] (λP ba=>?_) ?_)
 ·(try simp only[aP.down,simprocAttr]);refine eB (aeT a0 J _ aW) rfl rfl (by simp only[aP.down,simprocAttr,Du.down]<;>rfl) rfl (inr (by rfl)) ?_;simp only[aP.down,simprocAttr];exact bJ trivial
 exact dY aj [.int .i64 U]
theorem PZ (a0 r) (h:zh a0=some r):aY ak 277 [dA a0] (.int .i64 r) []:=by
 refine bA [0] [.tmp 2] Tryz.func277 aag λbz aj bw=>al ?_;refine aD aj λ_ bB aZ _=>al ?_;refine bc aZ λdI gy bU _ _=>?_;show a_ ak (.seq _ ?i_) _ _;have ud:∀dm,zg a0 dm=some r->a_ ak ?i_ dI (ay [(4,.int .i64 a0.Kind),(5,.bool dm)]):=by
  intro dm h;refine aL h (λeb h=>?_) λeb h=>?_
  .exact aK bU [.int .i64 1]
  .refine al ?_;refine aL h (λfP h=>?_) λfP h=>?_
   .exact aK bU [.int .i64 2]
   .exact aQ (gy _ (bB _ (inl (aK aj [.int .i64 0]))))
 refine aD bU λ_ dd _ _=>al ?_;refine aL h (λgI h=>?_) λgI h=>?_
 .simp only[gI,z7.down];exact aQ (dd _ (inr ⟨_,bQ rfl,ud true h⟩))
 .refine al ?_;refine aL h (λeF h=>?_) λeF h=>?_
  .simp only[eF,z7.down];exact aQ (dd _ (inr ⟨_,bQ rfl,ud true h⟩))
  .refine dt ?_;exact dd _ (inr ⟨_,bQ rfl,ud (a0.Kind==4) h⟩)
theorem aeV (a0 J r) (h:Cx a0 J=some r):aY ak 315 [b4 a0,.int .i64 J] (.int .i64 r) []:=by
 refine bA [0] [.tmp 4] Tryz.func315 aah λbz aj bw=>al ?_;refine aD aj λ_ bB aZ ah=>al ?_;refine bc aZ λdI _ bU bG _=>?_;show a_ ak (.loop ?dN) _ _;have dV:∀n aU aG,vM a0 n aU aG=some r->cy ak ?dN dI (ay [(1,.int .i64 aU),(2,.bf (b4 a0)),(5,.int .i64 aG)]):=by
  refine cO λ_ dP aU aG h=>cN bU λ_ dd b9 a7=>aD b9 λ_ n6 _ bM=>al ?_;refine aL h (λbY h=>?_) λbY h=>?_
  .refine aQ (n6 _ (inl (aD b9 λ_ cf bP _=>bc bP λ_ n10 cz _ _=>aD cz λ_ n11 gJ _=>al ?_)));refine aL h (λgI h=>?_) λgI h=>?_
   .exact aK gJ [.int .i64 (-1)]
   .refine aQ (n11 _ (inl ?_));obtain⟨U,ck,h⟩:=aA h;obtain⟨ah,c3,h⟩:=aA h;refine IU ck (PZ U _ c3) _ ?_;refine n10 _ (cf _ (inl (dt ?_)));exact dd _ (inr ⟨_,bQ rfl,dP (i64.wrap (aU+1)) (i64.wrap (aG+(i64.wrap (ah-1)))) h⟩)
  .exact cK (bM 0 _ (a7 0 _ (bG _ (bB _ (inl (aK aj [.int .i64 aU]))))))
 exact c4 h λn h=>dV n J 1 h
theorem aeW (mW:Int->c5->amm->bs->Option (Int×amm)) (aeX:∀a0 J a2 a3 r,mW a0 J a2 a3=some r->mq ak 276 2 4 [.int .i64 a0,eE J,.bf (.ag 2 (a2.map eE)),.ref (b4 a3),.ref (.hole)] (.int .i64 r.1) [.hole,.hole,.bf (.ag 2 (r.2.map eE)),.hole,.hole]) (a0 J a2 a3 r) (h:Hv mW a0 J a2 a3=some r):mq ak 276 2 4 [.int .i64 a0,eE J,.bf (.ag 2 (a2.map eE)),.ref (b4 a3),.ref (.hole)] (.int .i64 r.1) [.hole,.hole,.bf (.ag 2 (r.2.map eE)),.hole,.hole]:=by
 refine mq.Gp (fx:=[0,1,2,3,4]) GC [.tmp 7] [(0,.int .i64 a0),(1,eE J),(2,.bf (.ag 2 (a2.map eE))),(3,.ref (b4 a3)),(4,.ref (.hole))] Tryz.func276 rfl rfl aav (le_of_ble_eq_true rfl) aau rfl rfl λbz aj bw=>?_;refine al ?_;obtain⟨U,aW,h⟩:=aA h;refine da (bX [(0,.int .i64 a0),(2,.bf (.ag 2 ((List.set a2 (Int.toNat a0) J).map eE))),(3,.ref (b4 a3)),(4,.ref (.hole)),(6,.bf (eE J))] (λP ba=>?_) ?_)
 .simp only[aP.down,simprocAttr,aW,br aW,cM,cJ];exact bJ (af aW (af (br aW) @cM))
 obtain⟨ah,cC,h⟩:=aA h;refine e0 cC [(0,.int .i64 a0),(2,.bf (.ag 2 ((List.set a2 (Int.toNat a0) J).map eE))),(3,.ref (b4 a3)),(4,.ref (.hole)),(6,.bf (eE J)),(8,.bf (dA ah))] ?_;refine e0 (show∀s,hd ak s 253 [(0,.int .i64 J.scope),(1,.bool (ah.Kind==1))]=some (.agg [.int .i64 J.scope,.bool (ah.Kind==1)],s)from λs=>by kernel_rfl) [(0,.int .i64 a0),(2,.bf (.ag 2 ((List.set a2 (Int.toNat a0) J).map eE))),(3,.ref (b4 a3)),(4,.ref (.hole)),(8,.bf (dA ah)),(9,.bf (.agg [.int .i64 J.scope,.bool (ah.Kind==1)]))] ?_;have P0:∀lI,Cy mW a0 J a2 a3 ah lI=some r->a_ ak Pa bz (ay [(0,.int .i64 a0),(2,.bf (.ag 2 ((List.set a2 (Int.toNat a0) J).map eE))),(3,.ref (b4 a3)),(4,.ref (.hole)),(8,.bf (dA ah)),(9,.bf (.agg [.int .i64 lI,.bool (ah.Kind==1)]))]):=by
  intro lI h;refine ws [(2,.bf (.ag 2 ((List.set a2 (Int.toNat a0) J).map eE))),(3,.ref (b4 a3)),(4,.ref (.hole)),(8,.bf (dA ah)),(9,.bf (.agg [.int .i64 lI,.bool (ah.Kind==1)])),(10,.int .i64 (i64.wrap (a0+1)))] ?_;refine aD aj λ_ cf bP _=>?_;obtain⟨aO,lW,h⟩:=aA h;refine c9 (PZ ah _ lW) [(2,.bf (.ag 2 ((List.set a2 (Int.toNat a0) J).map eE))),(3,.ref (b4 a3)),(4,.ref (.hole)),(9,.bf (.agg [.int .i64 lI,.bool (ah.Kind==1)])),(10,.int .i64 (i64.wrap (a0+1))),(36,.int .i64 aO),(37,.int .i64 0)] ?_;refine bc bP λue _ lf e8 _=>?_;have aeY:∀n ra pc qj,tT mW a3 lI ah aO n ra pc qj=some r->cy ak O_ ue (ay [(2,.bf (.ag 2 (ra.map eE))),(3,.ref (b4 a3)),(4,.ref (.hole)),(9,.bf (.agg [.int .i64 lI,.bool (ah.Kind==1)])),(10,.int .i64 pc),(36,.int .i64 aO),(37,.int .i64 qj)]):=by
   refine cO λ_ aeZ ra pc qj h=>cN lf λ_ n13 eM iC=>al ?_;refine aD eM λ_ n15 _ oq=>aL h (λjt h=>?_) λjt h=>?_
   .refine aQ (n15 _ (inl (aD eM λ_ n17 j1 _=>bc j1 λ_ n18 _ _ _=>?_)));obtain⟨bx,iS,h⟩:=aA h;refine Wi [(2,.bf (.ag 2 (bx.2.map eE))),(3,.ref (b4 a3)),(4,.ref (.hole)),(9,.bf (.agg [.int .i64 lI,.bool (ah.Kind==1)])),(10,.int .i64 bx.1),(36,.int .i64 aO),(37,.int .i64 qj)] (λP ba=>?_) ?_
    ·(try simp only[aP.down,simprocAttr,o1]);refine NX [⟨.int .i64 pc,false,_,.hole⟩,⟨.agg [.int .i64 lI,.bool (ah.Kind==1)],false,_,.hole⟩,⟨.h 2 [],true,_,_⟩,⟨.ref (b4 a3),false,_,.hole⟩,⟨.ref (.hole),false,_,.hole⟩] (aeX pc (c5.mk lI (ah.Kind==1)) ra a3 _ iS) rfl (by simp only[aP.down,simprocAttr,o1,oZ,mo,lE,hN,hP,hQ,dr,or_true,true_or, @cr _ eE eE (λ_=>O4 _)]) rfl rfl (inl rfl) ?_;simp only[aP.down,simprocAttr,o1,kU];(try simp only[i7.down,simprocAttr,o1]at ba⊢);exact ba
    refine n18 _ (n17 _ (inl (dt ?_)));exact n13 _ (inr ⟨_,bQ rfl,aeZ bx.2 bx.1 (i64.wrap (qj+1)) h⟩)
   .refine cK (oq 0 _ (iC 0 _ (e8 _ (cf _ (inl (al ?_))))));exact jh (aj _ (inl (jU [.int .i64 pc] rfl (by cases fC h;rfl) (by decide) (j_ (k_ (k_ (ka (by cases fC h;rfl) rfl rfl rfl (k_ (k_ (kb))))))))))
  exact c4 h λn h=>aeY n (List.set a2 (Int.toNat a0) J) (i64.wrap (a0+1)) 0 h
 refine aD aj λ_ dc _ _=>ws [(0,.int .i64 a0),(2,.bf (.ag 2 ((List.set a2 (Int.toNat a0) J).map eE))),(3,.ref (b4 a3)),(4,.ref (.hole)),(8,.bf (dA ah)),(9,.bf (.agg [.int .i64 J.scope,.bool (ah.Kind==1)])),(28,.bool (ah.Kind==4))] ?_;refine aL h (λhD h=>?_) λhD h=>?_
 .refine wr [(0,.int .i64 a0),(2,.bf (.ag 2 ((List.set a2 (Int.toNat a0) J).map eE))),(3,.ref (b4 a3)),(4,.ref (.hole)),(8,.bf (dA ah)),(9,.bf (.agg [.int .i64 (i64.wrap (J.scope+1)),.bool (ah.Kind==1)]))] ?_;exact dc _ (inr ⟨_,bQ rfl,P0 (i64.wrap (J.scope+1)) h⟩)
 .exact aQ (dc _ (inr ⟨_,bQ rfl,P0 J.scope h⟩))
theorem ae0:∀n a0 J a2 a3 r,tU n a0 J a2 a3=some r->mq ak 276 2 4 [.int .i64 a0,eE J,.bf (.ag 2 (a2.map eE)),.ref (b4 a3),.ref (.hole)] (.int .i64 r.1) [.hole,.hole,.bf (.ag 2 (r.2.map eE)),.hole,.hole]:=by
 intro n;induction n with
 |zero=>intro a0 J a2 a3 r h;cases(show none=some r from h)
 |succ n ih=>intro a0 J a2 a3 r h;exact aeW (tU n) ih a0 J a2 a3 r h
theorem ae1 (a0 J a2 a3 r) (h:Cz a0 J a2 a3=some r):mq ak 276 2 4 [.int .i64 a0,eE J,.bf (.ag 2 (a2.map eE)),.ref (b4 a3),.ref (.hole)] (.int .i64 r.1) [.hole,.hole,.bf (.ag 2 (r.2.map eE)),.hole,.hole]:=by
 obtain⟨n,h⟩:=pE h;exact ae0 n a0 J a2 a3 r h
theorem JN (a0 r) (h:vN a0=some r):aY ak 221 [b4 a0] (.ag 2 (r.map eE)) []:=by
 refine aY.W7 (fx:=[0]) GC [.tmp 2] [(0,b4 a0)] Tryz.func221 rfl rfl aaA (le_of_ble_eq_true rfl) aaz rfl rfl λbz aj bw=>?_;refine al ?_;obtain⟨alz,aW,h⟩:=aA h;refine qu (af (pF aW) @List.map_replicate.{0,0}) [(1,.bf (b4 a0)),(3,.bf (.ag 2 ((List.replicate (Int.toNat (a0.Body.length:Int)) (c5.mk 0 false)).map eE)))] ?_;obtain⟨U,cC,h⟩:=aA h;refine W0 [(3,.bf (.ag 2 (U.2.map eE)))] (λP ba=>?_) ?_
 ·(try simp only[aP.down,simprocAttr,(show∀s,hd ak s 253 [(0,.int .i64 a0.db)]=some (.agg [.int .i64 a0.db,.bool false],s)from λs=>by kernel_rfl),o1]);refine NX [⟨.int .i64 0,false,_,.hole⟩,⟨.agg [.int .i64 a0.db,.bool false],false,_,.hole⟩,⟨.h 3 [],true,_,_⟩,⟨.h 1 [],false,_,.hole⟩,⟨.ref (.hole),false,_,.hole⟩] (ae1 0 (c5.mk a0.db false) (List.replicate (Int.toNat (a0.Body.length:Int)) (c5.mk 0 false)) a0 _ cC) rfl (by simp only[aP.down,simprocAttr,(show∀s,hd ak s 253 [(0,.int .i64 a0.db)]=some (.agg [.int .i64 a0.db,.bool false],s)from λs=>by kernel_rfl),o1,oZ,mo,lE,hN,hP,hQ,dr,or_true,true_or, @cr _ eE eE (λ_=>O4 _), @cr _ dA dA (λ_=>De _)]) rfl rfl ((inr (by simp only[q5,I.cS,I.hg,Bool.and_self, @jV _ eE (λ_=>YZ _)]))) ?_;simp only[aP.down,simprocAttr,(show∀s,hd ak s 253 [(0,.int .i64 a0.db)]=some (.agg [.int .i64 a0.db,.bool false],s)from λs=>by kernel_rfl),o1,kU];(try simp only[i7.down,simprocAttr,(show∀s,hd ak s 253 [(0,.int .i64 a0.db)]=some (.agg [.int .i64 a0.db,.bool false],s)from λs=>by kernel_rfl),o1]at ba⊢);exact ba
 exact aK aj [.ag 2 (U.2.map eE)]
theorem ae2 (a0 r) (h:Hw a0=some r):aY ak 318 [dA a0] (.bool r) []:=by
 refine bA [0] [.tmp 2] Tryz.func318 aaB λbz aj bw=>al ?_;refine lL (a0.Kind==4) [(1,.bf (dA a0)),(3,.bool ((a0.Kind==4)||(a0.Kind==5)))] ?_;refine da (bX [(1,.bf (dA a0)),(3,.bool ((a0.Kind==4)||(a0.Kind==5))),(4,.bool (((a0.Kind==1)||(a0.Kind==3))||(a0.Kind==5)))] (λP ba=>?_) ?_)
 ·(rcases Bool.eq_false_or_eq_true (a0.Kind==1)with kt|kt)<;>(rcases Bool.eq_false_or_eq_true (a0.Kind==3)with ub|ub)<;>
   (simp only[aP.down,simprocAttr,kt,ub]
    exact bJ (af kt ub))
 obtain⟨U,bW,h⟩:=aA h;refine da (bX [(2,.bool (((U&&(((a0.Kind==4)||(a0.Kind==5))||(a0.Number==0)))&&((a0.Kind==1)||(a0.Name==([]:alO))))&&((((a0.Kind==1)||(a0.Kind==3))||(a0.Kind==5))||((a0.cw.length:Int)==0))))] (λP ba=>?_) ?_)
 ·(rcases Bool.eq_false_or_eq_true (U)with sE|sE)<;>(rcases Bool.eq_false_or_eq_true (a0.Kind==4)with ou|ou)<;>(rcases Bool.eq_false_or_eq_true (a0.Kind==5)with sJ|sJ)<;>(rcases Bool.eq_false_or_eq_true (a0.Number==0)with DQ|DQ)<;>(rcases Bool.eq_false_or_eq_true (a0.Kind==1)with DR|DR)<;>(rcases Bool.eq_false_or_eq_true (a0.Name==([]:alO))with DS|DS)<;>(rcases Bool.eq_false_or_eq_true (a0.Kind==3)with DT|DT)<;>
   ((try simp only[aP.down,simprocAttr,sE,ou,sJ,DQ,DR,DS,DT])
    refine eB (kk a0.Kind 0 5 _ bW) (hK:= ?_);simp only[aP.down,simprocAttr,sE,ou,sJ,DQ,DR,DS,DT];exact bJ (af sE (af ou (af sJ (af DQ (af DR (af DS DT)))))))
 exact dY aj [.bool (((U&&(((a0.Kind==4)||(a0.Kind==5))||(a0.Number==0)))&&((a0.Kind==1)||(a0.Name==([]:alO))))&&((((a0.Kind==1)||(a0.Kind==3))||(a0.Kind==5))||((a0.cw.length:Int)==0)))]
theorem kY (a0 r) (h:rb a0=some r):aY ak 130 [.str a0] (.bool r) []:=by
 refine bA [0] [.tmp 2] Tryz.func130 aaC λbz aj bw=>al ?_;obtain⟨U,aW,h⟩:=aA h;refine da (bX [(2,.bool (U&&(!(a0==([116,97,117]:alO)))))] (λP ba=>?_) ?_)
 .rcases Bool.eq_false_or_eq_true (U)with kt|kt
  ·(try simp only[aP.down,simprocAttr,kt]);refine eB (DP a0 _ aW) (hK:= ?_);simp only[aP.down,simprocAttr,kt];exact bJ kt
  ·(try simp only[aP.down,simprocAttr,kt]);refine eB (DP a0 _ aW) (hK:= ?_);simp only[aP.down,simprocAttr,kt];exact bJ kt
 exact dY aj [.bool (U&&(!(a0==([116,97,117]:alO))))]
theorem sK (a0 J r) (h:sx a0 J=some r):aY ak 220 [.int .i64 a0,.int .i64 J] (.bool r) []:=by
 refine bA [0,1] [.tmp 4] Tryz.func220 aaD λbz aj bw=>al ?_;obtain⟨U,aW,h⟩:=aA h;refine c9 (kk a0 0 (i64.wrap (J-1)) _ aW) _ ?_;exact dY aj [.bool U]
theorem ae3 (a0 J r) (h:Hx a0 J=some r):aY ak 319 [dA a0,.slice (J.map b4)] (.bool r) []:=by
 refine bA [0,1] [.tmp 4] Tryz.func319 aaF λbz aj bw=>al ?_;refine al ?_;refine aD aj λ_ ff cZ _=>al ?_;refine bc cZ λ_ dd b9 _ _=>al ?_;refine aL h (λqW h=>?_) λqW h=>?_
 .refine da (bX [(4,.bool (((a0.cw.length:Int)==0)||((!(a0.Name==([116,97,117]:alO)))&&(decide ((a0.cw.length:Int)<=2)))))] (λP ba=>?_) ?_)
  ·(rcases Bool.eq_false_or_eq_true ((a0.cw.length:Int)==0)with ou|ou)<;>(rcases Bool.eq_false_or_eq_true (a0.Name==([116,97,117]:alO))with sJ|sJ)<;>
    (simp only[aP.down,simprocAttr,ou,sJ]
     exact bJ (af ou sJ))
  exact dY b9 [.bool (((a0.cw.length:Int)==0)||((!(a0.Name==([116,97,117]:alO)))&&(decide ((a0.cw.length:Int)<=2))))]
 .refine al ?_;refine aL h (λe8 h=>?_) λe8 h=>?_
  .exact aK b9 [.bool ((a0.cw.length:Int)==1)]
  .refine al ?_;refine aL h (λeF h=>?_) λeF h=>?_
   .obtain⟨U,c3,h⟩:=aA h;refine e0 c3 _ ?_;exact dY b9 [.bool ((a0.cw.length:Int)==U.db)]
   .exact aQ (dd _ (ff _ (inl (aK aj [.bool true]))))
theorem P1 (a0 r) (h:zi a0=some r):aY ak 235 [.int .i64 a0] (.bool r) []:=by
 refine bA [0] [.tmp 2] Tryz.func235 aaG λbz aj bw=>al ?_;obtain⟨U,aW,h⟩:=aA h;refine c9 (kk a0 0 63 _ aW) _ ?_;exact dY aj [.bool U]
theorem ae4 (a0 J r) (h:CA a0 J=some r):aY ak 237 [fh a0,.int .i64 J] (.bool r) []:=by
 refine bA [0,1] [.tmp 4] Tryz.func237 aaH λbz aj bw=>al ?_;refine aD aj λ_ bB aZ ah=>al ?_;refine bc aZ λ_ gy bU _ _=>al ?_;refine aL h (λeb h=>?_) λeb h=>?_
 .obtain⟨U,hy,h⟩:=aA h;refine c9 (P1 a0.Value _ hy) _ ?_;exact dY bU [.bool U]
 .refine al ?_;refine aL h (λfQ h=>?_) λfQ h=>?_
  .obtain⟨ah,df,h⟩:=aA h;refine c9 (kk a0.Value 0 (i64.wrap (J-1)) _ df) _ ?_;exact dY bU [.bool ah]
  .refine al ?_;refine aL h (λiq h=>?_) λiq h=>?_
   .obtain⟨aO,ck,h⟩:=aA h;refine c9 (kk a0.Value 0 8 _ ck) _ ?_;exact dY bU [.bool aO]
   .refine al ?_;refine aL h (λiK h=>?_) λiK h=>?_
    .exact aK bU [.bool (a0.Value==0)]
    .exact aQ (gy _ (bB _ (inl (aK aj [.bool false]))))
theorem ae5 (a0 r) (h:Hy a0=some r):aY ak 238 [fh a0] (.int .i64 r) []:=by
 refine bA [0] [.tmp 2] Tryz.func238 aaI λbz aj bw=>al ?_;refine aD aj λ_ bB aZ _=>al ?_;refine bc aZ λ_ gy bU _ _=>al ?_;refine aL h (λeb h=>?_) λeb h=>?_
 .exact aK bU [.int .i64 2]
 .refine al ?_;refine aL h (λfP h=>?_) λfP h=>?_
  .exact aK bU [.int .i64 1]
  .exact aQ (gy _ (bB _ (inl (aK aj [.int .i64 0]))))
theorem ae6 (a0 J a2 r) (h:CB a0 J a2=some r):aY ak 182 [.slice (a0.map fh),.int .i64 J,.int .i64 a2] (.bool r) []:=by
 refine bA [0,1,2] [.tmp 6] Tryz.func182 aaJ λbz aj bw=>al ?_;refine aD aj λ_ bB aZ ah=>?_;obtain⟨U,cm,h⟩:=aA h;rcases ez h with⟨cI,h⟩|⟨cI,h⟩
 .refine gH (gd cI) (kk J 0 29 _ cm) _ ?_;refine iz rfl ?_;exact aK aZ [.bool false]
 .obtain⟨ah,bW,h⟩:=aA h;rcases ez h with⟨bY,h⟩|⟨bY,h⟩
  .refine da (bX [(0,.slice (a0.map fh)),(1,.int .i64 J),(24,.bool true)] (λP ba=>?_) ?_)
   ·(try simp only[aP.down,simprocAttr,(bS cI),(gd bY)]);refine eB (kk J 0 29 _ cm) (hK:= ?_);simp only[aP.down,simprocAttr,(bS cI),(gd bY)];refine gU (kk a2 1 60 _ bW) (hK:= ?_);simp only[aP.down,simprocAttr,(bS cI),(gd bY)];exact bJ (af (bS cI) (gd bY))
   refine iz rfl ?_;exact aK aZ [.bool false]
  .obtain⟨aO,lu,h⟩:=aA h;refine da (bX [(0,.slice (a0.map fh)),(1,.int .i64 J),(24,.bool (!aO))] (λP ba=>?_) ?_)
   ·(try simp only[aP.down,simprocAttr,(bS cI),(bS bY)]);refine eB (kk J 0 29 _ cm) (hK:= ?_);simp only[aP.down,simprocAttr,(bS cI),(bS bY)];refine gU (kk a2 1 60 _ bW) (hK:= ?_);simp only[aP.down,simprocAttr,(bS cI),(bS bY)];refine gU (kk (a0.length:Int) 1 a2 _ lu) (hK:= ?_);simp only[aP.down,simprocAttr,(bS cI),(bS bY)];exact bJ (af (bS cI) (bS bY))
   refine aL h (λmB h=>?_) λmB h=>?_
   .exact aK aZ [.bool false]
   .refine aQ (bB _ (inl (al ?_)));refine aD aj λ_ n14 dO _=>al ?_;refine bc dO λae7 _ mC jt _=>?_;show a_ ak (.loop ?i_) _ _;have kg:∀n ij qk,vO a0 J n ij qk=some r->cy ak ?i_ ae7 (ay [(1,.int .i64 J),(7,.int .i64 ij),(25,.slice (a0.map fh)),(26,.int .i64 (a0.length:Int)),(27,.int .i64 qk)]):=by
     refine cO λ_ kh ij qk h=>cN mC λ_ n17 j1 jo=>al ?_;refine aD j1 λ_ n19 _ o_=>aL h (λfz h=>?_) λfz h=>?_
     .refine aQ (n19 _ (inl (aD j1 λ_ n21 pn _=>bc pn λ_ n22 l8 _ _=>?_)));obtain⟨bx,kj,h⟩:=aA h;refine e0 kj _ ?_;refine aD l8 λ_ n25 l_ _=>?_;rcases ez h with⟨lN,h⟩|⟨lN,h⟩
      .refine e0 lN _ ?_;refine iz rfl ?_;exact aK l_ [.bool false]
      .obtain⟨a7,Ap,h⟩:=aA h;refine gH lN (ae4 bx J _ Ap) _ ?_;refine aL h (λmD h=>?_) λmD h=>?_
       .exact aK l_ [.bool false]
       .refine aQ (n25 _ (inl ?_));obtain⟨bM,Ah,h⟩:=aA h;refine acp (ae5 bx _ Ah) _ ?_;refine n22 _ (n21 _ (inl (dt ?_)));exact n17 _ (inr ⟨_,bQ rfl,kh (i64.wrap (ij+(i64.wrap (bM-1)))) (i64.wrap (qk+1)) h⟩)
     .exact cK (o_ 0 _ (jo 0 _ (jt _ (n14 _ (inl (aK aj [.bool (ij==0)]))))))
    exact c4 h λn h=>kg n 1 0 h
theorem ae8 (a0 J r) (h:HA a0 J=some r):aY ak 320 [.slice (a0.map fh),.ref (eE J)] (.bool r) []:=by
 refine bA [0,1] [.tmp 3] Tryz.func320 aaK λbz aj bw=>al ?_;obtain⟨U,aW,h⟩:=aA h;refine c9 (ae6 a0 J.scope 15 _ aW) _ ?_;exact dY aj [.bool (!U)]
theorem ae9 (a0 J r) (h:HC a0 J=some r):aY ak 236 [.slice (a0.map jr),.fn 320 [.ref (eE J)]] (.int .i64 r) []:=by
 refine bA [0,1] [.tmp 4] Tryz.func236 aaL λbz aj bw=>al ?_;refine aD aj λ_ bB aZ ah=>al ?_;refine bc aZ λdI _ bU bG _=>?_;show a_ ak (.loop ?dN) _ _;have dV:∀n cH,zj a0 J n cH=some r->cy ak ?dN dI (ay [(0,.slice (a0.map jr)),(1,.fn 320 [.ref (eE J)]),(7,.int .i64 (a0.length:Int)),(8,.int .i64 cH)]):=by
  refine cO λ_ dP cH h=>cN bU λ_ dd b9 a7=>al ?_;refine aD b9 λ_ dc _ cG=>aL h (λbY h=>?_) λbY h=>?_
  .refine aQ (dc _ (inl (aD b9 λ_ cf bP _=>bc bP λ_ n10 cz _ _=>al ?_)));obtain⟨U,dw,h⟩:=aA h;obtain⟨ah,dF,h⟩:=aA h;refine gH dw (ae8 U J _ dF) _ ?_;refine aL h (λeF h=>?_) λeF h=>?_
   .exact aK cz [.int .i64 cH]
   .refine aQ (n10 _ (cf _ (inl (dt ?_))));exact dd _ (inr ⟨_,bQ rfl,dP (i64.wrap (cH+1)) h⟩)
  .exact cK (cG 0 _ (a7 0 _ (bG _ (bB _ (inl (aK aj [.int .i64 (-1)]))))))
 exact c4 h λn h=>dV n 0 h
theorem ae_ (a0 J r) (h:CC a0 J=some r):aY ak 179 [.slice (a0.map jr),.fn 320 [.ref (eE J)]] (.bool r) []:=by
 refine bA [0,1] [.tmp 4] Tryz.func179 aaM λbz aj bw=>al ?_;obtain⟨U,aW,h⟩:=aA h;refine c9 (ae9 a0 J _ aW) _ ?_;exact dY aj [.bool (decide (0<=U))]
theorem afa (a0 J a2 r) (h:zn a0 J a2=some r):aY ak 316 [dA a0,.slice (J.map b4),eE a2] (.int .i64 r) []:=by
 refine bA [0,1,2] [.tmp 6] Tryz.func316 aaQ λbz aj bw=>al ?_;refine aD aj λ_ bB aZ ah=>bc aZ λP2 ff cZ _ aO=>?_;obtain⟨U,cC,h⟩:=aA h;refine c9 (ae2 a0 _ cC) _ ?_;refine aL h (λeb h=>?_) λeb h=>?_
 .exact aK cZ [.int .i64 2]
 .skip;have wF:∀zm,zl a0 J a2 zm=some r->a_ ak Pe P2 (ay [(1,.slice (J.map b4)),(3,.bf (dA a0)),(5,.bf (eE a2)),(11,.bool zm)]):=by
   intro zm h;refine aL h (λbY h=>?_) λbY h=>?_
   .exact aK cZ [.int .i64 3]
   .skip;have Aq:∀zk,tV a0 J a2 zk=some r->a_ ak Pd P2 (ay [(1,.slice (J.map b4)),(3,.bf (dA a0)),(5,.bf (eE a2)),(26,.bool zk)]):=by
     intro zk h;refine aL h (λfQ h=>?_) λfQ h=>?_
     .exact aK cZ [.int .i64 4]
     .obtain⟨ah,dw,h⟩:=aA h;refine c9 (ae3 a0 J _ dw) _ ?_;refine aL h (λiq h=>?_) λiq h=>?_
      .exact aK cZ [.int .i64 5]
      .refine lL (a0.Kind==5) [(3,.bf (dA a0)),(5,.bf (eE a2)),(54,.bool ((a0.Kind==5)&&(!a2.behind)))] ?_;refine aL h (λkB h=>?_) λkB h=>?_
       .exact aK cZ [.int .i64 6]
       .refine lL (a0.Kind==4) [(3,.bf (dA a0)),(5,.bf (eE a2)),(63,.bool ((a0.Kind==4)&&(decide (6<=a2.scope))))] ?_;refine aL h (λfz h=>?_) λfz h=>?_
        .exact aK cZ [.int .i64 7]
        .obtain⟨aO,lM,h⟩:=aA h;refine da (bX [(72,.bool aO)] (λP ba=>?_) ?_)
         ·(try simp only[aP.down,simprocAttr]);refine eB (ae_ a0.cw a2 _ lM) rfl rfl (by simp only[aP.down,simprocAttr,Du.down]<;>rfl) rfl (inr (by rfl)) ?_;simp only[aP.down,simprocAttr];exact bJ trivial
         refine aL h (λhD h=>?_) λhD h=>?_
         .exact aK cZ [.int .i64 8]
         .exact aQ (ff _ (bB _ (inl (aK aj [.int .i64 0]))))
    rcases ez h with⟨iL,h⟩|⟨iL,h⟩
    .obtain⟨bx,Ap,h⟩:=aA h;rcases ez h with⟨mD,h⟩|⟨mD,h⟩
     .refine ji (bX (K:=dK _) [(1,.slice (J.map b4)),(3,.bf (dA a0)),(5,.bf (eE a2)),(26,.bool true)] (λP ba=>?_) ?_)
      ·(try simp only[aP.down,simprocAttr,iL,(gd mD)]);refine gU (kk a0.Number 1 7 _ Ap) (hK:= ?_);simp only[aP.down,simprocAttr,iL,(gd mD)];exact bJ (af iL (gd mD))
      exact inr ⟨_,bQ rfl,Aq true h⟩
     .rcases ez h with⟨hX,h⟩|⟨hX,h⟩
      .obtain⟨a7,rr,h⟩:=aA h;refine ji (bX (K:=dK _) [(1,.slice (J.map b4)),(3,.bf (dA a0)),(5,.bf (eE a2)),(26,.bool (!a7))] (λP ba=>?_) ?_)
       ·(try simp only[aP.down,simprocAttr,iL,(bS mD),hX]);refine gU (kk a0.Number 1 7 _ Ap) (hK:= ?_);simp only[aP.down,simprocAttr,iL,(bS mD),hX];refine gU (sK a0.Number (J.length:Int) _ rr) (hK:= ?_);simp only[aP.down,simprocAttr,iL,(bS mD),hX];exact bJ (af iL (af (bS mD) hX))
       exact inr ⟨_,bQ rfl,Aq (!a7) h⟩
      .refine ji (bX (K:=dK _) [(1,.slice (J.map b4)),(3,.bf (dA a0)),(5,.bf (eE a2)),(26,.bool false)] (λP ba=>?_) ?_)
       ·(try simp only[aP.down,simprocAttr,iL,(bS mD),hX]);refine gU (kk a0.Number 1 7 _ Ap) (hK:= ?_);simp only[aP.down,simprocAttr,iL,(bS mD),hX];exact bJ (af iL (af (bS mD) hX))
       exact inr ⟨_,bQ rfl,Aq false h⟩
    .rcases ez h with⟨jF,h⟩|⟨jF,h⟩
     .obtain⟨bM,ov,h⟩:=aA h;refine ji (bX (K:=dK _) [(1,.slice (J.map b4)),(3,.bf (dA a0)),(5,.bf (eE a2)),(26,.bool (!bM))] (λP ba=>?_) ?_)
      ·(try simp only[aP.down,simprocAttr,iL,jF]);refine gU (sK a0.Number (J.length:Int) _ ov) (hK:= ?_);simp only[aP.down,simprocAttr,iL,jF];exact bJ (af iL jF)
      exact inr ⟨_,bQ rfl,Aq (!bM) h⟩
     .refine ji (bX (K:=dK _) [(1,.slice (J.map b4)),(3,.bf (dA a0)),(5,.bf (eE a2)),(26,.bool false)] (λP ba=>?_) ?_)
      .simp only[aP.down,simprocAttr,iL,jF];exact bJ (af iL jF)
      exact inr ⟨_,bQ rfl,Aq false h⟩
  rcases ez h with⟨nc,h⟩|⟨nc,h⟩
  .rcases ez h with⟨sH,h⟩|⟨sH,h⟩
   .obtain⟨cG,JO,h⟩:=aA h;refine ji (bX (K:=dK _) [(1,.slice (J.map b4)),(3,.bf (dA a0)),(5,.bf (eE a2)),(11,.bool (!cG))] (λP ba=>?_) ?_)
    ·(try simp only[aP.down,simprocAttr,nc,sH]);refine gU (kY a0.Name _ JO) (hK:= ?_);simp only[aP.down,simprocAttr,nc,sH];exact bJ (af nc sH)
    exact inr ⟨_,bQ rfl,wF (!cG) h⟩
   .refine ji (bX (K:=dK _) [(1,.slice (J.map b4)),(3,.bf (dA a0)),(5,.bf (eE a2)),(11,.bool false)] (λP ba=>?_) ?_)
    .simp only[aP.down,simprocAttr,nc,sH];exact bJ (af nc sH)
    exact inr ⟨_,bQ rfl,wF false h⟩
  .refine ji (bX (K:=dK _) [(1,.slice (J.map b4)),(3,.bf (dA a0)),(5,.bf (eE a2)),(11,.bool false)] (λP ba=>?_) ?_)
   .simp only[aP.down,simprocAttr,nc];exact bJ nc
   exact inr ⟨_,bQ rfl,wF false h⟩
theorem afb (a0 J r) (h:zo a0 J=some r):aY ak 304 [.slice (a0.map b4),b4 J] (.tuple [.int .i64 r.1,.int .i64 r.2]) []:=by
 refine bA [0,1] [.tmp 4,.tmp 5] Tryz.func304 aaR λbz aj bw=>al ?_;refine aD aj λ_ bB aZ ah=>?_;obtain⟨U,cm,h⟩:=aA h;rcases ez h with⟨cI,h⟩|⟨cI,h⟩
 .refine jD (gd cI) (kk (J.Body.length:Int) 1 20 _ cm) _ ?_;refine iz rfl ?_;exact aK aZ [.int .i64 0,.int .i64 1]
 .obtain⟨ah,bW,h⟩:=aA h;refine kS rfl (ku [(0,.slice (a0.map b4)),(3,.bf (b4 J)),(22,.bool (ah !=(J.Body.length:Int)))] (λP ba=>?_) ?_)
  ·(try simp only[et.down,simprocAttr,(bS cI)]);refine kv (kk (J.Body.length:Int) 1 20 _ cm) (hK:= ?_);simp only[et.down,simprocAttr,(bS cI)];refine kT (aeV J 0 _ bW) (hK:= ?_);simp only[et.down,simprocAttr,(bS cI)];refine⟨ky (by kernel_rfl),?_⟩;exact bJ (bS cI)
  refine aL h (λbY h=>?_) λbY h=>?_
  .exact aK aZ [.int .i64 0,.int .i64 1]
  .refine aQ (bB _ (inl ?_));obtain⟨aO,lW,h⟩:=aA h;refine c9 (JN J _ lW) _ ?_;refine aD aj λ_ n12 lf _=>al ?_;refine bc lf λI4 _ dO iq _=>?_;show a_ ak (.loop ?i_) _ _;have kg:∀n nB,tW a0 J aO n nB=some r->cy ak ?i_ I4 (ay [(0,.slice (a0.map b4)),(6,.ag 2 (aO.map eE)),(26,.slice (J.Body.map dA)),(27,.int .i64 (J.Body.length:Int)),(28,.int .i64 nB)]):=by
    refine cO λ_ kh nB h=>cN dO λ_ n15 h4 oq=>al ?_;refine aD h4 λ_ n17 _ jo=>aL h (λiK h=>?_) λiK h=>?_
    .refine aQ (n17 _ (inl (aD h4 λ_ n19 Ab _=>bc Ab λ_ n20 uc _ _=>?_)));obtain⟨bx,hk,h⟩:=aA h;refine e0 hk _ ?_;obtain⟨a7,kj,h⟩:=aA h;obtain⟨bM,jE,h⟩:=aA h;refine jD (af kj (br kj)) (afa bx a0 a7 _ jE) _ ?_;refine al ?_;refine aL h (λlN h=>?_) λlN h=>?_
     .exact aK uc [.int .i64 nB,.int .i64 bM]
     .refine aQ (n20 _ (n19 _ (inl (dt ?_))));exact n15 _ (inr ⟨_,bQ rfl,kh (i64.wrap (nB+1)) h⟩)
    .exact cK (jo 0 _ (oq 0 _ (iq _ (n12 _ (inl (aK aj [.int .i64 0,.int .i64 0]))))))
   exact c4 h λn h=>kg n 0 h
theorem afc (a0 r) (h:CE a0=some r):aY ak 271 [.slice (a0.map b4)] (.bool r) []:=by
 refine bA [0] [.tmp 2] Tryz.func271 aaS λbz aj bw=>al ?_;refine aD aj λ_ bB aZ ah=>?_;obtain⟨U,cm,h⟩:=aA h;rcases ez h with⟨cI,h⟩|⟨cI,h⟩
 .refine gH (gd cI) (kk (a0.length:Int) 1 4 _ cm) _ ?_;refine iz rfl ?_;exact aK aZ [.bool false]
 .obtain⟨ah,bW,h⟩:=aA h;refine da (bX [(0,.slice (a0.map b4)),(15,.bool (!ah))] (λP ba=>?_) ?_)
  ·(try simp only[aP.down,simprocAttr,(bS cI)]);refine eB (kk (a0.length:Int) 1 4 _ cm) (hK:= ?_);simp only[aP.down,simprocAttr,(bS cI)];refine gU (aeQ a0 _ bW) (hK:= ?_);simp only[aP.down,simprocAttr,(bS cI)];exact bJ (bS cI)
  refine aL h (λbY h=>?_) λbY h=>?_
  .exact aK aZ [.bool false]
  .refine aQ (bB _ (inl (aD aj λ_ n10 cz _=>al ?_)));refine bc cz λue _ lf e8 _=>?_;show a_ ak (.loop ?gz) _ _;have gf:∀n oj,vP a0 n oj=some r->cy ak ?gz ue (ay [(0,.slice (a0.map b4)),(16,.slice (a0.map b4)),(17,.int .i64 (a0.length:Int)),(18,.int .i64 oj)]):=by
    refine cO λ_ fR oj h=>cN lf λ_ n13 eM iC=>al ?_;refine aD eM λ_ n15 _ oq=>aL h (λjt h=>?_) λjt h=>?_
    .refine aQ (n15 _ (inl (aD eM λ_ n17 j1 _=>bc j1 λ_ n18 wQ _ _=>?_)));obtain⟨aO,iS,h⟩:=aA h;refine e0 iS _ ?_;refine aD wQ λ_ n21 pn _=>?_;obtain⟨bx,lM,h⟩:=aA h;rcases ez h with⟨hD,h⟩|⟨hD,h⟩
     .refine jD (gd hD) (DP aO.Name _ lM) _ ?_;refine iz rfl ?_;exact aK pn [.bool false]
     .obtain⟨a7,wI,h⟩:=aA h;obtain⟨bM,wE,h⟩:=aA h;refine kS rfl (ku [(0,.slice (a0.map b4)),(4,.bf (b4 aO)),(16,.slice (a0.map b4)),(17,.int .i64 (a0.length:Int)),(18,.int .i64 oj),(35,.bool (decide (0<=bM)))] (λP ba=>?_) ?_)
      ·(try simp only[et.down,simprocAttr,(bS hD),wI, @mn _ b4 3 (λ_=>rfl)]);refine kv (DP aO.Name _ lM) (hK:= ?_);simp only[et.down,simprocAttr,(bS hD),wI, @mn _ b4 3 (λ_=>rfl)];refine kT (aeU a7 aO.Name _ wE) (hK:= ?_);simp only[et.down,simprocAttr,(bS hD),wI, @mn _ b4 3 (λ_=>rfl)];refine⟨ky (by kernel_rfl),?_⟩;exact bJ (af (bS hD) (af wI (@mn _ b4 3 λ_=>rfl)))
      refine aL h (λiL h=>?_) λiL h=>?_
      .exact aK pn [.bool false]
      .refine aQ (n21 _ (inl ?_));obtain⟨cG,afd,h⟩:=aA h;refine c9 (afb a0 aO _ afd) _ ?_;refine al ?_;refine aL h (λjF h=>?_) λjF h=>?_
       .exact aK wQ [.bool false]
       .refine aQ (n18 _ (n17 _ (inl (dt ?_))));exact n13 _ (inr ⟨_,bQ rfl,fR (i64.wrap (oj+1)) h⟩)
    .exact cK (oq 0 _ (iC 0 _ (e8 _ (n10 _ (inl (aK aj [.bool true]))))))
   exact c4 h λn h=>gf n 0 h
theorem afe (a0 r) (h:HE a0=some r):aY ak 234 [.int .i64 a0] (.bool r) []:=by
 refine bA [0] [.tmp 2] Tryz.func234 aaT λbz aj bw=>al ?_;obtain⟨U,aW,h⟩:=aA h;refine c9 (P1 a0 _ aW) _ ?_;exact dY aj [.bool (!U)]
theorem aff (a0 r) (h:HG a0=some r):aY ak 183 [.slice (a0.map bj),.fn 234 []] (.int .i64 r) []:=by
 refine bA [0,1] [.tmp 4] Tryz.func183 aaU λbz aj bw=>al ?_;refine aD aj λ_ bB aZ ah=>al ?_;refine bc aZ λdI _ bU bG _=>?_;show a_ ak (.loop ?dN) _ _;have dV:∀n cH,zp a0 n cH=some r->cy ak ?dN dI (ay [(0,.slice (a0.map bj)),(1,.fn 234 []),(7,.int .i64 (a0.length:Int)),(8,.int .i64 cH)]):=by
  refine cO λ_ dP cH h=>cN bU λ_ dd b9 a7=>al ?_;refine aD b9 λ_ dc _ cG=>aL h (λbY h=>?_) λbY h=>?_
  .refine aQ (dc _ (inl (aD b9 λ_ cf bP _=>bc bP λ_ n10 cz _ _=>al ?_)));obtain⟨U,dw,h⟩:=aA h;obtain⟨ah,dF,h⟩:=aA h;refine gH dw (afe U _ dF) _ ?_;refine aL h (λeF h=>?_) λeF h=>?_
   .exact aK cz [.int .i64 cH]
   .refine aQ (n10 _ (cf _ (inl (dt ?_))));exact dd _ (inr ⟨_,bQ rfl,dP (i64.wrap (cH+1)) h⟩)
  .exact cK (cG 0 _ (a7 0 _ (bG _ (bB _ (inl (aK aj [.int .i64 (-1)]))))))
 exact c4 h λn h=>dV n 0 h
theorem afg (a0 r) (h:HH a0=some r):aY ak 233 [.slice (a0.map bj),.fn 234 []] (.bool r) []:=by
 refine bA [0,1] [.tmp 4] Tryz.func233 aaV λbz aj bw=>al ?_;obtain⟨U,aW,h⟩:=aA h;refine c9 (aff a0 _ aW) _ ?_;exact dY aj [.bool (decide (0<=U))]
theorem P3 (a0 r) (h:zq a0=some r):aY ak 176 [.slice (a0.map bj)] (.bool r) []:=by
 refine bA [0] [.tmp 2] Tryz.func176 aaW λbz aj bw=>al ?_;obtain⟨U,aW,h⟩:=aA h;refine c9 (afg a0 _ aW) _ ?_;exact dY aj [.bool (!U)]
theorem afh (a0 J r) (h:CF a0 J=some r):aY ak 274 [.slice (a0.map b4),hj J] (.bool r) []:=by
 refine bA [0,1] [.tmp 4] Tryz.func274 aaX λbz aj bw=>al ?_;obtain⟨U,aW,h⟩:=aA h;rcases ez h with⟨bG,h⟩|⟨bG,h⟩
 .obtain⟨ah,cC,h⟩:=aA h;rcases ez h with⟨eb,h⟩|⟨eb,h⟩
  .obtain⟨aO,bW,h⟩:=aA h;refine kS rfl (ku [(4,.bool aO)] (λP ba=>?_) ?_)
   ·(try simp only[et.down,simprocAttr,bG,cC,eb]);refine kv (sK J.b6 (a0.length:Int) _ aW) (hK:= ?_);simp only[et.down,simprocAttr,bG,cC,eb];refine kT (P3 J.bL _ bW) (hK:= ?_);simp only[et.down,simprocAttr,bG,cC,eb];refine⟨ky (by kernel_rfl),?_⟩;exact bJ (af bG (af cC eb))
   exact dY aj [.bool aO]
  .refine jD (af bG (af cC eb)) (sK J.b6 (a0.length:Int) _ aW) _ ?_;exact dY aj [.bool false]
 .refine jD bG (sK J.b6 (a0.length:Int) _ aW) _ ?_;exact dY aj [.bool false]
theorem afi (a0 J r) (h:HI a0 J=some r):aY ak 273 [hj a0,.ref (h3 J)] (.bool r) []:=by
 refine bA [0,1] [.tmp 3] Tryz.func273 aaY λbz aj bw=>al ?_;obtain⟨U,aW,h⟩:=aA h;refine c9 (afh J.dU a0 _ aW) _ ?_;exact dY aj [.bool (!U)]
theorem afj (a0 J r) (h:HK a0 J=some r):aY ak 305 [.slice (a0.map hj),.fn 273 [.ref (h3 J)]] (.int .i64 r) []:=by
 refine bA [0,1] [.tmp 4] Tryz.func305 aaZ λbz aj bw=>al ?_;refine aD aj λ_ bB aZ ah=>al ?_;refine bc aZ λdI _ bU bG _=>?_;show a_ ak (.loop ?dN) _ _;have dV:∀n cH,zr a0 J n cH=some r->cy ak ?dN dI (ay [(0,.slice (a0.map hj)),(1,.fn 273 [.ref (h3 J)]),(7,.int .i64 (a0.length:Int)),(8,.int .i64 cH)]):=by
  refine cO λ_ dP cH h=>cN bU λ_ dd b9 a7=>al ?_;refine aD b9 λ_ dc _ cG=>aL h (λbY h=>?_) λbY h=>?_
  .refine aQ (dc _ (inl (aD b9 λ_ cf bP _=>bc bP λ_ n10 cz _ _=>al ?_)));obtain⟨U,dw,h⟩:=aA h;obtain⟨ah,dF,h⟩:=aA h;refine gH dw (afi U J _ dF) _ ?_;refine aL h (λeF h=>?_) λeF h=>?_
   .exact aK cz [.int .i64 cH]
   .refine aQ (n10 _ (cf _ (inl (dt ?_))));exact dd _ (inr ⟨_,bQ rfl,dP (i64.wrap (cH+1)) h⟩)
  .exact cK (cG 0 _ (a7 0 _ (bG _ (bB _ (inl (aK aj [.int .i64 (-1)]))))))
 exact c4 h λn h=>dV n 0 h
theorem afk (a0 J r) (h:CG a0 J=some r):aY ak 272 [.slice (a0.map hj),.fn 273 [.ref (h3 J)]] (.bool r) []:=by
 refine bA [0,1] [.tmp 4] Tryz.func272 aa0 λbz aj bw=>al ?_;obtain⟨U,aW,h⟩:=aA h;refine c9 (afj a0 J _ aW) _ ?_;exact dY aj [.bool (decide (0<=U))]
theorem P4 (a0 r) (h:cmp_isNaN_string a0=some r):aY ak 291 [.str a0] (.bool r) []:=by
 refine bA [0] [.tmp 2] Tryz.func291 aa1 λbz aj bw=>al ?_;exact aK aj [.bool false]
theorem afl (a0 J r) (h:CH a0 J=some r):aY ak 248 [.str a0,.str J] (.int .i64 r) []:=by
 refine bA [0,1] [.tmp 4] Tryz.func248 aa2 λbz aj bw=>al ?_;obtain⟨U,aW,h⟩:=aA h;refine c9 (P4 a0 _ aW) _ ?_;obtain⟨ah,cC,h⟩:=aA h;refine c9 (P4 J _ cC) _ ?_;refine aD aj λ_ n6 c0 _=>al ?_;refine aL h (λbY h=>?_) λbY h=>?_
 .refine aD c0 λ_ cf bP _=>al ?_;refine aL h (λmB h=>?_) λmB h=>?_
  .exact aK bP [.int .i64 0]
  .exact aQ (cf _ (inl (aK c0 [.int .i64 (-1)])))
 .refine aQ (n6 _ (inl (aD aj λ_ n14 dO _=>al ?_)));refine aL h (λjt h=>?_) λjt h=>?_
  .exact aK dO [.int .i64 1]
  .refine aQ (n14 _ (inl (aD aj λ_ n18 wQ _=>al ?_)));refine aL h (λfz h=>?_) λfz h=>?_
   .exact aK wQ [.int .i64 (-1)]
   .refine aQ (n18 _ (inl (aD aj λ_ n22 l8 _=>al ?_)));refine aL h (λhD h=>?_) λhD h=>?_
    .exact aK l8 [.int .i64 1]
    .exact aQ (n22 _ (inl (aK aj [.int .i64 0])))
theorem afm (a0 J r) (h:CJ a0 J=some r):aY ak 194 [.slice (a0.map cd),.slice (J.map cd)] (.int .i64 r) []:=by
 refine bA [0,1] [.tmp 4] Tryz.func194 aa3 λbz aj bw=>al ?_;refine aD aj λ_ bB aZ ah=>al ?_;refine bc aZ λdI _ bU bG _=>?_;show a_ ak (.loop ?dN) _ _;have dV:∀n i6,CI a0 J n i6=some r->cy ak ?dN dI (ay [(0,.slice (a0.map cd)),(1,.slice (J.map cd)),(9,.slice (a0.map cd)),(10,.int .i64 (a0.length:Int)),(11,.int .i64 i6)]):=by
  refine cO λ_ dP i6 h=>cN bU λ_ dd b9 a7=>al ?_;refine aD b9 λ_ dc _ cG=>aL h (λbY h=>?_) λbY h=>?_
  .refine aQ (dc _ (inl (aD b9 λ_ cf bP _=>bc bP λ_ n10 cz _ _=>?_)));obtain⟨U,df,h⟩:=aA h;refine e0 df _ ?_;refine aD cz λ_ n13 eM _=>al ?_;refine aL h (λeF h=>?_) λeF h=>?_
   .exact aK eM [.int .i64 1]
   .refine aQ (n13 _ (inl ?_));obtain⟨ah,dZ,h⟩:=aA h;refine e0 dZ _ ?_;obtain⟨aO,iS,h⟩:=aA h;refine c9 (afl U ah _ iS) _ ?_;refine al ?_;refine aL h (λrm h=>?_) λrm h=>?_
    .exact aK cz [.int .i64 aO]
    .refine aQ (n10 _ (cf _ (inl (dt ?_))));exact dd _ (inr ⟨_,bQ rfl,dP (i64.wrap (i6+1)) h⟩)
  .refine cK (cG 0 _ (a7 0 _ (bG _ (bB _ (inl (aD aj λ_ n25 l_ _=>al ?_))))));refine aL h (λlN h=>?_) λlN h=>?_
   .exact aK l_ [.int .i64 (-1)]
   .exact aQ (n25 _ (inl (aK aj [.int .i64 0])))
 exact c4 h λn h=>dV n 0 h
theorem afn (a0 J r) (h:CK a0 J=some r):aY ak 131 [cq a0,cq J] (.int .i64 r) []:=by
 refine bA [0,1] [.tmp 4] Tryz.func131 aa4 λbz aj bw=>al ?_;obtain⟨U,aW,h⟩:=aA h;refine da (bX [(4,.int .i64 U)] (λP ba=>?_) ?_)
 ·(try simp only[aP.down,simprocAttr,(show∀s,fa ak s 49 2 [(0,.str a0.Left),(1,.str a0.b_)]=some (.ag 1 [.str a0.Left,.str a0.b_],s)from λs=>by kernel_rfl),(show∀s,fa ak s 49 2 [(0,.str J.Left),(1,.str J.b_)]=some (.ag 1 [.str J.Left,.str J.b_],s)from λs=>by kernel_rfl)]);refine eB (afm [a0.Left,a0.b_] [J.Left,J.b_] _ aW) rfl rfl (by simp only[aP.down,simprocAttr,(show∀s,fa ak s 49 2 [(0,.str a0.Left),(1,.str a0.b_)]=some (.ag 1 [.str a0.Left,.str a0.b_],s)from λs=>by kernel_rfl),(show∀s,fa ak s 49 2 [(0,.str J.Left),(1,.str J.b_)]=some (.ag 1 [.str J.Left,.str J.b_],s)from λs=>by kernel_rfl),hN,hP,hQ,dr,I.shares, @cr _ cd cd (λ_=>kA _), @cr _ cd cd (λ_=>kA _)]<;>rfl) rfl (inr (by rfl)) ?_;simp only[aP.down,simprocAttr,(show∀s,fa ak s 49 2 [(0,.str a0.Left),(1,.str a0.b_)]=some (.ag 1 [.str a0.Left,.str a0.b_],s)from λs=>by kernel_rfl),(show∀s,fa ak s 49 2 [(0,.str J.Left),(1,.str J.b_)]=some (.ag 1 [.str J.Left,.str J.b_],s)from λs=>by kernel_rfl)];exact bJ (af (show∀s,fa ak s 49 2 [(0,.str a0.Left),(1,.str a0.b_)]=some (.ag 1 [.str a0.Left,.str a0.b_],s)from λs=>by kernel_rfl) (show∀s,fa ak s 49 2 [(0,.str J.Left),(1,.str J.b_)]=some (.ag 1 [.str J.Left,.str J.b_],s)from λs=>by kernel_rfl))
 exact dY aj [.int .i64 U]
theorem afo (a0 J r) (h:HL a0 J=some r):aY ak 133 [cq a0,.ref (cq J)] (.bool r) []:=by
 refine bA [0,1] [.tmp 3] Tryz.func133 aa5 λbz aj bw=>al ?_;refine lL (a0.Left==J.Result) [(3,.bool ((a0.Left==J.Result)||(a0.b_==J.Result)))] ?_;exact dY aj [.bool ((a0.Left==J.Result)||(a0.b_==J.Result))]
theorem afp (a0 J r) (h:HN a0 J=some r):aY ak 195 [.slice (a0.map cq),.fn 133 [.ref (cq J)]] (.int .i64 r) []:=by
 refine bA [0,1] [.tmp 4] Tryz.func195 aa6 λbz aj bw=>al ?_;refine aD aj λ_ bB aZ ah=>al ?_;refine bc aZ λdI _ bU bG _=>?_;show a_ ak (.loop ?dN) _ _;have dV:∀n cH,zs a0 J n cH=some r->cy ak ?dN dI (ay [(0,.slice (a0.map cq)),(1,.fn 133 [.ref (cq J)]),(7,.int .i64 (a0.length:Int)),(8,.int .i64 cH)]):=by
  refine cO λ_ dP cH h=>cN bU λ_ dd b9 a7=>al ?_;refine aD b9 λ_ dc _ cG=>aL h (λbY h=>?_) λbY h=>?_
  .refine aQ (dc _ (inl (aD b9 λ_ cf bP _=>bc bP λ_ n10 cz _ _=>al ?_)));obtain⟨U,dw,h⟩:=aA h;obtain⟨ah,dF,h⟩:=aA h;refine gH dw (afo U J _ dF) _ ?_;refine aL h (λeF h=>?_) λeF h=>?_
   .exact aK cz [.int .i64 cH]
   .refine aQ (n10 _ (cf _ (inl (dt ?_))));exact dd _ (inr ⟨_,bQ rfl,dP (i64.wrap (cH+1)) h⟩)
  .exact cK (cG 0 _ (a7 0 _ (bG _ (bB _ (inl (aK aj [.int .i64 (-1)]))))))
 exact c4 h λn h=>dV n 0 h
theorem P5 (a0 J r) (h:zt a0 J=some r):aY ak 132 [.slice (a0.map cq),.fn 133 [.ref (cq J)]] (.bool r) []:=by
 refine bA [0,1] [.tmp 4] Tryz.func132 aa7 λbz aj bw=>al ?_;obtain⟨U,aW,h⟩:=aA h;refine c9 (afp a0 J _ aW) _ ?_;exact dY aj [.bool (decide (0<=U))]
theorem afq (a0 r) (h:CL a0=some r):aY ak 63 [.slice (a0.map cq)] (.bool r) []:=by
 refine bA [0] [.tmp 2] Tryz.func63 aa8 λbz aj bw=>al ?_;refine aD aj λ_ bB aZ _=>al ?_;refine bc aZ λdI _ bU bG _=>?_;show a_ ak (.loop ?dN) _ _;have dV:∀n e7,vQ a0 n e7=some r->cy ak ?dN dI (ay [(0,.slice (a0.map cq)),(5,.slice (a0.map cq)),(6,.int .i64 (a0.length:Int)),(7,.int .i64 e7)]):=by
  refine cO λ_ dP e7 h=>cN bU λ_ dd b9 a7=>al ?_;refine aD b9 λ_ dc _ cG=>aL h (λbY h=>?_) λbY h=>?_
  .refine aQ (dc _ (inl (aD b9 λ_ cf bP dT=>bc bP λ_ n10 cz _ dh=>?_)));obtain⟨U,df,h⟩:=aA h;refine e0 df _ ?_;refine aD cz λ_ n13 eM _=>?_;obtain⟨a7,hk,h⟩:=aA h;rcases ez h with⟨fF,h⟩|⟨fF,h⟩
   .refine jD (gd fF) (kY U.Left _ hk) _ ?_;refine iz rfl ?_;exact aK eM [.bool false]
   .obtain⟨bM,jE,h⟩:=aA h;rcases ez h with⟨h5,h⟩|⟨h5,h⟩
    .refine kS rfl (ku [(0,.slice (a0.map cq)),(4,.bf (cq U)),(5,.slice (a0.map cq)),(6,.int .i64 (a0.length:Int)),(7,.int .i64 e7),(48,.bool true)] (λP ba=>?_) ?_)
     ·(try simp only[et.down,simprocAttr,(bS fF),(gd h5)]);refine kv (kY U.Left _ hk) (hK:= ?_);simp only[et.down,simprocAttr,(bS fF),(gd h5)];refine kT (kY U.b_ _ jE) (hK:= ?_);simp only[et.down,simprocAttr,(bS fF),(gd h5)];refine⟨ky (by kernel_rfl),?_⟩;exact bJ (af (bS fF) (gd h5))
     refine iz rfl ?_;exact aK eM [.bool false]
    .obtain⟨cG,DU,h⟩:=aA h;rcases ez h with⟨iD,h⟩|⟨iD,h⟩
     .refine kS rfl (ku [(0,.slice (a0.map cq)),(4,.bf (cq U)),(5,.slice (a0.map cq)),(6,.int .i64 (a0.length:Int)),(7,.int .i64 e7),(48,.bool true)] (λP ba=>?_) ?_)
      ·(try simp only[et.down,simprocAttr,(bS fF),(bS h5),(gd iD)]);refine kv (kY U.Left _ hk) (hK:= ?_);simp only[et.down,simprocAttr,(bS fF),(bS h5),(gd iD)];refine kT (kY U.b_ _ jE) (hK:= ?_);simp only[et.down,simprocAttr,(bS fF),(bS h5),(gd iD)];refine kT (kY U.Result _ DU) (hK:= ?_);simp only[et.down,simprocAttr,(bS fF),(bS h5),(gd iD)];refine⟨ky (by kernel_rfl),?_⟩;exact bJ (af (bS fF) (af (bS h5) (gd iD)))
      refine iz rfl ?_;exact aK eM [.bool false]
     .rcases ez h with⟨hX,h⟩|⟨hX,h⟩
      .refine kS rfl (ku [(0,.slice (a0.map cq)),(4,.bf (cq U)),(5,.slice (a0.map cq)),(6,.int .i64 (a0.length:Int)),(7,.int .i64 e7),(48,.bool true)] (λP ba=>?_) ?_)
       ·(try simp only[et.down,simprocAttr,(bS fF),(bS h5),(bS iD),hX]);refine kv (kY U.Left _ hk) (hK:= ?_);simp only[et.down,simprocAttr,(bS fF),(bS h5),(bS iD),hX];refine kT (kY U.b_ _ jE) (hK:= ?_);simp only[et.down,simprocAttr,(bS fF),(bS h5),(bS iD),hX];refine kT (kY U.Result _ DU) (hK:= ?_);simp only[et.down,simprocAttr,(bS fF),(bS h5),(bS iD),hX];refine⟨ky (by kernel_rfl),?_⟩;exact bJ (af (bS fF) (af (bS h5) (af (bS iD) hX)))
       refine iz rfl ?_;exact aK eM [.bool false]
      .rcases ez h with⟨jF,h⟩|⟨jF,h⟩
       .obtain⟨eD,ov,h⟩:=aA h;obtain⟨dT,JP,h⟩:=aA h;refine kS rfl (ku [(0,.slice (a0.map cq)),(4,.bf (cq U)),(5,.slice (a0.map cq)),(6,.int .i64 (a0.length:Int)),(7,.int .i64 e7),(48,.bool (decide (0<=dT)))] (λP ba=>?_) ?_)
        ·(try simp only[et.down,simprocAttr,(bS fF),(bS h5),(bS iD),hX,jF,ov]);refine kv (kY U.Left _ hk) (hK:= ?_);simp only[et.down,simprocAttr,(bS fF),(bS h5),(bS iD),hX,jF,ov];refine kT (kY U.b_ _ jE) (hK:= ?_);simp only[et.down,simprocAttr,(bS fF),(bS h5),(bS iD),hX,jF,ov];refine kT (kY U.Result _ DU) (hK:= ?_);simp only[et.down,simprocAttr,(bS fF),(bS h5),(bS iD),hX,jF,ov];refine kT (afn eD U _ JP) (hK:= ?_);simp only[et.down,simprocAttr,(bS fF),(bS h5),(bS iD),hX,jF,ov];refine⟨ky (by kernel_rfl),?_⟩;exact bJ (af (bS fF) (af (bS h5) (af (bS iD) (af hX (af jF ov)))))
        refine aL h (λnc h=>?_) λnc h=>?_
        .exact aK eM [.bool false]
        .refine aQ (n13 _ (inl ?_));obtain⟨dh,sL,h⟩:=aA h;refine da (bX [(0,.slice (a0.map cq)),(5,.slice (a0.map cq)),(6,.int .i64 (a0.length:Int)),(7,.int .i64 e7),(51,.bool dh)] (λP ba=>?_) ?_)
         ·(try simp only[aP.down,simprocAttr]);refine eB (P5 a0 U _ sL) rfl rfl (by simp only[aP.down,simprocAttr,Du.down]<;>rfl) rfl (inr (by rfl)) ?_;simp only[aP.down,simprocAttr];exact bJ trivial
         refine aL h (λJG h=>?_) λJG h=>?_
         .exact aK cz [.bool false]
         .refine aQ (n10 _ (cf _ (inl (dt ?_))));exact dd _ (inr ⟨_,bQ rfl,dP (i64.wrap (e7+1)) h⟩)
       .refine kS rfl (ku [(0,.slice (a0.map cq)),(4,.bf (cq U)),(5,.slice (a0.map cq)),(6,.int .i64 (a0.length:Int)),(7,.int .i64 e7),(48,.bool false)] (λP ba=>?_) ?_)
        ·(try simp only[et.down,simprocAttr,(bS fF),(bS h5),(bS iD),hX,jF]);refine kv (kY U.Left _ hk) (hK:= ?_);simp only[et.down,simprocAttr,(bS fF),(bS h5),(bS iD),hX,jF];refine kT (kY U.b_ _ jE) (hK:= ?_);simp only[et.down,simprocAttr,(bS fF),(bS h5),(bS iD),hX,jF];refine kT (kY U.Result _ DU) (hK:= ?_);simp only[et.down,simprocAttr,(bS fF),(bS h5),(bS iD),hX,jF];refine⟨ky (by kernel_rfl),?_⟩;exact bJ (af (bS fF) (af (bS h5) (af (bS iD) (af hX jF))))
        refine p4 rfl ?_;refine aQ (n13 _ (inl ?_));obtain⟨gG,afr,h⟩:=aA h;refine da (bX [(0,.slice (a0.map cq)),(5,.slice (a0.map cq)),(6,.int .i64 (a0.length:Int)),(7,.int .i64 e7),(51,.bool gG)] (λP ba=>?_) ?_)
        ·(try simp only[aP.down,simprocAttr]);refine eB (P5 a0 U _ afr) rfl rfl (by simp only[aP.down,simprocAttr,Du.down]<;>rfl) rfl (inr (by rfl)) ?_;simp only[aP.down,simprocAttr];exact bJ trivial
        refine aL h (λJl h=>?_) λJl h=>?_
        .exact aK cz [.bool false]
        .refine aQ (n10 _ (cf _ (inl (dt ?_))));exact dd _ (inr ⟨_,bQ rfl,dP (i64.wrap (e7+1)) h⟩)
  .exact cK (cG 0 _ (a7 0 _ (bG _ (bB _ (inl (aK aj [.bool (decide ((a0.length:Int)<=6))]))))))
 exact c4 h λn h=>dV n 0 h
theorem P6 (a0 r) (h:zu a0=some r):aY ak 275 [.slice (a0.map cd)] (.bool r) []:=by
 refine bA [0] [.tmp 2] Tryz.func275 aa9 λbz aj bw=>al ?_;refine aD aj λ_ bB aZ ah=>al ?_;refine bc aZ λdI _ bU bG _=>?_;show a_ ak (.loop ?dN) _ _;have dV:∀n e7,vR a0 n e7=some r->cy ak ?dN dI (ay [(0,.slice (a0.map cd)),(5,.slice (a0.map cd)),(6,.int .i64 (a0.length:Int)),(7,.int .i64 e7)]):=by
  refine cO λ_ dP e7 h=>cN bU λ_ dd b9 a7=>al ?_;refine aD b9 λ_ dc _ cG=>aL h (λbY h=>?_) λbY h=>?_
  .refine aQ (dc _ (inl (aD b9 λ_ cf bP _=>bc bP λ_ n10 cz _ _=>?_)));obtain⟨U,df,h⟩:=aA h;refine e0 df _ ?_;obtain⟨ah,dF,h⟩:=aA h;rcases ez h with⟨eF,h⟩|⟨eF,h⟩
   .refine gH (gd eF) (kY U _ dF) _ ?_;refine iz rfl ?_;exact aK cz [.bool false]
   .rcases ez h with⟨kB,h⟩|⟨kB,h⟩
    .obtain⟨aO,dZ,h⟩:=aA h;refine gH (af (bS eF) (af kB dZ)) (kY U _ dF) _ ?_;refine aL h (λfi h=>?_) λfi h=>?_
     .exact aK cz [.bool false]
     .refine aQ (n10 _ (cf _ (inl (dt ?_))));exact dd _ (inr ⟨_,bQ rfl,dP (i64.wrap (e7+1)) h⟩)
    .refine gH (af (bS eF) kB) (kY U _ dF) _ ?_;refine p4 rfl ?_;refine aQ (n10 _ (cf _ (inl (dt ?_))));exact dd _ (inr ⟨_,bQ rfl,dP (i64.wrap (e7+1)) h⟩)
  .exact cK (cG 0 _ (a7 0 _ (bG _ (bB _ (inl (aK aj [.bool (decide ((a0.length:Int)<=12))]))))))
 exact c4 h λn h=>dV n 0 h
theorem afs (a0 r) (h:CM a0=some r):aY ak 218 [h3 a0] (.int .i64 r) []:=by
 refine bA [0] [.tmp 2] Tryz.func218 aa_ λbz aj bw=>al ?_;refine aD aj λ_ bB aZ ah=>bc aZ λ_ ff cZ _ aO=>?_;obtain⟨U,cC,h⟩:=aA h;refine c9 (afc a0.dU _ cC) _ ?_;refine aL h (λeb h=>?_) λeb h=>?_
 .exact aK cZ [.int .i64 1]
 .obtain⟨ah,jx,h⟩:=aA h;rcases ez h with⟨fQ,h⟩|⟨fQ,h⟩
  .refine gH (gd fQ) (kk (a0.cU.length:Int) 1 3 _ jx) _ ?_;refine iz rfl ?_;exact aK cZ [.int .i64 2]
  .obtain⟨aO,df,h⟩:=aA h;refine da (bX [(1,.bf (h3 a0)),(8,.bool aO)] (λP ba=>?_) ?_)
   ·(try simp only[aP.down,simprocAttr,(bS fQ)]);refine eB (kk (a0.cU.length:Int) 1 3 _ jx) (hK:= ?_);simp only[aP.down,simprocAttr,(bS fQ)];refine gU (afk a0.cU a0 _ df) rfl rfl (by simp only[aP.down,simprocAttr,(bS fQ),Dt.down]<;>rfl) rfl (inr (by rfl)) ?_;simp only[aP.down,simprocAttr,(bS fQ)];exact bJ (bS fQ)
   refine aL h (λgI h=>?_) λgI h=>?_
   .exact aK cZ [.int .i64 2]
   .obtain⟨bx,ck,h⟩:=aA h;refine c9 (afq a0.gV _ ck) _ ?_;refine aL h (λkB h=>?_) λkB h=>?_
    .exact aK cZ [.int .i64 3]
    .obtain⟨a7,iS,h⟩:=aA h;refine c9 (P6 a0.gP _ iS) _ ?_;refine aL h (λJA h=>?_) λJA h=>?_
     .exact aK cZ [.int .i64 4]
     .obtain⟨bM,kj,h⟩:=aA h;refine c9 (P6 a0.gQ _ kj) _ ?_;refine aL h (λnJ h=>?_) λnJ h=>?_
      .exact aK cZ [.int .i64 5]
      .exact aQ (ff _ (bB _ (inl (aK aj [.int .i64 0]))))
theorem JQ (a0 r) (h:CN a0=some r):aY ak 153 [h3 a0] (.bool r) []:=by
 refine bA [0] [.tmp 2] Tryz.func153 aba λbz aj bw=>al ?_;obtain⟨U,aW,h⟩:=aA h;refine c9 (afs a0 _ aW) _ ?_;exact dY aj [.bool (U==0)]
theorem aft (a0 J r) (h:zv a0 J=some r):aY ak 156 [.slice (a0.map b4),c6 J] (.bool r) []:=by
 refine bA [0,1] [.tmp 4] Tryz.func156 abb λbz aj bw=>al ?_;refine aD aj λ_ bB aZ ah=>?_;obtain⟨U,cm,h⟩:=aA h;rcases ez h with⟨cI,h⟩|⟨cI,h⟩
 .refine jD (gd cI) (sK J.b6 (a0.length:Int) _ cm) _ ?_;refine iz rfl ?_;exact aK aZ [.bool false]
 .obtain⟨ah,bW,h⟩:=aA h;obtain⟨aO,hy,h⟩:=aA h;refine kS rfl (ku [(0,.slice (a0.map b4)),(3,.bf (c6 J)),(24,.bool (!aO))] (λP ba=>?_) ?_)
  ·(try simp only[et.down,simprocAttr,(bS cI),bW]);refine kv (sK J.b6 (a0.length:Int) _ cm) (hK:= ?_);simp only[et.down,simprocAttr,(bS cI),bW];refine kT (sK J.Part (ah.Body.length:Int) _ hy) (hK:= ?_);simp only[et.down,simprocAttr,(bS cI),bW];refine⟨ky (by kernel_rfl),?_⟩;exact bJ (af (bS cI) bW)
  refine aL h (λfP h=>?_) λfP h=>?_
  .exact aK aZ [.bool false]
  .refine aQ (bB _ (inl (e0 bW _ ?_)));obtain⟨bx,dw,h⟩:=aA h;rcases ez h with⟨iq,h⟩|⟨iq,h⟩
   .obtain⟨a7,ey,h⟩:=aA h;obtain⟨bM,ck,h⟩:=aA h;rcases ez h with⟨kB,h⟩|⟨kB,h⟩
    .obtain⟨cG,dZ,h⟩:=aA h;refine kS rfl (ku [(4,.bool cG)] (λP ba=>?_) ?_)
     ·(try simp only[et.down,simprocAttr,dw,iq,ck,br ck,kB]);refine kT (JN ah _ ey) (hK:= ?_);simp only[et.down,simprocAttr,dw,iq,ck,br ck,kB];refine kT (P3 J.bL _ dZ) (hK:= ?_);simp only[et.down,simprocAttr,dw,iq,ck,br ck,kB];refine⟨ky (by kernel_rfl),?_⟩;exact bJ (af dw (af iq (af ck (af (br ck) kB))))
     exact dY aj [.bool cG]
    .refine jD (af dw (af iq (af ck (af (br ck) kB)))) (JN ah _ ey) _ ?_;exact dY aj [.bool false]
   .refine ld (af dw iq) _ ?_;exact dY aj [.bool false]
theorem afu (a0 J r) (h:HQ a0 J=some r):aY ak 155 [c6 a0,.ref (h3 J)] (.bool r) []:=by
 refine bA [0,1] [.tmp 3] Tryz.func155 abc λbz aj bw=>al ?_;obtain⟨U,aW,h⟩:=aA h;refine c9 (aft J.dU a0 _ aW) _ ?_;exact dY aj [.bool (!U)]
theorem afv (a0 J r) (h:HS a0 J=some r):aY ak 219 [.slice (a0.map c6),.fn 155 [.ref (h3 J)]] (.int .i64 r) []:=by
 refine bA [0,1] [.tmp 4] Tryz.func219 abd λbz aj bw=>al ?_;refine aD aj λ_ bB aZ ah=>al ?_;refine bc aZ λdI _ bU bG _=>?_;show a_ ak (.loop ?dN) _ _;have dV:∀n cH,zw a0 J n cH=some r->cy ak ?dN dI (ay [(0,.slice (a0.map c6)),(1,.fn 155 [.ref (h3 J)]),(7,.int .i64 (a0.length:Int)),(8,.int .i64 cH)]):=by
  refine cO λ_ dP cH h=>cN bU λ_ dd b9 a7=>al ?_;refine aD b9 λ_ dc _ cG=>aL h (λbY h=>?_) λbY h=>?_
  .refine aQ (dc _ (inl (aD b9 λ_ cf bP _=>bc bP λ_ n10 cz _ _=>al ?_)));obtain⟨U,dw,h⟩:=aA h;obtain⟨ah,dF,h⟩:=aA h;refine gH dw (afu U J _ dF) _ ?_;refine aL h (λeF h=>?_) λeF h=>?_
   .exact aK cz [.int .i64 cH]
   .refine aQ (n10 _ (cf _ (inl (dt ?_))));exact dd _ (inr ⟨_,bQ rfl,dP (i64.wrap (cH+1)) h⟩)
  .exact cK (cG 0 _ (a7 0 _ (bG _ (bB _ (inl (aK aj [.int .i64 (-1)]))))))
 exact c4 h λn h=>dV n 0 h
theorem afw (a0 J r) (h:CO a0 J=some r):aY ak 154 [.slice (a0.map c6),.fn 155 [.ref (h3 J)]] (.bool r) []:=by
 refine bA [0,1] [.tmp 4] Tryz.func154 abe λbz aj bw=>al ?_;obtain⟨U,aW,h⟩:=aA h;refine c9 (afv a0 J _ aW) _ ?_;exact dY aj [.bool (decide (0<=U))]
theorem afx (a0 J r) (h:HT a0 J=some r):aY ak 80 [h3 a0,.slice (J.map c6)] (.bool r) []:=by
 refine bA [0,1] [.tmp 4] Tryz.func80 abf λbz aj bw=>al ?_;obtain⟨ah,cm,h⟩:=aA h;rcases ez h with⟨cI,h⟩|⟨cI,h⟩
 .rcases ez h with⟨eb,h⟩|⟨eb,h⟩
  .obtain⟨aO,bW,h⟩:=aA h;refine da (bX [(4,.bool (!aO))] (λP ba=>?_) ?_)
   ·(try simp only[aP.down,simprocAttr,cI,eb]);refine eB (JQ a0 _ cm) (hK:= ?_);simp only[aP.down,simprocAttr,cI,eb];refine gU (afw J a0 _ bW) rfl rfl (by simp only[aP.down,simprocAttr,cI,eb,Dt.down]<;>rfl) rfl (inr (by rfl)) ?_;simp only[aP.down,simprocAttr,cI,eb];exact bJ (af cI eb)
   exact dY aj [.bool (!aO)]
  .refine gH (af cI eb) (JQ a0 _ cm) _ ?_;exact dY aj [.bool false]
 .refine gH cI (JQ a0 _ cm) _ ?_;exact dY aj [.bool false]
theorem afy (a0 J r) (h:HV a0 J=some r):aY ak 120 [.slice (a0.map bj),.int .i64 J] (.int .i64 r) []:=by
 refine bA [0,1] [.tmp 4] Tryz.func120 abg λbz aj bw=>al ?_;refine aD aj λ_ bB aZ _=>al ?_;refine bc aZ λdI _ bU bG _=>?_;show a_ ak (.loop ?dN) _ _;have dV:∀n cH,zx a0 J n cH=some r->cy ak ?dN dI (ay [(0,.slice (a0.map bj)),(1,.int .i64 J),(7,.int .i64 (a0.length:Int)),(8,.int .i64 cH)]):=by
  refine cO λ_ dP cH h=>cN bU λ_ dd b9 a7=>al ?_;refine aD b9 λ_ dc _ cG=>aL h (λbY h=>?_) λbY h=>?_
  .refine aQ (dc _ (inl (aD b9 λ_ cf bP _=>bc bP λ_ n10 cz _ _=>al ?_)));obtain⟨U,dw,h⟩:=aA h;refine e0 dw _ ?_;refine aL h (λiq h=>?_) λiq h=>?_
   .exact aK cz [.int .i64 cH]
   .refine aQ (n10 _ (cf _ (inl (dt ?_))));exact dd _ (inr ⟨_,bQ rfl,dP (i64.wrap (cH+1)) h⟩)
  .exact cK (cG 0 _ (a7 0 _ (bG _ (bB _ (inl (aK aj [.int .i64 (-1)]))))))
 exact c4 h λn h=>dV n 0 h
theorem afz (a0 J r) (h:CP a0 J=some r):aY ak 112 [.slice (a0.map bj),.int .i64 J] (.bool r) []:=by
 refine bA [0,1] [.tmp 4] Tryz.func112 abh λbz aj bw=>al ?_;obtain⟨U,aW,h⟩:=aA h;refine c9 (afy a0 J _ aW) _ ?_;exact dY aj [.bool (decide (0<=U))]
theorem P7 (a0 r) (h:zy a0=some r):aY ak 106 [.slice (a0.map bj)] (.ag 1 (r.map bj)) []:=by
 refine bA [0] [.tmp 2] Tryz.func106 abi λbz aj bw=>al ?_;refine aD aj λ_ bB aZ _=>?_;rcases ez h with⟨bG,h⟩|⟨bG,h⟩
 .refine da (bX [(0,.slice (a0.map bj)),(4,.fm)] (λP ba=>?_) ?_)
  .simp only[aP.down,simprocAttr,BJ,(NG bG),BK];exact bJ (af @BJ (af (NG bG) @BK))
  obtain⟨bF,h⟩:=RG h;refine Vq rfl ?_ ?_
  .replace h:=bF;refine al ?_;exact jh (aZ _ (inr ⟨[(2,.ag 1 [])],jW [] rfl (jY (t:=2) (d:=.bd) rfl rfl (.kN _) (by decide) (jX)),Gq [.ag 1 []]⟩))
  .refine aQ (bB _ (inl ?_));obtain⟨u8,hy,h⟩:=aA h;(try simp only[ph.down,Nat.zero_add,Nat.add_zero,reduceAdd]at hy);refine e0 (af (show∀s,fa ak s 22 0 []=some (.ag 1 [],s)from λs=>by kernel_rfl) (af (@oY ak 22 22 2 rfl rfl) (af @p6 (af @p7 (af @p8 (af @p5 (af @all_nil (af hy (@mn _ bj 1 λ_=>rfl))))))))) _ ?_;exact dY aj [.ag 1 (a0.map bj)]
 .refine da (bX [(0,.slice (a0.map bj)),(4,.bool false)] (λP ba=>?_) ?_)
  .simp only[aP.down,simprocAttr,BJ,(NH bG),BK];exact bJ (af @BJ (af (NH bG) @BK))
  refine p4 rfl ?_;refine aQ (bB _ (inl ?_));obtain⟨alA,lu,h⟩:=aA h;(try simp only[ph.down,Nat.zero_add,Nat.add_zero,reduceAdd]at lu);refine e0 (af (show∀s,fa ak s 22 0 []=some (.ag 1 [],s)from λs=>by kernel_rfl) (af (@oY ak 22 22 2 rfl rfl) (af @p6 (af @p7 (af @p8 (af @p5 (af @all_nil (af lu (@mn _ bj 1 λ_=>rfl))))))))) _ ?_;exact dY aj [.ag 1 (a0.map bj)]
end Go.Proofs.YtklcmlnabkfneaaGreat
