/- Part of a proof that a law returns true for every input. No condition. -/
import Derived.Test.YtklcmlnabkfneaaGreatSl
namespace Go.Proofs.YtklcmlnabkfneaaGreat
open Option Go.IntKind Nat Or
open Go Go.cU Go.ll
set_option maxRecDepth 100000
set_option maxHeartbeats 8800000
set_option linter.unusedSimpArgs false
set_option linter.unusedVariables false
theorem bw (fx:aiA) (en:List ResultVar) {f:FuncId} {fn:Func} {ins outs:aiF} {r:I} (bn:ah.P.funcs[f]? =some fn) (cW:aI)
 (DW:∀Q:Exit->ax->Prop,(∀s,dm (cU.Ends ah fx en r outs) s->Q .ret s)->(∀s,dm (cU.Ends ah fx en r outs) s->Q .normal s)->a1 ah cW Q (az (num 0 ins))) (U:eB ⟨fn.ntmps,fx⟩ (fn.body.getD .skip)=some cW.strip:=by kernel_rfl) (R:fn.body=some (fn.body.getD .skip):=by rfl) (kg:(fn.name== "runtime.NumGoroutine")=false:=by rfl) (aP:ins.length<=fn.ntmps:=by exact le_of_ble_eq_true rfl) (e_:fn.results.toList=en:=by rfl) (au:cW.plain=true:=by kernel_rfl):aW ah f ins r outs:=
 aW.EE ER en (num 0 ins) bn R kg U aP e_ rfl DW au
theorem cS {P:Nat->Prop} (s:∀m,P m->P (m+1)) (z:P 0:=by intros;rename_i h;cases(show none=some _ from h)):∀n,P n:=λn=>Nat.rec z s n
def GO:=PLift.up (af @U1 (af @U2 (af @U3 (af @U4 (af @U5 (af @U6 (af @U7 (af @U8 (af @U9 (af @U_ (af @Va (af @Vb (af @Vc (af @Vd (af @Ve (af @Vf (af @Vg (af @Vh (af @Vi (af @Vj (af @Vk (af @Vl (af @Vm (af @Vn (af @Vo (af @Vp (af @Vq (af @Vr (af @Vs (af @Vt (af @Vu (af @Vv (af @Vw (af @Vx (af @Vy (af @Vz (af @VA (af @VB (af @VC (af @VD (af @bf.eq_1 (af @hx.eq_1 (af @bP.eq_1 (af @cE.eq_1 (af @db.eq_1 (af @bN.eq_1 (af @hS.eq_1 (af @fV.eq_1 (af @ea.eq_1 (af @hR.eq_1 (af @hQ.eq_1 (af @hv.eq_1 (af @h4.eq_1 (af @iU.eq_1 (af @ot.eq_1 (af @j0.eq_1 (af @mK.eq_1 (af @dF.eq_1 (af @jc.eq_1 (af @iT.eq_1 (af @cJ.eq_1 (af @je.eq_1 (af @jd.eq_1 (af @j1.eq_1 (af @dn.eq_1 (af @qk.eq_1 (af @jI.eq_1 (af @gg.eq_1 @kD.eq_1))))))))))))))))))))))))))))))))))))))))))))))))))))))))))))))))))))
def aX:=PLift.up (af Ur.down GO.down)
def dV:=PLift.up (af Us.down GO.down)
def iA:=PLift.up (af Ut.down GO.down)
theorem b2 {F A:Prop} (f:F) (h:F->A:=by intro bc;(try simp only[iA.down,simprocAttr,bc,cZ,e3,ei,ek,I.fY,I.shares]at bl⊢);exact bl):A:=h f
theorem wr {Q l ros k} (b3:aiE) (aw:Q .normal (az b3)) (h:∀P:aiE->Prop,P b3->dt ah (az l) ros none (λ_ s=>P (gu k s)):=by
 intro P bl;simp only[aX.down,simprocAttr,cZ,e3,ei,ek];(try simp only[iA.down,simprocAttr,cZ,e3,ei,ek]at bl⊢);exact bl):a1 ah (.fB ros (some k)) Q (az l):=
 iv (cc b3 (h) aw)
theorem dc {Q l ros k} {b3:aiE} (aw:Q .normal (az b3)) (h:∀P:aiE->Prop,P b3->dt ah (az l) ros none (λ_ s=>P (gu k s)):=by
 intro P bl;simp only[aX.down,simprocAttr,cZ,e3,ei,ek];(try simp only[iA.down,simprocAttr,cZ,e3,ei,ek]at bl⊢);exact bl):a1 ah (.fB ros (some k)) Q (az l):=
 iv (cc b3 (h) aw)
theorem Zr {Q l ros k g ds r} (ok:aW ah g ds r []) (b3:aiE) (aw:Q .normal (az b3)) (h:aW ah g ds r []->∀P:aiE->Prop,P b3->dt ah (az l) ros none (λ_ s=>P (gu k s)):=by
 intro k1 P bl;(try simp only[aX.down,simprocAttr,cZ,e3,ei,ek]);(first|refine fg k1 rfl rfl rfl rfl (inl (by rfl)) ?_|refine gM k1 rfl rfl rfl rfl (inl (by rfl)) ?_);simp only[aX.down,simprocAttr,cZ,e3,ei,ek];(try simp only[iA.down,simprocAttr,cZ,e3,ei,ek]at bl⊢);exact bl):a1 ah (.fB ros (some k)) Q (az l):=
 iv (cc b3 (h ok) aw)
theorem GP {Q l ros k g ds r} {F:Prop} (bc:F) (ok:aW ah g ds r []) (b3:aiE) (aw:Q .normal (az b3)) (h:aW ah g ds r []->F->∀P:aiE->Prop,P b3->dt ah (az l) ros none (λ_ s=>P (gu k s)):=by
 intro k1 bc P bl;(try simp only[aX.down,simprocAttr,bc,cZ,e3,ei,ek]);(first|refine fg k1 rfl rfl rfl rfl (inl (by rfl)) ?_|refine gM k1 rfl rfl rfl rfl (inl (by rfl)) ?_);simp only[aX.down,simprocAttr,bc,cZ,e3,ei,ek];(try simp only[iA.down,simprocAttr,bc,cZ,e3,ei,ek]at bl⊢);exact bl):a1 ah (.fB ros (some k)) Q (az l):=
 iv (cc b3 (h ok bc) aw)
theorem Zs {Q l ros k} {F:Prop} (bc:F) (b3:aiE) (aw:Q .normal (az b3)) (h:F->∀P:aiE->Prop,P b3->dt ah (az l) ros none (λ_ s=>P (gu k s)):=by
 intro bc P bl;simp only[aX.down,simprocAttr,bc,cZ,e3,ei,ek];(try simp only[iA.down,simprocAttr,bc,cZ,e3,ei,ek]at bl⊢);exact bl):a1 ah (.fB ros (some k)) Q (az l):=
 iv (cc b3 (h bc) aw)
theorem ws {Q l ros k b} (b3:aiE) (aw:a1 ah b Q (az b3)) (h:∀P:aiE->Prop,P b3->dt ah (az l) ros none (λ_ s=>P (gu k s)):=by
 intro P bl;simp only[aX.down,simprocAttr,cZ,e3,ei,ek];(try simp only[iA.down,simprocAttr,cZ,e3,ei,ek]at bl⊢);exact bl):a1 ah (.seq (.fB ros (some k)) b) Q (az l):=
 ep (cc b3 (h) aw)
theorem ao {Q l ros k b} {b3:aiE} (aw:a1 ah b Q (az b3)) (h:∀P:aiE->Prop,P b3->dt ah (az l) ros none (λ_ s=>P (gu k s)):=by
 intro P bl;simp only[aX.down,simprocAttr,cZ,e3,ei,ek];(try simp only[iA.down,simprocAttr,cZ,e3,ei,ek]at bl⊢);exact bl):a1 ah (.seq (.fB ros (some k)) b) Q (az l):=
 ep (cc b3 (h) aw)
theorem aJ {Q l ros k fx en r} {b3:aiE} (dA:∀s,dm (cU.Ends ah fx en r []) s->Q .ret s) (ds:aiF) (h:∀P:aiE->Prop,P b3->dt ah (az l) ros none (λ_ s=>P (gu k s)):=by
 intro P bl;simp only[aX.down,simprocAttr,cZ,e3,ei,ek];(try simp only[iA.down,simprocAttr,cZ,e3,ei,ek]at bl⊢);exact bl) (ad:r=zZ ds:=by cases mj (by assumption);rfl) (ab:en.map (n2 ah (az b3))=ds.map some:=by rfl) (aA:(en.map iL).Nodup:=by decide):a1 ah (.seq (.fB ros (some k)) .ret) Q (az l):=
 ws b3 (dC dA ds ad ab aA) h
theorem cK {Q l ros k b g ds r} (ok:aW ah g ds r []) (b3:aiE) (aw:a1 ah b Q (az b3)) (h:aW ah g ds r []->∀P:aiE->Prop,P b3->dt ah (az l) ros none (λ_ s=>P (gu k s)):=by
 intro k1 P bl;(try simp only[aX.down,simprocAttr,cZ,e3,ei,ek]);(first|refine fg k1 rfl rfl rfl rfl (inl (by rfl)) ?_|refine gM k1 rfl rfl rfl rfl (inl (by rfl)) ?_);simp only[aX.down,simprocAttr,cZ,e3,ei,ek];(try simp only[iA.down,simprocAttr,cZ,e3,ei,ek]at bl⊢);exact bl):a1 ah (.seq (.fB ros (some k)) b) Q (az l):=
 ep (cc b3 (h ok) aw)
theorem gD {Q l ros k b g ds r} {F:Prop} (bc:F) (ok:aW ah g ds r []) (b3:aiE) (aw:a1 ah b Q (az b3)) (h:aW ah g ds r []->F->∀P:aiE->Prop,P b3->dt ah (az l) ros none (λ_ s=>P (gu k s)):=by
 intro k1 bc P bl;(try simp only[aX.down,simprocAttr,bc,cZ,e3,ei,ek]);(first|refine fg k1 rfl rfl rfl rfl (inl (by rfl)) ?_|refine gM k1 rfl rfl rfl rfl (inl (by rfl)) ?_);simp only[aX.down,simprocAttr,bc,cZ,e3,ei,ek];(try simp only[iA.down,simprocAttr,bc,cZ,e3,ei,ek]at bl⊢);exact bl):a1 ah (.seq (.fB ros (some k)) b) Q (az l):=
 ep (cc b3 (h ok bc) aw)
theorem Nn {Q l ros k b ew g ds r} (ok:aW ah g ds r []) (b3:aiE) (aw:a1 ah b Q (az b3)) (h:aW ah g ds r []->∀P:aiE->Prop,P b3->dt ah (az l) ros (some []) (λacc s=>ki (n5 ew) 0 [] (acc.getD []).reverse=true/\P (gu k s)):=by
 intro k1 P bl;(try simp only[dV.down,simprocAttr,cZ,e3,ei,ek]);(first|refine jX k1 rfl rfl rfl rfl (inl (by rfl)) ?_|refine kk k1 rfl rfl rfl rfl (inl (by rfl)) ?_);simp only[dV.down,simprocAttr,cZ,e3,ei,ek];refine⟨jZ (by kernel_rfl),?_⟩;(try simp only[iA.down,simprocAttr,cZ,e3,ei,ek]at bl⊢);exact bl) (aO:ew.length=ros.length:=by rfl):a1 ah (.seq (.jC ros ew (some k)) b) Q (az l):=
 kj aO (jW b3 (h ok) aw)
theorem js {Q l ros k b ew g ds r} {F:Prop} (bc:F) (ok:aW ah g ds r []) (b3:aiE) (aw:a1 ah b Q (az b3)) (h:aW ah g ds r []->F->∀P:aiE->Prop,P b3->dt ah (az l) ros (some []) (λacc s=>ki (n5 ew) 0 [] (acc.getD []).reverse=true/\P (gu k s)):=by
 intro k1 bc P bl;(try simp only[dV.down,simprocAttr,bc,cZ,e3,ei,ek]);(first|refine jX k1 rfl rfl rfl rfl (inl (by rfl)) ?_|refine kk k1 rfl rfl rfl rfl (inl (by rfl)) ?_);simp only[dV.down,simprocAttr,bc,cZ,e3,ei,ek];refine⟨jZ (by kernel_rfl),?_⟩;(try simp only[iA.down,simprocAttr,bc,cZ,e3,ei,ek]at bl⊢);exact bl) (aO:ew.length=ros.length:=by rfl):a1 ah (.seq (.jC ros ew (some k)) b) Q (az l):=
 kj aO (jW b3 (h ok bc) aw)
theorem kE {Q l ros k b ew} {F:Prop} (bc:F) (b3:aiE) (aw:a1 ah b Q (az b3)) (h:F->∀P:aiE->Prop,P b3->dt ah (az l) ros (some []) (λacc s=>ki (n5 ew) 0 [] (acc.getD []).reverse=true/\P (gu k s)):=by
 intro bc P bl;simp only[dV.down,simprocAttr,bc,cZ,e3,ei,ek];refine⟨jZ (by kernel_rfl),?_⟩;(try simp only[iA.down,simprocAttr,bc,cZ,e3,ei,ek]at bl⊢);exact bl) (aO:ew.length=ros.length:=by rfl):a1 ah (.seq (.jC ros ew (some k)) b) Q (az l):=
 kj aO (jW b3 (h bc) aw)
theorem Np {Q l ros k b ew} (e:Bool) {F:Prop} (bc:F) (b3:aiE) (aw:a1 ah b Q (az b3)) (h:F->∀c,e=c->∀P:aiE->Prop,P b3->dt ah (az l) ros (some []) (λacc s=>ki (n5 ew) 0 [] (acc.getD []).reverse=true/\P (gu k s)):=by
 intro bc c aj P bl;cases c;all_goals
  (try simp only[List.length_replicate]at aj);simp only[dV.down,simprocAttr,aj,bc,cZ,e3,ei,ek];refine⟨jZ (by kernel_rfl),?_⟩;(try simp only[iA.down,simprocAttr,aj,bc,cZ,e3,ei,ek]at bl⊢);exact bl) (aO:ew.length=ros.length:=by rfl):a1 ah (.seq (.jC ros ew (some k)) b) Q (az l):=
 kj aO (jW b3 (h bc e rfl) aw)
theorem eV {Q l ros k b} {F:Prop} (bc:F) (b3:aiE) (aw:a1 ah b Q (az b3)) (h:F->∀P:aiE->Prop,P b3->dt ah (az l) ros none (λ_ s=>P (gu k s)):=by
 intro bc P bl;simp only[aX.down,simprocAttr,bc,cZ,e3,ei,ek];(try simp only[iA.down,simprocAttr,bc,cZ,e3,ei,ek]at bl⊢);exact bl):a1 ah (.seq (.fB ros (some k)) b) Q (az l):=
 ep (cc b3 (h bc) aw)
theorem pA {Q l ros k b} {F:Prop} (bc:F) (b3:aiE) (aw:a1 ah b Q (az b3)) (h:F->∀P:aiE->Prop,P b3->dt ah (az l) ros none (λ_ s=>P (gu k s)):=by
 intro bc P bl;simp only[aX.down,simprocAttr,bc,cZ,e3,ei,ek,-Int.reduceNatCast'];(try simp only[iA.down,simprocAttr,bc,cZ,e3,ei,ek,-Int.reduceNatCast']at bl⊢);exact bl):a1 ah (.seq (.fB ros (some k)) b) Q (az l):=
 ep (cc b3 (h bc) aw)
theorem kF {Q l ros k b} (e:Bool) (b3:aiE) (aw:a1 ah b Q (az b3)) (h:∀c,e=c->∀P:aiE->Prop,P b3->dt ah (az l) ros none (λ_ s=>P (gu k s)):=by
 intro c aj P bl;cases c;all_goals
  (try simp only[List.length_replicate]at aj);simp only[aX.down,simprocAttr,aj,cZ,e3,ei,ek];(try simp only[iA.down,simprocAttr,aj,cZ,e3,ei,ek]at bl⊢);exact bl):a1 ah (.seq (.fB ros (some k)) b) Q (az l):=
 ep (cc b3 (h e rfl) aw)
theorem Zt {Q l ros k b} (e:Bool) {F:Prop} (bc:F) (b3:aiE) (aw:a1 ah b Q (az b3)) (h:F->∀c,e=c->∀P:aiE->Prop,P b3->dt ah (az l) ros none (λ_ s=>P (gu k s)):=by
 intro bc c aj P bl;cases c;all_goals
  (try simp only[List.length_replicate]at aj);simp only[aX.down,simprocAttr,aj,bc,cZ,e3,ei,ek];(try simp only[iA.down,simprocAttr,aj,bc,cZ,e3,ei,ek]at bl⊢);exact bl):a1 ah (.seq (.fB ros (some k)) b) Q (az l):=
 ep (cc b3 (h bc e rfl) aw)
def qn:=PLift.up (af @List.length_append.{0} (af @List.length_cons.{0} (af @List.length_nil.{0} (af @List.length_map.{0,0} @List.length_replicate.{0}))))
def rB:=PLift.up (af (show∀s,eI ah s 67 1 [(0,.a_)]=some (.al 1 [.a_],s)from λs=>by kernel_rfl) (af (@n8 ah 67 67 62 rfl rfl) (af @o_ (af @pa (af @pb (af @o9 (af @all_nil (@lJ _ dF 1 (λ_=>rfl)))))))))
def yD:=PLift.up (af @lg (af @lh (af @lj (af @dJ (af (@cQ _ bP bP (λ_=>GH _)) (af (@cQ _ hx hx (λ_=>GI _)) (af (@cQ _ cE cE (λ_=>rv _)) (af (@cQ _ cJ cJ (λ_=>lR _)) (@cQ _ cJ cJ (λ_=>lR _))))))))))
def BO:=PLift.up (af @List.cons_append.{0} (af @List.nil_append.{0} (af @List.length_append.{0} (af @List.length_cons.{0} (af @List.length_nil.{0} (af @List.length_map.{0,0} @List.length_replicate.{0}))))))
def BP:=PLift.up (af @dJ (@cQ _ dn bN (λ_=>u1 _)))
def BQ:=PLift.up (af @lg (af @lh (af @lj @dJ)))
def GQ:=PLift.up (af (@S6 ah 119 [(2,0),(2,1),(22,2)] [(.int .i64 0),(.int .i64 0),.a_] rfl rfl (by kernel_rfl)) (af @wK (af @wL (af @dK (af @pb (af @List.nil_append.{0} (af @List.cons_append.{0} (af (@wJ ah 62 119 1 3 [(.agg [(.int .i64 0),(.int .i64 0),.a_])] rfl rfl rfl (by kernel_rfl)) (af (@n8 ah 62 62 119 rfl rfl) (af @o_ (af @pa (af @o9 (af @all_nil (@lJ _ dn 3 (λ_=>rfl)))))))))))))))
def GR:=PLift.up (af @lg (af @lh (af @lj (af @dJ (@cQ _ dn bN (λ_=>u1 _))))))
def GS:=PLift.up (af (@n8 ah 22 22 2 rfl rfl) (af @o_ (af @pa (af @pb (af @o9 (af @all_nil (af (@lJ _ bf 1 (λ_=>rfl)) (af (@wJ ah 200 22 1 1 [.a_] rfl rfl rfl (by kernel_rfl)) (af @wK (af @wL (af @dK (af @List.nil_append.{0} (af @List.cons_append.{0} (af (@n8 ah 200 200 22 rfl rfl) (@lJ _ jI 1 (λ_=>rfl))))))))))))))))
def GU:=PLift.up (af (@wJ ah 62 119 1 3 [(.agg [(.int .i64 0),(.int .i64 0),.a_])] rfl rfl rfl (by kernel_rfl)) (af @wK (af @wL (af @dK (af @pb (af @List.nil_append.{0} (af @List.cons_append.{0} (af (@n8 ah 62 62 119 rfl rfl) (af @o_ (af @pa (af @o9 (af @all_nil (@lJ _ dn 3 (λ_=>rfl))))))))))))))
def GV:=PLift.up (af (@wJ ah 67 62 1 1 [.a_] rfl rfl rfl (by kernel_rfl)) (af @wK (af @wL (af @dK (af @pb (af @List.nil_append.{0} (af @List.cons_append.{0} (af (@n8 ah 67 67 62 rfl rfl) (af @o_ (af @pa (af @o9 (af @all_nil (@lJ _ gg 1 (λ_=>rfl))))))))))))))
def Nq:=PLift.up (af @lg (af @lh (af @lj (af @dJ (@cQ _ db db (λ_=>BF _))))))
def Nr:=PLift.up (af @lg (af @lh (af @lj (af @dJ (@cQ _ bf bf (λ_=>mJ _))))))
def Ns:=PLift.up (af @wM (af @z8 (af @z_ (af @lg (af @lh (af @lj (af @dJ (af @or_true (af @true_or (@cQ _ bf bf (λ_=>mJ _)))))))))))
def Nt:=PLift.up (af @wM (af @z8 (af @z_ (af @lg (af @lh (af @lj (af @dJ (af @or_true (af @true_or (@cQ _ gg dF (λ_=>MS _)))))))))))
def Nu:=PLift.up (af @lg (af @lh (af @lj (af @dJ (af (@cQ _ jd bP (λ_=>yp _)) (af (@cQ _ je hx (λ_=>yt _)) (af (@cQ _ cE cE (λ_=>rv _)) (af (@cQ _ cJ cJ (λ_=>lR _)) (af (@cQ _ cJ cJ (λ_=>lR _)) (@cQ _ dn bN (λ_=>u1 _)))))))))))
theorem Zu (a0 J r) (h:xe a0 J=some r):aW ah 166 [.slice (a0.map j0),.int .i64 J] (.int .i64 r) []:=by
 refine bw [0] [.tmp 4] Tryz.func166 Wn λbu ai bt=>ao ?_;refine ao ?_;refine aF ai λ_ eW cG _=>ao ?_;refine aM h (λcm h=>?_) λcm h=>?_
 .exact aJ cG [.int .i64 (-1)]
 .exact aQ (eW _ (inl (aJ ai [.int .i64 (i64.wrap (J-(a0.length:Int)))])))
theorem Zv (a0 J r) (h:Ar a0 J=some r):aW ah 167 [.slice (a0.map iT),.int .i64 J] (.int .i64 r) []:=by
 refine bw [0] [.tmp 4] Tryz.func167 Wo λbu ai bt=>ao ?_;refine ao ?_;refine aF ai λ_ eW cG _=>ao ?_;refine aM h (λcm h=>?_) λcm h=>?_
 .exact aJ cG [.int .i64 (-1)]
 .refine aQ (eW _ (inl (aF ai λ_ cV dR _=>ao ?_)));refine bj dR λjJ _ bW ft _=>?_;show a1 ah (.loop ?iB) _ _;have jK:∀n c6 cX,ES a0 n c6 cX=some r->cz ah ?iB jJ (az [(0,.slice (a0.map iT)),(1,.int .i64 c6),(5,.int .i64 cX)]):=by
   refine cS λ_ jL c6 cX h=>cR bW λ_ n10 cp c4=>aF cp λ_ n11 _ gf=>ao ?_;refine aM h (λgh h=>?_) λgh h=>?_
   .refine aQ (n11 _ (inl (aF cp λ_ n14 dw _=>bj dw λ_ n15 hy _ _=>?_)));obtain⟨ae,cT,h⟩:=aE h;obtain⟨an,eO,h⟩:=aE h;refine gD cT (Zu ae c6 _ eO) _ ?_;refine ao ?_;refine aM h (λfc h=>?_) λfc h=>?_
    .exact aJ hy [.int .i64 (-1)]
    .refine aQ (n15 _ (n14 _ (inl (dc ?_))));exact n10 _ (inr ⟨_,bJ rfl,jL an (i64.wrap (cX+1)) h⟩)
   .exact cP (gf 0 _ (c4 0 _ (ft _ (cV _ (inl (aJ ai [.int .i64 c6]))))))
  exact c5 h λn h=>jK n (i64.wrap (J-(a0.length:Int))) 0 h
theorem Zw (a0 J r) (h:xf a0 J=some r):aW ah 264 [h4 a0,.int .i64 J] (.int .i64 r) []:=by
 refine bw [0] [.tmp 4] Tryz.func264 Wp λbu ai bt=>ao ?_;refine ao ?_;refine aF ai λ_ eW cG _=>ao ?_;refine aM h (λcm h=>?_) λcm h=>?_
 .exact aJ cG [.int .i64 (-1)]
 .refine aQ (eW _ (inl ?_));obtain⟨ae,gS,h⟩:=aE h;refine cK (Zv a0.da (i64.wrap (J-(a0.Name.length:Int))) _ gS) _ ?_;refine aF ai λ_ cF bW _=>ao ?_;refine aM h (λlS h=>?_) λlS h=>?_
  .exact aJ bW [.int .i64 (-1)]
  .exact aQ (cF _ (inl (aJ ai [.int .i64 ae])))
theorem Zx (a0 J r) (h:As a0 J=some r):aW ah 210 [.slice (a0.map h4),.int .i64 J] (.int .i64 r) []:=by
 refine bw [0] [.tmp 4] Tryz.func210 Wq λbu ai bt=>ao ?_;refine ao ?_;refine aF ai λ_ eW cG _=>ao ?_;refine aM h (λcm h=>?_) λcm h=>?_
 .exact aJ cG [.int .i64 (-1)]
 .refine aQ (eW _ (inl (aF ai λ_ cV dR _=>ao ?_)));refine bj dR λjJ _ bW ft _=>?_;show a1 ah (.loop ?iB) _ _;have jK:∀n c6 cX,ET a0 n c6 cX=some r->cz ah ?iB jJ (az [(0,.slice (a0.map h4)),(1,.int .i64 c6),(5,.int .i64 cX)]):=by
   refine cS λ_ jL c6 cX h=>cR bW λ_ n10 cp c4=>aF cp λ_ n11 _ gf=>ao ?_;refine aM h (λgh h=>?_) λgh h=>?_
   .refine aQ (n11 _ (inl (aF cp λ_ n14 dw _=>bj dw λ_ n15 hy _ _=>?_)));obtain⟨ae,cT,h⟩:=aE h;obtain⟨an,eO,h⟩:=aE h;refine gD cT (Zw ae c6 _ eO) _ ?_;refine ao ?_;refine aM h (λfc h=>?_) λfc h=>?_
    .exact aJ hy [.int .i64 (-1)]
    .refine aQ (n15 _ (n14 _ (inl (dc ?_))));exact n10 _ (inr ⟨_,bJ rfl,jL an (i64.wrap (cX+1)) h⟩)
   .exact cP (gf 0 _ (c4 0 _ (ft _ (cV _ (inl (aJ ai [.int .i64 c6]))))))
  exact c5 h λn h=>jK n (i64.wrap (J-(a0.length:Int))) 0 h
theorem Zy (a0 J r) (h:xg a0 J=some r):aW ah 142 [hQ a0,.int .i64 J] (.int .i64 r) []:=by
 refine bw [0] [.tmp 4] Tryz.func142 Wr λbu ai bt=>ao ?_;refine ao ?_;refine aF ai λ_ eW cG _=>ao ?_;refine aM h (λcm h=>?_) λcm h=>?_
 .exact aJ cG [.int .i64 (-1)]
 .refine aQ (eW _ (inl ?_));obtain⟨ae,gS,h⟩:=aE h;refine cK (Zx a0.Body (i64.wrap (J-(a0.Name.length:Int))) _ gS) _ ?_;refine aF ai λ_ cF bW _=>ao ?_;refine aM h (λlS h=>?_) λlS h=>?_
  .exact aJ bW [.int .i64 (-1)]
  .exact aQ (cF _ (inl (aJ ai [.int .i64 ae])))
theorem Zz (a0 J r) (h:Au a0 J=some r):aW ah 69 [.slice (a0.map hQ),.int .i64 J] (.int .i64 r) []:=by
 refine bw [0] [.tmp 4] Tryz.func69 Ws λbu ai bt=>ao ?_;refine ao ?_;refine aF ai λ_ eW cG _=>ao ?_;refine aM h (λcm h=>?_) λcm h=>?_
 .exact aJ cG [.int .i64 (-1)]
 .refine aQ (eW _ (inl (aF ai λ_ cV dR _=>ao ?_)));refine bj dR λjJ _ bW ft _=>?_;show a1 ah (.loop ?iB) _ _;have jK:∀n c6 cX,EU a0 n c6 cX=some r->cz ah ?iB jJ (az [(0,.slice (a0.map hQ)),(1,.int .i64 c6),(5,.int .i64 cX)]):=by
   refine cS λ_ jL c6 cX h=>cR bW λ_ n10 cp c4=>aF cp λ_ n11 _ gf=>ao ?_;refine aM h (λgh h=>?_) λgh h=>?_
   .refine aQ (n11 _ (inl (aF cp λ_ n14 dw _=>bj dw λ_ n15 hy _ _=>?_)));obtain⟨ae,cT,h⟩:=aE h;obtain⟨an,eO,h⟩:=aE h;refine gD cT (Zy ae c6 _ eO) _ ?_;refine ao ?_;refine aM h (λfc h=>?_) λfc h=>?_
    .exact aJ hy [.int .i64 (-1)]
    .refine aQ (n15 _ (n14 _ (inl (dc ?_))));exact n10 _ (inr ⟨_,bJ rfl,jL an (i64.wrap (cX+1)) h⟩)
   .exact cP (gf 0 _ (c4 0 _ (ft _ (cV _ (inl (aJ ai [.int .i64 c6]))))))
  exact c5 h λn h=>jK n (i64.wrap (J-(a0.length:Int))) 0 h
theorem Nv (a0 J r) (h:xh a0 J=some r):aW ah 41 [.slice (a0.map bf),.int .i64 J] (.int .i64 r) []:=by
 refine bw [0] [.tmp 4] Tryz.func41 Wt λbu ai bt=>ao ?_;refine ao ?_;refine aF ai λ_ eW cG _=>ao ?_;refine aM h (λcm h=>?_) λcm h=>?_
 .exact aJ cG [.int .i64 (-1)]
 .exact aQ (eW _ (inl (aJ ai [.int .i64 (i64.wrap (J-(a0.length:Int)))])))
theorem ZA (a0 J r) (h:xi a0 J=some r):aW ah 143 [hR a0,.int .i64 J] (.int .i64 r) []:=by
 refine bw [0] [.tmp 4] Tryz.func143 Wu λbu ai bt=>ao ?_;obtain⟨ae,aS,h⟩:=aE h;refine cK (Nv a0.b4 J _ aS) _ ?_;refine aF ai λ_ fW bV _=>ao ?_;refine aM h (λdE h=>?_) λdE h=>?_
 .exact aJ bV [.int .i64 (-1)]
 .exact aQ (fW _ (inl (aJ ai [.int .i64 ae])))
theorem ZB (a0 J r) (h:Av a0 J=some r):aW ah 70 [.slice (a0.map hR),.int .i64 J] (.int .i64 r) []:=by
 refine bw [0] [.tmp 4] Tryz.func70 Wv λbu ai bt=>ao ?_;refine ao ?_;refine aF ai λ_ eW cG _=>ao ?_;refine aM h (λcm h=>?_) λcm h=>?_
 .exact aJ cG [.int .i64 (-1)]
 .refine aQ (eW _ (inl (aF ai λ_ cV dR _=>ao ?_)));refine bj dR λjJ _ bW ft _=>?_;show a1 ah (.loop ?iB) _ _;have jK:∀n c6 cX,EV a0 n c6 cX=some r->cz ah ?iB jJ (az [(0,.slice (a0.map hR)),(1,.int .i64 c6),(5,.int .i64 cX)]):=by
   refine cS λ_ jL c6 cX h=>cR bW λ_ n10 cp c4=>aF cp λ_ n11 _ gf=>ao ?_;refine aM h (λgh h=>?_) λgh h=>?_
   .refine aQ (n11 _ (inl (aF cp λ_ n14 dw _=>bj dw λ_ n15 hy _ _=>?_)));obtain⟨ae,cT,h⟩:=aE h;obtain⟨an,eO,h⟩:=aE h;refine gD cT (ZA ae c6 _ eO) _ ?_;refine ao ?_;refine aM h (λfc h=>?_) λfc h=>?_
    .exact aJ hy [.int .i64 (-1)]
    .refine aQ (n15 _ (n14 _ (inl (dc ?_))));exact n10 _ (inr ⟨_,bJ rfl,jL an (i64.wrap (cX+1)) h⟩)
   .exact cP (gf 0 _ (c4 0 _ (ft _ (cV _ (inl (aJ ai [.int .i64 c6]))))))
  exact c5 h λn h=>jK n (i64.wrap (J-(a0.length:Int))) 0 h
theorem ZC (a0 J r) (h:xj a0 J=some r):aW ah 59 [hv a0,.int .i64 J] (.int .i64 r) []:=by
 refine bw [0] [.tmp 4] Tryz.func59 Ww λbu ai bt=>ao ?_;refine ao ?_;refine aF ai λ_ eW cG _=>ao ?_;refine aM h (λcm h=>?_) λcm h=>?_
 .exact aJ cG [.int .i64 (-1)]
 .refine aQ (eW _ (inl (ao ?_)));refine aF ai λ_ iC hn _=>ao ?_;refine aM h (λfu h=>?_) λfu h=>?_
  .exact aJ hn [.int .i64 (-1)]
  .refine aQ (iC _ (inl (ao ?_)));refine aF ai λ_ n13 ey _=>ao ?_;refine aM h (λej h=>?_) λej h=>?_
   .exact aJ ey [.int .i64 (-1)]
   .exact aQ (n13 _ (inl (aJ ai [.int .i64 (i64.wrap ((i64.wrap ((i64.wrap (J-(a0.Left.length:Int)))-(a0.b8.length:Int)))-(a0.Result.length:Int)))])))
theorem ZD (a0 J r) (h:Aw a0 J=some r):aW ah 18 [.slice (a0.map hv),.int .i64 J] (.int .i64 r) []:=by
 refine bw [0] [.tmp 4] Tryz.func18 Wx λbu ai bt=>ao ?_;refine ao ?_;refine aF ai λ_ eW cG _=>ao ?_;refine aM h (λcm h=>?_) λcm h=>?_
 .exact aJ cG [.int .i64 (-1)]
 .refine aQ (eW _ (inl (aF ai λ_ cV dR _=>ao ?_)));refine bj dR λjJ _ bW ft _=>?_;show a1 ah (.loop ?iB) _ _;have jK:∀n c6 cX,EW a0 n c6 cX=some r->cz ah ?iB jJ (az [(0,.slice (a0.map hv)),(1,.int .i64 c6),(5,.int .i64 cX)]):=by
   refine cS λ_ jL c6 cX h=>cR bW λ_ n10 cp c4=>aF cp λ_ n11 _ gf=>ao ?_;refine aM h (λgh h=>?_) λgh h=>?_
   .refine aQ (n11 _ (inl (aF cp λ_ n14 dw _=>bj dw λ_ n15 hy _ _=>?_)));obtain⟨ae,cT,h⟩:=aE h;obtain⟨an,eO,h⟩:=aE h;refine gD cT (ZC ae c6 _ eO) _ ?_;refine ao ?_;refine aM h (λfc h=>?_) λfc h=>?_
    .exact aJ hy [.int .i64 (-1)]
    .refine aQ (n15 _ (n14 _ (inl (dc ?_))));exact n10 _ (inr ⟨_,bJ rfl,jL an (i64.wrap (cX+1)) h⟩)
   .exact cP (gf 0 _ (c4 0 _ (ft _ (cV _ (inl (aJ ai [.int .i64 c6]))))))
  exact c5 h λn h=>jK n (i64.wrap (J-(a0.length:Int))) 0 h
theorem Nw (a0 J r) (h:xk a0 J=some r):aW ah 71 [.slice (a0.map cJ),.int .i64 J] (.int .i64 r) []:=by
 refine bw [0] [.tmp 4] Tryz.func71 Wy λbu ai bt=>ao ?_;refine ao ?_;refine aF ai λ_ eW cG _=>ao ?_;refine aM h (λcm h=>?_) λcm h=>?_
 .exact aJ cG [.int .i64 (-1)]
 .refine aQ (eW _ (inl (aF ai λ_ cV dR _=>ao ?_)));refine bj dR λjJ _ bW ft _=>?_;show a1 ah (.loop ?iB) _ _;have jK:∀n c6 cX,EX a0 n c6 cX=some r->cz ah ?iB jJ (az [(0,.slice (a0.map cJ)),(1,.int .i64 c6),(5,.int .i64 cX)]):=by
   refine cS λ_ jL c6 cX h=>cR bW λ_ n10 cp c4=>aF cp λ_ n11 _ gf=>ao ?_;refine aM h (λgh h=>?_) λgh h=>?_
   .refine aQ (n11 _ (inl (aF cp λ_ n14 dw _=>bj dw λ_ n15 hy _ _=>?_)));obtain⟨ae,cT,h⟩:=aE h;refine eV cT _ ?_;refine ao ?_;refine aM h (λfh h=>?_) λfh h=>?_
    .exact aJ hy [.int .i64 (-1)]
    .refine aQ (n15 _ (n14 _ (inl (dc ?_))));exact n10 _ (inr ⟨_,bJ rfl,jL (i64.wrap (c6-(ae.length:Int))) (i64.wrap (cX+1)) h⟩)
   .exact cP (gf 0 _ (c4 0 _ (ft _ (cV _ (inl (aJ ai [.int .i64 c6]))))))
  exact c5 h λn h=>jK n (i64.wrap (J-(a0.length:Int))) 0 h
theorem ZE (a0 J r) (h:xl a0 J=some r):aW ah 26 [ot a0,.int .i64 J] (.int .i64 r) []:=by
 refine bw [0] [.tmp 4] Tryz.func26 Wz λbu ai bt=>ao ?_;obtain⟨ae,aS,h⟩:=aE h;refine cK (Zz a0.dQ J _ aS) _ ?_;refine aF ai λ_ fW bV cx=>ao ?_;refine aM h (λdE h=>?_) λdE h=>?_
 .exact aJ bV [.int .i64 (-1)]
 .refine aQ (fW _ (inl ?_));obtain⟨an,jx,h⟩:=aE h;refine cK (ZB a0.cv ae _ jx) _ ?_;refine aF ai λ_ n10 cp _=>ao ?_;refine aM h (λeX h=>?_) λeX h=>?_
  .exact aJ cp [.int .i64 (-1)]
  .refine aQ (n10 _ (inl ?_));obtain⟨aT,gX,h⟩:=aE h;refine cK (ZD a0.hk an _ gX) _ ?_;refine aF ai λ_ n16 lT _=>ao ?_;refine aM h (λh5 h=>?_) λh5 h=>?_
   .exact aJ lT [.int .i64 (-1)]
   .refine aQ (n16 _ (inl ?_));obtain⟨cx,qo,h⟩:=aE h;refine cK (Nw a0.gV aT _ qo) _ ?_;refine aF ai λ_ n22 lq _=>ao ?_;refine aM h (λgY h=>?_) λgY h=>?_
    .exact aJ lq [.int .i64 (-1)]
    .refine aQ (n22 _ (inl ?_));obtain⟨bL,GW,h⟩:=aE h;refine cK (Nw a0.gW cx _ GW) _ ?_;refine aF ai λ_ n28 GX _=>ao ?_;refine aM h (λlU h=>?_) λlU h=>?_
     .exact aJ GX [.int .i64 (-1)]
     .exact aQ (n28 _ (inl (aJ ai [.int .i64 bL])))
theorem ZF (a0 J r) (h:xm a0 J=some r):aW ah 72 [iU a0,.int .i64 J] (.int .i64 r) []:=by
 refine bw [0] [.tmp 4] Tryz.func72 WA λbu ai bt=>ao ?_;obtain⟨ae,aS,h⟩:=aE h;refine cK (Nv a0.b4 J _ aS) _ ?_;refine aF ai λ_ fW bV _=>ao ?_;refine aM h (λdE h=>?_) λdE h=>?_
 .exact aJ bV [.int .i64 (-1)]
 .exact aQ (fW _ (inl (aJ ai [.int .i64 ae])))
theorem ZG (a0 J r) (h:Ax a0 J=some r):aW ah 27 [.slice (a0.map iU),.int .i64 J] (.int .i64 r) []:=by
 refine bw [0] [.tmp 4] Tryz.func27 yy λbu ai bt=>ao ?_;refine ao ?_;refine aF ai λ_ eW cG _=>ao ?_;refine aM h (λcm h=>?_) λcm h=>?_
 .exact aJ cG [.int .i64 (-1)]
 .refine aQ (eW _ (inl (aF ai λ_ cV dR _=>ao ?_)));refine bj dR λjJ _ bW ft _=>?_;show a1 ah (.loop ?iB) _ _;have jK:∀n c6 cX,EY a0 n c6 cX=some r->cz ah ?iB jJ (az [(0,.slice (a0.map iU)),(1,.int .i64 c6),(5,.int .i64 cX)]):=by
   refine cS λ_ jL c6 cX h=>cR bW λ_ n10 cp c4=>aF cp λ_ n11 _ gf=>ao ?_;refine aM h (λgh h=>?_) λgh h=>?_
   .refine aQ (n11 _ (inl (aF cp λ_ n14 dw _=>bj dw λ_ n15 hy _ _=>?_)));obtain⟨ae,cT,h⟩:=aE h;obtain⟨an,eO,h⟩:=aE h;refine gD cT (ZF ae c6 _ eO) _ ?_;refine ao ?_;refine aM h (λfc h=>?_) λfc h=>?_
    .exact aJ hy [.int .i64 (-1)]
    .refine aQ (n15 _ (n14 _ (inl (dc ?_))));exact n10 _ (inr ⟨_,bJ rfl,jL an (i64.wrap (cX+1)) h⟩)
   .exact cP (gf 0 _ (c4 0 _ (ft _ (cV _ (inl (aJ ai [.int .i64 c6]))))))
  exact c5 h λn h=>jK n (i64.wrap (J-(a0.length:Int))) 0 h
theorem ZH (a0 r) (h:xn a0=some r):aW ah 232 [j0 a0] (fV r) []:=by
 refine bw [0] [.cell 2 151] Tryz.func232 WB λbu ai bt=>ao ?_;refine ao ?_;refine ao ?_;refine ao ?_;exact aJ ai [fV (c8.mk a0.Kind a0.Value)]
theorem ZI (a0 r) (h:xo a0=some r):aW ah 174 [.slice (a0.map j0)] (.al 2 (r.map fV)) []:=by
 refine bw [0] [.tmp 2] Tryz.func174 WC λbu ai bt=>ao ?_;obtain⟨qp,aS,h⟩:=aE h;refine pA (af (oM aS) @List.map_replicate.{0,0}) [(0,.slice (a0.map j0)),(3,.al 2 ((List.replicate (Int.toNat (a0.length:Int)) (c8.mk 0 0)).map fV))] ?_;refine aF ai λ_ fW bV _=>ws [(0,.slice (a0.map j0)),(3,.al 2 ((List.replicate (Int.toNat (a0.length:Int)) (c8.mk 0 0)).map fV)),(4,.int .i64 0)] ?_;refine bj bV λjM _ cC dE _=>?_;show a1 ah (.loop ?hh) _ _;have ho:∀n bo bk,EZ a0 n bo bk=some r->cz ah ?hh jM (az [(0,.slice (a0.map j0)),(3,.al 2 (bo.map fV)),(4,.int .i64 bk)]):=by
  refine cS λ_ hp bo bk h=>cR cC λ_ cV dR cn=>aF dR λ_ iC _ fM=>ao ?_;refine aM h (λfu h=>?_) λfu h=>?_
  .refine aQ (iC _ (inl (aF dR λ_ n11 gO _=>bj gO λ_ n12 _ _ _=>?_)));obtain⟨ae,dg,h⟩:=aE h;obtain⟨an,gX,h⟩:=aE h;obtain⟨aT,b_,h⟩:=aE h;refine iv (cc [(0,.slice (a0.map j0)),(3,.al 2 ((List.set bo (Int.toNat bk) an).map fV)),(4,.int .i64 bk)] (λP bl=>?_) ?_)
   ·(try simp only[aX.down,simprocAttr,dg,b_,b6 b_,dK,cZ]);refine fg (ZH ae _ gX) (hK:= ?_);simp only[aX.down,simprocAttr,dg,b_,b6 b_,dK,cZ];exact b2 (af dg (af b_ (af (b6 b_) @dK)))
   refine n12 _ (n11 _ (inl (wr [(0,.slice (a0.map j0)),(3,.al 2 ((List.set bo (Int.toNat bk) an).map fV)),(4,.int .i64 (i64.wrap (bk+1)))] ?_)));exact cV _ (inr ⟨_,bJ rfl,hp (List.set bo (Int.toNat bk) an) (i64.wrap (bk+1)) h⟩)
  .exact cP (fM 0 _ (cn 0 _ (dE _ (fW _ (inl (aJ ai [.al 2 (bo.map fV)]))))))
 exact c5 h λn h=>ho n (List.replicate (Int.toNat (a0.length:Int)) (c8.mk 0 0)) 0 h
theorem ZJ (a0 r) (h:Ay a0=some r):aW ah 175 [.slice (a0.map iT)] (.al 1 (r.map kD)) []:=by
 refine bw [0] [.tmp 2] Tryz.func175 WD λbu ai bt=>ao ?_;obtain⟨qp,aS,h⟩:=aE h;refine pA (af (oM aS) @List.map_replicate.{0,0}) [(0,.slice (a0.map iT)),(3,.al 1 (List.replicate (Int.toNat (a0.length:Int)) .a_))] ?_;refine aF ai λ_ fW bV _=>ws [(0,.slice (a0.map iT)),(3,.al 1 (List.replicate (Int.toNat (a0.length:Int)) .a_)),(4,.int .i64 0)] ?_;refine bj bV λjM _ cC dE _=>?_;show a1 ah (.loop ?hh) _ _;have ho:∀n bo bk,E0 a0 n bo bk=some r->cz ah ?hh jM (az [(0,.slice (a0.map iT)),(3,.al 1 (bo.map kD)),(4,.int .i64 bk)]):=by
  refine cS λ_ hp bo bk h=>cR cC λ_ cV dR cn=>aF dR λ_ iC _ fM=>ao ?_;refine aM h (λfu h=>?_) λfu h=>?_
  .refine aQ (iC _ (inl (aF dR λ_ n11 gO _=>bj gO λ_ n12 _ _ _=>?_)));obtain⟨ae,dg,h⟩:=aE h;obtain⟨an,gX,h⟩:=aE h;obtain⟨aT,b_,h⟩:=aE h;refine iv (cc [(0,.slice (a0.map iT)),(3,.al 1 ((List.set bo (Int.toNat bk) an).map kD)),(4,.int .i64 bk)] (λP bl=>?_) ?_)
   ·(try simp only[aX.down,simprocAttr,dg,b_,b6 b_,dK,cZ]);refine fg (ZI ae _ gX) (hK:= ?_);simp only[aX.down,simprocAttr,dg,b_,b6 b_,dK,cZ];exact b2 (af dg (af b_ (af (b6 b_) @dK)))
   refine n12 _ (n11 _ (inl (wr [(0,.slice (a0.map iT)),(3,.al 1 ((List.set bo (Int.toNat bk) an).map kD)),(4,.int .i64 (i64.wrap (bk+1)))] ?_)));exact cV _ (inr ⟨_,bJ rfl,hp (List.set bo (Int.toNat bk) an) (i64.wrap (bk+1)) h⟩)
  .exact cP (fM 0 _ (cn 0 _ (dE _ (fW _ (inl (aJ ai [.al 1 (bo.map kD)]))))))
 obtain⟨n,h⟩:=oL h;exact p9 (inr ⟨_,kl [] rfl (du (t:=0) (d:=.slice (a0.map iT)) rfl (kn (t:=3) (d:=.al 1 (List.replicate (Int.toNat (a0.length:Int)) .a_)) (a6:=.al 1 ((List.replicate (Int.toNat (a0.length:Int)) []).map kD)) rfl rfl (wI (u:=kD) (z:=[]) (.lf _) _) (by decide) (du (t:=4) (d:=.int .i64 0) rfl (km)))),ho n (List.replicate (Int.toNat (a0.length:Int)) []) 0 h⟩)
theorem ZK (a0 r) (h:xp a0=some r):aW ah 270 [h4 a0] (j1 r) []:=by
 refine bw [0] [.cell 2 243] Tryz.func270 WE λbu ai bt=>ao ?_;refine ao ?_;refine ao ?_;refine ao ?_;refine ao ?_;obtain⟨ae,bH,h⟩:=aE h;refine cK (ZJ a0.da _ bH) _ ?_;exact aJ ai [j1 (ck.mk a0.Kind a0.Number a0.Name ae)]
theorem ZL (a0 r) (h:Az a0=some r):aW ah 217 [.slice (a0.map h4)] (.al 4 (r.map j1)) []:=by
 refine bw [0] [.tmp 2] Tryz.func217 WG λbu ai bt=>ao ?_;obtain⟨qp,aS,h⟩:=aE h;refine pA (af (oM aS) @List.map_replicate.{0,0}) [(0,.slice (a0.map h4)),(3,.al 4 (List.replicate (Int.toNat (a0.length:Int)) (.agg [(.int .i64 0),(.int .i64 0),(.str []),.a_])))] ?_;refine aF ai λ_ fW bV _=>ws [(0,.slice (a0.map h4)),(3,.al 4 (List.replicate (Int.toNat (a0.length:Int)) (.agg [(.int .i64 0),(.int .i64 0),(.str []),.a_]))),(4,.int .i64 0)] ?_;refine bj bV λjM _ cC dE _=>?_;show a1 ah (.loop ?hh) _ _;have ho:∀n bo bk,E1 a0 n bo bk=some r->cz ah ?hh jM (az [(0,.slice (a0.map h4)),(3,.al 4 (bo.map j1)),(4,.int .i64 bk)]):=by
  refine cS λ_ hp bo bk h=>cR cC λ_ cV dR cn=>aF dR λ_ iC _ fM=>ao ?_;refine aM h (λfu h=>?_) λfu h=>?_
  .refine aQ (iC _ (inl (aF dR λ_ n11 gO _=>bj gO λ_ n12 _ _ _=>?_)));obtain⟨ae,dg,h⟩:=aE h;obtain⟨an,gX,h⟩:=aE h;obtain⟨aT,b_,h⟩:=aE h;refine iv (cc [(0,.slice (a0.map h4)),(3,.al 4 ((List.set bo (Int.toNat bk) an).map j1)),(4,.int .i64 bk)] (λP bl=>?_) ?_)
   ·(try simp only[aX.down,simprocAttr,dg,b_,b6 b_,dK,cZ]);refine fg (ZK ae _ gX) (hK:= ?_);simp only[aX.down,simprocAttr,dg,b_,b6 b_,dK,cZ];exact b2 (af dg (af b_ (af (b6 b_) @dK)))
   refine n12 _ (n11 _ (inl (wr [(0,.slice (a0.map h4)),(3,.al 4 ((List.set bo (Int.toNat bk) an).map j1)),(4,.int .i64 (i64.wrap (bk+1)))] ?_)));exact cV _ (inr ⟨_,bJ rfl,hp (List.set bo (Int.toNat bk) an) (i64.wrap (bk+1)) h⟩)
  .exact cP (fM 0 _ (cn 0 _ (dE _ (fW _ (inl (aJ ai [.al 4 (bo.map j1)]))))))
 obtain⟨n,h⟩:=oL h;exact p9 (inr ⟨_,kl [] rfl (du (t:=0) (d:=.slice (a0.map h4)) rfl (kn (t:=3) (d:=.al 4 (List.replicate (Int.toNat (a0.length:Int)) (.agg [(.int .i64 0),(.int .i64 0),(.str []),.a_]))) (a6:=.al 4 ((List.replicate (Int.toNat (a0.length:Int)) (ck.mk 0 0 ([]:aix) [])).map j1)) rfl rfl (wI (u:=j1) (z:=(ck.mk 0 0 ([]:aix) [])) (.agg (.cons (.refl _) (.cons (.refl _) (.cons (.refl _) (.cons (.lf _) (.nil)))))) _) (by decide) (du (t:=4) (d:=.int .i64 0) rfl (km)))),ho n (List.replicate (Int.toNat (a0.length:Int)) (ck.mk 0 0 ([]:aix) [])) 0 h⟩)
theorem ZM (a0 r) (h:xq a0=some r):aW ah 151 [hQ a0] (jd r) []:=by
 refine bw [0] [.cell 2 192] Tryz.func151 WH λbu ai bt=>ao ?_;refine ao ?_;refine ao ?_;refine ao ?_;obtain⟨ae,bQ,h⟩:=aE h;refine cK (ZL a0.Body _ bQ) _ ?_;exact aJ ai [jd (bI.mk a0.Name a0.dr ae)]
theorem ZN (a0 r) (h:AA a0=some r):aW ah 76 [.slice (a0.map hQ)] (.al 3 (r.map jd)) []:=by
 refine bw [0] [.tmp 2] Tryz.func76 WI λbu ai bt=>ao ?_;obtain⟨qp,aS,h⟩:=aE h;refine pA (af (oM aS) @List.map_replicate.{0,0}) [(0,.slice (a0.map hQ)),(3,.al 3 (List.replicate (Int.toNat (a0.length:Int)) (.agg [(.str []),(.int .i64 0),.a_])))] ?_;refine aF ai λ_ fW bV _=>ws [(0,.slice (a0.map hQ)),(3,.al 3 (List.replicate (Int.toNat (a0.length:Int)) (.agg [(.str []),(.int .i64 0),.a_]))),(4,.int .i64 0)] ?_;refine bj bV λjM _ cC dE _=>?_;show a1 ah (.loop ?hh) _ _;have ho:∀n bo bk,E2 a0 n bo bk=some r->cz ah ?hh jM (az [(0,.slice (a0.map hQ)),(3,.al 3 (bo.map jd)),(4,.int .i64 bk)]):=by
  refine cS λ_ hp bo bk h=>cR cC λ_ cV dR cn=>aF dR λ_ iC _ fM=>ao ?_;refine aM h (λfu h=>?_) λfu h=>?_
  .refine aQ (iC _ (inl (aF dR λ_ n11 gO _=>bj gO λ_ n12 _ _ _=>?_)));obtain⟨ae,dg,h⟩:=aE h;obtain⟨an,gX,h⟩:=aE h;obtain⟨aT,b_,h⟩:=aE h;refine iv (cc [(0,.slice (a0.map hQ)),(3,.al 3 ((List.set bo (Int.toNat bk) an).map jd)),(4,.int .i64 bk)] (λP bl=>?_) ?_)
   ·(try simp only[aX.down,simprocAttr,dg,b_,b6 b_,dK,cZ]);refine fg (ZM ae _ gX) (hK:= ?_);simp only[aX.down,simprocAttr,dg,b_,b6 b_,dK,cZ];exact b2 (af dg (af b_ (af (b6 b_) @dK)))
   refine n12 _ (n11 _ (inl (wr [(0,.slice (a0.map hQ)),(3,.al 3 ((List.set bo (Int.toNat bk) an).map jd)),(4,.int .i64 (i64.wrap (bk+1)))] ?_)));exact cV _ (inr ⟨_,bJ rfl,hp (List.set bo (Int.toNat bk) an) (i64.wrap (bk+1)) h⟩)
  .exact cP (fM 0 _ (cn 0 _ (dE _ (fW _ (inl (aJ ai [.al 3 (bo.map jd)]))))))
 obtain⟨n,h⟩:=oL h;exact p9 (inr ⟨_,kl [] rfl (du (t:=0) (d:=.slice (a0.map hQ)) rfl (kn (t:=3) (d:=.al 3 (List.replicate (Int.toNat (a0.length:Int)) (.agg [(.str []),(.int .i64 0),.a_]))) (a6:=.al 3 ((List.replicate (Int.toNat (a0.length:Int)) (bI.mk ([]:aix) 0 [])).map jd)) rfl rfl (wI (u:=jd) (z:=(bI.mk ([]:aix) 0 [])) (.agg (.cons (.refl _) (.cons (.refl _) (.cons (.lf _) (.nil))))) _) (by decide) (du (t:=4) (d:=.int .i64 0) rfl (km)))),ho n (List.replicate (Int.toNat (a0.length:Int)) (bI.mk ([]:aix) 0 [])) 0 h⟩)
theorem Nx (a0 r) (h:xr a0=some r):aW ah 47 [.slice (a0.map bf)] (.al 1 (r.map bf)) []:=by
 refine bw [0] [.tmp 2] Tryz.func47 yz λbu ai bt=>ao ?_;obtain⟨ZO,aS,h⟩:=aE h;refine pA (af (oM aS) @List.map_replicate.{0,0}) [(0,.slice (a0.map bf)),(3,.al 1 ((List.replicate (Int.toNat (a0.length:Int)) 0).map bf))] ?_;refine aF ai λ_ fW bV _=>ws [(0,.slice (a0.map bf)),(3,.al 1 ((List.replicate (Int.toNat (a0.length:Int)) 0).map bf)),(4,.int .i64 0)] ?_;refine bj bV λjM _ cC dE _=>?_;show a1 ah (.loop ?hh) _ _;have ho:∀n bo bk,E3 a0 n bo bk=some r->cz ah ?hh jM (az [(0,.slice (a0.map bf)),(3,.al 1 (bo.map bf)),(4,.int .i64 bk)]):=by
  refine cS λ_ hp bo bk h=>cR cC λ_ cV dR cn=>aF dR λ_ iC _ fM=>ao ?_;refine aM h (λfu h=>?_) λfu h=>?_
  .refine aQ (iC _ (inl (aF dR λ_ n11 gO _=>bj gO λ_ n12 _ _ _=>?_)));obtain⟨ae,dg,h⟩:=aE h;obtain⟨an,gX,h⟩:=aE h;refine iv (cc [(0,.slice (a0.map bf)),(3,.al 1 ((List.set bo (Int.toNat bk) ae).map bf)),(4,.int .i64 bk)] (λP bl=>?_) ?_)
   .simp only[aX.down,simprocAttr,dg,gX,b6 gX,dK,cZ];exact b2 (af dg (af gX (af (b6 gX) @dK)))
   refine n12 _ (n11 _ (inl (wr [(0,.slice (a0.map bf)),(3,.al 1 ((List.set bo (Int.toNat bk) ae).map bf)),(4,.int .i64 (i64.wrap (bk+1)))] ?_)));exact cV _ (inr ⟨_,bJ rfl,hp (List.set bo (Int.toNat bk) ae) (i64.wrap (bk+1)) h⟩)
  .exact cP (fM 0 _ (cn 0 _ (dE _ (fW _ (inl (aJ ai [.al 1 (bo.map bf)]))))))
 exact c5 h λn h=>ho n (List.replicate (Int.toNat (a0.length:Int)) 0) 0 h
theorem ZP (a0 r) (h:xt a0=some r):aW ah 152 [hR a0] (je r) []:=by
 refine bw [0] [.cell 2 194] Tryz.func152 WJ λbu ai bt=>ao ?_;refine ao ?_;refine ao ?_;obtain⟨ae,cd,h⟩:=aE h;refine cK (Nx a0.b4 _ cd) _ ?_;exact aJ ai [je (fo.mk a0.b7 ae)]
theorem ZQ (a0 r) (h:AB a0=some r):aW ah 77 [.slice (a0.map hR)] (.al 2 (r.map je)) []:=by
 refine bw [0] [.tmp 2] Tryz.func77 WK λbu ai bt=>ao ?_;obtain⟨qp,aS,h⟩:=aE h;refine pA (af (oM aS) @List.map_replicate.{0,0}) [(0,.slice (a0.map hR)),(3,.al 2 (List.replicate (Int.toNat (a0.length:Int)) (.agg [(.int .i64 0),.a_])))] ?_;refine aF ai λ_ fW bV _=>ws [(0,.slice (a0.map hR)),(3,.al 2 (List.replicate (Int.toNat (a0.length:Int)) (.agg [(.int .i64 0),.a_]))),(4,.int .i64 0)] ?_;refine bj bV λjM _ cC dE _=>?_;show a1 ah (.loop ?hh) _ _;have ho:∀n bo bk,E4 a0 n bo bk=some r->cz ah ?hh jM (az [(0,.slice (a0.map hR)),(3,.al 2 (bo.map je)),(4,.int .i64 bk)]):=by
  refine cS λ_ hp bo bk h=>cR cC λ_ cV dR cn=>aF dR λ_ iC _ fM=>ao ?_;refine aM h (λfu h=>?_) λfu h=>?_
  .refine aQ (iC _ (inl (aF dR λ_ n11 gO _=>bj gO λ_ n12 _ _ _=>?_)));obtain⟨ae,dg,h⟩:=aE h;obtain⟨an,gX,h⟩:=aE h;obtain⟨aT,b_,h⟩:=aE h;refine iv (cc [(0,.slice (a0.map hR)),(3,.al 2 ((List.set bo (Int.toNat bk) an).map je)),(4,.int .i64 bk)] (λP bl=>?_) ?_)
   ·(try simp only[aX.down,simprocAttr,dg,b_,b6 b_,dK,cZ]);refine fg (ZP ae _ gX) (hK:= ?_);simp only[aX.down,simprocAttr,dg,b_,b6 b_,dK,cZ];exact b2 (af dg (af b_ (af (b6 b_) @dK)))
   refine n12 _ (n11 _ (inl (wr [(0,.slice (a0.map hR)),(3,.al 2 ((List.set bo (Int.toNat bk) an).map je)),(4,.int .i64 (i64.wrap (bk+1)))] ?_)));exact cV _ (inr ⟨_,bJ rfl,hp (List.set bo (Int.toNat bk) an) (i64.wrap (bk+1)) h⟩)
  .exact cP (fM 0 _ (cn 0 _ (dE _ (fW _ (inl (aJ ai [.al 2 (bo.map je)]))))))
 obtain⟨n,h⟩:=oL h;exact p9 (inr ⟨_,kl [] rfl (du (t:=0) (d:=.slice (a0.map hR)) rfl (kn (t:=3) (d:=.al 2 (List.replicate (Int.toNat (a0.length:Int)) (.agg [(.int .i64 0),.a_]))) (a6:=.al 2 ((List.replicate (Int.toNat (a0.length:Int)) (fo.mk 0 [])).map je)) rfl rfl (wI (u:=je) (z:=(fo.mk 0 [])) (.agg (.cons (.refl _) (.cons (.lf _) (.nil)))) _) (by decide) (du (t:=4) (d:=.int .i64 0) rfl (km)))),ho n (List.replicate (Int.toNat (a0.length:Int)) (fo.mk 0 [])) 0 h⟩)
theorem ZR (a0 r) (h:xu a0=some r):aW ah 62 [hv a0] (cE r) []:=by
 refine bw [0] [.cell 2 101] Tryz.func62 WL λbu ai bt=>ao ?_;refine ao ?_;refine ao ?_;refine ao ?_;refine ao ?_;exact aJ ai [cE (dy.mk a0.Left a0.b8 a0.Result)]
theorem ZS (a0 r) (h:AD a0=some r):aW ah 20 [.slice (a0.map hv)] (.al 3 (r.map cE)) []:=by
 refine bw [0] [.tmp 2] Tryz.func20 WM λbu ai bt=>ao ?_;obtain⟨qp,aS,h⟩:=aE h;refine pA (af (oM aS) @List.map_replicate.{0,0}) [(0,.slice (a0.map hv)),(3,.al 3 ((List.replicate (Int.toNat (a0.length:Int)) (dy.mk ([]:aix) ([]:aix) ([]:aix))).map cE))] ?_;refine aF ai λ_ fW bV _=>ws [(0,.slice (a0.map hv)),(3,.al 3 ((List.replicate (Int.toNat (a0.length:Int)) (dy.mk ([]:aix) ([]:aix) ([]:aix))).map cE)),(4,.int .i64 0)] ?_;refine bj bV λjM _ cC dE _=>?_;show a1 ah (.loop ?hh) _ _;have ho:∀n bo bk,E5 a0 n bo bk=some r->cz ah ?hh jM (az [(0,.slice (a0.map hv)),(3,.al 3 (bo.map cE)),(4,.int .i64 bk)]):=by
  refine cS λ_ hp bo bk h=>cR cC λ_ cV dR cn=>aF dR λ_ iC _ fM=>ao ?_;refine aM h (λfu h=>?_) λfu h=>?_
  .refine aQ (iC _ (inl (aF dR λ_ n11 gO _=>bj gO λ_ n12 _ _ _=>?_)));obtain⟨ae,dg,h⟩:=aE h;obtain⟨an,gX,h⟩:=aE h;obtain⟨aT,b_,h⟩:=aE h;refine iv (cc [(0,.slice (a0.map hv)),(3,.al 3 ((List.set bo (Int.toNat bk) an).map cE)),(4,.int .i64 bk)] (λP bl=>?_) ?_)
   ·(try simp only[aX.down,simprocAttr,dg,b_,b6 b_,dK,cZ]);refine fg (ZR ae _ gX) (hK:= ?_);simp only[aX.down,simprocAttr,dg,b_,b6 b_,dK,cZ];exact b2 (af dg (af b_ (af (b6 b_) @dK)))
   refine n12 _ (n11 _ (inl (wr [(0,.slice (a0.map hv)),(3,.al 3 ((List.set bo (Int.toNat bk) an).map cE)),(4,.int .i64 (i64.wrap (bk+1)))] ?_)));exact cV _ (inr ⟨_,bJ rfl,hp (List.set bo (Int.toNat bk) an) (i64.wrap (bk+1)) h⟩)
  .exact cP (fM 0 _ (cn 0 _ (dE _ (fW _ (inl (aJ ai [.al 3 (bo.map cE)]))))))
 exact c5 h λn h=>ho n (List.replicate (Int.toNat (a0.length:Int)) (dy.mk ([]:aix) ([]:aix) ([]:aix))) 0 h
theorem Ny (a0 r) (h:xv a0=some r):aW ah 78 [.slice (a0.map cJ)] (.al 1 (r.map cJ)) []:=by
 refine bw [0] [.tmp 2] Tryz.func78 WN λbu ai bt=>ao ?_;obtain⟨ZO,aS,h⟩:=aE h;refine pA (af (oM aS) @List.map_replicate.{0,0}) [(0,.slice (a0.map cJ)),(3,.al 1 ((List.replicate (Int.toNat (a0.length:Int)) ([]:aix)).map cJ))] ?_;refine aF ai λ_ fW bV _=>ws [(0,.slice (a0.map cJ)),(3,.al 1 ((List.replicate (Int.toNat (a0.length:Int)) ([]:aix)).map cJ)),(4,.int .i64 0)] ?_;refine bj bV λjM _ cC dE _=>?_;show a1 ah (.loop ?hh) _ _;have ho:∀n bo bk,E6 a0 n bo bk=some r->cz ah ?hh jM (az [(0,.slice (a0.map cJ)),(3,.al 1 (bo.map cJ)),(4,.int .i64 bk)]):=by
  refine cS λ_ hp bo bk h=>cR cC λ_ cV dR cn=>aF dR λ_ iC _ fM=>ao ?_;refine aM h (λfu h=>?_) λfu h=>?_
  .refine aQ (iC _ (inl (aF dR λ_ n11 gO _=>bj gO λ_ n12 _ _ _=>?_)));obtain⟨ae,dg,h⟩:=aE h;obtain⟨an,gX,h⟩:=aE h;refine iv (cc [(0,.slice (a0.map cJ)),(3,.al 1 ((List.set bo (Int.toNat bk) ae).map cJ)),(4,.int .i64 bk)] (λP bl=>?_) ?_)
   .simp only[aX.down,simprocAttr,dg,gX,b6 gX,dK,cZ];exact b2 (af dg (af gX (af (b6 gX) @dK)))
   refine n12 _ (n11 _ (inl (wr [(0,.slice (a0.map cJ)),(3,.al 1 ((List.set bo (Int.toNat bk) ae).map cJ)),(4,.int .i64 (i64.wrap (bk+1)))] ?_)));exact cV _ (inr ⟨_,bJ rfl,hp (List.set bo (Int.toNat bk) ae) (i64.wrap (bk+1)) h⟩)
  .exact cP (fM 0 _ (cn 0 _ (dE _ (fW _ (inl (aJ ai [.al 1 (bo.map cJ)]))))))
 exact c5 h λn h=>ho n (List.replicate (Int.toNat (a0.length:Int)) ([]:aix)) 0 h
theorem GY (a0 r) (h:sJ a0=some r):aW ah 29 [ot a0] (qk r) []:=by
 refine bw [0] [.cell 2 60] Tryz.func29 WO λbu ai bt=>ao ?_;refine ao ?_;obtain⟨ae,b0,h⟩:=aE h;refine cK (ZN a0.dQ _ b0) _ ?_;obtain⟨an,bQ,h⟩:=aE h;refine cK (ZQ a0.cv _ bQ) _ ?_;obtain⟨aT,gS,h⟩:=aE h;refine cK (ZS a0.hk _ gS) _ ?_;obtain⟨cx,kQ,h⟩:=aE h;refine cK (Ny a0.gV _ kQ) _ ?_;obtain⟨bL,hc,h⟩:=aE h;refine cK (Ny a0.gW _ hc) _ ?_;exact aJ ai [qk (eC.mk ae an aT cx bL)]
theorem ZT (a0 r) (h:xw a0=some r):aW ah 79 [iU a0] (dn r) []:=by
 refine bw [0] [.cell 2 119] Tryz.func79 WQ λbu ai bt=>ao ?_;refine ao ?_;refine ao ?_;refine ao ?_;obtain⟨ae,bQ,h⟩:=aE h;refine cK (Nx a0.b4 _ bQ) _ ?_;exact aJ ai [dn (aU.mk a0.b7 a0.Part ae)]
theorem GZ (a0 r) (h:uk a0=some r):aW ah 30 [.slice (a0.map iU)] (.al 3 (r.map dn)) []:=by
 refine bw [0] [.tmp 2] Tryz.func30 WR λbu ai bt=>ao ?_;obtain⟨qp,aS,h⟩:=aE h;refine pA (af (oM aS) @List.map_replicate.{0,0}) [(0,.slice (a0.map iU)),(3,.al 3 (List.replicate (Int.toNat (a0.length:Int)) (.agg [(.int .i64 0),(.int .i64 0),.a_])))] ?_;refine aF ai λ_ fW bV _=>ws [(0,.slice (a0.map iU)),(3,.al 3 (List.replicate (Int.toNat (a0.length:Int)) (.agg [(.int .i64 0),(.int .i64 0),.a_]))),(4,.int .i64 0)] ?_;refine bj bV λjM _ cC dE _=>?_;show a1 ah (.loop ?hh) _ _;have ho:∀n bo bk,E7 a0 n bo bk=some r->cz ah ?hh jM (az [(0,.slice (a0.map iU)),(3,.al 3 (bo.map dn)),(4,.int .i64 bk)]):=by
  refine cS λ_ hp bo bk h=>cR cC λ_ cV dR cn=>aF dR λ_ iC _ fM=>ao ?_;refine aM h (λfu h=>?_) λfu h=>?_
  .refine aQ (iC _ (inl (aF dR λ_ n11 gO _=>bj gO λ_ n12 _ _ _=>?_)));obtain⟨ae,dg,h⟩:=aE h;obtain⟨an,gX,h⟩:=aE h;obtain⟨aT,b_,h⟩:=aE h;refine iv (cc [(0,.slice (a0.map iU)),(3,.al 3 ((List.set bo (Int.toNat bk) an).map dn)),(4,.int .i64 bk)] (λP bl=>?_) ?_)
   ·(try simp only[aX.down,simprocAttr,dg,b_,b6 b_,dK,cZ]);refine fg (ZT ae _ gX) (hK:= ?_);simp only[aX.down,simprocAttr,dg,b_,b6 b_,dK,cZ];exact b2 (af dg (af b_ (af (b6 b_) @dK)))
   refine n12 _ (n11 _ (inl (wr [(0,.slice (a0.map iU)),(3,.al 3 ((List.set bo (Int.toNat bk) an).map dn)),(4,.int .i64 (i64.wrap (bk+1)))] ?_)));exact cV _ (inr ⟨_,bJ rfl,hp (List.set bo (Int.toNat bk) an) (i64.wrap (bk+1)) h⟩)
  .exact cP (fM 0 _ (cn 0 _ (dE _ (fW _ (inl (aJ ai [.al 3 (bo.map dn)]))))))
 obtain⟨n,h⟩:=oL h;exact p9 (inr ⟨_,kl [] rfl (du (t:=0) (d:=.slice (a0.map iU)) rfl (kn (t:=3) (d:=.al 3 (List.replicate (Int.toNat (a0.length:Int)) (.agg [(.int .i64 0),(.int .i64 0),.a_]))) (a6:=.al 3 ((List.replicate (Int.toNat (a0.length:Int)) (aU.mk 0 0 [])).map dn)) rfl rfl (wI (u:=dn) (z:=(aU.mk 0 0 [])) (.agg (.cons (.refl _) (.cons (.refl _) (.cons (.lf _) (.nil))))) _) (by decide) (du (t:=4) (d:=.int .i64 0) rfl (km)))),ho n (List.replicate (Int.toNat (a0.length:Int)) (aU.mk 0 0 [])) 0 h⟩)
theorem G0 (a0 r) (h:xx a0=some r):aW ah 242 [.int .u8 (a0.toNat:Int)] (.bool r) []:=by
 refine bw [0] [.tmp 2] Tryz.func242 WS λbu ai bt=>ao ?_;refine kF (decide (97<=(a0.toNat:Int))) [(2,.bool ((decide (97<=(a0.toNat:Int)))&&(decide ((a0.toNat:Int)<=122))))] ?_;exact dC ai [.bool ((decide (97<=(a0.toNat:Int)))&&(decide ((a0.toNat:Int)<=122)))]
theorem ZU (a0 r) (h:E8 a0=some r):aW ah 243 [.int .u8 (a0.toNat:Int)] (.bool r) []:=by
 refine bw [0] [.tmp 2] Tryz.func243 WT λbu ai bt=>ao ?_;refine kF (decide (48<=(a0.toNat:Int))) [(2,.bool ((decide (48<=(a0.toNat:Int)))&&(decide ((a0.toNat:Int)<=57))))] ?_;exact dC ai [.bool ((decide (48<=(a0.toNat:Int)))&&(decide ((a0.toNat:Int)<=57)))]
theorem yE (a0 r) (h:um a0=some r):aW ah 189 [.str a0] (.bool r) []:=by
 refine bw [0] [.tmp 2] Tryz.func189 WU λbu ai bt=>ao ?_;refine aF ai λ_ bK ba an=>?_;rcases ed h with⟨bR,h⟩|⟨bR,h⟩
 .refine eV bR _ ?_;refine h3 rfl ?_;exact aJ ba [.bool false]
 .rcases ed h with⟨dE,h⟩|⟨dE,h⟩
  .refine eV (af bR dE) _ ?_;refine h3 rfl ?_;exact aJ ba [.bool false]
  .obtain⟨ae,gS,h⟩:=aE h;obtain⟨an,jx,h⟩:=aE h;refine gD (af bR (af dE gS)) (G0 ae _ jx) _ ?_;refine aM h (λfu h=>?_) λfu h=>?_
   .exact aJ ba [.bool false]
   .refine aQ (bK _ (inl (aF ai λ_ n12 kG _=>ao ?_)));refine bj kG λG1 _ dw iD _=>?_;show a1 ah (.loop ?gi) _ _;have gj:∀n dD,xy a0 n dD=some r->cz ah ?gi G1 (az [(0,.str a0),(3,.int .i64 dD)]):=by
     refine cS λ_ fX dD h=>cR dw λ_ n15 hy rC=>aF hy λ_ n16 _ BR=>ao ?_;refine aM h (λh5 h=>?_) λh5 h=>?_
     .refine aQ (n16 _ (inl (aF hy λ_ n19 yF _=>bj yF λ_ n20 s0 _ _=>?_)));obtain⟨aT,iV,h⟩:=aE h;obtain⟨cx,mL,h⟩:=aE h;rcases ed h with⟨gY,h⟩|⟨gY,h⟩
      .obtain⟨bL,jf,h⟩:=aE h;refine ep (cc [(0,.str a0),(3,.int .i64 dD),(34,.bool (!bL))] (λP bl=>?_) ?_)
       ·(try simp only[aX.down,simprocAttr,iV,(fL gY)]);refine fg (G0 aT _ mL) (hK:= ?_);simp only[aX.down,simprocAttr,iV,(fL gY)];refine gM (ZU aT _ jf) (hK:= ?_);simp only[aX.down,simprocAttr,iV,(fL gY)];exact b2 (af iV (fL gY))
       refine aM h (λhz h=>?_) λhz h=>?_
       .exact aJ s0 [.bool false]
       .refine aQ (n20 _ (n19 _ (inl (dc ?_))));exact n15 _ (inr ⟨_,bJ rfl,fX (i64.wrap (dD+1)) h⟩)
      .refine gD (af iV (bz gY)) (G0 aT _ mL) _ ?_;refine o8 rfl ?_;refine aQ (n20 _ (n19 _ (inl (dc ?_))));exact n15 _ (inr ⟨_,bJ rfl,fX (i64.wrap (dD+1)) h⟩)
     .exact cP (BR 0 _ (rC 0 _ (iD _ (n12 _ (inl (aJ ai [.bool true]))))))
    exact c5 h λn h=>gj n 0 h
theorem mf (a0 J a2 r) (h:kB a0 J a2=some r):aW ah 91 [.int .i64 a0,.int .i64 J,.int .i64 a2] (.bool r) []:=by
 refine bw [0,1,2] [.tmp 6] Tryz.func91 WV λbu ai bt=>ao ?_;refine kF (decide (J<=a0)) [(6,.bool ((decide (J<=a0))&&(decide (a0<=a2))))] ?_;exact dC ai [.bool ((decide (J<=a0))&&(decide (a0<=a2)))]
theorem Nz (a0 r) (h:xA a0=some r):aW ah 301 [.ref (db a0)] (.int .i64 r) []:=by
 refine bw [0] [.tmp 2] Tryz.func301 WW λbu ai bt=>ao ?_;refine aF ai λ_ bK ba _=>ao ?_;refine bj ba λe4 fW bV _ _=>?_;show a1 ah (.seq _ ?iB) _ _;have s3:∀hN,xz a0 hN=some r->a1 ah ?iB e4 (az [(6,.int .i64 a0.Kind),(7,.bool hN)]):=by
  intro hN h;refine aM h (λdE h=>?_) λdE h=>?_
  .exact aJ bV [.int .i64 1]
  .refine ao ?_;refine aM h (λft h=>?_) λft h=>?_
   .exact aJ bV [.int .i64 2]
   .exact aQ (fW _ (bK _ (inl (aJ ai [.int .i64 0]))))
 refine aF bV λ_ eb _ _=>ao ?_;refine aM h (λgh h=>?_) λgh h=>?_
 .simp only[gh,yA.down];exact aQ (eb _ (inr ⟨_,bJ rfl,s3 true h⟩))
 .refine ao ?_;refine aM h (λej h=>?_) λej h=>?_
  .simp only[ej,yA.down];exact aQ (eb _ (inr ⟨_,bJ rfl,s3 true h⟩))
  .refine dc ?_;exact eb _ (inr ⟨_,bJ rfl,s3 (a0.Kind==4) h⟩)
theorem ZV (a0 r) (h:AE a0=some r):aW ah 299 [.slice (a0.map db)] (.bool r) []:=by
 refine bw [0] [.tmp 2] Tryz.func299 WX λbu ai bt=>ao ?_;refine aF ai λ_ bK ba an=>kF ((a0.length:Int)==0) [(0,.slice (a0.map db)),(12,.bool (((a0.length:Int)==0)||(decide (20<(a0.length:Int)))))] ?_;refine aM h (λbR h=>?_) λbR h=>?_
 .exact aJ ba [.bool false]
 .refine aQ (bK _ (inl (ao ?_)));refine aF ai λ_ cV dR _=>ao ?_;refine bj dR λjJ _ bW ft _=>?_;show a1 ah (.loop ?iB) _ _;have jK:∀n oe pg,uo a0 n oe pg=some r->cz ah ?iB jJ (az [(0,.slice (a0.map db)),(3,.int .i64 oe),(4,.int .i64 pg)]):=by
   refine cS λ_ jL oe pg h=>cR bW λ_ n10 cp c4=>aF cp λ_ n11 _ gf=>ao ?_;refine aM h (λgh h=>?_) λgh h=>?_
   .refine aQ (n11 _ (inl (aF cp λ_ n14 dw _=>bj dw λ_ n15 hy _ _=>aF hy λ_ n16 lT _=>ao ?_)));refine aM h (λh5 h=>?_) λh5 h=>?_
    .exact aJ lT [.bool false]
    .refine aQ (n16 _ (inl ?_));obtain⟨ae,qo,h⟩:=aE h;obtain⟨an,iV,h⟩:=aE h;refine GP qo (Nz ae _ iV) _ ?_;refine n15 _ (n14 _ (inl (dc ?_)));exact n10 _ (inr ⟨_,bJ rfl,jL (i64.wrap (oe+(i64.wrap (an-1)))) (i64.wrap (pg+1)) h⟩)
   .exact cP (gf 0 _ (c4 0 _ (ft _ (cV _ (inl (aJ ai [.bool (oe==0)]))))))
  exact c5 h λn h=>jK n 1 0 h
theorem ZW (a0 r) (h:Fa a0=some r):aW ah 310 [.ref (db a0)] (.bool r) []:=by
 refine bw [0] [.tmp 2] Tryz.func310 WY λbu ai bt=>ao ?_;refine aF ai λ_ bK ba _=>ao ?_;refine bj ba λe4 fW bV _ _=>?_;show a1 ah (.seq _ ?ZX) _ _;have u4:∀xB,AF a0 xB=some r->a1 ah ?ZX e4 (az [(0,.ref (db a0)),(6,.int .i64 a0.Kind),(7,.bool xB)]):=by
  intro xB h;refine aM h (λdE h=>?_) λdE h=>?_
  .refine ep (cc [(2,.bool (((a0.Number==0)&&(a0.Name==([]:aix)))&&((a0.da.length:Int)==0)))] (λP bl=>?_) ?_)
   ·(rcases Bool.eq_false_or_eq_true (a0.Number==0)with rD|rD)<;>(rcases Bool.eq_false_or_eq_true (a0.Name==([]:aix))with nz|nz)<;>
     (simp only[aX.down,simprocAttr,rD,nz]
      exact b2 (af rD nz))
   exact dC bV [.bool (((a0.Number==0)&&(a0.Name==([]:aix)))&&((a0.da.length:Int)==0))]
  .refine ao ?_;refine aM h (λlS h=>?_) λlS h=>?_
   .exact aJ bV [.bool (a0.Number==0)]
   .refine ao ?_;refine aM h (λiD h=>?_) λiD h=>?_
    .refine kF (a0.Number==0) [(2,.bool ((a0.Number==0)&&(a0.Name==([]:aix))))] ?_;exact dC bV [.bool ((a0.Number==0)&&(a0.Name==([]:aix)))]
    .refine ao ?_;refine aM h (λj2 h=>?_) λj2 h=>?_
     .refine kF (a0.Name==([]:aix)) [(2,.bool ((a0.Name==([]:aix))&&((a0.da.length:Int)==0)))] ?_;exact dC bV [.bool ((a0.Name==([]:aix))&&((a0.da.length:Int)==0))]
     .refine ao ?_;refine aM h (λfc h=>?_) λfc h=>?_
      .exact aJ bV [.bool (a0.Name==([]:aix))]
      .exact aQ (fW _ (bK _ (inl (aJ ai [.bool false]))))
 refine aF bV λ_ eb _ _=>ao ?_;refine aM h (λgY h=>?_) λgY h=>?_
 .simp only[gY,yA.down];exact aQ (eb _ (inr ⟨_,bJ rfl,u4 true h⟩))
 .refine dc ?_;exact eb _ (inr ⟨_,bJ rfl,u4 (a0.Kind==2) h⟩)
theorem ZY (a0 J r) (h:AG a0 J=some r):aW ah 267 [.slice (a0.map db),.int .i64 J] (.int .i64 r) []:=by
 refine bw [0] [.tmp 4] Tryz.func267 WZ λbu ai bt=>ao ?_;refine ao ?_;refine aF ai λ_ eW cG _=>bj cG λe4 _ bV bR _=>?_;show a1 ah (.loop ?e2) _ _;have fN:∀n iR eU,uq a0 n iR eU=some r->cz ah ?e2 e4 (az [(0,.slice (a0.map db)),(1,.int .i64 iR),(5,.int .i64 eU)]):=by
  refine cS λ_ fp iR eU h=>cR bV λ_ eb cO bL=>aF cO λ_ n6 _ cy=>ao ?_;refine aM h (λb5 h=>?_) λb5 h=>?_
  .refine aQ (n6 _ (inl (bj cO λ_ cF _ _ _=>?_)));obtain⟨ae,l0,h⟩:=aE h;obtain⟨an,hc,h⟩:=aE h;refine gD l0 (Nz ae _ hc) _ ?_;refine dc ?_;exact cF _ (eb _ (inr ⟨_,bJ rfl,fp (i64.wrap (iR+1)) (i64.wrap (eU+(i64.wrap (an-1)))) h⟩))
  .exact cP (cy 0 _ (bL 0 _ (bR _ (eW _ (inl (aJ ai [.int .i64 iR]))))))
 exact c5 h λn h=>fN n J 1 h
theorem G2 (a0 J r) (h:rp a0 J=some r):aW ah 214 [.ref (bP a0),.int .i64 J] (.int .i64 r) []:=by
 refine bw [0,1] [.tmp 4] Tryz.func214 W0 λbu ai bt=>ao ?_;refine ao ?_;refine aF ai λ_ eW cG _=>ao ?_;refine bj cG λmM _ cO cm _=>?_;show a1 ah (.loop ?hh) _ _;have ho:∀n fC hP,sK a0 J n fC hP=some r->cz ah ?hh mM (az [(0,.ref (bP a0)),(1,.int .i64 J),(5,.int .i64 fC),(6,.int .i64 hP)]):=by
  refine cS λm8 hp fC hP h=>cR cO λjM n6 cC cy=>aF cC λ_ cV _ cn=>ao ?_;refine aM h (λft h=>?_) λft h=>?_
  .refine aQ (cV _ (inl ?_));show a1 ah (.seq _ ?GL) _ _;have G3:∀ur uu,xC (sK a0 J m8) a0 J ur uu=some r->a1 ah ?GL jM (az [(0,.ref (bP a0)),(1,.int .i64 J),(5,.int .i64 ur),(6,.int .i64 uu)]):=by
    intro ur uu h;refine dc ?_;exact n6 _ (inr ⟨_,bJ rfl,hp ur (i64.wrap (uu+1)) h⟩)
   refine aF cC λ_ n10 cp _=>bj cp λ_ n12 _ _ _=>?_;obtain⟨ae,dg,h⟩:=aE h;rcases ed h with⟨ej,h⟩|⟨ej,h⟩
   .obtain⟨an,b_,h⟩:=aE h;refine gD (af dg ej) (ZY a0.Body hP _ b_) _ ?_;refine aM h (λj2 h=>?_) λj2 h=>?_
    .refine dc ?_;exact n12 _ (n10 _ (inr ⟨_,bJ rfl,G3 (i64.wrap (fC+1)) hP h⟩))
    .exact aQ (n12 _ (n10 _ (inr ⟨_,bJ rfl,G3 fC hP h⟩)))
   .refine eV (af dg ej) _ ?_;refine o8 rfl ?_;exact aQ (n12 _ (n10 _ (inr ⟨_,bJ rfl,G3 fC hP h⟩)))
  .exact cP (cn 0 _ (cy 0 _ (cm _ (eW _ (inl (aJ ai [.int .i64 fC]))))))
 exact c5 h λn h=>ho n a0.dr 0 h
theorem ZZ (a0 J r) (h:AH a0 J=some r):aW ah 227 [.ref (fV a0),.int .i64 J] (.bool r) []:=by
 refine bw [0,1] [.tmp 4] Tryz.func227 W1 λbu ai bt=>ao ?_;refine aF ai λ_ bK ba an=>ao ?_;refine bj ba λ_ fW bV _ _=>ao ?_;refine aM h (λdE h=>?_) λdE h=>?_
 .obtain⟨ae,gS,h⟩:=aE h;refine cK (mf a0.Value 0 63 _ gS) _ ?_;exact dC bV [.bool ae]
 .refine ao ?_;refine aM h (λfu h=>?_) λfu h=>?_
  .obtain⟨an,hc,h⟩:=aE h;refine cK (mf a0.Value 0 (i64.wrap (J-1)) _ hc) _ ?_;exact dC bV [.bool an]
  .refine ao ?_;refine aM h (λiD h=>?_) λiD h=>?_
   .obtain⟨aT,b_,h⟩:=aE h;refine cK (mf a0.Value 0 8 _ b_) _ ?_;exact dC bV [.bool aT]
   .refine ao ?_;refine aM h (λh5 h=>?_) λh5 h=>?_
    .exact aJ bV [.bool (a0.Value==0)]
    .exact aQ (fW _ (bK _ (inl (aJ ai [.bool false]))))
theorem Z0 (a0 r) (h:Ff a0=some r):aW ah 228 [.ref (fV a0)] (.int .i64 r) []:=by
 refine bw [0] [.tmp 2] Tryz.func228 W2 λbu ai bt=>ao ?_;refine aF ai λ_ bK ba _=>ao ?_;refine bj ba λ_ fW bV _ _=>ao ?_;refine aM h (λdE h=>?_) λdE h=>?_
 .exact aJ bV [.int .i64 2]
 .refine ao ?_;refine aM h (λft h=>?_) λft h=>?_
  .exact aJ bV [.int .i64 1]
  .exact aQ (fW _ (bK _ (inl (aJ ai [.int .i64 0]))))
theorem Z1 (a0 J a2 r) (h:AJ a0 J a2=some r):aW ah 170 [.slice (a0.map fV),.int .i64 J,.int .i64 a2] (.bool r) []:=by
 refine bw [0,1,2] [.tmp 6] Tryz.func170 W3 λbu ai bt=>ao ?_;refine aF ai λ_ bK ba an=>ao ?_;refine aM h (λbR h=>?_) λbR h=>?_
 .exact aJ ba [.bool false]
 .refine aQ (bK _ (inl (ao ?_)));refine aF ai λ_ cV dR _=>ao ?_;refine bj dR λjJ _ bW ft _=>?_;show a1 ah (.loop ?iB) _ _;have jK:∀n hN ph,uv a0 J n hN ph=some r->cz ah ?iB jJ (az [(0,.slice (a0.map fV)),(1,.int .i64 J),(7,.int .i64 hN),(8,.int .i64 ph)]):=by
   refine cS λ_ jL hN ph h=>cR bW λ_ n10 cp c4=>aF cp λ_ n11 _ gf=>ao ?_;refine aM h (λgh h=>?_) λgh h=>?_
   .refine aQ (n11 _ (inl (aF cp λ_ n14 dw _=>bj dw λ_ n15 hy _ _=>aF hy λ_ n16 lT _=>?_)));rcases ed h with⟨h5,h⟩|⟨h5,h⟩
    .refine eV h5 _ ?_;refine h3 rfl ?_;exact aJ lT [.bool false]
    .obtain⟨ae,jt,h⟩:=aE h;obtain⟨an,qo,h⟩:=aE h;refine gD (af h5 jt) (ZZ ae J _ qo) _ ?_;refine aM h (λqq h=>?_) λqq h=>?_
     .exact aJ lT [.bool false]
     .refine aQ (n16 _ (inl ?_));obtain⟨aT,jf,h⟩:=aE h;refine GP jt (Z0 ae _ jf) _ ?_;refine n15 _ (n14 _ (inl (dc ?_)));exact n10 _ (inr ⟨_,bJ rfl,jL (i64.wrap (hN+(i64.wrap (aT-1)))) (i64.wrap (ph+1)) h⟩)
   .exact cP (gf 0 _ (c4 0 _ (ft _ (cV _ (inl (aJ ai [.bool (hN==0)]))))))
  exact c5 h λn h=>jK n 1 0 h
theorem Z2 (a0 J a2 r) (h:xG a0 J a2=some r):aW ah 300 [.slice (a0.map bP),.ref (bP J),.int .i64 a2] (.int .i64 r) []:=by
 refine bw [0,1,2] [.tmp 6] Tryz.func300 W7 λbu ai bt=>ao ?_;obtain⟨ae,aS,h⟩:=aE h;refine eV aS _ ?_;refine aF ai λ_ fW bV cx=>?_;obtain⟨an,bQ,h⟩:=aE h;refine ep (cc [(0,.slice (a0.map bP)),(1,.ref (bP J)),(2,.int .i64 a2),(7,.bb (db ae)),(19,.bool (!an))] (λP bl=>?_) ?_)
 .refine fg (ZW ae _ bQ) rfl rfl (by simp only[aX.down,simprocAttr,lg,lh,lj,dJ, @cQ _ jc jc (λ_=>GG _)]<;>rfl) rfl (inr (by rfl)) ?_;simp only[aX.down,simprocAttr];exact b2 trivial
 refine aM h (λp2 h=>?_) λp2 h=>?_
 .exact aJ bV [.int .i64 2]
 .refine aQ (fW _ (inl (aF ai λjJ cF bW dN=>?_)));have NA:∀xF,AK a0 J a2 ae xF=some r->a1 ah MU jJ (az [(0,.slice (a0.map bP)),(1,.ref (bP J)),(2,.int .i64 a2),(7,.bb (db ae)),(28,.bool xF)]):=by
   intro xF h;refine aM h (λfu h=>?_) λfu h=>?_
   .exact aJ bW [.int .i64 3]
   .refine aQ (cF _ (inl (aF ai λs4 n12 kG _=>?_)));have yG:∀xE,sN a0 J a2 ae xE=some r->a1 ah MV s4 (az [(0,.slice (a0.map bP)),(1,.ref (bP J)),(2,.int .i64 a2),(7,.bb (db ae)),(51,.bool xE)]):=by
     intro xE h;refine aM h (λgh h=>?_) λgh h=>?_
     .exact aJ kG [.int .i64 4]
     .refine aQ (n12 _ (inl (ao ?_)));have BS:sM J a2 ae=some r->a1 ah MY bu (az [(1,.ref (bP J)),(2,.int .i64 a2),(7,.bb (db ae)),(8,.int .i64 (ae.da.length:Int))]):=by
       intro h;refine aF ai λZ3 n17 j3 _=>?_;have G4:∀xD,uw J a2 ae xD=some r->a1 ah MW Z3 (az [(1,.ref (bP J)),(2,.int .i64 a2),(7,.bb (db ae)),(8,.int .i64 (ae.da.length:Int)),(102,.bool xD)]):=by
        intro xD h;refine aM h (λh5 h=>?_) λh5 h=>?_
        .exact aJ j3 [.int .i64 6]
        .refine aQ (n17 _ (inl ?_));obtain⟨aT,qo,h⟩:=aE h;refine cK (G2 J a2 _ qo) _ ?_;refine aF ai λ_ n22 lq _=>kF (ae.Kind==4) [(7,.bb (db ae)),(8,.int .i64 (ae.da.length:Int)),(9,.int .i64 aT),(112,.bool ((ae.Kind==4)&&(decide (6<=aT))))] ?_;refine aM h (λgY h=>?_) λgY h=>?_
         .exact aJ lq [.int .i64 7]
         .refine aQ (n22 _ (inl (aF ai λ_ n26 s5 _=>ao ?_)));refine bj s5 λZ4 _ GX h6 _=>?_;have Z5:∀n pj pk,sL ae n pj pk=some r->cz ah MX Z4 (az [(7,.bb (db ae)),(8,.int .i64 (ae.da.length:Int)),(9,.int .i64 pj),(10,.int .i64 pk)]):=by
           refine cS λ_ Z6 pj pk h=>cR GX λ_ n29 u5 Z7=>aF u5 λ_ n30 _ Z8=>ao ?_;refine aM h (λZ9 h=>?_) λZ9 h=>?_
           .refine aQ (n30 _ (inl (aF u5 λ_ n33 G5 _=>bj G5 λ_ n34 BT _ _=>?_)));obtain⟨cx,Z_,h⟩:=aE h;obtain⟨bL,G6,h⟩:=aE h;refine gD Z_ (Z1 cx pj 15 _ G6) _ ?_;refine aM h (λG7 h=>?_) λG7 h=>?_
            .exact aJ BT [.int .i64 8]
            .refine aQ (n34 _ (n33 _ (inl (dc ?_))));exact n29 _ (inr ⟨_,bJ rfl,Z6 pj (i64.wrap (pk+1)) h⟩)
           .exact cP (Z8 1 _ (Z7 1 _ (h6 _ (n26 _ (inl (aJ ai [.int .i64 0]))))))
          exact c5 h λn h=>Z5 n aT 0 h
       rcases ed h with⟨s6,h⟩|⟨s6,h⟩
       .rcases ed h with⟨yH,h⟩|⟨yH,h⟩
        .refine iM (cc (K:=dm _) [(1,.ref (bP J)),(2,.int .i64 a2),(7,.bb (db ae)),(8,.int .i64 (ae.da.length:Int)),(102,.bool true)] (λP bl=>?_) ?_)
         .simp only[aX.down,simprocAttr,s6,yH];exact b2 (af s6 yH)
         exact inr ⟨_,bJ rfl,G4 true h⟩
        .obtain⟨cy,nA,h⟩:=aE h;refine iM (cc (K:=dm _) [(1,.ref (bP J)),(2,.int .i64 a2),(7,.bb (db ae)),(8,.int .i64 (ae.da.length:Int)),(102,.bool (cy.Kind !=1))] (λP bl=>?_) ?_)
         .simp only[aX.down,simprocAttr,s6,yH,nA];exact b2 (af s6 (af yH nA))
         exact inr ⟨_,bJ rfl,G4 (cy.Kind !=1) h⟩
       .refine iM (cc (K:=dm _) [(1,.ref (bP J)),(2,.int .i64 a2),(7,.bb (db ae)),(8,.int .i64 (ae.da.length:Int)),(102,.bool false)] (λP bl=>?_) ?_)
        .simp only[aX.down,simprocAttr,s6];exact b2 s6
        exact inr ⟨_,bJ rfl,G4 false h⟩
      refine aF ai λ_ n16 lT _=>ao ?_;refine bj lT λ_ n47 yI _ _=>ao ?_;refine aM h (λaaa h=>?_) λaaa h=>?_
      .refine ep (cc [(1,.ref (bP J)),(2,.int .i64 a2),(7,.bb (db ae)),(8,.int .i64 (ae.da.length:Int)),(69,.bool ((decide (2<(ae.da.length:Int)))||((decide (0<(ae.da.length:Int)))&&(ae.Name==([116,97,117]:aix)))))] (λP bl=>?_) ?_)
       ·(rcases Bool.eq_false_or_eq_true (decide (2<(ae.da.length:Int)))with G8|G8)<;>(rcases Bool.eq_false_or_eq_true (decide (0<(ae.da.length:Int)))with G9|G9)<;>
         (simp only[aX.down,simprocAttr,G8,G9]
          exact b2 (af G8 G9))
       refine aM h (λG_ h=>?_) λG_ h=>?_
       .exact aJ yI [.int .i64 5]
       .exact aQ (n47 _ (n16 _ (inr ⟨_,bJ rfl,BS h⟩)))
      .refine ao ?_;refine aM h (λyJ h=>?_) λyJ h=>?_
       .refine ao ?_;refine aM h (λaab h=>?_) λaab h=>?_
        .exact aJ yI [.int .i64 5]
        .exact aQ (n47 _ (n16 _ (inr ⟨_,bJ rfl,BS h⟩)))
       .refine ao ?_;refine aM h (λHa h=>?_) λHa h=>?_
        .obtain⟨cn,aac,h⟩:=aE h;refine eV aac _ ?_;refine aM h (λaad h=>?_) λaad h=>?_
         .exact aJ yI [.int .i64 5]
         .exact aQ (n47 _ (n16 _ (inr ⟨_,bJ rfl,BS h⟩)))
        .exact aQ (n47 _ (n16 _ (inr ⟨_,bJ rfl,BS h⟩)))
    rcases ed h with⟨lr,h⟩|⟨lr,h⟩
    .obtain⟨fM,Hb,h⟩:=aE h;rcases ed h with⟨ow,h⟩|⟨ow,h⟩
     .refine iM (cc (K:=dm _) [(0,.slice (a0.map bP)),(1,.ref (bP J)),(2,.int .i64 a2),(7,.bb (db ae)),(51,.bool true)] (λP bl=>?_) ?_)
      ·(try simp only[aX.down,simprocAttr,lr,(fL ow)]);refine gM (mf ae.Number 1 7 _ Hb) (hK:= ?_);simp only[aX.down,simprocAttr,lr,(fL ow)];exact b2 (af lr (fL ow))
      exact inr ⟨_,bJ rfl,yG true h⟩
     .rcases ed h with⟨rE,h⟩|⟨rE,h⟩
      .obtain⟨dN,aae,h⟩:=aE h;refine iM (cc (K:=dm _) [(0,.slice (a0.map bP)),(1,.ref (bP J)),(2,.int .i64 a2),(7,.bb (db ae)),(51,.bool (!dN))] (λP bl=>?_) ?_)
       ·(try simp only[aX.down,simprocAttr,lr,(bz ow),rE]);refine gM (mf ae.Number 1 7 _ Hb) (hK:= ?_);simp only[aX.down,simprocAttr,lr,(bz ow),rE];refine gM (mf ae.Number 0 (i64.wrap ((a0.length:Int)-1)) _ aae) (hK:= ?_);simp only[aX.down,simprocAttr,lr,(bz ow),rE];exact b2 (af lr (af (bz ow) rE))
       exact inr ⟨_,bJ rfl,yG (!dN) h⟩
      .refine iM (cc (K:=dm _) [(0,.slice (a0.map bP)),(1,.ref (bP J)),(2,.int .i64 a2),(7,.bb (db ae)),(51,.bool false)] (λP bl=>?_) ?_)
       ·(try simp only[aX.down,simprocAttr,lr,(bz ow),rE]);refine gM (mf ae.Number 1 7 _ Hb) (hK:= ?_);simp only[aX.down,simprocAttr,lr,(bz ow),rE];exact b2 (af lr (af (bz ow) rE))
       exact inr ⟨_,bJ rfl,yG false h⟩
    .rcases ed h with⟨u6,h⟩|⟨u6,h⟩
     .obtain⟨c4,yK,h⟩:=aE h;refine iM (cc (K:=dm _) [(0,.slice (a0.map bP)),(1,.ref (bP J)),(2,.int .i64 a2),(7,.bb (db ae)),(51,.bool (!c4))] (λP bl=>?_) ?_)
      ·(try simp only[aX.down,simprocAttr,lr,u6]);refine gM (mf ae.Number 0 (i64.wrap ((a0.length:Int)-1)) _ yK) (hK:= ?_);simp only[aX.down,simprocAttr,lr,u6];exact b2 (af lr u6)
      exact inr ⟨_,bJ rfl,yG (!c4) h⟩
     .refine iM (cc (K:=dm _) [(0,.slice (a0.map bP)),(1,.ref (bP J)),(2,.int .i64 a2),(7,.bb (db ae)),(51,.bool false)] (λP bl=>?_) ?_)
      .simp only[aX.down,simprocAttr,lr,u6];exact b2 (af lr u6)
      exact inr ⟨_,bJ rfl,yG false h⟩
  rcases ed h with⟨u7,h⟩|⟨u7,h⟩
  .obtain⟨gf,aaf,h⟩:=aE h;refine iM (cc (K:=dm _) [(0,.slice (a0.map bP)),(1,.ref (bP J)),(2,.int .i64 a2),(7,.bb (db ae)),(28,.bool (!gf))] (λP bl=>?_) ?_)
   ·(try simp only[aX.down,simprocAttr,u7]);refine gM (yE ae.Name _ aaf) (hK:= ?_);simp only[aX.down,simprocAttr,u7];exact b2 u7
   exact inr ⟨_,bJ rfl,NA (!gf) h⟩
  .refine iM (cc (K:=dm _) [(0,.slice (a0.map bP)),(1,.ref (bP J)),(2,.int .i64 a2),(7,.bb (db ae)),(28,.bool false)] (λP bl=>?_) ?_)
   .simp only[aX.down,simprocAttr,u7];exact b2 u7
   exact inr ⟨_,bJ rfl,NA false h⟩
theorem aag (a0 J r) (h:sP a0 J=some r):aW ah 265 [.slice (a0.map bP),.ref (bP J)] (.tuple [.int .i64 r.1,.int .i64 r.2]) []:=by
 refine bw [0,1] [.tmp 4,.tmp 5] Tryz.func265 W8 λbu ai bt=>ao ?_;refine aF ai λ_ bK ba an=>?_;obtain⟨ae,b0,h⟩:=aE h;refine cK (ZV J.Body _ b0) _ ?_;refine aM h (λcm h=>?_) λcm h=>?_
 .exact aJ ba [.int .i64 0,.int .i64 1]
 .refine aQ (bK _ (inl (aF ai λ_ cV dR _=>ao ?_)));refine bj dR λjJ _ bW ft _=>?_;show a1 ah (.loop ?gi) _ _;have gj:∀n mB,sO a0 J n mB=some r->cz ah ?gi jJ (az [(0,.slice (a0.map bP)),(1,.ref (bP J)),(6,.int .i64 mB)]):=by
   refine cS λ_ fX mB h=>cR bW λ_ n10 cp c4=>aF cp λ_ n11 _ gf=>ao ?_;refine aM h (λgh h=>?_) λgh h=>?_
   .refine aQ (n11 _ (inl (aF cp λ_ n14 dw _=>bj dw λ_ n15 hy _ _=>?_)));obtain⟨an,cT,h⟩:=aE h;refine cK (Z2 a0 J mB _ cT) _ ?_;refine ao ?_;refine aM h (λfh h=>?_) λfh h=>?_
    .exact aJ hy [.int .i64 mB,.int .i64 an]
    .refine aQ (n15 _ (n14 _ (inl (dc ?_))));exact n10 _ (inr ⟨_,bJ rfl,fX (i64.wrap (mB+1)) h⟩)
   .exact cP (gf 0 _ (c4 0 _ (ft _ (cV _ (inl (aJ ai [.int .i64 0,.int .i64 0]))))))
  exact c5 h λn h=>gj n 0 h
theorem aah (a0 r) (h:AM a0=some r):aW ah 211 [.slice (a0.map bP)] (.bool r) []:=by
 refine bw [0] [.tmp 2] Tryz.func211 W9 λbu ai bt=>ao ?_;refine aF ai λ_ bK ba an=>kF ((a0.length:Int)==0) [(0,.slice (a0.map bP)),(15,.bool (((a0.length:Int)==0)||(decide (4<(a0.length:Int)))))] ?_;refine aM h (λbR h=>?_) λbR h=>?_
 .exact aJ ba [.bool false]
 .refine aQ (bK _ (inl (aF ai λ_ n6 cC cy=>ao ?_)));refine bj cC λhT _ hn b5 _=>?_;show a1 ah (.loop ?gi) _ _;have gj:∀n dD,qd a0 n dD=some r->cz ah ?gi hT (az [(0,.slice (a0.map bP)),(3,.int .i64 dD)]):=by
   refine cS λm14 fX dD h=>cR hn λ_ cF bW dN=>aF bW λ_ n10 _ c4=>ao ?_;refine aM h (λeX h=>?_) λeX h=>?_
   .refine aQ (n10 _ (inl (aF bW λ_ n13 ey _=>bj ey λ_ n14 dw _ _=>aF dw λ_ n15 hy _=>?_)));obtain⟨ae,cT,h⟩:=aE h;obtain⟨an,eO,h⟩:=aE h;rcases ed h with⟨fh,h⟩|⟨fh,h⟩
    .refine gD (af cT (fL fh)) (yE ae.Name _ eO) _ ?_;refine h3 rfl ?_;exact aJ hy [.bool false]
    .obtain⟨aT,qo,h⟩:=aE h;refine ep (cc [(0,.slice (a0.map bP)),(3,.int .i64 dD),(37,.bool (!aT))] (λP bl=>?_) ?_)
     ·(try simp only[aX.down,simprocAttr,cT,(bz fh)]);refine fg (yE ae.Name _ eO) (hK:= ?_);simp only[aX.down,simprocAttr,cT,(bz fh)];refine gM (mf ae.dr 0 3 _ qo) (hK:= ?_);simp only[aX.down,simprocAttr,cT,(bz fh)];exact b2 (af cT (bz fh))
     refine aM h (λqq h=>?_) λqq h=>?_
     .exact aJ hy [.bool false]
     .refine aQ (n15 _ (inl (ao ?_)));refine bj dw λHc _ lu ox _=>?_;show a1 ah (.loop ?qs) _ _;have qt:∀n dZ er,ux (qd a0 m14) a0 n dZ er=some r->cz ah ?qs Hc (az [(0,.slice (a0.map bP)),(3,.int .i64 dZ),(4,.int .i64 er)]):=by
       refine cS λ_ qu dZ er h=>cR lu λ_ n26 s5 Hd=>aF s5 λ_ n27 _ aai=>ao ?_;refine aM h (λie h=>?_) λie h=>?_
       .refine aQ (n27 _ (inl (aF s5 λ_ n30 He _=>bj He λ_ n31 Hf _ _=>?_)));obtain⟨cx,Hg,h⟩:=aE h;obtain⟨bL,pB,h⟩:=aE h;refine kE (af Hg pB) _ ?_;refine aM h (λHh h=>?_) λHh h=>?_
        .exact aJ Hf [.bool false]
        .refine aQ (n31 _ (n30 _ (inl (dc ?_))));exact n26 _ (inr ⟨_,bJ rfl,qu dZ (i64.wrap (er+1)) h⟩)
       .refine cP (aai 2 _ (Hd 2 _ (ox _ (n14 _ (n13 _ (inl (dc ?_)))))));exact cF _ (inr ⟨_,bJ rfl,fX (i64.wrap (dZ+1)) h⟩)
      exact c5 h λn h=>qt n dD 0 h
   .refine cP (c4 0 _ (dN 0 _ (b5 _ (n6 _ (inl (aF ai λ_ n39 BU _=>ao ?_))))));refine bj BU λaaj _ aak aal _=>?_;show a1 ah (.loop ?aam) _ _;have aan:∀n pn,sQ a0 n pn=some r->cz ah ?aam aaj (az [(0,.slice (a0.map bP)),(5,.int .i64 pn)]):=by
     refine cS λ_ aao pn h=>cR aak λ_ aap NB aaq=>aF NB λ_ Hi _ aar=>ao ?_;refine aM h (λHj h=>?_) λHj h=>?_
     .refine aQ (Hi _ (inl (aF NB λ_ n46 aas _=>bj aas λ_ n47 yI _ _=>?_)));obtain⟨cy,yL,h⟩:=aE h;obtain⟨cn,aat,h⟩:=aE h;refine gD yL (aag a0 cy _ aat) _ ?_;refine ao ?_;refine aM h (λyM h=>?_) λyM h=>?_
      .exact aJ yI [.bool false]
      .refine aQ (n47 _ (n46 _ (inl (dc ?_))));exact aap _ (inr ⟨_,bJ rfl,aao (i64.wrap (pn+1)) h⟩)
     .exact cP (aar 4 _ (aaq 4 _ (aal _ (n39 _ (inl (aJ ai [.bool true]))))))
    exact c5 h λn h=>aan n 0 h
  exact c5 h λn h=>gj n 0 h
theorem NC (a0 r) (h:xH a0=some r):aW ah 168 [.slice (a0.map bf)] (.bool r) []:=by
 refine bw [0] [.tmp 2] Tryz.func168 W_ λbu ai bt=>ao ?_;refine aF ai λ_ bK ba an=>ao ?_;refine bj ba λe4 _ bV bR _=>?_;show a1 ah (.loop ?e2) _ _;have fN:∀n fU,uy a0 n fU=some r->cz ah ?e2 e4 (az [(0,.slice (a0.map bf)),(3,.int .i64 fU)]):=by
  refine cS λ_ fp fU h=>cR bV λ_ eb cO bL=>aF cO λ_ n6 _ cy=>ao ?_;refine aM h (λb5 h=>?_) λb5 h=>?_
  .refine aQ (n6 _ (inl (aF cO λ_ cF bW _=>bj bW λ_ n10 cp _ _=>?_)));obtain⟨ae,hc,h⟩:=aE h;obtain⟨an,e9,h⟩:=aE h;refine gD hc (mf ae 0 63 _ e9) _ ?_;refine aM h (λiD h=>?_) λiD h=>?_
   .exact aJ cp [.bool false]
   .refine aQ (n10 _ (cF _ (inl (dc ?_))));exact eb _ (inr ⟨_,bJ rfl,fp (i64.wrap (fU+1)) h⟩)
  .exact cP (cy 0 _ (bL 0 _ (bR _ (bK _ (inl (aJ ai [.bool true]))))))
 exact c5 h λn h=>fN n 0 h
theorem aau (a0 r) (h:AN a0=some r):aW ah 212 [.ref (hS a0)] (.bool r) []:=by
 refine bw [0] [.tmp 2] Tryz.func212 Xa λbu ai bt=>ao ?_;refine aF ai λ_ bK ba an=>kF ((a0.cv.length:Int)==0) [(0,.ref (hS a0)),(18,.bool (((a0.cv.length:Int)==0)||(decide (3<(a0.cv.length:Int)))))] ?_;refine aM h (λbR h=>?_) λbR h=>?_
 .exact aJ ba [.bool false]
 .refine aQ (bK _ (inl (aF ai λ_ n6 cC _=>ao ?_)));refine bj cC λhT _ hn b5 _=>?_;show a1 ah (.loop ?gi) _ _;have gj:∀n dD,uz a0 n dD=some r->cz ah ?gi hT (az [(0,.ref (hS a0)),(3,.int .i64 dD)]):=by
   refine cS λ_ fX dD h=>cR hn λ_ cF bW dN=>aF bW λ_ n10 _ c4=>ao ?_;refine aM h (λeX h=>?_) λeX h=>?_
   .refine aQ (n10 _ (inl (aF bW λ_ n13 ey _=>bj ey λ_ n14 dw _ _=>?_)));obtain⟨ae,b_,h⟩:=aE h;refine eV b_ _ ?_;refine aF dw λ_ n17 j3 _=>?_;obtain⟨an,nB,h⟩:=aE h;refine Nn (mf ae.b7 0 (i64.wrap ((a0.dQ.length:Int)-1)) _ nB) _ ?_;refine aM h (λfc h=>?_) λfc h=>?_
    .exact aJ j3 [.bool false]
    .refine aQ (n17 _ (inl ?_));obtain⟨aT,mL,h⟩:=aE h;rcases ed h with⟨gY,h⟩|⟨gY,h⟩
     .refine kE (af mL gY) _ ?_;refine h3 rfl ?_;exact aJ dw [.bool false]
     .obtain⟨cx,u9,h⟩:=aE h;refine js (af mL gY) (NC ae.b4 _ u9) _ ?_;refine aM h (λkp h=>?_) λkp h=>?_
      .exact aJ dw [.bool false]
      .refine aQ (n14 _ (n13 _ (inl (dc ?_))));exact cF _ (inr ⟨_,bJ rfl,fX (i64.wrap (dD+1)) h⟩)
   .exact cP (c4 0 _ (dN 0 _ (b5 _ (n6 _ (inl (aJ ai [.bool true]))))))
  exact c5 h λn h=>gj n 0 h
theorem pC (a0 r) (h:sR a0=some r):aW ah 126 [.str a0] (.bool r) []:=by
 refine bw [0] [.tmp 2] Tryz.func126 Xb λbu ai bt=>ao ?_;obtain⟨ae,aS,h⟩:=aE h;refine ep (cc [(2,.bool (ae&&(!(a0==([116,97,117]:aix)))))] (λP bl=>?_) ?_)
 .rcases Bool.eq_false_or_eq_true (ae)with jU|jU
  ·(try simp only[aX.down,simprocAttr,jU]);refine fg (yE a0 _ aS) (hK:= ?_);simp only[aX.down,simprocAttr,jU];exact b2 jU
  ·(try simp only[aX.down,simprocAttr,jU]);refine fg (yE a0 _ aS) (hK:= ?_);simp only[aX.down,simprocAttr,jU];exact b2 jU
 exact dC ai [.bool (ae&&(!(a0==([116,97,117]:aix))))]
theorem aav (a0 r) (h:AO a0=some r):aW ah 60 [.slice (a0.map cE)] (.bool r) []:=by
 refine bw [0] [.tmp 2] Tryz.func60 Xc λbu ai bt=>ao ?_;refine aF ai λ_ bK ba an=>ao ?_;refine aM h (λbR h=>?_) λbR h=>?_
 .exact aJ ba [.bool false]
 .refine aQ (bK _ (inl (aF ai λ_ n6 cC cy=>ao ?_)));refine bj cC λhT _ hn b5 _=>?_;show a1 ah (.loop ?gi) _ _;have gj:∀n dD,og a0 n dD=some r->cz ah ?gi hT (az [(0,.slice (a0.map cE)),(3,.int .i64 dD)]):=by
   refine cS λm14 fX dD h=>cR hn λ_ cF bW dN=>aF bW λ_ n10 _ c4=>ao ?_;refine aM h (λeX h=>?_) λeX h=>?_
   .refine aQ (n10 _ (inl (aF bW λ_ n13 ey _=>bj ey λ_ n14 dw _ _=>?_)));obtain⟨ae,b_,h⟩:=aE h;refine eV b_ _ ?_;refine aF dw λ_ n17 j3 _=>?_;obtain⟨an,nB,h⟩:=aE h;rcases ed h with⟨fc,h⟩|⟨fc,h⟩
    .refine gD (fL fc) (pC ae.Left _ nB) _ ?_;refine h3 rfl ?_;exact aJ j3 [.bool false]
    .obtain⟨aT,iV,h⟩:=aE h;rcases ed h with⟨fi,h⟩|⟨fi,h⟩
     .refine ep (cc [(0,.slice (a0.map cE)),(3,.int .i64 dD),(4,.bb (cE ae)),(41,.bool true)] (λP bl=>?_) ?_)
      ·(try simp only[aX.down,simprocAttr,(bz fc),(fL fi)]);refine fg (pC ae.Left _ nB) (hK:= ?_);simp only[aX.down,simprocAttr,(bz fc),(fL fi)];refine gM (pC ae.b8 _ iV) (hK:= ?_);simp only[aX.down,simprocAttr,(bz fc),(fL fi)];exact b2 (af (bz fc) (fL fi))
      refine h3 rfl ?_;exact aJ j3 [.bool false]
     .obtain⟨cx,jf,h⟩:=aE h;refine ep (cc [(0,.slice (a0.map cE)),(3,.int .i64 dD),(4,.bb (cE ae)),(41,.bool ((!cx)||(!(Op.bytesLess ae.Left ae.b8||ae.Left==ae.b8))))] (λP bl=>?_) ?_)
      .rcases Bool.eq_false_or_eq_true (cx)with oy|oy
       ·(try simp only[aX.down,simprocAttr,(bz fc),(bz fi),oy]);refine fg (pC ae.Left _ nB) (hK:= ?_);simp only[aX.down,simprocAttr,(bz fc),(bz fi),oy];refine gM (pC ae.b8 _ iV) (hK:= ?_);simp only[aX.down,simprocAttr,(bz fc),(bz fi),oy];refine gM (pC ae.Result _ jf) (hK:= ?_);simp only[aX.down,simprocAttr,(bz fc),(bz fi),oy];exact b2 (af (bz fc) (af (bz fi) oy))
       ·(try simp only[aX.down,simprocAttr,(bz fc),(bz fi),oy]);refine fg (pC ae.Left _ nB) (hK:= ?_);simp only[aX.down,simprocAttr,(bz fc),(bz fi),oy];refine gM (pC ae.b8 _ iV) (hK:= ?_);simp only[aX.down,simprocAttr,(bz fc),(bz fi),oy];refine gM (pC ae.Result _ jf) (hK:= ?_);simp only[aX.down,simprocAttr,(bz fc),(bz fi),oy];exact b2 (af (bz fc) (af (bz fi) oy))
      refine aM h (λkp h=>?_) λkp h=>?_
      .exact aJ j3 [.bool false]
      .refine aQ (n17 _ (inl (aF dw λ_ n29 u5 _=>?_)));rcases ed h with⟨hq,h⟩|⟨hq,h⟩
       .obtain⟨bL,oz,h⟩:=aE h;refine kj rfl (jW [(0,.slice (a0.map cE)),(3,.int .i64 dD),(4,.bb (cE ae)),(76,.bool ((!(Op.bytesLess bL.Left ae.Left||bL.Left==ae.Left))||((bL.Left==ae.Left)&&(!(Op.bytesLess bL.b8 ae.b8)))))] (λP bl=>?_) ?_)
        ·(rcases Bool.eq_false_or_eq_true (Op.bytesLess bL.Left ae.Left)with Hk|Hk)<;>(rcases Bool.eq_false_or_eq_true (bL.Left==ae.Left)with Hl|Hl)<;>
          (simp only[dV.down,simprocAttr,hq,oz,Hk,Hl]
           refine⟨jZ (by kernel_rfl),?_⟩;exact b2 (af hq (af oz (af Hk Hl))))
        refine aM h (λHh h=>?_) λHh h=>?_
        .exact aJ u5 [.bool false]
        .refine aQ (n29 _ (inl (ao ?_)));refine bj dw λaaw _ Hm G7 _=>?_;show a1 ah (.loop ?Hn) _ _;have Ho:∀n kC kY,qe (og a0 m14) a0 ae n kC kY=some r->cz ah ?Hn aaw (az [(0,.slice (a0.map cE)),(3,.int .i64 kC),(4,.bb (cE ae)),(5,.int .i64 kY)]):=by
          refine cS λaax Hp kC kY h=>cR Hm λ_ n39 BU aay=>aF BU λ_ aaz _ aaA=>ao ?_;refine aM h (λaaB h=>?_) λaaB h=>?_
          .refine aQ (aaz _ (inl (aF BU λ_ Hi aaC _=>bj aaC λ_ aaD aaE _ _=>?_)));obtain⟨cy,Hq,h⟩:=aE h;refine Np (cy.Left==ae.Result) Hq [(0,.slice (a0.map cE)),(3,.int .i64 kC),(4,.bb (cE ae)),(5,.int .i64 kY),(100,.bool ((cy.Left==ae.Result)||(cy.b8==ae.Result)))] ?_;refine aM h (λHr h=>?_) λHr h=>?_
           .exact aJ aaE [.bool false]
           .refine aQ (aaD _ (Hi _ (inl (dc ?_))));exact n39 _ (inr ⟨_,bJ rfl,Hp kC (i64.wrap (kY+1)) h⟩)
          .refine cP (aaA 2 _ (aay 2 _ (G7 _ (n14 _ (n13 _ (inl (dc ?_)))))));exact cF _ (inr ⟨_,bJ rfl,fX (i64.wrap (kC+1)) h⟩)
         exact c5 h λn h=>Ho n dD 0 h
       .refine kE hq _ ?_;refine o8 rfl ?_;refine aQ (n29 _ (inl (ao ?_)));refine bj dw λHs _ Ht yM _=>?_;show a1 ah (.loop ?Hn) _ _;have Ho:∀n kC kY,qe (og a0 m14) a0 ae n kC kY=some r->cz ah ?Hn Hs (az [(0,.slice (a0.map cE)),(3,.int .i64 kC),(4,.bb (cE ae)),(5,.int .i64 kY)]):=by
         refine cS λaax Hp kC kY h=>cR Ht λ_ Hu yN Hv=>aF yN λ_ Hw _ Hx=>ao ?_;refine aM h (λyJ h=>?_) λyJ h=>?_
         .refine aQ (Hw _ (inl (aF yN λ_ n57 yO _=>bj yO λ_ yP BV _ _=>?_)));obtain⟨cn,u_,h⟩:=aE h;refine Np (cn.Left==ae.Result) u_ [(0,.slice (a0.map cE)),(3,.int .i64 kC),(4,.bb (cE ae)),(5,.int .i64 kY),(100,.bool ((cn.Left==ae.Result)||(cn.b8==ae.Result)))] ?_;refine aM h (λHa h=>?_) λHa h=>?_
          .exact aJ BV [.bool false]
          .refine aQ (yP _ (n57 _ (inl (dc ?_))));exact Hu _ (inr ⟨_,bJ rfl,Hp kC (i64.wrap (kY+1)) h⟩)
         .refine cP (Hx 2 _ (Hv 2 _ (yM _ (n14 _ (n13 _ (inl (dc ?_)))))));exact cF _ (inr ⟨_,bJ rfl,fX (i64.wrap (kC+1)) h⟩)
        exact c5 h λn h=>Ho n dD 0 h
   .exact cP (c4 0 _ (dN 0 _ (b5 _ (n6 _ (inl (aJ ai [.bool true]))))))
  exact c5 h λn h=>gj n 0 h
theorem aaF (a0 r) (h:AP a0=some r):aW ah 266 [.slice (a0.map cJ)] (.bool r) []:=by
 refine bw [0] [.tmp 2] Tryz.func266 Xd λbu ai bt=>ao ?_;refine aF ai λ_ bK ba an=>ao ?_;refine bj ba λe4 _ bV bR _=>?_;show a1 ah (.loop ?e2) _ _;have fN:∀n fU,uA a0 n fU=some r->cz ah ?e2 e4 (az [(0,.slice (a0.map cJ)),(3,.int .i64 fU)]):=by
  refine cS λ_ fp fU h=>cR bV λ_ eb cO bL=>aF cO λ_ n6 _ cy=>ao ?_;refine aM h (λb5 h=>?_) λb5 h=>?_
  .refine aQ (n6 _ (inl (aF cO λ_ cF bW _=>bj bW λ_ n10 cp _ _=>?_)));obtain⟨ae,hc,h⟩:=aE h;obtain⟨an,e9,h⟩:=aE h;refine gD hc (pC ae _ e9) _ ?_;refine aM h (λiD h=>?_) λiD h=>?_
   .exact aJ cp [.bool false]
   .refine aQ (n10 _ (cF _ (inl (dc ?_))));exact eb _ (inr ⟨_,bJ rfl,fp (i64.wrap (fU+1)) h⟩)
  .exact cP (cy 0 _ (bL 0 _ (bR _ (bK _ (inl (aJ ai [.bool true]))))))
 exact c5 h λn h=>fN n 0 h
theorem ND (a0 r) (h:xI a0=some r):aW ah 213 [.slice (a0.map cJ)] (.bool r) []:=by
 refine bw [0] [.tmp 2] Tryz.func213 Xe λbu ai bt=>ao ?_;refine aF ai λ_ bK ba an=>?_;rcases ed h with⟨bR,h⟩|⟨bR,h⟩
 .refine eV bR _ ?_;refine h3 rfl ?_;exact aJ ba [.bool false]
 .obtain⟨ae,bQ,h⟩:=aE h;refine gD bR (aaF a0 _ bQ) _ ?_;refine aM h (λp2 h=>?_) λp2 h=>?_
  .exact aJ ba [.bool false]
  .refine aQ (bK _ (inl (aF ai λ_ cF bW _=>ao ?_)));refine bj bW λaaG _ gO lS _=>?_;show a1 ah (.loop ?gi) _ _;have gj:∀n dD,nv a0 n dD=some r->cz ah ?gi aaG (az [(0,.slice (a0.map cJ)),(3,.int .i64 dD)]):=by
    refine cS λ_ fX dD h=>cR gO λ_ n12 kG lo=>aF kG λ_ n13 _ iS=>ao ?_;refine aM h (λej h=>?_) λej h=>?_
    .refine aQ (n13 _ (inl (aF kG λ_ n16 lT _=>bj lT λ_ n17 j3 _ _=>?_)));obtain⟨an,nB,h⟩:=aE h;obtain⟨aT,jt,h⟩:=aE h;refine kE (af nB jt) _ ?_;refine aM h (λHy h=>?_) λHy h=>?_
     .exact aJ j3 [.bool false]
     .refine aQ (n17 _ (n16 _ (inl (dc ?_))));exact n12 _ (inr ⟨_,bJ rfl,fX (i64.wrap (dD+1)) h⟩)
    .exact cP (iS 0 _ (lo 0 _ (lS _ (cF _ (inl (aJ ai [.bool true]))))))
   exact c5 h λn h=>gj n 1 h
theorem aaH (a0 r) (h:AR a0=some r):aW ah 144 [.ref (hS a0)] (.int .i64 r) []:=by
 refine bw [0] [.tmp 2] Tryz.func144 Xf λbu ai bt=>ao ?_;refine aF ai λ_ bK ba an=>?_;obtain⟨ae,b0,h⟩:=aE h;refine cK (aah a0.dQ _ b0) _ ?_;refine aM h (λcm h=>?_) λcm h=>?_
 .exact aJ ba [.int .i64 1]
 .refine aQ (bK _ (inl (aF ai λ_ cV dR _=>?_)));obtain⟨an,jx,h⟩:=aE h;refine cK (aau a0 _ jx) _ ?_;refine aM h (λfu h=>?_) λfu h=>?_
  .exact aJ dR [.int .i64 2]
  .refine aQ (cV _ (inl (aF ai λ_ n12 kG _=>?_)));obtain⟨aT,dg,h⟩:=aE h;refine cK (aav a0.hk _ dg) _ ?_;refine aM h (λej h=>?_) λej h=>?_
   .exact aJ kG [.int .i64 3]
   .refine aQ (n12 _ (inl (aF ai λ_ n17 j3 _=>?_)));obtain⟨cx,nB,h⟩:=aE h;refine cK (ND a0.gV _ nB) _ ?_;refine aM h (λfc h=>?_) λfc h=>?_
    .exact aJ j3 [.int .i64 4]
    .refine aQ (n17 _ (inl (aF ai λ_ n22 lq _=>?_)));obtain⟨bL,jN,h⟩:=aE h;refine cK (ND a0.gW _ jN) _ ?_;refine aM h (λox h=>?_) λox h=>?_
     .exact aJ lq [.int .i64 5]
     .exact aQ (n22 _ (inl (aJ ai [.int .i64 0])))
theorem NF (a0 r) (h:AS a0=some r):aW ah 73 [.ref (hS a0)] (.bool r) []:=by
 refine bw [0] [.tmp 2] Tryz.func73 Xg λbu ai bt=>ao ?_;obtain⟨ae,aS,h⟩:=aE h;refine cK (aaH a0 _ aS) _ ?_;exact dC ai [.bool (ae==0)]
theorem aaI (a0 J r) (h:uB a0 J=some r):aW ah 145 [.slice (a0.map bP),.ref (bN J)] (.bool r) []:=by
 refine bw [0,1] [.tmp 4] Tryz.func145 Xh λbu ai bt=>ao ?_;refine aF ai λ_ bK ba an=>?_;obtain⟨ae,b0,h⟩:=aE h;refine cK (mf J.b7 0 (i64.wrap ((a0.length:Int)-1)) _ b0) _ ?_;refine aM h (λcm h=>?_) λcm h=>?_
 .exact aJ ba [.bool false]
 .refine aQ (bK _ (inl ?_));obtain⟨an,gS,h⟩:=aE h;refine eV gS _ ?_;refine aF ai λ_ cF bW _=>?_;obtain⟨aT,l0,h⟩:=aE h;rcases ed h with⟨eX,h⟩|⟨eX,h⟩
  .refine js (fL eX) (mf J.Part 0 (i64.wrap ((an.Body.length:Int)-1)) _ l0) _ ?_;refine h3 rfl ?_;exact aJ bW [.bool false]
  .obtain⟨cx,dg,h⟩:=aE h;refine js (af (bz eX) dg) (mf J.Part 0 (i64.wrap ((an.Body.length:Int)-1)) _ l0) _ ?_;refine aM h (λej h=>?_) λej h=>?_
   .exact aJ bW [.bool false]
   .refine aQ (cF _ (inl ?_));obtain⟨bL,eO,h⟩:=aE h;rcases ed h with⟨fh,h⟩|⟨fh,h⟩
    .obtain⟨cy,jt,h⟩:=aE h;refine kj rfl (jW [(4,.bool cy)] (λP bl=>?_) ?_)
     ·(try simp only[dV.down,simprocAttr,fh]);refine jX (G2 an J.Part _ eO) rfl rfl (by simp only[dV.down,simprocAttr,fh,Nq.down]<;>rfl) rfl (inr (by rfl)) ?_;simp only[dV.down,simprocAttr,fh];refine kk (NC J.b4 _ jt) (hK:= ?_);simp only[dV.down,simprocAttr,fh];refine⟨jZ (by kernel_rfl),?_⟩;exact b2 fh
     exact dC ai [.bool cy]
    .refine kj rfl (jW [(4,.bool false)] (λP bl=>?_) ?_)
     ·(try simp only[dV.down,simprocAttr,fh]);refine jX (G2 an J.Part _ eO) rfl rfl (by simp only[dV.down,simprocAttr,fh,Nq.down]<;>rfl) rfl (inr (by rfl)) ?_;simp only[dV.down,simprocAttr,fh];refine⟨jZ (by kernel_rfl),?_⟩;exact b2 fh
     exact dC ai [.bool false]
theorem aaJ (a0 J r) (h:AU a0 J=some r):aW ah 74 [.ref (hS a0),.slice (J.map bN)] (.bool r) []:=by
 refine bw [0,1] [.tmp 4] Tryz.func74 Xi λbu ai bt=>ao ?_;refine aF ai λ_ bK ba an=>ao ?_;refine aM h (λbR h=>?_) λbR h=>?_
 .exact aJ ba [.bool false]
 .refine aQ (bK _ (inl (aF ai λ_ n6 cC _=>ao ?_)));refine bj cC λhT _ hn b5 _=>?_;show a1 ah (.loop ?gi) _ _;have gj:∀n bG,uC a0 J n bG=some r->cz ah ?gi hT (az [(0,.ref (hS a0)),(1,.slice (J.map bN)),(5,.int .i64 bG)]):=by
   refine cS λ_ fX bG h=>cR hn λ_ cF bW dN=>aF bW λ_ n10 _ c4=>ao ?_;refine aM h (λeX h=>?_) λeX h=>?_
   .refine aQ (n10 _ (inl (aF bW λ_ n13 ey _=>bj ey λ_ n14 dw _ _=>?_)));obtain⟨ae,b_,h⟩:=aE h;obtain⟨an,cT,h⟩:=aE h;refine js b_ (aaI a0.dQ ae _ cT) _ ?_;refine aM h (λh5 h=>?_) λh5 h=>?_
    .exact aJ dw [.bool false]
    .refine aQ (n14 _ (n13 _ (inl (dc ?_))));exact cF _ (inr ⟨_,bJ rfl,fX (i64.wrap (bG+1)) h⟩)
   .exact cP (c4 0 _ (dN 0 _ (b5 _ (n6 _ (inl (aJ ai [.bool true]))))))
  exact c5 h λn h=>gj n 0 h
theorem aaK (a0 r) (h:AV a0=some r):aW ah 146 [.int .i64 a0] (.al 1 (r.map bf)) []:=by
 refine bw [0] [.tmp 2] Tryz.func146 Xj λbu ai bt=>ao ?_;refine eV (show∀s,eI ah s 22 0 []=some (.al 1 [],s)from λs=>by kernel_rfl) _ ?_;refine aF ai λ_ eW cG _=>ao ?_;refine bj cG λmM _ cO cm _=>?_;show a1 ah (.loop ?hh) _ _;have ho:∀n bo bk,uD a0 n bo bk=some r->cz ah ?hh mM (az [(0,.int .i64 a0),(3,.al 1 (bo.map bf)),(4,.int .i64 bk)]):=by
  refine cS λ_ hp bo bk h=>cR cO λ_ n6 cC cy=>aF cC λ_ cV _ cn=>ao ?_;refine aM h (λft h=>?_) λft h=>?_
  .refine aQ (cV _ (inl (aF cC λ_ n10 cp _=>bj cp λ_ n11 _ _ _=>?_)));obtain⟨aid,e9,h⟩:=aE h;(try simp only[qn.down,Nat.zero_add,Nat.add_zero,reduceAdd]at e9);refine Zs (af (show∀s,eI ah s 22 1 [(0,.int .i64 bk)]=some (.al 1 [.int .i64 bk],s)from λs=>by kernel_rfl) (af (@n8 ah 22 22 2 rfl rfl) (af @o_ (af @pa (af @pb (af @o9 (af @all_nil (af e9 (@lJ _ bf 1 λ_=>rfl))))))))) [(0,.int .i64 a0),(3,.al 1 ((bo++[bk]).map bf)),(4,.int .i64 bk)] ?_;refine n11 _ (n10 _ (inl (wr [(0,.int .i64 a0),(3,.al 1 ((bo++[bk]).map bf)),(4,.int .i64 (i64.wrap (bk+1)))] ?_)));exact n6 _ (inr ⟨_,bJ rfl,hp (bo++[bk]) (i64.wrap (bk+1)) h⟩)
  .exact cP (cn 0 _ (cy 0 _ (cm _ (eW _ (inl (aJ ai [.al 1 (bo.map bf)]))))))
 exact c5 h λn h=>ho n [] 0 h
theorem aaL (a0 r) (h:xJ a0=some r):aW ah 95 [.slice (a0.map bf)] (.al 1 (r.map bf)) []:=by
 refine bw [0] [.tmp 2] Tryz.func95 Xk λbu ai bt=>ao ?_;obtain⟨wX,aS,h⟩:=aE h;(try simp only[qn.down,Nat.zero_add,Nat.add_zero,reduceAdd]at aS);refine eV (af (show∀s,eI ah s 22 0 []=some (.al 1 [],s)from λs=>by kernel_rfl) (af (@n8 ah 22 22 2 rfl rfl) (af @o_ (af @pa (af @pb (af @o9 (af @all_nil (af aS (@lJ _ bf 1 λ_=>rfl))))))))) _ ?_;exact dC ai [.al 1 (a0.map bf)]
theorem aaM (a0 J r) (h:AX a0 J=some r):aW ah 147 [.slice (a0.map bN),.slice (J.map bf)] (.al 3 (r.map dn)) []:=by
 refine bw [0,1] [.tmp 4] Tryz.func147 Xl λbu ai bt=>ao ?_;refine eV (show∀s,eI ah s 62 0 []=some (.al 3 [],s)from λs=>by kernel_rfl) _ ?_;refine aF ai λ_ eW cG aT=>ao ?_;refine bj cG λmM _ cO cm _=>?_;show a1 ah (.loop ?hh) _ _;have ho:∀n fC hP,AW a0 J n fC hP=some r->cz ah ?hh mM (az [(0,.slice (a0.map bN)),(1,.slice (J.map bf)),(5,.al 3 (fC.map dn)),(6,.int .i64 hP)]):=by
  refine cS λ_ hp fC hP h=>cR cO λ_ n6 cC cy=>aF cC λ_ cV _ cn=>ao ?_;refine aM h (λft h=>?_) λft h=>?_
  .refine aQ (cV _ (inl (aF cC λ_ n10 cp _=>bj cp λ_ n11 _ _ _=>?_)));obtain⟨ae,e9,h⟩:=aE h;obtain⟨an,dg,h⟩:=aE h;refine eV (af e9 dg) _ ?_;obtain⟨aT,b_,h⟩:=aE h;obtain⟨qp,cT,h⟩:=aE h;(try simp only[BO.down,Nat.zero_add,Nat.add_zero,reduceAdd]at cT);refine SY rfl (jW [(0,.slice (a0.map bN)),(1,.slice (J.map bf)),(5,.al 3 ((fC++[(aU.mk an.b7 an.Part aT)]).map dn)),(6,.int .i64 hP)] (λP bl=>?_) ?_)
   ·(try simp only[dV.down,simprocAttr,GQ.down,e3,ei,l9,cT]);refine jX (aaL an.b4 _ b_) (hK:= ?_);simp only[dV.down,simprocAttr,GQ.down,e3,ei,l9,cT];refine⟨jZ (by kernel_rfl),?_⟩;(try simp only[iA.down,simprocAttr,GQ.down,e3,ei,l9,cT]at bl⊢);exact bl
   refine n11 _ (n10 _ (inl (wr [(0,.slice (a0.map bN)),(1,.slice (J.map bf)),(5,.al 3 ((fC++[(aU.mk an.b7 an.Part aT)]).map dn)),(6,.int .i64 (i64.wrap (hP+1)))] ?_)));exact n6 _ (inr ⟨_,bJ rfl,hp (fC++[(aU.mk an.b7 an.Part aT)]) (i64.wrap (hP+1)) h⟩)
  .exact cP (cn 0 _ (cy 0 _ (cm _ (eW _ (inl (aJ ai [.al 3 (fC.map dn)]))))))
 exact c5 h λn h=>ho n [] 0 h
theorem NG (a0 J r) (h:xK a0 J=some r):aW ah 268 [.slice (a0.map bf),.slice (J.map bf)] (.int .i64 r) []:=by
 refine bw [0,1] [.tmp 4] Tryz.func268 Xm λbu ai bt=>ao ?_;refine aF ai λ_ bK ba an=>ao ?_;refine bj ba λe4 _ bV bR _=>?_;show a1 ah (.loop ?e2) _ _;have fN:∀n eU,uE a0 J n eU=some r->cz ah ?e2 e4 (az [(0,.slice (a0.map bf)),(1,.slice (J.map bf)),(5,.int .i64 eU)]):=by
  refine cS λ_ fp eU h=>cR bV λ_ eb cO bL=>aF cO λ_ n6 _ cy=>kF (decide (eU<(a0.length:Int))) [(0,.slice (a0.map bf)),(1,.slice (J.map bf)),(5,.int .i64 eU),(15,.bool ((decide (eU<(a0.length:Int)))&&(decide (eU<(J.length:Int)))))] ?_;refine aM h (λb5 h=>?_) λb5 h=>?_
  .refine aQ (n6 _ (inl (aF cO λ_ cF bW _=>bj bW λ_ n10 cp _ _=>aF cp λ_ n11 gO _=>?_)));obtain⟨ae,e9,h⟩:=aE h;obtain⟨an,dg,h⟩:=aE h;refine kE (af e9 dg) _ ?_;refine aM h (λej h=>?_) λej h=>?_
   .exact aJ gO [.int .i64 (-1)]
   .refine aQ (n11 _ (inl (kE (af e9 dg) _ ?_)));refine aM h (λh5 h=>?_) λh5 h=>?_
    .exact aJ cp [.int .i64 1]
    .refine aQ (n10 _ (cF _ (inl (dc ?_))));exact eb _ (inr ⟨_,bJ rfl,fp (i64.wrap (eU+1)) h⟩)
  .refine cP (cy 0 _ (bL 0 _ (bR _ (bK _ (inl (aF ai λ_ n21 oA _=>ao ?_))))));refine aM h (λfi h=>?_) λfi h=>?_
   .exact aJ oA [.int .i64 (-1)]
   .refine aQ (n21 _ (inl (aF ai λ_ n25 lu _=>ao ?_)));refine aM h (λkp h=>?_) λkp h=>?_
    .exact aJ lu [.int .i64 1]
    .exact aQ (n25 _ (inl (aJ ai [.int .i64 0])))
 exact c5 h λn h=>fN n 0 h
theorem aaN (a0 J r) (h:AY a0 J=some r):aW ah 215 [.ref (bN a0),.ref (bN J)] (.int .i64 r) []:=by
 refine bw [0,1] [.tmp 4] Tryz.func215 Xn λbu ai bt=>ao ?_;refine kE (show∀s,eI ah s 22 2 [(0,.int .i64 a0.b7),(1,.int .i64 a0.Part)]=some (.al 1 [.int .i64 a0.b7,.int .i64 a0.Part],s)from λs=>by kernel_rfl) _ ?_;refine kE (show∀s,eI ah s 22 2 [(0,.int .i64 J.b7),(1,.int .i64 J.Part)]=some (.al 1 [.int .i64 J.b7,.int .i64 J.Part],s)from λs=>by kernel_rfl) _ ?_;obtain⟨ae,cd,h⟩:=aE h;refine ep (cc [(0,.ref (bN a0)),(1,.ref (bN J)),(7,.int .i64 ae)] (λP bl=>?_) ?_)
 ·(try simp only[aX.down,simprocAttr]);refine fg (NG [a0.b7,a0.Part] [J.b7,J.Part] _ cd) rfl rfl (by simp only[aX.down,simprocAttr,lg,lh,lj,dJ,I.shares, @cQ _ bf bf (λ_=>mJ _), @cQ _ bf bf (λ_=>mJ _)]<;>rfl) rfl (inr (by rfl)) ?_;simp only[aX.down,simprocAttr];exact b2 trivial
 refine aF ai λ_ n6 cC _=>ao ?_;refine aM h (λb5 h=>?_) λb5 h=>?_
 .exact aJ cC [.int .i64 ae]
 .refine aQ (n6 _ (inl ?_));obtain⟨an,l0,h⟩:=aE h;refine Nn (NG a0.b4 J.b4 _ l0) _ ?_;exact dC ai [.int .i64 an]
theorem aaO (a0 J r) (h:AZ a0 J=some r):aW ah 148 [.slice (a0.map bN),.slice (J.map bN)] (.bool r) []:=by
 refine bw [0,1] [.tmp 4] Tryz.func148 Xo λbu ai bt=>ao ?_;refine aF ai λ_ bK ba an=>ao ?_;refine bj ba λe4 _ bV bR _=>?_;show a1 ah (.loop ?e2) _ _;have fN:∀n eU,uF a0 J n eU=some r->cz ah ?e2 e4 (az [(0,.slice (a0.map bN)),(1,.slice (J.map bN)),(5,.int .i64 eU)]):=by
  refine cS λ_ fp eU h=>cR bV λ_ eb cO bL=>aF cO λ_ n6 _ cy=>ao ?_;refine aM h (λb5 h=>?_) λb5 h=>?_
  .refine aQ (n6 _ (inl (aF cO λ_ cF bW _=>bj bW λ_ n10 cp _ _=>?_)));obtain⟨ae,hc,h⟩:=aE h;obtain⟨an,e9,h⟩:=aE h;obtain⟨aT,dg,h⟩:=aE h;refine js (af hc e9) (aaN ae an _ dg) _ ?_;refine ao ?_;refine aM h (λiW h=>?_) λiW h=>?_
   .exact aJ cp [.bool (decide (aT<0))]
   .refine aQ (n10 _ (cF _ (inl (dc ?_))));exact eb _ (inr ⟨_,bJ rfl,fp (i64.wrap (eU+1)) h⟩)
  .exact cP (cy 0 _ (bL 0 _ (bR _ (bK _ (inl (aJ ai [.bool false]))))))
 exact c5 h λn h=>fN n 0 h
theorem aaP (a0 J r) (h:A0 a0 J=some r):aW ah 269 [.slice (a0.map bf),.slice (J.map bf)] (.bool r) []:=by
 refine bw [0,1] [.tmp 4] Tryz.func269 Xp λbu ai bt=>ao ?_;refine aF ai λ_ bK ba an=>ao ?_;refine aM h (λbR h=>?_) λbR h=>?_
 .exact aJ ba [.bool false]
 .refine aQ (bK _ (inl (aF ai λ_ n6 cC _=>ao ?_)));refine bj cC λhT _ hn b5 _=>?_;show a1 ah (.loop ?gi) _ _;have gj:∀n bG,uG a0 J n bG=some r->cz ah ?gi hT (az [(0,.slice (a0.map bf)),(1,.slice (J.map bf)),(5,.int .i64 bG)]):=by
   refine cS λ_ fX bG h=>cR hn λ_ cF bW dN=>aF bW λ_ n10 _ c4=>ao ?_;refine aM h (λeX h=>?_) λeX h=>?_
   .refine aQ (n10 _ (inl (aF bW λ_ n13 ey _=>bj ey λ_ n14 dw _ _=>?_)));obtain⟨ae,b_,h⟩:=aE h;obtain⟨an,cT,h⟩:=aE h;refine kE (af b_ cT) _ ?_;refine aM h (λh5 h=>?_) λh5 h=>?_
    .exact aJ dw [.bool false]
    .refine aQ (n14 _ (n13 _ (inl (dc ?_))));exact cF _ (inr ⟨_,bJ rfl,fX (i64.wrap (bG+1)) h⟩)
   .exact cP (c4 0 _ (dN 0 _ (b5 _ (n6 _ (inl (aJ ai [.bool true]))))))
  exact c5 h λn h=>gj n 0 h
theorem aaQ (a0 J r) (h:A1 a0 J=some r):aW ah 216 [.ref (bN a0),.ref (bN J)] (.bool r) []:=by
 refine bw [0,1] [.tmp 4] Tryz.func216 Xq λbu ai bt=>ao ?_;rcases ed h with⟨kS,h⟩|⟨kS,h⟩
 .rcases ed h with⟨bR,h⟩|⟨bR,h⟩
  .obtain⟨ae,cd,h⟩:=aE h;refine js (af kS bR) (aaP a0.b4 J.b4 _ cd) _ ?_;exact dC ai [.bool ae]
  .refine kE (af kS bR) _ ?_;exact dC ai [.bool false]
 .refine kE kS _ ?_;exact dC ai [.bool false]
theorem NH (a0 J r) (h:xL a0 J=some r):aW ah 149 [.slice (a0.map bN),.slice (J.map bN)] (.bool r) []:=by
 refine bw [0,1] [.tmp 4] Tryz.func149 Xr λbu ai bt=>ao ?_;refine aF ai λ_ bK ba an=>ao ?_;refine aM h (λbR h=>?_) λbR h=>?_
 .exact aJ ba [.bool false]
 .refine aQ (bK _ (inl (aF ai λ_ n6 cC _=>ao ?_)));refine bj cC λhT _ hn b5 _=>?_;show a1 ah (.loop ?gi) _ _;have gj:∀n bG,uH a0 J n bG=some r->cz ah ?gi hT (az [(0,.slice (a0.map bN)),(1,.slice (J.map bN)),(5,.int .i64 bG)]):=by
   refine cS λ_ fX bG h=>cR hn λ_ cF bW dN=>aF bW λ_ n10 _ c4=>ao ?_;refine aM h (λeX h=>?_) λeX h=>?_
   .refine aQ (n10 _ (inl (aF bW λ_ n13 ey _=>bj ey λ_ n14 dw _ _=>?_)));obtain⟨ae,b_,h⟩:=aE h;obtain⟨an,cT,h⟩:=aE h;obtain⟨aT,eO,h⟩:=aE h;refine js (af b_ cT) (aaQ ae an _ eO) _ ?_;refine aM h (λfh h=>?_) λfh h=>?_
    .exact aJ dw [.bool false]
    .refine aQ (n14 _ (n13 _ (inl (dc ?_))));exact cF _ (inr ⟨_,bJ rfl,fX (i64.wrap (bG+1)) h⟩)
   .exact cP (c4 0 _ (dN 0 _ (b5 _ (n6 _ (inl (aJ ai [.bool true]))))))
  exact c5 h λn h=>gj n 0 h
theorem NI (a0 r) (h:jr a0=some r):aW ah 150 [.al 1 (a0.map bf)] (.bool r.1) [.al 1 (r.2.map bf)]:=by
 refine bw [0] [.tmp 2] Tryz.func150 Xs λbu ai bt=>ao ?_;refine ao ?_;refine aF ai λ_ eW cG aT=>bj cG λe4 _ bV bR cx=>?_;show a1 ah (.loop ?e2) _ _;have fN:∀n fU,Fz a0 n fU=some r->cz ah ?e2 e4 (az [(0,.al 1 (a0.map bf)),(3,.int .i64 fU)]):=by
  refine cS λ_ fp fU h=>cR bV λ_ eb cO bL=>aF cO λ_ n6 _ cy=>?_;rcases ed h with⟨b5,h⟩|⟨b5,h⟩
  .obtain⟨ae,jx,h⟩:=aE h;obtain⟨an,kQ,h⟩:=aE h;refine kE (af b5 (af jx (af (b6 jx) (af kQ (b6 kQ))))) _ ?_;refine aM h (λlS h=>?_) λlS h=>?_
   .refine aQ (n6 _ (inl (bj cO λ_ n12 _ _ lo=>dc ?_)));exact n12 _ (eb _ (inr ⟨_,bJ rfl,fp (i64.wrap (fU-1)) h⟩))
   .refine cP (cy 0 _ (bL 0 _ (bR _ (eW _ (inl (aF ai λ_ n14 dw qf=>ao ?_))))));refine aM h (λiW h=>?_) λiW h=>?_
    .refine ao ?_;exact sx (dw _ (inl (tX [.bool false] rfl (by cases mj h;rfl) (by decide) (wN (wO (by cases mj h;rfl) rfl rfl rfl (wP))))))
    .refine aQ (n14 _ (inl (ao ?_)));refine aF ai λ_ n19 yF _=>bj yF λaaR _ s0 fc _=>?_;show a1 ah (.loop ?yy) _ _;have Hz:∀n fD hl,oh a0 n fD hl=some r->cz ah ?yy aaR (az [(0,.al 1 (a0.map bf)),(3,.int .i64 fD),(4,.int .i64 hl)]):=by
      refine cS λaaS HA fD hl h=>cR s0 λ_ n21 oA FB=>aF oA λ_ n22 _ aaT=>?_;obtain⟨aT,jN,h⟩:=aE h;obtain⟨cx,jf,h⟩:=aE h;refine kE (af jN (af (b6 jN) (af jf (b6 jf)))) _ ?_;refine aM h (λhz h=>?_) λhz h=>?_
      .refine aQ (n22 _ (inl (bj oA λ_ n27 _ _ _=>dc ?_)));exact n27 _ (n21 _ (inr ⟨_,bJ rfl,HA fD (i64.wrap (hl-1)) h⟩))
      .refine cP (aaT 2 _ (FB 2 _ (fc _ (n19 _ (inl (eV (af jf (b6 jf)) _ ?_))))));refine ep (cc [(0,.al 1 ((List.set a0 (Int.toNat fD) aT).map bf)),(3,.int .i64 fD),(4,.int .i64 hl),(5,.int .i64 cx)] (λP bl=>?_) ?_)
       .simp only[aX.down,simprocAttr,jN,b6 jN,jf,b6 jf,dK,cZ];exact b2 (af jN (af (b6 jN) (af jf (af (b6 jf) @dK))))
       obtain⟨bL,oz,h⟩:=aE h;refine ep (cc [(0,.al 1 ((List.set (List.set a0 (Int.toNat fD) aT) (Int.toNat hl) cx).map bf)),(3,.int .i64 fD)] (λP bl=>?_) ?_)
       .simp only[aX.down,simprocAttr,oz,b6 oz,dK,cZ];exact b2 (af oz (af (b6 oz) @dK))
       refine ws [(0,.al 1 ((List.set (List.set a0 (Int.toNat fD) aT) (Int.toNat hl) cx).map bf)),(6,.int .i64 (i64.wrap (fD+1)))] ?_;refine ws [(0,.al 1 ((List.set (List.set a0 (Int.toNat fD) aT) (Int.toNat hl) cx).map bf)),(6,.int .i64 (i64.wrap (fD+1))),(7,.int .i64 (i64.wrap (((List.set (List.set a0 (Int.toNat fD) aT) (Int.toNat hl) cx).length:Int)-1)))] ?_;refine aF ai λ_ n35 HB _=>bj HB λaaU _ aaV mg _=>?_;show a1 ah (.loop ?HC) _ _;have HD:∀n iy gA gN,po n iy gA gN=some r->cz ah ?HC aaU (az [(0,.al 1 (iy.map bf)),(6,.int .i64 gA),(7,.int .i64 gN)]):=by
        refine cS λaaW HE iy gA gN h=>cR aaV λ_ n37 NJ aaX=>aF NJ λ_ n38 _ aaY=>ao ?_;refine aM h (λHF h=>?_) λHF h=>?_
        .refine aQ (n38 _ (inl (bj NJ λ_ aaZ _ _ _=>?_)));obtain⟨cy,va,h⟩:=aE h;refine eV (af va (b6 va)) _ ?_;obtain⟨cn,nA,h⟩:=aE h;refine ep (cc [(0,.al 1 ((List.set iy (Int.toNat gA) cn).map bf)),(6,.int .i64 gA),(7,.int .i64 gN),(8,.int .i64 cy)] (λP bl=>?_) ?_)
         .simp only[aX.down,simprocAttr,nA,b6 nA,va,b6 va,dK,cZ];exact b2 (af nA (af (b6 nA) (af va (af (b6 va) @dK))))
         obtain⟨fM,BW,h⟩:=aE h;refine ep (cc [(0,.al 1 ((List.set (List.set iy (Int.toNat gA) cn) (Int.toNat gN) cy).map bf)),(6,.int .i64 gA),(7,.int .i64 gN)] (λP bl=>?_) ?_)
         .simp only[aX.down,simprocAttr,BW,b6 BW,dK,cZ];exact b2 (af BW (af (b6 BW) @dK))
         refine ws [(0,.al 1 ((List.set (List.set iy (Int.toNat gA) cn) (Int.toNat gN) cy).map bf)),(6,.int .i64 (i64.wrap (gA+1))),(7,.int .i64 gN)] ?_;refine wr [(0,.al 1 ((List.set (List.set iy (Int.toNat gA) cn) (Int.toNat gN) cy).map bf)),(6,.int .i64 (i64.wrap (gA+1))),(7,.int .i64 (i64.wrap (gN-1)))] ?_;exact aaZ _ (n37 _ (inr ⟨_,bJ rfl,HE (List.set (List.set iy (Int.toNat gA) cn) (Int.toNat gN) cy) (i64.wrap (gA+1)) (i64.wrap (gN-1)) h⟩))
        .refine cP (aaY 4 _ (aaX 4 _ (mg _ (n35 _ (inl (ao ?_))))));exact sx (ai _ (inl (tX [.bool true] rfl (by cases mj h;rfl) (by decide) (wN (wO (by cases mj h;rfl) rfl rfl rfl (wP))))))
       exact c5 h λn h=>HD n (List.set (List.set a0 (Int.toNat fD) aT) (Int.toNat hl) cx) (i64.wrap (fD+1)) (i64.wrap (((List.set (List.set a0 (Int.toNat fD) aT) (Int.toNat hl) cx).length:Int)-1)) h
     exact c5 h λn h=>Hz n fU (i64.wrap ((a0.length:Int)-1)) h
  .refine kE b5 _ ?_;refine o8 rfl ?_;refine cP (cy 0 _ (bL 0 _ (bR _ (eW _ (inl (aF ai λ_ aa0 aa1 _=>ao ?_))))));refine aM h (λG_ h=>?_) λG_ h=>?_
   .refine ao ?_;exact sx (aa1 _ (inl (tX [.bool false] rfl (by cases mj h;rfl) (by decide) (wN (wO (by cases mj h;rfl) rfl rfl rfl (wP))))))
   .refine aQ (aa0 _ (inl (ao ?_)));refine aF ai λ_ aa2 aa3 _=>bj aa3 λaa4 _ yO aa5 _=>?_;show a1 ah (.loop ?yy) _ _;have Hz:∀n fD hl,oh a0 n fD hl=some r->cz ah ?yy aa4 (az [(0,.al 1 (a0.map bf)),(3,.int .i64 fD),(4,.int .i64 hl)]):=by
     refine cS λaaS HA fD hl h=>cR yO λ_ yP BV aa6=>aF BV λ_ aa7 _ aa8=>?_;obtain⟨dN,oB,h⟩:=aE h;obtain⟨c4,rF,h⟩:=aE h;refine kE (af oB (af (b6 oB) (af rF (b6 rF)))) _ ?_;refine aM h (λaa9 h=>?_) λaa9 h=>?_
     .refine aQ (aa7 _ (inl (bj BV λ_ aa_ _ _ _=>dc ?_)));exact aa_ _ (yP _ (inr ⟨_,bJ rfl,HA fD (i64.wrap (hl-1)) h⟩))
     .refine cP (aa8 2 _ (aa6 2 _ (aa5 _ (aa2 _ (inl (eV (af rF (b6 rF)) _ ?_))))));refine ep (cc [(0,.al 1 ((List.set a0 (Int.toNat fD) dN).map bf)),(3,.int .i64 fD),(4,.int .i64 hl),(5,.int .i64 c4)] (λP bl=>?_) ?_)
      .simp only[aX.down,simprocAttr,oB,b6 oB,rF,b6 rF,dK,cZ];exact b2 (af oB (af (b6 oB) (af rF (af (b6 rF) @dK))))
      obtain⟨gf,BX,h⟩:=aE h;refine ep (cc [(0,.al 1 ((List.set (List.set a0 (Int.toNat fD) dN) (Int.toNat hl) c4).map bf)),(3,.int .i64 fD)] (λP bl=>?_) ?_)
      .simp only[aX.down,simprocAttr,BX,b6 BX,dK,cZ];exact b2 (af BX (af (b6 BX) @dK))
      refine ws [(0,.al 1 ((List.set (List.set a0 (Int.toNat fD) dN) (Int.toNat hl) c4).map bf)),(6,.int .i64 (i64.wrap (fD+1)))] ?_;refine ws [(0,.al 1 ((List.set (List.set a0 (Int.toNat fD) dN) (Int.toNat hl) c4).map bf)),(6,.int .i64 (i64.wrap (fD+1))),(7,.int .i64 (i64.wrap (((List.set (List.set a0 (Int.toNat fD) dN) (Int.toNat hl) c4).length:Int)-1)))] ?_;refine aF ai λ_ aba abb _=>bj abb λabc _ abd abe _=>?_;show a1 ah (.loop ?HC) _ _;have HD:∀n iy gA gN,po n iy gA gN=some r->cz ah ?HC abc (az [(0,.al 1 (iy.map bf)),(6,.int .i64 gA),(7,.int .i64 gN)]):=by
       refine cS λaaW HE iy gA gN h=>cR abd λ_ HG BZ abf=>aF BZ λ_ abg _ abh=>ao ?_;refine aM h (λabi h=>?_) λabi h=>?_
       .refine aQ (abg _ (inl (bj BZ λ_ HH _ _ _=>?_)));obtain⟨lo,vb,h⟩:=aE h;refine eV (af vb (b6 vb)) _ ?_;obtain⟨iS,B0,h⟩:=aE h;refine ep (cc [(0,.al 1 ((List.set iy (Int.toNat gA) iS).map bf)),(6,.int .i64 gA),(7,.int .i64 gN),(8,.int .i64 lo)] (λP bl=>?_) ?_)
        .simp only[aX.down,simprocAttr,B0,b6 B0,vb,b6 vb,dK,cZ];exact b2 (af B0 (af (b6 B0) (af vb (af (b6 vb) @dK))))
        obtain⟨qf,qv,h⟩:=aE h;refine ep (cc [(0,.al 1 ((List.set (List.set iy (Int.toNat gA) iS) (Int.toNat gN) lo).map bf)),(6,.int .i64 gA),(7,.int .i64 gN)] (λP bl=>?_) ?_)
        .simp only[aX.down,simprocAttr,qv,b6 qv,dK,cZ];exact b2 (af qv (af (b6 qv) @dK))
        refine ws [(0,.al 1 ((List.set (List.set iy (Int.toNat gA) iS) (Int.toNat gN) lo).map bf)),(6,.int .i64 (i64.wrap (gA+1))),(7,.int .i64 gN)] ?_;refine wr [(0,.al 1 ((List.set (List.set iy (Int.toNat gA) iS) (Int.toNat gN) lo).map bf)),(6,.int .i64 (i64.wrap (gA+1))),(7,.int .i64 (i64.wrap (gN-1)))] ?_;exact HH _ (HG _ (inr ⟨_,bJ rfl,HE (List.set (List.set iy (Int.toNat gA) iS) (Int.toNat gN) lo) (i64.wrap (gA+1)) (i64.wrap (gN-1)) h⟩))
       .refine cP (abh 4 _ (abf 4 _ (abe _ (aba _ (inl (ao ?_))))));exact sx (ai _ (inl (tX [.bool true] rfl (by cases mj h;rfl) (by decide) (wN (wO (by cases mj h;rfl) rfl rfl rfl (wP))))))
      exact c5 h λn h=>HD n (List.set (List.set a0 (Int.toNat fD) dN) (Int.toNat hl) c4) (i64.wrap (fD+1)) (i64.wrap (((List.set (List.set a0 (Int.toNat fD) dN) (Int.toNat hl) c4).length:Int)-1)) h
    exact c5 h λn h=>Hz n fU (i64.wrap ((a0.length:Int)-1)) h
 exact c5 h λn h=>fN n (i64.wrap ((a0.length:Int)-2)) h
theorem abj (a0 r) (h:xN a0=some r):aW ah 75 [.slice (a0.map bN)] (.al 1 (r.map dF)) []:=by
 refine bw [0] [.tmp 2] Tryz.func75 Xt λbu ai bt=>ao ?_;refine eV (show∀s,eI ah s 67 0 []=some (.al 1 [],s)from λs=>by kernel_rfl) _ ?_;obtain⟨ae,b0,h⟩:=aE h;refine cK (aaK (a0.length:Int) _ b0) _ ?_;refine bj ai λmM _ cO _ bL=>?_;show a1 ah (.loop ?DG) _ _;have abk:∀n om oo,lP a0 n om oo=some r->cz ah ?DG mM (az [(0,.slice (a0.map bN)),(3,.al 1 (om.map dF)),(4,.al 1 (oo.map bf))]):=by
  refine cS λm7 NK om oo h=>cR cO λ_ n6 cC cy=>bj cC λNL cV dR _ cn=>?_;obtain⟨an,jx,h⟩:=aE h;refine ep (cc [(0,.slice (a0.map bN)),(3,.al 1 (om.map dF)),(4,.al 1 (oo.map bf)),(5,.al 3 (an.map dn))] (λP bl=>?_) ?_)
  ·(try simp only[aX.down,simprocAttr]);refine fg (aaM a0 oo _ jx) rfl rfl (by simp only[aX.down,simprocAttr,Nr.down]<;>rfl) rfl (inr (jY (λ_=>GJ _) _)) ?_;simp only[aX.down,simprocAttr];exact b2 trivial
  refine ao ?_;refine aF dR λ_ n11 gO gf=>bj gO λs4 _ kG eX lo=>?_;show a1 ah (.loop ?abl) _ _;have abm:∀n dU gB gv,rq (lP a0 m7) a0 an n dU gB gv=some r->cz ah ?abl s4 (az [(0,.slice (a0.map bN)),(3,.al 1 (dU.map dF)),(4,.al 1 (gB.map bf)),(5,.al 3 (an.map dn)),(6,.int .i64 gv)]):=by
   refine cS λ_ abn dU gB gv h=>cR kG λ_ n13 ey iS=>aF ey λ_ n14 _ qf=>?_;rcases ed h with⟨iW,h⟩|⟨iW,h⟩
   .obtain⟨aT,cT,h⟩:=aE h;obtain⟨cx,eO,h⟩:=aE h;refine ep (cc [(0,.slice (a0.map bN)),(3,.al 1 (dU.map dF)),(4,.al 1 (gB.map bf)),(5,.al 3 (an.map dn)),(6,.int .i64 gv),(27,.bool cx)] (λP bl=>?_) ?_)
    ·(try simp only[aX.down,simprocAttr,iW,cT,b6 cT]);refine gM (aaO an aT _ eO) rfl rfl (by simp only[aX.down,simprocAttr,iW,cT,b6 cT,GR.down]<;>rfl) rfl (inr (by rfl)) ?_;simp only[aX.down,simprocAttr,iW,cT,b6 cT];exact b2 (af iW (af cT (b6 cT)))
    refine aM h (λfh h=>?_) λfh h=>?_
    .refine aQ (n14 _ (inl (bj ey λ_ n20 _ _ MB=>dc ?_)));exact n20 _ (n13 _ (inr ⟨_,bJ rfl,abn dU gB (i64.wrap (gv-1)) h⟩))
    .refine cP (qf 2 _ (iS 2 _ (eX _ (n11 _ (inl ?_)))));show a1 ah (.seq _ ?yz) _ _;have s7:∀lp oj,oi (lP a0 m7) a0 lp oj=some r->a1 ah ?yz NL (az [(0,.slice (a0.map bN)),(3,.al 1 (lp.map dF)),(4,.al 1 (oj.map bf))]):=by
      intro lp oj h;obtain⟨bL,jN,h⟩:=aE h;refine ep (cc [(0,.slice (a0.map bN)),(3,.al 1 (lp.map dF)),(4,.al 1 (bL.2.map bf)),(67,.bool (!bL.1))] (λP bl=>?_) ?_)
      ·(try simp only[aX.down,simprocAttr]);refine z7 [⟨.h 4 [],true,_,_⟩] (NI oj _ jN) rfl rfl rfl (by simp only[aX.down,simprocAttr,Ns.down]) rfl rfl (inl rfl) ?_;simp only[aX.down,simprocAttr,tY];exact b2 trivial
      refine aM h (λox h=>?_) λox h=>?_
      .exact aJ dR [.al 1 (lp.map dF)]
      .exact aQ (cV _ (n6 _ (inr ⟨_,bJ rfl,NK lp bL.2 h⟩)))
     refine aF dR λ_ n22 lq _=>?_;rcases ed h with⟨h6,h⟩|⟨h6,h⟩
     .refine eV h6 _ ?_;refine h3 rfl ?_;obtain⟨aie,HI,h⟩:=aE h;(try simp only[qn.down,Nat.zero_add,Nat.add_zero,reduceAdd]at HI);refine iM (cc (K:=dm _) [(0,.slice (a0.map bN)),(3,.al 1 (List.map dF dU++[.a_])),(4,.al 1 (gB.map bf)),(5,.al 3 (an.map dn)),(6,.int .i64 gv)] (λP bl=>?_) (tZ [(0,.slice (a0.map bN)),(3,.al 1 ((dU++[[]]).map dF)),(4,.al 1 (gB.map bf)),(5,.al 3 (an.map dn)),(6,.int .i64 gv)] (kl [] rfl (du rfl (kn (t:=3) (d:=.al 1 (List.map dF dU++[.a_])) (a6:=.al 1 ((dU++[[]]).map dF)) rfl rfl (.al (wR (e:=dF) (ys:=[[]]) (.cons (.o6) (.nil)) _)) (by decide) (du rfl (du rfl (du rfl (km))))))) ?_))
      .simp only[aX.down,simprocAttr,rB.down,HI];exact b2 (af rB.down HI)
      refine aF lq λ_ n31 Hf _=>ws [(0,.slice (a0.map bN)),(3,.al 1 ((dU++[[]]).map dF)),(4,.al 1 (gB.map bf)),(5,.al 3 (an.map dn)),(6,.int .i64 gv),(7,.int .i64 (i64.wrap (((dU++[[]]).length:Int)-1)))] ?_;refine bj Hf λabo _ G5 iE _=>?_;show a1 ah (.loop ?qs) _ _;have qt:∀n dZ er eK et,mC (lP a0 m7) a0 an n dZ er eK et=some r->cz ah ?qs abo (az [(0,.slice (a0.map bN)),(3,.al 1 (dZ.map dF)),(4,.al 1 (er.map bf)),(5,.al 3 (an.map dn)),(6,.int .i64 eK),(7,.int .i64 et)]):=by
       refine cS λHJ qu dZ er eK et h=>cR G5 λ_ n34 BT abp=>aF BT λ_ n35 _ abq=>ao ?_;refine aM h (λrG h=>?_) λrG h=>?_
       .refine aQ (n35 _ (inl (aF BT λ_ n38 Hm _=>bj Hm λ_ n39 _ _ _=>?_)));obtain⟨cy,B1,h⟩:=aE h;obtain⟨cn,B2,h⟩:=aE h;refine iv (cc [(0,.slice (a0.map bN)),(3,.al 1 ((List.set dZ (Int.toNat et) cy).map dF)),(4,.al 1 (er.map bf)),(5,.al 3 (an.map dn)),(6,.int .i64 eK),(7,.int .i64 et)] (λP bl=>?_) ?_)
        .simp only[aX.down,simprocAttr,B1,b6 B1,B2,b6 B2,dK,cZ];exact b2 (af B1 (af (b6 B1) (af B2 (af (b6 B2) @dK))))
        refine n39 _ (n38 _ (inl (wr [(0,.slice (a0.map bN)),(3,.al 1 ((List.set dZ (Int.toNat et) cy).map dF)),(4,.al 1 (er.map bf)),(5,.al 3 (an.map dn)),(6,.int .i64 eK),(7,.int .i64 (i64.wrap (et-1)))] ?_)));exact n34 _ (inr ⟨_,bJ rfl,qu (List.set dZ (Int.toNat et) cy) er eK (i64.wrap (et-1)) h⟩)
       .refine cP (abq 4 _ (abp 4 _ (iE _ (n31 _ (inr ⟨[(0,.slice (a0.map bN)),(3,.al 1 (dZ.map dF)),(4,.al 1 (er.map bf)),(5,.slice (an.map bN)),(6,.int .i64 eK),(7,.int .i64 et),(50,.bool (decide (eK<et)))],kl [] rfl (du rfl (du rfl (du rfl (kn (t:=5) (d:=.al 3 (an.map dn)) (a6:=.slice (an.map bN)) rfl rfl (wQ rfl rfl (by simp only[BP.down,I.share,I.shares]<;>rfl)) (by decide) (du rfl (du rfl (du rfl (km)))))))),?_⟩)))));obtain⟨fM,nA,h⟩:=aE h;refine iv (cc [(0,.slice (a0.map bN)),(3,.al 1 ((List.set dZ (Int.toNat eK) an).map dF)),(4,.al 1 (er.map bf))] (λP bl=>?_) ?_)
        .simp only[aX.down,simprocAttr,nA,b6 nA,dK,cZ];exact b2 (af nA (af (b6 nA) @dK))
        exact n22 _ (inr ⟨_,bJ rfl,s7 (List.set dZ (Int.toNat eK) an) er h⟩)
      exact c5 h λn h=>qt n (dU++[[]]) gB gv (i64.wrap (((dU++[[]]).length:Int)-1)) h
     .obtain⟨dN,Hq,h⟩:=aE h;refine ep (cc [(0,.slice (a0.map bN)),(3,.al 1 (dU.map dF)),(4,.al 1 (gB.map bf)),(5,.al 3 (an.map dn)),(6,.int .i64 gv),(41,.bool (!dN))] (λP bl=>?_) ?_)
      ·(try simp only[aX.down,simprocAttr,h6,cT,b6 cT]);refine gM (NH aT an _ Hq) rfl rfl (by simp only[aX.down,simprocAttr,h6,cT,b6 cT,GR.down]<;>rfl) rfl (inr (by rfl)) ?_;simp only[aX.down,simprocAttr,h6,cT,b6 cT];exact b2 (af h6 (af cT (b6 cT)))
      refine aM h (λHr h=>?_) λHr h=>?_
      .obtain⟨u64,yL,h⟩:=aE h;(try simp only[qn.down,Nat.zero_add,Nat.add_zero,reduceAdd]at yL);refine iM (cc (K:=dm _) [(0,.slice (a0.map bN)),(3,.al 1 (List.map dF dU++[.a_])),(4,.al 1 (gB.map bf)),(5,.al 3 (an.map dn)),(6,.int .i64 gv)] (λP bl=>?_) (tZ [(0,.slice (a0.map bN)),(3,.al 1 ((dU++[[]]).map dF)),(4,.al 1 (gB.map bf)),(5,.al 3 (an.map dn)),(6,.int .i64 gv)] (kl [] rfl (du rfl (kn (t:=3) (d:=.al 1 (List.map dF dU++[.a_])) (a6:=.al 1 ((dU++[[]]).map dF)) rfl rfl (.al (wR (e:=dF) (ys:=[[]]) (.cons (.o6) (.nil)) _)) (by decide) (du rfl (du rfl (du rfl (km))))))) ?_))
       .simp only[aX.down,simprocAttr,rB.down,yL];exact b2 (af rB.down yL)
       refine aF lq λ_ n50 abr _=>ws [(0,.slice (a0.map bN)),(3,.al 1 ((dU++[[]]).map dF)),(4,.al 1 (gB.map bf)),(5,.al 3 (an.map dn)),(6,.int .i64 gv),(7,.int .i64 (i64.wrap (((dU++[[]]).length:Int)-1)))] ?_;refine bj abr λHs _ Ht yM _=>?_;show a1 ah (.loop ?qs) _ _;have qt:∀n dZ er eK et,mC (lP a0 m7) a0 an n dZ er eK et=some r->cz ah ?qs Hs (az [(0,.slice (a0.map bN)),(3,.al 1 (dZ.map dF)),(4,.al 1 (er.map bf)),(5,.al 3 (an.map dn)),(6,.int .i64 eK),(7,.int .i64 et)]):=by
        refine cS λHJ qu dZ er eK et h=>cR Ht λ_ Hu yN Hv=>aF yN λ_ Hw _ Hx=>ao ?_;refine aM h (λyJ h=>?_) λyJ h=>?_
        .refine aQ (Hw _ (inl (aF yN λ_ n57 yO _=>bj yO λ_ yP _ _ _=>?_)));obtain⟨c4,u_,h⟩:=aE h;obtain⟨gf,oB,h⟩:=aE h;refine iv (cc [(0,.slice (a0.map bN)),(3,.al 1 ((List.set dZ (Int.toNat et) c4).map dF)),(4,.al 1 (er.map bf)),(5,.al 3 (an.map dn)),(6,.int .i64 eK),(7,.int .i64 et)] (λP bl=>?_) ?_)
         .simp only[aX.down,simprocAttr,u_,b6 u_,oB,b6 oB,dK,cZ];exact b2 (af u_ (af (b6 u_) (af oB (af (b6 oB) @dK))))
         refine yP _ (n57 _ (inl (wr [(0,.slice (a0.map bN)),(3,.al 1 ((List.set dZ (Int.toNat et) c4).map dF)),(4,.al 1 (er.map bf)),(5,.al 3 (an.map dn)),(6,.int .i64 eK),(7,.int .i64 (i64.wrap (et-1)))] ?_)));exact Hu _ (inr ⟨_,bJ rfl,qu (List.set dZ (Int.toNat et) c4) er eK (i64.wrap (et-1)) h⟩)
        .refine cP (Hx 4 _ (Hv 4 _ (yM _ (n50 _ (inr ⟨[(0,.slice (a0.map bN)),(3,.al 1 (dZ.map dF)),(4,.al 1 (er.map bf)),(5,.slice (an.map bN)),(6,.int .i64 eK),(7,.int .i64 et),(50,.bool (decide (eK<et)))],kl [] rfl (du rfl (du rfl (du rfl (kn (t:=5) (d:=.al 3 (an.map dn)) (a6:=.slice (an.map bN)) rfl rfl (wQ rfl rfl (by simp only[BP.down,I.share,I.shares]<;>rfl)) (by decide) (du rfl (du rfl (du rfl (km)))))))),?_⟩)))));obtain⟨lo,B3,h⟩:=aE h;refine iv (cc [(0,.slice (a0.map bN)),(3,.al 1 ((List.set dZ (Int.toNat eK) an).map dF)),(4,.al 1 (er.map bf))] (λP bl=>?_) ?_)
         .simp only[aX.down,simprocAttr,B3,b6 B3,dK,cZ];exact b2 (af B3 (af (b6 B3) @dK))
         exact n22 _ (inr ⟨_,bJ rfl,s7 (List.set dZ (Int.toNat eK) an) er h⟩)
       exact c5 h λn h=>qt n (dU++[[]]) gB gv (i64.wrap (((dU++[[]]).length:Int)-1)) h
      .exact aQ (n22 _ (inr ⟨_,bJ rfl,s7 dU gB h⟩))
   .refine eV iW _ ?_;refine o8 rfl ?_;refine cP (qf 2 _ (iS 2 _ (eX _ (n11 _ (inl ?_)))));show a1 ah (.seq _ ?yz) _ _;have s7:∀lp oj,oi (lP a0 m7) a0 lp oj=some r->a1 ah ?yz NL (az [(0,.slice (a0.map bN)),(3,.al 1 (lp.map dF)),(4,.al 1 (oj.map bf))]):=by
     intro lp oj h;obtain⟨iS,abt,h⟩:=aE h;refine ep (cc [(0,.slice (a0.map bN)),(3,.al 1 (lp.map dF)),(4,.al 1 (iS.2.map bf)),(67,.bool (!iS.1))] (λP bl=>?_) ?_)
     ·(try simp only[aX.down,simprocAttr]);refine z7 [⟨.h 4 [],true,_,_⟩] (NI oj _ abt) rfl rfl rfl (by simp only[aX.down,simprocAttr,Ns.down]) rfl rfl (inl rfl) ?_;simp only[aX.down,simprocAttr,tY];exact b2 trivial
     refine aM h (λabu h=>?_) λabu h=>?_
     .exact aJ dR [.al 1 (lp.map dF)]
     .exact aQ (cV _ (n6 _ (inr ⟨_,bJ rfl,NK lp iS.2 h⟩)))
    refine aF dR λ_ HK NM _=>?_;rcases ed h with⟨vc,h⟩|⟨vc,h⟩
    .refine eV vc _ ?_;refine h3 rfl ?_;obtain⟨aif,yK,h⟩:=aE h;(try simp only[qn.down,Nat.zero_add,Nat.add_zero,reduceAdd]at yK);refine iM (cc (K:=dm _) [(0,.slice (a0.map bN)),(3,.al 1 (List.map dF dU++[.a_])),(4,.al 1 (gB.map bf)),(5,.al 3 (an.map dn)),(6,.int .i64 gv)] (λP bl=>?_) (tZ [(0,.slice (a0.map bN)),(3,.al 1 ((dU++[[]]).map dF)),(4,.al 1 (gB.map bf)),(5,.al 3 (an.map dn)),(6,.int .i64 gv)] (kl [] rfl (du rfl (kn (t:=3) (d:=.al 1 (List.map dF dU++[.a_])) (a6:=.al 1 ((dU++[[]]).map dF)) rfl rfl (.al (wR (e:=dF) (ys:=[[]]) (.cons (.o6) (.nil)) _)) (by decide) (du rfl (du rfl (du rfl (km))))))) ?_))
     .simp only[aX.down,simprocAttr,rB.down,yK];exact b2 (af rB.down yK)
     refine aF NM λ_ HG BZ _=>ws [(0,.slice (a0.map bN)),(3,.al 1 ((dU++[[]]).map dF)),(4,.al 1 (gB.map bf)),(5,.al 3 (an.map dn)),(6,.int .i64 gv),(7,.int .i64 (i64.wrap (((dU++[[]]).length:Int)-1)))] ?_;refine bj BZ λabv _ abw abx _=>?_;show a1 ah (.loop ?qs) _ _;have qt:∀n dZ er eK et,mC (lP a0 m7) a0 an n dZ er eK et=some r->cz ah ?qs abv (az [(0,.slice (a0.map bN)),(3,.al 1 (dZ.map dF)),(4,.al 1 (er.map bf)),(5,.al 3 (an.map dn)),(6,.int .i64 eK),(7,.int .i64 et)]):=by
      refine cS λHJ qu dZ er eK et h=>cR abw λ_ aby NN abz=>aF NN λ_ HH _ abA=>ao ?_;refine aM h (λabB h=>?_) λabB h=>?_
      .refine aQ (HH _ (inl (aF NN λ_ abC abD _=>bj abD λ_ abE _ _ _=>?_)));obtain⟨qf,qv,h⟩:=aE h;obtain⟨rC,B4,h⟩:=aE h;refine iv (cc [(0,.slice (a0.map bN)),(3,.al 1 ((List.set dZ (Int.toNat et) qf).map dF)),(4,.al 1 (er.map bf)),(5,.al 3 (an.map dn)),(6,.int .i64 eK),(7,.int .i64 et)] (λP bl=>?_) ?_)
       .simp only[aX.down,simprocAttr,qv,b6 qv,B4,b6 B4,dK,cZ];exact b2 (af qv (af (b6 qv) (af B4 (af (b6 B4) @dK))))
       refine abE _ (abC _ (inl (wr [(0,.slice (a0.map bN)),(3,.al 1 ((List.set dZ (Int.toNat et) qf).map dF)),(4,.al 1 (er.map bf)),(5,.al 3 (an.map dn)),(6,.int .i64 eK),(7,.int .i64 (i64.wrap (et-1)))] ?_)));exact aby _ (inr ⟨_,bJ rfl,qu (List.set dZ (Int.toNat et) qf) er eK (i64.wrap (et-1)) h⟩)
      .refine cP (abA 4 _ (abz 4 _ (abx _ (HG _ (inr ⟨[(0,.slice (a0.map bN)),(3,.al 1 (dZ.map dF)),(4,.al 1 (er.map bf)),(5,.slice (an.map bN)),(6,.int .i64 eK),(7,.int .i64 et),(50,.bool (decide (eK<et)))],kl [] rfl (du rfl (du rfl (du rfl (kn (t:=5) (d:=.al 3 (an.map dn)) (a6:=.slice (an.map bN)) rfl rfl (wQ rfl rfl (by simp only[BP.down,I.share,I.shares]<;>rfl)) (by decide) (du rfl (du rfl (du rfl (km)))))))),?_⟩)))));obtain⟨BR,B5,h⟩:=aE h;refine iv (cc [(0,.slice (a0.map bN)),(3,.al 1 ((List.set dZ (Int.toNat eK) an).map dF)),(4,.al 1 (er.map bf))] (λP bl=>?_) ?_)
       .simp only[aX.down,simprocAttr,B5,b6 B5,dK,cZ];exact b2 (af B5 (af (b6 B5) @dK))
       exact HK _ (inr ⟨_,bJ rfl,s7 (List.set dZ (Int.toNat eK) an) er h⟩)
     exact c5 h λn h=>qt n (dU++[[]]) gB gv (i64.wrap (((dU++[[]]).length:Int)-1)) h
    .obtain⟨sT,rH,h⟩:=aE h;obtain⟨xM,abF,h⟩:=aE h;refine ep (cc [(0,.slice (a0.map bN)),(3,.al 1 (dU.map dF)),(4,.al 1 (gB.map bf)),(5,.al 3 (an.map dn)),(6,.int .i64 gv),(41,.bool (!xM))] (λP bl=>?_) ?_)
     ·(try simp only[aX.down,simprocAttr,vc,rH,b6 rH]);refine gM (NH sT an _ abF) rfl rfl (by simp only[aX.down,simprocAttr,vc,rH,b6 rH,GR.down]<;>rfl) rfl (inr (by rfl)) ?_;simp only[aX.down,simprocAttr,vc,rH,b6 rH];exact b2 (af vc (af rH (b6 rH)))
     refine aM h (λabG h=>?_) λabG h=>?_
     .obtain⟨aih,HL,h⟩:=aE h;(try simp only[qn.down,Nat.zero_add,Nat.add_zero,reduceAdd]at HL);refine iM (cc (K:=dm _) [(0,.slice (a0.map bN)),(3,.al 1 (List.map dF dU++[.a_])),(4,.al 1 (gB.map bf)),(5,.al 3 (an.map dn)),(6,.int .i64 gv)] (λP bl=>?_) (tZ [(0,.slice (a0.map bN)),(3,.al 1 ((dU++[[]]).map dF)),(4,.al 1 (gB.map bf)),(5,.al 3 (an.map dn)),(6,.int .i64 gv)] (kl [] rfl (du rfl (kn (t:=3) (d:=.al 1 (List.map dF dU++[.a_])) (a6:=.al 1 ((dU++[[]]).map dF)) rfl rfl (.al (wR (e:=dF) (ys:=[[]]) (.cons (.o6) (.nil)) _)) (by decide) (du rfl (du rfl (du rfl (km))))))) ?_))
      .simp only[aX.down,simprocAttr,rB.down,HL];exact b2 (af rB.down HL)
      refine aF NM λ_ abH abI _=>ws [(0,.slice (a0.map bN)),(3,.al 1 ((dU++[[]]).map dF)),(4,.al 1 (gB.map bf)),(5,.al 3 (an.map dn)),(6,.int .i64 gv),(7,.int .i64 (i64.wrap (((dU++[[]]).length:Int)-1)))] ?_;refine bj abI λabJ _ abK abL _=>?_;show a1 ah (.loop ?qs) _ _;have qt:∀n dZ er eK et,mC (lP a0 m7) a0 an n dZ er eK et=some r->cz ah ?qs abJ (az [(0,.slice (a0.map bN)),(3,.al 1 (dZ.map dF)),(4,.al 1 (er.map bf)),(5,.al 3 (an.map dn)),(6,.int .i64 eK),(7,.int .i64 et)]):=by
       refine cS λHJ qu dZ er eK et h=>cR abK λ_ abM NO abN=>aF NO λ_ abO _ abP=>ao ?_;refine aM h (λabQ h=>?_) λabQ h=>?_
       .refine aQ (abO _ (inl (aF NO λ_ n101 abR _=>bj abR λ_ n102 _ _ _=>?_)));obtain⟨sS,B6,h⟩:=aE h;obtain⟨MB,B7,h⟩:=aE h;refine iv (cc [(0,.slice (a0.map bN)),(3,.al 1 ((List.set dZ (Int.toNat et) sS).map dF)),(4,.al 1 (er.map bf)),(5,.al 3 (an.map dn)),(6,.int .i64 eK),(7,.int .i64 et)] (λP bl=>?_) ?_)
        .simp only[aX.down,simprocAttr,B6,b6 B6,B7,b6 B7,dK,cZ];exact b2 (af B6 (af (b6 B6) (af B7 (af (b6 B7) @dK))))
        refine n102 _ (n101 _ (inl (wr [(0,.slice (a0.map bN)),(3,.al 1 ((List.set dZ (Int.toNat et) sS).map dF)),(4,.al 1 (er.map bf)),(5,.al 3 (an.map dn)),(6,.int .i64 eK),(7,.int .i64 (i64.wrap (et-1)))] ?_)));exact abM _ (inr ⟨_,bJ rfl,qu (List.set dZ (Int.toNat et) sS) er eK (i64.wrap (et-1)) h⟩)
       .refine cP (abP 4 _ (abN 4 _ (abL _ (abH _ (inr ⟨[(0,.slice (a0.map bN)),(3,.al 1 (dZ.map dF)),(4,.al 1 (er.map bf)),(5,.slice (an.map bN)),(6,.int .i64 eK),(7,.int .i64 et),(50,.bool (decide (eK<et)))],kl [] rfl (du rfl (du rfl (du rfl (kn (t:=5) (d:=.al 3 (an.map dn)) (a6:=.slice (an.map bN)) rfl rfl (wQ rfl rfl (by simp only[BP.down,I.share,I.shares]<;>rfl)) (by decide) (du rfl (du rfl (du rfl (km)))))))),?_⟩)))));obtain⟨FB,B8,h⟩:=aE h;refine iv (cc [(0,.slice (a0.map bN)),(3,.al 1 ((List.set dZ (Int.toNat eK) an).map dF)),(4,.al 1 (er.map bf))] (λP bl=>?_) ?_)
        .simp only[aX.down,simprocAttr,B8,b6 B8,dK,cZ];exact b2 (af B8 (af (b6 B8) @dK))
        exact HK _ (inr ⟨_,bJ rfl,s7 (List.set dZ (Int.toNat eK) an) er h⟩)
      exact c5 h λn h=>qt n (dU++[[]]) gB gv (i64.wrap (((dU++[[]]).length:Int)-1)) h
     .exact aQ (HK _ (inr ⟨_,bJ rfl,s7 dU gB h⟩))
  exact c5 h λn h=>abm n om oo (om.length:Int) h
 exact c5 h λn h=>abk n [] ae h
theorem abS (a0 J r) (h:A3 a0 J=some r):aW ah 28 [hS a0,.slice (J.map bN)] (.tuple [.int .i64 r.1,.int .i64 r.2]) []:=by
 refine bw [0,1] [.tmp 4,.tmp 5] Tryz.func28 Xu λbu ai bt=>ao ?_;refine aF ai λ_ bK ba an=>?_;obtain⟨ae,b0,h⟩:=aE h;rcases ed h with⟨cm,h⟩|⟨cm,h⟩
 .refine ep (cc [(1,.slice (J.map bN)),(12,.bool true)] (λP bl=>?_) ?_)
  .refine fg (NF a0 _ b0) rfl rfl (by simp only[aX.down,simprocAttr,(fL cm),yD.down]<;>rfl) rfl (inr (by rfl)) ?_;simp only[aX.down,simprocAttr,(fL cm)];exact b2 (fL cm)
  refine h3 rfl ?_;exact aJ ba [.int .i64 0,.int .i64 1]
 .obtain⟨an,bH,h⟩:=aE h;refine ep (cc [(1,.slice (J.map bN)),(12,.bool (!an))] (λP bl=>?_) ?_)
  .refine fg (NF a0 _ b0) rfl rfl (by simp only[aX.down,simprocAttr,(bz cm),yD.down]<;>rfl) rfl (inr (by rfl)) ?_;simp only[aX.down,simprocAttr,(bz cm)];refine gM (aaJ a0 J _ bH) rfl rfl (by simp only[aX.down,simprocAttr,(bz cm),yD.down]<;>rfl) rfl (inr (by rfl)) ?_;simp only[aX.down,simprocAttr,(bz cm)];exact b2 (bz cm)
  refine aM h (λb5 h=>?_) λb5 h=>?_
  .exact aJ ba [.int .i64 0,.int .i64 1]
  .refine aQ (bK _ (inl ?_));obtain⟨aT,l0,h⟩:=aE h;refine cK (abj J _ l0) _ ?_;exact dC ai [.int .i64 (aT.length:Int),.int .i64 0]
theorem jO (a0 J a2 r) (h:ja a0 J a2=some r):aW ah 99 [.int .i64 a0,.int .i64 J,.int .i64 a2] (.bool r) []:=by
 refine bw [0,1,2] [.tmp 6] Tryz.func99 Xv λbu ai bt=>ao ?_;refine kF (decide (J<=a0)) [(6,.bool ((decide (J<=a0))&&(decide (a0<=a2))))] ?_;exact dC ai [.bool ((decide (J<=a0))&&(decide (a0<=a2)))]
theorem abT (a0 r) (h:FD a0=some r):aW ah 312 [bP a0] (.bool r) []:=by
 refine bw [0] [.tmp 2] Tryz.func312 Xw λbu ai bt=>ao ?_;obtain⟨ae,aS,h⟩:=aE h;refine cK (jO a0.dr 0 3 _ aS) _ ?_;exact dC ai [.bool (!ae)]
theorem abU (a0 r) (h:FF a0=some r):aW ah 313 [.slice (a0.map bP),.fn 312 []] (.int .i64 r) []:=by
 refine bw [0,1] [.tmp 4] Tryz.func313 Xx λbu ai bt=>ao ?_;refine aF ai λ_ bK ba an=>ao ?_;refine bj ba λe4 _ bV bR _=>?_;show a1 ah (.loop ?e2) _ _;have fN:∀n ch,xO a0 n ch=some r->cz ah ?e2 e4 (az [(0,.slice (a0.map bP)),(1,.fn 312 []),(7,.int .i64 (a0.length:Int)),(8,.int .i64 ch)]):=by
  refine cS λ_ fp ch h=>cR bV λ_ eb cO bL=>ao ?_;refine aF cO λ_ cV _ cn=>aM h (λb5 h=>?_) λb5 h=>?_
  .refine aQ (cV _ (inl (aF cO λ_ cF bW _=>bj bW λ_ n10 cp _ _=>ao ?_)));obtain⟨ae,e9,h⟩:=aE h;obtain⟨an,dg,h⟩:=aE h;refine gD e9 (abT ae _ dg) _ ?_;refine aM h (λej h=>?_) λej h=>?_
   .exact aJ cp [.int .i64 ch]
   .refine aQ (n10 _ (cF _ (inl (dc ?_))));exact eb _ (inr ⟨_,bJ rfl,fp (i64.wrap (ch+1)) h⟩)
  .exact cP (cn 0 _ (bL 0 _ (bR _ (bK _ (inl (aJ ai [.int .i64 (-1)]))))))
 exact c5 h λn h=>fN n 0 h
theorem abV (a0 r) (h:FG a0=some r):aW ah 311 [.slice (a0.map bP),.fn 312 []] (.bool r) []:=by
 refine bw [0,1] [.tmp 4] Tryz.func311 Xy λbu ai bt=>ao ?_;obtain⟨ae,aS,h⟩:=aE h;refine cK (abU a0 _ aS) _ ?_;exact dC ai [.bool (decide (0<=ae))]
theorem abW (a0 r) (h:A4 a0=some r):aW ah 302 [.slice (a0.map bP)] (.bool r) []:=by
 refine bw [0] [.tmp 2] Tryz.func302 Xz λbu ai bt=>ao ?_;obtain⟨ae,aS,h⟩:=aE h;refine cK (abV a0 _ aS) _ ?_;exact dC ai [.bool (!ae)]
theorem abX (a0 r) (h:FH a0=some r):aW ah 247 [.int .u8 (a0.toNat:Int)] (.bool r) []:=by
 refine bw [0] [.tmp 2] Tryz.func247 XA λbu ai bt=>ao ?_;refine kF (decide (48<=(a0.toNat:Int))) [(2,.bool ((decide (48<=(a0.toNat:Int)))&&(decide ((a0.toNat:Int)<=57))))] ?_;exact dC ai [.bool ((decide (48<=(a0.toNat:Int)))&&(decide ((a0.toNat:Int)<=57)))]
theorem B9 (a0 r) (h:xP a0=some r):aW ah 193 [.str a0] (.bool r) []:=by
 refine bw [0] [.tmp 2] Tryz.func193 XB λbu ai bt=>ao ?_;refine aF ai λ_ bK ba an=>ao ?_;refine bj ba λe4 _ bV bR _=>?_;show a1 ah (.loop ?e2) _ _;have fN:∀n eD,rr a0 n eD=some r->cz ah ?e2 e4 (az [(0,.str a0),(6,.int .i64 (a0.length:Int)),(7,.int .i64 eD)]):=by
  refine cS λ_ fp eD h=>cR bV λ_ eb cO bL=>ao ?_;refine aF cO λ_ cV _ cn=>aM h (λb5 h=>?_) λb5 h=>?_
  .refine aQ (cV _ (inl (aF cO λ_ cF bW _=>bj bW λ_ n10 cp _ _=>ao ?_)));obtain⟨ae,e9,h⟩:=aE h;refine Zt (decide (97<=(ae.toNat:Int))) e9 [(0,.str a0),(3,.int .i64 eD),(4,.bool ((decide (97<=(ae.toNat:Int)))&&(decide ((ae.toNat:Int)<=122)))),(6,.int .i64 (a0.length:Int)),(7,.int .i64 eD)] ?_;rcases ed h with⟨ej,h⟩|⟨ej,h⟩
   .rcases ed h with⟨iW,h⟩|⟨iW,h⟩
    .refine eV (af ej iW) _ ?_;refine h3 rfl ?_;exact aJ cp [.bool false]
    .obtain⟨an,eO,h⟩:=aE h;refine gD (af ej (af iW e9)) (abX ae _ eO) _ ?_;refine aM h (λfh h=>?_) λfh h=>?_
     .exact aJ cp [.bool false]
     .refine aQ (n10 _ (cF _ (inl (dc ?_))));exact eb _ (inr ⟨_,bJ rfl,fp (i64.wrap (eD+1)) h⟩)
   .refine eV ej _ ?_;refine o8 rfl ?_;refine aQ (n10 _ (cF _ (inl (dc ?_))));exact eb _ (inr ⟨_,bJ rfl,fp (i64.wrap (eD+1)) h⟩)
  .refine cP (cn 0 _ (bL 0 _ (bR _ (bK _ (inl (kF (decide (1<=(a0.length:Int))) [(2,.bool ((decide (1<=(a0.length:Int)))&&(decide ((a0.length:Int)<=10))))] ?_))))));exact dC ai [.bool ((decide (1<=(a0.length:Int)))&&(decide ((a0.length:Int)<=10)))]
 exact c5 h λn h=>fN n 0 h
theorem abY (a0 J r) (h:FI a0 J=some r):aW ah 314 [bP a0,.ref (.str J)] (.bool r) []:=by
 refine bw [0,1] [.tmp 3] Tryz.func314 XC λbu ai bt=>ao ?_;exact aJ ai [.bool (a0.Name==J)]
theorem abZ (a0 J r) (h:FK a0 J=some r):aW ah 313 [.slice (a0.map bP),.fn 314 [.ref (.str J)]] (.int .i64 r) []:=by
 refine bw [0,1] [.tmp 4] Tryz.func313 XD λbu ai bt=>ao ?_;refine aF ai λ_ bK ba an=>ao ?_;refine bj ba λe4 _ bV bR _=>?_;show a1 ah (.loop ?e2) _ _;have fN:∀n ch,xQ a0 J n ch=some r->cz ah ?e2 e4 (az [(0,.slice (a0.map bP)),(1,.fn 314 [.ref (.str J)]),(7,.int .i64 (a0.length:Int)),(8,.int .i64 ch)]):=by
  refine cS λ_ fp ch h=>cR bV λ_ eb cO bL=>ao ?_;refine aF cO λ_ cV _ cn=>aM h (λb5 h=>?_) λb5 h=>?_
  .refine aQ (cV _ (inl (aF cO λ_ cF bW _=>bj bW λ_ n10 cp _ _=>ao ?_)));obtain⟨ae,e9,h⟩:=aE h;obtain⟨an,dg,h⟩:=aE h;refine gD e9 (abY ae J _ dg) _ ?_;refine aM h (λej h=>?_) λej h=>?_
   .exact aJ cp [.int .i64 ch]
   .refine aQ (n10 _ (cF _ (inl (dc ?_))));exact eb _ (inr ⟨_,bJ rfl,fp (i64.wrap (ch+1)) h⟩)
  .exact cP (cn 0 _ (bL 0 _ (bR _ (bK _ (inl (aJ ai [.int .i64 (-1)]))))))
 exact c5 h λn h=>fN n 0 h
theorem ab0 (a0 J r) (h:A6 a0 J=some r):aW ah 303 [.slice (a0.map bP),.str J] (.int .i64 r) []:=by
 refine bw [0,1] [.tmp 4] Tryz.func303 XE λbu ai bt=>ao ?_;obtain⟨ae,aS,h⟩:=aE h;refine ep (cc [(4,.int .i64 ae)] (λP bl=>?_) ?_)
 ·(try simp only[aX.down,simprocAttr]);refine fg (abZ a0 J _ aS) rfl rfl (by simp only[aX.down,simprocAttr,BQ.down]<;>rfl) rfl (inr (by rfl)) ?_;simp only[aX.down,simprocAttr];exact b2 trivial
 exact dC ai [.int .i64 ae]
theorem NP (a0 r) (h:xS a0=some r):aW ah 277 [db a0] (.int .i64 r) []:=by
 refine bw [0] [.tmp 2] Tryz.func277 XF λbu ai bt=>ao ?_;refine aF ai λ_ bK ba _=>ao ?_;refine bj ba λe4 fW bV _ _=>?_;show a1 ah (.seq _ ?iB) _ _;have s3:∀cX,xR a0 cX=some r->a1 ah ?iB e4 (az [(4,.int .i64 a0.Kind),(5,.bool cX)]):=by
  intro cX h;refine aM h (λdE h=>?_) λdE h=>?_
  .exact aJ bV [.int .i64 1]
  .refine ao ?_;refine aM h (λft h=>?_) λft h=>?_
   .exact aJ bV [.int .i64 2]
   .exact aQ (fW _ (bK _ (inl (aJ ai [.int .i64 0]))))
 refine aF bV λ_ eb _ _=>ao ?_;refine aM h (λgh h=>?_) λgh h=>?_
 .simp only[gh,yA.down];exact aQ (eb _ (inr ⟨_,bJ rfl,s3 true h⟩))
 .refine ao ?_;refine aM h (λej h=>?_) λej h=>?_
  .simp only[ej,yA.down];exact aQ (eb _ (inr ⟨_,bJ rfl,s3 true h⟩))
  .refine dc ?_;exact eb _ (inr ⟨_,bJ rfl,s3 (a0.Kind==4) h⟩)
theorem ab1 (a0 J r) (h:A7 a0 J=some r):aW ah 315 [bP a0,.int .i64 J] (.int .i64 r) []:=by
 refine bw [0] [.tmp 4] Tryz.func315 XG λbu ai bt=>ao ?_;refine aF ai λ_ bK ba an=>ao ?_;refine bj ba λe4 _ bV bR _=>?_;show a1 ah (.loop ?e2) _ _;have fN:∀n iR eU,uI a0 n iR eU=some r->cz ah ?e2 e4 (az [(1,.int .i64 iR),(2,.bb (bP a0)),(5,.int .i64 eU)]):=by
  refine cS λ_ fp iR eU h=>cR bV λ_ eb cO bL=>aF cO λ_ n6 _ cy=>ao ?_;refine aM h (λb5 h=>?_) λb5 h=>?_
  .refine aQ (n6 _ (inl (aF cO λ_ cF bW _=>bj bW λ_ n10 cp _ _=>aF cp λ_ n11 gO _=>ao ?_)));refine aM h (λgh h=>?_) λgh h=>?_
   .exact aJ gO [.int .i64 (-1)]
   .refine aQ (n11 _ (inl ?_));obtain⟨ae,b_,h⟩:=aE h;obtain⟨an,cT,h⟩:=aE h;refine GP b_ (NP ae _ cT) _ ?_;refine n10 _ (cF _ (inl (dc ?_)));exact eb _ (inr ⟨_,bJ rfl,fp (i64.wrap (iR+1)) (i64.wrap (eU+(i64.wrap (an-1)))) h⟩)
  .exact cP (cy 0 _ (bL 0 _ (bR _ (bK _ (inl (aJ ai [.int .i64 iR]))))))
 exact c5 h λn h=>fN n J 1 h
theorem ab2 (ma:Int->cD->aiV->bI->Option (Int×aiV)) (ab3:∀a0 J a2 a3 r,ma a0 J a2 a3=some r->lK ah 276 2 4 [.int .i64 a0,ea J,.bb (.al 2 (a2.map ea)),.ref (bP a3),.ref (.hole)] (.int .i64 r.1) [.hole,.hole,.bb (.al 2 (r.2.map ea)),.hole,.hole]) (a0 J a2 a3 r) (h:FN ma a0 J a2 a3=some r):lK ah 276 2 4 [.int .i64 a0,ea J,.bb (.al 2 (a2.map ea)),.ref (bP a3),.ref (.hole)] (.int .i64 r.1) [.hole,.hole,.bb (.al 2 (r.2.map ea)),.hole,.hole]:=by
 refine lK.EE (fx:=[0,1,2,3,4]) ER [.tmp 7] [(0,.int .i64 a0),(1,ea J),(2,.bb (.al 2 (a2.map ea))),(3,.ref (bP a3)),(4,.ref (.hole))] Tryz.func276 rfl rfl XU (le_of_ble_eq_true rfl) XT rfl rfl λbu ai bt=>?_;refine ao ?_;obtain⟨ae,aS,h⟩:=aE h;refine ep (cc [(0,.int .i64 a0),(2,.bb (.al 2 ((List.set a2 (Int.toNat a0) J).map ea))),(3,.ref (bP a3)),(4,.ref (.hole)),(6,.bb (ea J))] (λP bl=>?_) ?_)
 .simp only[aX.down,simprocAttr,aS,b6 aS,dK,cZ];exact b2 (af aS (af (b6 aS) @dK))
 obtain⟨an,cd,h⟩:=aE h;refine eV cd [(0,.int .i64 a0),(2,.bb (.al 2 ((List.set a2 (Int.toNat a0) J).map ea))),(3,.ref (bP a3)),(4,.ref (.hole)),(6,.bb (ea J)),(8,.bb (db an))] ?_;refine eV (show∀s,gH ah s 253 [(0,.int .i64 J.scope),(1,.bool (an.Kind==1))]=some (.agg [.int .i64 J.scope,.bool (an.Kind==1)],s)from λs=>by kernel_rfl) [(0,.int .i64 a0),(2,.bb (.al 2 ((List.set a2 (Int.toNat a0) J).map ea))),(3,.ref (bP a3)),(4,.ref (.hole)),(8,.bb (db an)),(9,.bb (.agg [.int .i64 J.scope,.bool (an.Kind==1)]))] ?_;have NQ:∀kZ,A8 ma a0 J a2 a3 an kZ=some r->a1 ah M0 bu (az [(0,.int .i64 a0),(2,.bb (.al 2 ((List.set a2 (Int.toNat a0) J).map ea))),(3,.ref (bP a3)),(4,.ref (.hole)),(8,.bb (db an)),(9,.bb (.agg [.int .i64 kZ,.bool (an.Kind==1)]))]):=by
  intro kZ h;refine ws [(2,.bb (.al 2 ((List.set a2 (Int.toNat a0) J).map ea))),(3,.ref (bP a3)),(4,.ref (.hole)),(8,.bb (db an)),(9,.bb (.agg [.int .i64 kZ,.bool (an.Kind==1)])),(10,.int .i64 (i64.wrap (a0+1)))] ?_;refine aF ai λ_ cF bW _=>?_;obtain⟨aT,l0,h⟩:=aE h;refine cK (NP an _ l0) [(2,.bb (.al 2 ((List.set a2 (Int.toNat a0) J).map ea))),(3,.ref (bP a3)),(4,.ref (.hole)),(9,.bb (.agg [.int .i64 kZ,.bool (an.Kind==1)])),(10,.int .i64 (i64.wrap (a0+1))),(36,.int .i64 aT),(37,.int .i64 0)] ?_;refine bj bW λs4 _ kG eX _=>?_;have ab4:∀n qg oq pq,sU ma a3 kZ an aT n qg oq pq=some r->cz ah MZ s4 (az [(2,.bb (.al 2 (qg.map ea))),(3,.ref (bP a3)),(4,.ref (.hole)),(9,.bb (.agg [.int .i64 kZ,.bool (an.Kind==1)])),(10,.int .i64 oq),(36,.int .i64 aT),(37,.int .i64 pq)]):=by
   refine cS λ_ ab5 qg oq pq h=>cR kG λ_ n13 ey iS=>ao ?_;refine aF ey λ_ n15 _ rC=>aM h (λiW h=>?_) λiW h=>?_
   .refine aQ (n15 _ (inl (aF ey λ_ n17 j3 _=>bj j3 λ_ n18 _ _ _=>?_)));obtain⟨cx,jt,h⟩:=aE h;refine TL [(2,.bb (.al 2 (cx.2.map ea))),(3,.ref (bP a3)),(4,.ref (.hole)),(9,.bb (.agg [.int .i64 kZ,.bool (an.Kind==1)])),(10,.int .i64 cx.1),(36,.int .i64 aT),(37,.int .i64 pq)] (λP bl=>?_) ?_
    ·(try simp only[aX.down,simprocAttr,n_]);refine LN [⟨.int .i64 oq,false,_,.hole⟩,⟨.agg [.int .i64 kZ,.bool (an.Kind==1)],false,_,.hole⟩,⟨.h 2 [],true,_,_⟩,⟨.ref (bP a3),false,_,.hole⟩,⟨.ref (.hole),false,_,.hole⟩] (ab3 oq (cD.mk kZ (an.Kind==1)) qg a3 _ jt) rfl (by simp only[aX.down,simprocAttr,n_,wM,z8,z_,lg,lh,lj,dJ,or_true,true_or, @cQ _ ea ea (λ_=>MT _)]) rfl rfl (inl rfl) ?_;simp only[aX.down,simprocAttr,n_,tY];(try simp only[iA.down,simprocAttr,n_]at bl⊢);exact bl
    refine n18 _ (n17 _ (inl (dc ?_)));exact n13 _ (inr ⟨_,bJ rfl,ab5 cx.2 cx.1 (i64.wrap (pq+1)) h⟩)
   .refine cP (rC 0 _ (iS 0 _ (eX _ (cF _ (inl (ao ?_))))));exact sx (ai _ (inl (tX [.int .i64 oq] rfl (by cases mj h;rfl) (by decide) (wN (Aa (Aa (wO (by cases mj h;rfl) rfl rfl rfl (Aa (Aa (wP))))))))))
  exact c5 h λn h=>ab4 n (List.set a2 (Int.toNat a0) J) (i64.wrap (a0+1)) 0 h
 refine aF ai λ_ cV _ _=>ws [(0,.int .i64 a0),(2,.bb (.al 2 ((List.set a2 (Int.toNat a0) J).map ea))),(3,.ref (bP a3)),(4,.ref (.hole)),(8,.bb (db an)),(9,.bb (.agg [.int .i64 J.scope,.bool (an.Kind==1)])),(28,.bool (an.Kind==4))] ?_;refine aM h (λgY h=>?_) λgY h=>?_
 .refine wr [(0,.int .i64 a0),(2,.bb (.al 2 ((List.set a2 (Int.toNat a0) J).map ea))),(3,.ref (bP a3)),(4,.ref (.hole)),(8,.bb (db an)),(9,.bb (.agg [.int .i64 (i64.wrap (J.scope+1)),.bool (an.Kind==1)]))] ?_;exact cV _ (inr ⟨_,bJ rfl,NQ (i64.wrap (J.scope+1)) h⟩)
 .exact aQ (cV _ (inr ⟨_,bJ rfl,NQ J.scope h⟩))
theorem ab6:∀n a0 J a2 a3 r,sV n a0 J a2 a3=some r->lK ah 276 2 4 [.int .i64 a0,ea J,.bb (.al 2 (a2.map ea)),.ref (bP a3),.ref (.hole)] (.int .i64 r.1) [.hole,.hole,.bb (.al 2 (r.2.map ea)),.hole,.hole]:=by
 intro n;induction n with
 |zero=>intro a0 J a2 a3 r h;cases(show none=some r from h)
 |succ n ih=>intro a0 J a2 a3 r h;exact ab2 (sV n) ih a0 J a2 a3 r h
theorem ab7 (a0 J a2 a3 r) (h:A9 a0 J a2 a3=some r):lK ah 276 2 4 [.int .i64 a0,ea J,.bb (.al 2 (a2.map ea)),.ref (bP a3),.ref (.hole)] (.int .i64 r.1) [.hole,.hole,.bb (.al 2 (r.2.map ea)),.hole,.hole]:=by
 obtain⟨n,h⟩:=oL h;exact ab6 n a0 J a2 a3 r h
theorem HM (a0 r) (h:uJ a0=some r):aW ah 221 [bP a0] (.al 2 (r.map ea)) []:=by
 refine aW.Uy (fx:=[0]) ER [.tmp 2] [(0,bP a0)] Tryz.func221 rfl rfl XZ (le_of_ble_eq_true rfl) XY rfl rfl λbu ai bt=>?_;refine ao ?_;obtain⟨aii,aS,h⟩:=aE h;refine pA (af (oM aS) @List.map_replicate.{0,0}) [(1,.bb (bP a0)),(3,.bb (.al 2 ((List.replicate (Int.toNat (a0.Body.length:Int)) (cD.mk 0 false)).map ea)))] ?_;obtain⟨ae,cd,h⟩:=aE h;refine Uq [(3,.bb (.al 2 (ae.2.map ea)))] (λP bl=>?_) ?_
 ·(try simp only[aX.down,simprocAttr,(show∀s,gH ah s 253 [(0,.int .i64 a0.dr)]=some (.agg [.int .i64 a0.dr,.bool false],s)from λs=>by kernel_rfl),n_]);refine LN [⟨.int .i64 0,false,_,.hole⟩,⟨.agg [.int .i64 a0.dr,.bool false],false,_,.hole⟩,⟨.h 3 [],true,_,_⟩,⟨.h 1 [],false,_,.hole⟩,⟨.ref (.hole),false,_,.hole⟩] (ab7 0 (cD.mk a0.dr false) (List.replicate (Int.toNat (a0.Body.length:Int)) (cD.mk 0 false)) a0 _ cd) rfl (by simp only[aX.down,simprocAttr,(show∀s,gH ah s 253 [(0,.int .i64 a0.dr)]=some (.agg [.int .i64 a0.dr,.bool false],s)from λs=>by kernel_rfl),n_,wM,z8,z_,lg,lh,lj,dJ,or_true,true_or, @cQ _ ea ea (λ_=>MT _), @cQ _ db db (λ_=>BF _)]) rfl rfl ((inr (by simp only[sD,I.cu,I.gU,Bool.and_self, @jY _ ea (λ_=>Wm _)]))) ?_;simp only[aX.down,simprocAttr,(show∀s,gH ah s 253 [(0,.int .i64 a0.dr)]=some (.agg [.int .i64 a0.dr,.bool false],s)from λs=>by kernel_rfl),n_,tY];(try simp only[iA.down,simprocAttr,(show∀s,gH ah s 253 [(0,.int .i64 a0.dr)]=some (.agg [.int .i64 a0.dr,.bool false],s)from λs=>by kernel_rfl),n_]at bl⊢);exact bl
 exact aJ ai [.al 2 (ae.2.map ea)]
theorem ab8 (a0 r) (h:FO a0=some r):aW ah 318 [db a0] (.bool r) []:=by
 refine bw [0] [.tmp 2] Tryz.func318 X0 λbu ai bt=>ao ?_;refine kF (a0.Kind==4) [(1,.bb (db a0)),(3,.bool ((a0.Kind==4)||(a0.Kind==5)))] ?_;refine ep (cc [(1,.bb (db a0)),(3,.bool ((a0.Kind==4)||(a0.Kind==5))),(4,.bool (((a0.Kind==1)||(a0.Kind==3))||(a0.Kind==5)))] (λP bl=>?_) ?_)
 ·(rcases Bool.eq_false_or_eq_true (a0.Kind==1)with jU|jU)<;>(rcases Bool.eq_false_or_eq_true (a0.Kind==3)with sZ|sZ)<;>
   (simp only[aX.down,simprocAttr,jU,sZ]
    exact b2 (af jU sZ))
 obtain⟨ae,bH,h⟩:=aE h;refine ep (cc [(2,.bool (((ae&&(((a0.Kind==4)||(a0.Kind==5))||(a0.Number==0)))&&((a0.Kind==1)||(a0.Name==([]:aix))))&&((((a0.Kind==1)||(a0.Kind==3))||(a0.Kind==5))||((a0.da.length:Int)==0))))] (λP bl=>?_) ?_)
 ·(rcases Bool.eq_false_or_eq_true (ae)with rD|rD)<;>(rcases Bool.eq_false_or_eq_true (a0.Kind==4)with nz|nz)<;>(rcases Bool.eq_false_or_eq_true (a0.Kind==5)with rI|rI)<;>(rcases Bool.eq_false_or_eq_true (a0.Number==0)with B_|B_)<;>(rcases Bool.eq_false_or_eq_true (a0.Kind==1)with Ca|Ca)<;>(rcases Bool.eq_false_or_eq_true (a0.Name==([]:aix))with Cb|Cb)<;>(rcases Bool.eq_false_or_eq_true (a0.Kind==3)with Cc|Cc)<;>
   ((try simp only[aX.down,simprocAttr,rD,nz,rI,B_,Ca,Cb,Cc])
    refine fg (jO a0.Kind 0 5 _ bH) (hK:= ?_);simp only[aX.down,simprocAttr,rD,nz,rI,B_,Ca,Cb,Cc];exact b2 (af rD (af nz (af rI (af B_ (af Ca (af Cb Cc)))))))
 exact dC ai [.bool (((ae&&(((a0.Kind==4)||(a0.Kind==5))||(a0.Number==0)))&&((a0.Kind==1)||(a0.Name==([]:aix))))&&((((a0.Kind==1)||(a0.Kind==3))||(a0.Kind==5))||((a0.da.length:Int)==0)))]
theorem kq (a0 r) (h:qh a0=some r):aW ah 130 [.str a0] (.bool r) []:=by
 refine bw [0] [.tmp 2] Tryz.func130 X1 λbu ai bt=>ao ?_;obtain⟨ae,aS,h⟩:=aE h;refine ep (cc [(2,.bool (ae&&(!(a0==([116,97,117]:aix)))))] (λP bl=>?_) ?_)
 .rcases Bool.eq_false_or_eq_true (ae)with jU|jU
  ·(try simp only[aX.down,simprocAttr,jU]);refine fg (B9 a0 _ aS) (hK:= ?_);simp only[aX.down,simprocAttr,jU];exact b2 jU
  ·(try simp only[aX.down,simprocAttr,jU]);refine fg (B9 a0 _ aS) (hK:= ?_);simp only[aX.down,simprocAttr,jU];exact b2 jU
 exact dC ai [.bool (ae&&(!(a0==([116,97,117]:aix))))]
theorem rJ (a0 J r) (h:ru a0 J=some r):aW ah 220 [.int .i64 a0,.int .i64 J] (.bool r) []:=by
 refine bw [0,1] [.tmp 4] Tryz.func220 X2 λbu ai bt=>ao ?_;obtain⟨ae,aS,h⟩:=aE h;refine cK (jO a0 0 (i64.wrap (J-1)) _ aS) _ ?_;exact dC ai [.bool ae]
theorem ab9 (a0 J r) (h:FP a0 J=some r):aW ah 319 [db a0,.slice (J.map bP)] (.bool r) []:=by
 refine bw [0,1] [.tmp 4] Tryz.func319 X4 λbu ai bt=>ao ?_;refine ao ?_;refine aF ai λ_ eW cG _=>ao ?_;refine bj cG λ_ eb cO _ _=>ao ?_;refine aM h (λp2 h=>?_) λp2 h=>?_
 .refine ep (cc [(4,.bool (((a0.da.length:Int)==0)||((!(a0.Name==([116,97,117]:aix)))&&(decide ((a0.da.length:Int)<=2)))))] (λP bl=>?_) ?_)
  ·(rcases Bool.eq_false_or_eq_true ((a0.da.length:Int)==0)with nz|nz)<;>(rcases Bool.eq_false_or_eq_true (a0.Name==([116,97,117]:aix))with rI|rI)<;>
    (simp only[aX.down,simprocAttr,nz,rI]
     exact b2 (af nz rI))
  exact dC cO [.bool (((a0.da.length:Int)==0)||((!(a0.Name==([116,97,117]:aix)))&&(decide ((a0.da.length:Int)<=2))))]
 .refine ao ?_;refine aM h (λeX h=>?_) λeX h=>?_
  .exact aJ cO [.bool ((a0.da.length:Int)==1)]
  .refine ao ?_;refine aM h (λej h=>?_) λej h=>?_
   .obtain⟨ae,cT,h⟩:=aE h;refine eV cT _ ?_;exact dC cO [.bool ((a0.da.length:Int)==ae.dr)]
   .exact aQ (eb _ (eW _ (inl (aJ ai [.bool true]))))
theorem NR (a0 r) (h:xT a0=some r):aW ah 235 [.int .i64 a0] (.bool r) []:=by
 refine bw [0] [.tmp 2] Tryz.func235 X5 λbu ai bt=>ao ?_;obtain⟨ae,aS,h⟩:=aE h;refine cK (jO a0 0 63 _ aS) _ ?_;exact dC ai [.bool ae]
theorem ab_ (a0 J r) (h:A_ a0 J=some r):aW ah 237 [fV a0,.int .i64 J] (.bool r) []:=by
 refine bw [0,1] [.tmp 4] Tryz.func237 X6 λbu ai bt=>ao ?_;refine aF ai λ_ bK ba an=>ao ?_;refine bj ba λ_ fW bV _ _=>ao ?_;refine aM h (λdE h=>?_) λdE h=>?_
 .obtain⟨ae,gS,h⟩:=aE h;refine cK (NR a0.Value _ gS) _ ?_;exact dC bV [.bool ae]
 .refine ao ?_;refine aM h (λfu h=>?_) λfu h=>?_
  .obtain⟨an,hc,h⟩:=aE h;refine cK (jO a0.Value 0 (i64.wrap (J-1)) _ hc) _ ?_;exact dC bV [.bool an]
  .refine ao ?_;refine aM h (λiD h=>?_) λiD h=>?_
   .obtain⟨aT,b_,h⟩:=aE h;refine cK (jO a0.Value 0 8 _ b_) _ ?_;exact dC bV [.bool aT]
   .refine ao ?_;refine aM h (λh5 h=>?_) λh5 h=>?_
    .exact aJ bV [.bool (a0.Value==0)]
    .exact aQ (fW _ (bK _ (inl (aJ ai [.bool false]))))
theorem aca (a0 r) (h:FQ a0=some r):aW ah 238 [fV a0] (.int .i64 r) []:=by
 refine bw [0] [.tmp 2] Tryz.func238 X7 λbu ai bt=>ao ?_;refine aF ai λ_ bK ba _=>ao ?_;refine bj ba λ_ fW bV _ _=>ao ?_;refine aM h (λdE h=>?_) λdE h=>?_
 .exact aJ bV [.int .i64 2]
 .refine ao ?_;refine aM h (λft h=>?_) λft h=>?_
  .exact aJ bV [.int .i64 1]
  .exact aQ (fW _ (bK _ (inl (aJ ai [.int .i64 0]))))
theorem acb (a0 J a2 r) (h:Ba a0 J a2=some r):aW ah 182 [.slice (a0.map fV),.int .i64 J,.int .i64 a2] (.bool r) []:=by
 refine bw [0,1,2] [.tmp 6] Tryz.func182 X8 λbu ai bt=>ao ?_;refine aF ai λ_ bK ba an=>?_;obtain⟨ae,b0,h⟩:=aE h;rcases ed h with⟨cm,h⟩|⟨cm,h⟩
 .refine gD (fL cm) (jO J 0 29 _ b0) _ ?_;refine h3 rfl ?_;exact aJ ba [.bool false]
 .obtain⟨an,bH,h⟩:=aE h;rcases ed h with⟨b5,h⟩|⟨b5,h⟩
  .refine ep (cc [(0,.slice (a0.map fV)),(1,.int .i64 J),(24,.bool true)] (λP bl=>?_) ?_)
   ·(try simp only[aX.down,simprocAttr,(bz cm),(fL b5)]);refine fg (jO J 0 29 _ b0) (hK:= ?_);simp only[aX.down,simprocAttr,(bz cm),(fL b5)];refine gM (jO a2 1 60 _ bH) (hK:= ?_);simp only[aX.down,simprocAttr,(bz cm),(fL b5)];exact b2 (af (bz cm) (fL b5))
   refine h3 rfl ?_;exact aJ ba [.bool false]
  .obtain⟨aT,kQ,h⟩:=aE h;refine ep (cc [(0,.slice (a0.map fV)),(1,.int .i64 J),(24,.bool (!aT))] (λP bl=>?_) ?_)
   ·(try simp only[aX.down,simprocAttr,(bz cm),(bz b5)]);refine fg (jO J 0 29 _ b0) (hK:= ?_);simp only[aX.down,simprocAttr,(bz cm),(bz b5)];refine gM (jO a2 1 60 _ bH) (hK:= ?_);simp only[aX.down,simprocAttr,(bz cm),(bz b5)];refine gM (jO (a0.length:Int) 1 a2 _ kQ) (hK:= ?_);simp only[aX.down,simprocAttr,(bz cm),(bz b5)];exact b2 (af (bz cm) (bz b5))
   refine aM h (λlS h=>?_) λlS h=>?_
   .exact aJ ba [.bool false]
   .refine aQ (bK _ (inl (ao ?_)));refine aF ai λ_ n14 dw _=>ao ?_;refine bj dw λacd _ lT iW _=>?_;show a1 ah (.loop ?iB) _ _;have jK:∀n hN pr,uK a0 J n hN pr=some r->cz ah ?iB acd (az [(1,.int .i64 J),(7,.int .i64 hN),(25,.slice (a0.map fV)),(26,.int .i64 (a0.length:Int)),(27,.int .i64 pr)]):=by
     refine cS λ_ jL hN pr h=>cR lT λ_ n17 j3 sT=>ao ?_;refine aF j3 λ_ n19 _ sS=>aM h (λfc h=>?_) λfc h=>?_
     .refine aQ (n19 _ (inl (aF j3 λ_ n21 oA _=>bj oA λ_ n22 lq _ _=>?_)));obtain⟨cx,jN,h⟩:=aE h;refine eV jN _ ?_;refine aF lq λ_ n25 lu _=>?_;rcases ed h with⟨kp,h⟩|⟨kp,h⟩
      .refine eV kp _ ?_;refine h3 rfl ?_;exact aJ lu [.bool false]
      .obtain⟨bL,yQ,h⟩:=aE h;refine gD kp (ab_ cx J _ yQ) _ ?_;refine aM h (λlU h=>?_) λlU h=>?_
       .exact aJ lu [.bool false]
       .refine aQ (n25 _ (inl ?_));obtain⟨cy,Hg,h⟩:=aE h;refine Zr (aca cx _ Hg) _ ?_;refine n22 _ (n21 _ (inl (dc ?_)));exact n17 _ (inr ⟨_,bJ rfl,jL (i64.wrap (hN+(i64.wrap (cy-1)))) (i64.wrap (pr+1)) h⟩)
     .exact cP (sS 0 _ (sT 0 _ (iW _ (n14 _ (inl (aJ ai [.bool (hN==0)]))))))
    exact c5 h λn h=>jK n 1 0 h
theorem ace (a0 J r) (h:FT a0 J=some r):aW ah 320 [.slice (a0.map fV),.ref (ea J)] (.bool r) []:=by
 refine bw [0,1] [.tmp 3] Tryz.func320 X9 λbu ai bt=>ao ?_;obtain⟨ae,aS,h⟩:=aE h;refine cK (acb a0 J.scope 15 _ aS) _ ?_;exact dC ai [.bool (!ae)]
theorem acf (a0 J r) (h:FV a0 J=some r):aW ah 236 [.slice (a0.map jc),.fn 320 [.ref (ea J)]] (.int .i64 r) []:=by
 refine bw [0,1] [.tmp 4] Tryz.func236 X_ λbu ai bt=>ao ?_;refine aF ai λ_ bK ba an=>ao ?_;refine bj ba λe4 _ bV bR _=>?_;show a1 ah (.loop ?e2) _ _;have fN:∀n ch,xU a0 J n ch=some r->cz ah ?e2 e4 (az [(0,.slice (a0.map jc)),(1,.fn 320 [.ref (ea J)]),(7,.int .i64 (a0.length:Int)),(8,.int .i64 ch)]):=by
  refine cS λ_ fp ch h=>cR bV λ_ eb cO bL=>ao ?_;refine aF cO λ_ cV _ cn=>aM h (λb5 h=>?_) λb5 h=>?_
  .refine aQ (cV _ (inl (aF cO λ_ cF bW _=>bj bW λ_ n10 cp _ _=>ao ?_)));obtain⟨ae,e9,h⟩:=aE h;obtain⟨an,dg,h⟩:=aE h;refine gD e9 (ace ae J _ dg) _ ?_;refine aM h (λej h=>?_) λej h=>?_
   .exact aJ cp [.int .i64 ch]
   .refine aQ (n10 _ (cF _ (inl (dc ?_))));exact eb _ (inr ⟨_,bJ rfl,fp (i64.wrap (ch+1)) h⟩)
  .exact cP (cn 0 _ (bL 0 _ (bR _ (bK _ (inl (aJ ai [.int .i64 (-1)]))))))
 exact c5 h λn h=>fN n 0 h
theorem acg (a0 J r) (h:Bb a0 J=some r):aW ah 179 [.slice (a0.map jc),.fn 320 [.ref (ea J)]] (.bool r) []:=by
 refine bw [0,1] [.tmp 4] Tryz.func179 Ya λbu ai bt=>ao ?_;obtain⟨ae,aS,h⟩:=aE h;refine cK (acf a0 J _ aS) _ ?_;exact dC ai [.bool (decide (0<=ae))]
theorem ach (a0 J a2 r) (h:xY a0 J a2=some r):aW ah 316 [db a0,.slice (J.map bP),ea a2] (.int .i64 r) []:=by
 refine bw [0,1,2] [.tmp 6] Tryz.func316 Ye λbu ai bt=>ao ?_;refine aF ai λ_ bK ba an=>bj ba λNS eW cG _ aT=>?_;obtain⟨ae,cd,h⟩:=aE h;refine cK (ab8 a0 _ cd) _ ?_;refine aM h (λdE h=>?_) λdE h=>?_
 .exact aJ cG [.int .i64 2]
 .skip;have u4:∀xX,xW a0 J a2 xX=some r->a1 ah M5 NS (az [(1,.slice (J.map bP)),(3,.bb (db a0)),(5,.bb (ea a2)),(11,.bool xX)]):=by
   intro xX h;refine aM h (λb5 h=>?_) λb5 h=>?_
   .exact aJ cG [.int .i64 3]
   .skip;have yR:∀xV,sW a0 J a2 xV=some r->a1 ah M4 NS (az [(1,.slice (J.map bP)),(3,.bb (db a0)),(5,.bb (ea a2)),(26,.bool xV)]):=by
     intro xV h;refine aM h (λfu h=>?_) λfu h=>?_
     .exact aJ cG [.int .i64 4]
     .obtain⟨an,e9,h⟩:=aE h;refine cK (ab9 a0 J _ e9) _ ?_;refine aM h (λiD h=>?_) λiD h=>?_
      .exact aJ cG [.int .i64 5]
      .refine kF (a0.Kind==5) [(3,.bb (db a0)),(5,.bb (ea a2)),(54,.bool ((a0.Kind==5)&&(!a2.behind)))] ?_;refine aM h (λj2 h=>?_) λj2 h=>?_
       .exact aJ cG [.int .i64 6]
       .refine kF (a0.Kind==4) [(3,.bb (db a0)),(5,.bb (ea a2)),(63,.bool ((a0.Kind==4)&&(decide (6<=a2.scope))))] ?_;refine aM h (λfc h=>?_) λfc h=>?_
        .exact aJ cG [.int .i64 7]
        .obtain⟨aT,mL,h⟩:=aE h;refine ep (cc [(72,.bool aT)] (λP bl=>?_) ?_)
         ·(try simp only[aX.down,simprocAttr]);refine fg (acg a0.da a2 _ mL) rfl rfl (by simp only[aX.down,simprocAttr,BQ.down]<;>rfl) rfl (inr (by rfl)) ?_;simp only[aX.down,simprocAttr];exact b2 trivial
         refine aM h (λgY h=>?_) λgY h=>?_
         .exact aJ cG [.int .i64 8]
         .exact aQ (eW _ (bK _ (inl (aJ ai [.int .i64 0]))))
    rcases ed h with⟨h6,h⟩|⟨h6,h⟩
    .obtain⟨cx,yQ,h⟩:=aE h;rcases ed h with⟨lU,h⟩|⟨lU,h⟩
     .refine iM (cc (K:=dm _) [(1,.slice (J.map bP)),(3,.bb (db a0)),(5,.bb (ea a2)),(26,.bool true)] (λP bl=>?_) ?_)
      ·(try simp only[aX.down,simprocAttr,h6,(fL lU)]);refine gM (jO a0.Number 1 7 _ yQ) (hK:= ?_);simp only[aX.down,simprocAttr,h6,(fL lU)];exact b2 (af h6 (fL lU))
      exact inr ⟨_,bJ rfl,yR true h⟩
     .rcases ed h with⟨hq,h⟩|⟨hq,h⟩
      .obtain⟨bL,oz,h⟩:=aE h;refine iM (cc (K:=dm _) [(1,.slice (J.map bP)),(3,.bb (db a0)),(5,.bb (ea a2)),(26,.bool (!bL))] (λP bl=>?_) ?_)
       ·(try simp only[aX.down,simprocAttr,h6,(bz lU),hq]);refine gM (jO a0.Number 1 7 _ yQ) (hK:= ?_);simp only[aX.down,simprocAttr,h6,(bz lU),hq];refine gM (rJ a0.Number (J.length:Int) _ oz) (hK:= ?_);simp only[aX.down,simprocAttr,h6,(bz lU),hq];exact b2 (af h6 (af (bz lU) hq))
       exact inr ⟨_,bJ rfl,yR (!bL) h⟩
      .refine iM (cc (K:=dm _) [(1,.slice (J.map bP)),(3,.bb (db a0)),(5,.bb (ea a2)),(26,.bool false)] (λP bl=>?_) ?_)
       ·(try simp only[aX.down,simprocAttr,h6,(bz lU),hq]);refine gM (jO a0.Number 1 7 _ yQ) (hK:= ?_);simp only[aX.down,simprocAttr,h6,(bz lU),hq];exact b2 (af h6 (af (bz lU) hq))
       exact inr ⟨_,bJ rfl,yR false h⟩
    .rcases ed h with⟨iE,h⟩|⟨iE,h⟩
     .obtain⟨cy,pB,h⟩:=aE h;refine iM (cc (K:=dm _) [(1,.slice (J.map bP)),(3,.bb (db a0)),(5,.bb (ea a2)),(26,.bool (!cy))] (λP bl=>?_) ?_)
      ·(try simp only[aX.down,simprocAttr,h6,iE]);refine gM (rJ a0.Number (J.length:Int) _ pB) (hK:= ?_);simp only[aX.down,simprocAttr,h6,iE];exact b2 (af h6 iE)
      exact inr ⟨_,bJ rfl,yR (!cy) h⟩
     .refine iM (cc (K:=dm _) [(1,.slice (J.map bP)),(3,.bb (db a0)),(5,.bb (ea a2)),(26,.bool false)] (λP bl=>?_) ?_)
      .simp only[aX.down,simprocAttr,h6,iE];exact b2 (af h6 iE)
      exact inr ⟨_,bJ rfl,yR false h⟩
  rcases ed h with⟨mg,h⟩|⟨mg,h⟩
  .rcases ed h with⟨rG,h⟩|⟨rG,h⟩
   .obtain⟨cn,yS,h⟩:=aE h;refine iM (cc (K:=dm _) [(1,.slice (J.map bP)),(3,.bb (db a0)),(5,.bb (ea a2)),(11,.bool (!cn))] (λP bl=>?_) ?_)
    ·(try simp only[aX.down,simprocAttr,mg,rG]);refine gM (kq a0.Name _ yS) (hK:= ?_);simp only[aX.down,simprocAttr,mg,rG];exact b2 (af mg rG)
    exact inr ⟨_,bJ rfl,u4 (!cn) h⟩
   .refine iM (cc (K:=dm _) [(1,.slice (J.map bP)),(3,.bb (db a0)),(5,.bb (ea a2)),(11,.bool false)] (λP bl=>?_) ?_)
    .simp only[aX.down,simprocAttr,mg,rG];exact b2 (af mg rG)
    exact inr ⟨_,bJ rfl,u4 false h⟩
  .refine iM (cc (K:=dm _) [(1,.slice (J.map bP)),(3,.bb (db a0)),(5,.bb (ea a2)),(11,.bool false)] (λP bl=>?_) ?_)
   .simp only[aX.down,simprocAttr,mg];exact b2 mg
   exact inr ⟨_,bJ rfl,u4 false h⟩
theorem aci (a0 J r) (h:xZ a0 J=some r):aW ah 304 [.slice (a0.map bP),bP J] (.tuple [.int .i64 r.1,.int .i64 r.2]) []:=by
 refine bw [0,1] [.tmp 4,.tmp 5] Tryz.func304 Yf λbu ai bt=>ao ?_;refine aF ai λ_ bK ba an=>?_;obtain⟨ae,b0,h⟩:=aE h;rcases ed h with⟨cm,h⟩|⟨cm,h⟩
 .refine js (fL cm) (jO (J.Body.length:Int) 1 20 _ b0) _ ?_;refine h3 rfl ?_;exact aJ ba [.int .i64 0,.int .i64 1]
 .obtain⟨an,bH,h⟩:=aE h;refine kj rfl (jW [(0,.slice (a0.map bP)),(3,.bb (bP J)),(22,.bool (an !=(J.Body.length:Int)))] (λP bl=>?_) ?_)
  ·(try simp only[dV.down,simprocAttr,(bz cm)]);refine jX (jO (J.Body.length:Int) 1 20 _ b0) (hK:= ?_);simp only[dV.down,simprocAttr,(bz cm)];refine kk (ab1 J 0 _ bH) (hK:= ?_);simp only[dV.down,simprocAttr,(bz cm)];refine⟨jZ (by kernel_rfl),?_⟩;exact b2 (bz cm)
  refine aM h (λb5 h=>?_) λb5 h=>?_
  .exact aJ ba [.int .i64 0,.int .i64 1]
  .refine aQ (bK _ (inl ?_));obtain⟨aT,l0,h⟩:=aE h;refine cK (HM J _ l0) _ ?_;refine aF ai λ_ n12 kG _=>ao ?_;refine bj kG λG1 _ dw iD _=>?_;show a1 ah (.loop ?iB) _ _;have jK:∀n mD,sX a0 J aT n mD=some r->cz ah ?iB G1 (az [(0,.slice (a0.map bP)),(6,.al 2 (aT.map ea)),(26,.slice (J.Body.map db)),(27,.int .i64 (J.Body.length:Int)),(28,.int .i64 mD)]):=by
    refine cS λ_ jL mD h=>cR dw λ_ n15 hy rC=>ao ?_;refine aF hy λ_ n17 _ sT=>aM h (λh5 h=>?_) λh5 h=>?_
    .refine aQ (n17 _ (inl (aF hy λ_ n19 yF _=>bj yF λ_ n20 s0 _ _=>?_)));obtain⟨cx,iV,h⟩:=aE h;refine eV iV _ ?_;obtain⟨bL,jN,h⟩:=aE h;obtain⟨cy,jf,h⟩:=aE h;refine js (af jN (b6 jN)) (ach cx a0 bL _ jf) _ ?_;refine ao ?_;refine aM h (λkp h=>?_) λkp h=>?_
     .exact aJ s0 [.int .i64 mD,.int .i64 cy]
     .refine aQ (n20 _ (n19 _ (inl (dc ?_))));exact n15 _ (inr ⟨_,bJ rfl,jL (i64.wrap (mD+1)) h⟩)
    .exact cP (sT 0 _ (rC 0 _ (iD _ (n12 _ (inl (aJ ai [.int .i64 0,.int .i64 0]))))))
   exact c5 h λn h=>jK n 0 h
theorem acj (a0 r) (h:Bd a0=some r):aW ah 271 [.slice (a0.map bP)] (.bool r) []:=by
 refine bw [0] [.tmp 2] Tryz.func271 Yg λbu ai bt=>ao ?_;refine aF ai λ_ bK ba an=>?_;obtain⟨ae,b0,h⟩:=aE h;rcases ed h with⟨cm,h⟩|⟨cm,h⟩
 .refine gD (fL cm) (jO (a0.length:Int) 1 4 _ b0) _ ?_;refine h3 rfl ?_;exact aJ ba [.bool false]
 .obtain⟨an,bH,h⟩:=aE h;refine ep (cc [(0,.slice (a0.map bP)),(15,.bool (!an))] (λP bl=>?_) ?_)
  ·(try simp only[aX.down,simprocAttr,(bz cm)]);refine fg (jO (a0.length:Int) 1 4 _ b0) (hK:= ?_);simp only[aX.down,simprocAttr,(bz cm)];refine gM (abW a0 _ bH) (hK:= ?_);simp only[aX.down,simprocAttr,(bz cm)];exact b2 (bz cm)
  refine aM h (λb5 h=>?_) λb5 h=>?_
  .exact aJ ba [.bool false]
  .refine aQ (bK _ (inl (aF ai λ_ n10 cp _=>ao ?_)));refine bj cp λs4 _ kG eX _=>?_;show a1 ah (.loop ?gi) _ _;have gj:∀n nw,uL a0 n nw=some r->cz ah ?gi s4 (az [(0,.slice (a0.map bP)),(16,.slice (a0.map bP)),(17,.int .i64 (a0.length:Int)),(18,.int .i64 nw)]):=by
    refine cS λ_ fX nw h=>cR kG λ_ n13 ey iS=>ao ?_;refine aF ey λ_ n15 _ rC=>aM h (λiW h=>?_) λiW h=>?_
    .refine aQ (n15 _ (inl (aF ey λ_ n17 j3 _=>bj j3 λ_ n18 vd _ _=>?_)));obtain⟨aT,jt,h⟩:=aE h;refine eV jt _ ?_;refine aF vd λ_ n21 oA _=>?_;obtain⟨cx,mL,h⟩:=aE h;rcases ed h with⟨gY,h⟩|⟨gY,h⟩
     .refine js (fL gY) (B9 aT.Name _ mL) _ ?_;refine h3 rfl ?_;exact aJ oA [.bool false]
     .obtain⟨bL,u9,h⟩:=aE h;obtain⟨cy,GW,h⟩:=aE h;refine kj rfl (jW [(0,.slice (a0.map bP)),(4,.bb (bP aT)),(16,.slice (a0.map bP)),(17,.int .i64 (a0.length:Int)),(18,.int .i64 nw),(35,.bool (decide (0<=cy)))] (λP bl=>?_) ?_)
      ·(try simp only[dV.down,simprocAttr,(bz gY),u9, @lJ _ bP 3 (λ_=>rfl)]);refine jX (B9 aT.Name _ mL) (hK:= ?_);simp only[dV.down,simprocAttr,(bz gY),u9, @lJ _ bP 3 (λ_=>rfl)];refine kk (ab0 bL aT.Name _ GW) (hK:= ?_);simp only[dV.down,simprocAttr,(bz gY),u9, @lJ _ bP 3 (λ_=>rfl)];refine⟨jZ (by kernel_rfl),?_⟩;exact b2 (af (bz gY) (af u9 (@lJ _ bP 3 λ_=>rfl)))
      refine aM h (λh6 h=>?_) λh6 h=>?_
      .exact aJ oA [.bool false]
      .refine aQ (n21 _ (inl ?_));obtain⟨cn,HN,h⟩:=aE h;refine cK (aci a0 aT _ HN) _ ?_;refine ao ?_;refine aM h (λiE h=>?_) λiE h=>?_
       .exact aJ vd [.bool false]
       .refine aQ (n18 _ (n17 _ (inl (dc ?_))));exact n13 _ (inr ⟨_,bJ rfl,fX (i64.wrap (nw+1)) h⟩)
    .exact cP (rC 0 _ (iS 0 _ (eX _ (n10 _ (inl (aJ ai [.bool true]))))))
   exact c5 h λn h=>gj n 0 h
theorem ack (a0 r) (h:FX a0=some r):aW ah 234 [.int .i64 a0] (.bool r) []:=by
 refine bw [0] [.tmp 2] Tryz.func234 Yh λbu ai bt=>ao ?_;obtain⟨ae,aS,h⟩:=aE h;refine cK (NR a0 _ aS) _ ?_;exact dC ai [.bool (!ae)]
theorem acm (a0 r) (h:FZ a0=some r):aW ah 183 [.slice (a0.map bf),.fn 234 []] (.int .i64 r) []:=by
 refine bw [0,1] [.tmp 4] Tryz.func183 Yi λbu ai bt=>ao ?_;refine aF ai λ_ bK ba an=>ao ?_;refine bj ba λe4 _ bV bR _=>?_;show a1 ah (.loop ?e2) _ _;have fN:∀n ch,x0 a0 n ch=some r->cz ah ?e2 e4 (az [(0,.slice (a0.map bf)),(1,.fn 234 []),(7,.int .i64 (a0.length:Int)),(8,.int .i64 ch)]):=by
  refine cS λ_ fp ch h=>cR bV λ_ eb cO bL=>ao ?_;refine aF cO λ_ cV _ cn=>aM h (λb5 h=>?_) λb5 h=>?_
  .refine aQ (cV _ (inl (aF cO λ_ cF bW _=>bj bW λ_ n10 cp _ _=>ao ?_)));obtain⟨ae,e9,h⟩:=aE h;obtain⟨an,dg,h⟩:=aE h;refine gD e9 (ack ae _ dg) _ ?_;refine aM h (λej h=>?_) λej h=>?_
   .exact aJ cp [.int .i64 ch]
   .refine aQ (n10 _ (cF _ (inl (dc ?_))));exact eb _ (inr ⟨_,bJ rfl,fp (i64.wrap (ch+1)) h⟩)
  .exact cP (cn 0 _ (bL 0 _ (bR _ (bK _ (inl (aJ ai [.int .i64 (-1)]))))))
 exact c5 h λn h=>fN n 0 h
theorem acn (a0 r) (h:F1 a0=some r):aW ah 233 [.slice (a0.map bf),.fn 234 []] (.bool r) []:=by
 refine bw [0,1] [.tmp 4] Tryz.func233 Yj λbu ai bt=>ao ?_;obtain⟨ae,aS,h⟩:=aE h;refine cK (acm a0 _ aS) _ ?_;exact dC ai [.bool (decide (0<=ae))]
theorem NT (a0 r) (h:x1 a0=some r):aW ah 176 [.slice (a0.map bf)] (.bool r) []:=by
 refine bw [0] [.tmp 2] Tryz.func176 Yk λbu ai bt=>ao ?_;obtain⟨ae,aS,h⟩:=aE h;refine cK (acn a0 _ aS) _ ?_;exact dC ai [.bool (!ae)]
theorem aco (a0 J r) (h:Be a0 J=some r):aW ah 274 [.slice (a0.map bP),hx J] (.bool r) []:=by
 refine bw [0,1] [.tmp 4] Tryz.func274 Yl λbu ai bt=>ao ?_;obtain⟨ae,aS,h⟩:=aE h;rcases ed h with⟨bR,h⟩|⟨bR,h⟩
 .obtain⟨an,cd,h⟩:=aE h;rcases ed h with⟨dE,h⟩|⟨dE,h⟩
  .obtain⟨aT,bH,h⟩:=aE h;refine kj rfl (jW [(4,.bool aT)] (λP bl=>?_) ?_)
   ·(try simp only[dV.down,simprocAttr,bR,cd,dE]);refine jX (rJ J.b7 (a0.length:Int) _ aS) (hK:= ?_);simp only[dV.down,simprocAttr,bR,cd,dE];refine kk (NT J.b4 _ bH) (hK:= ?_);simp only[dV.down,simprocAttr,bR,cd,dE];refine⟨jZ (by kernel_rfl),?_⟩;exact b2 (af bR (af cd dE))
   exact dC ai [.bool aT]
  .refine js (af bR (af cd dE)) (rJ J.b7 (a0.length:Int) _ aS) _ ?_;exact dC ai [.bool false]
 .refine js bR (rJ J.b7 (a0.length:Int) _ aS) _ ?_;exact dC ai [.bool false]
theorem acp (a0 J r) (h:F2 a0 J=some r):aW ah 273 [hx a0,.ref (hS J)] (.bool r) []:=by
 refine bw [0,1] [.tmp 3] Tryz.func273 Ym λbu ai bt=>ao ?_;obtain⟨ae,aS,h⟩:=aE h;refine cK (aco J.dQ a0 _ aS) _ ?_;exact dC ai [.bool (!ae)]
theorem acq (a0 J r) (h:F4 a0 J=some r):aW ah 305 [.slice (a0.map hx),.fn 273 [.ref (hS J)]] (.int .i64 r) []:=by
 refine bw [0,1] [.tmp 4] Tryz.func305 Yn λbu ai bt=>ao ?_;refine aF ai λ_ bK ba an=>ao ?_;refine bj ba λe4 _ bV bR _=>?_;show a1 ah (.loop ?e2) _ _;have fN:∀n ch,x2 a0 J n ch=some r->cz ah ?e2 e4 (az [(0,.slice (a0.map hx)),(1,.fn 273 [.ref (hS J)]),(7,.int .i64 (a0.length:Int)),(8,.int .i64 ch)]):=by
  refine cS λ_ fp ch h=>cR bV λ_ eb cO bL=>ao ?_;refine aF cO λ_ cV _ cn=>aM h (λb5 h=>?_) λb5 h=>?_
  .refine aQ (cV _ (inl (aF cO λ_ cF bW _=>bj bW λ_ n10 cp _ _=>ao ?_)));obtain⟨ae,e9,h⟩:=aE h;obtain⟨an,dg,h⟩:=aE h;refine gD e9 (acp ae J _ dg) _ ?_;refine aM h (λej h=>?_) λej h=>?_
   .exact aJ cp [.int .i64 ch]
   .refine aQ (n10 _ (cF _ (inl (dc ?_))));exact eb _ (inr ⟨_,bJ rfl,fp (i64.wrap (ch+1)) h⟩)
  .exact cP (cn 0 _ (bL 0 _ (bR _ (bK _ (inl (aJ ai [.int .i64 (-1)]))))))
 exact c5 h λn h=>fN n 0 h
theorem acr (a0 J r) (h:Bf a0 J=some r):aW ah 272 [.slice (a0.map hx),.fn 273 [.ref (hS J)]] (.bool r) []:=by
 refine bw [0,1] [.tmp 4] Tryz.func272 Yo λbu ai bt=>ao ?_;obtain⟨ae,aS,h⟩:=aE h;refine cK (acq a0 J _ aS) _ ?_;exact dC ai [.bool (decide (0<=ae))]
theorem NU (a0 r) (h:cmp_isNaN_string a0=some r):aW ah 291 [.str a0] (.bool r) []:=by
 refine bw [0] [.tmp 2] Tryz.func291 Yp λbu ai bt=>ao ?_;exact aJ ai [.bool false]
theorem acs (a0 J r) (h:Bg a0 J=some r):aW ah 248 [.str a0,.str J] (.int .i64 r) []:=by
 refine bw [0,1] [.tmp 4] Tryz.func248 Yq λbu ai bt=>ao ?_;obtain⟨ae,aS,h⟩:=aE h;refine cK (NU a0 _ aS) _ ?_;obtain⟨an,cd,h⟩:=aE h;refine cK (NU J _ cd) _ ?_;refine aF ai λ_ n6 cC _=>ao ?_;refine aM h (λb5 h=>?_) λb5 h=>?_
 .refine aF cC λ_ cF bW _=>ao ?_;refine aM h (λlS h=>?_) λlS h=>?_
  .exact aJ bW [.int .i64 0]
  .exact aQ (cF _ (inl (aJ cC [.int .i64 (-1)])))
 .refine aQ (n6 _ (inl (aF ai λ_ n14 dw _=>ao ?_)));refine aM h (λiW h=>?_) λiW h=>?_
  .exact aJ dw [.int .i64 1]
  .refine aQ (n14 _ (inl (aF ai λ_ n18 vd _=>ao ?_)));refine aM h (λfc h=>?_) λfc h=>?_
   .exact aJ vd [.int .i64 (-1)]
   .refine aQ (n18 _ (inl (aF ai λ_ n22 lq _=>ao ?_)));refine aM h (λgY h=>?_) λgY h=>?_
    .exact aJ lq [.int .i64 1]
    .exact aQ (n22 _ (inl (aJ ai [.int .i64 0])))
theorem acu (a0 J r) (h:Bi a0 J=some r):aW ah 194 [.slice (a0.map cJ),.slice (J.map cJ)] (.int .i64 r) []:=by
 refine bw [0,1] [.tmp 4] Tryz.func194 Yr λbu ai bt=>ao ?_;refine aF ai λ_ bK ba an=>ao ?_;refine bj ba λe4 _ bV bR _=>?_;show a1 ah (.loop ?e2) _ _;have fN:∀n iz,Bh a0 J n iz=some r->cz ah ?e2 e4 (az [(0,.slice (a0.map cJ)),(1,.slice (J.map cJ)),(9,.slice (a0.map cJ)),(10,.int .i64 (a0.length:Int)),(11,.int .i64 iz)]):=by
  refine cS λ_ fp iz h=>cR bV λ_ eb cO bL=>ao ?_;refine aF cO λ_ cV _ cn=>aM h (λb5 h=>?_) λb5 h=>?_
  .refine aQ (cV _ (inl (aF cO λ_ cF bW _=>bj bW λ_ n10 cp _ _=>?_)));obtain⟨ae,hc,h⟩:=aE h;refine eV hc _ ?_;refine aF cp λ_ n13 ey _=>ao ?_;refine aM h (λej h=>?_) λej h=>?_
   .exact aJ ey [.int .i64 1]
   .refine aQ (n13 _ (inl ?_));obtain⟨an,eO,h⟩:=aE h;refine eV eO _ ?_;obtain⟨aT,jt,h⟩:=aE h;refine cK (acs ae an _ jt) _ ?_;refine ao ?_;refine aM h (λqq h=>?_) λqq h=>?_
    .exact aJ cp [.int .i64 aT]
    .refine aQ (n10 _ (cF _ (inl (dc ?_))));exact eb _ (inr ⟨_,bJ rfl,fp (i64.wrap (iz+1)) h⟩)
  .refine cP (cn 0 _ (bL 0 _ (bR _ (bK _ (inl (aF ai λ_ n25 lu _=>ao ?_))))));refine aM h (λkp h=>?_) λkp h=>?_
   .exact aJ lu [.int .i64 (-1)]
   .exact aQ (n25 _ (inl (aJ ai [.int .i64 0])))
 exact c5 h λn h=>fN n 0 h
theorem acv (a0 J r) (h:Bj a0 J=some r):aW ah 131 [cE a0,cE J] (.int .i64 r) []:=by
 refine bw [0,1] [.tmp 4] Tryz.func131 Ys λbu ai bt=>ao ?_;obtain⟨ae,aS,h⟩:=aE h;refine ep (cc [(4,.int .i64 ae)] (λP bl=>?_) ?_)
 ·(try simp only[aX.down,simprocAttr,(show∀s,eI ah s 49 2 [(0,.str a0.Left),(1,.str a0.b8)]=some (.al 1 [.str a0.Left,.str a0.b8],s)from λs=>by kernel_rfl),(show∀s,eI ah s 49 2 [(0,.str J.Left),(1,.str J.b8)]=some (.al 1 [.str J.Left,.str J.b8],s)from λs=>by kernel_rfl)]);refine fg (acu [a0.Left,a0.b8] [J.Left,J.b8] _ aS) rfl rfl (by simp only[aX.down,simprocAttr,(show∀s,eI ah s 49 2 [(0,.str a0.Left),(1,.str a0.b8)]=some (.al 1 [.str a0.Left,.str a0.b8],s)from λs=>by kernel_rfl),(show∀s,eI ah s 49 2 [(0,.str J.Left),(1,.str J.b8)]=some (.al 1 [.str J.Left,.str J.b8],s)from λs=>by kernel_rfl),lg,lh,lj,dJ,I.shares, @cQ _ cJ cJ (λ_=>lR _), @cQ _ cJ cJ (λ_=>lR _)]<;>rfl) rfl (inr (by rfl)) ?_;simp only[aX.down,simprocAttr,(show∀s,eI ah s 49 2 [(0,.str a0.Left),(1,.str a0.b8)]=some (.al 1 [.str a0.Left,.str a0.b8],s)from λs=>by kernel_rfl),(show∀s,eI ah s 49 2 [(0,.str J.Left),(1,.str J.b8)]=some (.al 1 [.str J.Left,.str J.b8],s)from λs=>by kernel_rfl)];exact b2 (af (show∀s,eI ah s 49 2 [(0,.str a0.Left),(1,.str a0.b8)]=some (.al 1 [.str a0.Left,.str a0.b8],s)from λs=>by kernel_rfl) (show∀s,eI ah s 49 2 [(0,.str J.Left),(1,.str J.b8)]=some (.al 1 [.str J.Left,.str J.b8],s)from λs=>by kernel_rfl))
 exact dC ai [.int .i64 ae]
theorem acw (a0 J r) (h:F5 a0 J=some r):aW ah 133 [cE a0,.ref (cE J)] (.bool r) []:=by
 refine bw [0,1] [.tmp 3] Tryz.func133 Yt λbu ai bt=>ao ?_;refine kF (a0.Left==J.Result) [(3,.bool ((a0.Left==J.Result)||(a0.b8==J.Result)))] ?_;exact dC ai [.bool ((a0.Left==J.Result)||(a0.b8==J.Result))]
theorem acx (a0 J r) (h:F7 a0 J=some r):aW ah 195 [.slice (a0.map cE),.fn 133 [.ref (cE J)]] (.int .i64 r) []:=by
 refine bw [0,1] [.tmp 4] Tryz.func195 Yu λbu ai bt=>ao ?_;refine aF ai λ_ bK ba an=>ao ?_;refine bj ba λe4 _ bV bR _=>?_;show a1 ah (.loop ?e2) _ _;have fN:∀n ch,x3 a0 J n ch=some r->cz ah ?e2 e4 (az [(0,.slice (a0.map cE)),(1,.fn 133 [.ref (cE J)]),(7,.int .i64 (a0.length:Int)),(8,.int .i64 ch)]):=by
  refine cS λ_ fp ch h=>cR bV λ_ eb cO bL=>ao ?_;refine aF cO λ_ cV _ cn=>aM h (λb5 h=>?_) λb5 h=>?_
  .refine aQ (cV _ (inl (aF cO λ_ cF bW _=>bj bW λ_ n10 cp _ _=>ao ?_)));obtain⟨ae,e9,h⟩:=aE h;obtain⟨an,dg,h⟩:=aE h;refine gD e9 (acw ae J _ dg) _ ?_;refine aM h (λej h=>?_) λej h=>?_
   .exact aJ cp [.int .i64 ch]
   .refine aQ (n10 _ (cF _ (inl (dc ?_))));exact eb _ (inr ⟨_,bJ rfl,fp (i64.wrap (ch+1)) h⟩)
  .exact cP (cn 0 _ (bL 0 _ (bR _ (bK _ (inl (aJ ai [.int .i64 (-1)]))))))
 exact c5 h λn h=>fN n 0 h
theorem NV (a0 J r) (h:x4 a0 J=some r):aW ah 132 [.slice (a0.map cE),.fn 133 [.ref (cE J)]] (.bool r) []:=by
 refine bw [0,1] [.tmp 4] Tryz.func132 Yv λbu ai bt=>ao ?_;obtain⟨ae,aS,h⟩:=aE h;refine cK (acx a0 J _ aS) _ ?_;exact dC ai [.bool (decide (0<=ae))]
theorem acy (a0 r) (h:Bk a0=some r):aW ah 63 [.slice (a0.map cE)] (.bool r) []:=by
 refine bw [0] [.tmp 2] Tryz.func63 Yw λbu ai bt=>ao ?_;refine aF ai λ_ bK ba _=>ao ?_;refine bj ba λe4 _ bV bR _=>?_;show a1 ah (.loop ?e2) _ _;have fN:∀n eD,uM a0 n eD=some r->cz ah ?e2 e4 (az [(0,.slice (a0.map cE)),(5,.slice (a0.map cE)),(6,.int .i64 (a0.length:Int)),(7,.int .i64 eD)]):=by
  refine cS λ_ fp eD h=>cR bV λ_ eb cO bL=>ao ?_;refine aF cO λ_ cV _ cn=>aM h (λb5 h=>?_) λb5 h=>?_
  .refine aQ (cV _ (inl (aF cO λ_ cF bW dN=>bj bW λ_ n10 cp _ c4=>?_)));obtain⟨ae,hc,h⟩:=aE h;refine eV hc _ ?_;refine aF cp λ_ n13 ey _=>?_;obtain⟨bL,iV,h⟩:=aE h;rcases ed h with⟨fi,h⟩|⟨fi,h⟩
   .refine js (fL fi) (kq ae.Left _ iV) _ ?_;refine h3 rfl ?_;exact aJ ey [.bool false]
   .obtain⟨cy,jf,h⟩:=aE h;rcases ed h with⟨hz,h⟩|⟨hz,h⟩
    .refine kj rfl (jW [(0,.slice (a0.map cE)),(4,.bb (cE ae)),(5,.slice (a0.map cE)),(6,.int .i64 (a0.length:Int)),(7,.int .i64 eD),(48,.bool true)] (λP bl=>?_) ?_)
     ·(try simp only[dV.down,simprocAttr,(bz fi),(fL hz)]);refine jX (kq ae.Left _ iV) (hK:= ?_);simp only[dV.down,simprocAttr,(bz fi),(fL hz)];refine kk (kq ae.b8 _ jf) (hK:= ?_);simp only[dV.down,simprocAttr,(bz fi),(fL hz)];refine⟨jZ (by kernel_rfl),?_⟩;exact b2 (af (bz fi) (fL hz))
     refine h3 rfl ?_;exact aJ ey [.bool false]
    .obtain⟨cn,Cd,h⟩:=aE h;rcases ed h with⟨ie,h⟩|⟨ie,h⟩
     .refine kj rfl (jW [(0,.slice (a0.map cE)),(4,.bb (cE ae)),(5,.slice (a0.map cE)),(6,.int .i64 (a0.length:Int)),(7,.int .i64 eD),(48,.bool true)] (λP bl=>?_) ?_)
      ·(try simp only[dV.down,simprocAttr,(bz fi),(bz hz),(fL ie)]);refine jX (kq ae.Left _ iV) (hK:= ?_);simp only[dV.down,simprocAttr,(bz fi),(bz hz),(fL ie)];refine kk (kq ae.b8 _ jf) (hK:= ?_);simp only[dV.down,simprocAttr,(bz fi),(bz hz),(fL ie)];refine kk (kq ae.Result _ Cd) (hK:= ?_);simp only[dV.down,simprocAttr,(bz fi),(bz hz),(fL ie)];refine⟨jZ (by kernel_rfl),?_⟩;exact b2 (af (bz fi) (af (bz hz) (fL ie)))
      refine h3 rfl ?_;exact aJ ey [.bool false]
     .rcases ed h with⟨hq,h⟩|⟨hq,h⟩
      .refine kj rfl (jW [(0,.slice (a0.map cE)),(4,.bb (cE ae)),(5,.slice (a0.map cE)),(6,.int .i64 (a0.length:Int)),(7,.int .i64 eD),(48,.bool true)] (λP bl=>?_) ?_)
       ·(try simp only[dV.down,simprocAttr,(bz fi),(bz hz),(bz ie),hq]);refine jX (kq ae.Left _ iV) (hK:= ?_);simp only[dV.down,simprocAttr,(bz fi),(bz hz),(bz ie),hq];refine kk (kq ae.b8 _ jf) (hK:= ?_);simp only[dV.down,simprocAttr,(bz fi),(bz hz),(bz ie),hq];refine kk (kq ae.Result _ Cd) (hK:= ?_);simp only[dV.down,simprocAttr,(bz fi),(bz hz),(bz ie),hq];refine⟨jZ (by kernel_rfl),?_⟩;exact b2 (af (bz fi) (af (bz hz) (af (bz ie) hq)))
       refine h3 rfl ?_;exact aJ ey [.bool false]
      .rcases ed h with⟨iE,h⟩|⟨iE,h⟩
       .obtain⟨fM,pB,h⟩:=aE h;obtain⟨dN,HO,h⟩:=aE h;refine kj rfl (jW [(0,.slice (a0.map cE)),(4,.bb (cE ae)),(5,.slice (a0.map cE)),(6,.int .i64 (a0.length:Int)),(7,.int .i64 eD),(48,.bool (decide (0<=dN)))] (λP bl=>?_) ?_)
        ·(try simp only[dV.down,simprocAttr,(bz fi),(bz hz),(bz ie),hq,iE,pB]);refine jX (kq ae.Left _ iV) (hK:= ?_);simp only[dV.down,simprocAttr,(bz fi),(bz hz),(bz ie),hq,iE,pB];refine kk (kq ae.b8 _ jf) (hK:= ?_);simp only[dV.down,simprocAttr,(bz fi),(bz hz),(bz ie),hq,iE,pB];refine kk (kq ae.Result _ Cd) (hK:= ?_);simp only[dV.down,simprocAttr,(bz fi),(bz hz),(bz ie),hq,iE,pB];refine kk (acv fM ae _ HO) (hK:= ?_);simp only[dV.down,simprocAttr,(bz fi),(bz hz),(bz ie),hq,iE,pB];refine⟨jZ (by kernel_rfl),?_⟩;exact b2 (af (bz fi) (af (bz hz) (af (bz ie) (af hq (af iE pB)))))
        refine aM h (λmg h=>?_) λmg h=>?_
        .exact aJ ey [.bool false]
        .refine aQ (n13 _ (inl ?_));obtain⟨c4,ve,h⟩:=aE h;refine ep (cc [(0,.slice (a0.map cE)),(5,.slice (a0.map cE)),(6,.int .i64 (a0.length:Int)),(7,.int .i64 eD),(51,.bool c4)] (λP bl=>?_) ?_)
         ·(try simp only[aX.down,simprocAttr]);refine fg (NV a0 ae _ ve) rfl rfl (by simp only[aX.down,simprocAttr,BQ.down]<;>rfl) rfl (inr (by rfl)) ?_;simp only[aX.down,simprocAttr];exact b2 trivial
         refine aM h (λHF h=>?_) λHF h=>?_
         .exact aJ cp [.bool false]
         .refine aQ (n10 _ (cF _ (inl (dc ?_))));exact eb _ (inr ⟨_,bJ rfl,fp (i64.wrap (eD+1)) h⟩)
       .refine kj rfl (jW [(0,.slice (a0.map cE)),(4,.bb (cE ae)),(5,.slice (a0.map cE)),(6,.int .i64 (a0.length:Int)),(7,.int .i64 eD),(48,.bool false)] (λP bl=>?_) ?_)
        ·(try simp only[dV.down,simprocAttr,(bz fi),(bz hz),(bz ie),hq,iE]);refine jX (kq ae.Left _ iV) (hK:= ?_);simp only[dV.down,simprocAttr,(bz fi),(bz hz),(bz ie),hq,iE];refine kk (kq ae.b8 _ jf) (hK:= ?_);simp only[dV.down,simprocAttr,(bz fi),(bz hz),(bz ie),hq,iE];refine kk (kq ae.Result _ Cd) (hK:= ?_);simp only[dV.down,simprocAttr,(bz fi),(bz hz),(bz ie),hq,iE];refine⟨jZ (by kernel_rfl),?_⟩;exact b2 (af (bz fi) (af (bz hz) (af (bz ie) (af hq iE))))
        refine o8 rfl ?_;refine aQ (n13 _ (inl ?_));obtain⟨gf,acz,h⟩:=aE h;refine ep (cc [(0,.slice (a0.map cE)),(5,.slice (a0.map cE)),(6,.int .i64 (a0.length:Int)),(7,.int .i64 eD),(51,.bool gf)] (λP bl=>?_) ?_)
        ·(try simp only[aX.down,simprocAttr]);refine fg (NV a0 ae _ acz) rfl rfl (by simp only[aX.down,simprocAttr,BQ.down]<;>rfl) rfl (inr (by rfl)) ?_;simp only[aX.down,simprocAttr];exact b2 trivial
        refine aM h (λHj h=>?_) λHj h=>?_
        .exact aJ cp [.bool false]
        .refine aQ (n10 _ (cF _ (inl (dc ?_))));exact eb _ (inr ⟨_,bJ rfl,fp (i64.wrap (eD+1)) h⟩)
  .exact cP (cn 0 _ (bL 0 _ (bR _ (bK _ (inl (aJ ai [.bool (decide ((a0.length:Int)<=6))]))))))
 exact c5 h λn h=>fN n 0 h
theorem NW (a0 r) (h:x5 a0=some r):aW ah 275 [.slice (a0.map cJ)] (.bool r) []:=by
 refine bw [0] [.tmp 2] Tryz.func275 Yx λbu ai bt=>ao ?_;refine aF ai λ_ bK ba an=>ao ?_;refine bj ba λe4 _ bV bR _=>?_;show a1 ah (.loop ?e2) _ _;have fN:∀n eD,uN a0 n eD=some r->cz ah ?e2 e4 (az [(0,.slice (a0.map cJ)),(5,.slice (a0.map cJ)),(6,.int .i64 (a0.length:Int)),(7,.int .i64 eD)]):=by
  refine cS λ_ fp eD h=>cR bV λ_ eb cO bL=>ao ?_;refine aF cO λ_ cV _ cn=>aM h (λb5 h=>?_) λb5 h=>?_
  .refine aQ (cV _ (inl (aF cO λ_ cF bW _=>bj bW λ_ n10 cp _ _=>?_)));obtain⟨ae,hc,h⟩:=aE h;refine eV hc _ ?_;obtain⟨an,dg,h⟩:=aE h;rcases ed h with⟨ej,h⟩|⟨ej,h⟩
   .refine gD (fL ej) (kq ae _ dg) _ ?_;refine h3 rfl ?_;exact aJ cp [.bool false]
   .rcases ed h with⟨j2,h⟩|⟨j2,h⟩
    .obtain⟨aT,eO,h⟩:=aE h;refine gD (af (bz ej) (af j2 eO)) (kq ae _ dg) _ ?_;refine aM h (λfh h=>?_) λfh h=>?_
     .exact aJ cp [.bool false]
     .refine aQ (n10 _ (cF _ (inl (dc ?_))));exact eb _ (inr ⟨_,bJ rfl,fp (i64.wrap (eD+1)) h⟩)
    .refine gD (af (bz ej) j2) (kq ae _ dg) _ ?_;refine o8 rfl ?_;refine aQ (n10 _ (cF _ (inl (dc ?_))));exact eb _ (inr ⟨_,bJ rfl,fp (i64.wrap (eD+1)) h⟩)
  .exact cP (cn 0 _ (bL 0 _ (bR _ (bK _ (inl (aJ ai [.bool (decide ((a0.length:Int)<=12))]))))))
 exact c5 h λn h=>fN n 0 h
theorem acA (a0 r) (h:Bl a0=some r):aW ah 218 [hS a0] (.int .i64 r) []:=by
 refine bw [0] [.tmp 2] Tryz.func218 Yy λbu ai bt=>ao ?_;refine aF ai λ_ bK ba an=>bj ba λ_ eW cG _ aT=>?_;obtain⟨ae,cd,h⟩:=aE h;refine cK (acj a0.dQ _ cd) _ ?_;refine aM h (λdE h=>?_) λdE h=>?_
 .exact aJ cG [.int .i64 1]
 .obtain⟨an,jx,h⟩:=aE h;rcases ed h with⟨fu,h⟩|⟨fu,h⟩
  .refine gD (fL fu) (jO (a0.cv.length:Int) 1 3 _ jx) _ ?_;refine h3 rfl ?_;exact aJ cG [.int .i64 2]
  .obtain⟨aT,hc,h⟩:=aE h;refine ep (cc [(1,.bb (hS a0)),(8,.bool aT)] (λP bl=>?_) ?_)
   ·(try simp only[aX.down,simprocAttr,(bz fu)]);refine fg (jO (a0.cv.length:Int) 1 3 _ jx) (hK:= ?_);simp only[aX.down,simprocAttr,(bz fu)];refine gM (acr a0.cv a0 _ hc) rfl rfl (by simp only[aX.down,simprocAttr,(bz fu),yD.down]<;>rfl) rfl (inr (by rfl)) ?_;simp only[aX.down,simprocAttr,(bz fu)];exact b2 (bz fu)
   refine aM h (λgh h=>?_) λgh h=>?_
   .exact aJ cG [.int .i64 2]
   .obtain⟨cx,b_,h⟩:=aE h;refine cK (acy a0.hk _ b_) _ ?_;refine aM h (λj2 h=>?_) λj2 h=>?_
    .exact aJ cG [.int .i64 3]
    .obtain⟨bL,jt,h⟩:=aE h;refine cK (NW a0.gV _ jt) _ ?_;refine aM h (λHy h=>?_) λHy h=>?_
     .exact aJ cG [.int .i64 4]
     .obtain⟨cy,jN,h⟩:=aE h;refine cK (NW a0.gW _ jN) _ ?_;refine aM h (λox h=>?_) λox h=>?_
      .exact aJ cG [.int .i64 5]
      .exact aQ (eW _ (bK _ (inl (aJ ai [.int .i64 0]))))
theorem HP (a0 r) (h:Bm a0=some r):aW ah 153 [hS a0] (.bool r) []:=by
 refine bw [0] [.tmp 2] Tryz.func153 Yz λbu ai bt=>ao ?_;obtain⟨ae,aS,h⟩:=aE h;refine cK (acA a0 _ aS) _ ?_;exact dC ai [.bool (ae==0)]
theorem acB (a0 J r) (h:x6 a0 J=some r):aW ah 156 [.slice (a0.map bP),bN J] (.bool r) []:=by
 refine bw [0,1] [.tmp 4] Tryz.func156 YA λbu ai bt=>ao ?_;refine aF ai λ_ bK ba an=>?_;obtain⟨ae,b0,h⟩:=aE h;rcases ed h with⟨cm,h⟩|⟨cm,h⟩
 .refine js (fL cm) (rJ J.b7 (a0.length:Int) _ b0) _ ?_;refine h3 rfl ?_;exact aJ ba [.bool false]
 .obtain⟨an,bH,h⟩:=aE h;obtain⟨aT,gS,h⟩:=aE h;refine kj rfl (jW [(0,.slice (a0.map bP)),(3,.bb (bN J)),(24,.bool (!aT))] (λP bl=>?_) ?_)
  ·(try simp only[dV.down,simprocAttr,(bz cm),bH]);refine jX (rJ J.b7 (a0.length:Int) _ b0) (hK:= ?_);simp only[dV.down,simprocAttr,(bz cm),bH];refine kk (rJ J.Part (an.Body.length:Int) _ gS) (hK:= ?_);simp only[dV.down,simprocAttr,(bz cm),bH];refine⟨jZ (by kernel_rfl),?_⟩;exact b2 (af (bz cm) bH)
  refine aM h (λft h=>?_) λft h=>?_
  .exact aJ ba [.bool false]
  .refine aQ (bK _ (inl (eV bH _ ?_)));obtain⟨cx,e9,h⟩:=aE h;rcases ed h with⟨iD,h⟩|⟨iD,h⟩
   .obtain⟨bL,gX,h⟩:=aE h;obtain⟨cy,b_,h⟩:=aE h;rcases ed h with⟨j2,h⟩|⟨j2,h⟩
    .obtain⟨cn,eO,h⟩:=aE h;refine kj rfl (jW [(4,.bool cn)] (λP bl=>?_) ?_)
     ·(try simp only[dV.down,simprocAttr,e9,iD,b_,b6 b_,j2]);refine kk (HM an _ gX) (hK:= ?_);simp only[dV.down,simprocAttr,e9,iD,b_,b6 b_,j2];refine kk (NT J.b4 _ eO) (hK:= ?_);simp only[dV.down,simprocAttr,e9,iD,b_,b6 b_,j2];refine⟨jZ (by kernel_rfl),?_⟩;exact b2 (af e9 (af iD (af b_ (af (b6 b_) j2))))
     exact dC ai [.bool cn]
    .refine js (af e9 (af iD (af b_ (af (b6 b_) j2)))) (HM an _ gX) _ ?_;exact dC ai [.bool false]
   .refine kE (af e9 iD) _ ?_;exact dC ai [.bool false]
theorem acC (a0 J r) (h:F_ a0 J=some r):aW ah 155 [bN a0,.ref (hS J)] (.bool r) []:=by
 refine bw [0,1] [.tmp 3] Tryz.func155 YB λbu ai bt=>ao ?_;obtain⟨ae,aS,h⟩:=aE h;refine cK (acB J.dQ a0 _ aS) _ ?_;exact dC ai [.bool (!ae)]
theorem acD (a0 J r) (h:Gb a0 J=some r):aW ah 219 [.slice (a0.map bN),.fn 155 [.ref (hS J)]] (.int .i64 r) []:=by
 refine bw [0,1] [.tmp 4] Tryz.func219 YC λbu ai bt=>ao ?_;refine aF ai λ_ bK ba an=>ao ?_;refine bj ba λe4 _ bV bR _=>?_;show a1 ah (.loop ?e2) _ _;have fN:∀n ch,x7 a0 J n ch=some r->cz ah ?e2 e4 (az [(0,.slice (a0.map bN)),(1,.fn 155 [.ref (hS J)]),(7,.int .i64 (a0.length:Int)),(8,.int .i64 ch)]):=by
  refine cS λ_ fp ch h=>cR bV λ_ eb cO bL=>ao ?_;refine aF cO λ_ cV _ cn=>aM h (λb5 h=>?_) λb5 h=>?_
  .refine aQ (cV _ (inl (aF cO λ_ cF bW _=>bj bW λ_ n10 cp _ _=>ao ?_)));obtain⟨ae,e9,h⟩:=aE h;obtain⟨an,dg,h⟩:=aE h;refine gD e9 (acC ae J _ dg) _ ?_;refine aM h (λej h=>?_) λej h=>?_
   .exact aJ cp [.int .i64 ch]
   .refine aQ (n10 _ (cF _ (inl (dc ?_))));exact eb _ (inr ⟨_,bJ rfl,fp (i64.wrap (ch+1)) h⟩)
  .exact cP (cn 0 _ (bL 0 _ (bR _ (bK _ (inl (aJ ai [.int .i64 (-1)]))))))
 exact c5 h λn h=>fN n 0 h
theorem acE (a0 J r) (h:Bn a0 J=some r):aW ah 154 [.slice (a0.map bN),.fn 155 [.ref (hS J)]] (.bool r) []:=by
 refine bw [0,1] [.tmp 4] Tryz.func154 YD λbu ai bt=>ao ?_;obtain⟨ae,aS,h⟩:=aE h;refine cK (acD a0 J _ aS) _ ?_;exact dC ai [.bool (decide (0<=ae))]
theorem acF (a0 J r) (h:Gc a0 J=some r):aW ah 80 [hS a0,.slice (J.map bN)] (.bool r) []:=by
 refine bw [0,1] [.tmp 4] Tryz.func80 YE λbu ai bt=>ao ?_;obtain⟨an,b0,h⟩:=aE h;rcases ed h with⟨cm,h⟩|⟨cm,h⟩
 .rcases ed h with⟨dE,h⟩|⟨dE,h⟩
  .obtain⟨aT,bH,h⟩:=aE h;refine ep (cc [(4,.bool (!aT))] (λP bl=>?_) ?_)
   ·(try simp only[aX.down,simprocAttr,cm,dE]);refine fg (HP a0 _ b0) (hK:= ?_);simp only[aX.down,simprocAttr,cm,dE];refine gM (acE J a0 _ bH) rfl rfl (by simp only[aX.down,simprocAttr,cm,dE,yD.down]<;>rfl) rfl (inr (by rfl)) ?_;simp only[aX.down,simprocAttr,cm,dE];exact b2 (af cm dE)
   exact dC ai [.bool (!aT)]
  .refine gD (af cm dE) (HP a0 _ b0) _ ?_;exact dC ai [.bool false]
 .refine gD cm (HP a0 _ b0) _ ?_;exact dC ai [.bool false]
theorem acG (a0 J r) (h:Ge a0 J=some r):aW ah 120 [.slice (a0.map bf),.int .i64 J] (.int .i64 r) []:=by
 refine bw [0,1] [.tmp 4] Tryz.func120 YF λbu ai bt=>ao ?_;refine aF ai λ_ bK ba _=>ao ?_;refine bj ba λe4 _ bV bR _=>?_;show a1 ah (.loop ?e2) _ _;have fN:∀n ch,x8 a0 J n ch=some r->cz ah ?e2 e4 (az [(0,.slice (a0.map bf)),(1,.int .i64 J),(7,.int .i64 (a0.length:Int)),(8,.int .i64 ch)]):=by
  refine cS λ_ fp ch h=>cR bV λ_ eb cO bL=>ao ?_;refine aF cO λ_ cV _ cn=>aM h (λb5 h=>?_) λb5 h=>?_
  .refine aQ (cV _ (inl (aF cO λ_ cF bW _=>bj bW λ_ n10 cp _ _=>ao ?_)));obtain⟨ae,e9,h⟩:=aE h;refine eV e9 _ ?_;refine aM h (λiD h=>?_) λiD h=>?_
   .exact aJ cp [.int .i64 ch]
   .refine aQ (n10 _ (cF _ (inl (dc ?_))));exact eb _ (inr ⟨_,bJ rfl,fp (i64.wrap (ch+1)) h⟩)
  .exact cP (cn 0 _ (bL 0 _ (bR _ (bK _ (inl (aJ ai [.int .i64 (-1)]))))))
 exact c5 h λn h=>fN n 0 h
theorem acH (a0 J r) (h:Bo a0 J=some r):aW ah 112 [.slice (a0.map bf),.int .i64 J] (.bool r) []:=by
 refine bw [0,1] [.tmp 4] Tryz.func112 YG λbu ai bt=>ao ?_;obtain⟨ae,aS,h⟩:=aE h;refine cK (acG a0 J _ aS) _ ?_;exact dC ai [.bool (decide (0<=ae))]
theorem NX (a0 r) (h:x9 a0=some r):aW ah 106 [.slice (a0.map bf)] (.al 1 (r.map bf)) []:=by
 refine bw [0] [.tmp 2] Tryz.func106 YH λbu ai bt=>ao ?_;refine aF ai λ_ bK ba _=>?_;rcases ed h with⟨bR,h⟩|⟨bR,h⟩
 .refine ep (cc [(0,.slice (a0.map bf)),(4,.e7)] (λP bl=>?_) ?_)
  .simp only[aX.down,simprocAttr,Ab,(Lu bR),Ac];exact b2 (af @Ab (af (Lu bR) @Ac))
  obtain⟨bA,h⟩:=Pk h;refine S0 rfl ?_ ?_
  .replace h:=bA;refine ao ?_;exact sx (ba _ (inr ⟨[(2,.al 1 [])],kl [] rfl (kn (t:=2) (d:=.a_) rfl rfl (.lf _) (by decide) (km)),Me [.al 1 []]⟩))
  .refine aQ (bK _ (inl ?_));obtain⟨u8,gS,h⟩:=aE h;(try simp only[qn.down,Nat.zero_add,Nat.add_zero,reduceAdd]at gS);refine eV (af (show∀s,eI ah s 22 0 []=some (.al 1 [],s)from λs=>by kernel_rfl) (af (@n8 ah 22 22 2 rfl rfl) (af @o_ (af @pa (af @pb (af @o9 (af @all_nil (af gS (@lJ _ bf 1 λ_=>rfl))))))))) _ ?_;exact dC ai [.al 1 (a0.map bf)]
 .refine ep (cc [(0,.slice (a0.map bf)),(4,.bool false)] (λP bl=>?_) ?_)
  .simp only[aX.down,simprocAttr,Ab,(Lv bR),Ac];exact b2 (af @Ab (af (Lv bR) @Ac))
  refine o8 rfl ?_;refine aQ (bK _ (inl ?_));obtain⟨aij,kQ,h⟩:=aE h;(try simp only[qn.down,Nat.zero_add,Nat.add_zero,reduceAdd]at kQ);refine eV (af (show∀s,eI ah s 22 0 []=some (.al 1 [],s)from λs=>by kernel_rfl) (af (@n8 ah 22 22 2 rfl rfl) (af @o_ (af @pa (af @pb (af @o9 (af @all_nil (af kQ (@lJ _ bf 1 λ_=>rfl))))))))) _ ?_;exact dC ai [.al 1 (a0.map bf)]
end Go.Proofs.YtklcmlnabkfneaaGreat
