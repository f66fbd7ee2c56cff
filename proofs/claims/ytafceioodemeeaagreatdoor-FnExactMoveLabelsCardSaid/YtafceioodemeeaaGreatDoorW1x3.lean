/- Part of a proof that a law is true. No condition. -/
import Derived.Test.YtafceioodemeeaaGreatDoorFwH
namespace Go.Proofs.YtafceioodemeeaaGreatDoor
open Option Go.IntKind Nat Or
open Go Go.en Go.pO
set_option maxRecDepth 100000
set_option maxHeartbeats 3800000
set_option linter.unusedSimpArgs false
set_option linter.unusedVariables false
theorem bB (fx:aAf) (e8:List ResultVar) {f:FuncId} {fn:Func} {ins outs:aAk} {r:I} (bI:ai.P.funcs[f]? =some fn) (eb:aA)
 (Oc:∀Q:Exit->an->Prop,(∀s,eM (en.Ends ai fx e8 r outs) s->Q .ret s)->(∀s,eM (en.Ends ai fx e8 r outs) s->Q .normal s)->bn ai eb Q (ar (num 0 ins))) (ae:fQ ⟨fn.ntmps,fx⟩ (fn.body.getD .skip)=some eb.strip:=by kernel_rfl) (ab:fn.body=some (fn.body.getD .skip):=by rfl) (mF:(fn.name== "runtime.NumGoroutine")=false:=by rfl) (aV:ins.length<=fn.ntmps:=by exact le_of_ble_eq_true rfl) (hb:fn.results.toList=e8:=by rfl) (aw:eb.plain=true:=by kernel_rfl):aW ai f ins r outs:=
 aW.O_ Pd e8 (num 0 ins) bI ab mF ae aV hb rfl Oc aw
theorem cX {P:Nat->Prop} (s:∀m,P m->P (m+1)) (z:P 0:=by intros;rename_i h;cases(show none=some _ from h)):∀n,P n:=λn=>Nat.rec z s n
def R4:=PLift.up (U @ajk (U @ajl (U @ajm (U @ajn (U @ajo (U @ajp (U @ajq (U @ajr (U @ajs (U @ajt (U @aju (U @ajv (U @ajw (U @ajx (U @ajy (U @ajz (U @ajA (U @ajB (U @ajC (U @ajD (U @ajE (U @ajF (U @ajG (U @ajH (U @ajI (U @ajJ (U @ajK (U @ajL (U @ajM (U @ajN (U @ajO (U @ajP (U @ajQ (U @ajR (U @ajS (U @ajT (U @ajU (U @ajV (U @ajW (U @ajX (U @ajY (U @ajZ (U @aj0 (U @aj1 (U @aj2 (U @aj3 (U @aj4 (U @aj5 (U @aj6 (U @aj7 (U @aj8 (U @jg.eq_1 (U @a8.eq_1 (U @db.eq_1 (U @bk.eq_1 (U @bH.eq_1 (U @f_.eq_1 (U @eu.eq_1 (U @bF.eq_1 (U @df.eq_1 (U @ft.eq_1 (U @dY.eq_1 (U @akW (U @fu.eq_1 (U @j8.eq_1 (U @j6.eq_1 (U @jK.eq_1 (U @kK.eq_1 (U @jL.eq_1 (U @od.eq_1 (U @nh.eq_1 (U @qu.eq_1 (U @rj.eq_1 (U @gm.eq_1 (U @jb.eq_1 (U @lJ.eq_1 (U @aE.eq_1 (U @akV (U @hz.eq_1 (U @hh.eq_1 (U @fy.eq_1 (U @jk.eq_1 (U @ey.eq_1 (U @hE.eq_1 (U @tv.eq_1 (U @akY (U @l7.eq_1 (U @Hv.eq_1 @lK.eq_1))))))))))))))))))))))))))))))))))))))))))))))))))))))))))))))))))))))))))))))))))))))))
def aH:=PLift.up (U aiW.down R4.down)
def dh:=PLift.up (U aiX.down R4.down)
def jA:=PLift.up (U aiY.down R4.down)
theorem bR {F A:Prop} (f:F) (h:F->A:=by intro bC;(try simp only[jA.down,simprocAttr,bC,da,ei,dQ,fi,I.e6,I.shares]at bd⊢);exact bd):A:=h f
theorem wr {Q l ros k} (cr:aAj) (hk:Q .normal (ar cr)) (h:∀P:aAj->Prop,P cr->dD ai (ar l) ros none (λ_ s=>P (gK k s)):=by
 intro P bd;simp only[aH.down,simprocAttr,da,ei,dQ,fi];(try simp only[jA.down,simprocAttr,da,ei,dQ,fi]at bd⊢);exact bd):bn ai (.eh ros (some k)) Q (ar l):=
 hx (b5 cr (h) hk)
theorem dA {Q l ros k} {cr:aAj} (hk:Q .normal (ar cr)) (h:∀P:aAj->Prop,P cr->dD ai (ar l) ros none (λ_ s=>P (gK k s)):=by
 intro P bd;simp only[aH.down,simprocAttr,da,ei,dQ,fi];(try simp only[jA.down,simprocAttr,da,ei,dQ,fi]at bd⊢);exact bd):bn ai (.eh ros (some k)) Q (ar l):=
 hx (b5 cr (h) hk)
theorem Z_ {Q l ros k g ds r} (ok:aW ai g ds r []) (cr:aAj) (hk:Q .normal (ar cr)) (h:aW ai g ds r []->∀P:aAj->Prop,P cr->dD ai (ar l) ros none (λ_ s=>P (gK k s)):=by
 intro ni P bd;(try simp only[aH.down,simprocAttr,da,ei,dQ,fi]);(first|refine dz ni rfl rfl rfl rfl (inl (by rfl)) ?_|refine iO ni rfl rfl rfl rfl (inl (by rfl)) ?_);simp only[aH.down,simprocAttr,da,ei,dQ,fi];(try simp only[jA.down,simprocAttr,da,ei,dQ,fi]at bd⊢);exact bd):bn ai (.eh ros (some k)) Q (ar l):=
 hx (b5 cr (h ok) hk)
theorem AK {Q l ros k g ds r} {F:Prop} (bC:F) (ok:aW ai g ds r []) (cr:aAj) (hk:Q .normal (ar cr)) (h:aW ai g ds r []->F->∀P:aAj->Prop,P cr->dD ai (ar l) ros none (λ_ s=>P (gK k s)):=by
 intro ni bC P bd;(try simp only[aH.down,simprocAttr,bC,da,ei,dQ,fi]);(first|refine dz ni rfl rfl rfl rfl (inl (by rfl)) ?_|refine iO ni rfl rfl rfl rfl (inl (by rfl)) ?_);simp only[aH.down,simprocAttr,bC,da,ei,dQ,fi];(try simp only[jA.down,simprocAttr,bC,da,ei,dQ,fi]at bd⊢);exact bd):bn ai (.eh ros (some k)) Q (ar l):=
 hx (b5 cr (h ok bC) hk)
theorem aaa {Q l ros k de g ds r} {F:Prop} (bC:F) (ok:aW ai g ds r []) (cr:aAj) (hk:Q .normal (ar cr)) (h:aW ai g ds r []->F->∀P:aAj->Prop,P cr->dD ai (ar l) ros (some []) (λacc s=>kG (nG de) 0 [] (acc.getD []).reverse=true/\P (gK k s)):=by
 intro ni bC P bd;(try simp only[dh.down,simprocAttr,bC,da,ei,dQ,fi]);(first|refine hZ ni rfl rfl rfl rfl (inl (by rfl)) ?_|refine lX ni rfl rfl rfl rfl (inl (by rfl)) ?_);simp only[dh.down,simprocAttr,bC,da,ei,dQ,fi];refine⟨hS (by kernel_rfl),?_⟩;(try simp only[jA.down,simprocAttr,bC,da,ei,dQ,fi]at bd⊢);exact bd) (hl:de.length=ros.length:=by rfl):bn ai (.jX ros de (some k)) Q (ar l):=
 OC hl (iN cr (h ok bC) hk)
theorem pV {Q l ros k} {F:Prop} (bC:F) (cr:aAj) (hk:Q .normal (ar cr)) (h:F->∀P:aAj->Prop,P cr->dD ai (ar l) ros none (λ_ s=>P (gK k s)):=by
 intro bC P bd;simp only[aH.down,simprocAttr,bC,da,ei,dQ,fi];(try simp only[jA.down,simprocAttr,bC,da,ei,dQ,fi]at bd⊢);exact bd):bn ai (.eh ros (some k)) Q (ar l):=
 hx (b5 cr (h bC) hk)
theorem ws {Q l ros k b} (cr:aAj) (hk:bn ai b Q (ar cr)) (h:∀P:aAj->Prop,P cr->dD ai (ar l) ros none (λ_ s=>P (gK k s)):=by
 intro P bd;simp only[aH.down,simprocAttr,da,ei,dQ,fi];(try simp only[jA.down,simprocAttr,da,ei,dQ,fi]at bd⊢);exact bd):bn ai (.seq (.eh ros (some k)) b) Q (ar l):=
 dw (b5 cr (h) hk)
theorem al {Q l ros k b} {cr:aAj} (hk:bn ai b Q (ar cr)) (h:∀P:aAj->Prop,P cr->dD ai (ar l) ros none (λ_ s=>P (gK k s)):=by
 intro P bd;simp only[aH.down,simprocAttr,da,ei,dQ,fi];(try simp only[jA.down,simprocAttr,da,ei,dQ,fi]at bd⊢);exact bd):bn ai (.seq (.eh ros (some k)) b) Q (ar l):=
 dw (b5 cr (h) hk)
theorem aS {Q l ros k fx e8 r} {cr:aAj} (ny:∀s,eM (en.Ends ai fx e8 r []) s->Q .ret s) (ds:aAk) (h:∀P:aAj->Prop,P cr->dD ai (ar l) ros none (λ_ s=>P (gK k s)):=by
 intro P bd;simp only[aH.down,simprocAttr,da,ei,dQ,fi];(try simp only[jA.down,simprocAttr,da,ei,dQ,fi]at bd⊢);exact bd) (af:r=B5 ds:=by cases im (by assumption);rfl) (h1:e8.map (qX ai (ar cr))=ds.map some:=by rfl) (ay:(e8.map kF).Nodup:=by decide):bn ai (.seq (.eh ros (some k)) .ret) Q (ar l):=
 ws cr (cK ny ds af h1 ay) h
theorem cP {Q l ros k b g ds r} (ok:aW ai g ds r []) (cr:aAj) (hk:bn ai b Q (ar cr)) (h:aW ai g ds r []->∀P:aAj->Prop,P cr->dD ai (ar l) ros none (λ_ s=>P (gK k s)):=by
 intro ni P bd;(try simp only[aH.down,simprocAttr,da,ei,dQ,fi]);(first|refine dz ni rfl rfl rfl rfl (inl (by rfl)) ?_|refine iO ni rfl rfl rfl rfl (inl (by rfl)) ?_);simp only[aH.down,simprocAttr,da,ei,dQ,fi];(try simp only[jA.down,simprocAttr,da,ei,dQ,fi]at bd⊢);exact bd):bn ai (.seq (.eh ros (some k)) b) Q (ar l):=
 dw (b5 cr (h ok) hk)
theorem eR {Q l ros k b g ds r} {F:Prop} (bC:F) (ok:aW ai g ds r []) (cr:aAj) (hk:bn ai b Q (ar cr)) (h:aW ai g ds r []->F->∀P:aAj->Prop,P cr->dD ai (ar l) ros none (λ_ s=>P (gK k s)):=by
 intro ni bC P bd;(try simp only[aH.down,simprocAttr,bC,da,ei,dQ,fi]);(first|refine dz ni rfl rfl rfl rfl (inl (by rfl)) ?_|refine iO ni rfl rfl rfl rfl (inl (by rfl)) ?_);simp only[aH.down,simprocAttr,bC,da,ei,dQ,fi];(try simp only[jA.down,simprocAttr,bC,da,ei,dQ,fi]at bd⊢);exact bd):bn ai (.seq (.eh ros (some k)) b) Q (ar l):=
 dw (b5 cr (h ok bC) hk)
theorem azM {Q l ros k b de} (cr:aAj) (hk:bn ai b Q (ar cr)) (h:∀P:aAj->Prop,P cr->dD ai (ar l) ros (some []) (λacc s=>kG (nG de) 0 [] (acc.getD []).reverse=true/\P (gK k s)):=by
 intro P bd;simp only[dh.down,simprocAttr,da,ei,dQ,fi];refine⟨hS (by kernel_rfl),?_⟩;(try simp only[jA.down,simprocAttr,da,ei,dQ,fi]at bd⊢);exact bd) (hl:de.length=ros.length:=by rfl):bn ai (.seq (.jX ros de (some k)) b) Q (ar l):=
 jv hl (iN cr (h) hk)
theorem aow {Q l ros k b de g ds r} (ok:aW ai g ds r []) (cr:aAj) (hk:bn ai b Q (ar cr)) (h:aW ai g ds r []->∀P:aAj->Prop,P cr->dD ai (ar l) ros (some []) (λacc s=>kG (nG de) 0 [] (acc.getD []).reverse=true/\P (gK k s)):=by
 intro ni P bd;(try simp only[dh.down,simprocAttr,da,ei,dQ,fi]);(first|refine hZ ni rfl rfl rfl rfl (inl (by rfl)) ?_|refine lX ni rfl rfl rfl rfl (inl (by rfl)) ?_);simp only[dh.down,simprocAttr,da,ei,dQ,fi];refine⟨hS (by kernel_rfl),?_⟩;(try simp only[jA.down,simprocAttr,da,ei,dQ,fi]at bd⊢);exact bd) (hl:de.length=ros.length:=by rfl):bn ai (.seq (.jX ros de (some k)) b) Q (ar l):=
 jv hl (iN cr (h ok) hk)
theorem mn {Q l ros k b de g ds r} {F:Prop} (bC:F) (ok:aW ai g ds r []) (cr:aAj) (hk:bn ai b Q (ar cr)) (h:aW ai g ds r []->F->∀P:aAj->Prop,P cr->dD ai (ar l) ros (some []) (λacc s=>kG (nG de) 0 [] (acc.getD []).reverse=true/\P (gK k s)):=by
 intro ni bC P bd;(try simp only[dh.down,simprocAttr,bC,da,ei,dQ,fi]);(first|refine hZ ni rfl rfl rfl rfl (inl (by rfl)) ?_|refine lX ni rfl rfl rfl rfl (inl (by rfl)) ?_);simp only[dh.down,simprocAttr,bC,da,ei,dQ,fi];refine⟨hS (by kernel_rfl),?_⟩;(try simp only[jA.down,simprocAttr,bC,da,ei,dQ,fi]at bd⊢);exact bd) (hl:de.length=ros.length:=by rfl):bn ai (.seq (.jX ros de (some k)) b) Q (ar l):=
 jv hl (iN cr (h ok bC) hk)
theorem og {Q l ros k b de} {F:Prop} (bC:F) (cr:aAj) (hk:bn ai b Q (ar cr)) (h:F->∀P:aAj->Prop,P cr->dD ai (ar l) ros (some []) (λacc s=>kG (nG de) 0 [] (acc.getD []).reverse=true/\P (gK k s)):=by
 intro bC P bd;simp only[dh.down,simprocAttr,bC,da,ei,dQ,fi];refine⟨hS (by kernel_rfl),?_⟩;(try simp only[jA.down,simprocAttr,bC,da,ei,dQ,fi]at bd⊢);exact bd) (hl:de.length=ros.length:=by rfl):bn ai (.seq (.jX ros de (some k)) b) Q (ar l):=
 jv hl (iN cr (h bC) hk)
theorem aab {Q l ros k b de} (e:Bool) {F:Prop} (bC:F) (cr:aAj) (hk:bn ai b Q (ar cr)) (h:F->∀c,e=c->∀P:aAj->Prop,P cr->dD ai (ar l) ros (some []) (λacc s=>kG (nG de) 0 [] (acc.getD []).reverse=true/\P (gK k s)):=by
 intro bC c au P bd;cases c;all_goals
  (try simp only[List.length_replicate]at au);simp only[dh.down,simprocAttr,au,bC,da,ei,dQ,fi];refine⟨hS (by kernel_rfl),?_⟩;(try simp only[jA.down,simprocAttr,au,bC,da,ei,dQ,fi]at bd⊢);exact bd) (hl:de.length=ros.length:=by rfl):bn ai (.seq (.jX ros de (some k)) b) Q (ar l):=
 jv hl (iN cr (h bC e rfl) hk)
theorem c6 {Q l ros k b} {F:Prop} (bC:F) (cr:aAj) (hk:bn ai b Q (ar cr)) (h:F->∀P:aAj->Prop,P cr->dD ai (ar l) ros none (λ_ s=>P (gK k s)):=by
 intro bC P bd;simp only[aH.down,simprocAttr,bC,da,ei,dQ,fi];(try simp only[jA.down,simprocAttr,bC,da,ei,dQ,fi]at bd⊢);exact bd):bn ai (.seq (.eh ros (some k)) b) Q (ar l):=
 dw (b5 cr (h bC) hk)
theorem sf {Q l ros k b} {F:Prop} (bC:F) (cr:aAj) (hk:bn ai b Q (ar cr)) (h:F->∀P:aAj->Prop,P cr->dD ai (ar l) ros none (λ_ s=>P (gK k s)):=by
 intro bC P bd;simp only[aH.down,simprocAttr,bC,da,ei,dQ,fi,-Int.reduceNatCast'];(try simp only[jA.down,simprocAttr,bC,da,ei,dQ,fi,-Int.reduceNatCast']at bd⊢);exact bd):bn ai (.seq (.eh ros (some k)) b) Q (ar l):=
 dw (b5 cr (h bC) hk)
theorem oh {Q l ros k b} (e:Bool) (cr:aAj) (hk:bn ai b Q (ar cr)) (h:∀c,e=c->∀P:aAj->Prop,P cr->dD ai (ar l) ros none (λ_ s=>P (gK k s)):=by
 intro c au P bd;cases c;all_goals
  (try simp only[List.length_replicate]at au);simp only[aH.down,simprocAttr,au,da,ei,dQ,fi];(try simp only[jA.down,simprocAttr,au,da,ei,dQ,fi]at bd⊢);exact bd):bn ai (.seq (.eh ros (some k)) b) Q (ar l):=
 dw (b5 cr (h e rfl) hk)
theorem Lw {Q l ros k b} (e:Bool) {F:Prop} (bC:F) (cr:aAj) (hk:bn ai b Q (ar cr)) (h:F->∀c,e=c->∀P:aAj->Prop,P cr->dD ai (ar l) ros none (λ_ s=>P (gK k s)):=by
 intro bC c au P bd;cases c;all_goals
  (try simp only[List.length_replicate]at au);simp only[aH.down,simprocAttr,au,bC,da,ei,dQ,fi];(try simp only[jA.down,simprocAttr,au,bC,da,ei,dQ,fi]at bd⊢);exact bd):bn ai (.seq (.eh ros (some k)) b) Q (ar l):=
 dw (b5 cr (h bC e rfl) hk)
def fN:=PLift.up (U @List.length_append.{0} (U @List.length_cons.{0} (U @List.length_nil.{0} (U @List.length_map.{0,0} @List.length_replicate.{0}))))
def mJ:=PLift.up (U @wc @we)
def sg:=PLift.up (U (@mY ai 71 [(9,0),(2,1),(2,2),(39,3)] [(.str []),(R 0),(R 0),.bf] rfl rfl (by kernel_rfl)) (U @lY (U @lZ (U @cS (U @fW (U @List.nil_append.{0} (U @List.cons_append.{0} (U @oI (U @oH (U @cR (U @oG (@b0 _ ey bF (λ_=>pe _)))))))))))))
def si:=PLift.up (U @yg (U @yi @yh))
def yL:=PLift.up (U @gQ (U @gR (U @gS (U @cR (@b0 _ aE aE (λ_=>jz _))))))
def yM:=PLift.up (U @gQ (U @gR (U @gS @cR)))
def AL:=PLift.up (U @gQ (U @gR (U @gS (U @cR (U (@b0 _ aE aE (λ_=>jz _)) (@b0 _ aE aE (λ_=>jz _)))))))
def DO:=PLift.up (U (@i7 ai 52 52 2 rfl rfl) (U @i_ (U @ja (U @fW (U @i6 (U @all_nil (U (@ic _ a8 1 (λ_=>rfl)) (U @oI (U @oH (U @cR (U @oG (@b0 _ a8 a8 (λ_=>j7 _)))))))))))))
def DP:=PLift.up (U @List.cons_append.{0} (U @List.nil_append.{0} (U @List.length_append.{0} (U @List.length_cons.{0} (U @List.length_nil.{0} (U @List.length_map.{0,0} @List.length_replicate.{0}))))))
def Lx:=PLift.up (U (@mY ai 126 [(9,0),(65,1)] [(.str []),(.agg [(R 0),(R 0),.bf])] rfl rfl (by kernel_rfl)) (U @lY (U @lZ (U @cS (U @fW (U @List.nil_append.{0} (U @List.cons_append.{0} (U @oI (U @oH (U @cR (U @oG (@b0 _ a8 a8 (λ_=>j7 _)))))))))))))
def Ly:=PLift.up (U @gQ (U @gR (U @gS (U @cR (@b0 _ a8 a8 (λ_=>j7 _))))))
def Lz:=PLift.up (U @gQ (U @gR (U @gS (U @cR (U (@b0 _ bk bk (λ_=>sc _)) (U (@b0 _ db db (λ_=>yI _)) (U (@b0 _ bH bH (λ_=>pU _)) (U (@b0 _ aE aE (λ_=>jz _)) (@b0 _ aE aE (λ_=>jz _))))))))))
def LA:=PLift.up (U (@FB ai 122 126 1 4 [(.agg [(.str []),(.agg [(R 0),(R 0),.bf])])] rfl rfl rfl (by kernel_rfl)) (U @lY (U @lZ (U @cS (U @fW (U @List.nil_append.{0} (U @List.cons_append.{0} (U (@i7 ai 122 122 126 rfl rfl) (U @i_ (U @ja (U @i6 (U @all_nil (@ic _ hE 4 (λ_=>rfl))))))))))))))
def LB:=PLift.up (U (@mY ai 71 [(9,0),(2,1),(2,2),(39,3)] [(.str []),(R 0),(R 0),.bf] rfl rfl (by kernel_rfl)) (U @lY (U @lZ (U @cS (U @fW (U @List.nil_append.{0} (U @List.cons_append.{0} (U (@FB ai 67 71 1 4 [(.agg [(.str []),(R 0),(R 0),.bf])] rfl rfl rfl (by kernel_rfl)) (U (@i7 ai 67 67 71 rfl rfl) (U @i_ (U @ja (U @i6 (U @all_nil (@ic _ fy 4 (λ_=>rfl)))))))))))))))
def LC:=PLift.up (U @oI (U @oH (U @cR (U @oG (U (@b0 _ a8 a8 (λ_=>j7 _)) (@b0 _ bF bF (λ_=>wR _)))))))
def LD:=PLift.up (U @yg (U @yi (U @yh (U @XU (U @kk @Ov)))))
def LF:=PLift.up (U @yg (U @yi (U @yh (U @jI (U @XU @kk)))))
def R5:=PLift.up (U @l0 (U @kX (U @kk (U @gQ (U @gR (U @gS (U @cR (U @or_true (U @true_or (@b0 _ df df (λ_=>DN _)))))))))))
def R6:=PLift.up (U (@mY ai 65 [(2,0),(2,1),(52,2)] [(R 0),(R 0),.bf] rfl rfl (by kernel_rfl)) (U @lY (U @lZ (U @cS (U @fW (U @List.nil_append.{0} (U @List.cons_append.{0} (U (@FB ai 39 65 1 3 [(.agg [(R 0),(R 0),.bf])] rfl rfl rfl (by kernel_rfl)) (U (@i7 ai 39 39 65 rfl rfl) (U @i_ (U @ja (U @i6 (U @all_nil (@ic _ ey 3 (λ_=>rfl)))))))))))))))
def R7:=PLift.up (U (@mY ai 71 [(9,0),(2,1),(2,2),(39,3)] [(.str []),(R 0),(R 0),.bf] rfl rfl (by kernel_rfl)) (U @lY (U @lZ (U @cS (U @fW (U @List.nil_append.{0} (U @List.cons_append.{0} (U @oI (U @oH (U @cR (U @oG (U (@b0 _ ey bF (λ_=>pe _)) (U @gQ (U @gR (U @gS (U @cR (U (@b0 _ bk bk (λ_=>sc _)) (U (@b0 _ db db (λ_=>yI _)) (U (@b0 _ bH bH (λ_=>pU _)) (U (@b0 _ aE aE (λ_=>jz _)) (@b0 _ aE aE (λ_=>jz _))))))))))))))))))))))
def R8:=PLift.up (U (@mY ai 71 [(9,0),(2,1),(2,2),(39,3)] [(.str []),(R 0),(R 0),.bf] rfl rfl (by kernel_rfl)) (U @lY (U @lZ (U @cS (U @fW (U @List.nil_append.{0} (U @List.cons_append.{0} (U @oI (U @oH (U @cR (U @oG (U (@b0 _ ey bF (λ_=>pe _)) (U @gQ (U @gR (U @gS (U @cR (@b0 _ bF bF (λ_=>wR _))))))))))))))))))
def R9:=PLift.up (U (@mY ai 71 [(9,0),(2,1),(2,2),(39,3)] [(.str []),(R 0),(R 0),.bf] rfl rfl (by kernel_rfl)) (U @lY (U @lZ (U @cS (U @fW (U @List.nil_append.{0} (U @List.cons_append.{0} (U @oI (U @oH (U @cR (U @oG (U (@b0 _ ey bF (λ_=>pe _)) (U @l0 (U @kX (U @kk (U @gQ (U @gR (U @gS (U @cR (U @or_true (U @true_or (@b0 _ f_ f_ (λ_=>akS _)))))))))))))))))))))))
def R_:=PLift.up (U (@mY ai 71 [(9,0),(2,1),(2,2),(39,3)] [(.str []),(R 0),(R 0),.bf] rfl rfl (by kernel_rfl)) (U @lY (U @lZ (U @cS (U @fW (U @List.nil_append.{0} (U @List.cons_append.{0} (U @oI (U @oH (U @cR (U @oG (U (@b0 _ ey bF (λ_=>pe _)) @jI))))))))))))
def Sa:=PLift.up (U @l0 (U @kX (U @kk (U @gQ (U @gR (U @gS (U @cR (U @or_true (U @true_or (U (@b0 _ bk bk (λ_=>sc _)) (@b0 _ hE df (λ_=>Hu _))))))))))))
def Sb:=PLift.up (U (@FB ai 39 65 1 3 [(.agg [(R 0),(R 0),.bf])] rfl rfl rfl (by kernel_rfl)) (U @lY (U @lZ (U @cS (U @fW (U @List.nil_append.{0} (U @List.cons_append.{0} (U (@i7 ai 39 39 65 rfl rfl) (U @i_ (U @ja (U @i6 (U @all_nil (@ic _ ey 3 (λ_=>rfl))))))))))))))
def Sc:=PLift.up (U @l0 (U @kX (U @kk (U @gQ (U @gR (U @gS (U @cR (U @or_true (U @true_or (@b0 _ aE aE (λ_=>jz _)))))))))))
def Sd:=PLift.up (U @gQ (U @gR (U @gS (U @cR (U (@b0 _ hh bk (λ_=>AF _)) (U (@b0 _ hz db (λ_=>AG _)) (U (@b0 _ bH bH (λ_=>pU _)) (U (@b0 _ aE aE (λ_=>jz _)) (U (@b0 _ aE aE (λ_=>jz _)) (@b0 _ ey bF (λ_=>pe _)))))))))))
def aac:=PLift.up (U @gQ (U @gR (U @gS (U @cR (@b0 _ eu eu (λ_=>Ll _))))))
def aad:=PLift.up (U @gQ (U @gR (U @gS (U @cR (U (@b0 _ a8 a8 (λ_=>j7 _)) (@b0 _ a8 a8 (λ_=>j7 _)))))))
def aae:=PLift.up (U (@i7 ai 52 52 2 rfl rfl) (U @i_ (U @ja (U @fW (U @i6 (U @all_nil (U (@ic _ a8 1 (λ_=>rfl)) (U @oI (U @oH (U @cR (U @oG (U (@b0 _ a8 a8 (λ_=>j7 _)) (U @List.map_append.{0,0} (U @List.map_set.{0,0} (U @List.map_cons.{0,0} @List.map_nil.{0,0})))))))))))))))
def aaf:=PLift.up (U (@i7 ai 52 52 2 rfl rfl) (U @i_ (U @ja (U @fW (U @i6 (U @all_nil (U (@ic _ a8 1 (λ_=>rfl)) (U @oI (U @oH (U @cR (U @oG (U (@b0 _ a8 a8 (λ_=>j7 _)) @jI))))))))))))
def aag:=PLift.up (U (@FB ai 296 265 1 1 [.et] rfl rfl rfl (by kernel_rfl)) (U @lY (U @lZ (U @cS (U @fW (U @List.nil_append.{0} (U @List.cons_append.{0} (U (@i7 ai 296 296 265 rfl rfl) (U @i_ (U @ja (U @i6 (U @all_nil (@ic _ l7 1 (λ_=>rfl))))))))))))))
def aah:=PLift.up (U (@mY ai 126 [(9,0),(65,1)] [(.str []),(.agg [(R 0),(R 0),.bf])] rfl rfl (by kernel_rfl)) (U @lY (U @lZ (U @cS (U @fW (U @List.nil_append.{0} @List.cons_append.{0}))))))
def aai:=PLift.up (U (λs y q=>(XX ai s 25 y q).1) (λs y q=>(XX ai s 25 y q).2.1))
def aaj:=PLift.up (U @wc (U @we (U @gQ (U @gR (U @gS (U @cR (@b0 _ ey bF (λ_=>pe _))))))))
def aak:=PLift.up (U @oI (U @oH (U @cR (U @oG (U (@b0 _ a8 a8 (λ_=>j7 _)) (U (@b0 _ bF bF (λ_=>wR _)) (U @l0 (U @kX (U @kk (U @gQ (U @gR (U @gS (U @cR (U @or_true (U @true_or (U (@b0 _ bk bk (λ_=>sc _)) (U (@b0 _ db db (λ_=>yI _)) (U (@b0 _ bH bH (λ_=>pU _)) (U (@b0 _ aE aE (λ_=>jz _)) (U (@b0 _ aE aE (λ_=>jz _)) (U (@b0 _ bF bF (λ_=>wR _)) (@b0 _ fy f_ (λ_=>Zk _)))))))))))))))))))))))
def aal:=PLift.up (U @oI (U @oH (U @cR (U @oG (U (@b0 _ a8 a8 (λ_=>j7 _)) (U (@b0 _ bF bF (λ_=>wR _)) @jI))))))
def aam:=PLift.up (U @kX (U @kk (U @gQ (U @gR (U @gS (U @cR (U @or_true (U @true_or (@b0 _ a8 a8 (λ_=>j7 _))))))))))
def aan:=PLift.up (U @yg (U @yi (U @yh (U @l0 (U @kX (U @kk (U @gQ (U @gR (U @gS (U @cR (U @or_true (U @true_or (@b0 _ aE aE (λ_=>jz _))))))))))))))
theorem aox (a0 J r) (h:FW a0 J=some r):aW ai 184 [ad nh a0,R J] (R r) []:=by
 refine bB [0] [.tmp 4] Tryz.func184 ak0 λbu ak bt=>al ?_;refine al ?_;refine ax ak λ_ fg dt _=>al ?_;refine aF h (λc7 h=>?_) λc7 h=>?_
 .exact aS dt [R (-1)]
 .exact aL (fg _ (inl (aS ak [R (i64.wrap (J-(a0.length:Int)))])))
theorem aoy (a0 J r) (h:JN a0 J=some r):aW ai 139 [ad lJ a0,R J] (R r) []:=by
 refine bB [0] [.tmp 4] Tryz.func139 c139 λbu ak bt=>al ?_;refine al ?_;refine ax ak λ_ fg dt _=>al ?_;refine aF h (λc7 h=>?_) λc7 h=>?_
 .exact aS dt [R (-1)]
 .refine aL (fg _ (inl (ax ak λ_ n7 eJ _=>al ?_)));refine bj eJ λj9 _ b6 e4 _=>?_;show bn ai (.loop ?kL) _ _;have lg:∀n eB ep,Pe a0 n eB ep=some r->cJ ai ?kL j9 (ar [(0,ad lJ a0),(1,R eB),(5,R ep)]):=by
   refine cX λ_ lh eB ep h=>cW b6 λ_ n10 cQ dH=>ax cQ λ_ n11 _ eY=>al ?_;refine aF h (λfh h=>?_) λfh h=>?_
   .refine aL (n11 _ (inl (ax cQ λ_ n14 ez _=>bj ez λ_ n15 gM _ _=>?_)));obtain⟨aa,dN,ah,ev,h⟩:=dk h;refine eR dN (aox aa eB _ ev) _ ?_;refine al ?_;refine aF h (λfX h=>?_) λfX h=>?_
    .exact aS gM [R (-1)]
    .refine aL (n15 _ (n14 _ (inl (dA ?_))));exact n10 _ (inr ⟨_,bD rfl,lh ah (i64.wrap (ep+1)) h⟩)
   .exact cN (eY 0 _ (dH 0 _ (e4 _ (n7 _ (inl (aS ak [R eB]))))))
  exact dp h λn h=>lg n (i64.wrap (J-(a0.length:Int))) 0 h
theorem aoz (a0 J r) (h:FX a0 J=some r):aW ai 96 [kK a0,R J] (R r) []:=by
 refine bB [0] [.tmp 4] Tryz.func96 ak1 λbu ak bt=>al ?_;refine al ?_;refine ax ak λ_ fg dt _=>al ?_;refine aF h (λc7 h=>?_) λc7 h=>?_
 .exact aS dt [R (-1)]
 .refine aL (fg _ (inl ?_));obtain⟨aa,fH,h⟩:=aM h;refine cP (aoy a0.cm (i64.wrap (J-(a0.Name.length:Int))) _ fH) _ ?_;refine ax ak λ_ cE b6 _=>al ?_;refine aF h (λnK h=>?_) λnK h=>?_
  .exact aS b6 [R (-1)]
  .exact aL (cE _ (inl (aS ak [R aa])))
theorem aoA (a0 J r) (h:JO a0 J=some r):aW ai 65 [ad kK a0,R J] (R r) []:=by
 refine bB [0] [.tmp 4] Tryz.func65 ak2 λbu ak bt=>al ?_;refine al ?_;refine ax ak λ_ fg dt _=>al ?_;refine aF h (λc7 h=>?_) λc7 h=>?_
 .exact aS dt [R (-1)]
 .refine aL (fg _ (inl (ax ak λ_ n7 eJ _=>al ?_)));refine bj eJ λj9 _ b6 e4 _=>?_;show bn ai (.loop ?kL) _ _;have lg:∀n eB ep,Pf a0 n eB ep=some r->cJ ai ?kL j9 (ar [(0,ad kK a0),(1,R eB),(5,R ep)]):=by
   refine cX λ_ lh eB ep h=>cW b6 λ_ n10 cQ dH=>ax cQ λ_ n11 _ eY=>al ?_;refine aF h (λfh h=>?_) λfh h=>?_
   .refine aL (n11 _ (inl (ax cQ λ_ n14 ez _=>bj ez λ_ n15 gM _ _=>?_)));obtain⟨aa,dN,ah,ev,h⟩:=dk h;refine eR dN (aoz aa eB _ ev) _ ?_;refine al ?_;refine aF h (λfX h=>?_) λfX h=>?_
    .exact aS gM [R (-1)]
    .refine aL (n15 _ (n14 _ (inl (dA ?_))));exact n10 _ (inr ⟨_,bD rfl,lh ah (i64.wrap (ep+1)) h⟩)
   .exact cN (eY 0 _ (dH 0 _ (e4 _ (n7 _ (inl (aS ak [R eB]))))))
  exact dp h λn h=>lg n (i64.wrap (J-(a0.length:Int))) 0 h
theorem aoB (a0 J r) (h:FY a0 J=some r):aW ai 44 [j6 a0,R J] (R r) []:=by
 refine bB [0] [.tmp 4] Tryz.func44 Hy λbu ak bt=>al ?_;refine al ?_;refine ax ak λ_ fg dt _=>al ?_;refine aF h (λc7 h=>?_) λc7 h=>?_
 .exact aS dt [R (-1)]
 .refine aL (fg _ (inl ?_));obtain⟨aa,fH,h⟩:=aM h;refine cP (aoA a0.Body (i64.wrap (J-(a0.Name.length:Int))) _ fH) _ ?_;refine ax ak λ_ cE b6 _=>al ?_;refine aF h (λnK h=>?_) λnK h=>?_
  .exact aS b6 [R (-1)]
  .exact aL (cE _ (inl (aS ak [R aa])))
theorem aoC (a0 J r) (h:JP a0 J=some r):aW ai 17 [ad j6 a0,R J] (R r) []:=by
 refine bB [0] [.tmp 4] Tryz.func17 ak3 λbu ak bt=>al ?_;refine al ?_;refine ax ak λ_ fg dt _=>al ?_;refine aF h (λc7 h=>?_) λc7 h=>?_
 .exact aS dt [R (-1)]
 .refine aL (fg _ (inl (ax ak λ_ n7 eJ _=>al ?_)));refine bj eJ λj9 _ b6 e4 _=>?_;show bn ai (.loop ?kL) _ _;have lg:∀n eB ep,Pg a0 n eB ep=some r->cJ ai ?kL j9 (ar [(0,ad j6 a0),(1,R eB),(5,R ep)]):=by
   refine cX λ_ lh eB ep h=>cW b6 λ_ n10 cQ dH=>ax cQ λ_ n11 _ eY=>al ?_;refine aF h (λfh h=>?_) λfh h=>?_
   .refine aL (n11 _ (inl (ax cQ λ_ n14 ez _=>bj ez λ_ n15 gM _ _=>?_)));obtain⟨aa,dN,ah,ev,h⟩:=dk h;refine eR dN (aoB aa eB _ ev) _ ?_;refine al ?_;refine aF h (λfX h=>?_) λfX h=>?_
    .exact aS gM [R (-1)]
    .refine aL (n15 _ (n14 _ (inl (dA ?_))));exact n10 _ (inr ⟨_,bD rfl,lh ah (i64.wrap (ep+1)) h⟩)
   .exact cN (eY 0 _ (dH 0 _ (e4 _ (n7 _ (inl (aS ak [R eB]))))))
  exact dp h λn h=>lg n (i64.wrap (J-(a0.length:Int))) 0 h
theorem aao (a0 J r) (h:FZ a0 J=some r):aW ai 47 [ad a8 a0,R J] (R r) []:=by
 refine bB [0] [.tmp 4] Tryz.func47 ak4 λbu ak bt=>al ?_;refine al ?_;refine ax ak λ_ fg dt _=>al ?_;refine aF h (λc7 h=>?_) λc7 h=>?_
 .exact aS dt [R (-1)]
 .exact aL (fg _ (inl (aS ak [R (i64.wrap (J-(a0.length:Int)))])))
theorem aoD (a0 J r) (h:F1 a0 J=some r):aW ai 45 [j8 a0,R J] (R r) []:=by
 refine bB [0] [.tmp 4] Tryz.func45 ak5 λbu ak bt=>al ?_;obtain⟨aa,aU,h⟩:=aM h;refine cP (aao a0.bP J _ aU) _ ?_;refine ax ak λ_ fa bQ _=>al ?_;refine aF h (λdC h=>?_) λdC h=>?_
 .exact aS bQ [R (-1)]
 .exact aL (fa _ (inl (aS ak [R aa])))
theorem aoE (a0 J r) (h:JQ a0 J=some r):aW ai 18 [ad j8 a0,R J] (R r) []:=by
 refine bB [0] [.tmp 4] Tryz.func18 RQ λbu ak bt=>al ?_;refine al ?_;refine ax ak λ_ fg dt _=>al ?_;refine aF h (λc7 h=>?_) λc7 h=>?_
 .exact aS dt [R (-1)]
 .refine aL (fg _ (inl (ax ak λ_ n7 eJ _=>al ?_)));refine bj eJ λj9 _ b6 e4 _=>?_;show bn ai (.loop ?kL) _ _;have lg:∀n eB ep,Ph a0 n eB ep=some r->cJ ai ?kL j9 (ar [(0,ad j8 a0),(1,R eB),(5,R ep)]):=by
   refine cX λ_ lh eB ep h=>cW b6 λ_ n10 cQ dH=>ax cQ λ_ n11 _ eY=>al ?_;refine aF h (λfh h=>?_) λfh h=>?_
   .refine aL (n11 _ (inl (ax cQ λ_ n14 ez _=>bj ez λ_ n15 gM _ _=>?_)));obtain⟨aa,dN,ah,ev,h⟩:=dk h;refine eR dN (aoD aa eB _ ev) _ ?_;refine al ?_;refine aF h (λfX h=>?_) λfX h=>?_
    .exact aS gM [R (-1)]
    .refine aL (n15 _ (n14 _ (inl (dA ?_))));exact n10 _ (inr ⟨_,bD rfl,lh ah (i64.wrap (ep+1)) h⟩)
   .exact cN (eY 0 _ (dH 0 _ (e4 _ (n7 _ (inl (aS ak [R eB]))))))
  exact dp h λn h=>lg n (i64.wrap (J-(a0.length:Int))) 0 h
theorem aoF (a0 J r) (h:F2 a0 J=some r):aW ai 46 [jK a0,R J] (R r) []:=by
 refine bB [0] [.tmp 4] Tryz.func46 c46 λbu ak bt=>al ?_;refine al ?_;refine ax ak λ_ fg dt _=>al ?_;refine aF h (λc7 h=>?_) λc7 h=>?_
 .exact aS dt [R (-1)]
 .refine aL (fg _ (inl (al ?_)));refine ax ak λ_ n8 hF _=>al ?_;refine aF h (λfl h=>?_) λfl h=>?_
  .exact aS hF [R (-1)]
  .refine aL (n8 _ (inl (al ?_)));refine ax ak λ_ n13 fC _=>al ?_;refine aF h (λeZ h=>?_) λeZ h=>?_
   .exact aS fC [R (-1)]
   .exact aL (n13 _ (inl (aS ak [R (i64.wrap ((i64.wrap ((i64.wrap (J-(a0.Left.length:Int)))-(a0.cH.length:Int)))-(a0.Result.length:Int)))])))
theorem aoG (a0 J r) (h:JR a0 J=some r):aW ai 19 [ad jK a0,R J] (R r) []:=by
 refine bB [0] [.tmp 4] Tryz.func19 ak6 λbu ak bt=>al ?_;refine al ?_;refine ax ak λ_ fg dt _=>al ?_;refine aF h (λc7 h=>?_) λc7 h=>?_
 .exact aS dt [R (-1)]
 .refine aL (fg _ (inl (ax ak λ_ n7 eJ _=>al ?_)));refine bj eJ λj9 _ b6 e4 _=>?_;show bn ai (.loop ?kL) _ _;have lg:∀n eB ep,Pj a0 n eB ep=some r->cJ ai ?kL j9 (ar [(0,ad jK a0),(1,R eB),(5,R ep)]):=by
   refine cX λ_ lh eB ep h=>cW b6 λ_ n10 cQ dH=>ax cQ λ_ n11 _ eY=>al ?_;refine aF h (λfh h=>?_) λfh h=>?_
   .refine aL (n11 _ (inl (ax cQ λ_ n14 ez _=>bj ez λ_ n15 gM _ _=>?_)));obtain⟨aa,dN,ah,ev,h⟩:=dk h;refine eR dN (aoF aa eB _ ev) _ ?_;refine al ?_;refine aF h (λfX h=>?_) λfX h=>?_
    .exact aS gM [R (-1)]
    .refine aL (n15 _ (n14 _ (inl (dA ?_))));exact n10 _ (inr ⟨_,bD rfl,lh ah (i64.wrap (ep+1)) h⟩)
   .exact cN (eY 0 _ (dH 0 _ (e4 _ (n7 _ (inl (aS ak [R eB]))))))
  exact dp h λn h=>lg n (i64.wrap (J-(a0.length:Int))) 0 h
theorem aap (a0 J r) (h:F3 a0 J=some r):aW ai 20 [ad aE a0,R J] (R r) []:=by
 refine bB [0] [.tmp 4] Tryz.func20 c20 λbu ak bt=>al ?_;refine al ?_;refine ax ak λ_ fg dt _=>al ?_;refine aF h (λc7 h=>?_) λc7 h=>?_
 .exact aS dt [R (-1)]
 .refine aL (fg _ (inl (ax ak λ_ n7 eJ _=>al ?_)));refine bj eJ λj9 _ b6 e4 _=>?_;show bn ai (.loop ?kL) _ _;have lg:∀n eB ep,Pk a0 n eB ep=some r->cJ ai ?kL j9 (ar [(0,ad aE a0),(1,R eB),(5,R ep)]):=by
   refine cX λ_ lh eB ep h=>cW b6 λ_ n10 cQ dH=>ax cQ λ_ n11 _ eY=>al ?_;refine aF h (λfh h=>?_) λfh h=>?_
   .refine aL (n11 _ (inl (ax cQ λ_ n14 ez _=>bj ez λ_ n15 gM _ _=>?_)));obtain⟨aa,dN,h⟩:=aM h;refine c6 dN _ ?_;refine al ?_;refine aF h (λgh h=>?_) λgh h=>?_
    .exact aS gM [R (-1)]
    .refine aL (n15 _ (n14 _ (inl (dA ?_))));exact n10 _ (inr ⟨_,bD rfl,lh (i64.wrap (eB-(aa.length:Int))) (i64.wrap (ep+1)) h⟩)
   .exact cN (eY 0 _ (dH 0 _ (e4 _ (n7 _ (inl (aS ak [R eB]))))))
  exact dp h λn h=>lg n (i64.wrap (J-(a0.length:Int))) 0 h
theorem aoH (a0 J r) (h:F4 a0 J=some r):aW ai 4 [od a0,R J] (R r) []:=by
 refine bB [0] [.tmp 4] Tryz.func4 c4 λbu ak bt=>al ?_;obtain⟨aa,aU,h⟩:=aM h;refine cP (aoC a0.cz J _ aU) _ ?_;refine ax ak λ_ fa bQ aZ=>al ?_;refine aF h (λdC h=>?_) λdC h=>?_
 .exact aS bQ [R (-1)]
 .refine aL (fa _ (inl ?_));obtain⟨ah,jt,h⟩:=aM h;refine cP (aoE a0.cj aa _ jt) _ ?_;refine ax ak λ_ n10 cQ _=>al ?_;refine aF h (λe3 h=>?_) λe3 h=>?_
  .exact aS cQ [R (-1)]
  .refine aL (n10 _ (inl ?_));obtain⟨aI,dX,h⟩:=aM h;refine cP (aoG a0.b9 ah _ dX) _ ?_;refine ax ak λ_ n16 nj _=>al ?_;refine aF h (λh5 h=>?_) λh5 h=>?_
   .exact aS nj [R (-1)]
   .refine aL (n16 _ (inl ?_));obtain⟨aZ,gV,h⟩:=aM h;refine cP (aap a0.cC aI _ gV) _ ?_;refine ax ak λ_ n22 oi _=>al ?_;refine aF h (λhA h=>?_) λhA h=>?_
    .exact aS oi [R (-1)]
    .refine aL (n22 _ (inl ?_));obtain⟨aX,qv,h⟩:=aM h;refine cP (aap a0.cA aZ _ qv) _ ?_;refine ax ak λ_ n28 HA _=>al ?_;refine aF h (λpW h=>?_) λpW h=>?_
     .exact aS HA [R (-1)]
     .exact aL (n28 _ (inl (aS ak [R aX])))
theorem aoI (a0 J r) (h:F5 a0 J=some r):aW ai 21 [jL a0,R J] (R r) []:=by
 refine bB [0] [.tmp 4] Tryz.func21 c21 λbu ak bt=>al ?_;obtain⟨aa,aU,h⟩:=aM h;refine cP (aao a0.bP J _ aU) _ ?_;refine ax ak λ_ fa bQ _=>al ?_;refine aF h (λdC h=>?_) λdC h=>?_
 .exact aS bQ [R (-1)]
 .exact aL (fa _ (inl (aS ak [R aa])))
theorem aoJ (a0 J r) (h:JS a0 J=some r):aW ai 5 [ad jL a0,R J] (R r) []:=by
 refine bB [0] [.tmp 4] Tryz.func5 c5 λbu ak bt=>al ?_;refine al ?_;refine ax ak λ_ fg dt _=>al ?_;refine aF h (λc7 h=>?_) λc7 h=>?_
 .exact aS dt [R (-1)]
 .refine aL (fg _ (inl (ax ak λ_ n7 eJ _=>al ?_)));refine bj eJ λj9 _ b6 e4 _=>?_;show bn ai (.loop ?kL) _ _;have lg:∀n eB ep,Pl a0 n eB ep=some r->cJ ai ?kL j9 (ar [(0,ad jL a0),(1,R eB),(5,R ep)]):=by
   refine cX λ_ lh eB ep h=>cW b6 λ_ n10 cQ dH=>ax cQ λ_ n11 _ eY=>al ?_;refine aF h (λfh h=>?_) λfh h=>?_
   .refine aL (n11 _ (inl (ax cQ λ_ n14 ez _=>bj ez λ_ n15 gM _ _=>?_)));obtain⟨aa,dN,ah,ev,h⟩:=dk h;refine eR dN (aoI aa eB _ ev) _ ?_;refine al ?_;refine aF h (λfX h=>?_) λfX h=>?_
    .exact aS gM [R (-1)]
    .refine aL (n15 _ (n14 _ (inl (dA ?_))));exact n10 _ (inr ⟨_,bD rfl,lh ah (i64.wrap (ep+1)) h⟩)
   .exact cN (eY 0 _ (dH 0 _ (e4 _ (n7 _ (inl (aS ak [R eB]))))))
  exact dp h λn h=>lg n (i64.wrap (J-(a0.length:Int))) 0 h
theorem aoK (a0 r) (h:F6 a0=some r):aW ai 222 [nh a0] (dY r) []:=by
 refine bB [0] [.cell 2 249] Tryz.func222 c222 λbu ak bt=>al ?_;refine al ?_;refine al ?_;refine al ?_;exact aS ak [dY (bX.mk a0.Kind a0.Value)]
theorem aoL (a0 r) (h:F7 a0=some r):aW ai 192 [ad nh a0] (.ag 2 (r.map dY)) []:=by
 refine bB [0] [.tmp 2] Tryz.func192 ak7 λbu ak bt=>al ?_;obtain⟨yN,aU,h⟩:=aM h;refine sf (U (ru aU) @List.map_replicate.{0,0}) [(0,ad nh a0),(3,.ag 2 ((List.replicate (Int.toNat (a0.length:Int)) (bX.mk 0 0)).map dY))] ?_;refine ax ak λ_ fa bQ _=>ws [(0,ad nh a0),(3,.ag 2 ((List.replicate (Int.toNat (a0.length:Int)) (bX.mk 0 0)).map dY)),(4,R 0)] ?_;refine bj bQ λjB _ c_ dC _=>?_;show bn ai (.loop ?iu) _ _;have iC:∀n bY bK,Pm a0 n bY bK=some r->cJ ai ?iu jB (ar [(0,ad nh a0),(3,.ag 2 (bY.map dY)),(4,R bK)]):=by
  refine cX λ_ iD bY bK h=>cW c_ λ_ n7 eJ bw=>ax eJ λ_ n8 _ cD=>al ?_;refine aF h (λfl h=>?_) λfl h=>?_
  .refine aL (n8 _ (inl (ax eJ λ_ n11 h6 _=>bj h6 λ_ n12 _ _ _=>?_)));obtain⟨aa,dT,ah,dX,aI,cx,h⟩:=iQ h;refine hx (b5 [(0,ad nh a0),(3,.ag 2 ((List.set bY (Int.toNat bK) ah).map dY)),(4,R bK)] (λP bd=>?_) ?_)
   ·(try simp only[aH.down,simprocAttr,dT,cx,b2 cx,cS,da]);refine dz (aoK aa _ dX) (hK:= ?_);simp only[aH.down,simprocAttr,dT,cx,b2 cx,cS,da];exact bR (U dT (U cx (U (b2 cx) @cS)))
   refine n12 _ (n11 _ (inl (wr [(0,ad nh a0),(3,.ag 2 ((List.set bY (Int.toNat bK) ah).map dY)),(4,R (i64.wrap (bK+1)))] ?_)));exact n7 _ (inr ⟨_,bD rfl,iD (List.set bY (Int.toNat bK) ah) (i64.wrap (bK+1)) h⟩)
  .exact cN (cD 0 _ (bw 0 _ (dC _ (fa _ (inl (aS ak [.ag 2 (bY.map dY)]))))))
 exact dp h λn h=>iC n (List.replicate (Int.toNat (a0.length:Int)) (bX.mk 0 0)) 0 h
theorem aoM (a0 r) (h:JT a0=some r):aW ai 152 [ad lJ a0] (.ag 1 (r.map lK)) []:=by
 refine bB [0] [.tmp 2] Tryz.func152 c152 λbu ak bt=>al ?_;obtain⟨yN,aU,h⟩:=aM h;refine sf (U (ru aU) @List.map_replicate.{0,0}) [(0,ad lJ a0),(3,.ag 1 (List.replicate (Int.toNat (a0.length:Int)) .bf))] ?_;refine ax ak λ_ fa bQ _=>ws [(0,ad lJ a0),(3,.ag 1 (List.replicate (Int.toNat (a0.length:Int)) .bf)),(4,R 0)] ?_;refine bj bQ λjB _ c_ dC _=>?_;show bn ai (.loop ?iu) _ _;have iC:∀n bY bK,Pn a0 n bY bK=some r->cJ ai ?iu jB (ar [(0,ad lJ a0),(3,.ag 1 (bY.map lK)),(4,R bK)]):=by
  refine cX λ_ iD bY bK h=>cW c_ λ_ n7 eJ bw=>ax eJ λ_ n8 _ cD=>al ?_;refine aF h (λfl h=>?_) λfl h=>?_
  .refine aL (n8 _ (inl (ax eJ λ_ n11 h6 _=>bj h6 λ_ n12 _ _ _=>?_)));obtain⟨aa,dT,ah,dX,aI,cx,h⟩:=iQ h;refine hx (b5 [(0,ad lJ a0),(3,.ag 1 ((List.set bY (Int.toNat bK) ah).map lK)),(4,R bK)] (λP bd=>?_) ?_)
   ·(try simp only[aH.down,simprocAttr,dT,cx,b2 cx,cS,da]);refine dz (aoL aa _ dX) (hK:= ?_);simp only[aH.down,simprocAttr,dT,cx,b2 cx,cS,da];exact bR (U dT (U cx (U (b2 cx) @cS)))
   refine n12 _ (n11 _ (inl (wr [(0,ad lJ a0),(3,.ag 1 ((List.set bY (Int.toNat bK) ah).map lK)),(4,R (i64.wrap (bK+1)))] ?_)));exact n7 _ (inr ⟨_,bD rfl,iD (List.set bY (Int.toNat bK) ah) (i64.wrap (bK+1)) h⟩)
  .exact cN (cD 0 _ (bw 0 _ (dC _ (fa _ (inl (aS ak [.ag 1 (bY.map lK)]))))))
 obtain⟨n,h⟩:=ma h;exact qe (inr ⟨_,hP [] rfl (cO (t:=0) (d:=ad lJ a0) rfl (hD (t:=3) (d:=.ag 1 (List.replicate (Int.toNat (a0.length:Int)) .bf)) (bN:=.ag 1 ((List.replicate (Int.toNat (a0.length:Int)) []).map lK)) rfl rfl (FA (u:=lK) (z:=[]) (.hY _) _) (by decide) (cO (t:=4) (d:=R 0) rfl (hQ)))),iC n (List.replicate (Int.toNat (a0.length:Int)) []) 0 h⟩)
theorem aoN (a0 r) (h:F8 a0=some r):aW ai 112 [kK a0] (jk r) []:=by
 refine bB [0] [.cell 2 161] Tryz.func112 ak8 λbu ak bt=>al ?_;refine al ?_;refine al ?_;refine al ?_;refine al ?_;obtain⟨aa,cd,h⟩:=aM h;refine cP (aoM a0.cm _ cd) _ ?_;exact aS ak [jk (b8.mk a0.Kind a0.Number a0.Name aa)]
theorem aoO (a0 r) (h:JU a0=some r):aW ai 74 [ad kK a0] (.ag 4 (r.map jk)) []:=by
 refine bB [0] [.tmp 2] Tryz.func74 ak9 λbu ak bt=>al ?_;obtain⟨yN,aU,h⟩:=aM h;refine sf (U (ru aU) @List.map_replicate.{0,0}) [(0,ad kK a0),(3,.ag 4 (List.replicate (Int.toNat (a0.length:Int)) (.agg [(R 0),(R 0),(.str []),.bf])))] ?_;refine ax ak λ_ fa bQ _=>ws [(0,ad kK a0),(3,.ag 4 (List.replicate (Int.toNat (a0.length:Int)) (.agg [(R 0),(R 0),(.str []),.bf]))),(4,R 0)] ?_;refine bj bQ λjB _ c_ dC _=>?_;show bn ai (.loop ?iu) _ _;have iC:∀n bY bK,Po a0 n bY bK=some r->cJ ai ?iu jB (ar [(0,ad kK a0),(3,.ag 4 (bY.map jk)),(4,R bK)]):=by
  refine cX λ_ iD bY bK h=>cW c_ λ_ n7 eJ bw=>ax eJ λ_ n8 _ cD=>al ?_;refine aF h (λfl h=>?_) λfl h=>?_
  .refine aL (n8 _ (inl (ax eJ λ_ n11 h6 _=>bj h6 λ_ n12 _ _ _=>?_)));obtain⟨aa,dT,ah,dX,aI,cx,h⟩:=iQ h;refine hx (b5 [(0,ad kK a0),(3,.ag 4 ((List.set bY (Int.toNat bK) ah).map jk)),(4,R bK)] (λP bd=>?_) ?_)
   ·(try simp only[aH.down,simprocAttr,dT,cx,b2 cx,cS,da]);refine dz (aoN aa _ dX) (hK:= ?_);simp only[aH.down,simprocAttr,dT,cx,b2 cx,cS,da];exact bR (U dT (U cx (U (b2 cx) @cS)))
   refine n12 _ (n11 _ (inl (wr [(0,ad kK a0),(3,.ag 4 ((List.set bY (Int.toNat bK) ah).map jk)),(4,R (i64.wrap (bK+1)))] ?_)));exact n7 _ (inr ⟨_,bD rfl,iD (List.set bY (Int.toNat bK) ah) (i64.wrap (bK+1)) h⟩)
  .exact cN (cD 0 _ (bw 0 _ (dC _ (fa _ (inl (aS ak [.ag 4 (bY.map jk)]))))))
 obtain⟨n,h⟩:=ma h;exact qe (inr ⟨_,hP [] rfl (cO (t:=0) (d:=ad kK a0) rfl (hD (t:=3) (d:=.ag 4 (List.replicate (Int.toNat (a0.length:Int)) (.agg [(R 0),(R 0),(.str []),.bf]))) (bN:=.ag 4 ((List.replicate (Int.toNat (a0.length:Int)) (b8.mk 0 0 ([]:aAc) [])).map jk)) rfl rfl (FA (u:=jk) (z:=(b8.mk 0 0 ([]:aAc) [])) (.agg (.cons (.refl _) (.cons (.refl _) (.cons (.refl _) (.cons (.hY _) (.nil)))))) _) (by decide) (cO (t:=4) (d:=R 0) rfl (hQ)))),iC n (List.replicate (Int.toNat (a0.length:Int)) (b8.mk 0 0 ([]:aAc) [])) 0 h⟩)
theorem aoP (a0 r) (h:F9 a0=some r):aW ai 51 [j6 a0] (hh r) []:=by
 refine bB [0] [.cell 2 99] Tryz.func51 c51 λbu ak bt=>al ?_;refine al ?_;refine al ?_;refine al ?_;obtain⟨aa,cv,h⟩:=aM h;refine cP (aoO a0.Body _ cv) _ ?_;exact aS ak [hh (a1.mk a0.Name a0.dW aa)]
theorem aoQ (a0 r) (h:JV a0=some r):aW ai 26 [ad j6 a0] (.ag 3 (r.map hh)) []:=by
 refine bB [0] [.tmp 2] Tryz.func26 RR λbu ak bt=>al ?_;obtain⟨yN,aU,h⟩:=aM h;refine sf (U (ru aU) @List.map_replicate.{0,0}) [(0,ad j6 a0),(3,.ag 3 (List.replicate (Int.toNat (a0.length:Int)) (.agg [(.str []),(R 0),.bf])))] ?_;refine ax ak λ_ fa bQ _=>ws [(0,ad j6 a0),(3,.ag 3 (List.replicate (Int.toNat (a0.length:Int)) (.agg [(.str []),(R 0),.bf]))),(4,R 0)] ?_;refine bj bQ λjB _ c_ dC _=>?_;show bn ai (.loop ?iu) _ _;have iC:∀n bY bK,Pp a0 n bY bK=some r->cJ ai ?iu jB (ar [(0,ad j6 a0),(3,.ag 3 (bY.map hh)),(4,R bK)]):=by
  refine cX λ_ iD bY bK h=>cW c_ λ_ n7 eJ bw=>ax eJ λ_ n8 _ cD=>al ?_;refine aF h (λfl h=>?_) λfl h=>?_
  .refine aL (n8 _ (inl (ax eJ λ_ n11 h6 _=>bj h6 λ_ n12 _ _ _=>?_)));obtain⟨aa,dT,ah,dX,aI,cx,h⟩:=iQ h;refine hx (b5 [(0,ad j6 a0),(3,.ag 3 ((List.set bY (Int.toNat bK) ah).map hh)),(4,R bK)] (λP bd=>?_) ?_)
   ·(try simp only[aH.down,simprocAttr,dT,cx,b2 cx,cS,da]);refine dz (aoP aa _ dX) (hK:= ?_);simp only[aH.down,simprocAttr,dT,cx,b2 cx,cS,da];exact bR (U dT (U cx (U (b2 cx) @cS)))
   refine n12 _ (n11 _ (inl (wr [(0,ad j6 a0),(3,.ag 3 ((List.set bY (Int.toNat bK) ah).map hh)),(4,R (i64.wrap (bK+1)))] ?_)));exact n7 _ (inr ⟨_,bD rfl,iD (List.set bY (Int.toNat bK) ah) (i64.wrap (bK+1)) h⟩)
  .exact cN (cD 0 _ (bw 0 _ (dC _ (fa _ (inl (aS ak [.ag 3 (bY.map hh)]))))))
 obtain⟨n,h⟩:=ma h;exact qe (inr ⟨_,hP [] rfl (cO (t:=0) (d:=ad j6 a0) rfl (hD (t:=3) (d:=.ag 3 (List.replicate (Int.toNat (a0.length:Int)) (.agg [(.str []),(R 0),.bf]))) (bN:=.ag 3 ((List.replicate (Int.toNat (a0.length:Int)) (a1.mk ([]:aAc) 0 [])).map hh)) rfl rfl (FA (u:=hh) (z:=(a1.mk ([]:aAc) 0 [])) (.agg (.cons (.refl _) (.cons (.refl _) (.cons (.hY _) (.nil))))) _) (by decide) (cO (t:=4) (d:=R 0) rfl (hQ)))),iC n (List.replicate (Int.toNat (a0.length:Int)) (a1.mk ([]:aAc) 0 [])) 0 h⟩)
theorem aaq (a0 r) (h:F_ a0=some r):aW ai 54 [ad a8 a0] (.ag 1 (r.map a8)) []:=by
 refine bB [0] [.tmp 2] Tryz.func54 ak_ λbu ak bt=>al ?_;obtain⟨LG,aU,h⟩:=aM h;refine sf (U (ru aU) @List.map_replicate.{0,0}) [(0,ad a8 a0),(3,.ag 1 ((List.replicate (Int.toNat (a0.length:Int)) 0).map a8))] ?_;refine ax ak λ_ fa bQ _=>ws [(0,ad a8 a0),(3,.ag 1 ((List.replicate (Int.toNat (a0.length:Int)) 0).map a8)),(4,R 0)] ?_;refine bj bQ λjB _ c_ dC _=>?_;show bn ai (.loop ?iu) _ _;have iC:∀n bY bK,Pq a0 n bY bK=some r->cJ ai ?iu jB (ar [(0,ad a8 a0),(3,.ag 1 (bY.map a8)),(4,R bK)]):=by
  refine cX λ_ iD bY bK h=>cW c_ λ_ n7 eJ bw=>ax eJ λ_ n8 _ cD=>al ?_;refine aF h (λfl h=>?_) λfl h=>?_
  .refine aL (n8 _ (inl (ax eJ λ_ n11 h6 _=>bj h6 λ_ n12 _ _ _=>?_)));obtain⟨aa,dT,ah,dX,h⟩:=dk h;refine hx (b5 [(0,ad a8 a0),(3,.ag 1 ((List.set bY (Int.toNat bK) aa).map a8)),(4,R bK)] (λP bd=>?_) ?_)
   .simp only[aH.down,simprocAttr,dT,dX,b2 dX,cS,da];exact bR (U dT (U dX (U (b2 dX) @cS)))
   refine n12 _ (n11 _ (inl (wr [(0,ad a8 a0),(3,.ag 1 ((List.set bY (Int.toNat bK) aa).map a8)),(4,R (i64.wrap (bK+1)))] ?_)));exact n7 _ (inr ⟨_,bD rfl,iD (List.set bY (Int.toNat bK) aa) (i64.wrap (bK+1)) h⟩)
  .exact cN (cD 0 _ (bw 0 _ (dC _ (fa _ (inl (aS ak [.ag 1 (bY.map a8)]))))))
 exact dp h λn h=>iC n (List.replicate (Int.toNat (a0.length:Int)) 0) 0 h
theorem aoR (a0 r) (h:Ga a0=some r):aW ai 52 [j8 a0] (hz r) []:=by
 refine bB [0] [.cell 2 101] Tryz.func52 ala λbu ak bt=>al ?_;refine al ?_;refine al ?_;obtain⟨aa,cY,h⟩:=aM h;refine cP (aaq a0.bP _ cY) _ ?_;exact aS ak [hz (cM.mk a0.cy aa)]
theorem aoS (a0 r) (h:JW a0=some r):aW ai 27 [ad j8 a0] (.ag 2 (r.map hz)) []:=by
 refine bB [0] [.tmp 2] Tryz.func27 alb λbu ak bt=>al ?_;obtain⟨yN,aU,h⟩:=aM h;refine sf (U (ru aU) @List.map_replicate.{0,0}) [(0,ad j8 a0),(3,.ag 2 (List.replicate (Int.toNat (a0.length:Int)) (.agg [(R 0),.bf])))] ?_;refine ax ak λ_ fa bQ _=>ws [(0,ad j8 a0),(3,.ag 2 (List.replicate (Int.toNat (a0.length:Int)) (.agg [(R 0),.bf]))),(4,R 0)] ?_;refine bj bQ λjB _ c_ dC _=>?_;show bn ai (.loop ?iu) _ _;have iC:∀n bY bK,Pr a0 n bY bK=some r->cJ ai ?iu jB (ar [(0,ad j8 a0),(3,.ag 2 (bY.map hz)),(4,R bK)]):=by
  refine cX λ_ iD bY bK h=>cW c_ λ_ n7 eJ bw=>ax eJ λ_ n8 _ cD=>al ?_;refine aF h (λfl h=>?_) λfl h=>?_
  .refine aL (n8 _ (inl (ax eJ λ_ n11 h6 _=>bj h6 λ_ n12 _ _ _=>?_)));obtain⟨aa,dT,ah,dX,aI,cx,h⟩:=iQ h;refine hx (b5 [(0,ad j8 a0),(3,.ag 2 ((List.set bY (Int.toNat bK) ah).map hz)),(4,R bK)] (λP bd=>?_) ?_)
   ·(try simp only[aH.down,simprocAttr,dT,cx,b2 cx,cS,da]);refine dz (aoR aa _ dX) (hK:= ?_);simp only[aH.down,simprocAttr,dT,cx,b2 cx,cS,da];exact bR (U dT (U cx (U (b2 cx) @cS)))
   refine n12 _ (n11 _ (inl (wr [(0,ad j8 a0),(3,.ag 2 ((List.set bY (Int.toNat bK) ah).map hz)),(4,R (i64.wrap (bK+1)))] ?_)));exact n7 _ (inr ⟨_,bD rfl,iD (List.set bY (Int.toNat bK) ah) (i64.wrap (bK+1)) h⟩)
  .exact cN (cD 0 _ (bw 0 _ (dC _ (fa _ (inl (aS ak [.ag 2 (bY.map hz)]))))))
 obtain⟨n,h⟩:=ma h;exact qe (inr ⟨_,hP [] rfl (cO (t:=0) (d:=ad j8 a0) rfl (hD (t:=3) (d:=.ag 2 (List.replicate (Int.toNat (a0.length:Int)) (.agg [(R 0),.bf]))) (bN:=.ag 2 ((List.replicate (Int.toNat (a0.length:Int)) (cM.mk 0 [])).map hz)) rfl rfl (FA (u:=hz) (z:=(cM.mk 0 [])) (.agg (.cons (.refl _) (.cons (.hY _) (.nil)))) _) (by decide) (cO (t:=4) (d:=R 0) rfl (hQ)))),iC n (List.replicate (Int.toNat (a0.length:Int)) (cM.mk 0 [])) 0 h⟩)
theorem aoT (a0 r) (h:Gb a0=some r):aW ai 53 [jK a0] (bH r) []:=by
 refine bB [0] [.cell 2 103] Tryz.func53 c53 λbu ak bt=>al ?_;refine al ?_;refine al ?_;refine al ?_;refine al ?_;exact aS ak [bH (bW.mk a0.Left a0.cH a0.Result)]
theorem aoU (a0 r) (h:JX a0=some r):aW ai 28 [ad jK a0] (.ag 3 (r.map bH)) []:=by
 refine bB [0] [.tmp 2] Tryz.func28 c28 λbu ak bt=>al ?_;obtain⟨yN,aU,h⟩:=aM h;refine sf (U (ru aU) @List.map_replicate.{0,0}) [(0,ad jK a0),(3,.ag 3 ((List.replicate (Int.toNat (a0.length:Int)) (bW.mk ([]:aAc) ([]:aAc) ([]:aAc))).map bH))] ?_;refine ax ak λ_ fa bQ _=>ws [(0,ad jK a0),(3,.ag 3 ((List.replicate (Int.toNat (a0.length:Int)) (bW.mk ([]:aAc) ([]:aAc) ([]:aAc))).map bH)),(4,R 0)] ?_;refine bj bQ λjB _ c_ dC _=>?_;show bn ai (.loop ?iu) _ _;have iC:∀n bY bK,Ps a0 n bY bK=some r->cJ ai ?iu jB (ar [(0,ad jK a0),(3,.ag 3 (bY.map bH)),(4,R bK)]):=by
  refine cX λ_ iD bY bK h=>cW c_ λ_ n7 eJ bw=>ax eJ λ_ n8 _ cD=>al ?_;refine aF h (λfl h=>?_) λfl h=>?_
  .refine aL (n8 _ (inl (ax eJ λ_ n11 h6 _=>bj h6 λ_ n12 _ _ _=>?_)));obtain⟨aa,dT,ah,dX,aI,cx,h⟩:=iQ h;refine hx (b5 [(0,ad jK a0),(3,.ag 3 ((List.set bY (Int.toNat bK) ah).map bH)),(4,R bK)] (λP bd=>?_) ?_)
   ·(try simp only[aH.down,simprocAttr,dT,cx,b2 cx,cS,da]);refine dz (aoT aa _ dX) (hK:= ?_);simp only[aH.down,simprocAttr,dT,cx,b2 cx,cS,da];exact bR (U dT (U cx (U (b2 cx) @cS)))
   refine n12 _ (n11 _ (inl (wr [(0,ad jK a0),(3,.ag 3 ((List.set bY (Int.toNat bK) ah).map bH)),(4,R (i64.wrap (bK+1)))] ?_)));exact n7 _ (inr ⟨_,bD rfl,iD (List.set bY (Int.toNat bK) ah) (i64.wrap (bK+1)) h⟩)
  .exact cN (cD 0 _ (bw 0 _ (dC _ (fa _ (inl (aS ak [.ag 3 (bY.map bH)]))))))
 exact dp h λn h=>iC n (List.replicate (Int.toNat (a0.length:Int)) (bW.mk ([]:aAc) ([]:aAc) ([]:aAc))) 0 h
theorem aar (a0 r) (h:Gc a0=some r):aW ai 29 [ad aE a0] (.ag 1 (r.map aE)) []:=by
 refine bB [0] [.tmp 2] Tryz.func29 alc λbu ak bt=>al ?_;obtain⟨LG,aU,h⟩:=aM h;refine sf (U (ru aU) @List.map_replicate.{0,0}) [(0,ad aE a0),(3,.ag 1 ((List.replicate (Int.toNat (a0.length:Int)) ([]:aAc)).map aE))] ?_;refine ax ak λ_ fa bQ _=>ws [(0,ad aE a0),(3,.ag 1 ((List.replicate (Int.toNat (a0.length:Int)) ([]:aAc)).map aE)),(4,R 0)] ?_;refine bj bQ λjB _ c_ dC _=>?_;show bn ai (.loop ?iu) _ _;have iC:∀n bY bK,Pt a0 n bY bK=some r->cJ ai ?iu jB (ar [(0,ad aE a0),(3,.ag 1 (bY.map aE)),(4,R bK)]):=by
  refine cX λ_ iD bY bK h=>cW c_ λ_ n7 eJ bw=>ax eJ λ_ n8 _ cD=>al ?_;refine aF h (λfl h=>?_) λfl h=>?_
  .refine aL (n8 _ (inl (ax eJ λ_ n11 h6 _=>bj h6 λ_ n12 _ _ _=>?_)));obtain⟨aa,dT,ah,dX,h⟩:=dk h;refine hx (b5 [(0,ad aE a0),(3,.ag 1 ((List.set bY (Int.toNat bK) aa).map aE)),(4,R bK)] (λP bd=>?_) ?_)
   .simp only[aH.down,simprocAttr,dT,dX,b2 dX,cS,da];exact bR (U dT (U dX (U (b2 dX) @cS)))
   refine n12 _ (n11 _ (inl (wr [(0,ad aE a0),(3,.ag 1 ((List.set bY (Int.toNat bK) aa).map aE)),(4,R (i64.wrap (bK+1)))] ?_)));exact n7 _ (inr ⟨_,bD rfl,iD (List.set bY (Int.toNat bK) aa) (i64.wrap (bK+1)) h⟩)
  .exact cN (cD 0 _ (bw 0 _ (dC _ (fa _ (inl (aS ak [.ag 1 (bY.map aE)]))))))
 exact dp h λn h=>iC n (List.replicate (Int.toNat (a0.length:Int)) ([]:aAc)) 0 h
theorem LH (a0 r) (h:yn a0=some r):aW ai 7 [od a0] (tv r) []:=by
 refine bB [0] [.cell 2 37] Tryz.func7 NV λbu ak bt=>al ?_;refine al ?_;obtain⟨aa,b_,h⟩:=aM h;refine cP (aoQ a0.cz _ b_) _ ?_;obtain⟨ah,cv,h⟩:=aM h;refine cP (aoS a0.cj _ cv) _ ?_;obtain⟨aI,fH,h⟩:=aM h;refine cP (aoU a0.b9 _ fH) _ ?_;obtain⟨aZ,iI,h⟩:=aM h;refine cP (aar a0.cC _ iI) _ ?_;obtain⟨aX,dx,h⟩:=aM h;refine cP (aar a0.cA _ dx) _ ?_;exact aS ak [tv (cT.mk aa ah aI aZ aX)]
theorem aoV (a0 r) (h:Gd a0=some r):aW ai 30 [jL a0] (ey r) []:=by
 refine bB [0] [.cell 2 65] Tryz.func30 ald λbu ak bt=>al ?_;refine al ?_;refine al ?_;refine al ?_;obtain⟨aa,cv,h⟩:=aM h;refine cP (aaq a0.bP _ cv) _ ?_;exact aS ak [ey (ba.mk a0.cy a0.Part aa)]
theorem LI (a0 r) (h:zX a0=some r):aW ai 8 [ad jL a0] (.ag 3 (r.map ey)) []:=by
 refine bB [0] [.tmp 2] Tryz.func8 iu λbu ak bt=>al ?_;obtain⟨yN,aU,h⟩:=aM h;refine sf (U (ru aU) @List.map_replicate.{0,0}) [(0,ad jL a0),(3,.ag 3 (List.replicate (Int.toNat (a0.length:Int)) (.agg [(R 0),(R 0),.bf])))] ?_;refine ax ak λ_ fa bQ _=>ws [(0,ad jL a0),(3,.ag 3 (List.replicate (Int.toNat (a0.length:Int)) (.agg [(R 0),(R 0),.bf]))),(4,R 0)] ?_;refine bj bQ λjB _ c_ dC _=>?_;show bn ai (.loop ?iu) _ _;have iC:∀n bY bK,Pu a0 n bY bK=some r->cJ ai ?iu jB (ar [(0,ad jL a0),(3,.ag 3 (bY.map ey)),(4,R bK)]):=by
  refine cX λ_ iD bY bK h=>cW c_ λ_ n7 eJ bw=>ax eJ λ_ n8 _ cD=>al ?_;refine aF h (λfl h=>?_) λfl h=>?_
  .refine aL (n8 _ (inl (ax eJ λ_ n11 h6 _=>bj h6 λ_ n12 _ _ _=>?_)));obtain⟨aa,dT,ah,dX,aI,cx,h⟩:=iQ h;refine hx (b5 [(0,ad jL a0),(3,.ag 3 ((List.set bY (Int.toNat bK) ah).map ey)),(4,R bK)] (λP bd=>?_) ?_)
   ·(try simp only[aH.down,simprocAttr,dT,cx,b2 cx,cS,da]);refine dz (aoV aa _ dX) (hK:= ?_);simp only[aH.down,simprocAttr,dT,cx,b2 cx,cS,da];exact bR (U dT (U cx (U (b2 cx) @cS)))
   refine n12 _ (n11 _ (inl (wr [(0,ad jL a0),(3,.ag 3 ((List.set bY (Int.toNat bK) ah).map ey)),(4,R (i64.wrap (bK+1)))] ?_)));exact n7 _ (inr ⟨_,bD rfl,iD (List.set bY (Int.toNat bK) ah) (i64.wrap (bK+1)) h⟩)
  .exact cN (cD 0 _ (bw 0 _ (dC _ (fa _ (inl (aS ak [.ag 3 (bY.map ey)]))))))
 obtain⟨n,h⟩:=ma h;exact qe (inr ⟨_,hP [] rfl (cO (t:=0) (d:=ad jL a0) rfl (hD (t:=3) (d:=.ag 3 (List.replicate (Int.toNat (a0.length:Int)) (.agg [(R 0),(R 0),.bf]))) (bN:=.ag 3 ((List.replicate (Int.toNat (a0.length:Int)) (ba.mk 0 0 [])).map ey)) rfl rfl (FA (u:=ey) (z:=(ba.mk 0 0 [])) (.agg (.cons (.refl _) (.cons (.refl _) (.cons (.hY _) (.nil))))) _) (by decide) (cO (t:=4) (d:=R 0) rfl (hQ)))),iC n (List.replicate (Int.toNat (a0.length:Int)) (ba.mk 0 0 [])) 0 h⟩)
theorem Se (a0 r) (h:Ge a0=some r):aW ai 185 [.int .u8 (a0.toNat:Int)] (.bool r) []:=by
 refine bB [0] [.tmp 2] Tryz.func185 ale λbu ak bt=>al ?_;refine oh (decide (97<=(a0.toNat:Int))) [(2,.bool ((decide (97<=(a0.toNat:Int)))&&(decide ((a0.toNat:Int)<=122))))] ?_;exact cK ak [.bool ((decide (97<=(a0.toNat:Int)))&&(decide ((a0.toNat:Int)<=122)))]
theorem Sf (a0 r) (h:Cf a0=some r):aW ai 186 [.int .u8 (a0.toNat:Int)] (.bool r) []:=by
 refine bB [0] [.tmp 2] Tryz.func186 alf λbu ak bt=>al ?_;refine oh (decide (48<=(a0.toNat:Int))) [(2,.bool ((decide (48<=(a0.toNat:Int)))&&(decide ((a0.toNat:Int)<=57))))] ?_;exact cK ak [.bool ((decide (48<=(a0.toNat:Int)))&&(decide ((a0.toNat:Int)<=57)))]
theorem DQ (a0 r) (h:yo a0=some r):aW ai 140 [.str a0] (.bool r) []:=by
 refine bB [0] [.tmp 2] Tryz.func140 alg λbu ak bt=>al ?_;refine ax ak λ_ bJ bg ah=>?_;rcases dL h with⟨bZ,h⟩|⟨bZ,h⟩
 .refine c6 bZ _ ?_;refine i1 rfl ?_;exact aS bg [.bool false]
 .rcases dL h with⟨dC,h⟩|⟨dC,h⟩
  .refine c6 (U bZ dC) _ ?_;refine i1 rfl ?_;exact aS bg [.bool false]
  .obtain⟨aa,fH,ah,jt,h⟩:=dk h;refine eR (U bZ (U dC fH)) (Se aa _ jt) _ ?_;refine aF h (λfl h=>?_) λfl h=>?_
   .exact aS bg [.bool false]
   .refine aL (bJ _ (inl (ax ak λ_ n12 j_ _=>al ?_)));refine bj j_ λHB _ ez hG _=>?_;show bn ai (.loop ?gU) _ _;have gW:∀n er,Gf a0 n er=some r->cJ ai ?gU HB (ar [(0,.str a0),(3,R er)]):=by
     refine cX λ_ gG er h=>cW ez λ_ n15 gM hf=>ax gM λ_ n16 _ ji=>al ?_;refine aF h (λh5 h=>?_) λh5 h=>?_
     .refine aL (n16 _ (inl (ax gM λ_ n19 AM _=>bj AM λ_ n20 HC _ _=>?_)));obtain⟨aI,fz,aZ,iT,h⟩:=dk h;rcases dL h with⟨hA,h⟩|⟨hA,h⟩
      .obtain⟨aX,hI,h⟩:=aM h;refine dw (b5 [(0,.str a0),(3,R er),(34,.bool (!aX))] (λP bd=>?_) ?_)
       ·(try simp only[aH.down,simprocAttr,fz,(hd hA)]);refine dz (Se aI _ iT) (hK:= ?_);simp only[aH.down,simprocAttr,fz,(hd hA)];refine iO (Sf aI _ hI) (hK:= ?_);simp only[aH.down,simprocAttr,fz,(hd hA)];exact bR (U fz (hd hA))
       refine aF h (λkq h=>?_) λkq h=>?_
       .exact aS HC [.bool false]
       .refine aL (n20 _ (n19 _ (inl (dA ?_))));exact n15 _ (inr ⟨_,bD rfl,gG (i64.wrap (er+1)) h⟩)
      .refine eR (U fz (cf hA)) (Se aI _ iT) _ ?_;refine n1 rfl ?_;refine aL (n20 _ (n19 _ (inl (dA ?_))));exact n15 _ (inr ⟨_,bD rfl,gG (i64.wrap (er+1)) h⟩)
     .exact cN (ji 0 _ (hf 0 _ (hG _ (n12 _ (inl (aS ak [.bool true]))))))
    exact dp h λn h=>gW n 0 h
theorem pX (a0 J a2 r) (h:ml a0 J a2=some r):aW ai 101 [R a0,R J,R a2] (.bool r) []:=by
 refine bB [0,1,2] [.tmp 6] Tryz.func101 alh λbu ak bt=>al ?_;refine oh (decide (J<=a0)) [(6,.bool ((decide (J<=a0))&&(decide (a0<=a2))))] ?_;exact cK ak [.bool ((decide (J<=a0))&&(decide (a0<=a2)))]
theorem aas (a0 r) (h:Gh a0=some r):aW ai 189 [ej eu a0] (R r) []:=by
 refine bB [0] [.tmp 2] Tryz.func189 ali λbu ak bt=>al ?_;refine ax ak λ_ bJ bg _=>al ?_;refine bj bg λeV fa bQ _ _=>?_;show bn ai (.seq _ ?kL) _ _;have AN:∀j2,Gg a0 j2=some r->bn ai ?kL eV (ar [(6,R a0.Kind),(7,.bool j2)]):=by
  intro j2 h;refine aF h (λdC h=>?_) λdC h=>?_
  .exact aS bQ [R 1]
  .refine al ?_;refine aF h (λe4 h=>?_) λe4 h=>?_
   .exact aS bQ [R 2]
   .exact aL (fa _ (bJ _ (inl (aS ak [R 0]))))
 refine ax bQ λ_ dU _ _=>al ?_;refine aF h (λfh h=>?_) λfh h=>?_
 .simp only[fh,Hz.down];exact aL (dU _ (inr ⟨_,bD rfl,AN true h⟩))
 .refine al ?_;refine aF h (λeZ h=>?_) λeZ h=>?_
  .simp only[eZ,Hz.down];exact aL (dU _ (inr ⟨_,bD rfl,AN true h⟩))
  .refine dA ?_;exact dU _ (inr ⟨_,bD rfl,AN (a0.Kind==4) h⟩)
theorem aoW (a0 r) (h:JY a0=some r):aW ai 187 [ad eu a0] (.bool r) []:=by
 refine bB [0] [.tmp 2] Tryz.func187 alj λbu ak bt=>al ?_;refine ax ak λ_ bJ bg ah=>oh ((a0.length:Int)==0) [(0,ad eu a0),(12,.bool (((a0.length:Int)==0)||(decide (20<(a0.length:Int)))))] ?_;refine aF h (λbZ h=>?_) λbZ h=>?_
 .exact aS bg [.bool false]
 .refine aL (bJ _ (inl (al ?_)));refine ax ak λ_ n7 eJ _=>al ?_;refine bj eJ λj9 _ b6 e4 _=>?_;show bn ai (.loop ?kL) _ _;have lg:∀n gT ho,Cg a0 n gT ho=some r->cJ ai ?kL j9 (ar [(0,ad eu a0),(3,R gT),(4,R ho)]):=by
   refine cX λ_ lh gT ho h=>cW b6 λ_ n10 cQ dH=>ax cQ λ_ n11 _ eY=>al ?_;refine aF h (λfh h=>?_) λfh h=>?_
   .refine aL (n11 _ (inl (ax cQ λ_ n14 ez _=>bj ez λ_ n15 gM _ _=>ax gM λ_ n16 nj _=>al ?_)));refine aF h (λh5 h=>?_) λh5 h=>?_
    .exact aS nj [.bool false]
    .refine aL (n16 _ (inl ?_));obtain⟨aa,gV,ah,fz,h⟩:=dk h;refine AK gV (aas aa _ fz) _ ?_;refine n15 _ (n14 _ (inl (dA ?_)));exact n10 _ (inr ⟨_,bD rfl,lh (i64.wrap (gT+(i64.wrap (ah-1)))) (i64.wrap (ho+1)) h⟩)
   .exact cN (eY 0 _ (dH 0 _ (e4 _ (n7 _ (inl (aS ak [.bool (gT==0)]))))))
  exact dp h λn h=>lg n 1 0 h
theorem aoX (a0 r) (h:Px a0=some r):aW ai 217 [ej eu a0] (.bool r) []:=by
 refine bB [0] [.tmp 2] Tryz.func217 alk λbu ak bt=>al ?_;refine ax ak λ_ bJ bg _=>al ?_;refine bj bg λeV fa bQ _ _=>?_;show bn ai (.seq _ ?c12) _ _;have sj:∀Gi,JZ a0 Gi=some r->bn ai ?c12 eV (ar [(0,ej eu a0),(6,R a0.Kind),(7,.bool Gi)]):=by
  intro Gi h;refine aF h (λdC h=>?_) λdC h=>?_
  .refine dw (b5 [(2,.bool (((a0.Number==0)&&(a0.Name==([]:aAc)))&&((a0.cm.length:Int)==0)))] (λP bd=>?_) ?_)
   ·(rcases Bool.eq_false_or_eq_true (a0.Number==0)with yO|yO)<;>(rcases Bool.eq_false_or_eq_true (a0.Name==([]:aAc))with sk|sk)<;>
     (simp only[aH.down,simprocAttr,yO,sk]
      exact bR (U yO sk))
   exact cK bQ [.bool (((a0.Number==0)&&(a0.Name==([]:aAc)))&&((a0.cm.length:Int)==0))]
  .refine al ?_;refine aF h (λnK h=>?_) λnK h=>?_
   .exact aS bQ [.bool (a0.Number==0)]
   .refine al ?_;refine aF h (λhG h=>?_) λhG h=>?_
    .refine oh (a0.Number==0) [(2,.bool ((a0.Number==0)&&(a0.Name==([]:aAc))))] ?_;exact cK bQ [.bool ((a0.Number==0)&&(a0.Name==([]:aAc)))]
    .refine al ?_;refine aF h (λkr h=>?_) λkr h=>?_
     .refine oh (a0.Name==([]:aAc)) [(2,.bool ((a0.Name==([]:aAc))&&((a0.cm.length:Int)==0)))] ?_;exact cK bQ [.bool ((a0.Name==([]:aAc))&&((a0.cm.length:Int)==0))]
     .refine al ?_;refine aF h (λfX h=>?_) λfX h=>?_
      .exact aS bQ [.bool (a0.Name==([]:aAc))]
      .exact aL (fa _ (bJ _ (inl (aS ak [.bool false]))))
 refine ax bQ λ_ dU _ _=>al ?_;refine aF h (λhA h=>?_) λhA h=>?_
 .simp only[hA,Hz.down];exact aL (dU _ (inr ⟨_,bD rfl,sj true h⟩))
 .refine dA ?_;exact dU _ (inr ⟨_,bD rfl,sj (a0.Kind==2) h⟩)
theorem aat (a0 J r) (h:Gj a0 J=some r):aW ai 144 [ad eu a0,R J] (R r) []:=by
 refine bB [0] [.tmp 4] Tryz.func144 alm λbu ak bt=>al ?_;refine al ?_;refine ax ak λ_ fg dt _=>bj dt λeV _ bQ bZ _=>?_;show bn ai (.loop ?eT) _ _;have e9:∀n bc aO,Ch a0 n bc aO=some r->cJ ai ?eT eV (ar [(0,ad eu a0),(1,R bc),(5,R aO)]):=by
  refine cX λ_ eS bc aO h=>cW bQ λ_ dU cG aX=>ax cG λ_ n6 _ bz=>al ?_;refine aF h (λcp h=>?_) λcp h=>?_
  .refine aL (n6 _ (inl (bj cG λ_ cE _ _ _=>?_)));obtain⟨aa,kD,ah,dx,h⟩:=dk h;refine eR kD (aas aa _ dx) _ ?_;refine dA ?_;exact cE _ (dU _ (inr ⟨_,bD rfl,eS (i64.wrap (bc+1)) (i64.wrap (aO+(i64.wrap (ah-1)))) h⟩))
  .exact cN (bz 0 _ (aX 0 _ (bZ _ (fg _ (inl (aS ak [R bc]))))))
 exact dp h λn h=>e9 n J 1 h
theorem Sg (a0 J r) (h:wm a0 J=some r):aW ai 102 [ej bk a0,R J] (R r) []:=by
 refine bB [0,1] [.tmp 4] Tryz.func102 aln λbu ak bt=>al ?_;refine al ?_;refine ax ak λ_ fg dt _=>al ?_;refine bj dt λpY _ cG c7 _=>?_;show bn ai (.loop ?iu) _ _;have iC:∀n fD j3,zY a0 J n fD j3=some r->cJ ai ?iu pY (ar [(0,ej bk a0),(1,R J),(5,R fD),(6,R j3)]):=by
  refine cX λm8 iD fD j3 h=>cW cG λjB n6 c_ bz=>ax c_ λ_ n7 _ bw=>al ?_;refine aF h (λe4 h=>?_) λe4 h=>?_
  .refine aL (n7 _ (inl ?_));show bn ai (.seq _ ?RS) _ _;have wT:∀Ci Cj,Gk (zY a0 J m8) a0 J Ci Cj=some r->bn ai ?RS jB (ar [(0,ej bk a0),(1,R J),(5,R Ci),(6,R Cj)]):=by
    intro Ci Cj h;refine dA ?_;exact n6 _ (inr ⟨_,bD rfl,iD Ci (i64.wrap (Cj+1)) h⟩)
   refine ax c_ λ_ n10 cQ _=>bj cQ λ_ n12 _ _ _=>?_;obtain⟨aa,dT,h⟩:=aM h;rcases dL h with⟨eZ,h⟩|⟨eZ,h⟩
   .obtain⟨ah,cx,h⟩:=aM h;refine eR (U dT eZ) (aat a0.Body j3 _ cx) _ ?_;refine aF h (λkr h=>?_) λkr h=>?_
    .refine dA ?_;exact n12 _ (n10 _ (inr ⟨_,bD rfl,wT (i64.wrap (fD+1)) j3 h⟩))
    .exact aL (n12 _ (n10 _ (inr ⟨_,bD rfl,wT fD j3 h⟩)))
   .refine c6 (U dT eZ) _ ?_;refine n1 rfl ?_;exact aL (n12 _ (n10 _ (inr ⟨_,bD rfl,wT fD j3 h⟩)))
  .exact cN (bw 0 _ (bz 0 _ (c7 _ (fg _ (inl (aS ak [R fD]))))))
 exact dp h λn h=>iC n a0.dW 0 h
theorem aoY (a0 J r) (h:J0 a0 J=some r):aW ai 251 [ej dY a0,R J] (.bool r) []:=by
 refine bB [0,1] [.tmp 4] Tryz.func251 alo λbu ak bt=>al ?_;refine ax ak λ_ bJ bg ah=>al ?_;refine bj bg λ_ fa bQ _ _=>al ?_;refine aF h (λdC h=>?_) λdC h=>?_
 .obtain⟨aa,fH,h⟩:=aM h;refine cP (pX a0.Value 0 63 _ fH) _ ?_;exact cK bQ [.bool aa]
 .refine al ?_;refine aF h (λfl h=>?_) λfl h=>?_
  .obtain⟨ah,dx,h⟩:=aM h;refine cP (pX a0.Value 0 (i64.wrap (J-1)) _ dx) _ ?_;exact cK bQ [.bool ah]
  .refine al ?_;refine aF h (λhG h=>?_) λhG h=>?_
   .obtain⟨aI,cx,h⟩:=aM h;refine cP (pX a0.Value 0 8 _ cx) _ ?_;exact cK bQ [.bool aI]
   .refine al ?_;refine aF h (λh5 h=>?_) λh5 h=>?_
    .exact aS bQ [.bool (a0.Value==0)]
    .exact aL (fa _ (bJ _ (inl (aS ak [.bool false]))))
theorem aau (a0 r) (h:J1 a0=some r):aW ai 252 [ej dY a0] (R r) []:=by
 refine bB [0] [.tmp 2] Tryz.func252 alp λbu ak bt=>al ?_;refine ax ak λ_ bJ bg _=>al ?_;refine bj bg λ_ fa bQ _ _=>al ?_;refine aF h (λdC h=>?_) λdC h=>?_
 .exact aS bQ [R 2]
 .refine al ?_;refine aF h (λe4 h=>?_) λe4 h=>?_
  .exact aS bQ [R 1]
  .exact aL (fa _ (bJ _ (inl (aS ak [R 0]))))
theorem aoZ (a0 J a2 r) (h:J2 a0 J a2=some r):aW ai 218 [ad dY a0,R J,R a2] (.bool r) []:=by
 refine bB [0,1,2] [.tmp 6] Tryz.func218 c218 λbu ak bt=>al ?_;refine ax ak λ_ bJ bg ah=>al ?_;refine aF h (λbZ h=>?_) λbZ h=>?_
 .exact aS bg [.bool false]
 .refine aL (bJ _ (inl (al ?_)));refine ax ak λ_ n7 eJ _=>al ?_;refine bj eJ λj9 _ b6 e4 _=>?_;show bn ai (.loop ?kL) _ _;have lg:∀n j2 uJ,Ck a0 J n j2 uJ=some r->cJ ai ?kL j9 (ar [(0,ad dY a0),(1,R J),(7,R j2),(8,R uJ)]):=by
   refine cX λ_ lh j2 uJ h=>cW b6 λ_ n10 cQ dH=>ax cQ λ_ n11 _ eY=>al ?_;refine aF h (λfh h=>?_) λfh h=>?_
   .refine aL (n11 _ (inl (ax cQ λ_ n14 ez _=>bj ez λ_ n15 gM _ _=>ax gM λ_ n16 nj _=>?_)));rcases dL h with⟨h5,h⟩|⟨h5,h⟩
    .refine c6 h5 _ ?_;refine i1 rfl ?_;exact aS nj [.bool false]
    .obtain⟨aa,fK,ah,gV,h⟩:=dk h;refine eR (U h5 fK) (aoY aa J _ gV) _ ?_;refine aF h (λAO h=>?_) λAO h=>?_
     .exact aS nj [.bool false]
     .refine aL (n16 _ (inl ?_));obtain⟨aI,hI,h⟩:=aM h;refine AK fK (aau aa _ hI) _ ?_;refine n15 _ (n14 _ (inl (dA ?_)));exact n10 _ (inr ⟨_,bD rfl,lh (i64.wrap (j2+(i64.wrap (aI-1)))) (i64.wrap (uJ+1)) h⟩)
   .exact cN (eY 0 _ (dH 0 _ (e4 _ (n7 _ (inl (aS ak [.bool (j2==0)]))))))
  exact dp h λn h=>lg n 1 0 h
theorem ao0 (a0 J a2 r) (h:tb a0 J a2=some r):aW ai 188 [ad bk a0,ej bk J,R a2] (R r) []:=by
 refine bB [0,1,2] [.tmp 6] Tryz.func188 als λbu ak bt=>al ?_;obtain⟨aa,aU,h⟩:=aM h;refine c6 aU _ ?_;refine ax ak λ_ fa bQ aZ=>?_;obtain⟨ah,cv,h⟩:=aM h;refine dw (b5 [(0,ad bk a0),(1,ej bk J),(2,R a2),(7,.aP (eu aa)),(19,.bool (!ah))] (λP bd=>?_) ?_)
 .refine dz (aoX aa _ cv) rfl rfl (by simp only[aH.down,simprocAttr,gQ,gR,gS,cR, @b0 _ jb jb (λ_=>RM _)]<;>rfl) rfl (inr (by rfl)) ?_;simp only[aH.down,simprocAttr];exact bR trivial
 refine aF h (λqR h=>?_) λqR h=>?_
 .exact aS bQ [R 2]
 .refine aL (fa _ (inl (ax ak λj9 cE b6 du=>?_)));have aav:∀Gn,Cl a0 J a2 aa Gn=some r->bn ai Zn j9 (ar [(0,ad bk a0),(1,ej bk J),(2,R a2),(7,.aP (eu aa)),(28,.bool Gn)]):=by
   intro Gn h;refine aF h (λfl h=>?_) λfl h=>?_
   .exact aS b6 [R 3]
   .refine aL (cE _ (inl (ax ak λHD n12 j_ _=>?_)));have HE:∀Gm,uM a0 J a2 aa Gm=some r->bn ai Zo HD (ar [(0,ad bk a0),(1,ej bk J),(2,R a2),(7,.aP (eu aa)),(51,.bool Gm)]):=by
     intro Gm h;refine aF h (λfh h=>?_) λfh h=>?_
     .exact aS j_ [R 4]
     .refine aL (n12 _ (inl (al ?_)));have LJ:wo J a2 aa=some r->bn ai Zr bu (ar [(1,ej bk J),(2,R a2),(7,.aP (eu aa)),(8,R (aa.cm.length:Int))]):=by
       intro h;refine ax ak λSh n17 lL _=>?_;have AP:∀Gl,ta J a2 aa Gl=some r->bn ai Zp Sh (ar [(1,ej bk J),(2,R a2),(7,.aP (eu aa)),(8,R (aa.cm.length:Int)),(102,.bool Gl)]):=by
        intro Gl h;refine aF h (λh5 h=>?_) λh5 h=>?_
        .exact aS lL [R 6]
        .refine aL (n17 _ (inl ?_));obtain⟨aI,gV,h⟩:=aM h;refine cP (Sg J a2 _ gV) _ ?_;refine ax ak λ_ n22 oi _=>oh (aa.Kind==4) [(7,.aP (eu aa)),(8,R (aa.cm.length:Int)),(9,R aI),(112,.bool ((aa.Kind==4)&&(decide (6<=aI))))] ?_;refine aF h (λhA h=>?_) λhA h=>?_
         .exact aS oi [R 7]
         .refine aL (n22 _ (inl (ax ak λ_ n26 tA _=>al ?_)));refine bj tA λSi _ HA ks _=>?_;have Sj:∀n uK uL,yp aa n uK uL=some r->cJ ai Zq Si (ar [(7,.aP (eu aa)),(8,R (aa.cm.length:Int)),(9,R uK),(10,R uL)]):=by
           refine cX λ_ Sk uK uL h=>cW HA λ_ n29 tB HF=>ax tB λ_ n30 _ Sl=>al ?_;refine aF h (λHG h=>?_) λHG h=>?_
           .refine aL (n30 _ (inl (ax tB λ_ n33 HH _=>bj HH λ_ n34 wU _ _=>?_)));obtain⟨aZ,pZ,aX,tC,h⟩:=dk h;refine eR pZ (aoZ aZ uK 15 _ tC) _ ?_;refine aF h (λAQ h=>?_) λAQ h=>?_
            .exact aS wU [R 8]
            .refine aL (n34 _ (n33 _ (inl (dA ?_))));exact n29 _ (inr ⟨_,bD rfl,Sk uK (i64.wrap (uL+1)) h⟩)
           .exact cN (Sl 1 _ (HF 1 _ (ks _ (n26 _ (inl (aS ak [R 0]))))))
          exact dp h λn h=>Sj n aI 0 h
       rcases dL h with⟨AR,h⟩|⟨AR,h⟩
       .rcases dL h with⟨wV,h⟩|⟨wV,h⟩
        .refine l1 (b5 (K:=eM _) [(1,ej bk J),(2,R a2),(7,.aP (eu aa)),(8,R (aa.cm.length:Int)),(102,.bool true)] (λP bd=>?_) ?_)
         .simp only[aH.down,simprocAttr,AR,wV];exact bR (U AR wV)
         exact inr ⟨_,bD rfl,AP true h⟩
        .obtain⟨bz,yP,h⟩:=aM h;refine l1 (b5 (K:=eM _) [(1,ej bk J),(2,R a2),(7,.aP (eu aa)),(8,R (aa.cm.length:Int)),(102,.bool (bz.Kind !=1))] (λP bd=>?_) ?_)
         .simp only[aH.down,simprocAttr,AR,wV,yP];exact bR (U AR (U wV yP))
         exact inr ⟨_,bD rfl,AP (bz.Kind !=1) h⟩
       .refine l1 (b5 (K:=eM _) [(1,ej bk J),(2,R a2),(7,.aP (eu aa)),(8,R (aa.cm.length:Int)),(102,.bool false)] (λP bd=>?_) ?_)
        .simp only[aH.down,simprocAttr,AR];exact bR AR
        exact inr ⟨_,bD rfl,AP false h⟩
      refine ax ak λ_ n16 nj _=>al ?_;refine bj nj λ_ n47 sl _ _=>al ?_;refine aF h (λSm h=>?_) λSm h=>?_
      .refine dw (b5 [(1,ej bk J),(2,R a2),(7,.aP (eu aa)),(8,R (aa.cm.length:Int)),(69,.bool ((decide (2<(aa.cm.length:Int)))||((decide (0<(aa.cm.length:Int)))&&(aa.Name==([116,97,117]:aAc)))))] (λP bd=>?_) ?_)
       ·(rcases Bool.eq_false_or_eq_true (decide (2<(aa.cm.length:Int)))with Sp|Sp)<;>(rcases Bool.eq_false_or_eq_true (decide (0<(aa.cm.length:Int)))with Sq|Sq)<;>
         (simp only[aH.down,simprocAttr,Sp,Sq]
          exact bR (U Sp Sq))
       refine aF h (λao1 h=>?_) λao1 h=>?_
       .exact aS sl [R 5]
       .exact aL (n47 _ (n16 _ (inr ⟨_,bD rfl,LJ h⟩)))
      .refine al ?_;refine aF h (λHI h=>?_) λHI h=>?_
       .refine al ?_;refine aF h (λSr h=>?_) λSr h=>?_
        .exact aS sl [R 5]
        .exact aL (n47 _ (n16 _ (inr ⟨_,bD rfl,LJ h⟩)))
       .refine al ?_;refine aF h (λAU h=>?_) λAU h=>?_
        .obtain⟨bw,Ss,h⟩:=aM h;refine c6 Ss _ ?_;refine aF h (λSt h=>?_) λSt h=>?_
         .exact aS sl [R 5]
         .exact aL (n47 _ (n16 _ (inr ⟨_,bD rfl,LJ h⟩)))
        .exact aL (n47 _ (n16 _ (inr ⟨_,bD rfl,LJ h⟩)))
    rcases dL h with⟨oj,h⟩|⟨oj,h⟩
    .obtain⟨cD,Su,h⟩:=aM h;rcases dL h with⟨rk,h⟩|⟨rk,h⟩
     .refine l1 (b5 (K:=eM _) [(0,ad bk a0),(1,ej bk J),(2,R a2),(7,.aP (eu aa)),(51,.bool true)] (λP bd=>?_) ?_)
      ·(try simp only[aH.down,simprocAttr,oj,(hd rk)]);refine iO (pX aa.Number 1 7 _ Su) (hK:= ?_);simp only[aH.down,simprocAttr,oj,(hd rk)];exact bR (U oj (hd rk))
      exact inr ⟨_,bD rfl,HE true h⟩
     .rcases dL h with⟨yQ,h⟩|⟨yQ,h⟩
      .obtain⟨du,vr,h⟩:=aM h;refine l1 (b5 (K:=eM _) [(0,ad bk a0),(1,ej bk J),(2,R a2),(7,.aP (eu aa)),(51,.bool (!du))] (λP bd=>?_) ?_)
       ·(try simp only[aH.down,simprocAttr,oj,(cf rk),yQ]);refine iO (pX aa.Number 1 7 _ Su) (hK:= ?_);simp only[aH.down,simprocAttr,oj,(cf rk),yQ];refine iO (pX aa.Number 0 (i64.wrap ((a0.length:Int)-1)) _ vr) (hK:= ?_);simp only[aH.down,simprocAttr,oj,(cf rk),yQ];exact bR (U oj (U (cf rk) yQ))
       exact inr ⟨_,bD rfl,HE (!du) h⟩
      .refine l1 (b5 (K:=eM _) [(0,ad bk a0),(1,ej bk J),(2,R a2),(7,.aP (eu aa)),(51,.bool false)] (λP bd=>?_) ?_)
       ·(try simp only[aH.down,simprocAttr,oj,(cf rk),yQ]);refine iO (pX aa.Number 1 7 _ Su) (hK:= ?_);simp only[aH.down,simprocAttr,oj,(cf rk),yQ];exact bR (U oj (U (cf rk) yQ))
       exact inr ⟨_,bD rfl,HE false h⟩
    .rcases dL h with⟨DR,h⟩|⟨DR,h⟩
     .obtain⟨dH,HJ,h⟩:=aM h;refine l1 (b5 (K:=eM _) [(0,ad bk a0),(1,ej bk J),(2,R a2),(7,.aP (eu aa)),(51,.bool (!dH))] (λP bd=>?_) ?_)
      ·(try simp only[aH.down,simprocAttr,oj,DR]);refine iO (pX aa.Number 0 (i64.wrap ((a0.length:Int)-1)) _ HJ) (hK:= ?_);simp only[aH.down,simprocAttr,oj,DR];exact bR (U oj DR)
      exact inr ⟨_,bD rfl,HE (!dH) h⟩
     .refine l1 (b5 (K:=eM _) [(0,ad bk a0),(1,ej bk J),(2,R a2),(7,.aP (eu aa)),(51,.bool false)] (λP bd=>?_) ?_)
      .simp only[aH.down,simprocAttr,oj,DR];exact bR (U oj DR)
      exact inr ⟨_,bD rfl,HE false h⟩
  rcases dL h with⟨DS,h⟩|⟨DS,h⟩
  .obtain⟨eY,LK,h⟩:=aM h;refine l1 (b5 (K:=eM _) [(0,ad bk a0),(1,ej bk J),(2,R a2),(7,.aP (eu aa)),(28,.bool (!eY))] (λP bd=>?_) ?_)
   ·(try simp only[aH.down,simprocAttr,DS]);refine iO (DQ aa.Name _ LK) (hK:= ?_);simp only[aH.down,simprocAttr,DS];exact bR DS
   exact inr ⟨_,bD rfl,aav (!eY) h⟩
  .refine l1 (b5 (K:=eM _) [(0,ad bk a0),(1,ej bk J),(2,R a2),(7,.aP (eu aa)),(28,.bool false)] (λP bd=>?_) ?_)
   .simp only[aH.down,simprocAttr,DS];exact bR DS
   exact inr ⟨_,bD rfl,aav false h⟩
theorem ao2 (a0 J r) (h:wt a0 J=some r):aW ai 141 [ad bk a0,ej bk J] (.tuple [R r.1,R r.2]) []:=by
 refine bB [0,1] [.tmp 4,.tmp 5] Tryz.func141 c141 λbu ak bt=>al ?_;refine ax ak λ_ bJ bg ah=>?_;obtain⟨aa,b_,h⟩:=aM h;refine cP (aoW J.Body _ b_) _ ?_;refine aF h (λc7 h=>?_) λc7 h=>?_
 .exact aS bg [R 0,R 1]
 .refine aL (bJ _ (inl (ax ak λ_ n7 eJ _=>al ?_)));refine bj eJ λj9 _ b6 e4 _=>?_;show bn ai (.loop ?gU) _ _;have gW:∀n q3,wq a0 J n q3=some r->cJ ai ?gU j9 (ar [(0,ad bk a0),(1,ej bk J),(6,R q3)]):=by
   refine cX λ_ gG q3 h=>cW b6 λ_ n10 cQ dH=>ax cQ λ_ n11 _ eY=>al ?_;refine aF h (λfh h=>?_) λfh h=>?_
   .refine aL (n11 _ (inl (ax cQ λ_ n14 ez _=>bj ez λ_ n15 gM _ _=>?_)));obtain⟨ah,dN,h⟩:=aM h;refine cP (ao0 a0 J q3 _ dN) _ ?_;refine al ?_;refine aF h (λgh h=>?_) λgh h=>?_
    .exact aS gM [R q3,R ah]
    .refine aL (n15 _ (n14 _ (inl (dA ?_))));exact n10 _ (inr ⟨_,bD rfl,gG (i64.wrap (q3+1)) h⟩)
   .exact cN (eY 0 _ (dH 0 _ (e4 _ (n7 _ (inl (aS ak [R 0,R 0]))))))
  exact dp h λn h=>gW n 0 h
theorem ao3 (a0 r) (h:J3 a0=some r):aW ai 97 [ad bk a0] (.bool r) []:=by
 refine bB [0] [.tmp 2] Tryz.func97 alu λbu ak bt=>al ?_;refine ax ak λ_ bJ bg ah=>oh ((a0.length:Int)==0) [(0,ad bk a0),(15,.bool (((a0.length:Int)==0)||(decide (4<(a0.length:Int)))))] ?_;refine aF h (λbZ h=>?_) λbZ h=>?_
 .exact aS bg [.bool false]
 .refine aL (bJ _ (inl (ax ak λ_ n6 c_ bz=>al ?_)));refine bj c_ λiE _ hF cp _=>?_;show bn ai (.loop ?gU) _ _;have gW:∀n er,wu a0 n er=some r->cJ ai ?gU iE (ar [(0,ad bk a0),(3,R er)]):=by
   refine cX λm14 gG er h=>cW hF λ_ cE b6 du=>ax b6 λ_ n10 _ dH=>al ?_;refine aF h (λe3 h=>?_) λe3 h=>?_
   .refine aL (n10 _ (inl (ax b6 λ_ n13 fC _=>bj fC λ_ n14 ez _ _=>ax ez λ_ n15 gM _=>?_)));obtain⟨aa,dN,ah,ev,h⟩:=dk h;rcases dL h with⟨gh,h⟩|⟨gh,h⟩
    .refine eR (U dN (hd gh)) (DQ aa.Name _ ev) _ ?_;refine i1 rfl ?_;exact aS gM [.bool false]
    .obtain⟨aI,gV,h⟩:=aM h;refine dw (b5 [(0,ad bk a0),(3,R er),(37,.bool (!aI))] (λP bd=>?_) ?_)
     ·(try simp only[aH.down,simprocAttr,dN,(cf gh)]);refine dz (DQ aa.Name _ ev) (hK:= ?_);simp only[aH.down,simprocAttr,dN,(cf gh)];refine iO (pX aa.dW 0 3 _ gV) (hK:= ?_);simp only[aH.down,simprocAttr,dN,(cf gh)];exact bR (U dN (cf gh))
     refine aF h (λAO h=>?_) λAO h=>?_
     .exact aS gM [.bool false]
     .refine aL (n15 _ (inl (al ?_)));refine bj ez λSv _ pf rl _=>?_;show bn ai (.loop ?Sw) _ _;have Sy:∀n rT uN,Cm (wu a0 m14) a0 n rT uN=some r->cJ ai ?Sw Sv (ar [(0,ad bk a0),(3,R rT),(4,R uN)]):=by
       refine cX λ_ Sz rT uN h=>cW pf λ_ n26 tA rY=>ax tA λ_ n27 _ uV=>al ?_;refine aF h (λh7 h=>?_) λh7 h=>?_
       .refine aL (n27 _ (inl (ax tA λ_ n30 HK _=>bj HK λ_ n31 HL _ _=>?_)));obtain⟨aZ,pg,aX,jC,h⟩:=dk h;refine og (U pg jC) _ ?_;refine aF h (λwW h=>?_) λwW h=>?_
        .exact aS HL [.bool false]
        .refine aL (n31 _ (n30 _ (inl (dA ?_))));exact n26 _ (inr ⟨_,bD rfl,Sz rT (i64.wrap (uN+1)) h⟩)
       .refine cN (uV 2 _ (rY 2 _ (rl _ (n14 _ (n13 _ (inl (dA ?_)))))));exact cE _ (inr ⟨_,bD rfl,gG (i64.wrap (rT+1)) h⟩)
      exact dp h λn h=>Sy n er 0 h
   .refine cN (dH 0 _ (du 0 _ (cp _ (n6 _ (inl (ax ak λ_ n39 vt _=>al ?_))))));refine bj vt λHM _ vu tD _=>?_;show bn ai (.loop ?RY) _ _;have HN:∀n uO,zZ a0 n uO=some r->cJ ai ?RY HM (ar [(0,ad bk a0),(5,R uO)]):=by
     refine cX λ_ HO uO h=>cW vu λ_ n42 yR AV=>ax yR λ_ n43 _ ao4=>al ?_;refine aF h (λAW h=>?_) λAW h=>?_
     .refine aL (n43 _ (inl (ax yR λ_ n46 wX _=>bj wX λ_ n47 sl _ _=>?_)));obtain⟨bz,qw,bw,HP,h⟩:=dk h;refine eR qw (ao2 a0 bz _ HP) _ ?_;refine al ?_;refine aF h (λHQ h=>?_) λHQ h=>?_
      .exact aS sl [.bool false]
      .refine aL (n47 _ (n46 _ (inl (dA ?_))));exact n42 _ (inr ⟨_,bD rfl,HO (i64.wrap (uO+1)) h⟩)
     .exact cN (ao4 4 _ (AV 4 _ (tD _ (n39 _ (inl (aS ak [.bool true]))))))
    exact dp h λn h=>HN n 0 h
  exact dp h λn h=>gW n 0 h
theorem aaw (a0 r) (h:Gq a0=some r):aW ai 103 [ad a8 a0] (.bool r) []:=by
 refine bB [0] [.tmp 2] Tryz.func103 alv λbu ak bt=>al ?_;refine ax ak λ_ bJ bg ah=>al ?_;refine bj bg λeV _ bQ bZ _=>?_;show bn ai (.loop ?eT) _ _;have e9:∀n iR,Cn a0 n iR=some r->cJ ai ?eT eV (ar [(0,ad a8 a0),(3,R iR)]):=by
  refine cX λ_ eS iR h=>cW bQ λ_ dU cG aX=>ax cG λ_ n6 _ bz=>al ?_;refine aF h (λcp h=>?_) λcp h=>?_
  .refine aL (n6 _ (inl (ax cG λ_ cE b6 _=>bj b6 λ_ n10 cQ _ _=>?_)));obtain⟨aa,dx,ah,el,h⟩:=dk h;refine eR dx (pX aa 0 63 _ el) _ ?_;refine aF h (λhG h=>?_) λhG h=>?_
   .exact aS cQ [.bool false]
   .refine aL (n10 _ (cE _ (inl (dA ?_))));exact dU _ (inr ⟨_,bD rfl,eS (i64.wrap (iR+1)) h⟩)
  .exact cN (bz 0 _ (aX 0 _ (bZ _ (bJ _ (inl (aS ak [.bool true]))))))
 exact dp h λn h=>e9 n 0 h
theorem ao5 (a0 r) (h:J4 a0=some r):aW ai 98 [ej ft a0] (.bool r) []:=by
 refine bB [0] [.tmp 2] Tryz.func98 alw λbu ak bt=>al ?_;refine ax ak λ_ bJ bg ah=>oh ((a0.cj.length:Int)==0) [(0,ej ft a0),(18,.bool (((a0.cj.length:Int)==0)||(decide (3<(a0.cj.length:Int)))))] ?_;refine aF h (λbZ h=>?_) λbZ h=>?_
 .exact aS bg [.bool false]
 .refine aL (bJ _ (inl (ax ak λ_ n6 c_ _=>al ?_)));refine bj c_ λiE _ hF cp _=>?_;show bn ai (.loop ?gU) _ _;have gW:∀n er,Co a0 n er=some r->cJ ai ?gU iE (ar [(0,ej ft a0),(3,R er)]):=by
   refine cX λ_ gG er h=>cW hF λ_ cE b6 du=>ax b6 λ_ n10 _ dH=>al ?_;refine aF h (λe3 h=>?_) λe3 h=>?_
   .refine aL (n10 _ (inl (ax b6 λ_ n13 fC _=>bj fC λ_ n14 ez _ _=>?_)));obtain⟨aa,cx,h⟩:=aM h;refine c6 cx _ ?_;refine ax ez λ_ n17 lL _=>?_;obtain⟨ah,eN,h⟩:=aM h;refine aow (pX aa.cy 0 (i64.wrap ((a0.cz.length:Int)-1)) _ eN) _ ?_;refine aF h (λfX h=>?_) λfX h=>?_
    .exact aS lL [.bool false]
    .refine aL (n17 _ (inl ?_));obtain⟨aI,iT,h⟩:=aM h;rcases dL h with⟨hA,h⟩|⟨hA,h⟩
     .refine og (U iT hA) _ ?_;refine i1 rfl ?_;exact aS ez [.bool false]
     .obtain⟨aZ,rm,h⟩:=aM h;refine mn (U iT hA) (aaw aa.bP _ rm) _ ?_;refine aF h (λnL h=>?_) λnL h=>?_
      .exact aS ez [.bool false]
      .refine aL (n14 _ (n13 _ (inl (dA ?_))));exact cE _ (inr ⟨_,bD rfl,gG (i64.wrap (er+1)) h⟩)
   .exact cN (dH 0 _ (du 0 _ (cp _ (n6 _ (inl (aS ak [.bool true]))))))
  exact dp h λn h=>gW n 0 h
theorem so (a0 r) (h:uP a0=some r):aW ai 142 [.str a0] (.bool r) []:=by
 refine bB [0] [.tmp 2] Tryz.func142 alx λbu ak bt=>al ?_;obtain⟨aa,aU,h⟩:=aM h;refine dw (b5 [(2,.bool (aa&&(!(a0==([116,97,117]:aAc)))))] (λP bd=>?_) ?_)
 .rcases Bool.eq_false_or_eq_true (aa)with mV|mV
  ·(try simp only[aH.down,simprocAttr,mV]);refine dz (DQ a0 _ aU) (hK:= ?_);simp only[aH.down,simprocAttr,mV];exact bR mV
  ·(try simp only[aH.down,simprocAttr,mV]);refine dz (DQ a0 _ aU) (hK:= ?_);simp only[aH.down,simprocAttr,mV];exact bR mV
 exact cK ak [.bool (aa&&(!(a0==([116,97,117]:aAc))))]
theorem ao6 (a0 r) (h:J5 a0=some r):aW ai 99 [ad bH a0] (.bool r) []:=by
 refine bB [0] [.tmp 2] Tryz.func99 aly λbu ak bt=>al ?_;refine ax ak λ_ bJ bg ah=>al ?_;refine aF h (λbZ h=>?_) λbZ h=>?_
 .exact aS bg [.bool false]
 .refine aL (bJ _ (inl (ax ak λ_ n6 c_ bz=>al ?_)));refine bj c_ λiE _ hF cp _=>?_;show bn ai (.loop ?gU) _ _;have gW:∀n er,tc a0 n er=some r->cJ ai ?gU iE (ar [(0,ad bH a0),(3,R er)]):=by
   refine cX λm14 gG er h=>cW hF λ_ cE b6 du=>ax b6 λ_ n10 _ dH=>al ?_;refine aF h (λe3 h=>?_) λe3 h=>?_
   .refine aL (n10 _ (inl (ax b6 λ_ n13 fC _=>bj fC λ_ n14 ez _ _=>?_)));obtain⟨aa,cx,h⟩:=aM h;refine c6 cx _ ?_;refine ax ez λ_ n17 lL _=>?_;obtain⟨ah,eN,h⟩:=aM h;rcases dL h with⟨fX,h⟩|⟨fX,h⟩
    .refine eR (hd fX) (so aa.Left _ eN) _ ?_;refine i1 rfl ?_;exact aS lL [.bool false]
    .obtain⟨aI,fz,h⟩:=aM h;rcases dL h with⟨gi,h⟩|⟨gi,h⟩
     .refine dw (b5 [(0,ad bH a0),(3,R er),(4,.aP (bH aa)),(41,.bool true)] (λP bd=>?_) ?_)
      ·(try simp only[aH.down,simprocAttr,(cf fX),(hd gi)]);refine dz (so aa.Left _ eN) (hK:= ?_);simp only[aH.down,simprocAttr,(cf fX),(hd gi)];refine iO (so aa.cH _ fz) (hK:= ?_);simp only[aH.down,simprocAttr,(cf fX),(hd gi)];exact bR (U (cf fX) (hd gi))
      refine i1 rfl ?_;exact aS lL [.bool false]
     .obtain⟨aZ,hI,h⟩:=aM h;refine dw (b5 [(0,ad bH a0),(3,R er),(4,.aP (bH aa)),(41,.bool ((!aZ)||(!(Op.bytesLess aa.Left aa.cH||aa.Left==aa.cH))))] (λP bd=>?_) ?_)
      .rcases Bool.eq_false_or_eq_true (aZ)with tE|tE
       ·(try simp only[aH.down,simprocAttr,(cf fX),(cf gi),tE]);refine dz (so aa.Left _ eN) (hK:= ?_);simp only[aH.down,simprocAttr,(cf fX),(cf gi),tE];refine iO (so aa.cH _ fz) (hK:= ?_);simp only[aH.down,simprocAttr,(cf fX),(cf gi),tE];refine iO (so aa.Result _ hI) (hK:= ?_);simp only[aH.down,simprocAttr,(cf fX),(cf gi),tE];exact bR (U (cf fX) (U (cf gi) tE))
       ·(try simp only[aH.down,simprocAttr,(cf fX),(cf gi),tE]);refine dz (so aa.Left _ eN) (hK:= ?_);simp only[aH.down,simprocAttr,(cf fX),(cf gi),tE];refine iO (so aa.cH _ fz) (hK:= ?_);simp only[aH.down,simprocAttr,(cf fX),(cf gi),tE];refine iO (so aa.Result _ hI) (hK:= ?_);simp only[aH.down,simprocAttr,(cf fX),(cf gi),tE];exact bR (U (cf fX) (U (cf gi) tE))
      refine aF h (λnL h=>?_) λnL h=>?_
      .exact aS lL [.bool false]
      .refine aL (n17 _ (inl (ax ez λ_ n29 tB _=>?_)));rcases dL h with⟨hp,h⟩|⟨hp,h⟩
       .obtain⟨aX,wY,h⟩:=aM h;refine jv rfl (iN [(0,ad bH a0),(3,R er),(4,.aP (bH aa)),(76,.bool ((!(Op.bytesLess aX.Left aa.Left||aX.Left==aa.Left))||((aX.Left==aa.Left)&&(!(Op.bytesLess aX.cH aa.cH)))))] (λP bd=>?_) ?_)
        ·(rcases Bool.eq_false_or_eq_true (Op.bytesLess aX.Left aa.Left)with SA|SA)<;>(rcases Bool.eq_false_or_eq_true (aX.Left==aa.Left)with SB|SB)<;>
          (simp only[dh.down,simprocAttr,hp,wY,SA,SB]
           refine⟨hS (by kernel_rfl),?_⟩;exact bR (U hp (U wY (U SA SB))))
        refine aF h (λwW h=>?_) λwW h=>?_
        .exact aS tB [.bool false]
        .refine aL (n29 _ (inl (al ?_)));refine bj ez λao7 _ SC AQ _=>?_;show bn ai (.loop ?Hy) _ _;have SD:∀n n4 oK,wv (tc a0 m14) a0 aa n n4 oK=some r->cJ ai ?Hy ao7 (ar [(0,ad bH a0),(3,R n4),(4,.aP (bH aa)),(5,R oK)]):=by
          refine cX λao8 SE n4 oK h=>cW SC λ_ n39 vt ao9=>ax vt λ_ n40 _ ao_=>al ?_;refine aF h (λapa h=>?_) λapa h=>?_
          .refine aL (n40 _ (inl (ax vt λ_ n43 apb _=>bj apb λ_ n44 apc _ _=>?_)));obtain⟨bz,LL,h⟩:=aM h;refine aab (bz.Left==aa.Result) LL [(0,ad bH a0),(3,R n4),(4,.aP (bH aa)),(5,R oK),(100,.bool ((bz.Left==aa.Result)||(bz.cH==aa.Result)))] ?_;refine aF h (λapd h=>?_) λapd h=>?_
           .exact aS apc [.bool false]
           .refine aL (n44 _ (n43 _ (inl (dA ?_))));exact n39 _ (inr ⟨_,bD rfl,SE n4 (i64.wrap (oK+1)) h⟩)
          .refine cN (ao_ 2 _ (ao9 2 _ (AQ _ (n14 _ (n13 _ (inl (dA ?_)))))));exact cE _ (inr ⟨_,bD rfl,gG (i64.wrap (n4+1)) h⟩)
         exact dp h λn h=>SD n er 0 h
       .refine og hp _ ?_;refine n1 rfl ?_;refine aL (n29 _ (inl (al ?_)));refine bj ez λSF _ SG HQ _=>?_;show bn ai (.loop ?Hy) _ _;have SD:∀n n4 oK,wv (tc a0 m14) a0 aa n n4 oK=some r->cJ ai ?Hy SF (ar [(0,ad bH a0),(3,R n4),(4,.aP (bH aa)),(5,R oK)]):=by
         refine cX λao8 SE n4 oK h=>cW SG λ_ n53 HR SH=>ax HR λ_ n54 _ SI=>al ?_;refine aF h (λHI h=>?_) λHI h=>?_
         .refine aL (n54 _ (inl (ax HR λ_ n57 SJ _=>bj SJ λ_ SK ape _ _=>?_)));obtain⟨bw,ph,h⟩:=aM h;refine aab (bw.Left==aa.Result) ph [(0,ad bH a0),(3,R n4),(4,.aP (bH aa)),(5,R oK),(100,.bool ((bw.Left==aa.Result)||(bw.cH==aa.Result)))] ?_;refine aF h (λAU h=>?_) λAU h=>?_
          .exact aS ape [.bool false]
          .refine aL (SK _ (n57 _ (inl (dA ?_))));exact n53 _ (inr ⟨_,bD rfl,SE n4 (i64.wrap (oK+1)) h⟩)
         .refine cN (SI 2 _ (SH 2 _ (HQ _ (n14 _ (n13 _ (inl (dA ?_)))))));exact cE _ (inr ⟨_,bD rfl,gG (i64.wrap (n4+1)) h⟩)
        exact dp h λn h=>SD n er 0 h
   .exact cN (dH 0 _ (du 0 _ (cp _ (n6 _ (inl (aS ak [.bool true]))))))
  exact dp h λn h=>gW n 0 h
theorem apf (a0 r) (h:J6 a0=some r):aW ai 143 [ad aE a0] (.bool r) []:=by
 refine bB [0] [.tmp 2] Tryz.func143 c143 λbu ak bt=>al ?_;refine ax ak λ_ bJ bg ah=>al ?_;refine bj bg λeV _ bQ bZ _=>?_;show bn ai (.loop ?eT) _ _;have e9:∀n iR,Cp a0 n iR=some r->cJ ai ?eT eV (ar [(0,ad aE a0),(3,R iR)]):=by
  refine cX λ_ eS iR h=>cW bQ λ_ dU cG aX=>ax cG λ_ n6 _ bz=>al ?_;refine aF h (λcp h=>?_) λcp h=>?_
  .refine aL (n6 _ (inl (ax cG λ_ cE b6 _=>bj b6 λ_ n10 cQ _ _=>?_)));obtain⟨aa,dx,ah,el,h⟩:=dk h;refine eR dx (so aa _ el) _ ?_;refine aF h (λhG h=>?_) λhG h=>?_
   .exact aS cQ [.bool false]
   .refine aL (n10 _ (cE _ (inl (dA ?_))));exact dU _ (inr ⟨_,bD rfl,eS (i64.wrap (iR+1)) h⟩)
  .exact cN (bz 0 _ (aX 0 _ (bZ _ (bJ _ (inl (aS ak [.bool true]))))))
 exact dp h λn h=>e9 n 0 h
theorem aax (a0 r) (h:Gr a0=some r):aW ai 100 [ad aE a0] (.bool r) []:=by
 refine bB [0] [.tmp 2] Tryz.func100 alz λbu ak bt=>al ?_;refine ax ak λ_ bJ bg ah=>?_;rcases dL h with⟨bZ,h⟩|⟨bZ,h⟩
 .refine c6 bZ _ ?_;refine i1 rfl ?_;exact aS bg [.bool false]
 .obtain⟨aa,cv,h⟩:=aM h;refine eR bZ (apf a0 _ cv) _ ?_;refine aF h (λqR h=>?_) λqR h=>?_
  .exact aS bg [.bool false]
  .refine aL (bJ _ (inl (ax ak λ_ cE b6 _=>al ?_)));refine bj b6 λSL _ h6 nK _=>?_;show bn ai (.loop ?gU) _ _;have gW:∀n er,rU a0 n er=some r->cJ ai ?gU SL (ar [(0,ad aE a0),(3,R er)]):=by
    refine cX λ_ gG er h=>cW h6 λ_ n12 j_ jj=>ax j_ λ_ n13 _ l3=>al ?_;refine aF h (λeZ h=>?_) λeZ h=>?_
    .refine aL (n13 _ (inl (ax j_ λ_ n16 nj _=>bj nj λ_ n17 lL _ _=>?_)));obtain⟨ah,eN,aI,fK,h⟩:=dk h;refine og (U eN fK) _ ?_;refine aF h (λsq h=>?_) λsq h=>?_
     .exact aS lL [.bool false]
     .refine aL (n17 _ (n16 _ (inl (dA ?_))));exact n12 _ (inr ⟨_,bD rfl,gG (i64.wrap (er+1)) h⟩)
    .exact cN (l3 0 _ (jj 0 _ (nK _ (cE _ (inl (aS ak [.bool true]))))))
   exact dp h λn h=>gW n 1 h
theorem apg (a0 r) (h:J8 a0=some r):aW ai 66 [ej ft a0] (R r) []:=by
 refine bB [0] [.tmp 2] Tryz.func66 alA λbu ak bt=>al ?_;refine ax ak λ_ bJ bg ah=>?_;obtain⟨aa,b_,h⟩:=aM h;refine cP (ao3 a0.cz _ b_) _ ?_;refine aF h (λc7 h=>?_) λc7 h=>?_
 .exact aS bg [R 1]
 .refine aL (bJ _ (inl (ax ak λ_ n7 eJ _=>?_)));obtain⟨ah,jt,h⟩:=aM h;refine cP (ao5 a0 _ jt) _ ?_;refine aF h (λfl h=>?_) λfl h=>?_
  .exact aS eJ [R 2]
  .refine aL (n7 _ (inl (ax ak λ_ n12 j_ _=>?_)));obtain⟨aI,dT,h⟩:=aM h;refine cP (ao6 a0.b9 _ dT) _ ?_;refine aF h (λeZ h=>?_) λeZ h=>?_
   .exact aS j_ [R 3]
   .refine aL (n12 _ (inl (ax ak λ_ n17 lL _=>?_)));obtain⟨aZ,eN,h⟩:=aM h;refine cP (aax a0.cC _ eN) _ ?_;refine aF h (λfX h=>?_) λfX h=>?_
    .exact aS lL [R 4]
    .refine aL (n17 _ (inl (ax ak λ_ n22 oi _=>?_)));obtain⟨aX,lM,h⟩:=aM h;refine cP (aax a0.cA _ lM) _ ?_;refine aF h (λrl h=>?_) λrl h=>?_
     .exact aS oi [R 5]
     .exact aL (n22 _ (inl (aS ak [R 0])))
theorem aay (a0 r) (h:J9 a0=some r):aW ai 48 [ej ft a0] (.bool r) []:=by
 refine bB [0] [.tmp 2] Tryz.func48 alB λbu ak bt=>al ?_;obtain⟨aa,aU,h⟩:=aM h;refine cP (apg a0 _ aU) _ ?_;exact cK ak [.bool (aa==0)]
theorem aph (a0 J r) (h:td a0 J=some r):aW ai 67 [ad bk a0,ej bF J] (.bool r) []:=by
 refine bB [0,1] [.tmp 4] Tryz.func67 alC λbu ak bt=>al ?_;refine ax ak λ_ bJ bg ah=>?_;obtain⟨aa,b_,h⟩:=aM h;refine cP (pX J.cy 0 (i64.wrap ((a0.length:Int)-1)) _ b_) _ ?_;refine aF h (λc7 h=>?_) λc7 h=>?_
 .exact aS bg [.bool false]
 .refine aL (bJ _ (inl ?_));obtain⟨ah,fH,h⟩:=aM h;refine c6 fH _ ?_;refine ax ak λ_ cE b6 _=>?_;obtain⟨aI,kD,h⟩:=aM h;rcases dL h with⟨e3,h⟩|⟨e3,h⟩
  .refine mn (hd e3) (pX J.Part 0 (i64.wrap ((ah.Body.length:Int)-1)) _ kD) _ ?_;refine i1 rfl ?_;exact aS b6 [.bool false]
  .obtain⟨aZ,dT,h⟩:=aM h;refine mn (U (cf e3) dT) (pX J.Part 0 (i64.wrap ((ah.Body.length:Int)-1)) _ kD) _ ?_;refine aF h (λeZ h=>?_) λeZ h=>?_
   .exact aS b6 [.bool false]
   .refine aL (cE _ (inl ?_));obtain⟨aX,ev,h⟩:=aM h;rcases dL h with⟨gh,h⟩|⟨gh,h⟩
    .obtain⟨bz,fK,h⟩:=aM h;refine jv rfl (iN [(4,.bool bz)] (λP bd=>?_) ?_)
     ·(try simp only[dh.down,simprocAttr,gh]);refine hZ (Sg ah J.Part _ ev) rfl rfl (by simp only[dh.down,simprocAttr,gh,aac.down]<;>rfl) rfl (inr (by rfl)) ?_;simp only[dh.down,simprocAttr,gh];refine lX (aaw J.bP _ fK) (hK:= ?_);simp only[dh.down,simprocAttr,gh];refine⟨hS (by kernel_rfl),?_⟩;exact bR gh
     exact cK ak [.bool bz]
    .refine jv rfl (iN [(4,.bool false)] (λP bd=>?_) ?_)
     ·(try simp only[dh.down,simprocAttr,gh]);refine hZ (Sg ah J.Part _ ev) rfl rfl (by simp only[dh.down,simprocAttr,gh,aac.down]<;>rfl) rfl (inr (by rfl)) ?_;simp only[dh.down,simprocAttr,gh];refine⟨hS (by kernel_rfl),?_⟩;exact bR gh
     exact cK ak [.bool false]
theorem api (a0 J r) (h:J_ a0 J=some r):aW ai 49 [ej ft a0,ad bF J] (.bool r) []:=by
 refine bB [0,1] [.tmp 4] Tryz.func49 c49 λbu ak bt=>al ?_;refine ax ak λ_ bJ bg ah=>al ?_;refine aF h (λbZ h=>?_) λbZ h=>?_
 .exact aS bg [.bool false]
 .refine aL (bJ _ (inl (ax ak λ_ n6 c_ _=>al ?_)));refine bj c_ λiE _ hF cp _=>?_;show bn ai (.loop ?gU) _ _;have gW:∀n ct,Cq a0 J n ct=some r->cJ ai ?gU iE (ar [(0,ej ft a0),(1,ad bF J),(5,R ct)]):=by
   refine cX λ_ gG ct h=>cW hF λ_ cE b6 du=>ax b6 λ_ n10 _ dH=>al ?_;refine aF h (λe3 h=>?_) λe3 h=>?_
   .refine aL (n10 _ (inl (ax b6 λ_ n13 fC _=>bj fC λ_ n14 ez _ _=>?_)));obtain⟨aa,cx,ah,dN,h⟩:=dk h;refine mn cx (aph a0.cz aa _ dN) _ ?_;refine aF h (λh5 h=>?_) λh5 h=>?_
    .exact aS ez [.bool false]
    .refine aL (n14 _ (n13 _ (inl (dA ?_))));exact cE _ (inr ⟨_,bD rfl,gG (i64.wrap (ct+1)) h⟩)
   .exact cN (dH 0 _ (du 0 _ (cp _ (n6 _ (inl (aS ak [.bool true]))))))
  exact dp h λn h=>gW n 0 h
theorem apj (a0 J r) (h:Ka a0 J=some r):aW ai 22 [ej ft a0,ad bF J] (R r) []:=by
 refine bB [0,1] [.tmp 4] Tryz.func22 RS λbu ak bt=>al ?_;refine ax ak λ_ bJ bg ah=>?_;obtain⟨aa,b_,h⟩:=aM h;rcases dL h with⟨c7,h⟩|⟨c7,h⟩
 .refine eR (hd c7) (aay a0 _ b_) _ ?_;refine i1 rfl ?_;exact aS bg [R 1]
 .obtain⟨ah,cd,h⟩:=aM h;refine dw (b5 [(13,.bool (!ah))] (λP bd=>?_) ?_)
  ·(try simp only[aH.down,simprocAttr,(cf c7)]);refine dz (aay a0 _ b_) (hK:= ?_);simp only[aH.down,simprocAttr,(cf c7)];refine iO (api a0 J _ cd) (hK:= ?_);simp only[aH.down,simprocAttr,(cf c7)];exact bR (cf c7)
  refine aF h (λcp h=>?_) λcp h=>?_
  .exact aS bg [R 1]
  .exact aL (bJ _ (inl (aS ak [R 0])))
theorem SM (a0 r) (h:Cr a0=some r):aW ai 106 [ad a8 a0] (.ag 1 (r.map a8)) []:=by
 refine bB [0] [.tmp 2] Tryz.func106 alD λbu ak bt=>al ?_;obtain⟨O0,aU,h⟩:=aM h;(try simp only[fN.down,Nat.zero_add,Nat.add_zero,reduceAdd]at aU);refine c6 (U (show∀s,dM ai s 52 0 []=some (.ag 1 [],s)from λs=>by kernel_rfl) (U (@i7 ai 52 52 2 rfl rfl) (U @i_ (U @ja (U @fW (U @i6 (U @all_nil (U aU (@ic _ a8 1 λ_=>rfl))))))))) _ ?_;exact cK ak [.ag 1 (a0.map a8)]
theorem wZ (a0 r) (h:rV a0=some r):aW ai 219 [.bool a0] (R r) []:=by
 refine bB [0] [.tmp 2] Tryz.func219 alE λbu ak bt=>al ?_;refine ax ak λ_ bJ bg _=>al ?_;refine aF h (λbZ h=>?_) λbZ h=>?_
 .exact aS bg [R 1]
 .exact aL (bJ _ (inl (aS ak [R 0])))
theorem apk (a0 J r) (h:Kb a0 J=some r):aW ai 220 [ad dY a0,R J] (R r) []:=by
 refine bB [0] [.tmp 4] Tryz.func220 alF λbu ak bt=>al ?_;refine al ?_;refine ax ak λ_ fg dt _=>bj dt λeV _ bQ bZ _=>?_;show bn ai (.loop ?eT) _ _;have e9:∀n bc aO,Cs a0 n bc aO=some r->cJ ai ?eT eV (ar [(0,ad dY a0),(1,R bc),(5,R aO)]):=by
  refine cX λ_ eS bc aO h=>cW bQ λ_ dU cG aX=>ax cG λ_ n6 _ bz=>al ?_;refine aF h (λcp h=>?_) λcp h=>?_
  .refine aL (n6 _ (inl (bj cG λ_ cE _ _ _=>?_)));obtain⟨aa,kD,ah,dx,h⟩:=dk h;refine eR kD (aau aa _ dx) _ ?_;refine dA ?_;exact cE _ (dU _ (inr ⟨_,bD rfl,eS (i64.wrap (bc+1)) (i64.wrap (aO+(i64.wrap (ah-1)))) h⟩))
  .exact cN (bz 0 _ (aX 0 _ (bZ _ (fg _ (inl (aS ak [R bc]))))))
 exact dp h λn h=>e9 n J 1 h
theorem apl (a0 J a2 r) (h:Kc a0 J a2=some r):aW ai 221 [R a0,R J,R a2] (R r) []:=by
 refine bB [0,1,2] [.tmp 6] Tryz.func221 alG λbu ak bt=>al ?_;refine ax ak λ_ bJ bg ah=>al ?_;refine bj bg λ_ fa bQ _ aZ=>al ?_;refine aF h (λdC h=>?_) λdC h=>?_
 .refine c6 (@yd .i64 64 (by decide)) _ ?_;exact cK bQ [R (Int.tmod (i64.wrap (J+a2)) 64)]
 .refine al ?_;refine aF h (λe4 h=>?_) λe4 h=>?_
  .refine c6 (@yd .i64 64 (by decide)) _ ?_;exact cK bQ [R (Int.tmod (i64.wrap ((i64.wrap (J-a2))+64)) 64)]
  .refine al ?_;refine aF h (λe3 h=>?_) λe3 h=>?_
   .refine c6 (@yd .i64 64 (by decide)) _ ?_;exact cK bQ [R (Int.tmod (i64.wrap (J*a2)) 64)]
   .refine al ?_;refine aF h (λeZ h=>?_) λeZ h=>?_
    .obtain⟨aa,dN,h⟩:=aM h;refine cP (wZ (J==a2) _ dN) _ ?_;exact cK bQ [R aa]
    .refine al ?_;refine aF h (λgh h=>?_) λgh h=>?_
     .obtain⟨ah,gV,h⟩:=aM h;refine cP (wZ (J !=a2) _ gV) _ ?_;exact cK bQ [R ah]
     .refine al ?_;refine aF h (λgi h=>?_) λgi h=>?_
      .obtain⟨aI,hI,h⟩:=aM h;refine cP (wZ (decide (J<a2)) _ hI) _ ?_;exact cK bQ [R aI]
      .refine al ?_;refine aF h (λnL h=>?_) λnL h=>?_
       .obtain⟨aZ,tF,h⟩:=aM h;refine cP (wZ (decide (J<=a2)) _ tF) _ ?_;exact cK bQ [R aZ]
       .refine al ?_;refine aF h (λhp h=>?_) λhp h=>?_
        .rcases dL h with⟨jD,h⟩|⟨jD,h⟩
         .obtain⟨aX,jC,h⟩:=aM h;refine eR jD (wZ (a2 !=0) _ jC) _ ?_;exact cK bQ [R aX]
         .obtain⟨bz,AX,h⟩:=aM h;refine eR jD (wZ false _ AX) _ ?_;exact cK bQ [R bz]
        .refine aL (fa _ (bJ _ (inl ?_)));rcases dL h with⟨qx,h⟩|⟨qx,h⟩
         .obtain⟨bw,tG,h⟩:=aM h;refine eR qx (wZ true _ tG) _ ?_;exact cK ak [R bw]
         .obtain⟨cD,w1,h⟩:=aM h;refine eR qx (wZ (a2 !=0) _ w1) _ ?_;exact cK ak [R cD]
theorem apm (Ct:aAv->aAe->Int->aAh) (SN:∀a0 J a2 r,Ct a0 J a2=some r->aW ai 190 [ad dY a0,ad a8 J,R a2] (R r) []) (a0 J a2 r) (h:PN Ct a0 J a2=some r):aW ai 190 [ad dY a0,ad a8 J,R a2] (R r) []:=by
 refine bB [0,1,2] [.tmp 6] Tryz.func190 alH λbu ak bt=>al ?_;refine ax ak λ_ bJ bg ah=>?_;obtain⟨aa,b_,h⟩:=aM h;refine c6 b_ _ ?_;refine bj bg λ_ dU cG _ aX=>al ?_;refine aF h (λqR h=>?_) λqR h=>?_
 .refine c6 b_ _ ?_;exact cK cG [R aa.Value]
 .refine al ?_;refine aF h (λfl h=>?_) λfl h=>?_
  .obtain⟨ah,dx,h⟩:=aM h;refine c6 (U b_ dx) _ ?_;exact cK cG [R ah]
  .refine al ?_;refine aF h (λhG h=>?_) λhG h=>?_
   .obtain⟨aI,cx,aZ,dN,h⟩:=dk h;refine dw (b5 [(6,R aZ)] (λP bd=>?_) ?_)
    ·(try simp only[aH.down,simprocAttr]);refine dz (SN a0 J (i64.wrap (a2+1)) _ cx) (hK:= ?_);simp only[aH.down,simprocAttr];refine dz (wZ (aI==0) _ dN) (hK:= ?_);simp only[aH.down,simprocAttr];exact bR trivial
    exact cK cG [R aZ]
   .refine aL (dU _ (bJ _ (inl ?_)));obtain⟨aX,eN,h⟩:=aM h;refine cP (SN a0 J (i64.wrap (a2+1)) _ eN) _ ?_;obtain⟨bz,gV,bw,fz,h⟩:=dk h;refine dw (b5 [(0,ad dY a0),(2,R a2),(7,R aX),(8,R bw)] (λP bd=>?_) ?_)
    ·(try simp only[aH.down,simprocAttr]);refine dz (apk a0 (i64.wrap (a2+1)) _ gV) (hK:= ?_);simp only[aH.down,simprocAttr];refine dz (SN a0 J bz _ fz) (hK:= ?_);simp only[aH.down,simprocAttr];exact bR trivial
    obtain⟨cD,lM,h⟩:=aM h;refine eR b_ (apl aa.Value aX bw _ lM) _ ?_;exact cK ak [R cD]
theorem apn:∀n a0 J a2 r,z1 n a0 J a2=some r->aW ai 190 [ad dY a0,ad a8 J,R a2] (R r) []:=by
 intro n;induction n with
 |zero=>intro a0 J a2 r h;cases(show none=some r from h)
 |succ n ih=>intro a0 J a2 r h;exact apm (z1 n) ih a0 J a2 r h
theorem apo (a0 J a2 r) (h:PO a0 J a2=some r):aW ai 190 [ad dY a0,ad a8 J,R a2] (R r) []:=by
 obtain⟨n,h⟩:=ma h;exact apn n a0 J a2 r h
theorem aaz (a0 J r) (h:z6 a0 J=some r):aW ai 147 [ad dY a0,ad a8 J] (R r) []:=by
 refine bB [0,1] [.tmp 4] Tryz.func147 alI λbu ak bt=>al ?_;obtain⟨aa,aU,h⟩:=aM h;refine cP (apo a0 J 0 _ aU) _ ?_;exact cK ak [R aa]
theorem aaA (a0 J r) (h:Gs a0 J=some r):aW ai 145 [ad jb a0,ad a8 J] (.ag 1 (r.map a8)) []:=by
 refine bB [0,1] [.tmp 4] Tryz.func145 c145 λbu ak bt=>al ?_;refine c6 (show∀s,dM ai s 52 0 []=some (.ag 1 [],s)from λs=>by kernel_rfl) _ ?_;refine ax ak λ_ fg dt _=>al ?_;refine bj dt λpY _ cG c7 _=>?_;show bn ai (.loop ?iu) _ _;have iC:∀n fD j3,Cu a0 J n fD j3=some r->cJ ai ?iu pY (ar [(0,ad jb a0),(1,ad a8 J),(5,.ag 1 (fD.map a8)),(6,R j3)]):=by
  refine cX λ_ iD fD j3 h=>cW cG λ_ n6 c_ bz=>ax c_ λ_ n7 _ bw=>al ?_;refine aF h (λe4 h=>?_) λe4 h=>?_
  .refine aL (n7 _ (inl (ax c_ λ_ n10 cQ _=>bj cQ λ_ n11 _ _ _=>?_)));obtain⟨aa,el,ah,dT,u16,dX,h⟩:=iQ h;(try simp only[fN.down,Nat.zero_add,Nat.add_zero,reduceAdd]at dX);refine AK (U el (U (show∀s,dM ai s 52 1 [(0,R ah)]=some (.ag 1 [R ah],s)from λs=>by kernel_rfl) (U (@i7 ai 52 52 2 rfl rfl) (U @i_ (U @ja (U @fW (U @i6 (U @all_nil (U dX (@ic _ a8 1 λ_=>rfl)))))))))) (aaz aa J _ dT) [(0,ad jb a0),(1,ad a8 J),(5,.ag 1 ((fD++[ah]).map a8)),(6,R j3)] ?_;refine n11 _ (n10 _ (inl (wr [(0,ad jb a0),(1,ad a8 J),(5,.ag 1 ((fD++[ah]).map a8)),(6,R (i64.wrap (j3+1)))] ?_)));exact n6 _ (inr ⟨_,bD rfl,iD (fD++[ah]) (i64.wrap (j3+1)) h⟩)
  .exact cN (bw 0 _ (bz 0 _ (c7 _ (fg _ (inl (aS ak [.ag 1 (fD.map a8)]))))))
 exact dp h λn h=>iC n [] 0 h
theorem apq (a0 r) (h:Gt a0=some r):aW ai 191 [R a0] (.str r) []:=by
 refine bB [0] [.tmp 2] Tryz.func191 alJ λbu ak bt=>al ?_;refine ax ak λ_ bJ bg _=>al ?_;refine aF h (λbZ h=>?_) λbZ h=>?_
 .exact aS bg [.str ([48]:aAc)]
 .refine aL (bJ _ (inl (c6 (show∀s,dM ai s 116 0 []=some (.ag 1 [],s)from λs=>by kernel_rfl) _ ?_)));refine ax ak λ_ n7 eJ _=>al ?_;refine bj eJ λj9 _ b6 e4 _=>?_;have lg:∀n gT ho,wy a0 n gT ho=some r->cJ ai Zt j9 (ar [(0,R a0),(3,.ag 1 (gT.map jg)),(4,R ho)]):=by
   refine cX λm16 lh gT ho h=>cW b6 λ_ n10 cQ dH=>ax cQ λ_ n11 _ eY=>al ?_;refine aF h (λfh h=>?_) λfh h=>?_
   .refine aL (n11 _ (inl (ax cQ λ_ n14 ez _=>bj ez λHS n15 gM _ _=>c6 (@yd .i64 10 (by decide)) _ ?_)));have aaB:∀wx yq uQ,Kd (wy a0 m16) a0 wx yq uQ=some r->bn ai Zs HS (ar [(0,R a0),(3,.ag 1 (wx.map jg)),(4,R yq),(5,R uQ)]):=by
     intro wx yq uQ h;obtain⟨HT,eN,h⟩:=aM h;(try simp only[fN.down,Nat.zero_add,Nat.add_zero,reduceAdd]at eN);refine pV (U (@Jp ai 2 5 .u8 rfl rfl) (U (show∀s,dM ai s 116 1 [(0,.int .u8 (u8.wrap (i64.wrap (48+uQ))))]=some (.ag 1 [.int .u8 (u8.wrap (i64.wrap (48+uQ)))],s)from λs=>by kernel_rfl) (U (@i7 ai 116 116 5 rfl rfl) (U @i_ (U @ja (U @fW (U @i6 (U @all_nil (U eN @OA))))))))) [(0,R a0),(3,.ag 1 ((wx++[(pr (i64.wrap (48+uQ)))]).map jg)),(4,R yq)] ?_;refine n15 _ (n14 _ (inl (pV (@XE .i64 10 (by decide)) [(0,R a0),(3,.ag 1 ((wx++[(pr (i64.wrap (48+uQ)))]).map jg)),(4,R (i64.wrap (Int.tdiv yq 10)))] ?_)));exact n10 _ (inr ⟨_,bD rfl,lh (wx++[(pr (i64.wrap (48+uQ)))]) (i64.wrap (Int.tdiv yq 10)) h⟩)
    refine ax gM λ_ n17 _ _=>al ?_;refine aF h (λAO h=>?_) λAO h=>?_
    .refine dA ?_;exact n17 _ (inr ⟨_,bD rfl,aaB gT ho (i64.wrap (0-(Int.tmod ho 10))) h⟩)
    .exact aL (n17 _ (inr ⟨_,bD rfl,aaB gT ho (Int.tmod ho 10) h⟩))
   .refine cN (eY 0 _ (dH 0 _ (e4 _ (n7 _ (inl ?_)))));have aaC:∀o_,yr o_=some r->bn ai Zv bu (ar [(3,.ag 1 (o_.map jg))]):=by
     intro o_ h;refine c6 (show∀s,dM ai s 116 0 []=some (.ag 1 [],s)from λs=>by kernel_rfl) _ ?_;refine ax ak λ_ n26 tA _=>al ?_;refine bj tA λSi _ HA ks _=>?_;have SO:∀n ix h4,PR o_ n ix h4=some r->cJ ai Zu Si (ar [(3,.ag 1 (o_.map jg)),(6,.ag 1 (ix.map jg)),(7,R h4)]):=by
      refine cX λ_ SP ix h4 h=>cW HA λ_ n29 tB HF=>ax tB λ_ n30 _ Sl=>al ?_;refine aF h (λHG h=>?_) λHG h=>?_
      .refine aL (n30 _ (inl (ax tB λ_ n33 HH _=>bj HH λ_ n34 _ _ _=>?_)));obtain⟨aa,pZ,apr,tC,h⟩:=dk h;(try simp only[fN.down,Nat.zero_add,Nat.add_zero,reduceAdd]at tC);refine pV (U pZ (U (b2 pZ) (U (show∀s,dM ai s 116 1 [(0,.int .u8 (aa.toNat:Int))]=some (.ag 1 [.int .u8 (aa.toNat:Int)],s)from λs=>by kernel_rfl) (U (@i7 ai 116 116 5 rfl rfl) (U @i_ (U @ja (U @fW (U @i6 (U @all_nil (U tC @OA)))))))))) [(3,.ag 1 (o_.map jg)),(6,.ag 1 ((ix++[aa]).map jg)),(7,R h4)] ?_;refine n34 _ (n33 _ (inl (wr [(3,.ag 1 (o_.map jg)),(6,.ag 1 ((ix++[aa]).map jg)),(7,R (i64.wrap (h4-1)))] ?_)));exact n29 _ (inr ⟨_,bD rfl,SP (ix++[aa]) (i64.wrap (h4-1)) h⟩)
      .refine cN (Sl 2 _ (HF 2 _ (ks _ (n26 _ (inl (c6 (U ((@XA ai 116 9 5 rfl rfl rfl).2.2) (U @XD @XB)) _ ?_))))));exact cK ak [.str ix]
     exact dp h λn h=>SO n [] (i64.wrap ((o_.length:Int)-1)) h
    refine ax ak λ_ n24 _ _=>al ?_;refine aF h (λtD h=>?_) λtD h=>?_
    .obtain⟨aps,tH,h⟩:=aM h;(try simp only[fN.down,Nat.zero_add,Nat.add_zero,reduceAdd]at tH);refine pV (U (show∀s,dM ai s 116 1 [(0,.int .u8 45)]=some (.ag 1 [.int .u8 45],s)from λs=>by kernel_rfl) (U (@i7 ai 116 116 5 rfl rfl) (U @i_ (U @ja (U @fW (U @i6 (U @all_nil (U tH @OA)))))))) [(3,.ag 1 ((gT++[(45:UInt8)]).map jg))] ?_;exact n24 _ (inr ⟨_,bD rfl,aaC (gT++[(45:UInt8)]) h⟩)
    .exact aL (n24 _ (inr ⟨_,bD rfl,aaC gT h⟩))
  exact dp h λn h=>lg n [] a0 h
theorem apt (a0 r) (h:Kf a0=some r):aW ai 151 [ad a8 a0] (.str r) []:=by
 refine bB [0] [.tmp 2] Tryz.func151 alK λbu ak bt=>al ?_;refine ax ak λ_ bJ bg ah=>al ?_;refine aF h (λbZ h=>?_) λbZ h=>?_
 .exact aS bg [.str ([45]:aAc)]
 .refine aL (bJ _ (inl (al ?_)));refine ax ak λ_ n7 eJ _=>al ?_;refine bj eJ λj9 _ b6 e4 _=>?_;have lg:∀n gT ho,z8 a0 n gT ho=some r->cJ ai Zx j9 (ar [(0,ad a8 a0),(3,.str gT),(4,R ho)]):=by
   refine cX λm16 lh gT ho h=>cW b6 λ_ n10 cQ dH=>ax cQ λ_ n11 _ eY=>al ?_;refine aF h (λfh h=>?_) λfh h=>?_
   .refine aL (n11 _ (inl (ax cQ λ_ n14 ez _=>bj ez λHS n15 gM _ _=>?_)));have aaD:∀wz wA,Ke (z8 a0 m16) a0 wz wA=some r->bn ai Zw HS (ar [(0,ad a8 a0),(3,.str wz),(4,R wA)]):=by
     intro wz wA h;obtain⟨aa,ev,ah,eN,apu,fK,h⟩:=iQ h;(try simp only[fN.down,Nat.zero_add,Nat.add_zero,reduceAdd]at fK);refine AK (U ev (U fK (U @wc @we))) (apq aa _ eN) [(0,ad a8 a0),(3,.str (wz++ah)),(4,R wA)] ?_;refine n15 _ (n14 _ (inl (wr [(0,ad a8 a0),(3,.str (wz++ah)),(4,R (i64.wrap (wA+1)))] ?_)));exact n10 _ (inr ⟨_,bD rfl,lh (wz++ah) (i64.wrap (wA+1)) h⟩)
    refine ax gM λ_ n16 _ _=>al ?_;refine aF h (λgi h=>?_) λgi h=>?_
    .obtain⟨apv,hI,h⟩:=aM h;(try simp only[fN.down,Nat.zero_add,Nat.add_zero,reduceAdd]at hI);refine pV (U hI (U @wc @we)) [(0,ad a8 a0),(3,.str (gT++([44]:aAc))),(4,R ho)] ?_;exact n16 _ (inr ⟨_,bD rfl,aaD (gT++([44]:aAc)) ho h⟩)
    .exact aL (n16 _ (inr ⟨_,bD rfl,aaD gT ho h⟩))
   .exact cN (eY 0 _ (dH 0 _ (e4 _ (n7 _ (inl (aS ak [.str gT]))))))
  exact dp h λn h=>lg n ([]:aAc) 0 h
theorem aaE (a0 J r) (h:Gu a0 J=some r):aW ai 111 [.str a0,ad a8 J] (.str r) []:=by
 refine bB [0,1] [.tmp 4] Tryz.func111 alL λbu ak bt=>al ?_;refine ax ak λ_ bJ bg _=>al ?_;refine aF h (λbZ h=>?_) λbZ h=>?_
 .exact aS bg [.str a0]
 .refine aL (bJ _ (inl ?_));obtain⟨DT,cd,h⟩:=aM h;(try simp only[fN.down,Nat.zero_add,Nat.add_zero,reduceAdd]at cd);obtain⟨aa,fH,DT,jt,h⟩:=dk h;(try simp only[fN.down,Nat.zero_add,Nat.add_zero,reduceAdd]at jt);obtain⟨DT,iI,h⟩:=aM h;(try simp only[fN.down,Nat.zero_add,Nat.add_zero,reduceAdd]at iI);refine eR (U cd (U @wc (U @we (U jt iI)))) (apt J _ fH) [(4,.str (((a0++([40]:aAc))++aa)++([41]:aAc)))] ?_;exact cK ak [.str (((a0++([40]:aAc))++aa)++([41]:aAc))]
theorem aaF (a0 J r) (h:Gv a0 J=some r):aW ai 109 [ad a8 a0,ad a8 J] (.bool r) []:=by
 refine bB [0,1] [.tmp 4] Tryz.func109 c109 λbu ak bt=>al ?_;refine ax ak λ_ bJ bg ah=>al ?_;refine aF h (λbZ h=>?_) λbZ h=>?_
 .exact aS bg [.bool false]
 .refine aL (bJ _ (inl (ax ak λ_ n6 c_ _=>al ?_)));refine bj c_ λiE _ hF cp _=>?_;show bn ai (.loop ?gU) _ _;have gW:∀n ct,Cv a0 J n ct=some r->cJ ai ?gU iE (ar [(0,ad a8 a0),(1,ad a8 J),(5,R ct)]):=by
   refine cX λ_ gG ct h=>cW hF λ_ cE b6 du=>ax b6 λ_ n10 _ dH=>al ?_;refine aF h (λe3 h=>?_) λe3 h=>?_
   .refine aL (n10 _ (inl (ax b6 λ_ n13 fC _=>bj fC λ_ n14 ez _ _=>?_)));obtain⟨aa,cx,ah,dN,h⟩:=dk h;refine og (U cx dN) _ ?_;refine aF h (λh5 h=>?_) λh5 h=>?_
    .exact aS ez [.bool false]
    .refine aL (n14 _ (n13 _ (inl (dA ?_))));exact cE _ (inr ⟨_,bD rfl,gG (i64.wrap (ct+1)) h⟩)
   .exact cN (dH 0 _ (du 0 _ (cp _ (n6 _ (inl (aS ak [.bool true]))))))
  exact dp h λn h=>gW n 0 h
theorem aaG (a0 J r) (h:Cw a0 J=some r):aW ai 148 [ej bF a0,ej bF J] (.bool r) []:=by
 refine bB [0,1] [.tmp 4] Tryz.func148 c148 λbu ak bt=>al ?_;rcases dL h with⟨fV,h⟩|⟨fV,h⟩
 .rcases dL h with⟨bZ,h⟩|⟨bZ,h⟩
  .obtain⟨aa,cY,h⟩:=aM h;refine mn (U fV bZ) (aaF a0.bP J.bP _ cY) _ ?_;exact cK ak [.bool aa]
  .refine og (U fV bZ) _ ?_;exact cK ak [.bool false]
 .refine og fV _ ?_;exact cK ak [.bool false]
theorem apw (a0 J r) (h:Kg a0 J=some r):aW ai 146 [.ag 4 (a0.map df),df J] (.ag 4 (r.map df)) [.hole,.hole]:=by
 refine bB [0,1] [.tmp 4] Tryz.func146 c146 λbu ak bt=>al ?_;refine ax ak λ_ bJ bg ah=>al ?_;refine bj bg λeV _ bQ bZ _=>?_;show bn ai (.loop ?eT) _ _;have e9:∀n aO,Cx a0 J n aO=some r->cJ ai ?eT eV (ar [(0,.ag 4 (a0.map df)),(3,.aP (df J)),(5,R aO)]):=by
  refine cX λ_ eS aO h=>cW bQ λ_ dU cG aX=>ax cG λ_ n6 _ bz=>al ?_;refine aF h (λcp h=>?_) λcp h=>?_
  .refine aL (n6 _ (inl (ax cG λ_ cE b6 _=>bj b6 λ_ n10 cQ _ _=>?_)));obtain⟨aa,dx,h⟩:=aM h;rcases dL h with⟨fh,h⟩|⟨fh,h⟩
   .obtain⟨ah,dT,h⟩:=aM h;refine jv rfl (iN [(0,.ag 4 (a0.map df)),(3,.aP (df J)),(5,R aO),(27,.bool ah)] (λP bd=>?_) ?_)
    ·(try simp only[dh.down,simprocAttr,dx,b2 dx,fh]);refine lX (aaG aa.Next J.Next _ dT) rfl rfl (by simp only[dh.down,simprocAttr,dx,b2 dx,fh,aad.down]<;>rfl) rfl (inr (by rfl)) ?_;simp only[dh.down,simprocAttr,dx,b2 dx,fh];refine⟨hS (by kernel_rfl),?_⟩;exact bR (U dx (U (b2 dx) fh))
    refine aF h (λeZ h=>?_) λeZ h=>?_
    .refine al ?_;exact hc (cQ _ (inl (h3 [.ag 4 (a0.map df)] (h0 (dK (dK (h2)))))))
    .refine aL (n10 _ (cE _ (inl (dA ?_))));exact dU _ (inr ⟨_,bD rfl,eS (i64.wrap (aO+1)) h⟩)
   .refine og (U dx (U (b2 dx) fh)) _ ?_;refine n1 rfl ?_;refine aL (n10 _ (cE _ (inl (dA ?_))));exact dU _ (inr ⟨_,bD rfl,eS (i64.wrap (aO+1)) h⟩)
  .refine cN (bz 0 _ (aX 0 _ (bZ _ (bJ _ (inl ?_)))));obtain⟨HT,fK,h⟩:=aM h;(try simp only[fN.down,Nat.zero_add,Nat.add_zero,reduceAdd]at fK);refine c6 (U (show∀s,dM ai s 122 1 [(0,.agg [.str J.Label,.agg [R J.Next.cy,R J.Next.Part,ad a8 J.Next.bP]])]=some (.ag 4 [.agg [.str J.Label,.agg [R J.Next.cy,R J.Next.Part,ad a8 J.Next.bP]]],s)from λs=>by kernel_rfl) (U (@i7 ai 122 122 126 rfl rfl) (U @i_ (U @ja (U @fW (U @i6 (U @all_nil (U fK (@ic _ df 4 λ_=>rfl))))))))) [(4,.ag 4 ((a0++[J]).map df))] ?_;exact hc (ak _ (inl (h3 [.ag 4 ((a0++[J]).map df)] (h0 (dK (dK (h2)))))))
 exact dp h λn h=>e9 n 0 h
theorem apx (mm:aAx->Int->Int->aAe->aAC->Option aAC) (LM:∀a0 J a2 a3 a4 r,mm a0 J a2 a3 a4=some r->aW ai 104 [ad bk a0,R J,R a2,ad a8 a3,.ag 4 (a4.map df)] (.ag 4 (r.map df)) [.hole,.hole,.hole,.hole,.hole]) (a0 J a2 a3 a4 r) (h:ys mm a0 J a2 a3 a4=some r):aW ai 104 [ad bk a0,R J,R a2,ad a8 a3,.ag 4 (a4.map df)] (.ag 4 (r.map df)) [.hole,.hole,.hole,.hole,.hole]:=by
 refine bB [0,1,2,3] [.tmp 10] Tryz.func104 alQ λbu ak bt=>al ?_;obtain⟨aa,aU,h⟩:=aM h;refine c6 aU _ ?_;obtain⟨ah,cY,h⟩:=aM h;refine c6 cY _ ?_;refine ax ak λ_ n6 c_ bz=>al ?_;refine aF h (λcp h=>?_) λcp h=>?_
 .refine al ?_;exact hc (c_ _ (inl (h3 [.ag 4 (a4.map df)] (h0 (dK (dK (dK (dK (dK (h2))))))))))
 .refine aL (n6 _ (inl ?_));have AP:∀Cy,z_ mm a0 J a2 a3 Cy=some r->bn ai ZA bu (ar [(0,ad bk a0),(1,R J),(2,R a2),(3,ad a8 a3),(4,.ag 4 (Cy.map df))]):=by
   intro Cy h;refine al ?_;exact hc (ak _ (inl (h3 [.ag 4 (Cy.map df)] (h0 (dK (dK (dK (dK (dK (h2))))))))))
  refine ax ak λ_ n10 cQ dH=>al ?_;refine bj cQ λSQ n13 fC _ l3=>al ?_;refine aF h (λeZ h=>?_) λeZ h=>?_
  .obtain⟨aI,dN,h⟩:=aM h;refine eR (U (@mY ai 65 [(2,0),(2,1),(52,2)] [(R 0),(R 0),.bf] rfl rfl (by kernel_rfl)) (U @lY (U @lZ (U @cS (U @fW (U @List.nil_append.{0} @List.cons_append.{0})))))) (SM a3 _ dN) _ ?_;have aaH:∀Aa Ab Ac,Gw mm a3 a4 ah Aa Ab Ac=some r->bn ai Zy SQ (ar [(3,ad a8 a3),(4,.ag 4 (a4.map df)),(12,.aP (eu ah)),(13,.aP (.agg [R Aa,R Ab,.ag 1 (Ac.map a8)]))]):=by
    intro Aa Ab Ac h;obtain⟨aZ,fK,aX,gV,bz,fz,h⟩:=iQ h;refine jv rfl (iN [(10,.ag 4 (bz.map df))] (λP bd=>?_) ?_)
    ·(try simp only[dh.down,simprocAttr,Lx.down,ei,dQ,I.shares]);refine hZ (aaA ah.cm a3 _ fK) (hK:= ?_);simp only[dh.down,simprocAttr,Lx.down,ei,dQ,I.shares];refine hZ (aaE ah.Name aZ _ gV) rfl rfl (by simp only[dh.down,simprocAttr, @mY ai 126 [(9,0),(65,1)] [(.str []),(.agg [(R 0),(R 0),.bf])] rfl rfl (by kernel_rfl),ei,lY,dQ,lZ,cS,fW,List.nil_append,List.cons_append,oI,oH,I.shares,cR,oG, @b0 _ a8 a8 (λ_=>j7 _),gQ,gR,gS,cR, @b0 _ a8 a8 (λ_=>j7 _)]<;>rfl) rfl (inr (by rfl)) ?_;simp only[dh.down,simprocAttr,Lx.down,ei,dQ,I.shares];refine OL [⟨.h 4 [],true,_,.hole⟩,⟨.agg [.str aX,.agg [R Aa,R Ab,ad a8 Ac]],false,_,.hole⟩] (apw a4 (bl.mk aX (ba.mk Aa Ab Ac)) _ fz) rfl rfl rfl (by simp only[dh.down,simprocAttr, @mY ai 126 [(9,0),(65,1)] [(.str []),(.agg [(R 0),(R 0),.bf])] rfl rfl (by kernel_rfl),ei,lY,dQ,lZ,cS,fW,List.nil_append,List.cons_append,oI,oH,I.shares,cR,oG, @b0 _ a8 a8 (λ_=>j7 _),l0,kX,kk,gQ,gR,gS,cR,or_true,true_or, @b0 _ df df (λ_=>DN _)]) rfl rfl (inl rfl) ?_;simp only[dh.down,simprocAttr, @mY ai 126 [(9,0),(65,1)] [(.str []),(.agg [(R 0),(R 0),.bf])] rfl rfl (by kernel_rfl),ei,lY,dQ,lZ,cS,fW,List.nil_append,List.cons_append,oI,oH,I.shares,cR,oG, @b0 _ a8 a8 (λ_=>j7 _),jI];refine⟨hS (by kernel_rfl),?_⟩;exact bR Lx.down
    exact hc (fC _ (inl (h3 [.ag 4 (bz.map df)] (h0 (dK (dK (dK (dK (dK (h2))))))))))
   refine ax fC λ_ n18 _ _=>?_;obtain⟨bw,lM,h⟩:=aM h;refine c6 lM _ ?_;refine aF h (λrl h=>?_) λrl h=>?_
   .obtain⟨cD,qv,h⟩:=aM h;refine aaa (U lM (U (@mY ai 65 [(2,0),(2,1),(52,2)] [(R 0),(R 0),.bf] rfl rfl (by kernel_rfl)) (U @lY (U @lZ (U @cS (U @fW (U @List.nil_append.{0} @List.cons_append.{0}))))))) (aaA bw.cm a3 _ qv) _ ?_;exact n18 _ (inr ⟨_,bD rfl,aaH bw.Number 0 cD h⟩)
   .exact aL (n18 _ (inr ⟨_,bD rfl,aaH J (i64.wrap (a2+1)) aI h⟩))
  .refine al ?_;refine aF h (λh7 h=>?_) λh7 h=>?_
   .obtain⟨du,DU,h⟩:=aM h;refine dw (b5 [(0,ad bk a0),(1,R J),(2,R a2),(3,ad a8 a3),(4,.ag 4 (du.map df)),(11,ad eu aa.Body)] (λP bd=>?_) ?_)
    ·(try simp only[aH.down,simprocAttr]);refine kj [⟨ad bk a0,false,_,.hole⟩,⟨R J,false,_,.hole⟩,⟨R (i64.wrap (a2+1)),false,_,.hole⟩,⟨ad a8 a3,false,_,.hole⟩,⟨.h 4 [],true,_,.hole⟩] (LM a0 J (i64.wrap (a2+1)) a3 a4 _ DU) rfl rfl rfl (by simp only[aH.down,simprocAttr,R5.down]) rfl rfl (inl rfl) ?_;simp only[aH.down,simprocAttr,jI];exact bR trivial
    obtain⟨dH,pg,eY,jC,h⟩:=dk h;refine dw (b5 [(10,.ag 4 (eY.map df))] (λP bd=>?_) ?_)
    ·(try simp only[aH.down,simprocAttr]);refine dz (aat aa.Body (i64.wrap (a2+1)) _ pg) (hK:= ?_);simp only[aH.down,simprocAttr];refine kj [⟨ad bk a0,false,_,.hole⟩,⟨R J,false,_,.hole⟩,⟨R dH,false,_,.hole⟩,⟨ad a8 a3,false,_,.hole⟩,⟨.h 4 [],true,_,.hole⟩] (LM a0 J dH a3 du _ jC) rfl rfl rfl (by simp only[aH.down,simprocAttr,R5.down]) rfl rfl (inl rfl) ?_;simp only[aH.down,simprocAttr,jI];exact bR trivial
    exact hc (fC _ (inl (h3 [.ag 4 (eY.map df)] (h0 (dK (dK (dK (dK (dK (h2))))))))))
   .refine al ?_;refine aF h (λpj h=>?_) λpj h=>?_
    .obtain⟨jj,tG,l3,w1,h⟩:=dk h;refine eR tG (aaz jj a3 _ w1) _ ?_;refine aF h (λHU h=>?_) λHU h=>?_
     .obtain⟨iy,w2,h⟩:=aM h;refine dw (b5 [(10,.ag 4 (iy.map df))] (λP bd=>?_) ?_)
      ·(try simp only[aH.down,simprocAttr]);refine kj [⟨ad bk a0,false,_,.hole⟩,⟨R J,false,_,.hole⟩,⟨R (i64.wrap (a2+1)),false,_,.hole⟩,⟨ad a8 a3,false,_,.hole⟩,⟨.h 4 [],true,_,.hole⟩] (LM a0 J (i64.wrap (a2+1)) a3 a4 _ w2) rfl rfl rfl (by simp only[aH.down,simprocAttr,R5.down]) rfl rfl (inl rfl) ?_;simp only[aH.down,simprocAttr,jI];exact bR trivial
      exact hc (fC _ (inl (h3 [.ag 4 (iy.map df)] (h0 (dK (dK (dK (dK (dK (h2))))))))))
     .exact aL (n13 _ (n10 _ (inr ⟨_,bD rfl,AP a4 h⟩)))
    .refine al ?_;refine aF h (λwV h=>?_) λwV h=>?_
     .refine al ?_;refine bj fC λapy _ wX yS _=>?_;have HN:∀n uR k9,Cz mm a0 J a2 a3 ah n uR k9=some r->cJ ai Zz apy (ar [(0,ad bk a0),(1,R J),(2,R a2),(3,ad a8 a3),(4,.ag 4 (uR.map df)),(12,.aP (eu ah)),(14,R k9)]):=by
       refine cX λ_ HO uR k9 h=>cW wX λ_ n47 sl apz=>ax sl λ_ n48 _ apA=>al ?_;refine aF h (λqy h=>?_) λqy h=>?_
       .refine aL (n48 _ (inl (ax sl λ_ n51 LN _=>bj LN λ_ n52 _ _ _=>?_)));obtain⟨hf,w3,azN,oV,h⟩:=dk h;(try simp only[fN.down,Nat.zero_add,Nat.add_zero,reduceAdd]at oV);obtain⟨ji,HV,h⟩:=aM h;refine hx (b5 [(0,ad bk a0),(1,R J),(2,R a2),(3,ad a8 a3),(4,.ag 4 (ji.map df)),(12,.aP (eu ah)),(14,R k9)] (λP bd=>?_) ?_)
        ·(try simp only[aH.down,simprocAttr,(show∀s,dM ai s 52 1 [(0,R k9)]=some (.ag 1 [R k9],s)from λs=>by kernel_rfl),DO.down,oV,I.shares]);refine dz (SM a3 _ w3) (hK:= ?_);simp only[aH.down,simprocAttr,(show∀s,dM ai s 52 1 [(0,R k9)]=some (.ag 1 [R k9],s)from λs=>by kernel_rfl),DO.down,oV,I.shares];refine kj [⟨ad bk a0,false,_,.hole⟩,⟨R J,false,_,.hole⟩,⟨R (i64.wrap (a2+1)),false,_,.hole⟩,⟨.slice ((hf++[k9]).map a8),false,_,.hole⟩,⟨.h 4 [],true,_,.hole⟩] (LM a0 J (i64.wrap (a2+1)) (hf++[k9]) uR _ HV) rfl rfl (by simp only[aH.down,simprocAttr,(show∀s,dM ai s 52 1 [(0,R k9)]=some (.ag 1 [R k9],s)from λs=>by kernel_rfl),aae.down,oV,I.shares]) (by simp only[aH.down,simprocAttr,(show∀s,dM ai s 52 1 [(0,R k9)]=some (.ag 1 [R k9],s)from λs=>by kernel_rfl), @i7 ai 52 52 2 rfl rfl,i_,ja,fW,i6,all_nil,oV, @ic _ a8 1 (λ_=>rfl),oI,oH,I.shares,cR,oG, @b0 _ a8 a8 (λ_=>j7 _),l0,kX,kk,gQ,gR,gS,cR,or_true,true_or, @b0 _ df df (λ_=>DN _)]) rfl rfl (inl rfl) ?_;simp only[aH.down,simprocAttr,(show∀s,dM ai s 52 1 [(0,R k9)]=some (.ag 1 [R k9],s)from λs=>by kernel_rfl),aaf.down,oV,I.shares];exact bR (U (show∀s,dM ai s 52 1 [(0,R k9)]=some (.ag 1 [R k9],s)from λs=>by kernel_rfl) (U DO.down oV))
        refine n52 _ (n51 _ (inl (dA ?_)));exact n47 _ (inr ⟨_,bD rfl,HO ji (i64.wrap (k9+1)) h⟩)
       .exact cN (apA 1 _ (apz 1 _ (yS _ (n13 _ (n10 _ (inr ⟨_,bD rfl,AP uR h⟩))))))
      exact dp h λn h=>HN n a4 0 h
     .exact aL (n13 _ (n10 _ (inr ⟨_,bD rfl,AP a4 h⟩)))
theorem apB:∀n a0 J a2 a3 a4 r,rW n a0 J a2 a3 a4=some r->aW ai 104 [ad bk a0,R J,R a2,ad a8 a3,.ag 4 (a4.map df)] (.ag 4 (r.map df)) [.hole,.hole,.hole,.hole,.hole]:=by
 intro n;induction n with
 |zero=>intro a0 J a2 a3 a4 r h;cases(show none=some r from h)
 |succ n ih=>intro a0 J a2 a3 a4 r h;exact apx (rW n) ih a0 J a2 a3 a4 r h
theorem apC (a0 J a2 a3 a4 r) (h:Kh a0 J a2 a3 a4=some r):aW ai 104 [ad bk a0,R J,R a2,ad a8 a3,.ag 4 (a4.map df)] (.ag 4 (r.map df)) [.hole,.hole,.hole,.hole,.hole]:=by
 obtain⟨n,h⟩:=ma h;exact apB n a0 J a2 a3 a4 r h
theorem aaI (a0 J r) (h:uS a0 J=some r):aW ai 68 [ad bk a0,ej bF J] (.tuple [.ag 4 (r.1.map df),.bool r.2]) []:=by
 refine bB [0,1] [.tmp 4,.tmp 5] Tryz.func68 alR λbu ak bt=>al ?_;obtain⟨aa,aU,h⟩:=aM h;refine jv rfl (iN [(6,.ag 4 (aa.map df))] (λP bd=>?_) ?_)
 ·(try simp only[dh.down,simprocAttr,(show∀s,dM ai s 122 0 []=some (.ag 4 [],s)from λs=>by kernel_rfl)]);refine OL [⟨ad bk a0,false,_,.hole⟩,⟨R J.cy,false,_,.hole⟩,⟨R J.Part,false,_,.hole⟩,⟨ad a8 J.bP,false,_,.hole⟩,⟨.h 20 [],true,_,.hole⟩] (apC a0 J.cy J.Part J.bP [] _ aU) rfl rfl rfl (by simp only[dh.down,simprocAttr,(show∀s,dM ai s 122 0 []=some (.ag 4 [],s)from λs=>by kernel_rfl),l0,kX,kk,gQ,gR,gS,cR,or_true,true_or, @b0 _ df df (λ_=>DN _)]) rfl rfl (inl rfl) ?_;simp only[dh.down,simprocAttr,(show∀s,dM ai s 122 0 []=some (.ag 4 [],s)from λs=>by kernel_rfl),jI];refine⟨hS (by kernel_rfl),?_⟩;exact bR (show∀s,dM ai s 122 0 []=some (.ag 4 [],s)from λs=>by kernel_rfl)
 exact aS ak [.ag 4 (aa.map df),.bool (decide ((aa.length:Int)<=200))]
theorem aaJ (a0 r) (h:Ad a0=some r):aW ai 105 [.str a0] (R r) []:=by
 refine bB [0] [.tmp 2] Tryz.func105 c105 λbu ak bt=>al ?_;refine ax ak λ_ bJ bg _=>al ?_;refine bj bg λeV _ bQ bZ _=>?_;show bn ai (.loop ?eT) _ _;have e9:∀n iR,yt a0 n iR=some r->cJ ai ?eT eV (ar [(0,.str a0),(3,R iR)]):=by
  refine cX λ_ eS iR h=>cW bQ λ_ dU cG aX=>ax cG λ_ n6 _ bz=>al ?_;refine aF h (λcp h=>?_) λcp h=>?_
  .refine aL (n6 _ (inl (ax cG λ_ cE b6 _=>bj b6 λ_ n10 cQ _ _=>?_)));obtain⟨aa,dx,h⟩:=aM h;refine c6 dx _ ?_;refine aF h (λfh h=>?_) λfh h=>?_
   .exact aS cQ [R iR]
   .refine aL (n10 _ (cE _ (inl (dA ?_))));exact dU _ (inr ⟨_,bD rfl,eS (i64.wrap (iR+1)) h⟩)
  .exact cN (bz 0 _ (aX 0 _ (bZ _ (bJ _ (inl (aS ak [R (a0.length:Int)]))))))
 exact dp h λn h=>e9 n 0 h
theorem LO (a0 r) (h:te a0=some r):aW ai 69 [.str a0] (.str r) []:=by
 refine bB [0] [.tmp 2] Tryz.func69 alS λbu ak bt=>al ?_;obtain⟨aa,aU,ah,b_,h⟩:=dk h;refine eR b_ (aaJ a0 _ aU) _ ?_;exact cK ak [.str ah]
theorem HW (a0 J r) (h:uT a0 J=some r):aW ai 25 [ad aE a0,.str J] (R r) []:=by
 refine bB [0,1] [.tmp 4] Tryz.func25 alT λbu ak bt=>al ?_;refine ax ak λ_ bJ bg _=>al ?_;refine bj bg λeV _ bQ bZ _=>?_;show bn ai (.loop ?eT) _ _;have e9:∀n aO,yu a0 J n aO=some r->cJ ai ?eT eV (ar [(0,ad aE a0),(1,.str J),(5,R aO)]):=by
  refine cX λ_ eS aO h=>cW bQ λ_ dU cG aX=>ax cG λ_ n6 _ bz=>al ?_;refine aF h (λcp h=>?_) λcp h=>?_
  .refine aL (n6 _ (inl (ax cG λ_ cE b6 _=>bj b6 λ_ n10 cQ _ _=>?_)));obtain⟨aa,dx,h⟩:=aM h;refine c6 dx _ ?_;refine aF h (λfh h=>?_) λfh h=>?_
   .exact aS cQ [R aO]
   .refine aL (n10 _ (cE _ (inl (dA ?_))));exact dU _ (inr ⟨_,bD rfl,eS (i64.wrap (aO+1)) h⟩)
  .exact cN (bz 0 _ (aX 0 _ (bZ _ (bJ _ (inl (aS ak [R (-1)]))))))
 exact dp h λn h=>e9 n 0 h
theorem DV (a0 r) (h:wB a0=some r):aW ai 70 [ad bF a0] (.ag 3 (r.map ey)) []:=by
 refine bB [0] [.tmp 2] Tryz.func70 c70 λbu ak bt=>al ?_;refine c6 (show∀s,dM ai s 39 0 []=some (.ag 3 [],s)from λs=>by kernel_rfl) _ ?_;refine ax ak λ_ fg dt _=>al ?_;refine bj dt λpY _ cG c7 _=>?_;show bn ai (.loop ?iu) _ _;have iC:∀n bY bK,CA a0 n bY bK=some r->cJ ai ?iu pY (ar [(0,ad bF a0),(3,.ag 3 (bY.map ey)),(4,R bK)]):=by
  refine cX λ_ iD bY bK h=>cW cG λ_ n6 c_ bz=>ax c_ λ_ n7 _ bw=>al ?_;refine aF h (λe4 h=>?_) λe4 h=>?_
  .refine aL (n7 _ (inl (ax c_ λ_ n10 cQ _=>bj cQ λ_ n11 _ _ _=>?_)));obtain⟨aa,el,ah,dT,u16,dX,h⟩:=iQ h;(try simp only[DP.down,Nat.zero_add,Nat.add_zero,reduceAdd]at dX);refine OC rfl (iN [(0,ad bF a0),(3,.ag 3 ((bY++[(ba.mk aa.cy aa.Part ah)]).map ey)),(4,R bK)] (λP bd=>?_) ?_)
   ·(try simp only[dh.down,simprocAttr,el,R6.down,ei,dQ,oF,dX]);refine hZ (SM aa.bP _ dT) (hK:= ?_);simp only[dh.down,simprocAttr,el,R6.down,ei,dQ,oF,dX];refine⟨hS (by kernel_rfl),?_⟩;(try simp only[jA.down,simprocAttr,el,R6.down,ei,dQ,oF,dX]at bd⊢);exact bd
   refine n11 _ (n10 _ (inl (wr [(0,ad bF a0),(3,.ag 3 ((bY++[(ba.mk aa.cy aa.Part ah)]).map ey)),(4,R (i64.wrap (bK+1)))] ?_)));exact n6 _ (inr ⟨_,bD rfl,iD (bY++[(ba.mk aa.cy aa.Part ah)]) (i64.wrap (bK+1)) h⟩)
  .exact cN (bw 0 _ (bz 0 _ (c7 _ (fg _ (inl (aS ak [.ag 3 (bY.map ey)]))))))
 exact dp h λn h=>iC n [] 0 h
theorem SR (a0 J r) (h:CB a0 J=some r):aW ai 72 [ej ft a0,.str J] (.str r) []:=by
 refine bB [0,1] [.tmp 4] Tryz.func72 c72 λbu ak bt=>al ?_;refine ax ak λ_ bJ bg ah=>?_;obtain⟨aa,b_,ah,cY,h⟩:=dk h;refine jv rfl (iN [(1,.str J),(12,.bool (decide (0<=ah)))] (λP bd=>?_) ?_)
 ·(try simp only[dh.down,simprocAttr]);refine hZ (LO J _ b_) (hK:= ?_);simp only[dh.down,simprocAttr];refine hZ (HW a0.cA aa _ cY) (hK:= ?_);simp only[dh.down,simprocAttr];refine⟨hS (by kernel_rfl),?_⟩;exact bR trivial
 refine aF h (λdC h=>?_) λdC h=>?_
 .exact aS bg [.str ([116,97,117]:aAc)]
 .exact aL (bJ _ (inl (aS ak [.str J])))
theorem apD (a0 J r) (h:Ki a0 J=some r):aW ai 107 [ad bF a0,ad bF J] (.bool r) []:=by
 refine bB [0,1] [.tmp 4] Tryz.func107 c107 λbu ak bt=>al ?_;refine ax ak λ_ bJ bg ah=>al ?_;refine aF h (λbZ h=>?_) λbZ h=>?_
 .exact aS bg [.bool false]
 .refine aL (bJ _ (inl (ax ak λ_ n6 c_ _=>al ?_)));refine bj c_ λiE _ hF cp _=>?_;show bn ai (.loop ?gU) _ _;have gW:∀n ct,CC a0 J n ct=some r->cJ ai ?gU iE (ar [(0,ad bF a0),(1,ad bF J),(5,R ct)]):=by
   refine cX λ_ gG ct h=>cW hF λ_ cE b6 du=>ax b6 λ_ n10 _ dH=>al ?_;refine aF h (λe3 h=>?_) λe3 h=>?_
   .refine aL (n10 _ (inl (ax b6 λ_ n13 fC _=>bj fC λ_ n14 ez _ _=>?_)));obtain⟨aa,cx,ah,dN,aI,ev,h⟩:=iQ h;refine mn (U cx dN) (aaG aa ah _ ev) _ ?_;refine aF h (λgh h=>?_) λgh h=>?_
    .exact aS ez [.bool false]
    .refine aL (n14 _ (n13 _ (inl (dA ?_))));exact cE _ (inr ⟨_,bD rfl,gG (i64.wrap (ct+1)) h⟩)
   .exact cN (dH 0 _ (du 0 _ (cp _ (n6 _ (inl (aS ak [.bool true]))))))
  exact dp h λn h=>gW n 0 h
theorem SS (a0 J r) (h:Ae a0 J=some r):aW ai 71 [.ag 4 (a0.map f_),f_ J] (.ag 4 (r.map f_)) [.hole,.hole]:=by
 refine bB [0,1] [.tmp 4] Tryz.func71 alU λbu ak bt=>al ?_;refine ax ak λ_ bJ bg ah=>al ?_;refine bj bg λeV _ bQ bZ _=>?_;show bn ai (.loop ?eT) _ _;have e9:∀n aO,CD a0 J n aO=some r->cJ ai ?eT eV (ar [(0,.ag 4 (a0.map f_)),(3,.aP (f_ J)),(5,R aO)]):=by
  refine cX λ_ eS aO h=>cW bQ λ_ dU cG aX=>ax cG λ_ n6 _ bz=>al ?_;refine aF h (λcp h=>?_) λcp h=>?_
  .refine aL (n6 _ (inl (ax cG λ_ cE b6 _=>bj b6 λ_ n10 cQ _ _=>?_)));obtain⟨aa,dx,h⟩:=aM h;refine c6 (U dx (b2 dx)) _ ?_;rcases dL h with⟨hG,h⟩|⟨hG,h⟩
   .rcases dL h with⟨eZ,h⟩|⟨eZ,h⟩
    .rcases dL h with⟨nM,h⟩|⟨nM,h⟩
     .obtain⟨ah,dN,h⟩:=aM h;refine eR (U hG (U eZ nM)) (apD aa.State J.State _ dN) _ ?_;refine aF h (λh5 h=>?_) λh5 h=>?_
      .refine al ?_;exact hc (cQ _ (inl (h3 [.ag 4 (a0.map f_)] (h0 (dK (dK (h2)))))))
      .refine aL (n10 _ (cE _ (inl (dA ?_))));exact dU _ (inr ⟨_,bD rfl,eS (i64.wrap (aO+1)) h⟩)
     .refine c6 (U hG (U eZ nM)) _ ?_;refine n1 rfl ?_;refine aL (n10 _ (cE _ (inl (dA ?_))));exact dU _ (inr ⟨_,bD rfl,eS (i64.wrap (aO+1)) h⟩)
    .refine c6 (U hG eZ) _ ?_;refine n1 rfl ?_;refine aL (n10 _ (cE _ (inl (dA ?_))));exact dU _ (inr ⟨_,bD rfl,eS (i64.wrap (aO+1)) h⟩)
   .refine c6 hG _ ?_;refine n1 rfl ?_;refine aL (n10 _ (cE _ (inl (dA ?_))));exact dU _ (inr ⟨_,bD rfl,eS (i64.wrap (aO+1)) h⟩)
  .refine cN (bz 0 _ (aX 0 _ (bZ _ (bJ _ (inl ?_)))));obtain⟨apv,hI,h⟩:=aM h;(try simp only[fN.down,Nat.zero_add,Nat.add_zero,reduceAdd]at hI);refine c6 (U (show∀s,dM ai s 67 1 [(0,.agg [.str J.Label,R J.na,R J.Second,ad bF J.State])]=some (.ag 4 [.agg [.str J.Label,R J.na,R J.Second,ad bF J.State]],s)from λs=>by kernel_rfl) (U (@i7 ai 67 67 71 rfl rfl) (U @i_ (U @ja (U @fW (U @i6 (U @all_nil (U hI (@ic _ f_ 4 λ_=>rfl))))))))) [(4,.ag 4 ((a0++[J]).map f_))] ?_;exact hc (ak _ (inl (h3 [.ag 4 ((a0++[J]).map f_)] (h0 (dK (dK (h2)))))))
 exact dp h λn h=>e9 n 0 h
theorem apE (a0 J r) (h:Kk a0 J=some r):aW ai 149 [.str a0,.int .u8 (J.toNat:Int)] (.ag 1 (r.map aE)) []:=by
 refine bB [0,1] [.tmp 4] Tryz.func149 alV λbu ak bt=>al ?_;refine c6 (show∀s,dM ai s 25 0 []=some (.ag 1 [],s)from λs=>by kernel_rfl) _ ?_;refine al ?_;refine ax ak λ_ fa bQ _=>al ?_;refine bj bQ λjB _ c_ dC _=>?_;show bn ai (.loop ?AH) _ _;have AY:∀n kn lC gg,Af a0 J n kn lC gg=some r->cJ ai ?AH jB (ar [(0,.str a0),(1,.int .u8 (J.toNat:Int)),(5,.ag 1 (kn.map aE)),(6,R lC),(7,R gg)]):=by
  refine cX λm10 AZ kn lC gg h=>cW c_ λapF n7 eJ bw=>ax eJ λ_ n8 _ cD=>al ?_;refine aF h (λfl h=>?_) λfl h=>?_
  .refine aL (n8 _ (inl ?_));show bn ai (.seq _ ?RR) _ _;have aaK:∀CE CF CG,Kj (Af a0 J m10) a0 J CE CF CG=some r->bn ai ?RR apF (ar [(0,.str a0),(1,.int .u8 (J.toNat:Int)),(5,.ag 1 (CE.map aE)),(6,R CF),(7,R CG)]):=by
    intro CE CF CG h;refine dA ?_;exact n7 _ (inr ⟨_,bD rfl,AZ CE CF (i64.wrap (CG+1)) h⟩)
   refine ax eJ λ_ n11 h6 _=>bj h6 λ_ n13 _ _ _=>?_;obtain⟨aa,dX,h⟩:=aM h;refine c6 dX _ ?_;refine aF h (λnM h=>?_) λnM h=>?_
   .obtain⟨ah,ev,HT,eN,h⟩:=dk h;(try simp only[fN.down,Nat.zero_add,Nat.add_zero,reduceAdd]at eN);refine c6 (U ev (U (show∀s,dM ai s 25 1 [(0,.str ah)]=some (.ag 1 [.str ah],s)from λs=>by kernel_rfl) (U (@i7 ai 25 25 9 rfl rfl) (U @i_ (U @ja (U @fW (U @i6 (U @all_nil (U eN (@ic _ aE 1 λ_=>rfl)))))))))) [(0,.str a0),(1,.int .u8 (J.toNat:Int)),(5,.ag 1 ((kn++[ah]).map aE)),(7,R gg)] ?_;refine wr [(0,.str a0),(1,.int .u8 (J.toNat:Int)),(5,.ag 1 ((kn++[ah]).map aE)),(6,R (i64.wrap (gg+1))),(7,R gg)] ?_;exact n13 _ (n11 _ (inr ⟨_,bD rfl,aaK (kn++[ah]) (i64.wrap (gg+1)) gg h⟩))
   .exact aL (n13 _ (n11 _ (inr ⟨_,bD rfl,aaK kn lC gg h⟩)))
  .refine cN (cD 0 _ (bw 0 _ (dC _ (fa _ (inl ?_)))));obtain⟨aI,fz,aaL,iT,h⟩:=dk h;(try simp only[fN.down,Nat.zero_add,Nat.add_zero,reduceAdd]at iT);refine c6 (U fz (U (show∀s,dM ai s 25 1 [(0,.str aI)]=some (.ag 1 [.str aI],s)from λs=>by kernel_rfl) (U (@i7 ai 25 25 9 rfl rfl) (U @i_ (U @ja (U @fW (U @i6 (U @all_nil (U iT (@ic _ aE 1 λ_=>rfl)))))))))) [(4,.ag 1 ((kn++[aI]).map aE))] ?_;exact cK ak [.ag 1 ((kn++[aI]).map aE)]
 exact dp h λn h=>AY n [] 0 0 h
theorem apG (a0 r) (h:Kl a0=some r):aW ai 150 [.str a0] (.tuple [R r.1,.bool r.2]) []:=by
 refine bB [0] [.tmp 2,.tmp 3] Tryz.func150 alW λbu ak bt=>al ?_;refine al ?_;show bn ai (.seq _ ?AH) _ _;have SU:∀ig,CH a0 ig=some r->bn ai ?AH bu (ar [(0,.str a0),(4,R ig)]):=by
  intro ig h;refine ax ak λ_ fa bQ aZ=>?_;rcases dL h with⟨dC,h⟩|⟨dC,h⟩
  .refine c6 dC _ ?_;refine i1 rfl ?_;exact aS bQ [R 0,.bool false]
  .rcases dL h with⟨cp,h⟩|⟨cp,h⟩
   .refine c6 (U dC cp) _ ?_;refine i1 rfl ?_;exact aS bQ [R 0,.bool false]
   .obtain⟨aa,iI,h⟩:=aM h;rcases dL h with⟨nK,h⟩|⟨nK,h⟩
    .refine c6 (U dC (U cp (U iI nK))) _ ?_;refine aF h (λe3 h=>?_) λe3 h=>?_
     .exact aS bQ [R 0,.bool false]
     .refine aL (fa _ (inl (al ?_)));refine ax ak λ_ n15 gM _=>al ?_;refine bj gM λSh _ lL kr _=>?_;show bn ai (.loop ?c24) _ _;have SV:∀n nI pP,wC a0 ig n nI pP=some r->cJ ai ?c24 Sh (ar [(0,.str a0),(4,R ig),(5,R nI),(6,R pP)]):=by
       refine cX λm24 SX nI pP h=>cW lL λ_ n18 w4 qi=>ax w4 λ_ n19 _ lD=>al ?_;refine aF h (λsq h=>?_) λsq h=>?_
       .refine aL (n19 _ (inl (ax w4 λ_ n22 oi _=>bj oi λ_ n23 SY _ _=>ax SY λ_ n24 HX _=>?_)));obtain⟨ah,rm,aI,qv,h⟩:=dk h;refine eR rm (Sf ah _ qv) _ ?_;refine aF h (λks h=>?_) λks h=>?_
        .exact aS HX [R 0,.bool false]
        .refine aL (n24 _ (inl (pV (U rm (@Jp ai 5 2 .i64 rfl rfl)) _ ?_)));refine n23 _ (n22 _ (inl (dA ?_)));exact n18 _ (inr ⟨_,bD rfl,SX (i64.wrap ((i64.wrap (10*nI))+(i64.wrap (u8.wrap ((ah.toNat:Int)-48))))) (i64.wrap (pP+1)) h⟩)
       .refine cN (lD 0 _ (qi 0 _ (kr _ (n15 _ (inl ?_)))));show bn ai (.seq _ ?c49) _ _;have HY:∀tf,Gy tf=some r->bn ai ?c49 bu (ar [(5,R tf)]):=by
         intro tf h;exact aS ak [R tf,.bool true]
        refine ax ak λ_ n32 _ _=>al ?_;refine aF h (λwW h=>?_) λwW h=>?_
        .refine dA ?_;exact n32 _ (inr ⟨_,bD rfl,HY (i64.wrap (0-nI)) h⟩)
        .exact aL (n32 _ (inr ⟨_,bD rfl,HY nI h⟩))
      exact dp h λn h=>SV n 0 ig h
    .refine c6 (U dC (U cp (U iI nK))) _ ?_;refine n1 rfl ?_;refine aL (fa _ (inl (al ?_)));refine ax ak λ_ n38 SC _=>al ?_;refine bj SC λapH _ apI HU _=>?_;show bn ai (.loop ?c24) _ _;have SV:∀n nI pP,wC a0 ig n nI pP=some r->cJ ai ?c24 apH (ar [(0,.str a0),(4,R ig),(5,R nI),(6,R pP)]):=by
      refine cX λm24 SX nI pP h=>cW apI λ_ n41 vu apJ=>ax vu λ_ n42 _ AV=>al ?_;refine aF h (λwV h=>?_) λwV h=>?_
      .refine aL (n42 _ (inl (ax vu λ_ n45 apK _=>bj apK λ_ n46 wX _ _=>ax wX λ_ n47 sl _=>?_)));obtain⟨aZ,qw,aX,HP,h⟩:=dk h;refine eR qw (Sf aZ _ HP) _ ?_;refine aF h (λapL h=>?_) λapL h=>?_
       .exact aS sl [R 0,.bool false]
       .refine aL (n47 _ (inl (pV (U qw (@Jp ai 5 2 .i64 rfl rfl)) _ ?_)));refine n46 _ (n45 _ (inl (dA ?_)));exact n41 _ (inr ⟨_,bD rfl,SX (i64.wrap ((i64.wrap (10*nI))+(i64.wrap (u8.wrap ((aZ.toNat:Int)-48))))) (i64.wrap (pP+1)) h⟩)
      .refine cN (AV 0 _ (apJ 0 _ (HU _ (n38 _ (inl ?_)))));show bn ai (.seq _ ?c49) _ _;have HY:∀tf,Gy tf=some r->bn ai ?c49 bu (ar [(5,R tf)]):=by
        intro tf h;exact aS ak [R tf,.bool true]
       refine ax ak λ_ LP _ _=>al ?_;refine aF h (λSr h=>?_) λSr h=>?_
       .refine dA ?_;exact LP _ (inr ⟨_,bD rfl,HY (i64.wrap (0-nI)) h⟩)
       .exact aL (LP _ (inr ⟨_,bD rfl,HY nI h⟩))
     exact dp h λn h=>SV n 0 ig h
 refine ax ak λ_ fg _ aI=>?_;rcases dL h with⟨AU,h⟩|⟨AU,h⟩
 .obtain⟨bz,apM,h⟩:=aM h;refine c6 (U AU apM) _ ?_;refine aF h (λapN h=>?_) λapN h=>?_
  .refine dA ?_;exact fg _ (inr ⟨_,bD rfl,SU 1 h⟩)
  .exact aL (fg _ (inr ⟨_,bD rfl,SU 0 h⟩))
 .refine c6 AU _ ?_;refine n1 rfl ?_;exact aL (fg _ (inr ⟨_,bD rfl,SU 0 h⟩))
theorem aaM (a0 r) (h:Ah a0=some r):aW ai 108 [.str a0] (.tuple [.ag 1 (r.1.map a8),.bool r.2]) []:=by
 refine bB [0] [.tmp 2,.tmp 3] Tryz.func108 alX λbu ak bt=>al ?_;obtain⟨aa,aU,h⟩:=aM h;refine cP (aaJ a0 _ aU) _ ?_;refine ax ak λ_ fa bQ aZ=>al ?_;refine aF h (λdC h=>?_) λdC h=>?_
 .obtain⟨ah,fH,h⟩:=aM h;refine eR (show∀s,dM ai s 52 0 []=some (.ag 1 [],s)from λs=>by kernel_rfl) (DQ a0 _ fH) _ ?_;exact cK bQ [.ag 1 [],.bool ah]
 .refine aL (fa _ (inl (ax ak λ_ cE b6 du=>?_)));obtain⟨aI,kD,aZ,dx,h⟩:=dk h;rcases dL h with⟨fh,h⟩|⟨fh,h⟩
  .refine eR (U kD (hd fh)) (so aI _ dx) _ ?_;refine i1 rfl ?_;refine al ?_;exact hc (b6 _ (inr ⟨[(2,.ag 1 []),(3,.bool false)],hP [] rfl (hD (t:=2) (d:=.bf) rfl rfl (.hY _) (by decide) (cO rfl (hQ))),o8 [.ag 1 [],.bool false]⟩))
  .obtain⟨aX,dX,h⟩:=aM h;refine eR (U kD (U (cf fh) dX)) (so aI _ dx) _ ?_;refine aF h (λnM h=>?_) λnM h=>?_
   .refine al ?_;exact hc (b6 _ (inr ⟨[(2,.ag 1 []),(3,.bool false)],hP [] rfl (hD (t:=2) (d:=.bf) rfl rfl (.hY _) (by decide) (cO rfl (hQ))),o8 [.ag 1 [],.bool false]⟩))
   .refine aL (cE _ (inl ?_));obtain⟨bz,eN,bw,fK,h⟩:=dk h;refine eR eN (apE bz (44:UInt8) _ fK) _ ?_;refine c6 (show∀s,dM ai s 52 0 []=some (.ag 1 [],s)from λs=>by kernel_rfl) _ ?_;refine ax ak λ_ n22 oi _=>al ?_;refine bj oi λSZ _ HX hA _=>?_;show bn ai (.loop ?c28) _ _;have apO:∀n pQ rX,Ag bw n pQ rX=some r->cJ ai ?c28 SZ (ar [(5,.ag 1 (bw.map aE)),(6,.ag 1 (pQ.map a8)),(7,R rX)]):=by
     refine cX λ_ apP pQ rX h=>cW HX λ_ n25 pf wD=>ax pf λ_ n26 _ rY=>al ?_;refine aF h (λks h=>?_) λks h=>?_
     .refine aL (n26 _ (inl (ax pf λ_ n29 tB _=>bj tB λ_ n30 HK _ _=>?_)));obtain⟨cD,wY,du,pg,h⟩:=dk h;refine eR (U wY (b2 wY)) (apG cD _ pg) _ ?_;refine ax HK λ_ n34 wU _=>?_;rcases dL h with⟨pj,h⟩|⟨pj,h⟩
      .refine c6 (hd pj) _ ?_;refine i1 rfl ?_;refine al ?_;exact hc (wU _ (inr ⟨[(2,.ag 1 []),(3,.bool false)],hP [] rfl (hD (t:=2) (d:=.bf) rfl rfl (.hY _) (by decide) (cO rfl (hQ))),o8 [.ag 1 [],.bool false]⟩))
      .obtain⟨dH,tG,h⟩:=aM h;refine eR (cf pj) (pX du.1 0 63 _ tG) _ ?_;refine aF h (λA0 h=>?_) λA0 h=>?_
       .refine al ?_;exact hc (wU _ (inr ⟨[(2,.ag 1 []),(3,.bool false)],hP [] rfl (hD (t:=2) (d:=.bf) rfl rfl (.hY _) (by decide) (cO rfl (hQ))),o8 [.ag 1 [],.bool false]⟩))
       .refine aL (n34 _ (inl ?_));obtain⟨aps,w2,h⟩:=aM h;(try simp only[fN.down,Nat.zero_add,Nat.add_zero,reduceAdd]at w2);refine pV (U (show∀s,dM ai s 52 1 [(0,R du.1)]=some (.ag 1 [R du.1],s)from λs=>by kernel_rfl) (U (@i7 ai 52 52 2 rfl rfl) (U @i_ (U @ja (U @fW (U @i6 (U @all_nil (U w2 (@ic _ a8 1 λ_=>rfl))))))))) [(5,.ag 1 (bw.map aE)),(6,.ag 1 ((pQ++[du.1]).map a8)),(7,R rX)] ?_;refine n30 _ (n29 _ (inl (wr [(5,.ag 1 (bw.map aE)),(6,.ag 1 ((pQ++[du.1]).map a8)),(7,R (i64.wrap (rX+1)))] ?_)));exact n25 _ (inr ⟨_,bD rfl,apP (pQ++[du.1]) (i64.wrap (rX+1)) h⟩)
     .exact cN (rY 0 _ (wD 0 _ (hA _ (n22 _ (inl (aS ak [.ag 1 (pQ.map a8),.bool (decide ((pQ.length:Int)<=2))]))))))
    exact dp h λn h=>apO n [] 0 h
theorem apQ (uU:aAz->aAc->aAc->Option aAc) (apR:∀a0 J a2 r,uU a0 J a2=some r->aW ai 110 [ad bH a0,.str J,.str a2] (.str r) []) (a0 J a2 r) (h:Ai uU a0 J a2=some r):aW ai 110 [ad bH a0,.str J,.str a2] (.str r) []:=by
 refine bB [0,1,2] [.tmp 6] Tryz.func110 alY λbu ak bt=>al ?_;refine ax ak λ_ bJ bg ah=>al ?_;refine aF h (λbZ h=>?_) λbZ h=>?_
 .obtain⟨aa,cv,h⟩:=aM h;refine cP (apR a0 a2 J _ cv) _ ?_;exact cK bg [.str aa]
 .refine aL (bJ _ (inl (ax ak λ_ n7 eJ _=>al ?_)));refine bj eJ λj9 _ b6 e4 _=>?_;show bn ai (.loop ?gU) _ _;have gW:∀n tg,CI uU a0 J a2 n tg=some r->cJ ai ?gU j9 (ar [(0,ad bH a0),(1,.str J),(2,.str a2),(7,R tg)]):=by
   refine cX λ_ gG tg h=>cW b6 λ_ n10 cQ dH=>ax cQ λ_ n11 _ eY=>al ?_;refine aF h (λfh h=>?_) λfh h=>?_
   .refine aL (n11 _ (inl (ax cQ λ_ n14 ez _=>bj ez λ_ n15 gM _ _=>?_)));obtain⟨ah,dN,h⟩:=aM h;refine Lw (ah.Left==J) dN [(0,ad bH a0),(1,.str J),(2,.str a2),(7,R tg),(36,.bool ((ah.Left==J)&&(ah.cH==a2)))] ?_;refine aF h (λh5 h=>?_) λh5 h=>?_
    .refine c6 dN _ ?_;exact cK gM [.str ah.Result]
    .refine aL (n15 _ (n14 _ (inl (dA ?_))));exact n10 _ (inr ⟨_,bD rfl,gG (i64.wrap (tg+1)) h⟩)
   .exact cN (eY 0 _ (dH 0 _ (e4 _ (n7 _ (inl (aS ak [.str ([]:aAc)]))))))
  exact dp h λn h=>gW n 0 h
theorem apS:∀n a0 J a2 r,CJ n a0 J a2=some r->aW ai 110 [ad bH a0,.str J,.str a2] (.str r) []:=by
 intro n;induction n with
 |zero=>intro a0 J a2 r h;cases(show none=some r from h)
 |succ n ih=>intro a0 J a2 r h;exact apQ (CJ n) ih a0 J a2 r h
theorem apT (a0 J a2 r) (h:Gz a0 J a2=some r):aW ai 110 [ad bH a0,.str J,.str a2] (.str r) []:=by
 obtain⟨n,h⟩:=ma h;exact apS n a0 J a2 r h
theorem apU (a0 J a2 r) (h:Km a0 J a2=some r):aW ai 73 [ej ft a0,.str J,.str a2] (.str r) []:=by
 refine bB [0,1,2] [.tmp 6] Tryz.func73 alZ λbu ak bt=>al ?_;obtain⟨aa,aU,h⟩:=aM h;refine cP (aaM J _ aU) _ ?_;obtain⟨ah,cY,h⟩:=aM h;refine cP (aaM a2 _ cY) _ ?_;refine ax ak λ_ n6 c_ bz=>?_;obtain⟨aI,fH,h⟩:=aM h;refine dw (b5 [(0,ej ft a0),(1,.str J),(2,.str a2),(7,.ag 1 (aa.1.map a8)),(25,.bool (!aI))] (λP bd=>?_) ?_)
 ·(try simp only[aH.down,simprocAttr]);refine dz (aaF aa.1 ah.1 _ fH) rfl rfl (by simp only[aH.down,simprocAttr,aad.down]<;>rfl) rfl (inr (by rfl)) ?_;simp only[aH.down,simprocAttr];exact bR trivial
 refine aF h (λe4 h=>?_) λe4 h=>?_
 .exact aS c_ [.str ([]:aAc)]
 .refine aL (n6 _ (inl ?_));obtain⟨aZ,dx,aX,el,bz,dT,h⟩:=iQ h;refine jv rfl (iN [(0,ej ft a0),(7,.ag 1 (aa.1.map a8)),(11,.str bz)] (λP bd=>?_) ?_)
  ·(try simp only[dh.down,simprocAttr]);refine hZ (LO J _ dx) (hK:= ?_);simp only[dh.down,simprocAttr];refine hZ (LO a2 _ el) (hK:= ?_);simp only[dh.down,simprocAttr];refine hZ (apT a0.b9 aZ aX _ dT) (hK:= ?_);simp only[dh.down,simprocAttr];refine⟨hS (by kernel_rfl),?_⟩;exact bR trivial
  refine ax ak λ_ n15 gM _=>?_;rcases dL h with⟨kr,h⟩|⟨kr,h⟩
  .refine c6 kr _ ?_;refine i1 rfl ?_;exact aS gM [.str ([]:aAc)]
  .obtain⟨bw,eN,h⟩:=aM h;refine eR kr (HW a0.cC bz _ eN) _ ?_;refine aF h (λfX h=>?_) λfX h=>?_
   .exact aS gM [.str ([]:aAc)]
   .refine aL (n15 _ (inl ?_));obtain⟨cD,iT,h⟩:=aM h;refine dw (b5 [(6,.str cD)] (λP bd=>?_) ?_)
    ·(try simp only[aH.down,simprocAttr]);refine dz (aaE bz aa.1 _ iT) rfl rfl (by simp only[aH.down,simprocAttr,Ly.down]<;>rfl) rfl (inr (by rfl)) ?_;simp only[aH.down,simprocAttr];exact bR trivial
    exact cK ak [.str cD]
theorem apV (bo bq bp bO bM J r) (h:GC bo bq bp bO bM J=some r):aW ai 50 [.aP (.agg [ad bk bo,ad db bq,ad bH bp,ad aE bO,ad aE bM]),ad bF J] (.tuple [.ag 4 (r.1.map f_),.bool r.2]) [.aP (.agg [ad bk bo,ad db bq,ad bH bp,ad aE bO,ad aE bM]),.hole]:=by
 refine bB [0,1] [.tmp 4,.tmp 5] Tryz.func50 al4 λbu ak bt=>al ?_;refine c6 (show∀s,dM ai s 67 0 []=some (.ag 4 [],s)from λs=>by kernel_rfl) _ ?_;refine c6 (show∀s,dM ai s 121 0 []=some (.ag 1 [],s)from λs=>by kernel_rfl) _ ?_;refine ax ak λ_ fa bQ aZ=>al ?_;refine bj bQ λjB _ c_ dC bz=>?_;have AY:∀n gg qj,wH J bo bq bp bO bM n gg qj=some r->cJ ai ZB jB (ar [(0,.aP (.agg [ad bk bo,ad db bq,ad bH bp,ad aE bO,ad aE bM])),(1,ad bF J),(6,.ag 4 []),(7,.ag 1 (gg.map gm)),(8,R qj)]):=by
  refine cX λ_ AZ gg qj h=>cW c_ λ_ n7 eJ bw=>ax eJ λ_ n8 _ cD=>al ?_;refine aF h (λfl h=>?_) λfl h=>?_
  .refine aL (n8 _ (inl (ax eJ λ_ n11 h6 eY=>bj h6 λ_ n12 j_ _ jj=>?_)));obtain⟨aa,dT,ah,dX,h⟩:=dk h;refine ai9 10 11 [0,1,2,3,4,5,6,7,8,9,11,10,12] rfl rfl [(0,.aP (.agg [ad bk bo,ad db bq,ad bH bp,ad aE bO,ad aE bM])),(1,ad bF J),(6,.ag 4 []),(7,.ag 1 (gg.map gm)),(8,R qj),(9,.ag 4 (ah.1.map df)),(10,.bool ah.2)] (λP bd=>?_) (λP bd=>?_) ?_
   ·(try simp only[dh.down,simprocAttr,dT,B6]);refine hZ (aaI bo aa _ dX) (hK:= ?_);simp only[dh.down,simprocAttr,dT,B6];refine⟨hS (by kernel_rfl),?_⟩;exact bR (U dT @B6)
   .simp only[wi,List.map_cons,List.map_nil,List.getD_cons_zero,List.getD_cons_succ,simprocAttr];(try simp only[dh.down,simprocAttr,dT,B6]);refine hZ (aaI bo aa _ dX) (hK:= ?_);simp only[dh.down,simprocAttr,dT,B6];refine⟨hS (by kernel_rfl),?_⟩;exact bR (U dT @B6)
   refine ax j_ λ_ n16 nj ji=>al ?_;refine aF h (λh5 h=>?_) λh5 h=>?_
   .refine al ?_;exact hc (nj _ (inr ⟨[(4,.ag 4 []),(5,.bool false),(0,.aP (.agg [ad bk bo,ad db bq,ad bH bp,ad aE bO,ad aE bM]))],hP [] rfl (hD (t:=4) (d:=.bf) rfl rfl (.hY _) (by decide) (cO rfl (cO rfl (hQ)))),h3 [.ag 4 [],.bool false] (h0 (kl (by cases im h;rfl) rfl rfl rfl (dK (h2))))⟩))
   .refine aL (n16 _ (inr ⟨[(0,.aP (.agg [ad bk bo,ad db bq,ad bH bp,ad aE bO,ad aE bM])),(1,ad bF J),(6,.ag 4 []),(7,.ag 1 (gg.map gm)),(8,R qj),(9,ad df ah.1),(41,.bool (!ah.2))],hP [] rfl (cO rfl (cO rfl (cO rfl (cO rfl (cO rfl (hD (t:=9) (d:=.ag 4 (ah.1.map df)) (bN:=ad df ah.1) rfl rfl (zU rfl rfl (by simp only[cR,I.share,I.shares, @b0 _ df df (λ_=>DN _)]<;>rfl)) (by decide) (cO rfl (hQ)))))))),?_⟩));obtain⟨apW,gV,h⟩:=aM h;(try simp only[fN.down,Nat.zero_add,Nat.add_zero,reduceAdd]at gV);refine pV (U (show∀s,dM ai s 121 1 [(0,ad df ah.1)]=some (.ag 1 [ad df ah.1],s)from λs=>by kernel_rfl) (U (@i7 ai 121 121 122 rfl rfl) (U @i_ (U @ja (U @fW (U @i6 (U @all_nil (U gV (@ic _ gm 1 λ_=>rfl))))))))) [(0,.aP (.agg [ad bk bo,ad db bq,ad bH bp,ad aE bO,ad aE bM])),(1,ad bF J),(6,.ag 4 []),(7,.ag 1 ((gg++[ah.1]).map gm)),(8,R qj)] ?_;refine n12 _ (n11 _ (inl (wr [(0,.aP (.agg [ad bk bo,ad db bq,ad bH bp,ad aE bO,ad aE bM])),(1,ad bF J),(6,.ag 4 []),(7,.ag 1 ((gg++[ah.1]).map gm)),(8,R (i64.wrap (qj+1)))] ?_)));exact n7 _ (inr ⟨_,bD rfl,AZ (gg++[ah.1]) (i64.wrap (qj+1)) h⟩)
  .refine cN (cD 0 _ (bw 0 _ (dC _ (fa _ (inl (ax ak λ_ n23 SY lG=>al ?_))))));refine bj SY λSv _ pf rl wD=>?_;have apX:∀n u2 u3 wG,tk J bo bq bp bO bM n u2 u3 wG=some r->cJ ai ZE Sv (ar [(0,.aP (.agg [ad bk bo,ad db bq,ad bH bp,ad aE bO,ad aE bM])),(1,ad bF J),(6,.ag 4 (u2.map f_)),(7,.ag 1 (u3.map gm)),(11,R wG)]):=by
    refine cX λS0 apY u2 u3 wG h=>cW pf λ_ n26 tA rY=>ax tA λ_ n27 _ uV=>al ?_;refine aF h (λh7 h=>?_) λh7 h=>?_
    .refine aL (n27 _ (inl (ax tA λ_ n30 HK _=>bj HK λ_ n31 HL _ _=>al ?_)));refine bj HL λapZ _ HH jD _=>?_;have SO:∀n ix h4 hT l4,yv (tk J bo bq bp bO bM S0) J bo bq bp bO bM n ix h4 hT l4=some r->cJ ai ZD apZ (ar [(0,.aP (.agg [ad bk bo,ad db bq,ad bH bp,ad aE bO,ad aE bM])),(1,ad bF J),(6,.ag 4 (ix.map f_)),(7,.ag 1 (h4.map gm)),(11,R hT),(12,R l4)]):=by
      refine cX λap0 SP ix h4 hT l4 h=>cW HH λS1 n34 wU ap1=>ax wU λ_ n35 _ S2=>?_;obtain⟨aI,tC,h⟩:=aM h;refine c6 (U tC (b2 tC)) _ ?_;refine aF h (λAQ h=>?_) λAQ h=>?_
      .refine aL (n35 _ (inl ?_));have S3:∀CK CL CM CN,GA (tk J bo bq bp bO bM S0) (yv (tk J bo bq bp bO bM S0) J bo bq bp bO bM ap0) J bo bq bp bO bM CK CL CM CN=some r->bn ai ZC S1 (ar [(0,.aP (.agg [ad bk bo,ad db bq,ad bH bp,ad aE bO,ad aE bM])),(1,ad bF J),(6,.ag 4 (CK.map f_)),(7,.ag 1 (CL.map gm)),(11,R CM),(12,R CN)]):=by
        intro CK CL CM CN h;refine dA ?_;exact n34 _ (inr ⟨_,bD rfl,SP CK CL CM (i64.wrap (CN+1)) h⟩)
       refine ax wU λ_ n39 vt _=>bj vt λ_ n41 vu tD _=>?_;obtain⟨aZ,tH,h⟩:=aM h;refine c6 (U tC (U (b2 tC) tH)) _ ?_;refine ax vu λ_ n44 _ HZ=>?_;rcases dL h with⟨yS,h⟩|⟨yS,h⟩
       .obtain⟨aX,sr,bz,S4,h⟩:=dk h;refine jv rfl (iN [(0,.aP (.agg [ad bk bo,ad db bq,ad bH bp,ad aE bO,ad aE bM])),(1,ad bF J),(6,.ag 4 (ix.map f_)),(7,.ag 1 (h4.map gm)),(11,R hT),(12,R l4),(13,.aP (df aZ)),(81,.bool (decide (bz<0)))] (λP bd=>?_) ?_)
        ·(try simp only[dh.down,simprocAttr,yS]);refine lX (LO aZ.Label _ sr) (hK:= ?_);simp only[dh.down,simprocAttr,yS];refine lX (HW bO aX _ S4) (hK:= ?_);simp only[dh.down,simprocAttr,yS];refine⟨hS (by kernel_rfl),?_⟩;exact bR yS
        refine aF h (λSm h=>?_) λSm h=>?_
        .exact cN (HZ 5 _ (tD _ (n39 _ (inr ⟨_,bD rfl,S3 ix h4 hT l4 h⟩))))
        .refine aL (n44 _ (inl ?_));obtain⟨bw,w5,h⟩:=aM h;refine l1 (b5 (K:=eM _) [(0,.aP (.agg [ad bk bo,ad db bq,ad bH bp,ad aE bO,ad aE bM])),(1,ad bF J),(6,.ag 4 (ix.map f_)),(7,.ag 1 (h4.map gm)),(11,R hT),(12,R l4),(13,.aP (df aZ)),(14,.ag 3 (bw.map ey))] (λP bd=>?_) (FE [(0,.aP (.agg [ad bk bo,ad db bq,ad bH bp,ad aE bO,ad aE bM])),(1,ad bF J),(6,.ag 4 (ix.map f_)),(7,.ag 1 (h4.map gm)),(11,R hT),(12,R l4),(13,.aP (df aZ)),(14,.ag 3 (bw.map bF))] (hP [] rfl (cO rfl (cO rfl (cO rfl (cO rfl (cO rfl (cO rfl (cO rfl (hD (t:=14) (d:=.ag 3 (bw.map ey)) (bN:=.ag 3 (bw.map bF)) rfl rfl (.ag (Jx (λ_=>zU rfl rfl (pe _)) _)) (by decide) (hQ)))))))))) ?_))
         ·(try simp only[aH.down,simprocAttr]);refine dz (DV J _ w5) (hK:= ?_);simp only[aH.down,simprocAttr];exact bR trivial
         obtain⟨cD,DW,h⟩:=aM h;refine dw (b5 [(0,.aP (.agg [ad bk bo,ad db bq,ad bH bp,ad aE bO,ad aE bM])),(1,ad bF J),(6,.ag 4 (ix.map f_)),(7,.ag 1 (h4.map gm)),(11,R hT),(12,R l4),(13,.aP (df aZ)),(14,.ag 3 ((List.set bw (Int.toNat hT) aZ.Next).map bF))] (λP bd=>?_) ?_)
         .simp only[aH.down,simprocAttr,DW,b2 DW,cS,da];exact bR (U DW (U (b2 DW) @cS))
         obtain⟨du,oV,dH,HV,eY,w6,h⟩:=iQ h;refine hx (b5 [(0,.aP (.agg [ad bk bo,ad db bq,ad bH bp,ad aE bO,ad aE bM])),(1,ad bF J),(6,.ag 4 (eY.map f_)),(7,.ag 1 (h4.map gm)),(11,R hT),(12,R l4)] (λP bd=>?_) ?_)
         ·(try simp only[aH.down,simprocAttr,sg.down,ei,dQ,I.shares]);refine dz (SR (cT.mk bo bq bp bO bM) aZ.Label _ oV) rfl rfl (by simp only[aH.down,simprocAttr,R7.down,ei,dQ,I.shares]<;>rfl) rfl (inr (by rfl)) ?_;simp only[aH.down,simprocAttr,sg.down,ei,dQ,I.shares];refine dz (DV (List.set bw (Int.toNat hT) aZ.Next) _ HV) rfl rfl (by simp only[aH.down,simprocAttr,R8.down,ei,dQ,I.shares]<;>rfl) rfl (inr (jZ (λ_=>DM _) _)) ?_;simp only[aH.down,simprocAttr,sg.down,ei,dQ,I.shares];refine kj [⟨.h 6 [],true,_,.hole⟩,⟨.agg [.str du,R hT,R (-1),ad bF dH],false,_,.hole⟩] (SS ix (bm.mk du hT (-1) dH) _ w6) rfl rfl rfl (by simp only[aH.down,simprocAttr,R9.down,ei,dQ,I.shares]) rfl rfl (inl rfl) ?_;simp only[aH.down,simprocAttr,R_.down,ei,dQ,I.shares];exact bR sg.down
         exact n41 _ (n39 _ (inr ⟨_,bD rfl,S3 eY h4 hT l4 h⟩))
       .refine og yS _ ?_;refine n1 rfl ?_;refine aL (n44 _ (inl ?_));obtain⟨jj,ss,h⟩:=aM h;refine l1 (b5 (K:=eM _) [(0,.aP (.agg [ad bk bo,ad db bq,ad bH bp,ad aE bO,ad aE bM])),(1,ad bF J),(6,.ag 4 (ix.map f_)),(7,.ag 1 (h4.map gm)),(11,R hT),(12,R l4),(13,.aP (df aZ)),(14,.ag 3 (jj.map ey))] (λP bd=>?_) (FE [(0,.aP (.agg [ad bk bo,ad db bq,ad bH bp,ad aE bO,ad aE bM])),(1,ad bF J),(6,.ag 4 (ix.map f_)),(7,.ag 1 (h4.map gm)),(11,R hT),(12,R l4),(13,.aP (df aZ)),(14,.ag 3 (jj.map bF))] (hP [] rfl (cO rfl (cO rfl (cO rfl (cO rfl (cO rfl (cO rfl (cO rfl (hD (t:=14) (d:=.ag 3 (jj.map ey)) (bN:=.ag 3 (jj.map bF)) rfl rfl (.ag (Jx (λ_=>zU rfl rfl (pe _)) _)) (by decide) (hQ)))))))))) ?_))
        ·(try simp only[aH.down,simprocAttr]);refine dz (DV J _ ss) (hK:= ?_);simp only[aH.down,simprocAttr];exact bR trivial
        obtain⟨l3,tI,h⟩:=aM h;refine dw (b5 [(0,.aP (.agg [ad bk bo,ad db bq,ad bH bp,ad aE bO,ad aE bM])),(1,ad bF J),(6,.ag 4 (ix.map f_)),(7,.ag 1 (h4.map gm)),(11,R hT),(12,R l4),(13,.aP (df aZ)),(14,.ag 3 ((List.set jj (Int.toNat hT) aZ.Next).map bF))] (λP bd=>?_) ?_)
        .simp only[aH.down,simprocAttr,tI,b2 tI,cS,da];exact bR (U tI (U (b2 tI) @cS))
        obtain⟨iy,Ss,hf,LQ,ji,vv,h⟩:=iQ h;refine hx (b5 [(0,.aP (.agg [ad bk bo,ad db bq,ad bH bp,ad aE bO,ad aE bM])),(1,ad bF J),(6,.ag 4 (ji.map f_)),(7,.ag 1 (h4.map gm)),(11,R hT),(12,R l4)] (λP bd=>?_) ?_)
        ·(try simp only[aH.down,simprocAttr,sg.down,ei,dQ,I.shares]);refine dz (SR (cT.mk bo bq bp bO bM) aZ.Label _ Ss) rfl rfl (by simp only[aH.down,simprocAttr,R7.down,ei,dQ,I.shares]<;>rfl) rfl (inr (by rfl)) ?_;simp only[aH.down,simprocAttr,sg.down,ei,dQ,I.shares];refine dz (DV (List.set jj (Int.toNat hT) aZ.Next) _ LQ) rfl rfl (by simp only[aH.down,simprocAttr,R8.down,ei,dQ,I.shares]<;>rfl) rfl (inr (jZ (λ_=>DM _) _)) ?_;simp only[aH.down,simprocAttr,sg.down,ei,dQ,I.shares];refine kj [⟨.h 6 [],true,_,.hole⟩,⟨.agg [.str iy,R hT,R (-1),ad bF hf],false,_,.hole⟩] (SS ix (bm.mk iy hT (-1) hf) _ vv) rfl rfl rfl (by simp only[aH.down,simprocAttr,R9.down,ei,dQ,I.shares]) rfl rfl (inl rfl) ?_;simp only[aH.down,simprocAttr,R_.down,ei,dQ,I.shares];exact bR sg.down
        exact n41 _ (n39 _ (inr ⟨_,bD rfl,S3 ji h4 hT l4 h⟩))
      .refine cN (S2 4 _ (ap1 4 _ (jD _ (n31 _ (n30 _ (inl (dA ?_)))))));exact n26 _ (inr ⟨_,bD rfl,apY ix h4 (i64.wrap (hT+1)) h⟩)
     exact dp h λn h=>SO n u2 u3 wG 0 h
    .refine cN (uV 2 _ (rY 2 _ (rl _ (n23 _ (inl (ax ak λ_ ap2 ap3 _=>al ?_))))));refine bj ap3 λap4 _ ap5 rk _=>?_;have ap6:∀n r0 yw tj,l5 J bo bq bp bO bM n r0 yw tj=some r->cJ ai ZJ ap4 (ar [(0,.aP (.agg [ad bk bo,ad db bq,ad bH bp,ad aE bO,ad aE bM])),(1,ad bF J),(6,.ag 4 (r0.map f_)),(7,.ag 1 (yw.map gm)),(15,R tj)]):=by
      refine cX λp0 ap7 r0 yw tj h=>cW ap5 λ_ n70 aaN ap8=>ax aaN λ_ n71 _ ap9=>al ?_;refine aF h (λap_ h=>?_) λap_ h=>?_
      .refine aL (n71 _ (inl (ax aaN λ_ n74 S5 _=>bj S5 λ_ n75 aqa _ _=>al ?_)));refine bj aqa λaqb _ aqc aqd _=>?_;have Sj:∀n uZ u0 u1 wF,pa (l5 J bo bq bp bO bM p0) J bo bq bp bO bM n uZ u0 u1 wF=some r->cJ ai ZI aqb (ar [(0,.aP (.agg [ad bk bo,ad db bq,ad bH bp,ad aE bO,ad aE bM])),(1,ad bF J),(6,.ag 4 (uZ.map f_)),(7,.ag 1 (u0.map gm)),(15,R u1),(16,R wF)]):=by
        refine cX λA1 Sk uZ u0 u1 wF h=>cW aqc λ_ n78 aaO aqe=>ax aaO λ_ n79 _ aqf=>al ?_;refine aF h (λaqg h=>?_) λaqg h=>?_
        .refine aL (n79 _ (inl (ax aaO λ_ n82 aqh _=>bj aqh λ_ n83 S6 _ _=>al ?_)));refine bj S6 λaqi _ aqj S7 _=>?_;have aqk:∀n uX th ti uY wE,rZ (l5 J bo bq bp bO bM p0) (pa (l5 J bo bq bp bO bM p0) J bo bq bp bO bM A1) J bo bq bp bO bM n uX th ti uY wE=some r->cJ ai ZH aqi (ar [(0,.aP (.agg [ad bk bo,ad db bq,ad bH bp,ad aE bO,ad aE bM])),(1,ad bF J),(6,.ag 4 (uX.map f_)),(7,.ag 1 (th.map gm)),(15,R ti),(16,R uY),(17,R wE)]):=by
          refine cX λS8 aql uX th ti uY wE h=>cW aqj λ_ n86 aaP aqm=>ax aaP λ_ n87 _ aqn=>?_;obtain⟨iA,aaQ,h⟩:=aM h;refine c6 (U aaQ (b2 aaQ)) _ ?_;refine aF h (λaqo h=>?_) λaqo h=>?_
          .refine aL (n87 _ (inl (ax aaP λ_ n91 aqp _=>bj aqp λ_ n92 aqq _ _=>al ?_)));refine bj aqq λaqr _ aqs aqt _=>?_;have aqu:∀n nb mH j4 kH nc mI,uW (l5 J bo bq bp bO bM p0) (pa (l5 J bo bq bp bO bM p0) J bo bq bp bO bM A1) (rZ (l5 J bo bq bp bO bM p0) (pa (l5 J bo bq bp bO bM p0) J bo bq bp bO bM A1) J bo bq bp bO bM S8) J bo bq bp bO bM n nb mH j4 kH nc mI=some r->cJ ai ZG aqr (ar [(0,.aP (.agg [ad bk bo,ad db bq,ad bH bp,ad aE bO,ad aE bM])),(1,ad bF J),(6,.ag 4 (nb.map f_)),(7,.ag 1 (mH.map gm)),(15,R j4),(16,R kH),(17,R nc),(18,R mI)]):=by
            refine cX λaqv aqw nb mH j4 kH nc mI h=>cW aqs λaqx n95 aaR aqy=>ax aaR λ_ n96 _ aqz=>?_;obtain⟨qi,qz,h⟩:=aM h;refine Lw (decide (mI<(qi.length:Int))) (U qz (b2 qz)) [(0,.aP (.agg [ad bk bo,ad db bq,ad bH bp,ad aE bO,ad aE bM])),(1,ad bF J),(6,.ag 4 (nb.map f_)),(7,.ag 1 (mH.map gm)),(15,R j4),(16,R kH),(17,R nc),(18,R mI),(133,.bool ((decide (mI<(qi.length:Int)))&&(decide ((nb.length:Int)<=200))))] ?_;refine aF h (λaqA h=>?_) λaqA h=>?_
            .refine aL (n96 _ (inl ?_));have aaS:∀CO CP CQ CR CS CT,Kn (l5 J bo bq bp bO bM p0) (pa (l5 J bo bq bp bO bM p0) J bo bq bp bO bM A1) (rZ (l5 J bo bq bp bO bM p0) (pa (l5 J bo bq bp bO bM p0) J bo bq bp bO bM A1) J bo bq bp bO bM S8) (uW (l5 J bo bq bp bO bM p0) (pa (l5 J bo bq bp bO bM p0) J bo bq bp bO bM A1) (rZ (l5 J bo bq bp bO bM p0) (pa (l5 J bo bq bp bO bM p0) J bo bq bp bO bM A1) J bo bq bp bO bM S8) J bo bq bp bO bM aqv) J bo bq bp bO bM CO CP CQ CR CS CT=some r->bn ai ZF aqx (ar [(0,.aP (.agg [ad bk bo,ad db bq,ad bH bp,ad aE bO,ad aE bM])),(1,ad bF J),(6,.ag 4 (CO.map f_)),(7,.ag 1 (CP.map gm)),(15,R CQ),(16,R CR),(17,R CS),(18,R CT)]):=by
              intro CO CP CQ CR CS CT h;refine dA ?_;exact n95 _ (inr ⟨_,bD rfl,aqw CO CP CQ CR CS (i64.wrap (CT+1)) h⟩)
             refine ax aaR λ_ n100 aqB _=>bj aqB λ_ n102 aqC aqD _=>?_;obtain⟨lD,su,lE,DX,ko,DY,h⟩:=iQ h;obtain⟨lF,aqE,h⟩:=aM h;refine jv rfl (iN [(0,.aP (.agg [ad bk bo,ad db bq,ad bH bp,ad aE bO,ad aE bM])),(1,ad bF J),(6,.ag 4 (nb.map f_)),(7,.ag 1 (mH.map gm)),(15,R j4),(16,R kH),(17,R nc),(18,R mI),(19,.str lF)] (λP bd=>?_) ?_)
             ·(try simp only[dh.down,simprocAttr,su,b2 su,DX,qz,b2 qz,DY]);refine hZ (apU (cT.mk bo bq bp bO bM) lE.Label ko.Label _ aqE) rfl rfl (by simp only[dh.down,simprocAttr,su,b2 su,DX,qz,b2 qz,DY,Lz.down]<;>rfl) rfl (inr (by rfl)) ?_;simp only[dh.down,simprocAttr,su,b2 su,DX,qz,b2 qz,DY];refine⟨hS (by kernel_rfl),?_⟩;exact bR (U su (U (b2 su) (U DX (U qz (U (b2 qz) DY)))))
             refine ax aqC λ_ n108 _ aqF=>al ?_;refine aF h (λaqG h=>?_) λaqG h=>?_
             .exact cN (aqF 13 _ (aqD _ (n100 _ (inr ⟨_,bD rfl,aaS nb mH j4 kH nc mI h⟩))))
             .refine aL (n108 _ (inl ?_));obtain⟨lG,aqH,h⟩:=aM h;refine l1 (b5 (K:=eM _) [(0,.aP (.agg [ad bk bo,ad db bq,ad bH bp,ad aE bO,ad aE bM])),(1,ad bF J),(6,.ag 4 (nb.map f_)),(7,.ag 1 (mH.map gm)),(15,R j4),(16,R kH),(17,R nc),(18,R mI),(19,.str lF),(20,.ag 3 (lG.map ey))] (λP bd=>?_) (FE [(0,.aP (.agg [ad bk bo,ad db bq,ad bH bp,ad aE bO,ad aE bM])),(1,ad bF J),(6,.ag 4 (nb.map f_)),(7,.ag 1 (mH.map gm)),(15,R j4),(16,R kH),(17,R nc),(18,R mI),(19,.str lF),(20,.ag 3 (lG.map bF))] (hP [] rfl (cO rfl (cO rfl (cO rfl (cO rfl (cO rfl (cO rfl (cO rfl (cO rfl (cO rfl (hD (t:=20) (d:=.ag 3 (lG.map ey)) (bN:=.ag 3 (lG.map bF)) rfl rfl (.ag (Jx (λ_=>zU rfl rfl (pe _)) _)) (by decide) (hQ)))))))))))) ?_))
              ·(try simp only[aH.down,simprocAttr]);refine dz (DV J _ aqH) (hK:= ?_);simp only[aH.down,simprocAttr];exact bR trivial
              obtain⟨P6,LR,h⟩:=aM h;refine dw (b5 [(0,.aP (.agg [ad bk bo,ad db bq,ad bH bp,ad aE bO,ad aE bM])),(1,ad bF J),(6,.ag 4 (nb.map f_)),(7,.ag 1 (mH.map gm)),(15,R j4),(16,R kH),(17,R nc),(18,R mI),(19,.str lF),(20,.ag 3 ((List.set lG (Int.toNat j4) lE.Next).map bF))] (λP bd=>?_) ?_)
              .simp only[aH.down,simprocAttr,su,b2 su,DX,LR,b2 LR,cS,da];exact bR (U su (U (b2 su) (U DX (U LR (U (b2 LR) @cS)))))
              obtain⟨wD,LS,h⟩:=aM h;refine dw (b5 [(0,.aP (.agg [ad bk bo,ad db bq,ad bH bp,ad aE bO,ad aE bM])),(1,ad bF J),(6,.ag 4 (nb.map f_)),(7,.ag 1 (mH.map gm)),(15,R j4),(16,R kH),(17,R nc),(18,R mI),(19,.str lF),(20,.ag 3 ((List.set (List.set lG (Int.toNat j4) lE.Next) (Int.toNat kH) ko.Next).map bF))] (λP bd=>?_) ?_)
              .simp only[aH.down,simprocAttr,qz,b2 qz,DY,LS,b2 LS,cS,da];exact bR (U qz (U (b2 qz) (U DY (U LS (U (b2 LS) @cS)))))
              obtain⟨rY,aqI,uV,aqJ,Kq,aqK,h⟩:=iQ h;refine hx (b5 [(0,.aP (.agg [ad bk bo,ad db bq,ad bH bp,ad aE bO,ad aE bM])),(1,ad bF J),(6,.ag 4 (Kq.map f_)),(7,.ag 1 (mH.map gm)),(15,R j4),(16,R kH),(17,R nc),(18,R mI)] (λP bd=>?_) ?_)
              ·(try simp only[aH.down,simprocAttr,sg.down,ei,dQ,I.shares]);refine dz (SR (cT.mk bo bq bp bO bM) lF _ aqI) rfl rfl (by simp only[aH.down,simprocAttr,R7.down,ei,dQ,I.shares]<;>rfl) rfl (inr (by rfl)) ?_;simp only[aH.down,simprocAttr,sg.down,ei,dQ,I.shares];refine dz (DV (List.set (List.set lG (Int.toNat j4) lE.Next) (Int.toNat kH) ko.Next) _ aqJ) rfl rfl (by simp only[aH.down,simprocAttr,R8.down,ei,dQ,I.shares]<;>rfl) rfl (inr (jZ (λ_=>DM _) _)) ?_;simp only[aH.down,simprocAttr,sg.down,ei,dQ,I.shares];refine kj [⟨.h 6 [],true,_,.hole⟩,⟨.agg [.str rY,R j4,R kH,ad bF uV],false,_,.hole⟩] (SS nb (bm.mk rY j4 kH uV) _ aqK) rfl rfl rfl (by simp only[aH.down,simprocAttr,R9.down,ei,dQ,I.shares]) rfl rfl (inl rfl) ?_;simp only[aH.down,simprocAttr,R_.down,ei,dQ,I.shares];exact bR sg.down
              exact n102 _ (n100 _ (inr ⟨_,bD rfl,aaS Kq mH j4 kH nc mI h⟩))
            .refine cN (aqz 12 _ (aqy 12 _ (aqt _ (n92 _ (n91 _ (inl (dA ?_)))))));exact n86 _ (inr ⟨_,bD rfl,aql nb mH j4 kH (i64.wrap (nc+1)) h⟩)
           exact dp h λn h=>aqu n uX th ti uY wE 0 h
          .refine cN (aqn 10 _ (aqm 10 _ (S7 _ (n83 _ (n82 _ (inl (dA ?_)))))));exact n78 _ (inr ⟨_,bD rfl,Sk uX th ti (i64.wrap (uY+1)) h⟩)
         exact dp h λn h=>aqk n uZ u0 u1 wF 0 h
        .refine cN (aqf 8 _ (aqe 8 _ (aqd _ (n75 _ (n74 _ (inl (dA ?_)))))));exact n70 _ (inr ⟨_,bD rfl,ap7 uZ u0 (i64.wrap (u1+1)) h⟩)
       exact dp h λn h=>Sj n r0 yw tj (i64.wrap (tj+1)) h
      .refine cN (ap9 6 _ (ap8 6 _ (rk _ (ap2 _ (inl (al ?_))))));exact hc (ak _ (inl (h3 [.ag 4 (r0.map f_),.bool (decide ((r0.length:Int)<=200))] (h0 (kl (by cases im h;rfl) rfl rfl rfl (dK (h2)))))))
     exact dp h λn h=>ap6 n u2 u3 0 h
   exact dp h λn h=>apX n [] gg 0 h
 exact dp h λn h=>AY n [] 0 h
theorem aqL (bo bq bp bO bM J r) (h:Kr bo bq bp bO bM J=some r):aW ai 23 [.aP (.agg [ad bk bo,ad db bq,ad bH bp,ad aE bO,ad aE bM]),ad bF J] (.tuple [.ag 1 (r.1.map aE),.ag 1 (r.2.1.map rj),.bool r.2.2]) [.aP (.agg [ad bk bo,ad db bq,ad bH bp,ad aE bO,ad aE bM]),.hole]:=by
 refine bB [0,1] [.tmp 4,.tmp 5,.tmp 6] Tryz.func23 al5 λbu ak bt=>al ?_;obtain⟨aa,aU,h⟩:=aM h;refine dw (b5 [(0,.aP (.agg [ad bk bo,ad db bq,ad bH bp,ad aE bO,ad aE bM])),(7,.ag 4 (aa.1.map f_)),(8,.bool aa.2)] (λP bd=>?_) ?_)
 ·(try simp only[aH.down,simprocAttr]);refine kj [⟨.h 0 [],true,_,_⟩,⟨ad bF J,false,_,.hole⟩] (apV bo bq bp bO bM J _ aU) rfl rfl rfl (by simp only[aH.down,simprocAttr,l0,kX,kk,gQ,gR,gS,cR,or_true,true_or, @b0 _ bk bk (λ_=>sc _), @b0 _ db db (λ_=>yI _), @b0 _ bH bH (λ_=>pU _), @b0 _ aE aE (λ_=>jz _), @b0 _ aE aE (λ_=>jz _)]) rfl rfl (inl rfl) ?_;simp only[aH.down,simprocAttr,jI];exact bR trivial
 refine c6 (show∀s,dM ai s 25 0 []=some (.ag 1 [],s)from λs=>by kernel_rfl) _ ?_;refine c6 (show∀s,dM ai s 57 0 []=some (.ag 1 [],s)from λs=>by kernel_rfl) _ ?_;refine ax ak λ_ n6 c_ _=>al ?_;refine bj c_ λiE _ hF cp _=>?_;show bn ai (.loop ?c12) _ _;have aqM:∀n qk ql nJ,CU bo bq bp bO bM aa n qk ql nJ=some r->cJ ai ?c12 iE (ar [(0,.aP (.agg [ad bk bo,ad db bq,ad bH bp,ad aE bO,ad aE bM])),(7,.ag 4 (aa.1.map f_)),(8,.bool aa.2),(9,.ag 1 (qk.map aE)),(10,.ag 1 (ql.map rj)),(11,R nJ)]):=by
  refine cX λ_ aqN qk ql nJ h=>cW hF λ_ cE b6 du=>ax b6 λ_ n10 _ dH=>al ?_;refine aF h (λe3 h=>?_) λe3 h=>?_
  .refine aL (n10 _ (inl (ax b6 λ_ n13 fC _=>bj fC λ_ n14 _ _ _=>?_)));obtain⟨ah,cx,HT,dN,h⟩:=dk h;(try simp only[fN.down,Nat.zero_add,Nat.add_zero,reduceAdd]at dN);refine c6 (U cx (U (b2 cx) (U (show∀s,dM ai s 25 1 [(0,.str ah.Label)]=some (.ag 1 [.str ah.Label],s)from λs=>by kernel_rfl) (U (@i7 ai 25 25 9 rfl rfl) (U @i_ (U @ja (U @fW (U @i6 (U @all_nil (U dN (@ic _ aE 1 λ_=>rfl))))))))))) [(0,.aP (.agg [ad bk bo,ad db bq,ad bH bp,ad aE bO,ad aE bM])),(7,.ag 4 (aa.1.map f_)),(8,.bool aa.2),(9,.ag 1 ((qk++[ah.Label]).map aE)),(10,.ag 1 (ql.map rj)),(11,R nJ)] ?_;obtain⟨HT,eN,h⟩:=aM h;(try simp only[fN.down,Nat.zero_add,Nat.add_zero,reduceAdd]at eN);refine pV (U cx (U (b2 cx) (U (show∀s,dM ai s 57 1 [(0,ad bF ah.State)]=some (.ag 1 [ad bF ah.State],s)from λs=>by kernel_rfl) (U (@i7 ai 57 57 39 rfl rfl) (U @i_ (U @ja (U @fW (U @i6 (U @all_nil (U eN (@ic _ rj 1 λ_=>rfl))))))))))) [(0,.aP (.agg [ad bk bo,ad db bq,ad bH bp,ad aE bO,ad aE bM])),(7,.ag 4 (aa.1.map f_)),(8,.bool aa.2),(9,.ag 1 ((qk++[ah.Label]).map aE)),(10,.ag 1 ((ql++[ah.State]).map rj)),(11,R nJ)] ?_;refine n14 _ (n13 _ (inl (wr [(0,.aP (.agg [ad bk bo,ad db bq,ad bH bp,ad aE bO,ad aE bM])),(7,.ag 4 (aa.1.map f_)),(8,.bool aa.2),(9,.ag 1 ((qk++[ah.Label]).map aE)),(10,.ag 1 ((ql++[ah.State]).map rj)),(11,R (i64.wrap (nJ+1)))] ?_)));exact cE _ (inr ⟨_,bD rfl,aqN (qk++[ah.Label]) (ql++[ah.State]) (i64.wrap (nJ+1)) h⟩)
  .refine cN (dH 0 _ (du 0 _ (cp _ (n6 _ (inl (al ?_))))));exact hc (ak _ (inl (h3 [.ag 1 (qk.map aE),.ag 1 (ql.map rj),.bool aa.2] (h0 (kl (by cases im h;rfl) rfl rfl rfl (dK (h2)))))))
 exact dp h λn h=>aqM n [] [] 0 h
theorem aqO (a0 r) (h:Ks a0=some r):aW ai 24 [ad aE a0] (.ag 1 (r.map aE)) []:=by
 refine bB [0] [.tmp 2] Tryz.func24 c24 λbu ak bt=>al ?_;refine c6 (show∀s,dM ai s 25 1 [(0,.str ([116,97,117]:aAc))]=some (.ag 1 [.str ([116,97,117]:aAc)],s)from λs=>by kernel_rfl) _ ?_;refine ax ak λ_ fg dt aI=>al ?_;refine bj dt λpY _ cG c7 aX=>?_;have iC:∀n bY bK,u4 a0 n bY bK=some r->cJ ai ZM pY (ar [(0,ad aE a0),(3,.ag 1 (bY.map aE)),(4,R bK)]):=by
  refine cX λm8 iD bY bK h=>cW cG λjB n6 c_ bz=>ax c_ λ_ n7 _ bw=>al ?_;refine aF h (λe4 h=>?_) λe4 h=>?_
  .refine aL (n7 _ (inl ?_));have S9:∀CV CW,GD (u4 a0 m8) a0 CV CW=some r->bn ai ZL jB (ar [(0,ad aE a0),(3,.ag 1 (CV.map aE)),(4,R CW)]):=by
    intro CV CW h;refine dA ?_;exact n6 _ (inr ⟨_,bD rfl,iD CV (i64.wrap (CW+1)) h⟩)
   refine ax c_ λ_ n10 cQ dH=>bj cQ λ_ n12 j_ e3 jj=>ax j_ λ_ n13 _ l3=>?_;obtain⟨aa,dX,ah,cx,h⟩:=dk h;refine dw (b5 [(0,ad aE a0),(3,.ag 1 (bY.map aE)),(4,R bK),(20,.bool (decide (0<=ah)))] (λP bd=>?_) ?_)
   ·(try simp only[aH.down,simprocAttr,dX]);refine dz (HW bY aa _ cx) rfl rfl (by simp only[aH.down,simprocAttr,dX,yL.down]<;>rfl) rfl (inr (by rfl)) ?_;simp only[aH.down,simprocAttr,dX];exact bR dX
   refine aF h (λkr h=>?_) λkr h=>?_
   .exact cN (l3 1 _ (e3 _ (n10 _ (inr ⟨_,bD rfl,S9 bY bK h⟩))))
   .refine aL (n13 _ (inl (al ?_)));refine ax j_ λ_ n19 AM _=>bj AM λaqP _ HC fX _=>?_;have aqQ:∀n kZ oL n5,Aj (u4 a0 m8) a0 n kZ oL n5=some r->cJ ai ZK aqP (ar [(0,ad aE a0),(3,.ag 1 (kZ.map aE)),(4,R oL),(5,R n5)]):=by
     refine cX λ_ aqR kZ oL n5 h=>cW HC λ_ n21 w7 ko=>ax w7 λ_ n22 _ lF=>?_;rcases dL h with⟨hA,h⟩|⟨hA,h⟩
     .obtain⟨aI,hI,aZ,rm,h⟩:=dk h;refine og (U hA (U hI (U (b2 hI) rm))) _ ?_;refine aF h (λnL h=>?_) λnL h=>?_
      .refine aL (n22 _ (inl (bj w7 λ_ n28 _ _ _=>dA ?_)));exact n28 _ (n21 _ (inr ⟨_,bD rfl,aqR kZ oL (i64.wrap (n5+1)) h⟩))
      .refine cN (lF 2 _ (ko 2 _ (fX _ (n19 _ (inl ?_)))));obtain⟨azO,DU,h⟩:=aM h;(try simp only[fN.down,Nat.zero_add,Nat.add_zero,reduceAdd]at DU);refine c6 (U (show∀s,dM ai s 25 1 [(0,.str ([]:aAc))]=some (.ag 1 [.str ([]:aAc)],s)from λs=>by kernel_rfl) (U (@i7 ai 25 25 9 rfl rfl) (U @i_ (U @ja (U @fW (U @i6 (U @all_nil (U DU (@ic _ aE 1 λ_=>rfl))))))))) [(0,ad aE a0),(3,.ag 1 ((kZ++[([]:aAc)]).map aE)),(4,R oL),(5,R n5)] ?_;refine ax j_ λ_ n32 aqS _=>ws [(0,ad aE a0),(3,.ag 1 ((kZ++[([]:aAc)]).map aE)),(4,R oL),(5,R n5),(6,R (i64.wrap (((kZ++[([]:aAc)]).length:Int)-1)))] ?_;refine bj aqS λS1 _ wU aqT _=>?_;have S_:∀n k_ l6 lH kI,wI (u4 a0 m8) a0 n k_ l6 lH kI=some r->cJ ai RT S1 (ar [(0,ad aE a0),(3,.ag 1 (k_.map aE)),(4,R l6),(5,R lH),(6,R kI)]):=by
        refine cX λaqU Ta k_ l6 lH kI h=>cW wU λ_ n35 aaT S2=>ax aaT λ_ n36 _ aqV=>al ?_;refine aF h (λAQ h=>?_) λAQ h=>?_
        .refine aL (n36 _ (inl (ax aaT λ_ n39 vt _=>bj vt λ_ n40 _ _ _=>?_)));obtain⟨aX,w2,bz,tH,h⟩:=dk h;refine hx (b5 [(0,ad aE a0),(3,.ag 1 ((List.set k_ (Int.toNat kI) aX).map aE)),(4,R l6),(5,R lH),(6,R kI)] (λP bd=>?_) ?_)
         .simp only[aH.down,simprocAttr,w2,b2 w2,tH,b2 tH,cS,da];exact bR (U w2 (U (b2 w2) (U tH (U (b2 tH) @cS))))
         refine n40 _ (n39 _ (inl (wr [(0,ad aE a0),(3,.ag 1 ((List.set k_ (Int.toNat kI) aX).map aE)),(4,R l6),(5,R lH),(6,R (i64.wrap (kI-1)))] ?_)));exact n35 _ (inr ⟨_,bD rfl,Ta (List.set k_ (Int.toNat kI) aX) l6 lH (i64.wrap (kI-1)) h⟩)
        .refine cN (aqV 4 _ (S2 4 _ (aqT _ (n32 _ (inl ?_)))));obtain⟨bw,LL,cD,sr,h⟩:=dk h;refine hx (b5 [(0,ad aE a0),(3,.ag 1 ((List.set k_ (Int.toNat lH) bw).map aE)),(4,R l6)] (λP bd=>?_) ?_)
         .simp only[aH.down,simprocAttr,LL,sr,b2 sr,cS,da];exact bR (U LL (U sr (U (b2 sr) @cS)))
         exact n12 _ (n10 _ (inr ⟨_,bD rfl,S9 (List.set k_ (Int.toNat lH) bw) l6 h⟩))
       exact dp h λn h=>S_ n (kZ++[([]:aAc)]) oL n5 (i64.wrap (((kZ++[([]:aAc)]).length:Int)-1)) h
     .refine og hA _ ?_;refine n1 rfl ?_;refine cN (lF 2 _ (ko 2 _ (fX _ (n19 _ (inl ?_)))));obtain⟨A2,qw,h⟩:=aM h;(try simp only[fN.down,Nat.zero_add,Nat.add_zero,reduceAdd]at qw);refine c6 (U (show∀s,dM ai s 25 1 [(0,.str ([]:aAc))]=some (.ag 1 [.str ([]:aAc)],s)from λs=>by kernel_rfl) (U (@i7 ai 25 25 9 rfl rfl) (U @i_ (U @ja (U @fW (U @i6 (U @all_nil (U qw (@ic _ aE 1 λ_=>rfl))))))))) [(0,ad aE a0),(3,.ag 1 ((kZ++[([]:aAc)]).map aE)),(4,R oL),(5,R n5)] ?_;refine ax j_ λ_ n50 Tb _=>ws [(0,ad aE a0),(3,.ag 1 ((kZ++[([]:aAc)]).map aE)),(4,R oL),(5,R n5),(6,R (i64.wrap (((kZ++[([]:aAc)]).length:Int)-1)))] ?_;refine bj Tb λSF _ SG HQ _=>?_;have S_:∀n k_ l6 lH kI,wI (u4 a0 m8) a0 n k_ l6 lH kI=some r->cJ ai RT SF (ar [(0,ad aE a0),(3,.ag 1 (k_.map aE)),(4,R l6),(5,R lH),(6,R kI)]):=by
       refine cX λaqU Ta k_ l6 lH kI h=>cW SG λ_ n53 HR SH=>ax HR λ_ n54 _ SI=>al ?_;refine aF h (λHI h=>?_) λHI h=>?_
       .refine aL (n54 _ (inl (ax HR λ_ n57 SJ _=>bj SJ λ_ SK _ _ _=>?_)));obtain⟨du,ph,dH,tI,h⟩:=dk h;refine hx (b5 [(0,ad aE a0),(3,.ag 1 ((List.set k_ (Int.toNat kI) du).map aE)),(4,R l6),(5,R lH),(6,R kI)] (λP bd=>?_) ?_)
        .simp only[aH.down,simprocAttr,ph,b2 ph,tI,b2 tI,cS,da];exact bR (U ph (U (b2 ph) (U tI (U (b2 tI) @cS))))
        refine SK _ (n57 _ (inl (wr [(0,ad aE a0),(3,.ag 1 ((List.set k_ (Int.toNat kI) du).map aE)),(4,R l6),(5,R lH),(6,R (i64.wrap (kI-1)))] ?_)));exact n53 _ (inr ⟨_,bD rfl,Ta (List.set k_ (Int.toNat kI) du) l6 lH (i64.wrap (kI-1)) h⟩)
       .refine cN (SI 4 _ (SH 4 _ (HQ _ (n50 _ (inl ?_)))));obtain⟨eY,LQ,jj,vv,h⟩:=dk h;refine hx (b5 [(0,ad aE a0),(3,.ag 1 ((List.set k_ (Int.toNat lH) eY).map aE)),(4,R l6)] (λP bd=>?_) ?_)
        .simp only[aH.down,simprocAttr,LQ,vv,b2 vv,cS,da];exact bR (U LQ (U vv (U (b2 vv) @cS)))
        exact n12 _ (n10 _ (inr ⟨_,bD rfl,S9 (List.set k_ (Int.toNat lH) eY) l6 h⟩))
      exact dp h λn h=>S_ n (kZ++[([]:aAc)]) oL n5 (i64.wrap (((kZ++[([]:aAc)]).length:Int)-1)) h
    exact dp h λn h=>aqQ n bY bK 1 h
  .exact cN (bw 0 _ (bz 0 _ (c7 _ (fg _ (inl (aS ak [.ag 1 (bY.map aE)]))))))
 exact dp h λn h=>iC n [([116,97,117]:aAc)] 0 h
theorem aqW (a0 J r) (h:Kt a0 J=some r):aW ai 6 [ft a0,ad bF J] (.tuple [.ag 1 (r.1.map aE),R r.2]) []:=by
 refine bB [0,1] [.tmp 4,.tmp 5] Tryz.func6 eT λbu ak bt=>al ?_;obtain⟨aa,aU,h⟩:=aM h;refine dw (b5 [(1,ad bF J),(2,.aP (ft a0)),(6,R aa)] (λP bd=>?_) ?_)
 ·(try simp only[aH.down,simprocAttr]);refine dz (apj a0 J _ aU) rfl rfl (by simp only[aH.down,simprocAttr,Lz.down]<;>rfl) rfl (inr (by rfl)) ?_;simp only[aH.down,simprocAttr];exact bR trivial
 refine ax ak λ_ fa bQ aZ=>al ?_;refine aF h (λdC h=>?_) λdC h=>?_
 .refine al ?_;exact hc (bQ _ (inr ⟨[(4,.ag 1 []),(5,R aa)],hP [] rfl (hD (t:=4) (d:=.bf) rfl rfl (.hY _) (by decide) (cO rfl (hQ))),o8 [.ag 1 [],R aa]⟩))
 .refine aL (fa _ (inl ?_));obtain⟨ah,jt,h⟩:=aM h;refine dw (b5 [(7,.ag 1 (ah.1.map aE)),(9,.bool ah.2.2)] (λP bd=>?_) ?_)
  ·(try simp only[aH.down,simprocAttr,JB,JC]);refine kj [⟨.h 2 [],true,_,_⟩,⟨ad bF J,false,_,.hole⟩] (aqL a0.cz a0.cj a0.b9 a0.cC a0.cA J _ jt) rfl rfl rfl (by simp only[aH.down,simprocAttr,JB,JC,l0,kX,kk,gQ,gR,gS,cR,or_true,true_or, @b0 _ bk bk (λ_=>sc _), @b0 _ db db (λ_=>yI _), @b0 _ bH bH (λ_=>pU _), @b0 _ aE aE (λ_=>jz _), @b0 _ aE aE (λ_=>jz _)]) rfl rfl (inl rfl) ?_;simp only[aH.down,simprocAttr,JB,JC,jI];exact bR (U @JB @JC)
  refine ax ak λ_ n10 cQ _=>al ?_;refine aF h (λe3 h=>?_) λe3 h=>?_
  .refine al ?_;exact hc (cQ _ (inr ⟨[(4,.ag 1 []),(5,R 5)],hP [] rfl (hD (t:=4) (d:=.bf) rfl rfl (.hY _) (by decide) (cO rfl (hQ))),o8 [.ag 1 [],R 5]⟩))
  .refine aL (n10 _ (inl ?_));obtain⟨aI,dX,h⟩:=aM h;refine dw (b5 [(7,.ag 1 (ah.1.map aE)),(10,.ag 1 (aI.map aE))] (λP bd=>?_) ?_)
   ·(try simp only[aH.down,simprocAttr]);refine dz (aqO ah.1 _ dX) rfl rfl (by simp only[aH.down,simprocAttr,yL.down]<;>rfl) rfl (inr (jZ (λ_=>DL _) _)) ?_;simp only[aH.down,simprocAttr];exact bR trivial
   have aaU:∀Ak,GF Ak=some r->bn ai ZN bu (ar [(10,ad aE Ak)]):=by
    intro Ak h;obtain⟨yN,ev,h⟩:=aM h;(try simp only[fN.down,Nat.zero_add,Nat.add_zero,reduceAdd]at ev);refine c6 (U (show∀s,dM ai s 25 0 []=some (.ag 1 [],s)from λs=>by kernel_rfl) (U (@i7 ai 25 25 9 rfl rfl) (U @i_ (U @ja (U @fW (U @i6 (U @all_nil (U ev (@ic _ aE 1 λ_=>rfl))))))))) _ ?_;exact cK ak [.ag 1 (Ak.map aE),R 0]
   refine ax ak λ_ n16 _ _=>?_;obtain⟨aZ,fK,h⟩:=aM h;refine l1 (b5 (K:=eM _) [(10,.ag 1 (aI.map aE)),(28,.bool (decide (aZ<0)))] (λP bd=>?_) (FE [(10,ad aE aI),(28,.bool (decide (aZ<0)))] (hP [] rfl (hD (t:=10) (d:=.ag 1 (aI.map aE)) (bN:=ad aE aI) rfl rfl (zU rfl rfl (by simp only[cR,I.share,I.shares, @b0 _ aE aE (λ_=>jz _)]<;>rfl)) (by decide) (cO rfl (hQ)))) ?_))
   ·(try simp only[aH.down,simprocAttr]);refine dz (HW ah.1 ([116,97,117]:aAc) _ fK) rfl rfl (by simp only[aH.down,simprocAttr,yL.down]<;>rfl) rfl (inr (by rfl)) ?_;simp only[aH.down,simprocAttr];exact bR trivial
   refine aF h (λsq h=>?_) λsq h=>?_
   .obtain⟨aX,iT,h⟩:=aM h;refine pV (U iT (@ic _ aE 1 λ_=>rfl)) _ ?_;exact n16 _ (inr ⟨_,bD rfl,aaU aX h⟩)
   .exact aL (n16 _ (inr ⟨_,bD rfl,aaU aI h⟩))
theorem mo (a0 J a2 r) (h:la a0 J a2=some r):aW ai 154 [R a0,R J,R a2] (.bool r) []:=by
 refine bB [0,1,2] [.tmp 6] Tryz.func154 c154 λbu ak bt=>al ?_;refine oh (decide (J<=a0)) [(6,.bool ((decide (J<=a0))&&(decide (a0<=a2))))] ?_;exact cK ak [.bool ((decide (J<=a0))&&(decide (a0<=a2)))]
theorem aqX (a0 r) (h:Qe a0=some r):aW ai 224 [bk a0] (.bool r) []:=by
 refine bB [0] [.tmp 2] Tryz.func224 al8 λbu ak bt=>al ?_;obtain⟨aa,aU,h⟩:=aM h;refine cP (mo a0.dW 0 3 _ aU) _ ?_;exact cK ak [.bool (!aa)]
theorem aqY (a0 r) (h:Qg a0=some r):aW ai 226 [ad bk a0,.fn 224 []] (R r) []:=by
 refine bB [0,1] [.tmp 4] Tryz.func226 c226 λbu ak bt=>al ?_;refine ax ak λ_ bJ bg ah=>al ?_;refine bj bg λeV _ bQ bZ _=>?_;show bn ai (.loop ?eT) _ _;have e9:∀n cI,GG a0 n cI=some r->cJ ai ?eT eV (ar [(0,ad bk a0),(1,.fn 224 []),(7,R (a0.length:Int)),(8,R cI)]):=by
  refine cX λ_ eS cI h=>cW bQ λ_ dU cG aX=>al ?_;refine ax cG λ_ n7 _ bw=>aF h (λcp h=>?_) λcp h=>?_
  .refine aL (n7 _ (inl (ax cG λ_ cE b6 _=>bj b6 λ_ n10 cQ _ _=>al ?_)));obtain⟨aa,el,ah,dT,h⟩:=dk h;refine eR el (aqX aa _ dT) _ ?_;refine aF h (λeZ h=>?_) λeZ h=>?_
   .exact aS cQ [R cI]
   .refine aL (n10 _ (cE _ (inl (dA ?_))));exact dU _ (inr ⟨_,bD rfl,eS (i64.wrap (cI+1)) h⟩)
  .exact cN (bw 0 _ (aX 0 _ (bZ _ (bJ _ (inl (aS ak [R (-1)]))))))
 exact dp h λn h=>e9 n 0 h
theorem aqZ (a0 r) (h:Qh a0=some r):aW ai 223 [ad bk a0,.fn 224 []] (.bool r) []:=by
 refine bB [0,1] [.tmp 4] Tryz.func223 al9 λbu ak bt=>al ?_;obtain⟨aa,aU,h⟩:=aM h;refine cP (aqY a0 _ aU) _ ?_;exact cK ak [.bool (decide (0<=aa))]
theorem aq0 (a0 r) (h:Ku a0=some r):aW ai 193 [ad bk a0] (.bool r) []:=by
 refine bB [0] [.tmp 2] Tryz.func193 c193 λbu ak bt=>al ?_;obtain⟨aa,aU,h⟩:=aM h;refine cP (aqZ a0 _ aU) _ ?_;exact cK ak [.bool (!aa)]
theorem aq1 (a0 r) (h:Qi a0=some r):aW ai 225 [.int .u8 (a0.toNat:Int)] (.bool r) []:=by
 refine bB [0] [.tmp 2] Tryz.func225 al_ λbu ak bt=>al ?_;refine oh (decide (48<=(a0.toNat:Int))) [(2,.bool ((decide (48<=(a0.toNat:Int)))&&(decide ((a0.toNat:Int)<=57))))] ?_;exact cK ak [.bool ((decide (48<=(a0.toNat:Int)))&&(decide ((a0.toNat:Int)<=57)))]
theorem LU (a0 r) (h:GH a0=some r):aW ai 194 [.str a0] (.bool r) []:=by
 refine bB [0] [.tmp 2] Tryz.func194 c194 λbu ak bt=>al ?_;refine ax ak λ_ bJ bg ah=>al ?_;refine bj bg λeV _ bQ bZ _=>?_;show bn ai (.loop ?eT) _ _;have e9:∀n fR,yx a0 n fR=some r->cJ ai ?eT eV (ar [(0,.str a0),(6,R (a0.length:Int)),(7,R fR)]):=by
  refine cX λ_ eS fR h=>cW bQ λ_ dU cG aX=>al ?_;refine ax cG λ_ n7 _ bw=>aF h (λcp h=>?_) λcp h=>?_
  .refine aL (n7 _ (inl (ax cG λ_ cE b6 _=>bj b6 λ_ n10 cQ _ _=>al ?_)));obtain⟨aa,el,h⟩:=aM h;refine Lw (decide (97<=(aa.toNat:Int))) el [(0,.str a0),(3,R fR),(4,.bool ((decide (97<=(aa.toNat:Int)))&&(decide ((aa.toNat:Int)<=122)))),(6,R (a0.length:Int)),(7,R fR)] ?_;rcases dL h with⟨eZ,h⟩|⟨eZ,h⟩
   .rcases dL h with⟨nM,h⟩|⟨nM,h⟩
    .refine c6 (U eZ nM) _ ?_;refine i1 rfl ?_;exact aS cQ [.bool false]
    .obtain⟨ah,ev,h⟩:=aM h;refine eR (U eZ (U nM el)) (aq1 aa _ ev) _ ?_;refine aF h (λgh h=>?_) λgh h=>?_
     .exact aS cQ [.bool false]
     .refine aL (n10 _ (cE _ (inl (dA ?_))));exact dU _ (inr ⟨_,bD rfl,eS (i64.wrap (fR+1)) h⟩)
   .refine c6 eZ _ ?_;refine n1 rfl ?_;refine aL (n10 _ (cE _ (inl (dA ?_))));exact dU _ (inr ⟨_,bD rfl,eS (i64.wrap (fR+1)) h⟩)
  .refine cN (bw 0 _ (aX 0 _ (bZ _ (bJ _ (inl (oh (decide (1<=(a0.length:Int))) [(2,.bool ((decide (1<=(a0.length:Int)))&&(decide ((a0.length:Int)<=10))))] ?_))))));exact cK ak [.bool ((decide (1<=(a0.length:Int)))&&(decide ((a0.length:Int)<=10)))]
 exact dp h λn h=>e9 n 0 h
theorem aq2 (a0 J r) (h:Qj a0 J=some r):aW ai 227 [bk a0,.ref (.str J)] (.bool r) []:=by
 refine bB [0,1] [.tmp 3] Tryz.func227 c227 λbu ak bt=>al ?_;exact aS ak [.bool (a0.Name==J)]
theorem aq3 (a0 J r) (h:Ql a0 J=some r):aW ai 226 [ad bk a0,.fn 227 [.ref (.str J)]] (R r) []:=by
 refine bB [0,1] [.tmp 4] Tryz.func226 ama λbu ak bt=>al ?_;refine ax ak λ_ bJ bg ah=>al ?_;refine bj bg λeV _ bQ bZ _=>?_;show bn ai (.loop ?eT) _ _;have e9:∀n cI,GI a0 J n cI=some r->cJ ai ?eT eV (ar [(0,ad bk a0),(1,.fn 227 [.ref (.str J)]),(7,R (a0.length:Int)),(8,R cI)]):=by
  refine cX λ_ eS cI h=>cW bQ λ_ dU cG aX=>al ?_;refine ax cG λ_ n7 _ bw=>aF h (λcp h=>?_) λcp h=>?_
  .refine aL (n7 _ (inl (ax cG λ_ cE b6 _=>bj b6 λ_ n10 cQ _ _=>al ?_)));obtain⟨aa,el,ah,dT,h⟩:=dk h;refine eR el (aq2 aa J _ dT) _ ?_;refine aF h (λeZ h=>?_) λeZ h=>?_
   .exact aS cQ [R cI]
   .refine aL (n10 _ (cE _ (inl (dA ?_))));exact dU _ (inr ⟨_,bD rfl,eS (i64.wrap (cI+1)) h⟩)
  .exact cN (bw 0 _ (aX 0 _ (bZ _ (bJ _ (inl (aS ak [R (-1)]))))))
 exact dp h λn h=>e9 n 0 h
theorem aq4 (a0 J r) (h:Kw a0 J=some r):aW ai 195 [ad bk a0,.str J] (R r) []:=by
 refine bB [0,1] [.tmp 4] Tryz.func195 amb λbu ak bt=>al ?_;obtain⟨aa,aU,h⟩:=aM h;refine dw (b5 [(4,R aa)] (λP bd=>?_) ?_)
 ·(try simp only[aH.down,simprocAttr]);refine dz (aq3 a0 J _ aU) rfl rfl (by simp only[aH.down,simprocAttr,yM.down]<;>rfl) rfl (inr (by rfl)) ?_;simp only[aH.down,simprocAttr];exact bR trivial
 exact cK ak [R aa]
theorem aaV (a0 r) (h:GK a0=some r):aW ai 161 [eu a0] (R r) []:=by
 refine bB [0] [.tmp 2] Tryz.func161 amc λbu ak bt=>al ?_;refine ax ak λ_ bJ bg _=>al ?_;refine bj bg λeV fa bQ _ _=>?_;show bn ai (.seq _ ?kL) _ _;have AN:∀ep,GJ a0 ep=some r->bn ai ?kL eV (ar [(4,R a0.Kind),(5,.bool ep)]):=by
  intro ep h;refine aF h (λdC h=>?_) λdC h=>?_
  .exact aS bQ [R 1]
  .refine al ?_;refine aF h (λe4 h=>?_) λe4 h=>?_
   .exact aS bQ [R 2]
   .exact aL (fa _ (bJ _ (inl (aS ak [R 0]))))
 refine ax bQ λ_ dU _ _=>al ?_;refine aF h (λfh h=>?_) λfh h=>?_
 .simp only[fh,Hz.down];exact aL (dU _ (inr ⟨_,bD rfl,AN true h⟩))
 .refine al ?_;refine aF h (λeZ h=>?_) λeZ h=>?_
  .simp only[eZ,Hz.down];exact aL (dU _ (inr ⟨_,bD rfl,AN true h⟩))
  .refine dA ?_;exact dU _ (inr ⟨_,bD rfl,AN (a0.Kind==4) h⟩)
theorem aaW (a0 J r) (h:GL a0 J=some r):aW ai 168 [bk a0,R J] (R r) []:=by
 refine bB [0] [.tmp 4] Tryz.func168 c168 λbu ak bt=>al ?_;refine ax ak λ_ bJ bg ah=>al ?_;refine bj bg λeV _ bQ bZ _=>?_;show bn ai (.loop ?eT) _ _;have e9:∀n bc aO,CX a0 n bc aO=some r->cJ ai ?eT eV (ar [(1,R bc),(2,.aP (bk a0)),(5,R aO)]):=by
  refine cX λ_ eS bc aO h=>cW bQ λ_ dU cG aX=>ax cG λ_ n6 _ bz=>al ?_;refine aF h (λcp h=>?_) λcp h=>?_
  .refine aL (n6 _ (inl (ax cG λ_ cE b6 _=>bj b6 λ_ n10 cQ _ _=>ax cQ λ_ n11 h6 _=>al ?_)));refine aF h (λfh h=>?_) λfh h=>?_
   .exact aS h6 [R (-1)]
   .refine aL (n11 _ (inl ?_));obtain⟨aa,cx,ah,dN,h⟩:=dk h;refine AK cx (aaV aa _ dN) _ ?_;refine n10 _ (cE _ (inl (dA ?_)));exact dU _ (inr ⟨_,bD rfl,eS (i64.wrap (bc+1)) (i64.wrap (aO+(i64.wrap (ah-1)))) h⟩)
  .exact cN (bz 0 _ (aX 0 _ (bZ _ (bJ _ (inl (aS ak [R bc]))))))
 exact dp h λn h=>e9 n J 1 h
end Go.Proofs.YtafceioodemeeaaGreatDoor
