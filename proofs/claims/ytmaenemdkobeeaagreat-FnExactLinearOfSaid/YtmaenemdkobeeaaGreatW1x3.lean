/- Part of a proof that a law returns true for every input. No condition. -/
import Derived.Test.YtmaenemdkobeeaaGreatC3
namespace Go.Proofs.YtmaenemdkobeeaaGreat
open Option Go.IntKind Nat Or
open Go Go.ek Go.mc
set_option maxRecDepth 100000
set_option maxHeartbeats 8800000
set_option linter.unusedSimpArgs false
set_option linter.unusedVariables false
theorem bF (fx:arH) (fD:List ResultVar) {f:FuncId} {fn:Func} {ins outs:arM} {r:J} (bo:ah.P.funcs[f]? =some fn) (cR:aN)
 (JZ:∀Q:Exit->az->Prop,(∀s,eB (ek.Ends ah fx fD r outs) s->Q .ret s)->(∀s,eB (ek.Ends ah fx fD r outs) s->Q .normal s)->a6 ah cR Q (aq (num 0 ins))) (ad:fY ⟨fn.ntmps,fx⟩ (fn.body.getD .skip)=some cR.strip:=by kernel_rfl) (ab:fn.body=some (fn.body.getD .skip):=by rfl) (lg:(fn.name== "runtime.NumGoroutine")=false:=by rfl) (aZ:ins.length<=fn.ntmps:=by exact le_of_ble_eq_true rfl) (hN:fn.results.toList=fD:=by rfl) (aw:cR.plain=true:=by kernel_rfl):ba ah f ins r outs:=
 ba.KS KU fD (num 0 ins) bo ab lg ad aZ hN rfl JZ aw
theorem cY {P:Nat->Prop} (s:∀m,P m->P (m+1)) (z:P 0:=by intros;rename_i h;cases(show none=some _ from h)):∀n,P n:=λn=>Nat.rec z s n
def Nx:=PLift.up (aa @acq (aa @acr (aa @acs (aa @acu (aa @acv (aa @acw (aa @acx (aa @acy (aa @acz (aa @acA (aa @acB (aa @acC (aa @acD (aa @acE (aa @acF (aa @acG (aa @acH (aa @acI (aa @acJ (aa @acK (aa @acL (aa @acM (aa @acN (aa @acO (aa @acP (aa @acQ (aa @acR (aa @acS (aa @acT (aa @acU (aa @acV (aa @acW (aa @acX (aa @acY (aa @acZ (aa @ac0 (aa @ac1 (aa @ac2 (aa @ac3 (aa @ac4 (aa @ac5 (aa @ac6 (aa @ac7 (aa @mu.eq_1 (aa @bd.eq_1 (aa @dF.eq_1 (aa @br.eq_1 (aa @lQ.eq_1 (aa @bL.eq_1 (aa @c2.eq_1 (aa @fL.eq_1 (aa @fF.eq_1 (aa @bf.eq_1 (aa @ku.eq_1 (aa @e8.eq_1 (aa @oj.eq_1 (aa @ji.eq_1 (aa @jh.eq_1 (aa @i5.eq_1 (aa @jE.eq_1 (aa @nI.eq_1 (aa @lO.eq_1 (aa @c3.eq_1 (aa @cy.eq_1 (aa @kt.eq_1 (aa @nc.eq_1 (aa @bj.eq_1 (aa @hi.eq_1 (aa @g4.eq_1 (aa @gb.eq_1 (aa @iG.eq_1 (aa @dO.eq_1 (aa @s3.eq_1 (aa @h7.eq_1 (aa @c4.eq_1 @pS.eq_1)))))))))))))))))))))))))))))))))))))))))))))))))))))))))))))))))))))))))))
def aR:=PLift.up (aa ab9.down Nx.down)
def cM:=PLift.up (aa ab_.down Nx.down)
def gH:=PLift.up (aa aca.down Nx.down)
theorem bR {F A:Prop} (f:F) (h:F->A:=by intro bt;(try simp only[gH.down,simprocAttr,bt,dN,fN,cH,fi,J.eu,J.shares]at aX⊢);exact aX):A:=h f
theorem wr {Q l ros k} (cb:arL) (ao:Q .normal (aq cb)) (h:∀P:arL->Prop,P cb->dk ah (aq l) ros none (λ_ s=>P (gz k s)):=by
 intro P aX;simp only[aR.down,simprocAttr,dN,fN,cH,fi];(try simp only[gH.down,simprocAttr,dN,fN,cH,fi]at aX⊢);exact aX):a6 ah (.fK ros (some k)) Q (aq l):=
 h5 (b5 cb (h) ao)
theorem dG {Q l ros k} {cb:arL} (ao:Q .normal (aq cb)) (h:∀P:arL->Prop,P cb->dk ah (aq l) ros none (λ_ s=>P (gz k s)):=by
 intro P aX;simp only[aR.down,simprocAttr,dN,fN,cH,fi];(try simp only[gH.down,simprocAttr,dN,fN,cH,fi]at aX⊢);exact aX):a6 ah (.fK ros (some k)) Q (aq l):=
 h5 (b5 cb (h) ao)
theorem Ui {Q l ros k g ds r} (ok:ba ah g ds r []) (cb:arL) (ao:Q .normal (aq cb)) (h:ba ah g ds r []->∀P:arL->Prop,P cb->dk ah (aq l) ros none (λ_ s=>P (gz k s)):=by
 intro nd P aX;(try simp only[aR.down,simprocAttr,dN,fN,cH,fi]);(first|refine d_ nd rfl rfl rfl rfl (inl (by rfl)) ?_|refine ij nd rfl rfl rfl rfl (inl (by rfl)) ?_);simp only[aR.down,simprocAttr,dN,fN,cH,fi];(try simp only[gH.down,simprocAttr,dN,fN,cH,fi]at aX⊢);exact aX):a6 ah (.fK ros (some k)) Q (aq l):=
 h5 (b5 cb (h ok) ao)
theorem Ny {Q l ros k g ds r} {F:Prop} (bt:F) (ok:ba ah g ds r []) (cb:arL) (ao:Q .normal (aq cb)) (h:ba ah g ds r []->F->∀P:arL->Prop,P cb->dk ah (aq l) ros none (λ_ s=>P (gz k s)):=by
 intro nd bt P aX;(try simp only[aR.down,simprocAttr,bt,dN,fN,cH,fi]);(first|refine d_ nd rfl rfl rfl rfl (inl (by rfl)) ?_|refine ij nd rfl rfl rfl rfl (inl (by rfl)) ?_);simp only[aR.down,simprocAttr,bt,dN,fN,cH,fi];(try simp only[gH.down,simprocAttr,bt,dN,fN,cH,fi]at aX⊢);exact aX):a6 ah (.fK ros (some k)) Q (aq l):=
 h5 (b5 cb (h ok bt) ao)
theorem agQ {Q l ros k cK} {F:Prop} (bt:F) (cb:arL) (ao:Q .normal (aq cb)) (h:F->∀P:arL->Prop,P cb->dk ah (aq l) ros (some []) (λacc s=>jq (lH cK) 0 [] (acc.getD []).reverse=true/\P (gz k s)):=by
 intro bt P aX;simp only[cM.down,simprocAttr,bt,dN,fN,cH,fi];refine⟨hc (by kernel_rfl),?_⟩;(try simp only[gH.down,simprocAttr,bt,dN,fN,cH,fi]at aX⊢);exact aX) (hl:cK.length=ros.length:=by rfl):a6 ah (.jC ros cK (some k)) Q (aq l):=
 sD hl (h0 cb (h bt) ao)
theorem qG {Q l ros k} {F:Prop} (bt:F) (cb:arL) (ao:Q .normal (aq cb)) (h:F->∀P:arL->Prop,P cb->dk ah (aq l) ros none (λ_ s=>P (gz k s)):=by
 intro bt P aX;simp only[aR.down,simprocAttr,bt,dN,fN,cH,fi];(try simp only[gH.down,simprocAttr,bt,dN,fN,cH,fi]at aX⊢);exact aX):a6 ah (.fK ros (some k)) Q (aq l):=
 h5 (b5 cb (h bt) ao)
theorem ws {Q l ros k b} (cb:arL) (ao:a6 ah b Q (aq cb)) (h:∀P:arL->Prop,P cb->dk ah (aq l) ros none (λ_ s=>P (gz k s)):=by
 intro P aX;simp only[aR.down,simprocAttr,dN,fN,cH,fi];(try simp only[gH.down,simprocAttr,dN,fN,cH,fi]at aX⊢);exact aX):a6 ah (.seq (.fK ros (some k)) b) Q (aq l):=
 du (b5 cb (h) ao)
theorem an {Q l ros k b} {cb:arL} (ao:a6 ah b Q (aq cb)) (h:∀P:arL->Prop,P cb->dk ah (aq l) ros none (λ_ s=>P (gz k s)):=by
 intro P aX;simp only[aR.down,simprocAttr,dN,fN,cH,fi];(try simp only[gH.down,simprocAttr,dN,fN,cH,fi]at aX⊢);exact aX):a6 ah (.seq (.fK ros (some k)) b) Q (aq l):=
 du (b5 cb (h) ao)
theorem aT {Q l ros k fx fD r} {cb:arL} (k8:∀s,eB (ek.Ends ah fx fD r []) s->Q .ret s) (ds:arM) (h:∀P:arL->Prop,P cb->dk ah (aq l) ros none (λ_ s=>P (gz k s)):=by
 intro P aX;simp only[aR.down,simprocAttr,dN,fN,cH,fi];(try simp only[gH.down,simprocAttr,dN,fN,cH,fi]at aX⊢);exact aX) (ag:r=Fa ds:=by cases gU (by assumption);rfl) (ae:fD.map (rq ah (aq cb))=ds.map some:=by rfl) (aK:(fD.map km).Nodup:=by decide):a6 ah (.seq (.fK ros (some k)) .ret) Q (aq l):=
 ws cb (dV k8 ds ag ae aK) h
theorem dC {Q l ros k b g ds r} (ok:ba ah g ds r []) (cb:arL) (ao:a6 ah b Q (aq cb)) (h:ba ah g ds r []->∀P:arL->Prop,P cb->dk ah (aq l) ros none (λ_ s=>P (gz k s)):=by
 intro nd P aX;(try simp only[aR.down,simprocAttr,dN,fN,cH,fi]);(first|refine d_ nd rfl rfl rfl rfl (inl (by rfl)) ?_|refine ij nd rfl rfl rfl rfl (inl (by rfl)) ?_);simp only[aR.down,simprocAttr,dN,fN,cH,fi];(try simp only[gH.down,simprocAttr,dN,fN,cH,fi]at aX⊢);exact aX):a6 ah (.seq (.fK ros (some k)) b) Q (aq l):=
 du (b5 cb (h ok) ao)
theorem fw {Q l ros k b g ds r} {F:Prop} (bt:F) (ok:ba ah g ds r []) (cb:arL) (ao:a6 ah b Q (aq cb)) (h:ba ah g ds r []->F->∀P:arL->Prop,P cb->dk ah (aq l) ros none (λ_ s=>P (gz k s)):=by
 intro nd bt P aX;(try simp only[aR.down,simprocAttr,bt,dN,fN,cH,fi]);(first|refine d_ nd rfl rfl rfl rfl (inl (by rfl)) ?_|refine ij nd rfl rfl rfl rfl (inl (by rfl)) ?_);simp only[aR.down,simprocAttr,bt,dN,fN,cH,fi];(try simp only[gH.down,simprocAttr,bt,dN,fN,cH,fi]at aX⊢);exact aX):a6 ah (.seq (.fK ros (some k)) b) Q (aq l):=
 du (b5 cb (h ok bt) ao)
theorem agR {Q l ros k b cK} (cb:arL) (ao:a6 ah b Q (aq cb)) (h:∀P:arL->Prop,P cb->dk ah (aq l) ros (some []) (λacc s=>jq (lH cK) 0 [] (acc.getD []).reverse=true/\P (gz k s)):=by
 intro P aX;simp only[cM.down,simprocAttr,dN,fN,cH,fi];refine⟨hc (by kernel_rfl),?_⟩;(try simp only[gH.down,simprocAttr,dN,fN,cH,fi]at aX⊢);exact aX) (hl:cK.length=ros.length:=by rfl):a6 ah (.seq (.jC ros cK (some k)) b) Q (aq l):=
 ko hl (h0 cb (h) ao)
theorem agS {Q l ros k b cK g ds r} (ok:ba ah g ds r []) (cb:arL) (ao:a6 ah b Q (aq cb)) (h:ba ah g ds r []->∀P:arL->Prop,P cb->dk ah (aq l) ros (some []) (λacc s=>jq (lH cK) 0 [] (acc.getD []).reverse=true/\P (gz k s)):=by
 intro nd P aX;(try simp only[cM.down,simprocAttr,dN,fN,cH,fi]);(first|refine g1 nd rfl rfl rfl rfl (inl (by rfl)) ?_|refine m4 nd rfl rfl rfl rfl (inl (by rfl)) ?_);simp only[cM.down,simprocAttr,dN,fN,cH,fi];refine⟨hc (by kernel_rfl),?_⟩;(try simp only[gH.down,simprocAttr,dN,fN,cH,fi]at aX⊢);exact aX) (hl:cK.length=ros.length:=by rfl):a6 ah (.seq (.jC ros cK (some k)) b) Q (aq l):=
 ko hl (h0 cb (h ok) ao)
theorem mg {Q l ros k b cK g ds r} {F:Prop} (bt:F) (ok:ba ah g ds r []) (cb:arL) (ao:a6 ah b Q (aq cb)) (h:ba ah g ds r []->F->∀P:arL->Prop,P cb->dk ah (aq l) ros (some []) (λacc s=>jq (lH cK) 0 [] (acc.getD []).reverse=true/\P (gz k s)):=by
 intro nd bt P aX;(try simp only[cM.down,simprocAttr,bt,dN,fN,cH,fi]);(first|refine g1 nd rfl rfl rfl rfl (inl (by rfl)) ?_|refine m4 nd rfl rfl rfl rfl (inl (by rfl)) ?_);simp only[cM.down,simprocAttr,bt,dN,fN,cH,fi];refine⟨hc (by kernel_rfl),?_⟩;(try simp only[gH.down,simprocAttr,bt,dN,fN,cH,fi]at aX⊢);exact aX) (hl:cK.length=ros.length:=by rfl):a6 ah (.seq (.jC ros cK (some k)) b) Q (aq l):=
 ko hl (h0 cb (h ok bt) ao)
theorem qH {Q l ros k b cK} {F:Prop} (bt:F) (cb:arL) (ao:a6 ah b Q (aq cb)) (h:F->∀P:arL->Prop,P cb->dk ah (aq l) ros (some []) (λacc s=>jq (lH cK) 0 [] (acc.getD []).reverse=true/\P (gz k s)):=by
 intro bt P aX;simp only[cM.down,simprocAttr,bt,dN,fN,cH,fi];refine⟨hc (by kernel_rfl),?_⟩;(try simp only[gH.down,simprocAttr,bt,dN,fN,cH,fi]at aX⊢);exact aX) (hl:cK.length=ros.length:=by rfl):a6 ah (.seq (.jC ros cK (some k)) b) Q (aq l):=
 ko hl (h0 cb (h bt) ao)
theorem Uj {Q l ros k b cK} (e:Bool) {F:Prop} (bt:F) (cb:arL) (ao:a6 ah b Q (aq cb)) (h:F->∀c,e=c->∀P:arL->Prop,P cb->dk ah (aq l) ros (some []) (λacc s=>jq (lH cK) 0 [] (acc.getD []).reverse=true/\P (gz k s)):=by
 intro bt c ax P aX;cases c;all_goals
  (try simp only[List.length_replicate]at ax);simp only[cM.down,simprocAttr,ax,bt,dN,fN,cH,fi];refine⟨hc (by kernel_rfl),?_⟩;(try simp only[gH.down,simprocAttr,ax,bt,dN,fN,cH,fi]at aX⊢);exact aX) (hl:cK.length=ros.length:=by rfl):a6 ah (.seq (.jC ros cK (some k)) b) Q (aq l):=
 ko hl (h0 cb (h bt e rfl) ao)
theorem c5 {Q l ros k b} {F:Prop} (bt:F) (cb:arL) (ao:a6 ah b Q (aq cb)) (h:F->∀P:arL->Prop,P cb->dk ah (aq l) ros none (λ_ s=>P (gz k s)):=by
 intro bt P aX;simp only[aR.down,simprocAttr,bt,dN,fN,cH,fi];(try simp only[gH.down,simprocAttr,bt,dN,fN,cH,fi]at aX⊢);exact aX):a6 ah (.seq (.fK ros (some k)) b) Q (aq l):=
 du (b5 cb (h bt) ao)
theorem tZ {Q l ros k b} {F:Prop} (bt:F) (cb:arL) (ao:a6 ah b Q (aq cb)) (h:F->∀P:arL->Prop,P cb->dk ah (aq l) ros none (λ_ s=>P (gz k s)):=by
 intro bt P aX;simp only[aR.down,simprocAttr,bt,dN,fN,cH,fi,-Int.reduceNatCast'];(try simp only[gH.down,simprocAttr,bt,dN,fN,cH,fi,-Int.reduceNatCast']at aX⊢);exact aX):a6 ah (.seq (.fK ros (some k)) b) Q (aq l):=
 du (b5 cb (h bt) ao)
theorem nf {Q l ros k b} (e:Bool) (cb:arL) (ao:a6 ah b Q (aq cb)) (h:∀c,e=c->∀P:arL->Prop,P cb->dk ah (aq l) ros none (λ_ s=>P (gz k s)):=by
 intro c ax P aX;cases c;all_goals
  (try simp only[List.length_replicate]at ax);simp only[aR.down,simprocAttr,ax,dN,fN,cH,fi];(try simp only[gH.down,simprocAttr,ax,dN,fN,cH,fi]at aX⊢);exact aX):a6 ah (.seq (.fK ros (some k)) b) Q (aq l):=
 du (b5 cb (h e rfl) ao)
theorem agT {Q l ros k b} (e:Bool) {F:Prop} (bt:F) (cb:arL) (ao:a6 ah b Q (aq cb)) (h:F->∀c,e=c->∀P:arL->Prop,P cb->dk ah (aq l) ros none (λ_ s=>P (gz k s)):=by
 intro bt c ax P aX;cases c;all_goals
  (try simp only[List.length_replicate]at ax);simp only[aR.down,simprocAttr,ax,bt,dN,fN,cH,fi];(try simp only[gH.down,simprocAttr,ax,bt,dN,fN,cH,fi]at aX⊢);exact aX):a6 ah (.seq (.fK ros (some k)) b) Q (aq l):=
 du (b5 cb (h bt e rfl) ao)
def hj:=PLift.up (aa @List.cons_append.{0} (aa @List.nil_append.{0} (aa @List.length_append.{0} (aa @List.length_cons.{0} (aa @List.length_nil.{0} (aa @List.length_map.{0,0} @List.length_replicate.{0}))))))
def jk:=PLift.up (aa (@n5 ah 98 97 1 1 [.au] rfl rfl rfl (by kernel_rfl)) (aa @n6 (aa @n7 (aa @ed (aa @hR (aa @List.nil_append.{0} (aa @List.cons_append.{0} (aa (@iN ah 98 98 97 rfl rfl) (aa @iO (aa @iP (aa @all_cons (aa @all_nil (@hQ _ c4 1 (λ_=>rfl))))))))))))))
def mI:=PLift.up (aa @rz (aa @rB @rA))
def nJ:=PLift.up (aa @SK @aa1)
def t_:=PLift.up (aa (@iN ah 29 29 2 rfl rfl) (aa @iO (aa @iP (aa @hR (aa @all_cons (aa @all_nil (@hQ _ bd 1 (λ_=>rfl))))))))
def vt:=PLift.up (aa (@n5 ah 85 29 1 1 [.au] rfl rfl rfl (by kernel_rfl)) (aa @n6 (aa @n7 (aa @ed (aa @hR (aa @List.nil_append.{0} (aa @List.cons_append.{0} (aa (@iN ah 85 85 29 rfl rfl) (aa @iO (aa @iP (aa @all_cons (aa @all_nil (@hQ _ h7 1 (λ_=>rfl))))))))))))))
def vu:=PLift.up (aa (@n5 ah 98 97 1 1 [.au] rfl rfl rfl (by kernel_rfl)) (aa @n6 (aa @n7 (aa @ed (aa @hR (aa @List.nil_append.{0} (aa @List.cons_append.{0} (aa (@iN ah 98 98 97 rfl rfl) (aa @iO (aa @iP (aa @all_cons (aa @all_nil (aa (@id (room 24 1=some ()) rfl) (@hQ _ c4 1 (λ_=>rfl)))))))))))))))
def xE:=PLift.up (aa (@n5 ah 30 100 1 5 [(.agg [.au,.au,(.str []),.au,.au])] rfl rfl rfl (by kernel_rfl)) (aa @n6 (aa @n7 (aa @ed (aa @hR (aa @List.nil_append.{0} (aa @List.cons_append.{0} (aa (@iN ah 30 30 100 rfl rfl) (aa @iO (aa @iP (aa @all_cons (aa @all_nil (@hQ _ dO 5 (λ_=>rfl))))))))))))))
def z1:=PLift.up (aa @g9 (aa @g_ (aa @ha (aa @dm (aa (@bn _ bd bd (λ_=>jF _)) (aa (@bn _ dO fL (λ_=>oW _)) (aa (@bn _ bd bd (λ_=>jF _)) (@bn _ dO fL (λ_=>oW _)))))))))
def Ds:=PLift.up (aa @g9 (aa @g_ (aa @ha @dm)))
def Dt:=PLift.up (aa @n8 (aa @mA (aa @lI (aa @g9 (aa @g_ (aa @ha (aa @dm (aa @or_true (aa @true_or (aa (@bn _ br br (λ_=>pR _)) (aa (@bn _ dF dF (λ_=>pT _)) (aa (@bn _ bL bL (λ_=>lP _)) (aa (@bn _ bj bj (λ_=>hH _)) (aa (@bn _ bj bj (λ_=>hH _)) (aa (@bn _ c3 c3 (λ_=>qF _)) (aa (@bn _ bd bd (λ_=>jF _)) (@bn _ dO fL (λ_=>oW _))))))))))))))))))
def Du:=PLift.up (aa @rz (aa @rB (aa @rA (aa @SG (aa @lI @Kb)))))
def Dv:=PLift.up (aa @rz (aa @rB (aa @rA (aa @kp (aa @SG @lI)))))
def Hq:=PLift.up (aa @g9 (aa @g_ (aa @ha (aa @dm (aa (@bn _ bd bd (λ_=>jF _)) (@bn _ dO fL (λ_=>oW _)))))))
def Hr:=PLift.up (aa (show∀s,ey ah s 134 [(0,.int .i64 2),(1,.int .i64 7)]=some (.agg [.int .i64 2,.int .i64 7],s)from λs=>by kernel_rfl) (aa (show∀s,dz ah s 97 1 [(0,.agg [.int .i64 2,.int .i64 7])]=some (.af 2 [.agg [.int .i64 2,.int .i64 7]],s)from λs=>by kernel_rfl) (aa @Ks (aa @Kr (aa @dm (aa @Kq (aa (@bn _ bf bf (λ_=>oi _)) (@hQ _ cy 1 (λ_=>rfl)))))))))
def Hs:=PLift.up (aa @g9 (aa @g_ (aa @ha (aa @dm (aa (@bn _ br br (λ_=>pR _)) (aa (@bn _ dF dF (λ_=>pT _)) (aa (@bn _ bL bL (λ_=>lP _)) (aa (@bn _ bj bj (λ_=>hH _)) (aa (@bn _ bj bj (λ_=>hH _)) (aa (@bn _ c3 c3 (λ_=>qF _)) (aa (@bn _ bd bd (λ_=>jF _)) (@bn _ dO fL (λ_=>oW _)))))))))))))
def Ht:=PLift.up (aa (@Kk ah 100 [(29,0),(97,1),(9,2),(98,3),(98,4)] [.au,.au,(.str []),.au,.au] rfl rfl (by kernel_rfl)) (aa @n6 (aa @n7 (aa @ed (aa @hR (aa @List.nil_append.{0} @List.cons_append.{0}))))))
def Nz:=PLift.up (aa (@iN ah 97 97 134 rfl rfl) (aa @iO (aa @iP (aa @hR (aa @all_cons (aa @all_nil (aa (@hQ _ bf 2 (λ_=>rfl)) (aa (@n5 ah 98 97 1 1 [.au] rfl rfl rfl (by kernel_rfl)) (aa @n6 (aa @n7 (aa @ed (aa @List.nil_append.{0} @List.cons_append.{0}))))))))))))
def NA:=PLift.up (aa @g9 (aa @g_ (aa @ha (aa @dm (aa (@bn _ br br (λ_=>pR _)) (aa (@bn _ dF dF (λ_=>pT _)) (aa (@bn _ bL bL (λ_=>lP _)) (aa (@bn _ bj bj (λ_=>hH _)) (@bn _ bj bj (λ_=>hH _))))))))))
def NB:=PLift.up (aa (@n5 ah 98 97 1 1 [.au] rfl rfl rfl (by kernel_rfl)) (aa @n6 (aa @n7 (aa @ed (aa @hR (aa @List.nil_append.{0} (aa @List.cons_append.{0} (@n5 ah 218 98 2 1 [.au,.au] rfl rfl rfl (by kernel_rfl)))))))))
def NC:=PLift.up (aa (@iN ah 98 98 97 rfl rfl) (aa @iO (aa @iP (aa @hR (aa @all_cons (aa @all_nil (@hQ _ cy 1 (λ_=>rfl))))))))
def ND:=PLift.up (aa @Ks (aa @Kr (aa @dm (aa @Kq (aa (@bn _ bf bf (λ_=>oi _)) (aa (@bn _ cy cy (λ_=>rP _)) (@bn _ nc nc (λ_=>adQ _))))))))
def NF:=PLift.up (aa @g9 (aa @g_ (aa @ha (aa @dm (aa (@bn _ cy cy (λ_=>rP _)) (aa (@bn _ bd bd (λ_=>jF _)) (aa (@bn _ bf bf (λ_=>oi _)) (aa (@bn _ cy cy (λ_=>rP _)) (@bn _ cy cy (λ_=>rP _))))))))))
def NG:=PLift.up (aa @mA (aa @lI (aa @g9 (aa @g_ (aa @ha (aa @dm (aa @or_true (aa @true_or (@bn _ c4 cy (λ_=>s0 _))))))))))
def NH:=PLift.up (aa @g9 (aa @g_ (aa @ha (aa @dm (aa (@bn _ g4 br (λ_=>xB _)) (aa (@bn _ hi dF (λ_=>xC _)) (aa (@bn _ bL bL (λ_=>lP _)) (aa (@bn _ bj bj (λ_=>hH _)) (@bn _ bj bj (λ_=>hH _))))))))))
def Uk:=PLift.up (aa @Fm (aa (λs x h=> @Fl ah s 97 134 x rfl h) (aa @SP (aa @SO (aa @SQ (aa @SN (aa @List.map_replicate.{0,0} (aa (λs y q=>(yM ah s 97 y q).1) (aa (λs y q=>(yM ah s 97 y q).2.1) (aa (λs y q=>(yM ah s 97 y q).2.2) @SR))))))))))
def Ul:=PLift.up (aa @Fm (aa (λs x h=> @Fl ah s 98 97 x rfl h) (aa @SP (aa @SO (aa @SQ (aa @SN (aa @List.map_replicate.{0,0} (aa (λs y q=>(yM ah s 98 y q).1) (aa (λs y q=>(yM ah s 98 y q).2.1) (aa (λs y q=>(yM ah s 98 y q).2.2) @SR))))))))))
def Um:=PLift.up (aa (@iN ah 98 98 97 rfl rfl) (aa @iO (aa @iP (aa @hR (aa @all_cons (aa @all_nil (aa @Ho (aa @M_ (@hQ _ c4 1 (λ_=>rfl))))))))))
def Un:=PLift.up (aa @n8 (aa @mA (aa @lI (aa @g9 (aa @g_ (aa @ha (aa @dm (aa @or_true (aa @true_or (aa (@bn _ br br (λ_=>pR _)) (aa (@bn _ dF dF (λ_=>pT _)) (aa (@bn _ bL bL (λ_=>lP _)) (aa (@bn _ bj bj (λ_=>hH _)) (aa (@bn _ bj bj (λ_=>hH _)) (aa (@bn _ c3 c3 (λ_=>qF _)) (aa (@bn _ bd bd (λ_=>jF _)) (aa (@bn _ dO fL (λ_=>oW _)) (@bn _ c4 cy (λ_=>s0 _)))))))))))))))))))
def Uo:=PLift.up (aa @dm (aa (@bn _ bd bd (λ_=>jF _)) (@bn _ cy cy (λ_=>rP _))))
def Up:=PLift.up (aa @mA (aa @lI (aa @g9 (aa @g_ (aa @ha (aa @dm (aa @or_true (aa @true_or (@bn _ bf bf (λ_=>oi _))))))))))
def Uq:=PLift.up (aa @mA (aa @lI (aa @g9 (aa @g_ (aa @ha (aa @dm (aa @or_true (aa @true_or (@bn _ bd bd (λ_=>jF _))))))))))
def Ur:=PLift.up (aa @rz (aa @rB (aa @rA (aa @n8 (aa @mA (aa @lI (aa @g9 (aa @g_ (aa @ha (aa @dm (aa @or_true (aa @true_or (@bn _ bj bj (λ_=>hH _))))))))))))))
theorem agU (I R r) (h:BV I R=some r):ba ah 170 [.slice (I.map lO),.int .i64 R] (.int .i64 r) []:=by
 refine bF [0] [.tmp 4] Tryz.func170 adU λbw aj bu=>an ?_;refine an ?_;refine aA aj λ_ fk dt _=>an ?_;refine aO h (λcS h=>?_) λcS h=>?_
 .exact aT dt [.int .i64 (-1)]
 .exact aS (fk _ (inl (aT aj [.int .i64 (i64.wrap (R-(I.length:Int)))])))
theorem agV (I R r) (h:FB I R=some r):ba ah 143 [.slice (I.map kt),.int .i64 R] (.int .i64 r) []:=by
 refine bF [0] [.tmp 4] Tryz.func143 adV λbw aj bu=>an ?_;refine an ?_;refine aA aj λ_ fk dt _=>an ?_;refine aO h (λcS h=>?_) λcS h=>?_
 .exact aT dt [.int .i64 (-1)]
 .refine aS (fk _ (inl (aA aj λ_ dR e6 _=>an ?_)));refine bh e6 λkJ _ cd fh _=>?_;show a6 ah (.loop ?jj) _ _;have j_:∀n eV eG,KV I n eV eG=some r->cL ah ?jj kJ (aq [(0,.slice (I.map kt)),(1,.int .i64 eV),(5,.int .i64 eG)]):=by
   refine cY λ_ ka eV eG h=>cV cd λ_ b1 cz cE=>aA cz λ_ eX _ de=>an ?_;refine aO h (λg5 h=>?_) λg5 h=>?_
   .refine aS (eX _ (inl (aA cz λ_ eS el _=>bh el λ_ hd im _ _=>?_)));obtain⟨U,fb,h⟩:=ar h;obtain⟨ai,fy,h⟩:=ar h;refine fw fb (agU U eV _ fy) _ ?_;refine an ?_;refine aO h (λgn h=>?_) λgn h=>?_
    .exact aT im [.int .i64 (-1)]
    .refine aS (hd _ (eS _ (inl (dG ?_))));exact b1 _ (inr ⟨_,bx rfl,ka ai (i64.wrap (eG+1)) h⟩)
   .exact cT (de 0 _ (cE 0 _ (fh _ (dR _ (inl (aT aj [.int .i64 eV]))))))
  exact dy h λn h=>j_ n (i64.wrap (R-(I.length:Int))) 0 h
theorem agW (I R r) (h:BW I R=some r):ba ah 108 [jE I,.int .i64 R] (.int .i64 r) []:=by
 refine bF [0] [.tmp 4] Tryz.func108 adW λbw aj bu=>an ?_;refine an ?_;refine aA aj λ_ fk dt _=>an ?_;refine aO h (λcS h=>?_) λcS h=>?_
 .exact aT dt [.int .i64 (-1)]
 .refine aS (fk _ (inl ?_));obtain⟨U,gZ,h⟩:=ar h;refine dC (agV I.a9 (i64.wrap (R-(I.Name.length:Int))) _ gZ) _ ?_;refine aA aj λ_ cJ cd _=>an ?_;refine aO h (λjV h=>?_) λjV h=>?_
  .exact aT cd [.int .i64 (-1)]
  .exact aS (cJ _ (inl (aT aj [.int .i64 U])))
theorem agX (I R r) (h:FC I R=some r):ba ah 73 [.slice (I.map jE),.int .i64 R] (.int .i64 r) []:=by
 refine bF [0] [.tmp 4] Tryz.func73 adX λbw aj bu=>an ?_;refine an ?_;refine aA aj λ_ fk dt _=>an ?_;refine aO h (λcS h=>?_) λcS h=>?_
 .exact aT dt [.int .i64 (-1)]
 .refine aS (fk _ (inl (aA aj λ_ dR e6 _=>an ?_)));refine bh e6 λkJ _ cd fh _=>?_;show a6 ah (.loop ?jj) _ _;have j_:∀n eV eG,KW I n eV eG=some r->cL ah ?jj kJ (aq [(0,.slice (I.map jE)),(1,.int .i64 eV),(5,.int .i64 eG)]):=by
   refine cY λ_ ka eV eG h=>cV cd λ_ b1 cz cE=>aA cz λ_ eX _ de=>an ?_;refine aO h (λg5 h=>?_) λg5 h=>?_
   .refine aS (eX _ (inl (aA cz λ_ eS el _=>bh el λ_ hd im _ _=>?_)));obtain⟨U,fb,h⟩:=ar h;obtain⟨ai,fy,h⟩:=ar h;refine fw fb (agW U eV _ fy) _ ?_;refine an ?_;refine aO h (λgn h=>?_) λgn h=>?_
    .exact aT im [.int .i64 (-1)]
    .refine aS (hd _ (eS _ (inl (dG ?_))));exact b1 _ (inr ⟨_,bx rfl,ka ai (i64.wrap (eG+1)) h⟩)
   .exact cT (de 0 _ (cE 0 _ (fh _ (dR _ (inl (aT aj [.int .i64 eV]))))))
  exact dy h λn h=>j_ n (i64.wrap (R-(I.length:Int))) 0 h
theorem agY (I R r) (h:BX I R=some r):ba ah 41 [jh I,.int .i64 R] (.int .i64 r) []:=by
 refine bF [0] [.tmp 4] Tryz.func41 Na λbw aj bu=>an ?_;refine an ?_;refine aA aj λ_ fk dt _=>an ?_;refine aO h (λcS h=>?_) λcS h=>?_
 .exact aT dt [.int .i64 (-1)]
 .refine aS (fk _ (inl ?_));obtain⟨U,gZ,h⟩:=ar h;refine dC (agX I.Body (i64.wrap (R-(I.Name.length:Int))) _ gZ) _ ?_;refine aA aj λ_ cJ cd _=>an ?_;refine aO h (λjV h=>?_) λjV h=>?_
  .exact aT cd [.int .i64 (-1)]
  .exact aS (cJ _ (inl (aT aj [.int .i64 U])))
theorem agZ (I R r) (h:FD I R=some r):ba ah 13 [.slice (I.map jh),.int .i64 R] (.int .i64 r) []:=by
 refine bF [0] [.tmp 4] Tryz.func13 adY λbw aj bu=>an ?_;refine an ?_;refine aA aj λ_ fk dt _=>an ?_;refine aO h (λcS h=>?_) λcS h=>?_
 .exact aT dt [.int .i64 (-1)]
 .refine aS (fk _ (inl (aA aj λ_ dR e6 _=>an ?_)));refine bh e6 λkJ _ cd fh _=>?_;show a6 ah (.loop ?jj) _ _;have j_:∀n eV eG,KX I n eV eG=some r->cL ah ?jj kJ (aq [(0,.slice (I.map jh)),(1,.int .i64 eV),(5,.int .i64 eG)]):=by
   refine cY λ_ ka eV eG h=>cV cd λ_ b1 cz cE=>aA cz λ_ eX _ de=>an ?_;refine aO h (λg5 h=>?_) λg5 h=>?_
   .refine aS (eX _ (inl (aA cz λ_ eS el _=>bh el λ_ hd im _ _=>?_)));obtain⟨U,fb,h⟩:=ar h;obtain⟨ai,fy,h⟩:=ar h;refine fw fb (agY U eV _ fy) _ ?_;refine an ?_;refine aO h (λgn h=>?_) λgn h=>?_
    .exact aT im [.int .i64 (-1)]
    .refine aS (hd _ (eS _ (inl (dG ?_))));exact b1 _ (inr ⟨_,bx rfl,ka ai (i64.wrap (eG+1)) h⟩)
   .exact cT (de 0 _ (cE 0 _ (fh _ (dR _ (inl (aT aj [.int .i64 eV]))))))
  exact dy h λn h=>j_ n (i64.wrap (R-(I.length:Int))) 0 h
theorem ag0 (I R r) (h:FE I R=some r):ba ah 74 [.slice (I.map bd),.int .i64 R] (.int .i64 r) []:=by
 refine bF [0] [.tmp 4] Tryz.func74 adZ λbw aj bu=>an ?_;refine an ?_;refine aA aj λ_ fk dt _=>an ?_;refine aO h (λcS h=>?_) λcS h=>?_
 .exact aT dt [.int .i64 (-1)]
 .exact aS (fk _ (inl (aT aj [.int .i64 (i64.wrap (R-(I.length:Int)))])))
theorem ag1 (I R r) (h:BZ I R=some r):ba ah 42 [ji I,.int .i64 R] (.int .i64 r) []:=by
 refine bF [0] [.tmp 4] Tryz.func42 ad0 λbw aj bu=>an ?_;obtain⟨U,aY,h⟩:=ar h;refine dC (ag0 I.e7 R _ aY) _ ?_;refine aA aj λ_ gg bX _=>an ?_;refine aO h (λeL h=>?_) λeL h=>?_
 .exact aT bX [.int .i64 (-1)]
 .exact aS (gg _ (inl (aT aj [.int .i64 U])))
theorem ag2 (I R r) (h:FF I R=some r):ba ah 14 [.slice (I.map ji),.int .i64 R] (.int .i64 r) []:=by
 refine bF [0] [.tmp 4] Tryz.func14 hT λbw aj bu=>an ?_;refine an ?_;refine aA aj λ_ fk dt _=>an ?_;refine aO h (λcS h=>?_) λcS h=>?_
 .exact aT dt [.int .i64 (-1)]
 .refine aS (fk _ (inl (aA aj λ_ dR e6 _=>an ?_)));refine bh e6 λkJ _ cd fh _=>?_;show a6 ah (.loop ?jj) _ _;have j_:∀n eV eG,KY I n eV eG=some r->cL ah ?jj kJ (aq [(0,.slice (I.map ji)),(1,.int .i64 eV),(5,.int .i64 eG)]):=by
   refine cY λ_ ka eV eG h=>cV cd λ_ b1 cz cE=>aA cz λ_ eX _ de=>an ?_;refine aO h (λg5 h=>?_) λg5 h=>?_
   .refine aS (eX _ (inl (aA cz λ_ eS el _=>bh el λ_ hd im _ _=>?_)));obtain⟨U,fb,h⟩:=ar h;obtain⟨ai,fy,h⟩:=ar h;refine fw fb (ag1 U eV _ fy) _ ?_;refine an ?_;refine aO h (λgn h=>?_) λgn h=>?_
    .exact aT im [.int .i64 (-1)]
    .refine aS (hd _ (eS _ (inl (dG ?_))));exact b1 _ (inr ⟨_,bx rfl,ka ai (i64.wrap (eG+1)) h⟩)
   .exact cT (de 0 _ (cE 0 _ (fh _ (dR _ (inl (aT aj [.int .i64 eV]))))))
  exact dy h λn h=>j_ n (i64.wrap (R-(I.length:Int))) 0 h
theorem ag3 (I R r) (h:B0 I R=some r):ba ah 43 [i5 I,.int .i64 R] (.int .i64 r) []:=by
 refine bF [0] [.tmp 4] Tryz.func43 ad1 λbw aj bu=>an ?_;refine an ?_;refine aA aj λ_ fk dt _=>an ?_;refine aO h (λcS h=>?_) λcS h=>?_
 .exact aT dt [.int .i64 (-1)]
 .refine aS (fk _ (inl (an ?_)));refine aA aj λ_ gT h2 _=>an ?_;refine aO h (λfU h=>?_) λfU h=>?_
  .exact aT h2 [.int .i64 (-1)]
  .refine aS (gT _ (inl (an ?_)));refine aA aj λ_ gh gB _=>an ?_;refine aO h (λfp h=>?_) λfp h=>?_
   .exact aT gB [.int .i64 (-1)]
   .exact aS (gh _ (inl (aT aj [.int .i64 (i64.wrap ((i64.wrap ((i64.wrap (R-(I.Left.length:Int)))-(I.ct.length:Int)))-(I.Result.length:Int)))])))
theorem ag4 (I R r) (h:FG I R=some r):ba ah 15 [.slice (I.map i5),.int .i64 R] (.int .i64 r) []:=by
 refine bF [0] [.tmp 4] Tryz.func15 ad2 λbw aj bu=>an ?_;refine an ?_;refine aA aj λ_ fk dt _=>an ?_;refine aO h (λcS h=>?_) λcS h=>?_
 .exact aT dt [.int .i64 (-1)]
 .refine aS (fk _ (inl (aA aj λ_ dR e6 _=>an ?_)));refine bh e6 λkJ _ cd fh _=>?_;show a6 ah (.loop ?jj) _ _;have j_:∀n eV eG,KZ I n eV eG=some r->cL ah ?jj kJ (aq [(0,.slice (I.map i5)),(1,.int .i64 eV),(5,.int .i64 eG)]):=by
   refine cY λ_ ka eV eG h=>cV cd λ_ b1 cz cE=>aA cz λ_ eX _ de=>an ?_;refine aO h (λg5 h=>?_) λg5 h=>?_
   .refine aS (eX _ (inl (aA cz λ_ eS el _=>bh el λ_ hd im _ _=>?_)));obtain⟨U,fb,h⟩:=ar h;obtain⟨ai,fy,h⟩:=ar h;refine fw fb (ag3 U eV _ fy) _ ?_;refine an ?_;refine aO h (λgn h=>?_) λgn h=>?_
    .exact aT im [.int .i64 (-1)]
    .refine aS (hd _ (eS _ (inl (dG ?_))));exact b1 _ (inr ⟨_,bx rfl,ka ai (i64.wrap (eG+1)) h⟩)
   .exact cT (de 0 _ (cE 0 _ (fh _ (dR _ (inl (aT aj [.int .i64 eV]))))))
  exact dy h λn h=>j_ n (i64.wrap (R-(I.length:Int))) 0 h
theorem Us (I R r) (h:B1 I R=some r):ba ah 16 [.slice (I.map bj),.int .i64 R] (.int .i64 r) []:=by
 refine bF [0] [.tmp 4] Tryz.func16 jj λbw aj bu=>an ?_;refine an ?_;refine aA aj λ_ fk dt _=>an ?_;refine aO h (λcS h=>?_) λcS h=>?_
 .exact aT dt [.int .i64 (-1)]
 .refine aS (fk _ (inl (aA aj λ_ dR e6 _=>an ?_)));refine bh e6 λkJ _ cd fh _=>?_;show a6 ah (.loop ?jj) _ _;have j_:∀n eV eG,K0 I n eV eG=some r->cL ah ?jj kJ (aq [(0,.slice (I.map bj)),(1,.int .i64 eV),(5,.int .i64 eG)]):=by
   refine cY λ_ ka eV eG h=>cV cd λ_ b1 cz cE=>aA cz λ_ eX _ de=>an ?_;refine aO h (λg5 h=>?_) λg5 h=>?_
   .refine aS (eX _ (inl (aA cz λ_ eS el _=>bh el λ_ hd im _ _=>?_)));obtain⟨U,fb,h⟩:=ar h;refine c5 fb _ ?_;refine an ?_;refine aO h (λiq h=>?_) λiq h=>?_
    .exact aT im [.int .i64 (-1)]
    .refine aS (hd _ (eS _ (inl (dG ?_))));exact b1 _ (inr ⟨_,bx rfl,ka (i64.wrap (eV-(U.length:Int))) (i64.wrap (eG+1)) h⟩)
   .exact cT (de 0 _ (cE 0 _ (fh _ (dR _ (inl (aT aj [.int .i64 eV]))))))
  exact dy h λn h=>j_ n (i64.wrap (R-(I.length:Int))) 0 h
theorem ag5 (I R r) (h:B2 I R=some r):ba ah 4 [nI I,.int .i64 R] (.int .i64 r) []:=by
 refine bF [0] [.tmp 4] Tryz.func4 j3 λbw aj bu=>an ?_;obtain⟨U,aY,h⟩:=ar h;refine dC (agZ I.aC R _ aY) _ ?_;refine aA aj λ_ gg bX a7=>an ?_;refine aO h (λeL h=>?_) λeL h=>?_
 .exact aT bX [.int .i64 (-1)]
 .refine aS (gg _ (inl ?_));obtain⟨ai,ie,h⟩:=ar h;refine dC (ag2 I.b7 U _ ie) _ ?_;refine aA aj λ_ b1 cz _=>an ?_;refine aO h (λgp h=>?_) λgp h=>?_
  .exact aT cz [.int .i64 (-1)]
  .refine aS (b1 _ (inl ?_));obtain⟨aB,eg,h⟩:=ar h;refine dC (ag4 I.hA ai _ eg) _ ?_;refine aA aj λ_ jG kZ _=>an ?_;refine aO h (λlp h=>?_) λlp h=>?_
   .exact aT kZ [.int .i64 (-1)]
   .refine aS (jG _ (inl ?_));obtain⟨a7,iR,h⟩:=ar h;refine dC (Us I.hg aB _ iR) _ ?_;refine aA aj λ_ mh mJ _=>an ?_;refine aO h (λir h=>?_) λir h=>?_
    .exact aT mJ [.int .i64 (-1)]
    .refine aS (mh _ (inl ?_));obtain⟨aP,xF,h⟩:=ar h;refine dC (Us I.hh a7 _ xF) _ ?_;refine aA aj λ_ oX qI _=>an ?_;refine aO h (λkK h=>?_) λkK h=>?_
     .exact aT qI [.int .i64 (-1)]
     .exact aS (oX _ (inl (aT aj [.int .i64 aP])))
theorem ag6 (I r) (h:B3 I=some r):ba ah 185 [lO I] (bf r) []:=by
 refine bF [0] [.cell 2 134] Tryz.func185 ad3 λbw aj bu=>an ?_;refine an ?_;refine an ?_;refine an ?_;exact aT aj [bf (aF.mk I.Kind I.Value)]
theorem ag7 (I r) (h:B4 I=some r):ba ah 174 [.slice (I.map lO)] (.af 2 (r.map bf)) []:=by
 refine bF [0] [.tmp 2] Tryz.func174 ad4 λbw aj bu=>an ?_;obtain⟨z2,aY,h⟩:=ar h;refine tZ (aa (pa aY) @List.map_replicate.{0,0}) [(0,.slice (I.map lO)),(3,.af 2 ((List.replicate (Int.toNat (I.length:Int)) (aF.mk 0 0)).map bf))] ?_;refine aA aj λ_ gg bX _=>ws [(0,.slice (I.map lO)),(3,.af 2 ((List.replicate (Int.toNat (I.length:Int)) (aF.mk 0 0)).map bf)),(4,.int .i64 0)] ?_;refine bh bX λjl _ dK eL _=>?_;show a6 ah (.loop ?hx) _ _;have hU:∀n bA bS,K1 I n bA bS=some r->cL ah ?hx jl (aq [(0,.slice (I.map lO)),(3,.af 2 (bA.map bf)),(4,.int .i64 bS)]):=by
  refine cY λ_ hI bA bS h=>cV dK λ_ dR e6 bp=>aA e6 λ_ gT _ cp=>an ?_;refine aO h (λfU h=>?_) λfU h=>?_
  .refine aS (gT _ (inl (aA e6 λ_ eX gM _=>bh gM λ_ gI _ _ _=>?_)));obtain⟨U,dQ,h⟩:=ar h;obtain⟨ai,eg,h⟩:=ar h;obtain⟨aB,cN,h⟩:=ar h;refine h5 (b5 [(0,.slice (I.map lO)),(3,.af 2 ((List.set bA (Int.toNat bS) ai).map bf)),(4,.int .i64 bS)] (λP aX=>?_) ?_)
   ·(try simp only[aR.down,simprocAttr,dQ,cN,cu cN,ed,dN]);refine d_ (ag6 U _ eg) (hK:= ?_);simp only[aR.down,simprocAttr,dQ,cN,cu cN,ed,dN];exact bR (aa dQ (aa cN (aa (cu cN) @ed)))
   refine gI _ (eX _ (inl (wr [(0,.slice (I.map lO)),(3,.af 2 ((List.set bA (Int.toNat bS) ai).map bf)),(4,.int .i64 (i64.wrap (bS+1)))] ?_)));exact dR _ (inr ⟨_,bx rfl,hI (List.set bA (Int.toNat bS) ai) (i64.wrap (bS+1)) h⟩)
  .exact cT (cp 0 _ (bp 0 _ (eL _ (gg _ (inl (aT aj [.af 2 (bA.map bf)]))))))
 exact dy h λn h=>hU n (List.replicate (Int.toNat (I.length:Int)) (aF.mk 0 0)) 0 h
theorem ag8 (I r) (h:FH I=some r):ba ah 150 [.slice (I.map kt)] (.af 1 (r.map c4)) []:=by
 refine bF [0] [.tmp 2] Tryz.func150 ad5 λbw aj bu=>an ?_;obtain⟨z2,aY,h⟩:=ar h;refine tZ (aa (pa aY) @List.map_replicate.{0,0}) [(0,.slice (I.map kt)),(3,.af 1 (List.replicate (Int.toNat (I.length:Int)) .au))] ?_;refine aA aj λ_ gg bX _=>ws [(0,.slice (I.map kt)),(3,.af 1 (List.replicate (Int.toNat (I.length:Int)) .au)),(4,.int .i64 0)] ?_;refine bh bX λjl _ dK eL _=>?_;show a6 ah (.loop ?hx) _ _;have hU:∀n bA bS,K2 I n bA bS=some r->cL ah ?hx jl (aq [(0,.slice (I.map kt)),(3,.af 1 (bA.map c4)),(4,.int .i64 bS)]):=by
  refine cY λ_ hI bA bS h=>cV dK λ_ dR e6 bp=>aA e6 λ_ gT _ cp=>an ?_;refine aO h (λfU h=>?_) λfU h=>?_
  .refine aS (gT _ (inl (aA e6 λ_ eX gM _=>bh gM λ_ gI _ _ _=>?_)));obtain⟨U,dQ,h⟩:=ar h;obtain⟨ai,eg,h⟩:=ar h;obtain⟨aB,cN,h⟩:=ar h;refine h5 (b5 [(0,.slice (I.map kt)),(3,.af 1 ((List.set bA (Int.toNat bS) ai).map c4)),(4,.int .i64 bS)] (λP aX=>?_) ?_)
   ·(try simp only[aR.down,simprocAttr,dQ,cN,cu cN,ed,dN]);refine d_ (ag7 U _ eg) (hK:= ?_);simp only[aR.down,simprocAttr,dQ,cN,cu cN,ed,dN];exact bR (aa dQ (aa cN (aa (cu cN) @ed)))
   refine gI _ (eX _ (inl (wr [(0,.slice (I.map kt)),(3,.af 1 ((List.set bA (Int.toNat bS) ai).map c4)),(4,.int .i64 (i64.wrap (bS+1)))] ?_)));exact dR _ (inr ⟨_,bx rfl,hI (List.set bA (Int.toNat bS) ai) (i64.wrap (bS+1)) h⟩)
  .exact cT (cp 0 _ (bp 0 _ (eL _ (gg _ (inl (aT aj [.af 1 (bA.map c4)]))))))
 obtain⟨n,h⟩:=mo h;exact oM (inr ⟨_,iZ [] rfl (eF (t:=0) (d:=.slice (I.map kt)) rfl (i1 (t:=3) (d:=.af 1 (List.replicate (Int.toNat (I.length:Int)) .au)) (bE:=.af 1 ((List.replicate (Int.toNat (I.length:Int)) []).map c4)) rfl rfl (Ff (u:=c4) (z:=[]) (.gS _) _) (by decide) (eF (t:=4) (d:=.int .i64 0) rfl (i0)))),hU n (List.replicate (Int.toNat (I.length:Int)) []) 0 h⟩)
theorem ag9 (I r) (h:B5 I=some r):ba ah 118 [jE I] (iG r) []:=by
 refine bF [0] [.cell 2 131] Tryz.func118 ad6 λbw aj bu=>an ?_;refine an ?_;refine an ?_;refine an ?_;refine an ?_;obtain⟨U,b0,h⟩:=ar h;refine dC (ag8 I.a9 _ b0) _ ?_;exact aT aj [iG (bk.mk I.Kind I.Number I.Name U)]
theorem ag_ (I r) (h:FI I=some r):ba ah 86 [.slice (I.map jE)] (.af 4 (r.map iG)) []:=by
 refine bF [0] [.tmp 2] Tryz.func86 ad7 λbw aj bu=>an ?_;obtain⟨z2,aY,h⟩:=ar h;refine tZ (aa (pa aY) @List.map_replicate.{0,0}) [(0,.slice (I.map jE)),(3,.af 4 (List.replicate (Int.toNat (I.length:Int)) (.agg [(.int .i64 0),(.int .i64 0),(.str []),.au])))] ?_;refine aA aj λ_ gg bX _=>ws [(0,.slice (I.map jE)),(3,.af 4 (List.replicate (Int.toNat (I.length:Int)) (.agg [(.int .i64 0),(.int .i64 0),(.str []),.au]))),(4,.int .i64 0)] ?_;refine bh bX λjl _ dK eL _=>?_;show a6 ah (.loop ?hx) _ _;have hU:∀n bA bS,K3 I n bA bS=some r->cL ah ?hx jl (aq [(0,.slice (I.map jE)),(3,.af 4 (bA.map iG)),(4,.int .i64 bS)]):=by
  refine cY λ_ hI bA bS h=>cV dK λ_ dR e6 bp=>aA e6 λ_ gT _ cp=>an ?_;refine aO h (λfU h=>?_) λfU h=>?_
  .refine aS (gT _ (inl (aA e6 λ_ eX gM _=>bh gM λ_ gI _ _ _=>?_)));obtain⟨U,dQ,h⟩:=ar h;obtain⟨ai,eg,h⟩:=ar h;obtain⟨aB,cN,h⟩:=ar h;refine h5 (b5 [(0,.slice (I.map jE)),(3,.af 4 ((List.set bA (Int.toNat bS) ai).map iG)),(4,.int .i64 bS)] (λP aX=>?_) ?_)
   ·(try simp only[aR.down,simprocAttr,dQ,cN,cu cN,ed,dN]);refine d_ (ag9 U _ eg) (hK:= ?_);simp only[aR.down,simprocAttr,dQ,cN,cu cN,ed,dN];exact bR (aa dQ (aa cN (aa (cu cN) @ed)))
   refine gI _ (eX _ (inl (wr [(0,.slice (I.map jE)),(3,.af 4 ((List.set bA (Int.toNat bS) ai).map iG)),(4,.int .i64 (i64.wrap (bS+1)))] ?_)));exact dR _ (inr ⟨_,bx rfl,hI (List.set bA (Int.toNat bS) ai) (i64.wrap (bS+1)) h⟩)
  .exact cT (cp 0 _ (bp 0 _ (eL _ (gg _ (inl (aT aj [.af 4 (bA.map iG)]))))))
 obtain⟨n,h⟩:=mo h;exact oM (inr ⟨_,iZ [] rfl (eF (t:=0) (d:=.slice (I.map jE)) rfl (i1 (t:=3) (d:=.af 4 (List.replicate (Int.toNat (I.length:Int)) (.agg [(.int .i64 0),(.int .i64 0),(.str []),.au]))) (bE:=.af 4 ((List.replicate (Int.toNat (I.length:Int)) (bk.mk 0 0 ([]:arE) [])).map iG)) rfl rfl (Ff (u:=iG) (z:=(bk.mk 0 0 ([]:arE) [])) (.agg (.cons (.refl _) (.cons (.refl _) (.cons (.refl _) (.cons (.gS _) (.nil)))))) _) (by decide) (eF (t:=4) (d:=.int .i64 0) rfl (i0)))),hU n (List.replicate (Int.toNat (I.length:Int)) (bk.mk 0 0 ([]:arE) [])) 0 h⟩)
theorem aha (I r) (h:B6 I=some r):ba ah 53 [jh I] (g4 r) []:=by
 refine bF [0] [.cell 2 92] Tryz.func53 Nb λbw aj bu=>an ?_;refine an ?_;refine an ?_;refine an ?_;obtain⟨U,cj,h⟩:=ar h;refine dC (ag_ I.Body _ cj) _ ?_;exact aT aj [g4 (bg.mk I.Name I.bW U)]
theorem ahb (I r) (h:FJ I=some r):ba ah 20 [.slice (I.map jh)] (.af 3 (r.map g4)) []:=by
 refine bF [0] [.tmp 2] Tryz.func20 Nc λbw aj bu=>an ?_;obtain⟨z2,aY,h⟩:=ar h;refine tZ (aa (pa aY) @List.map_replicate.{0,0}) [(0,.slice (I.map jh)),(3,.af 3 (List.replicate (Int.toNat (I.length:Int)) (.agg [(.str []),(.int .i64 0),.au])))] ?_;refine aA aj λ_ gg bX _=>ws [(0,.slice (I.map jh)),(3,.af 3 (List.replicate (Int.toNat (I.length:Int)) (.agg [(.str []),(.int .i64 0),.au]))),(4,.int .i64 0)] ?_;refine bh bX λjl _ dK eL _=>?_;show a6 ah (.loop ?hx) _ _;have hU:∀n bA bS,K4 I n bA bS=some r->cL ah ?hx jl (aq [(0,.slice (I.map jh)),(3,.af 3 (bA.map g4)),(4,.int .i64 bS)]):=by
  refine cY λ_ hI bA bS h=>cV dK λ_ dR e6 bp=>aA e6 λ_ gT _ cp=>an ?_;refine aO h (λfU h=>?_) λfU h=>?_
  .refine aS (gT _ (inl (aA e6 λ_ eX gM _=>bh gM λ_ gI _ _ _=>?_)));obtain⟨U,dQ,h⟩:=ar h;obtain⟨ai,eg,h⟩:=ar h;obtain⟨aB,cN,h⟩:=ar h;refine h5 (b5 [(0,.slice (I.map jh)),(3,.af 3 ((List.set bA (Int.toNat bS) ai).map g4)),(4,.int .i64 bS)] (λP aX=>?_) ?_)
   ·(try simp only[aR.down,simprocAttr,dQ,cN,cu cN,ed,dN]);refine d_ (aha U _ eg) (hK:= ?_);simp only[aR.down,simprocAttr,dQ,cN,cu cN,ed,dN];exact bR (aa dQ (aa cN (aa (cu cN) @ed)))
   refine gI _ (eX _ (inl (wr [(0,.slice (I.map jh)),(3,.af 3 ((List.set bA (Int.toNat bS) ai).map g4)),(4,.int .i64 (i64.wrap (bS+1)))] ?_)));exact dR _ (inr ⟨_,bx rfl,hI (List.set bA (Int.toNat bS) ai) (i64.wrap (bS+1)) h⟩)
  .exact cT (cp 0 _ (bp 0 _ (eL _ (gg _ (inl (aT aj [.af 3 (bA.map g4)]))))))
 obtain⟨n,h⟩:=mo h;exact oM (inr ⟨_,iZ [] rfl (eF (t:=0) (d:=.slice (I.map jh)) rfl (i1 (t:=3) (d:=.af 3 (List.replicate (Int.toNat (I.length:Int)) (.agg [(.str []),(.int .i64 0),.au]))) (bE:=.af 3 ((List.replicate (Int.toNat (I.length:Int)) (bg.mk ([]:arE) 0 [])).map g4)) rfl rfl (Ff (u:=g4) (z:=(bg.mk ([]:arE) 0 [])) (.agg (.cons (.refl _) (.cons (.refl _) (.cons (.gS _) (.nil))))) _) (by decide) (eF (t:=4) (d:=.int .i64 0) rfl (i0)))),hU n (List.replicate (Int.toNat (I.length:Int)) (bg.mk ([]:arE) 0 [])) 0 h⟩)
theorem ahc (I r) (h:FK I=some r):ba ah 87 [.slice (I.map bd)] (.af 1 (r.map bd)) []:=by
 refine bF [0] [.tmp 2] Tryz.func87 ad8 λbw aj bu=>an ?_;obtain⟨Ut,aY,h⟩:=ar h;refine tZ (aa (pa aY) @List.map_replicate.{0,0}) [(0,.slice (I.map bd)),(3,.af 1 ((List.replicate (Int.toNat (I.length:Int)) 0).map bd))] ?_;refine aA aj λ_ gg bX _=>ws [(0,.slice (I.map bd)),(3,.af 1 ((List.replicate (Int.toNat (I.length:Int)) 0).map bd)),(4,.int .i64 0)] ?_;refine bh bX λjl _ dK eL _=>?_;show a6 ah (.loop ?hx) _ _;have hU:∀n bA bS,K5 I n bA bS=some r->cL ah ?hx jl (aq [(0,.slice (I.map bd)),(3,.af 1 (bA.map bd)),(4,.int .i64 bS)]):=by
  refine cY λ_ hI bA bS h=>cV dK λ_ dR e6 bp=>aA e6 λ_ gT _ cp=>an ?_;refine aO h (λfU h=>?_) λfU h=>?_
  .refine aS (gT _ (inl (aA e6 λ_ eX gM _=>bh gM λ_ gI _ _ _=>?_)));obtain⟨U,dQ,h⟩:=ar h;obtain⟨ai,eg,h⟩:=ar h;refine h5 (b5 [(0,.slice (I.map bd)),(3,.af 1 ((List.set bA (Int.toNat bS) U).map bd)),(4,.int .i64 bS)] (λP aX=>?_) ?_)
   .simp only[aR.down,simprocAttr,dQ,eg,cu eg,ed,dN];exact bR (aa dQ (aa eg (aa (cu eg) @ed)))
   refine gI _ (eX _ (inl (wr [(0,.slice (I.map bd)),(3,.af 1 ((List.set bA (Int.toNat bS) U).map bd)),(4,.int .i64 (i64.wrap (bS+1)))] ?_)));exact dR _ (inr ⟨_,bx rfl,hI (List.set bA (Int.toNat bS) U) (i64.wrap (bS+1)) h⟩)
  .exact cT (cp 0 _ (bp 0 _ (eL _ (gg _ (inl (aT aj [.af 1 (bA.map bd)]))))))
 exact dy h λn h=>hU n (List.replicate (Int.toNat (I.length:Int)) 0) 0 h
theorem ahd (I r) (h:B7 I=some r):ba ah 54 [ji I] (hi r) []:=by
 refine bF [0] [.cell 2 63] Tryz.func54 ad9 λbw aj bu=>an ?_;refine an ?_;refine an ?_;obtain⟨U,cF,h⟩:=ar h;refine dC (ahc I.e7 _ cF) _ ?_;exact aT aj [hi (dn.mk I.gl U)]
theorem ahe (I r) (h:FL I=some r):ba ah 21 [.slice (I.map ji)] (.af 2 (r.map hi)) []:=by
 refine bF [0] [.tmp 2] Tryz.func21 ad_ λbw aj bu=>an ?_;obtain⟨z2,aY,h⟩:=ar h;refine tZ (aa (pa aY) @List.map_replicate.{0,0}) [(0,.slice (I.map ji)),(3,.af 2 (List.replicate (Int.toNat (I.length:Int)) (.agg [(.int .i64 0),.au])))] ?_;refine aA aj λ_ gg bX _=>ws [(0,.slice (I.map ji)),(3,.af 2 (List.replicate (Int.toNat (I.length:Int)) (.agg [(.int .i64 0),.au]))),(4,.int .i64 0)] ?_;refine bh bX λjl _ dK eL _=>?_;show a6 ah (.loop ?hx) _ _;have hU:∀n bA bS,K6 I n bA bS=some r->cL ah ?hx jl (aq [(0,.slice (I.map ji)),(3,.af 2 (bA.map hi)),(4,.int .i64 bS)]):=by
  refine cY λ_ hI bA bS h=>cV dK λ_ dR e6 bp=>aA e6 λ_ gT _ cp=>an ?_;refine aO h (λfU h=>?_) λfU h=>?_
  .refine aS (gT _ (inl (aA e6 λ_ eX gM _=>bh gM λ_ gI _ _ _=>?_)));obtain⟨U,dQ,h⟩:=ar h;obtain⟨ai,eg,h⟩:=ar h;obtain⟨aB,cN,h⟩:=ar h;refine h5 (b5 [(0,.slice (I.map ji)),(3,.af 2 ((List.set bA (Int.toNat bS) ai).map hi)),(4,.int .i64 bS)] (λP aX=>?_) ?_)
   ·(try simp only[aR.down,simprocAttr,dQ,cN,cu cN,ed,dN]);refine d_ (ahd U _ eg) (hK:= ?_);simp only[aR.down,simprocAttr,dQ,cN,cu cN,ed,dN];exact bR (aa dQ (aa cN (aa (cu cN) @ed)))
   refine gI _ (eX _ (inl (wr [(0,.slice (I.map ji)),(3,.af 2 ((List.set bA (Int.toNat bS) ai).map hi)),(4,.int .i64 (i64.wrap (bS+1)))] ?_)));exact dR _ (inr ⟨_,bx rfl,hI (List.set bA (Int.toNat bS) ai) (i64.wrap (bS+1)) h⟩)
  .exact cT (cp 0 _ (bp 0 _ (eL _ (gg _ (inl (aT aj [.af 2 (bA.map hi)]))))))
 obtain⟨n,h⟩:=mo h;exact oM (inr ⟨_,iZ [] rfl (eF (t:=0) (d:=.slice (I.map ji)) rfl (i1 (t:=3) (d:=.af 2 (List.replicate (Int.toNat (I.length:Int)) (.agg [(.int .i64 0),.au]))) (bE:=.af 2 ((List.replicate (Int.toNat (I.length:Int)) (dn.mk 0 [])).map hi)) rfl rfl (Ff (u:=hi) (z:=(dn.mk 0 [])) (.agg (.cons (.refl _) (.cons (.gS _) (.nil)))) _) (by decide) (eF (t:=4) (d:=.int .i64 0) rfl (i0)))),hU n (List.replicate (Int.toNat (I.length:Int)) (dn.mk 0 [])) 0 h⟩)
theorem ahf (I r) (h:B8 I=some r):ba ah 55 [i5 I] (bL r) []:=by
 refine bF [0] [.cell 2 106] Tryz.func55 aea λbw aj bu=>an ?_;refine an ?_;refine an ?_;refine an ?_;refine an ?_;exact aT aj [bL (cq.mk I.Left I.ct I.Result)]
theorem ahg (I r) (h:FM I=some r):ba ah 22 [.slice (I.map i5)] (.af 3 (r.map bL)) []:=by
 refine bF [0] [.tmp 2] Tryz.func22 xD λbw aj bu=>an ?_;obtain⟨z2,aY,h⟩:=ar h;refine tZ (aa (pa aY) @List.map_replicate.{0,0}) [(0,.slice (I.map i5)),(3,.af 3 ((List.replicate (Int.toNat (I.length:Int)) (cq.mk ([]:arE) ([]:arE) ([]:arE))).map bL))] ?_;refine aA aj λ_ gg bX _=>ws [(0,.slice (I.map i5)),(3,.af 3 ((List.replicate (Int.toNat (I.length:Int)) (cq.mk ([]:arE) ([]:arE) ([]:arE))).map bL)),(4,.int .i64 0)] ?_;refine bh bX λjl _ dK eL _=>?_;show a6 ah (.loop ?hx) _ _;have hU:∀n bA bS,K7 I n bA bS=some r->cL ah ?hx jl (aq [(0,.slice (I.map i5)),(3,.af 3 (bA.map bL)),(4,.int .i64 bS)]):=by
  refine cY λ_ hI bA bS h=>cV dK λ_ dR e6 bp=>aA e6 λ_ gT _ cp=>an ?_;refine aO h (λfU h=>?_) λfU h=>?_
  .refine aS (gT _ (inl (aA e6 λ_ eX gM _=>bh gM λ_ gI _ _ _=>?_)));obtain⟨U,dQ,h⟩:=ar h;obtain⟨ai,eg,h⟩:=ar h;obtain⟨aB,cN,h⟩:=ar h;refine h5 (b5 [(0,.slice (I.map i5)),(3,.af 3 ((List.set bA (Int.toNat bS) ai).map bL)),(4,.int .i64 bS)] (λP aX=>?_) ?_)
   ·(try simp only[aR.down,simprocAttr,dQ,cN,cu cN,ed,dN]);refine d_ (ahf U _ eg) (hK:= ?_);simp only[aR.down,simprocAttr,dQ,cN,cu cN,ed,dN];exact bR (aa dQ (aa cN (aa (cu cN) @ed)))
   refine gI _ (eX _ (inl (wr [(0,.slice (I.map i5)),(3,.af 3 ((List.set bA (Int.toNat bS) ai).map bL)),(4,.int .i64 (i64.wrap (bS+1)))] ?_)));exact dR _ (inr ⟨_,bx rfl,hI (List.set bA (Int.toNat bS) ai) (i64.wrap (bS+1)) h⟩)
  .exact cT (cp 0 _ (bp 0 _ (eL _ (gg _ (inl (aT aj [.af 3 (bA.map bL)]))))))
 exact dy h λn h=>hU n (List.replicate (Int.toNat (I.length:Int)) (cq.mk ([]:arE) ([]:arE) ([]:arE))) 0 h
theorem Uu (I r) (h:B9 I=some r):ba ah 23 [.slice (I.map bj)] (.af 1 (r.map bj)) []:=by
 refine bF [0] [.tmp 2] Tryz.func23 aeb λbw aj bu=>an ?_;obtain⟨Ut,aY,h⟩:=ar h;refine tZ (aa (pa aY) @List.map_replicate.{0,0}) [(0,.slice (I.map bj)),(3,.af 1 ((List.replicate (Int.toNat (I.length:Int)) ([]:arE)).map bj))] ?_;refine aA aj λ_ gg bX _=>ws [(0,.slice (I.map bj)),(3,.af 1 ((List.replicate (Int.toNat (I.length:Int)) ([]:arE)).map bj)),(4,.int .i64 0)] ?_;refine bh bX λjl _ dK eL _=>?_;show a6 ah (.loop ?hx) _ _;have hU:∀n bA bS,K8 I n bA bS=some r->cL ah ?hx jl (aq [(0,.slice (I.map bj)),(3,.af 1 (bA.map bj)),(4,.int .i64 bS)]):=by
  refine cY λ_ hI bA bS h=>cV dK λ_ dR e6 bp=>aA e6 λ_ gT _ cp=>an ?_;refine aO h (λfU h=>?_) λfU h=>?_
  .refine aS (gT _ (inl (aA e6 λ_ eX gM _=>bh gM λ_ gI _ _ _=>?_)));obtain⟨U,dQ,h⟩:=ar h;obtain⟨ai,eg,h⟩:=ar h;refine h5 (b5 [(0,.slice (I.map bj)),(3,.af 1 ((List.set bA (Int.toNat bS) U).map bj)),(4,.int .i64 bS)] (λP aX=>?_) ?_)
   .simp only[aR.down,simprocAttr,dQ,eg,cu eg,ed,dN];exact bR (aa dQ (aa eg (aa (cu eg) @ed)))
   refine gI _ (eX _ (inl (wr [(0,.slice (I.map bj)),(3,.af 1 ((List.set bA (Int.toNat bS) U).map bj)),(4,.int .i64 (i64.wrap (bS+1)))] ?_)));exact dR _ (inr ⟨_,bx rfl,hI (List.set bA (Int.toNat bS) U) (i64.wrap (bS+1)) h⟩)
  .exact cT (cp 0 _ (bp 0 _ (eL _ (gg _ (inl (aT aj [.af 1 (bA.map bj)]))))))
 exact dy h λn h=>hU n (List.replicate (Int.toNat (I.length:Int)) ([]:arE)) 0 h
theorem Hu (I r) (h:vf I=some r):ba ah 6 [nI I] (s3 r) []:=by
 refine bF [0] [.cell 2 39] Tryz.func6 eA λbw aj bu=>an ?_;refine an ?_;obtain⟨U,bT,h⟩:=ar h;refine dC (ahb I.aC _ bT) _ ?_;obtain⟨ai,cj,h⟩:=ar h;refine dC (ahe I.b7 _ cj) _ ?_;obtain⟨aB,gZ,h⟩:=ar h;refine dC (ahg I.hA _ gZ) _ ?_;obtain⟨a7,jz,h⟩:=ar h;refine dC (Uu I.hg _ jz) _ ?_;obtain⟨aP,dL,h⟩:=ar h;refine dC (Uu I.hh _ dL) _ ?_;exact aT aj [s3 (cG.mk U ai aB a7 aP)]
theorem NI (I r) (h:B_ I=some r):ba ah 144 [.int .u8 (I.toNat:Int)] (.bool r) []:=by
 refine bF [0] [.tmp 2] Tryz.func144 aec λbw aj bu=>an ?_;refine nf (decide (97<=(I.toNat:Int))) [(2,.bool ((decide (97<=(I.toNat:Int)))&&(decide ((I.toNat:Int)<=122))))] ?_;exact dV aj [.bool ((decide (97<=(I.toNat:Int)))&&(decide ((I.toNat:Int)<=122)))]
theorem ahh (I r) (h:K9 I=some r):ba ah 145 [.int .u8 (I.toNat:Int)] (.bool r) []:=by
 refine bF [0] [.tmp 2] Tryz.func145 aed λbw aj bu=>an ?_;refine nf (decide (48<=(I.toNat:Int))) [(2,.bool ((decide (48<=(I.toNat:Int)))&&(decide ((I.toNat:Int)<=57))))] ?_;exact dV aj [.bool ((decide (48<=(I.toNat:Int)))&&(decide ((I.toNat:Int)<=57)))]
theorem Dw (I r) (h:w3 I=some r):ba ah 109 [.str I] (.bool r) []:=by
 refine bF [0] [.tmp 2] Tryz.func109 aee λbw aj bu=>an ?_;refine aA aj λ_ bD bb ai=>?_;rcases dH h with⟨bN,h⟩|⟨bN,h⟩
 .refine c5 bN _ ?_;refine iE rfl ?_;exact aT bb [.bool false]
 .rcases dH h with⟨eL,h⟩|⟨eL,h⟩
  .refine c5 (aa bN eL) _ ?_;refine iE rfl ?_;exact aT bb [.bool false]
  .obtain⟨U,gZ,h⟩:=ar h;obtain⟨ai,ie,h⟩:=ar h;refine fw (aa bN (aa eL gZ)) (NI U _ ie) _ ?_;refine aO h (λfU h=>?_) λfU h=>?_
   .exact aT bb [.bool false]
   .refine aS (bD _ (inl (aA aj λ_ gI kL _=>an ?_)));refine bh kL λNJ _ el h8 _=>?_;show a6 ah (.loop ?hT) _ _;have hV:∀n dA,Ca I n dA=some r->cL ah ?hT NJ (aq [(0,.str I),(3,.int .i64 dA)]):=by
     refine cY λ_ hk dA h=>cV el λ_ hd im ik=>aA im λ_ jG _ kH=>an ?_;refine aO h (λlp h=>?_) λlp h=>?_
     .refine aS (jG _ (inl (aA im λ_ ng ua _=>bh ua λ_ s4 Dx _ _=>?_)));obtain⟨aB,fq,h⟩:=ar h;obtain⟨a7,k1,h⟩:=ar h;rcases dH h with⟨ir,h⟩|⟨ir,h⟩
      .obtain⟨aP,hJ,h⟩:=ar h;refine du (b5 [(0,.str I),(3,.int .i64 dA),(34,.bool (!aP))] (λP aX=>?_) ?_)
       ·(try simp only[aR.down,simprocAttr,fq,(hz ir)]);refine d_ (NI aB _ k1) (hK:= ?_);simp only[aR.down,simprocAttr,fq,(hz ir)];refine ij (ahh aB _ hJ) (hK:= ?_);simp only[aR.down,simprocAttr,fq,(hz ir)];exact bR (aa fq (hz ir))
       refine aO h (λhL h=>?_) λhL h=>?_
       .exact aT Dx [.bool false]
       .refine aS (s4 _ (ng _ (inl (dG ?_))));exact hd _ (inr ⟨_,bx rfl,hk (i64.wrap (dA+1)) h⟩)
      .refine fw (aa fq (bV ir)) (NI aB _ k1) _ ?_;refine m3 rfl ?_;refine aS (s4 _ (ng _ (inl (dG ?_))));exact hd _ (inr ⟨_,bx rfl,hk (i64.wrap (dA+1)) h⟩)
     .exact cT (kH 0 _ (ik 0 _ (h8 _ (gI _ (inl (aT aj [.bool true]))))))
    exact dy h λn h=>hV n 0 h
theorem nK (I R aM r) (h:kF I R aM=some r):ba ah 18 [.int .i64 I,.int .i64 R,.int .i64 aM] (.bool r) []:=by
 refine bF [0,1,2] [.tmp 6] Tryz.func18 Nd λbw aj bu=>an ?_;refine nf (decide (R<=I)) [(6,.bool ((decide (R<=I))&&(decide (I<=aM))))] ?_;exact dV aj [.bool ((decide (R<=I))&&(decide (I<=aM)))]
theorem Uv (I r) (h:Cc I=some r):ba ah 171 [.ref (c2 I)] (.int .i64 r) []:=by
 refine bF [0] [.tmp 2] Tryz.func171 aef λbw aj bu=>an ?_;refine aA aj λ_ bD bb _=>an ?_;refine bh bb λeC gg bX _ _=>?_;show a6 ah (.seq _ ?jj) _ _;have pU:∀jg,Cb I jg=some r->a6 ah ?jj eC (aq [(6,.int .i64 I.Kind),(7,.bool jg)]):=by
  intro jg h;refine aO h (λeL h=>?_) λeL h=>?_
  .exact aT bX [.int .i64 1]
  .refine an ?_;refine aO h (λfh h=>?_) λfh h=>?_
   .exact aT bX [.int .i64 2]
   .exact aS (gg _ (bD _ (inl (aT aj [.int .i64 0]))))
 refine aA bX λ_ dJ _ _=>an ?_;refine aO h (λg5 h=>?_) λg5 h=>?_
 .simp only[g5,z0.down];exact aS (dJ _ (inr ⟨_,bx rfl,pU true h⟩))
 .refine an ?_;refine aO h (λfp h=>?_) λfp h=>?_
  .simp only[fp,z0.down];exact aS (dJ _ (inr ⟨_,bx rfl,pU true h⟩))
  .refine dG ?_;exact dJ _ (inr ⟨_,bx rfl,pU (I.Kind==4) h⟩)
theorem ahi (I r) (h:FN I=some r):ba ah 146 [.slice (I.map c2)] (.bool r) []:=by
 refine bF [0] [.tmp 2] Tryz.func146 aeg λbw aj bu=>an ?_;refine aA aj λ_ bD bb ai=>nf ((I.length:Int)==0) [(0,.slice (I.map c2)),(12,.bool (((I.length:Int)==0)||(decide (20<(I.length:Int)))))] ?_;refine aO h (λbN h=>?_) λbN h=>?_
 .exact aT bb [.bool false]
 .refine aS (bD _ (inl (an ?_)));refine aA aj λ_ dR e6 _=>an ?_;refine bh e6 λkJ _ cd fh _=>?_;show a6 ah (.loop ?jj) _ _;have j_:∀n hG h6,yV I n hG h6=some r->cL ah ?jj kJ (aq [(0,.slice (I.map c2)),(3,.int .i64 hG),(4,.int .i64 h6)]):=by
   refine cY λ_ ka hG h6 h=>cV cd λ_ b1 cz cE=>aA cz λ_ eX _ de=>an ?_;refine aO h (λg5 h=>?_) λg5 h=>?_
   .refine aS (eX _ (inl (aA cz λ_ eS el _=>bh el λ_ hd im _ _=>aA im λ_ jG kZ _=>an ?_)));refine aO h (λlp h=>?_) λlp h=>?_
    .exact aT kZ [.bool false]
    .refine aS (jG _ (inl ?_));obtain⟨U,iR,h⟩:=ar h;obtain⟨ai,fq,h⟩:=ar h;refine Ny iR (Uv U _ fq) _ ?_;refine hd _ (eS _ (inl (dG ?_)));exact b1 _ (inr ⟨_,bx rfl,ka (i64.wrap (hG+(i64.wrap (ai-1)))) (i64.wrap (h6+1)) h⟩)
   .exact cT (de 0 _ (cE 0 _ (fh _ (dR _ (inl (aT aj [.bool (hG==0)]))))))
  exact dy h λn h=>j_ n 1 0 h
theorem ahj (I r) (h:Cf I=some r):ba ah 172 [.ref (c2 I)] (.bool r) []:=by
 refine bF [0] [.tmp 2] Tryz.func172 aeh λbw aj bu=>an ?_;refine aA aj λ_ bD bb _=>an ?_;refine bh bb λeC gg bX _ _=>?_;show a6 ah (.seq _ ?Dr) _ _;have ub:∀Ce,Cd I Ce=some r->a6 ah ?Dr eC (aq [(0,.ref (c2 I)),(6,.int .i64 I.Kind),(7,.bool Ce)]):=by
  intro Ce h;refine aO h (λeL h=>?_) λeL h=>?_
  .refine du (b5 [(2,.bool (((I.Number==0)&&(I.Name==([]:arE)))&&((I.a9.length:Int)==0)))] (λP aX=>?_) ?_)
   ·(rcases Bool.eq_false_or_eq_true (I.Number==0)with jt|jt)<;>(rcases Bool.eq_false_or_eq_true (I.Name==([]:arE))with qJ|qJ)<;>
     (simp only[aR.down,simprocAttr,jt,qJ]
      exact bR (aa jt qJ))
   exact dV bX [.bool (((I.Number==0)&&(I.Name==([]:arE)))&&((I.a9.length:Int)==0))]
  .refine an ?_;refine aO h (λjV h=>?_) λjV h=>?_
   .exact aT bX [.bool (I.Number==0)]
   .refine an ?_;refine aO h (λh8 h=>?_) λh8 h=>?_
    .refine nf (I.Number==0) [(2,.bool ((I.Number==0)&&(I.Name==([]:arE))))] ?_;exact dV bX [.bool ((I.Number==0)&&(I.Name==([]:arE)))]
    .refine an ?_;refine aO h (λhC h=>?_) λhC h=>?_
     .refine nf (I.Name==([]:arE)) [(2,.bool ((I.Name==([]:arE))&&((I.a9.length:Int)==0)))] ?_;exact dV bX [.bool ((I.Name==([]:arE))&&((I.a9.length:Int)==0))]
     .refine an ?_;refine aO h (λgn h=>?_) λgn h=>?_
      .exact aT bX [.bool (I.Name==([]:arE))]
      .exact aS (gg _ (bD _ (inl (aT aj [.bool false]))))
 refine aA bX λ_ dJ _ _=>an ?_;refine aO h (λir h=>?_) λir h=>?_
 .simp only[ir,z0.down];exact aS (dJ _ (inr ⟨_,bx rfl,ub true h⟩))
 .refine dG ?_;exact dJ _ (inr ⟨_,bx rfl,ub (I.Kind==2) h⟩)
theorem ahk (I R r) (h:FO I R=some r):ba ah 184 [.slice (I.map c2),.int .i64 R] (.int .i64 r) []:=by
 refine bF [0] [.tmp 4] Tryz.func184 aei λbw aj bu=>an ?_;refine an ?_;refine aA aj λ_ fk dt _=>bh dt λeC _ bX bN _=>?_;show a6 ah (.loop ?eA) _ _;have eT:∀n a1 aL,yW I n a1 aL=some r->cL ah ?eA eC (aq [(0,.slice (I.map c2)),(1,.int .i64 a1),(5,.int .i64 aL)]):=by
  refine cY λ_ eH a1 aL h=>cV bX λ_ dJ cm aP=>aA cm λ_ dp _ aV=>an ?_;refine aO h (λcw h=>?_) λcw h=>?_
  .refine aS (dp _ (inl (bh cm λ_ cJ _ _ _=>?_)));obtain⟨U,mX,h⟩:=ar h;obtain⟨ai,dL,h⟩:=ar h;refine fw mX (Uv U _ dL) _ ?_;refine dG ?_;exact cJ _ (dJ _ (inr ⟨_,bx rfl,eH (i64.wrap (a1+1)) (i64.wrap (aL+(i64.wrap (ai-1)))) h⟩))
  .exact cT (aV 0 _ (aP 0 _ (bN _ (fk _ (inl (aT aj [.int .i64 a1]))))))
 exact dy h λn h=>eT n R 1 h
theorem ahl (I R r) (h:vg I R=some r):ba ah 173 [.ref (br I),.int .i64 R] (.int .i64 r) []:=by
 refine bF [0,1] [.tmp 4] Tryz.func173 aej λbw aj bu=>an ?_;refine an ?_;refine aA aj λ_ fk dt _=>an ?_;refine bh dt λmi _ cm cS _=>?_;show a6 ah (.loop ?hx) _ _;have hU:∀n gm ix,w4 I R n gm ix=some r->cL ah ?hx mi (aq [(0,.ref (br I)),(1,.int .i64 R),(5,.int .i64 gm),(6,.int .i64 ix)]):=by
  refine cY λjA hI gm ix h=>cV cm λjl dp dK aV=>aA dK λ_ dR _ bp=>an ?_;refine aO h (λfh h=>?_) λfh h=>?_
  .refine aS (dR _ (inl ?_));show a6 ah (.seq _ ?xD) _ _;have xG:∀pt pv,Cg (w4 I R jA) I R pt pv=some r->a6 ah ?xD jl (aq [(0,.ref (br I)),(1,.int .i64 R),(5,.int .i64 pt),(6,.int .i64 pv)]):=by
    intro pt pv h;refine dG ?_;exact dp _ (inr ⟨_,bx rfl,hI pt (i64.wrap (pv+1)) h⟩)
   refine aA dK λ_ b1 cz _=>bh cz λ_ gI _ _ _=>?_;obtain⟨U,dQ,h⟩:=ar h;rcases dH h with⟨fp,h⟩|⟨fp,h⟩
   .obtain⟨ai,cN,h⟩:=ar h;refine fw (aa dQ fp) (ahk I.Body ix _ cN) _ ?_;refine aO h (λhC h=>?_) λhC h=>?_
    .refine dG ?_;exact gI _ (b1 _ (inr ⟨_,bx rfl,xG (i64.wrap (gm+1)) ix h⟩))
    .exact aS (gI _ (b1 _ (inr ⟨_,bx rfl,xG gm ix h⟩)))
   .refine c5 (aa dQ fp) _ ?_;refine m3 rfl ?_;exact aS (gI _ (b1 _ (inr ⟨_,bx rfl,xG gm ix h⟩)))
  .exact cT (bp 0 _ (aV 0 _ (cS _ (fk _ (inl (aT aj [.int .i64 gm]))))))
 exact dy h λn h=>hU n I.bW 0 h
theorem ahm (I R r) (h:FP I R=some r):ba ah 148 [.ref (bf I),.int .i64 R] (.bool r) []:=by
 refine bF [0,1] [.tmp 4] Tryz.func148 aek λbw aj bu=>an ?_;refine aA aj λ_ bD bb ai=>an ?_;refine bh bb λ_ gg bX _ _=>an ?_;refine aO h (λeL h=>?_) λeL h=>?_
 .obtain⟨U,gZ,h⟩:=ar h;refine dC (nK I.Value 0 63 _ gZ) _ ?_;exact dV bX [.bool U]
 .refine an ?_;refine aO h (λfU h=>?_) λfU h=>?_
  .obtain⟨ai,dL,h⟩:=ar h;refine dC (nK I.Value 0 (i64.wrap (R-1)) _ dL) _ ?_;exact dV bX [.bool ai]
  .refine an ?_;refine aO h (λh8 h=>?_) λh8 h=>?_
   .obtain⟨aB,cN,h⟩:=ar h;refine dC (nK I.Value 0 8 _ cN) _ ?_;exact dV bX [.bool aB]
   .refine an ?_;refine aO h (λlp h=>?_) λlp h=>?_
    .exact aT bX [.bool (I.Value==0)]
    .exact aS (gg _ (bD _ (inl (aT aj [.bool false]))))
theorem ahn (I r) (h:Ld I=some r):ba ah 149 [.ref (bf I)] (.int .i64 r) []:=by
 refine bF [0] [.tmp 2] Tryz.func149 ael λbw aj bu=>an ?_;refine aA aj λ_ bD bb _=>an ?_;refine bh bb λ_ gg bX _ _=>an ?_;refine aO h (λeL h=>?_) λeL h=>?_
 .exact aT bX [.int .i64 2]
 .refine an ?_;refine aO h (λfh h=>?_) λfh h=>?_
  .exact aT bX [.int .i64 1]
  .exact aS (gg _ (bD _ (inl (aT aj [.int .i64 0]))))
theorem Hv (I R aM r) (h:yY I R aM=some r):ba ah 116 [.slice (I.map bf),.int .i64 R,.int .i64 aM] (.bool r) []:=by
 refine bF [0,1,2] [.tmp 6] Tryz.func116 aem λbw aj bu=>an ?_;refine aA aj λ_ bD bb ai=>an ?_;refine aO h (λbN h=>?_) λbN h=>?_
 .exact aT bb [.bool false]
 .refine aS (bD _ (inl (an ?_)));refine aA aj λ_ dR e6 _=>an ?_;refine bh e6 λkJ _ cd fh _=>?_;show a6 ah (.loop ?jj) _ _;have j_:∀n jg sM,yX I R n jg sM=some r->cL ah ?jj kJ (aq [(0,.slice (I.map bf)),(1,.int .i64 R),(7,.int .i64 jg),(8,.int .i64 sM)]):=by
   refine cY λ_ ka jg sM h=>cV cd λ_ b1 cz cE=>aA cz λ_ eX _ de=>an ?_;refine aO h (λg5 h=>?_) λg5 h=>?_
   .refine aS (eX _ (inl (aA cz λ_ eS el _=>bh el λ_ hd im _ _=>aA im λ_ jG kZ _=>?_)));rcases dH h with⟨lp,h⟩|⟨lp,h⟩
    .refine c5 lp _ ?_;refine iE rfl ?_;exact aT kZ [.bool false]
    .obtain⟨U,hn,h⟩:=ar h;obtain⟨ai,iR,h⟩:=ar h;refine fw (aa lp hn) (ahm U R _ iR) _ ?_;refine aO h (λom h=>?_) λom h=>?_
     .exact aT kZ [.bool false]
     .refine aS (jG _ (inl ?_));obtain⟨aB,hJ,h⟩:=ar h;refine Ny hn (ahn U _ hJ) _ ?_;refine hd _ (eS _ (inl (dG ?_)));exact b1 _ (inr ⟨_,bx rfl,ka (i64.wrap (jg+(i64.wrap (aB-1)))) (i64.wrap (sM+1)) h⟩)
   .exact cT (de 0 _ (cE 0 _ (fh _ (dR _ (inl (aT aj [.bool (jg==0)]))))))
  exact dy h λn h=>j_ n 1 0 h
theorem aho (I R aM r) (h:pw I R aM=some r):ba ah 147 [.slice (I.map br),.ref (br R),.int .i64 aM] (.int .i64 r) []:=by
 refine bF [0,1,2] [.tmp 6] Tryz.func147 aep λbw aj bu=>an ?_;obtain⟨U,aY,h⟩:=ar h;refine c5 aY _ ?_;refine aA aj λ_ gg bX a7=>?_;obtain⟨ai,cj,h⟩:=ar h;refine du (b5 [(0,.slice (I.map br)),(1,.ref (br R)),(2,.int .i64 aM),(7,.aG (c2 U)),(19,.bool (!ai))] (λP aX=>?_) ?_)
 .refine d_ (ahj U _ cj) rfl rfl (by simp only[aR.down,simprocAttr,g9,g_,ha,dm, @bn _ cy cy (λ_=>rP _)]<;>rfl) rfl (inr (by rfl)) ?_;simp only[aR.down,simprocAttr];exact bR trivial
 refine aO h (λpj h=>?_) λpj h=>?_
 .exact aT bX [.int .i64 2]
 .refine aS (gg _ (inl (aA aj λkJ cJ cd di=>?_)));have Uw:∀Cj,yZ I R aM U Cj=some r->a6 ah TX kJ (aq [(0,.slice (I.map br)),(1,.ref (br R)),(2,.int .i64 aM),(7,.aG (c2 U)),(28,.bool Cj)]):=by
   intro Cj h;refine aO h (λfU h=>?_) λfU h=>?_
   .exact aT cd [.int .i64 3]
   .refine aS (cJ _ (inl (aA aj λxH gI kL _=>?_)));have Dy:∀Ci,sP I R aM U Ci=some r->a6 ah TY xH (aq [(0,.slice (I.map br)),(1,.ref (br R)),(2,.int .i64 aM),(7,.aG (c2 U)),(51,.bool Ci)]):=by
     intro Ci h;refine aO h (λg5 h=>?_) λg5 h=>?_
     .exact aT kL [.int .i64 4]
     .refine aS (gI _ (inl (an ?_)));have Hw:tG R aM U=some r->a6 ah T1 bw (aq [(1,.ref (br R)),(2,.int .i64 aM),(7,.aG (c2 U)),(8,.int .i64 (U.a9.length:Int))]):=by
       intro h;refine aA aj λDz ju jm _=>?_;have NK:∀Ch,rE R aM U Ch=some r->a6 ah TZ Dz (aq [(1,.ref (br R)),(2,.int .i64 aM),(7,.aG (c2 U)),(8,.int .i64 (U.a9.length:Int)),(102,.bool Ch)]):=by
        intro Ch h;refine aO h (λlp h=>?_) λlp h=>?_
        .exact aT jm [.int .i64 6]
        .refine aS (ju _ (inl ?_));obtain⟨aB,iR,h⟩:=ar h;refine dC (ahl R aM _ iR) _ ?_;refine aA aj λ_ mh mJ _=>nf (U.Kind==4) [(7,.aG (c2 U)),(8,.int .i64 (U.a9.length:Int)),(9,.int .i64 aB),(112,.bool ((U.Kind==4)&&(decide (6<=aB))))] ?_;refine aO h (λir h=>?_) λir h=>?_
         .exact aT mJ [.int .i64 7]
         .refine aS (mh _ (inl (aA aj λ_ pV vv _=>an ?_)));refine bh vv λNL _ qI kv _=>?_;have ahp:∀n sN sO,vh U n sN sO=some r->cL ah T0 NL (aq [(7,.aG (c2 U)),(8,.int .i64 (U.a9.length:Int)),(9,.int .i64 sN),(10,.int .i64 sO)]):=by
           refine cY λ_ ahq sN sO h=>cV qI λ_ oY z3 NM=>aA z3 λ_ NN _ ahr=>an ?_;refine aO h (λqK h=>?_) λqK h=>?_
           .refine aS (NN _ (inl (aA z3 λ_ Hx DA _=>bh DA λ_ xI uc _ _=>?_)));obtain⟨a7,ahs,h⟩:=ar h;obtain⟨aP,NO,h⟩:=ar h;refine fw ahs (Hv a7 sN 15 _ NO) _ ?_;refine aO h (λNP h=>?_) λNP h=>?_
            .exact aT uc [.int .i64 8]
            .refine aS (xI _ (Hx _ (inl (dG ?_))));exact oY _ (inr ⟨_,bx rfl,ahq sN (i64.wrap (sO+1)) h⟩)
           .exact cT (ahr 1 _ (NM 1 _ (kv _ (pV _ (inl (aT aj [.int .i64 0]))))))
          exact dy h λn h=>ahp n aB 0 h
       rcases dH h with⟨rQ,h⟩|⟨rQ,h⟩
       .rcases dH h with⟨DB,h⟩|⟨DB,h⟩
        .refine mB (b5 (K:=eB _) [(1,.ref (br R)),(2,.int .i64 aM),(7,.aG (c2 U)),(8,.int .i64 (U.a9.length:Int)),(102,.bool true)] (λP aX=>?_) ?_)
         .simp only[aR.down,simprocAttr,rQ,DB];exact bR (aa rQ DB)
         exact inr ⟨_,bx rfl,NK true h⟩
        .obtain⟨aV,DC,h⟩:=ar h;refine mB (b5 (K:=eB _) [(1,.ref (br R)),(2,.int .i64 aM),(7,.aG (c2 U)),(8,.int .i64 (U.a9.length:Int)),(102,.bool (aV.Kind !=1))] (λP aX=>?_) ?_)
         .simp only[aR.down,simprocAttr,rQ,DB,DC];exact bR (aa rQ (aa DB DC))
         exact inr ⟨_,bx rfl,NK (aV.Kind !=1) h⟩
       .refine mB (b5 (K:=eB _) [(1,.ref (br R)),(2,.int .i64 aM),(7,.aG (c2 U)),(8,.int .i64 (U.a9.length:Int)),(102,.bool false)] (λP aX=>?_) ?_)
        .simp only[aR.down,simprocAttr,rQ];exact bR rQ
        exact inr ⟨_,bx rfl,NK false h⟩
      refine aA aj λ_ jG kZ _=>an ?_;refine bh kZ λ_ z4 DD _ _=>an ?_;refine aO h (λaht h=>?_) λaht h=>?_
      .refine du (b5 [(1,.ref (br R)),(2,.int .i64 aM),(7,.aG (c2 U)),(8,.int .i64 (U.a9.length:Int)),(69,.bool ((decide (2<(U.a9.length:Int)))||((decide (0<(U.a9.length:Int)))&&(U.Name==([116,97,117]:arE)))))] (λP aX=>?_) ?_)
       ·(rcases Bool.eq_false_or_eq_true (decide (2<(U.a9.length:Int)))with NQ|NQ)<;>(rcases Bool.eq_false_or_eq_true (decide (0<(U.a9.length:Int)))with NR|NR)<;>
         (simp only[aR.down,simprocAttr,NQ,NR]
          exact bR (aa NQ NR))
       refine aO h (λahu h=>?_) λahu h=>?_
       .exact aT DD [.int .i64 5]
       .exact aS (z4 _ (jG _ (inr ⟨_,bx rfl,Hw h⟩)))
      .refine an ?_;refine aO h (λNS h=>?_) λNS h=>?_
       .refine an ?_;refine aO h (λahv h=>?_) λahv h=>?_
        .exact aT DD [.int .i64 5]
        .exact aS (z4 _ (jG _ (inr ⟨_,bx rfl,Hw h⟩)))
       .refine an ?_;refine aO h (λNT h=>?_) λNT h=>?_
        .obtain⟨bp,ahw,h⟩:=ar h;refine c5 ahw _ ?_;refine aO h (λahx h=>?_) λahx h=>?_
         .exact aT DD [.int .i64 5]
         .exact aS (z4 _ (jG _ (inr ⟨_,bx rfl,Hw h⟩)))
        .exact aS (z4 _ (jG _ (inr ⟨_,bx rfl,Hw h⟩)))
    rcases dH h with⟨lR,h⟩|⟨lR,h⟩
    .obtain⟨cp,DE,h⟩:=ar h;rcases dH h with⟨pW,h⟩|⟨pW,h⟩
     .refine mB (b5 (K:=eB _) [(0,.slice (I.map br)),(1,.ref (br R)),(2,.int .i64 aM),(7,.aG (c2 U)),(51,.bool true)] (λP aX=>?_) ?_)
      ·(try simp only[aR.down,simprocAttr,lR,(hz pW)]);refine ij (nK U.Number 1 7 _ DE) (hK:= ?_);simp only[aR.down,simprocAttr,lR,(hz pW)];exact bR (aa lR (hz pW))
      exact inr ⟨_,bx rfl,Dy true h⟩
     .rcases dH h with⟨vw,h⟩|⟨vw,h⟩
      .obtain⟨di,ahy,h⟩:=ar h;refine mB (b5 (K:=eB _) [(0,.slice (I.map br)),(1,.ref (br R)),(2,.int .i64 aM),(7,.aG (c2 U)),(51,.bool (!di))] (λP aX=>?_) ?_)
       ·(try simp only[aR.down,simprocAttr,lR,(bV pW),vw]);refine ij (nK U.Number 1 7 _ DE) (hK:= ?_);simp only[aR.down,simprocAttr,lR,(bV pW),vw];refine ij (nK U.Number 0 (i64.wrap ((I.length:Int)-1)) _ ahy) (hK:= ?_);simp only[aR.down,simprocAttr,lR,(bV pW),vw];exact bR (aa lR (aa (bV pW) vw))
       exact inr ⟨_,bx rfl,Dy (!di) h⟩
      .refine mB (b5 (K:=eB _) [(0,.slice (I.map br)),(1,.ref (br R)),(2,.int .i64 aM),(7,.aG (c2 U)),(51,.bool false)] (λP aX=>?_) ?_)
       ·(try simp only[aR.down,simprocAttr,lR,(bV pW),vw]);refine ij (nK U.Number 1 7 _ DE) (hK:= ?_);simp only[aR.down,simprocAttr,lR,(bV pW),vw];exact bR (aa lR (aa (bV pW) vw))
       exact inr ⟨_,bx rfl,Dy false h⟩
    .rcases dH h with⟨vx,h⟩|⟨vx,h⟩
     .obtain⟨cE,ahz,h⟩:=ar h;refine mB (b5 (K:=eB _) [(0,.slice (I.map br)),(1,.ref (br R)),(2,.int .i64 aM),(7,.aG (c2 U)),(51,.bool (!cE))] (λP aX=>?_) ?_)
      ·(try simp only[aR.down,simprocAttr,lR,vx]);refine ij (nK U.Number 0 (i64.wrap ((I.length:Int)-1)) _ ahz) (hK:= ?_);simp only[aR.down,simprocAttr,lR,vx];exact bR (aa lR vx)
      exact inr ⟨_,bx rfl,Dy (!cE) h⟩
     .refine mB (b5 (K:=eB _) [(0,.slice (I.map br)),(1,.ref (br R)),(2,.int .i64 aM),(7,.aG (c2 U)),(51,.bool false)] (λP aX=>?_) ?_)
      .simp only[aR.down,simprocAttr,lR,vx];exact bR (aa lR vx)
      exact inr ⟨_,bx rfl,Dy false h⟩
  rcases dH h with⟨z5,h⟩|⟨z5,h⟩
  .obtain⟨de,xJ,h⟩:=ar h;refine mB (b5 (K:=eB _) [(0,.slice (I.map br)),(1,.ref (br R)),(2,.int .i64 aM),(7,.aG (c2 U)),(28,.bool (!de))] (λP aX=>?_) ?_)
   ·(try simp only[aR.down,simprocAttr,z5]);refine ij (Dw U.Name _ xJ) (hK:= ?_);simp only[aR.down,simprocAttr,z5];exact bR z5
   exact inr ⟨_,bx rfl,Uw (!de) h⟩
  .refine mB (b5 (K:=eB _) [(0,.slice (I.map br)),(1,.ref (br R)),(2,.int .i64 aM),(7,.aG (c2 U)),(28,.bool false)] (λP aX=>?_) ?_)
   .simp only[aR.down,simprocAttr,z5];exact bR z5
   exact inr ⟨_,bx rfl,Uw false h⟩
theorem ahA (I R r) (h:tI I R=some r):ba ah 110 [.slice (I.map br),.ref (br R)] (.tuple [.int .i64 r.1,.int .i64 r.2]) []:=by
 refine bF [0,1] [.tmp 4,.tmp 5] Tryz.func110 aeq λbw aj bu=>an ?_;refine aA aj λ_ bD bb ai=>?_;obtain⟨U,bT,h⟩:=ar h;refine dC (ahi R.Body _ bT) _ ?_;refine aO h (λcS h=>?_) λcS h=>?_
 .exact aT bb [.int .i64 0,.int .i64 1]
 .refine aS (bD _ (inl (aA aj λ_ dR e6 _=>an ?_)));refine bh e6 λkJ _ cd fh _=>?_;show a6 ah (.loop ?hT) _ _;have hV:∀n px,tH I R n px=some r->cL ah ?hT kJ (aq [(0,.slice (I.map br)),(1,.ref (br R)),(6,.int .i64 px)]):=by
   refine cY λ_ hk px h=>cV cd λ_ b1 cz cE=>aA cz λ_ eX _ de=>an ?_;refine aO h (λg5 h=>?_) λg5 h=>?_
   .refine aS (eX _ (inl (aA cz λ_ eS el _=>bh el λ_ hd im _ _=>?_)));obtain⟨ai,fb,h⟩:=ar h;refine dC (aho I R px _ fb) _ ?_;refine an ?_;refine aO h (λiq h=>?_) λiq h=>?_
    .exact aT im [.int .i64 px,.int .i64 ai]
    .refine aS (hd _ (eS _ (inl (dG ?_))));exact b1 _ (inr ⟨_,bx rfl,hk (i64.wrap (px+1)) h⟩)
   .exact cT (de 0 _ (cE 0 _ (fh _ (dR _ (inl (aT aj [.int .i64 0,.int .i64 0]))))))
  exact dy h λn h=>hV n 0 h
theorem ahB (I r) (h:FQ I=some r):ba ah 75 [.slice (I.map br)] (.bool r) []:=by
 refine bF [0] [.tmp 2] Tryz.func75 Nf λbw aj bu=>an ?_;refine aA aj λ_ bD bb ai=>nf ((I.length:Int)==0) [(0,.slice (I.map br)),(15,.bool (((I.length:Int)==0)||(decide (4<(I.length:Int)))))] ?_;refine aO h (λbN h=>?_) λbN h=>?_
 .exact aT bb [.bool false]
 .refine aS (bD _ (inl (aA aj λ_ dp dK aV=>an ?_)));refine bh dK λkb _ h2 cw _=>?_;show a6 ah (.loop ?hT) _ _;have hV:∀n dA,tJ I n dA=some r->cL ah ?hT kb (aq [(0,.slice (I.map br)),(3,.int .i64 dA)]):=by
   refine cY λHy hk dA h=>cV h2 λ_ cJ cd di=>aA cd λ_ b1 _ cE=>an ?_;refine aO h (λgp h=>?_) λgp h=>?_
   .refine aS (b1 _ (inl (aA cd λ_ gh gB _=>bh gB λ_ eS el _ _=>aA el λ_ hd im _=>?_)));obtain⟨U,fb,h⟩:=ar h;obtain⟨ai,fy,h⟩:=ar h;rcases dH h with⟨iq,h⟩|⟨iq,h⟩
    .refine fw (aa fb (hz iq)) (Dw U.Name _ fy) _ ?_;refine iE rfl ?_;exact aT im [.bool false]
    .obtain⟨aB,iR,h⟩:=ar h;refine du (b5 [(0,.slice (I.map br)),(3,.int .i64 dA),(37,.bool (!aB))] (λP aX=>?_) ?_)
     ·(try simp only[aR.down,simprocAttr,fb,(bV iq)]);refine d_ (Dw U.Name _ fy) (hK:= ?_);simp only[aR.down,simprocAttr,fb,(bV iq)];refine ij (nK U.bW 0 3 _ iR) (hK:= ?_);simp only[aR.down,simprocAttr,fb,(bV iq)];exact bR (aa fb (bV iq))
     refine aO h (λom h=>?_) λom h=>?_
     .exact aT im [.bool false]
     .refine aS (hd _ (inl (an ?_)));refine bh el λahC _ vy oo _=>?_;show a6 ah (.loop ?Nv) _ _;have ahD:∀n qp sQ,y0 (tJ I Hy) I n qp sQ=some r->cL ah ?Nv ahC (aq [(0,.slice (I.map br)),(3,.int .i64 qp),(4,.int .i64 sQ)]):=by
       refine cY λ_ ahE qp sQ h=>cV vy λ_ pV vv qz=>aA vv λ_ NU _ tQ=>an ?_;refine aO h (λjW h=>?_) λjW h=>?_
       .refine aS (NU _ (inl (aA vv λ_ NN ahF _=>bh ahF λ_ DF Hz _ _=>?_)));obtain⟨a7,mj,h⟩:=ar h;obtain⟨aP,mK,h⟩:=ar h;refine qH (aa mj mK) _ ?_;refine aO h (λNV h=>?_) λNV h=>?_
        .exact aT Hz [.bool false]
        .refine aS (DF _ (NN _ (inl (dG ?_))));exact pV _ (inr ⟨_,bx rfl,ahE qp (i64.wrap (sQ+1)) h⟩)
       .refine cT (tQ 2 _ (qz 2 _ (oo _ (eS _ (gh _ (inl (dG ?_)))))));exact cJ _ (inr ⟨_,bx rfl,hk (i64.wrap (qp+1)) h⟩)
      exact dy h λn h=>ahD n dA 0 h
   .refine cT (cE 0 _ (di 0 _ (cw _ (dp _ (inl (aA aj λ_ xK HA _=>an ?_))))));refine bh HA λahG _ DG ahH _=>?_;show a6 ah (.loop ?Nm) _ _;have ahI:∀n sR,w5 I n sR=some r->cL ah ?Nm ahG (aq [(0,.slice (I.map br)),(5,.int .i64 sR)]):=by
     refine cY λ_ ahJ sR h=>cV DG λ_ NW Ux ahK=>aA Ux λ_ NX _ ahL=>an ?_;refine aO h (λNY h=>?_) λNY h=>?_
     .refine aS (NX _ (inl (aA Ux λ_ ahM ahN _=>bh ahN λ_ z4 DD _ _=>?_)));obtain⟨aV,ahO,h⟩:=ar h;obtain⟨bp,NZ,h⟩:=ar h;refine fw ahO (ahA I aV _ NZ) _ ?_;refine an ?_;refine aO h (λN0 h=>?_) λN0 h=>?_
      .exact aT DD [.bool false]
      .refine aS (z4 _ (ahM _ (inl (dG ?_))));exact NW _ (inr ⟨_,bx rfl,ahJ (i64.wrap (sR+1)) h⟩)
     .exact cT (ahL 4 _ (ahK 4 _ (ahH _ (xK _ (inl (aT aj [.bool true]))))))
    exact dy h λn h=>ahI n 0 h
  exact dy h λn h=>hV n 0 h
theorem Uy (I r) (h:w6 I=some r):ba ah 111 [.slice (I.map bd)] (.bool r) []:=by
 refine bF [0] [.tmp 2] Tryz.func111 aer λbw aj bu=>an ?_;refine aA aj λ_ bD bb ai=>an ?_;refine bh bb λeC _ bX bN _=>?_;show a6 ah (.loop ?eA) _ _;have eT:∀n lo,vi I n lo=some r->cL ah ?eA eC (aq [(0,.slice (I.map bd)),(3,.int .i64 lo)]):=by
  refine cY λ_ eH lo h=>cV bX λ_ dJ cm aP=>aA cm λ_ dp _ aV=>an ?_;refine aO h (λcw h=>?_) λcw h=>?_
  .refine aS (dp _ (inl (aA cm λ_ cJ cd _=>bh cd λ_ b1 cz _ _=>?_)));obtain⟨U,dL,h⟩:=ar h;obtain⟨ai,dw,h⟩:=ar h;refine fw dL (nK U 0 63 _ dw) _ ?_;refine aO h (λh8 h=>?_) λh8 h=>?_
   .exact aT cz [.bool false]
   .refine aS (b1 _ (cJ _ (inl (dG ?_))));exact dJ _ (inr ⟨_,bx rfl,eH (i64.wrap (lo+1)) h⟩)
  .exact cT (aV 0 _ (aP 0 _ (bN _ (bD _ (inl (aT aj [.bool true]))))))
 exact dy h λn h=>eT n 0 h
theorem ahP (I r) (h:FR I=some r):ba ah 76 [.ref (fF I)] (.bool r) []:=by
 refine bF [0] [.tmp 2] Tryz.func76 aes λbw aj bu=>an ?_;refine aA aj λ_ bD bb ai=>nf ((I.b7.length:Int)==0) [(0,.ref (fF I)),(18,.bool (((I.b7.length:Int)==0)||(decide (3<(I.b7.length:Int)))))] ?_;refine aO h (λbN h=>?_) λbN h=>?_
 .exact aT bb [.bool false]
 .refine aS (bD _ (inl (aA aj λ_ dp dK _=>an ?_)));refine bh dK λkb _ h2 cw _=>?_;show a6 ah (.loop ?hT) _ _;have hV:∀n dA,y1 I n dA=some r->cL ah ?hT kb (aq [(0,.ref (fF I)),(3,.int .i64 dA)]):=by
   refine cY λ_ hk dA h=>cV h2 λ_ cJ cd di=>aA cd λ_ b1 _ cE=>an ?_;refine aO h (λgp h=>?_) λgp h=>?_
   .refine aS (b1 _ (inl (aA cd λ_ gh gB _=>bh gB λ_ eS el _ _=>?_)));obtain⟨U,cN,h⟩:=ar h;refine c5 cN _ ?_;refine aA el λ_ ju jm _=>?_;obtain⟨ai,fG,h⟩:=ar h;refine agS (nK U.gl 0 (i64.wrap ((I.aC.length:Int)-1)) _ fG) _ ?_;refine aO h (λgn h=>?_) λgn h=>?_
    .exact aT jm [.bool false]
    .refine aS (ju _ (inl ?_));obtain⟨aB,k1,h⟩:=ar h;rcases dH h with⟨ir,h⟩|⟨ir,h⟩
     .refine qH (aa k1 ir) _ ?_;refine iE rfl ?_;exact aT el [.bool false]
     .obtain⟨a7,lS,h⟩:=ar h;refine mg (aa k1 ir) (Uy U.e7 _ lS) _ ?_;refine aO h (λjv h=>?_) λjv h=>?_
      .exact aT el [.bool false]
      .refine aS (eS _ (gh _ (inl (dG ?_))));exact cJ _ (inr ⟨_,bx rfl,hk (i64.wrap (dA+1)) h⟩)
   .exact cT (cE 0 _ (di 0 _ (cw _ (dp _ (inl (aT aj [.bool true]))))))
  exact dy h λn h=>hV n 0 h
theorem qL (I r) (h:sS I=some r):ba ah 112 [.str I] (.bool r) []:=by
 refine bF [0] [.tmp 2] Tryz.func112 aet λbw aj bu=>an ?_;obtain⟨U,aY,h⟩:=ar h;refine du (b5 [(2,.bool (U&&(!(I==([116,97,117]:arE)))))] (λP aX=>?_) ?_)
 .rcases Bool.eq_false_or_eq_true (U)with lD|lD
  ·(try simp only[aR.down,simprocAttr,lD]);refine d_ (Dw I _ aY) (hK:= ?_);simp only[aR.down,simprocAttr,lD];exact bR lD
  ·(try simp only[aR.down,simprocAttr,lD]);refine d_ (Dw I _ aY) (hK:= ?_);simp only[aR.down,simprocAttr,lD];exact bR lD
 exact dV aj [.bool (U&&(!(I==([116,97,117]:arE))))]
theorem ahQ (I r) (h:FT I=some r):ba ah 77 [.slice (I.map bL)] (.bool r) []:=by
 refine bF [0] [.tmp 2] Tryz.func77 aeu λbw aj bu=>an ?_;refine aA aj λ_ bD bb ai=>an ?_;refine aO h (λbN h=>?_) λbN h=>?_
 .exact aT bb [.bool false]
 .refine aS (bD _ (inl (aA aj λ_ dp dK aV=>an ?_)));refine bh dK λkb _ h2 cw _=>?_;show a6 ah (.loop ?hT) _ _;have hV:∀n dA,rF I n dA=some r->cL ah ?hT kb (aq [(0,.slice (I.map bL)),(3,.int .i64 dA)]):=by
   refine cY λHy hk dA h=>cV h2 λ_ cJ cd di=>aA cd λ_ b1 _ cE=>an ?_;refine aO h (λgp h=>?_) λgp h=>?_
   .refine aS (b1 _ (inl (aA cd λ_ gh gB _=>bh gB λ_ eS el _ _=>?_)));obtain⟨U,cN,h⟩:=ar h;refine c5 cN _ ?_;refine aA el λ_ ju jm _=>?_;obtain⟨ai,fG,h⟩:=ar h;rcases dH h with⟨gn,h⟩|⟨gn,h⟩
    .refine fw (hz gn) (qL U.Left _ fG) _ ?_;refine iE rfl ?_;exact aT jm [.bool false]
    .obtain⟨aB,fq,h⟩:=ar h;rcases dH h with⟨fc,h⟩|⟨fc,h⟩
     .refine du (b5 [(0,.slice (I.map bL)),(3,.int .i64 dA),(4,.aG (bL U)),(41,.bool true)] (λP aX=>?_) ?_)
      ·(try simp only[aR.down,simprocAttr,(bV gn),(hz fc)]);refine d_ (qL U.Left _ fG) (hK:= ?_);simp only[aR.down,simprocAttr,(bV gn),(hz fc)];refine ij (qL U.ct _ fq) (hK:= ?_);simp only[aR.down,simprocAttr,(bV gn),(hz fc)];exact bR (aa (bV gn) (hz fc))
      refine iE rfl ?_;exact aT jm [.bool false]
     .obtain⟨a7,hJ,h⟩:=ar h;refine du (b5 [(0,.slice (I.map bL)),(3,.int .i64 dA),(4,.aG (bL U)),(41,.bool ((!a7)||(!(Op.bytesLess U.Left U.ct||U.Left==U.ct))))] (λP aX=>?_) ?_)
      .rcases Bool.eq_false_or_eq_true (a7)with rR|rR
       ·(try simp only[aR.down,simprocAttr,(bV gn),(bV fc),rR]);refine d_ (qL U.Left _ fG) (hK:= ?_);simp only[aR.down,simprocAttr,(bV gn),(bV fc),rR];refine ij (qL U.ct _ fq) (hK:= ?_);simp only[aR.down,simprocAttr,(bV gn),(bV fc),rR];refine ij (qL U.Result _ hJ) (hK:= ?_);simp only[aR.down,simprocAttr,(bV gn),(bV fc),rR];exact bR (aa (bV gn) (aa (bV fc) rR))
       ·(try simp only[aR.down,simprocAttr,(bV gn),(bV fc),rR]);refine d_ (qL U.Left _ fG) (hK:= ?_);simp only[aR.down,simprocAttr,(bV gn),(bV fc),rR];refine ij (qL U.ct _ fq) (hK:= ?_);simp only[aR.down,simprocAttr,(bV gn),(bV fc),rR];refine ij (qL U.Result _ hJ) (hK:= ?_);simp only[aR.down,simprocAttr,(bV gn),(bV fc),rR];exact bR (aa (bV gn) (aa (bV fc) rR))
      refine aO h (λjv h=>?_) λjv h=>?_
      .exact aT jm [.bool false]
      .refine aS (ju _ (inl (aA el λ_ oY z3 _=>?_)));rcases dH h with⟨iS,h⟩|⟨iS,h⟩
       .obtain⟨aP,oZ,h⟩:=ar h;refine ko rfl (h0 [(0,.slice (I.map bL)),(3,.int .i64 dA),(4,.aG (bL U)),(76,.bool ((!(Op.bytesLess aP.Left U.Left||aP.Left==U.Left))||((aP.Left==U.Left)&&(!(Op.bytesLess aP.ct U.ct)))))] (λP aX=>?_) ?_)
        ·(rcases Bool.eq_false_or_eq_true (Op.bytesLess aP.Left U.Left)with N1|N1)<;>(rcases Bool.eq_false_or_eq_true (aP.Left==U.Left)with N2|N2)<;>
          (simp only[cM.down,simprocAttr,iS,oZ,N1,N2]
           refine⟨hc (by kernel_rfl),?_⟩;exact bR (aa iS (aa oZ (aa N1 N2))))
        refine aO h (λNV h=>?_) λNV h=>?_
        .exact aT z3 [.bool false]
        .refine aS (oY _ (inl (an ?_)));refine bh el λahR _ N3 NP _=>?_;show a6 ah (.loop ?Dn) _ _;have N4:∀n mF m7,tK (rF I Hy) I U n mF m7=some r->cL ah ?Dn ahR (aq [(0,.slice (I.map bL)),(3,.int .i64 mF),(4,.aG (bL U)),(5,.int .i64 m7)]):=by
          refine cY λahS N5 mF m7 h=>cV N3 λ_ xK HA N6=>aA HA λ_ ahT _ ahU=>an ?_;refine aO h (λahV h=>?_) λahV h=>?_
          .refine aS (ahT _ (inl (aA HA λ_ NX N7 _=>bh N7 λ_ N8 HB _ _=>?_)));obtain⟨aV,vz,h⟩:=ar h;refine Uj (aV.Left==U.Result) vz [(0,.slice (I.map bL)),(3,.int .i64 mF),(4,.aG (bL U)),(5,.int .i64 m7),(100,.bool ((aV.Left==U.Result)||(aV.ct==U.Result)))] ?_;refine aO h (λDH h=>?_) λDH h=>?_
           .exact aT HB [.bool false]
           .refine aS (N8 _ (NX _ (inl (dG ?_))));exact xK _ (inr ⟨_,bx rfl,N5 mF (i64.wrap (m7+1)) h⟩)
          .refine cT (ahU 2 _ (N6 2 _ (NP _ (eS _ (gh _ (inl (dG ?_)))))));exact cJ _ (inr ⟨_,bx rfl,hk (i64.wrap (mF+1)) h⟩)
         exact dy h λn h=>N4 n dA 0 h
       .refine qH iS _ ?_;refine m3 rfl ?_;refine aS (oY _ (inl (an ?_)));refine bh el λahW _ ahX N0 _=>?_;show a6 ah (.loop ?Dn) _ _;have N4:∀n mF m7,tK (rF I Hy) I U n mF m7=some r->cL ah ?Dn ahW (aq [(0,.slice (I.map bL)),(3,.int .i64 mF),(4,.aG (bL U)),(5,.int .i64 m7)]):=by
         refine cY λahS N5 mF m7 h=>cV ahX λ_ ahY Uz ahZ=>aA Uz λ_ ah0 _ ah1=>an ?_;refine aO h (λNS h=>?_) λNS h=>?_
         .refine aS (ah0 _ (inl (aA Uz λ_ N9 ah2 _=>bh ah2 λ_ ah3 ah4 _ _=>?_)));obtain⟨bp,N_,h⟩:=ar h;refine Uj (bp.Left==U.Result) N_ [(0,.slice (I.map bL)),(3,.int .i64 mF),(4,.aG (bL U)),(5,.int .i64 m7),(100,.bool ((bp.Left==U.Result)||(bp.ct==U.Result)))] ?_;refine aO h (λNT h=>?_) λNT h=>?_
          .exact aT ah4 [.bool false]
          .refine aS (ah3 _ (N9 _ (inl (dG ?_))));exact ahY _ (inr ⟨_,bx rfl,N5 mF (i64.wrap (m7+1)) h⟩)
         .refine cT (ah1 2 _ (ahZ 2 _ (N0 _ (eS _ (gh _ (inl (dG ?_)))))));exact cJ _ (inr ⟨_,bx rfl,hk (i64.wrap (mF+1)) h⟩)
        exact dy h λn h=>N4 n dA 0 h
   .exact cT (cE 0 _ (di 0 _ (cw _ (dp _ (inl (aT aj [.bool true]))))))
  exact dy h λn h=>hV n 0 h
theorem ah5 (I r) (h:FU I=some r):ba ah 113 [.slice (I.map bj)] (.bool r) []:=by
 refine bF [0] [.tmp 2] Tryz.func113 aev λbw aj bu=>an ?_;refine aA aj λ_ bD bb ai=>an ?_;refine bh bb λeC _ bX bN _=>?_;show a6 ah (.loop ?eA) _ _;have eT:∀n lo,y2 I n lo=some r->cL ah ?eA eC (aq [(0,.slice (I.map bj)),(3,.int .i64 lo)]):=by
  refine cY λ_ eH lo h=>cV bX λ_ dJ cm aP=>aA cm λ_ dp _ aV=>an ?_;refine aO h (λcw h=>?_) λcw h=>?_
  .refine aS (dp _ (inl (aA cm λ_ cJ cd _=>bh cd λ_ b1 cz _ _=>?_)));obtain⟨U,dL,h⟩:=ar h;obtain⟨ai,dw,h⟩:=ar h;refine fw dL (qL U _ dw) _ ?_;refine aO h (λh8 h=>?_) λh8 h=>?_
   .exact aT cz [.bool false]
   .refine aS (b1 _ (cJ _ (inl (dG ?_))));exact dJ _ (inr ⟨_,bx rfl,eH (i64.wrap (lo+1)) h⟩)
  .exact cT (aV 0 _ (aP 0 _ (bN _ (bD _ (inl (aT aj [.bool true]))))))
 exact dy h λn h=>eT n 0 h
theorem UA (I r) (h:Cm I=some r):ba ah 78 [.slice (I.map bj)] (.bool r) []:=by
 refine bF [0] [.tmp 2] Tryz.func78 aew λbw aj bu=>an ?_;refine aA aj λ_ bD bb ai=>?_;rcases dH h with⟨bN,h⟩|⟨bN,h⟩
 .refine c5 bN _ ?_;refine iE rfl ?_;exact aT bb [.bool false]
 .obtain⟨U,cj,h⟩:=ar h;refine fw bN (ah5 I _ cj) _ ?_;refine aO h (λpj h=>?_) λpj h=>?_
  .exact aT bb [.bool false]
  .refine aS (bD _ (inl (aA aj λ_ cJ cd _=>an ?_)));refine bh cd λz6 _ gM jV _=>?_;show a6 ah (.loop ?hT) _ _;have hV:∀n dA,qq I n dA=some r->cL ah ?hT z6 (aq [(0,.slice (I.map bj)),(3,.int .i64 dA)]):=by
    refine cY λ_ hk dA h=>cV gM λ_ gI kL gx=>aA kL λ_ gh _ eK=>an ?_;refine aO h (λfp h=>?_) λfp h=>?_
    .refine aS (gh _ (inl (aA kL λ_ jG kZ _=>bh kZ λ_ ju jm _ _=>?_)));obtain⟨ai,fG,h⟩:=ar h;obtain⟨aB,hn,h⟩:=ar h;refine qH (aa fG hn) _ ?_;refine aO h (λrS h=>?_) λrS h=>?_
     .exact aT jm [.bool false]
     .refine aS (ju _ (jG _ (inl (dG ?_))));exact gI _ (inr ⟨_,bx rfl,hk (i64.wrap (dA+1)) h⟩)
    .exact cT (eK 0 _ (gx 0 _ (jV _ (cJ _ (inl (aT aj [.bool true]))))))
   exact dy h λn h=>hV n 1 h
theorem ah6 (I r) (h:FW I=some r):ba ah 44 [.ref (fF I)] (.int .i64 r) []:=by
 refine bF [0] [.tmp 2] Tryz.func44 Dn λbw aj bu=>an ?_;refine aA aj λ_ bD bb ai=>?_;obtain⟨U,bT,h⟩:=ar h;refine dC (ahB I.aC _ bT) _ ?_;refine aO h (λcS h=>?_) λcS h=>?_
 .exact aT bb [.int .i64 1]
 .refine aS (bD _ (inl (aA aj λ_ dR e6 _=>?_)));obtain⟨ai,ie,h⟩:=ar h;refine dC (ahP I _ ie) _ ?_;refine aO h (λfU h=>?_) λfU h=>?_
  .exact aT e6 [.int .i64 2]
  .refine aS (dR _ (inl (aA aj λ_ gI kL _=>?_)));obtain⟨aB,dQ,h⟩:=ar h;refine dC (ahQ I.hA _ dQ) _ ?_;refine aO h (λfp h=>?_) λfp h=>?_
   .exact aT kL [.int .i64 3]
   .refine aS (gI _ (inl (aA aj λ_ ju jm _=>?_)));obtain⟨a7,fG,h⟩:=ar h;refine dC (UA I.hg _ fG) _ ?_;refine aO h (λgn h=>?_) λgn h=>?_
    .exact aT jm [.int .i64 4]
    .refine aS (ju _ (inl (aA aj λ_ mh mJ _=>?_)));obtain⟨aP,jH,h⟩:=ar h;refine dC (UA I.hh _ jH) _ ?_;refine aO h (λoo h=>?_) λoo h=>?_
     .exact aT mJ [.int .i64 5]
     .exact aS (mh _ (inl (aT aj [.int .i64 0])))
theorem ah7 (I r) (h:FX I=some r):ba ah 17 [.ref (fF I)] (.bool r) []:=by
 refine bF [0] [.tmp 2] Tryz.func17 aex λbw aj bu=>an ?_;obtain⟨U,aY,h⟩:=ar h;refine dC (ah6 I _ aY) _ ?_;exact dV aj [.bool (U==0)]
theorem ah8 (I r) (h:FY I=some r):ba ah 45 [.ref (fF I)] (.af 1 (r.map h7)) []:=by
 refine bF [0] [.tmp 2] Tryz.func45 aey λbw aj bu=>an ?_;refine c5 (show∀s,dz ah s 85 0 []=some (.af 1 [],s)from λs=>by kernel_rfl) _ ?_;refine aA aj λ_ fk dt aB=>an ?_;refine bh dt λmi _ cm cS _=>?_;show a6 ah (.loop ?hx) _ _;have hU:∀n bA bS,tL I n bA bS=some r->cL ah ?hx mi (aq [(0,.ref (fF I)),(3,.af 1 (bA.map h7)),(4,.int .i64 bS)]):=by
  refine cY λjA hI bA bS h=>cV cm λ_ dp dK aV=>aA dK λ_ dR _ bp=>an ?_;refine aO h (λfh h=>?_) λfh h=>?_
  .refine aS (dR _ (inl (aA dK λ_ b1 cz _=>bh cz λ_ eX gM _ _=>?_)));obtain⟨U,dw,h⟩:=ar h;refine c5 dw _ ?_;obtain⟨u32,eg,h⟩:=ar h;(try simp only[hj.down,Nat.zero_add,Nat.add_zero,reduceAdd]at eg);refine du (b5 [(0,.ref (fF I)),(3,.af 1 ((bA++[[bS,0]]).map h7)),(4,.int .i64 bS),(5,.slice (U.Body.map c2))] (λP aX=>?_) ?_)
   .simp only[aR.down,simprocAttr,(show∀s,dz ah s 29 2 [(0,.int .i64 bS),(1,.int .i64 0)]=some (.af 1 [.int .i64 bS,.int .i64 0],s)from λs=>by kernel_rfl),vt.down,eZ,cH,eg];(try simp only[gH.down,simprocAttr,(show∀s,dz ah s 29 2 [(0,.int .i64 bS),(1,.int .i64 0)]=some (.af 1 [.int .i64 bS,.int .i64 0],s)from λs=>by kernel_rfl),vt.down,eZ,cH,eg]at aX⊢);exact aX
   refine ws [(0,.ref (fF I)),(3,.af 1 ((bA++[[bS,0]]).map h7)),(4,.int .i64 bS),(5,.slice (U.Body.map c2)),(6,.int .i64 1)] ?_;refine bh gM λDz _ jm hC _=>?_;show a6 ah (.loop ?Nn) _ _;have ah9:∀n nB kX kG,vj (tL I jA) I U n nB kX kG=some r->cL ah ?Nn Dz (aq [(0,.ref (fF I)),(3,.af 1 (nB.map h7)),(4,.int .i64 kX),(5,.slice (U.Body.map c2)),(6,.int .i64 kG)]):=by
    refine cY λah_ aia nB kX kG h=>cV jm λaib qM rT i3=>aA rT λ_ ng _ me=>an ?_;refine aO h (λrS h=>?_) λrS h=>?_
    .refine aS (ng _ (inl ?_));show a6 ah (.seq _ ?Dq) _ _;have vA:∀py pz y3,Cn (tL I jA) (vj (tL I jA) I U ah_) I U py pz y3=some r->a6 ah ?Dq aib (aq [(0,.ref (fF I)),(3,.af 1 (py.map h7)),(4,.int .i64 pz),(5,.slice (U.Body.map c2)),(6,.int .i64 y3)]):=by
      intro py pz y3 h;refine dG ?_;exact qM _ (inr ⟨_,bx rfl,aia py pz (i64.wrap (y3+1)) h⟩)
     refine aA rT λ_ mh mJ _=>bh mJ λ_ pX _ _ _=>?_;obtain⟨ai,lS,h⟩:=ar h;rcases dH h with⟨jv,h⟩|⟨jv,h⟩
     .obtain⟨aB,qN,h⟩:=ar h;refine c5 (aa lS (aa jv qN)) _ ?_;refine aO h (λjW h=>?_) λjW h=>?_
      .obtain⟨aic,h9,h⟩:=ar h;(try simp only[hj.down,Nat.zero_add,Nat.add_zero,reduceAdd]at h9);refine h5 (b5 [(0,.ref (fF I)),(3,.af 1 ((nB++[[kX,kG]]).map h7)),(4,.int .i64 kX),(5,.slice (U.Body.map c2)),(6,.int .i64 kG)] (λP aX=>?_) ?_)
       .simp only[aR.down,simprocAttr,(show∀s,dz ah s 29 2 [(0,.int .i64 kX),(1,.int .i64 kG)]=some (.af 1 [.int .i64 kX,.int .i64 kG],s)from λs=>by kernel_rfl),vt.down,eZ,cH,h9];(try simp only[gH.down,simprocAttr,(show∀s,dz ah s 29 2 [(0,.int .i64 kX),(1,.int .i64 kG)]=some (.af 1 [.int .i64 kX,.int .i64 kG],s)from λs=>by kernel_rfl),vt.down,eZ,cH,h9]at aX⊢);exact aX
       exact pX _ (mh _ (inr ⟨_,bx rfl,vA (nB++[[kX,kG]]) kX kG h⟩))
      .exact aS (pX _ (mh _ (inr ⟨_,bx rfl,vA nB kX kG h⟩)))
     .refine c5 (aa lS jv) _ ?_;refine m3 rfl ?_;exact aS (pX _ (mh _ (inr ⟨_,bx rfl,vA nB kX kG h⟩)))
    .refine cT (me 2 _ (i3 2 _ (hC _ (eX _ (b1 _ (inl (dG ?_)))))));exact dp _ (inr ⟨_,bx rfl,hI nB (i64.wrap (kX+1)) h⟩)
   exact dy h λn h=>ah9 n (bA++[[bS,0]]) bS 1 h
  .exact cT (bp 0 _ (aV 0 _ (cS _ (fk _ (inl (aT aj [.af 1 (bA.map h7)]))))))
 exact dy h λn h=>hU n [] 0 h
theorem aid (I r) (h:FZ I=some r):ba ah 79 [.int .i64 I] (.int .i64 r) []:=by
 refine bF [0] [.tmp 2] Tryz.func79 aez λbw aj bu=>an ?_;refine aA aj λ_ bD bb _=>an ?_;refine bh bb λeC gg bX _ _=>?_;show a6 ah (.seq _ ?Dr) _ _;have ub:∀Cp,Lp I Cp=some r->a6 ah ?Dr eC (aq [(3,.int .i64 I),(4,.bool Cp)]):=by
  intro Cp h;refine aO h (λeL h=>?_) λeL h=>?_
  .exact aT bX [.int .i64 0]
  .refine an ?_;refine aO h (λfh h=>?_) λfh h=>?_
   .exact aT bX [.int .i64 2]
   .exact aS (gg _ (bD _ (inl (aT aj [.int .i64 1]))))
 refine aA bX λ_ dJ _ _=>an ?_;refine aO h (λg5 h=>?_) λg5 h=>?_
 .simp only[g5,z0.down];exact aS (dJ _ (inr ⟨_,bx rfl,ub true h⟩))
 .refine dG ?_;exact dJ _ (inr ⟨_,bx rfl,ub (I==5) h⟩)
theorem DI (I R r) (h:vk I R=some r):ba ah 49 [.slice (I.map c2),.int .i64 R] (.int .i64 r) []:=by
 refine bF [0] [.tmp 4] Tryz.func49 aeA λbw aj bu=>an ?_;refine an ?_;refine aA aj λ_ fk dt _=>bh dt λeC _ bX bN _=>?_;show a6 ah (.loop ?eA) _ _;have eT:∀n a1 aL,y4 I n a1 aL=some r->cL ah ?eA eC (aq [(0,.slice (I.map c2)),(1,.int .i64 a1),(5,.int .i64 aL)]):=by
  refine cY λ_ eH a1 aL h=>cV bX λ_ dJ cm aP=>aA cm λ_ dp _ aV=>an ?_;refine aO h (λcw h=>?_) λcw h=>?_
  .refine aS (dp _ (inl (bh cm λ_ cJ _ _ _=>?_)));obtain⟨U,mX,h⟩:=ar h;obtain⟨ai,dL,h⟩:=ar h;refine fw mX (aid U.Kind _ dL) _ ?_;refine dG ?_;exact cJ _ (dJ _ (inr ⟨_,bx rfl,eH (i64.wrap (a1+1)) (i64.wrap (aL+(i64.wrap (ai-1)))) h⟩))
  .exact cT (aV 0 _ (aP 0 _ (bN _ (fk _ (inl (aT aj [.int .i64 a1]))))))
 exact dy h λn h=>eT n R 1 h
theorem UB (I R r) (h:Cr I R=some r):ba ah 47 [.ref (br I),.int .i64 R] (.int .i64 r) []:=by
 refine bF [0,1] [.tmp 4] Tryz.func47 aeB λbw aj bu=>an ?_;refine an ?_;refine aA aj λ_ fk dt _=>an ?_;refine bh dt λmi _ cm cS _=>?_;show a6 ah (.loop ?hx) _ _;have hU:∀n gm ix,w7 I R n gm ix=some r->cL ah ?hx mi (aq [(0,.ref (br I)),(1,.int .i64 R),(5,.int .i64 gm),(6,.int .i64 ix)]):=by
  refine cY λjA hI gm ix h=>cV cm λjl dp dK aV=>aA dK λ_ dR _ bp=>an ?_;refine aO h (λfh h=>?_) λfh h=>?_
  .refine aS (dR _ (inl ?_));show a6 ah (.seq _ ?xD) _ _;have xG:∀pt pv,Cq (w7 I R jA) I R pt pv=some r->a6 ah ?xD jl (aq [(0,.ref (br I)),(1,.int .i64 R),(5,.int .i64 pt),(6,.int .i64 pv)]):=by
    intro pt pv h;refine dG ?_;exact dp _ (inr ⟨_,bx rfl,hI pt (i64.wrap (pv+1)) h⟩)
   refine aA dK λ_ b1 cz _=>bh cz λ_ gI _ _ _=>?_;obtain⟨U,dQ,h⟩:=ar h;rcases dH h with⟨fp,h⟩|⟨fp,h⟩
   .obtain⟨ai,cN,h⟩:=ar h;refine fw (aa dQ fp) (DI I.Body ix _ cN) _ ?_;refine aO h (λhC h=>?_) λhC h=>?_
    .refine dG ?_;exact gI _ (b1 _ (inr ⟨_,bx rfl,xG (i64.wrap (gm+1)) ix h⟩))
    .exact aS (gI _ (b1 _ (inr ⟨_,bx rfl,xG gm ix h⟩)))
   .refine c5 (aa dQ fp) _ ?_;refine m3 rfl ?_;exact aS (gI _ (b1 _ (inr ⟨_,bx rfl,xG gm ix h⟩)))
  .exact cT (bp 0 _ (aV 0 _ (cS _ (fk _ (inl (aT aj [.int .i64 gm]))))))
 exact dy h λn h=>hU n I.bW 0 h
theorem aie (I R r) (h:Ls I R=some r):ba ah 46 [.int .i64 I,.int .i64 R] (.int .i64 r) []:=by
 refine bF [0,1] [.tmp 4] Tryz.func46 Ng λbw aj bu=>an ?_;refine aA aj λ_ bD bb _=>an ?_;refine aO h (λbN h=>?_) λbN h=>?_
 .exact aT bb [.int .i64 I]
 .exact aS (bD _ (inl (aT aj [.int .i64 R])))
theorem Oa (I R aM r) (h:y5 I R aM=some r):ba ah 48 [.slice (I.map c3),.int .i64 R,.int .i64 aM] (.int .i64 r) []:=by
 refine bF [0,1,2] [.tmp 6] Tryz.func48 aeC λbw aj bu=>an ?_;refine aA aj λ_ bD bb ai=>an ?_;refine bh bb λeC _ bX bN _=>?_;show a6 ah (.loop ?eA) _ _;have eT:∀n dW,Cs I R aM n dW=some r->cL ah ?eA eC (aq [(0,.slice (I.map c3)),(1,.int .i64 R),(2,.int .i64 aM),(7,.int .i64 dW)]):=by
  refine cY λ_ eH dW h=>cV bX λ_ dJ cm aP=>aA cm λ_ dp _ aV=>an ?_;refine aO h (λcw h=>?_) λcw h=>?_
  .refine aS (dp _ (inl (aA cm λ_ cJ cd _=>bh cd λ_ b1 cz _ _=>?_)));obtain⟨U,dL,h⟩:=ar h;obtain⟨ai,dw,h⟩:=ar h;rcases dH h with⟨h8,h⟩|⟨h8,h⟩
   .obtain⟨aB,eg,h⟩:=ar h;refine c5 (aa dL (aa dw (aa h8 eg))) _ ?_;refine aO h (λjI h=>?_) λjI h=>?_
    .exact aT cz [.int .i64 dW]
    .refine aS (b1 _ (cJ _ (inl (dG ?_))));exact dJ _ (inr ⟨_,bx rfl,eH (i64.wrap (dW+1)) h⟩)
   .refine c5 (aa dL (aa dw h8)) _ ?_;refine m3 rfl ?_;refine aS (b1 _ (cJ _ (inl (dG ?_))));exact dJ _ (inr ⟨_,bx rfl,eH (i64.wrap (dW+1)) h⟩)
  .exact cT (aV 0 _ (aP 0 _ (bN _ (bD _ (inl (aT aj [.int .i64 0]))))))
 exact dy h λn h=>eT n 0 h
theorem UC (I R r) (h:F1 I R=some r):ba ah 84 [.slice (I.map bd),.int .i64 R] (.bool r) []:=by
 refine bF [0,1] [.tmp 4] Tryz.func84 aeD λbw aj bu=>an ?_;rcases dH h with⟨lB,h⟩|⟨lB,h⟩
 .obtain⟨U,bT,h⟩:=ar h;refine fw lB (Uy I _ bT) _ ?_;exact dV aj [.bool U]
 .refine c5 lB _ ?_;exact dV aj [.bool false]
theorem aif (I r) (h:F2 I=some r):ba ah 115 [.slice (I.map bd)] (.int .i64 r) []:=by
 refine bF [0] [.tmp 2] Tryz.func115 aeE λbw aj bu=>an ?_;refine aA aj λ_ bD bb ai=>an ?_;refine aO h (λbN h=>?_) λbN h=>?_
 .exact aT bb [.int .i64 0]
 .refine aS (bD _ (inl (an ?_)));refine aA aj λ_ dR e6 _=>an ?_;refine bh e6 λkJ _ cd fh _=>?_;show a6 ah (.loop ?jj) _ _;have j_:∀n hG h6,y6 I n hG h6=some r->cL ah ?jj kJ (aq [(0,.slice (I.map bd)),(3,.int .i64 hG),(4,.int .i64 h6)]):=by
   refine cY λ_ ka hG h6 h=>cV cd λ_ b1 cz cE=>aA cz λ_ eX _ de=>an ?_;refine aO h (λg5 h=>?_) λg5 h=>?_
   .refine aS (eX _ (inl (aA cz λ_ eS el _=>bh el λ_ hd im _ _=>aA im λ_ jG kZ _=>?_)));obtain⟨U,fy,h⟩:=ar h;obtain⟨ai,fG,h⟩:=ar h;refine fw fy (nK U 1 7 _ fG) _ ?_;refine aO h (λgn h=>?_) λgn h=>?_
    .exact aT kZ [.int .i64 0]
    .refine aS (jG _ (inl (qG fy _ ?_)));refine hd _ (eS _ (inl (dG ?_)));exact b1 _ (inr ⟨_,bx rfl,ka (i64.wrap (hG*(i64.wrap (U+1)))) (i64.wrap (h6+1)) h⟩)
   .refine cT (de 0 _ (cE 0 _ (fh _ (dR _ (inl (aA aj λ_ pX qO _=>an ?_))))));refine aO h (λhL h=>?_) λhL h=>?_
    .exact aT qO [.int .i64 0]
    .exact aS (pX _ (inl (aT aj [.int .i64 hG])))
  exact dy h λn h=>j_ n 1 0 h
theorem z7 (I R r) (h:w8 I R=some r):ba ah 117 [.slice (I.map cy),.int .i64 R] (.bool r) []:=by
 refine bF [0,1] [.tmp 4] Tryz.func117 aeF λbw aj bu=>an ?_;refine aA aj λ_ bD bb ai=>an ?_;refine bh bb λeC _ bX bN _=>?_;show a6 ah (.loop ?eA) _ _;have eT:∀n aL,Ct I R n aL=some r->cL ah ?eA eC (aq [(0,.slice (I.map cy)),(1,.int .i64 R),(5,.int .i64 aL)]):=by
  refine cY λ_ eH aL h=>cV bX λ_ dJ cm aP=>aA cm λ_ dp _ aV=>an ?_;refine aO h (λcw h=>?_) λcw h=>?_
  .refine aS (dp _ (inl (aA cm λ_ cJ cd _=>bh cd λ_ b1 cz _ _=>?_)));obtain⟨U,dL,h⟩:=ar h;obtain⟨ai,dw,h⟩:=ar h;refine fw dL (Hv U R 60 _ dw) _ ?_;refine aO h (λh8 h=>?_) λh8 h=>?_
   .exact aT cz [.bool false]
   .refine aS (b1 _ (cJ _ (inl (dG ?_))));exact dJ _ (inr ⟨_,bx rfl,eH (i64.wrap (aL+1)) h⟩)
  .exact cT (aV 0 _ (aP 0 _ (bN _ (bD _ (inl (aT aj [.bool true]))))))
 exact dy h λn h=>eT n 0 h
theorem aih (I R r) (h:F3 I R=some r):ba ah 85 [.ref (fL I),.int .i64 R] (.bool r) []:=by
 refine bF [0,1] [.tmp 4] Tryz.func85 aeI λbw aj bu=>an ?_;refine aA aj λ_ bD bb ai=>?_;obtain⟨U,bT,h⟩:=ar h;refine dC (aif I.cx _ bT) _ ?_;refine aO h (λcS h=>?_) λcS h=>?_
 .exact aT bb [.bool false]
 .refine aS (bD _ (inl (an ?_)));refine aA aj λ_ gT h2 _=>?_;obtain⟨ai,jz,h⟩:=ar h;refine du (b5 [(0,.ref (fL I)),(5,.int .i64 (i64.wrap (R+(I.cx.length:Int)))),(34,.bool ((!ai)||((I.Next.length:Int) !=R)))] (λP aX=>?_) ?_)
  .rcases Bool.eq_false_or_eq_true (ai)with qP|qP
   ·(try simp only[aR.down,simprocAttr,qP]);refine d_ (Hv I.Guard (i64.wrap (R+(I.cx.length:Int))) 60 _ jz) (hK:= ?_);simp only[aR.down,simprocAttr,qP];exact bR qP
   ·(try simp only[aR.down,simprocAttr,qP]);refine d_ (Hv I.Guard (i64.wrap (R+(I.cx.length:Int))) 60 _ jz) (hK:= ?_);simp only[aR.down,simprocAttr,qP];exact bR qP
  refine aO h (λgp h=>?_) λgp h=>?_
  .exact aT h2 [.bool false]
  .refine aS (gT _ (inl (aA aj λ_ eS el _=>?_)));rcases dH h with⟨jI,h⟩|⟨jI,h⟩
   .rcases dH h with⟨hC,h⟩|⟨hC,h⟩
    .refine c5 (aa jI hC) _ ?_;refine iE rfl ?_;exact aT el [.bool false]
    .refine c5 (aa jI hC) _ ?_;refine aO h (λiq h=>?_) λiq h=>?_
     .exact aT el [.bool false]
     .refine aS (eS _ (inl ?_));obtain⟨aB,fq,h⟩:=ar h;rcases dH h with⟨fc,h⟩|⟨fc,h⟩
      .obtain⟨a7,jH,h⟩:=ar h;refine du (b5 [(4,.bool a7)] (λP aX=>?_) ?_)
       ·(try simp only[aR.down,simprocAttr,fc]);refine d_ (z7 I.a9 (i64.wrap (R+(I.cx.length:Int))) _ fq) (hK:= ?_);simp only[aR.down,simprocAttr,fc];refine ij (z7 I.Next (i64.wrap (R+(I.cx.length:Int))) _ jH) (hK:= ?_);simp only[aR.down,simprocAttr,fc];exact bR fc
       exact dV aj [.bool a7]
      .refine fw fc (z7 I.a9 (i64.wrap (R+(I.cx.length:Int))) _ fq) _ ?_;exact dV aj [.bool false]
   .obtain⟨aP,hJ,h⟩:=ar h;rcases dH h with⟨hL,h⟩|⟨hL,h⟩
    .refine fw (aa jI (hz hL)) (qL I.Name _ hJ) _ ?_;refine iE rfl ?_;exact aT el [.bool false]
    .refine fw (aa jI (bV hL)) (qL I.Name _ hJ) _ ?_;refine aO h (λkv h=>?_) λkv h=>?_
     .exact aT el [.bool false]
     .refine aS (eS _ (inl ?_));obtain⟨aV,h9,h⟩:=ar h;rcases dH h with⟨qK,h⟩|⟨qK,h⟩
      .obtain⟨bp,mj,h⟩:=ar h;refine du (b5 [(4,.bool bp)] (λP aX=>?_) ?_)
       ·(try simp only[aR.down,simprocAttr,qK]);refine d_ (z7 I.a9 (i64.wrap (R+(I.cx.length:Int))) _ h9) (hK:= ?_);simp only[aR.down,simprocAttr,qK];refine ij (z7 I.Next (i64.wrap (R+(I.cx.length:Int))) _ mj) (hK:= ?_);simp only[aR.down,simprocAttr,qK];exact bR qK
       exact dV aj [.bool bp]
      .refine fw qK (z7 I.a9 (i64.wrap (R+(I.cx.length:Int))) _ h9) _ ?_;exact dV aj [.bool false]
theorem aii (I r) (h:Cv I=some r):ba ah 52 [.ref (lQ I)] (.bool r) []:=by
 refine bF [0] [.tmp 2] Tryz.func52 aeJ λbw aj bu=>an ?_;refine aA aj λ_ bD bb ai=>?_;obtain⟨U,bT,h⟩:=ar h;rcases dH h with⟨cS,h⟩|⟨cS,h⟩
 .refine mg (hz cS) (nK I.bW 0 21 _ bT) _ ?_;refine iE rfl ?_;exact aT bb [.bool false]
 .obtain⟨ai,b0,h⟩:=ar h;refine ko rfl (h0 [(0,.ref (lQ I)),(29,.bool ((!ai)||(decide (60<(I.g3.length:Int)))))] (λP aX=>?_) ?_)
  .rcases Bool.eq_false_or_eq_true (ai)with jt|jt
   ·(try simp only[cM.down,simprocAttr,(bV cS),jt]);refine g1 (nK I.bW 0 21 _ bT) (hK:= ?_);simp only[cM.down,simprocAttr,(bV cS),jt];refine m4 (UC I.Start I.bW _ b0) (hK:= ?_);simp only[cM.down,simprocAttr,(bV cS),jt];refine⟨hc (by kernel_rfl),?_⟩;exact bR (aa (bV cS) jt)
   ·(try simp only[cM.down,simprocAttr,(bV cS),jt]);refine g1 (nK I.bW 0 21 _ bT) (hK:= ?_);simp only[cM.down,simprocAttr,(bV cS),jt];refine m4 (UC I.Start I.bW _ b0) (hK:= ?_);simp only[cM.down,simprocAttr,(bV cS),jt];refine⟨hc (by kernel_rfl),?_⟩;exact bR (aa (bV cS) jt)
  refine aO h (λfh h=>?_) λfh h=>?_
  .exact aT bb [.bool false]
  .refine aS (bD _ (inl (aA aj λ_ eX gM _=>an ?_)));refine bh gM λaij _ gB g5 _=>?_;show a6 ah (.loop ?hT) _ _;have hV:∀n dA,Cu I n dA=some r->cL ah ?hT aij (aq [(0,.ref (lQ I)),(3,.int .i64 dA)]):=by
    refine cY λ_ hk dA h=>cV gB λ_ eS el gA=>aA el λ_ hd _ ik=>an ?_;refine aO h (λhC h=>?_) λhC h=>?_
    .refine aS (hd _ (inl (aA el λ_ qM rT _=>bh rT λ_ ng ua _ _=>?_)));obtain⟨aB,iR,h⟩:=ar h;obtain⟨a7,fq,h⟩:=ar h;refine mg iR (aih aB I.bW _ fq) _ ?_;refine aO h (λfc h=>?_) λfc h=>?_
     .exact aT ua [.bool false]
     .refine aS (ng _ (qM _ (inl (dG ?_))));exact eS _ (inr ⟨_,bx rfl,hk (i64.wrap (dA+1)) h⟩)
    .exact cT (ik 0 _ (gA 0 _ (g5 _ (eX _ (inl (aT aj [.bool true]))))))
   exact dy h λn h=>hV n 0 h
theorem aik (I R aM r) (h:F4 I R aM=some r):ba ah 50 [.slice (I.map c2),.int .i64 R,.int .i64 aM] (.bool r) []:=by
 refine bF [0,1,2] [.tmp 6] Tryz.func50 Nh λbw aj bu=>an ?_;refine aA aj λ_ bD bb ai=>?_;obtain⟨U,bT,h⟩:=ar h;rcases dH h with⟨cS,h⟩|⟨cS,h⟩
 .refine c5 (aa bT cS) _ ?_;refine iE rfl ?_;exact aT bb [.bool false]
 .obtain⟨ai,b0,h⟩:=ar h;refine fw (aa bT cS) (DI I R _ b0) _ ?_;refine aO h (λcw h=>?_) λcw h=>?_
  .exact aT bb [.bool false]
  .refine aS (bD _ (inl (aA aj λ_ b1 cz _=>an ?_)));refine bh cz λxH _ kL gp _=>?_;show a6 ah (.loop ?hT) _ _;have hV:∀n oQ,y7 I aM n oQ=some r->cL ah ?hT xH (aq [(0,.slice (I.map c2)),(2,.int .i64 aM),(7,.int .i64 oQ)]):=by
    refine cY λ_ hk oQ h=>cV kL λ_ gh gB eK=>aA gB λ_ eS _ gA=>an ?_;refine aO h (λjI h=>?_) λjI h=>?_
    .refine aS (eS _ (inl (aA gB λ_ ju jm _=>bh jm λ_ qM rT _ _=>?_)));obtain⟨aB,hn,h⟩:=ar h;rcases dH h with⟨rS,h⟩|⟨rS,h⟩
     .obtain⟨a7,fq,h⟩:=ar h;refine fw (aa hn rS) (DI I oQ _ fq) _ ?_;refine aO h (λfc h=>?_) λfc h=>?_
      .exact aT rT [.bool false]
      .refine aS (qM _ (ju _ (inl (dG ?_))));exact gh _ (inr ⟨_,bx rfl,hk (i64.wrap (oQ+1)) h⟩)
     .refine c5 (aa hn rS) _ ?_;refine m3 rfl ?_;refine aS (qM _ (ju _ (inl (dG ?_))));exact gh _ (inr ⟨_,bx rfl,hk (i64.wrap (oQ+1)) h⟩)
    .exact cT (gA 0 _ (eK 0 _ (gp _ (b1 _ (inl (aT aj [.bool true]))))))
   exact dy h λn h=>hV n R h
theorem UD (I r) (h:Cw I=some r):ba ah 80 [.int .i64 I] (.af 2 (r.map bf)) []:=by
 refine bF [0] [.tmp 2] Tryz.func80 aeK λbw aj bu=>an ?_;refine c5 (aa (show∀s,ey ah s 134 [(0,.int .i64 1),(1,.int .i64 I)]=some (.agg [.int .i64 1,.int .i64 I],s)from λs=>by kernel_rfl) (show∀s,dz ah s 97 1 [(0,.agg [.int .i64 1,.int .i64 I])]=some (.af 2 [.agg [.int .i64 1,.int .i64 I]],s)from λs=>by kernel_rfl)) _ ?_;exact dV aj [.af 2 ([(aF.mk 1 I)].map bf)]
theorem HC (I r) (h:tM I=some r):ba ah 81 [.int .i64 I] (.af 2 (r.map bf)) []:=by
 refine bF [0] [.tmp 2] Tryz.func81 aeL λbw aj bu=>an ?_;refine c5 (aa (show∀s,ey ah s 134 [(0,.int .i64 0),(1,.int .i64 I)]=some (.agg [.int .i64 0,.int .i64 I],s)from λs=>by kernel_rfl) (show∀s,dz ah s 97 1 [(0,.agg [.int .i64 0,.int .i64 I])]=some (.af 2 [.agg [.int .i64 0,.int .i64 I]],s)from λs=>by kernel_rfl)) _ ?_;exact dV aj [.af 2 ([(aF.mk 0 I)].map bf)]
theorem ail (I r) (h:F6 I=some r):ba ah 83 [.slice (I.map cy)] (.af 2 (r.map bf)) []:=by
 refine bF [0] [.tmp 2] Tryz.func83 aeM λbw aj bu=>an ?_;refine aA aj λ_ bD bb _=>an ?_;refine aO h (λbN h=>?_) λbN h=>?_
 .refine c5 (aa (show∀s,ey ah s 134 [(0,.int .i64 0),(1,.int .i64 1)]=some (.agg [.int .i64 0,.int .i64 1],s)from λs=>by kernel_rfl) (show∀s,dz ah s 97 1 [(0,.agg [.int .i64 0,.int .i64 1])]=some (.af 2 [.agg [.int .i64 0,.int .i64 1]],s)from λs=>by kernel_rfl)) _ ?_;exact dV bb [.af 2 ([(aF.mk 0 1)].map bf)]
 .refine aS (bD _ (inl (c5 (show∀s,dz ah s 97 0 []=some (.af 2 [],s)from λs=>by kernel_rfl) _ ?_)));refine aA aj λ_ dR e6 _=>an ?_;refine bh e6 λkJ _ cd fh _=>?_;show a6 ah (.loop ?jj) _ _;have j_:∀n hG h6,w9 I n hG h6=some r->cL ah ?jj kJ (aq [(0,.slice (I.map cy)),(3,.af 2 (hG.map bf)),(4,.int .i64 h6)]):=by
   refine cY λaim ka hG h6 h=>cV cd λ_ b1 cz cE=>aA cz λ_ eX _ de=>an ?_;refine aO h (λg5 h=>?_) λg5 h=>?_
   .refine aS (eX _ (inl (aA cz λ_ eS el _=>bh el λain hd im _ _=>?_)));show a6 ah (.seq _ ?Ns) _ _;have UE:∀tN tO,F5 (w9 I aim) I tN tO=some r->a6 ah ?Ns ain (aq [(0,.slice (I.map cy)),(3,.af 2 (tN.map bf)),(4,.int .i64 tO)]):=by
     intro tN tO h;obtain⟨U,fy,h⟩:=ar h;obtain⟨aqU,fG,h⟩:=ar h;(try simp only[hj.down,Nat.zero_add,Nat.add_zero,reduceAdd]at fG);refine qG (aa fy (aa (@iN ah 97 97 134 rfl rfl) (aa @iO (aa @iP (aa @hR (aa @all_cons (aa @all_nil (aa fG (@hQ _ bf 2 λ_=>rfl))))))))) [(0,.slice (I.map cy)),(3,.af 2 ((tN++U).map bf)),(4,.int .i64 tO)] ?_;refine hd _ (eS _ (inl (wr [(0,.slice (I.map cy)),(3,.af 2 ((tN++U).map bf)),(4,.int .i64 (i64.wrap (tO+1)))] ?_)));exact b1 _ (inr ⟨_,bx rfl,ka (tN++U) (i64.wrap (tO+1)) h⟩)
    refine aA im λ_ jG _ _=>an ?_;refine aO h (λom h=>?_) λom h=>?_
    .obtain⟨aqV,jH,h⟩:=ar h;(try simp only[hj.down,Nat.zero_add,Nat.add_zero,reduceAdd]at jH);refine qG (aa (show∀s,ey ah s 134 [(0,.int .i64 2),(1,.int .i64 7)]=some (.agg [.int .i64 2,.int .i64 7],s)from λs=>by kernel_rfl) (aa (show∀s,dz ah s 97 1 [(0,.agg [.int .i64 2,.int .i64 7])]=some (.af 2 [.agg [.int .i64 2,.int .i64 7]],s)from λs=>by kernel_rfl) (aa (@iN ah 97 97 134 rfl rfl) (aa @iO (aa @iP (aa @hR (aa @all_cons (aa @all_nil (aa jH (@hQ _ bf 2 λ_=>rfl)))))))))) [(0,.slice (I.map cy)),(3,.af 2 ((hG++[(aF.mk 2 7)]).map bf)),(4,.int .i64 h6)] ?_;exact jG _ (inr ⟨_,bx rfl,UE (hG++[(aF.mk 2 7)]) h6 h⟩)
    .exact aS (jG _ (inr ⟨_,bx rfl,UE hG h6 h⟩))
   .exact cT (de 0 _ (cE 0 _ (fh _ (dR _ (inl (aT aj [.af 2 (hG.map bf)]))))))
  exact dy h λn h=>j_ n [] 0 h
theorem aio (I r) (h:F7 I=some r):ba ah 114 [.slice (I.map bf)] (.af 2 (r.map bf)) []:=by
 refine bF [0] [.tmp 2] Tryz.func114 aeN λbw aj bu=>an ?_;obtain⟨EK,aY,h⟩:=ar h;(try simp only[hj.down,Nat.zero_add,Nat.add_zero,reduceAdd]at aY);refine c5 (aa (show∀s,dz ah s 97 0 []=some (.af 2 [],s)from λs=>by kernel_rfl) (aa (@iN ah 97 97 134 rfl rfl) (aa @iO (aa @iP (aa @hR (aa @all_cons (aa @all_nil (aa aY (@hQ _ bf 2 λ_=>rfl))))))))) _ ?_;exact dV aj [.af 2 (I.map bf)]
theorem HD (I R aM r) (h:xa I R aM=some r):ba ah 82 [.slice (I.map bf),.int .i64 R,.int .i64 aM] (.af 2 (r.map bf)) []:=by
 refine bF [0,1,2] [.tmp 6] Tryz.func82 aeO λbw aj bu=>an ?_;obtain⟨U,aY,h⟩:=ar h;refine dC (aio I _ aY) _ ?_;refine aA aj λ_ gg bX _=>an ?_;refine bh bX λjl _ dK eL _=>?_;show a6 ah (.loop ?hx) _ _;have hU:∀n iF kY,w_ R aM n iF kY=some r->cL ah ?hx jl (aq [(1,.int .i64 R),(2,.int .i64 aM),(7,.af 2 (iF.map bf)),(8,.int .i64 kY)]):=by
  refine cY λjA hI iF kY h=>cV dK λaip dR e6 bp=>aA e6 λ_ gT _ cp=>an ?_;refine aO h (λfU h=>?_) λfU h=>?_
  .refine aS (gT _ (inl ?_));show a6 ah (.seq _ ?Nr) _ _;have Ob:∀y8 y9,Cx (w_ R aM jA) R aM y8 y9=some r->a6 ah ?Nr aip (aq [(1,.int .i64 R),(2,.int .i64 aM),(7,.af 2 (y8.map bf)),(8,.int .i64 y9)]):=by
    intro y8 y9 h;refine dG ?_;exact dR _ (inr ⟨_,bx rfl,hI y8 (i64.wrap (y9+1)) h⟩)
   refine aA e6 λ_ eX gM _=>bh gM λ_ gh gB g5 _=>aA gB λ_ eS _ gA=>?_;obtain⟨ai,cN,h⟩:=ar h;refine c5 (aa cN (cu cN)) _ ?_;refine aO h (λhC h=>?_) λhC h=>?_
   .exact cT (gA 1 _ (g5 _ (eX _ (inr ⟨_,bx rfl,Ob iF kY h⟩))))
   .refine aS (eS _ (inl (c5 (aa cN (cu cN)) _ ?_)));refine an ?_;refine aO h (λgn h=>?_) λgn h=>?_
    .refine h5 (b5 [(1,.int .i64 R),(2,.int .i64 aM),(7,.af 2 ((List.set iF (Int.toNat kY) (aF.mk ai.Kind (i64.wrap (ai.Value+1)))).map bf)),(8,.int .i64 kY)] (λP aX=>?_) ?_)
     .simp only[aR.down,simprocAttr,cN,cu cN,ed,dN];exact bR (aa cN (aa (cu cN) @ed))
     exact gh _ (eX _ (inr ⟨_,bx rfl,Ob (List.set iF (Int.toNat kY) (aF.mk ai.Kind (i64.wrap (ai.Value+1)))) kY h⟩))
    .refine h5 (b5 [(1,.int .i64 R),(2,.int .i64 aM),(7,.af 2 ((List.set iF (Int.toNat kY) (aF.mk ai.Kind (i64.wrap ((i64.wrap (aM+ai.Value))-R)))).map bf)),(8,.int .i64 kY)] (λP aX=>?_) ?_)
     .simp only[aR.down,simprocAttr,cN,cu cN,ed,dN];exact bR (aa cN (aa (cu cN) @ed))
     exact gh _ (eX _ (inr ⟨_,bx rfl,Ob (List.set iF (Int.toNat kY) (aF.mk ai.Kind (i64.wrap ((i64.wrap (aM+ai.Value))-R)))) kY h⟩))
  .exact cT (cp 0 _ (bp 0 _ (eL _ (gg _ (inl (aT aj [.af 2 (iF.map bf)]))))))
 exact dy h λn h=>hU n U 0 h
theorem aiq (I R aM bG dM r) (h:F_ I R aM bG dM=some r):ba ah 51 [.ref (fF I),.slice (R.map c3),.int .i64 aM,.int .i64 bG,.int .i64 dM] (dO r) []:=by
 refine bF [0,1,2,3,4] [.cell 10 100] Tryz.func51 aeP λbw aj bu=>an ?_;obtain⟨U,aY,h⟩:=ar h;obtain⟨ai,bT,h⟩:=ar h;refine c5 (aa aY bT) _ ?_;obtain⟨aB,cj,h⟩:=ar h;refine c5 cj _ ?_;obtain⟨a7,gZ,h⟩:=ar h;refine c5 (aa aY gZ) _ ?_;obtain⟨aP,jz,h⟩:=ar h;refine fw cj (UB aB a7 _ jz) _ ?_;obtain⟨aV,dL,h⟩:=ar h;refine c5 (aa dL (show∀s,ey ah s 100 [(2,.str aV.Name)]=some (.agg [.au,.au,.str aV.Name,.au,.au],s)from λs=>by kernel_rfl)) _ ?_;obtain⟨bp,dQ,h⟩:=ar h;obtain⟨UF,eg,h⟩:=ar h;(try simp only[hj.down,Nat.zero_add,Nat.add_zero,reduceAdd]at eg);refine fw (aa (show∀s,ey ah s 134 [(0,.int .i64 2),(1,.int .i64 3)]=some (.agg [.int .i64 2,.int .i64 3],s)from λs=>by kernel_rfl) (aa (show∀s,dz ah s 97 1 [(0,.agg [.int .i64 2,.int .i64 3])]=some (.af 2 [.agg [.int .i64 2,.int .i64 3]],s)from λs=>by kernel_rfl) (aa (@iN ah 97 97 134 rfl rfl) (aa @iO (aa @iP (aa @hR (aa @all_cons (aa @all_nil (aa eg (@hQ _ bf 2 λ_=>rfl)))))))))) (UD 0 _ dQ) [(1,.slice (R.map c3)),(2,.int .i64 aM),(3,.int .i64 bG),(4,.int .i64 dM),(10,.aG (.agg [.au,.au,.str ([]:arE),.au,.au])),(11,.int .i64 ai),(12,.slice (aB.Body.map c2)),(13,.int .i64 a7),(14,.int .i64 aP),(15,.aG (.agg [.au,.au,.str aV.Name,.au,.au])),(16,.af 2 (([(aF.mk 2 3)]++bp).map bf))] ?_;obtain⟨cp,fb,h⟩:=ar h;obtain⟨UF,fy,h⟩:=ar h;(try simp only[hj.down,Nat.zero_add,Nat.add_zero,reduceAdd]at fy);refine du (b5 [(1,.slice (R.map c3)),(3,.int .i64 bG),(4,.int .i64 dM),(10,.aG (.agg [.au,.au,.str ([]:arE),.au,.au])),(11,.int .i64 ai),(12,.slice (aB.Body.map c2)),(13,.int .i64 a7),(14,.int .i64 aP),(15,.aG (.agg [.au,.au,.str aV.Name,.au,.au])),(17,.af 1 ([(([(aF.mk 2 3)]++bp)++cp)].map c4))] (λP aX=>?_) ?_)
 ·(try simp only[aR.down,simprocAttr,Nz.down,fy,eZ,cH]);refine d_ (HC aM _ fb) (hK:= ?_);simp only[aR.down,simprocAttr,Nz.down,fy,eZ,cH];(try simp only[gH.down,simprocAttr,Nz.down,fy,eZ,cH]at aX⊢);exact aX
 refine aA aj λ_ ng ua me=>ws [(1,.slice (R.map c3)),(3,.int .i64 bG),(4,.int .i64 dM),(10,.aG (.agg [.au,.au,.str ([]:arE),.au,.au])),(11,.int .i64 ai),(12,.slice (aB.Body.map c2)),(14,.int .i64 aP),(15,.aG (.agg [.au,.au,.str aV.Name,.au,.au])),(17,.af 1 ([(([(aF.mk 2 3)]++bp)++cp)].map c4)),(18,.int .i64 a7)] ?_;refine bh ua λair _ nL rS CB=>?_;show a6 ah (.loop ?Nc) _ _;have Oc:∀n mf ob m9,tS R bG dM ai aB aP aV n mf ob m9=some r->cL ah ?Nc air (aq [(1,.slice (R.map c3)),(3,.int .i64 bG),(4,.int .i64 dM),(10,.aG (.agg [.au,.au,.str ([]:arE),.au,.au])),(11,.int .i64 ai),(12,.slice (aB.Body.map c2)),(14,.int .i64 aP),(15,.aG (.agg [.af 1 (mf.map bd),.au,.str aV.Name,.au,.au])),(17,.af 1 (ob.map c4)),(18,.int .i64 m9)]):=by
  refine cY λUG Od mf ob m9 h=>cV nL λais mh mJ CA=>aA mJ λ_ z8 _ xc=>an ?_;refine aO h (λoo h=>?_) λoo h=>?_
  .refine aS (z8 _ (inl ?_));show a6 ah (.seq _ ?Ng) _ _;have Oe:∀y_ za zb,Cy (tS R bG dM ai aB aP aV UG) R bG dM ai aB aP aV y_ za zb=some r->a6 ah ?Ng ais (aq [(1,.slice (R.map c3)),(3,.int .i64 bG),(4,.int .i64 dM),(10,.aG (.agg [.au,.au,.str ([]:arE),.au,.au])),(11,.int .i64 ai),(12,.slice (aB.Body.map c2)),(14,.int .i64 aP),(15,.aG (.agg [.af 1 (y_.map bd),.au,.str aV.Name,.au,.au])),(17,.af 1 (za.map c4)),(18,.int .i64 zb)]):=by
    intro y_ za zb h;refine dG ?_;exact mh _ (inr ⟨_,bx rfl,Od y_ za (i64.wrap (zb+1)) h⟩)
   refine aA mJ λ_ pV vv qz=>bh vv λNL oX qI kv _=>aA qI λ_ oY _ NM=>?_;obtain⟨di,h9,h⟩:=ar h;refine dC (DI aB.Body m9 _ h9) _ ?_;refine aO h (λqK h=>?_) λqK h=>?_
   .exact cT (NM 1 _ (kv _ (pV _ (inr ⟨_,bx rfl,Oe mf ob m9 h⟩))))
   .refine aS (oY _ (inl ?_));show a6 ah (.seq _ ?Na) _ _;have UH:∀tP sU sV,F8 (tS R bG dM ai aB aP aV UG) R bG dM ai aB aP aV tP sU sV=some r->a6 ah ?Na NL (aq [(1,.slice (R.map c3)),(3,.int .i64 bG),(4,.int .i64 dM),(10,.aG (.agg [.au,.au,.str ([]:arE),.au,.au])),(11,.int .i64 ai),(12,.slice (aB.Body.map c2)),(14,.int .i64 aP),(15,.aG (.agg [.af 1 (tP.map bd),.au,.str aV.Name,.au,.au])),(17,.af 1 (sU.map c4)),(18,.int .i64 sV)]):=by
     intro tP sU sV h;obtain⟨cE,rU,h⟩:=ar h;refine c5 rU _ ?_;refine aO h (λo0 h=>?_) λo0 h=>?_
     .obtain⟨de,DJ,h⟩:=ar h;obtain⟨gx,Of,h⟩:=ar h;obtain⟨ait,xL,h⟩:=ar h;(try simp only[hj.down,Nat.zero_add,Nat.add_zero,reduceAdd]at xL);refine h5 (b5 [(1,.slice (R.map c3)),(3,.int .i64 bG),(4,.int .i64 dM),(10,.aG (.agg [.au,.au,.str ([]:arE),.au,.au])),(11,.int .i64 ai),(12,.slice (aB.Body.map c2)),(14,.int .i64 aP),(15,.aG (.agg [.af 1 (tP.map bd),.au,.str aV.Name,.au,.au])),(17,.af 1 ((sU++[gx]).map c4)),(18,.int .i64 sV)] (λP aX=>?_) ?_)
      ·(try simp only[aR.down,simprocAttr,rU,DJ,jk.down,eZ,cH,xL]);refine d_ (HD de aP dM _ Of) (hK:= ?_);simp only[aR.down,simprocAttr,rU,DJ,jk.down,eZ,cH,xL];(try simp only[gH.down,simprocAttr,rU,DJ,jk.down,eZ,cH,xL]at aX⊢);exact aX
      exact oX _ (pV _ (inr ⟨_,bx rfl,Oe tP (sU++[gx]) sV h⟩))
     .exact aS (oX _ (pV _ (inr ⟨_,bx rfl,Oe tP sU sV h⟩)))
    refine aA qI λ_ Hx _ _=>?_;obtain⟨eK,HE,h⟩:=ar h;refine c5 HE _ ?_;refine aO h (λrQ h=>?_) λrQ h=>?_
    .obtain⟨aqW,DC,h⟩:=ar h;(try simp only[hj.down,Nat.zero_add,Nat.add_zero,reduceAdd]at DC);refine agQ (aa HE (aa (show∀s,dz ah s 29 1 [(0,.int .i64 eK.Number)]=some (.af 1 [.int .i64 eK.Number],s)from λs=>by kernel_rfl) (aa (@iN ah 29 29 2 rfl rfl) (aa @iO (aa @iP (aa @hR (aa @all_cons (aa @all_nil (aa DC (@hQ _ bd 1 λ_=>rfl)))))))))) [(1,.slice (R.map c3)),(3,.int .i64 bG),(4,.int .i64 dM),(10,.aG (.agg [.au,.au,.str ([]:arE),.au,.au])),(11,.int .i64 ai),(12,.slice (aB.Body.map c2)),(14,.int .i64 aP),(15,.aG (.agg [.af 1 ((mf++[eK.Number]).map bd),.au,.str aV.Name,.au,.au])),(17,.af 1 (ob.map c4)),(18,.int .i64 m9)] ?_;exact Hx _ (inr ⟨_,bx rfl,UH (mf++[eK.Number]) ob m9 h⟩)
    .exact aS (Hx _ (inr ⟨_,bx rfl,UH mf ob m9 h⟩))
  .refine cT (xc 0 _ (CA 0 _ (rS _ (ng _ (inl ?_)))));obtain⟨gA,DK,h⟩:=ar h;refine du (b5 [(1,.slice (R.map c3)),(3,.int .i64 bG),(4,.int .i64 dM),(10,.aG (.agg [.au,.au,.str ([]:arE),.au,.au])),(11,.int .i64 ai),(12,.slice (aB.Body.map c2)),(14,.int .i64 aP),(15,.aG (.agg [.af 1 (mf.map bd),.af 2 (gA.map bf),.str aV.Name,.au,.au]))] (λP aX=>?_) ?_)
   ·(try simp only[aR.down,simprocAttr]);refine d_ (ail ob _ DK) rfl rfl (by simp only[aR.down,simprocAttr,g9,g_,ha,dm, @bn _ c4 cy (λ_=>s0 _)]<;>rfl) rfl (inr (iM (λ_=>xz _) _)) ?_;simp only[aR.down,simprocAttr];exact bR trivial
   refine aA aj λ_ Og Oh _=>an ?_;refine bh Oh λaiu _ aiv aiw _=>?_;show a6 ah (.loop ?Nb) _ _;have aix:∀n mG nC m8 qA,xf R bG dM ai aB aP aV n mG nC m8 qA=some r->cL ah ?Nb aiu (aq [(1,.slice (R.map c3)),(3,.int .i64 bG),(4,.int .i64 dM),(10,.aG (.agg [.au,.au,.str ([]:arE),.au,.au])),(11,.int .i64 ai),(12,.slice (aB.Body.map c2)),(14,.int .i64 aP),(15,.aG (.agg [.af 1 (mG.map bd),.af 2 (nC.map bf),.str aV.Name,.af 1 (m8.map c4),.au])),(19,.int .i64 qA)]):=by
    refine cY λ_ aiy mG nC m8 qA h=>cV aiv λ_ aiz UI aiA=>aA UI λ_ aiB _ aiC=>?_;obtain⟨ik,z9,h⟩:=ar h;refine c5 z9 _ ?_;refine aO h (λaiD h=>?_) λaiD h=>?_
    .refine aS (aiB _ (inl (aA UI λ_ Oi Oj _=>bh Oj λ_ N9 _ _ _=>?_)));obtain⟨kH,Ok,h⟩:=ar h;obtain⟨kI,N_,h⟩:=ar h;obtain⟨aqX,HF,h⟩:=ar h;(try simp only[hj.down,Nat.zero_add,Nat.add_zero,reduceAdd]at HF);refine sD rfl (h0 [(1,.slice (R.map c3)),(3,.int .i64 bG),(4,.int .i64 dM),(10,.aG (.agg [.au,.au,.str ([]:arE),.au,.au])),(11,.int .i64 ai),(12,.slice (aB.Body.map c2)),(14,.int .i64 aP),(15,.aG (.agg [.af 1 (mG.map bd),.af 2 (nC.map bf),.str aV.Name,.af 1 ((m8++[kI]).map c4),.au])),(19,.int .i64 qA)] (λP aX=>?_) ?_)
     ·(try simp only[cM.down,simprocAttr,z9,Ok,jk.down,eZ,cH,HF]);refine g1 (HD kH aP dM _ N_) (hK:= ?_);simp only[cM.down,simprocAttr,z9,Ok,jk.down,eZ,cH,HF];refine⟨hc (by kernel_rfl),?_⟩;(try simp only[gH.down,simprocAttr,z9,Ok,jk.down,eZ,cH,HF]at aX⊢);exact aX
     refine N9 _ (Oi _ (inl (wr [(1,.slice (R.map c3)),(3,.int .i64 bG),(4,.int .i64 dM),(10,.aG (.agg [.au,.au,.str ([]:arE),.au,.au])),(11,.int .i64 ai),(12,.slice (aB.Body.map c2)),(14,.int .i64 aP),(15,.aG (.agg [.af 1 (mG.map bd),.af 2 (nC.map bf),.str aV.Name,.af 1 ((m8++[kI]).map c4),.au])),(19,.int .i64 (i64.wrap (qA+1)))] ?_)));exact aiz _ (inr ⟨_,bx rfl,aiy mG nC (m8++[kI]) (i64.wrap (qA+1)) h⟩)
    .refine cT (aiC 2 _ (aiA 2 _ (aiw _ (Og _ (inl ?_)))));obtain⟨i3,Ol,h⟩:=ar h;refine c5 Ol _ ?_;show a6 ah (.seq _ ?Np) _ _;have UJ:∀zc zd ze zf,xb dM aP aV zc zd ze zf=some r->a6 ah ?Np bw (aq [(4,.int .i64 dM),(10,.aG (.agg [.au,.au,.str ([]:arE),.au,.au])),(14,.int .i64 aP),(15,.aG (.agg [.af 1 (zc.map bd),.af 2 (zd.map bf),.str aV.Name,.af 1 (ze.map c4),.af 1 (zf.map c4)]))]):=by
      intro zc zd ze zf h;refine aA aj λ_ HG Om _=>bh Om λaiE _ aiF lR _=>?_;show a6 ah (.loop ?Nq) _ _;have aiG:∀n rG rH rI pA,Cz dM aV n rG rH rI pA=some r->cL ah ?Nq aiE (aq [(4,.int .i64 dM),(10,.aG (.agg [.au,.au,.str ([]:arE),.au,.au])),(15,.aG (.agg [.af 1 (rG.map bd),.af 2 (rH.map bf),.str aV.Name,.af 1 (rI.map c4),.af 1 (pA.map c4)]))]):=by
       refine cY λ_ aiH rG rH rI pA h=>cV aiF λ_ aiI UK aiJ=>aA UK λ_ On _ aiK=>an ?_;refine aO h (λOo h=>?_) λOo h=>?_
       .refine aS (On _ (inl (bh UK λ_ aiL _ _ _=>?_)));obtain⟨me,aiM,h⟩:=ar h;obtain⟨aqY,z_,h⟩:=ar h;(try simp only[hj.down,Nat.zero_add,Nat.add_zero,reduceAdd]at z_);refine sD rfl (h0 [(4,.int .i64 dM),(10,.aG (.agg [.au,.au,.str ([]:arE),.au,.au])),(15,.aG (.agg [.af 1 (rG.map bd),.af 2 (rH.map bf),.str aV.Name,.af 1 (rI.map c4),.af 1 ((pA++[me]).map c4)]))] (λP aX=>?_) ?_)
        ·(try simp only[cM.down,simprocAttr,jk.down,eZ,cH,z_]);refine g1 (HC 0 _ aiM) (hK:= ?_);simp only[cM.down,simprocAttr,jk.down,eZ,cH,z_];refine⟨hc (by kernel_rfl),?_⟩;(try simp only[gH.down,simprocAttr,jk.down,eZ,cH,z_]at aX⊢);exact aX
        exact aiL _ (aiI _ (inr ⟨_,bx rfl,aiH rG rH rI (pA++[me]) h⟩))
       .exact cT (aiK 8 _ (aiJ 8 _ (lR _ (HG _ (inl (aT aj [dO (bH.mk rG rH aV.Name rI pA)]))))))
      exact dy h λn h=>aiG n zc zd ze zf h
     refine aA aj λ_ HH HI _=>an ?_;refine aO h (λaiN h=>?_) λaiN h=>?_
     .obtain⟨LD,Oq,h⟩:=ar h;obtain⟨CB,aiO,h⟩:=ar h;refine ko rfl (h0 [(4,.int .i64 dM),(10,.aG (.agg [.au,.au,.str ([]:arE),.au,.au])),(14,.int .i64 aP),(15,.aG (.agg [.af 1 (mG.map bd),.af 2 (nC.map bf),.str aV.Name,.af 1 (m8.map c4),.af 1 ([CB].map c4)])),(20,.aG (c2 i3))] (λP aX=>?_) ?_)
      ·(try simp only[cM.down,simprocAttr,vu.down,eZ,cH]);refine g1 (Oa R i3.Number 0 _ Oq) (hK:= ?_);simp only[cM.down,simprocAttr,vu.down,eZ,cH];refine g1 (HC LD _ aiO) (hK:= ?_);simp only[cM.down,simprocAttr,vu.down,eZ,cH];refine⟨hc (by kernel_rfl),?_⟩;(try simp only[gH.down,simprocAttr,vu.down,eZ,cH]at aX⊢);exact aX
      refine an ?_;refine bh HI λaiP _ aiQ aiR _=>?_;show a6 ah (.loop ?Nf) _ _;have aiS:∀n qs qt qu pB qv,xd dM aP aV i3 n qs qt qu pB qv=some r->cL ah ?Nf aiP (aq [(4,.int .i64 dM),(10,.aG (.agg [.au,.au,.str ([]:arE),.au,.au])),(14,.int .i64 aP),(15,.aG (.agg [.af 1 (qs.map bd),.af 2 (qt.map bf),.str aV.Name,.af 1 (qu.map c4),.af 1 (pB.map c4)])),(20,.aG (c2 i3)),(21,.int .i64 qv)]):=by
       refine cY λ_ aiT qs qt qu pB qv h=>cV aiQ λ_ aiU UL aiV=>aA UL λ_ aiW _ aiX=>an ?_;refine aO h (λaiY h=>?_) λaiY h=>?_
       .refine aS (aiW _ (inl (aA UL λ_ aiZ ai0 _=>bh ai0 λ_ ai1 _ _ _=>?_)));obtain⟨CA,Ot,h⟩:=ar h;obtain⟨xc,ai2,h⟩:=ar h;obtain⟨aqZ,HJ,h⟩:=ar h;(try simp only[hj.down,Nat.zero_add,Nat.add_zero,reduceAdd]at HJ);refine sD rfl (h0 [(4,.int .i64 dM),(10,.aG (.agg [.au,.au,.str ([]:arE),.au,.au])),(14,.int .i64 aP),(15,.aG (.agg [.af 1 (qs.map bd),.af 2 (qt.map bf),.str aV.Name,.af 1 (qu.map c4),.af 1 ((pB++[xc]).map c4)])),(20,.aG (c2 i3)),(21,.int .i64 qv)] (λP aX=>?_) ?_)
        ·(try simp only[cM.down,simprocAttr,Ot,jk.down,eZ,cH,HJ]);refine g1 (HD CA aP dM _ ai2) (hK:= ?_);simp only[cM.down,simprocAttr,Ot,jk.down,eZ,cH,HJ];refine⟨hc (by kernel_rfl),?_⟩;(try simp only[gH.down,simprocAttr,Ot,jk.down,eZ,cH,HJ]at aX⊢);exact aX
        refine ai1 _ (aiZ _ (inl (wr [(4,.int .i64 dM),(10,.aG (.agg [.au,.au,.str ([]:arE),.au,.au])),(14,.int .i64 aP),(15,.aG (.agg [.af 1 (qs.map bd),.af 2 (qt.map bf),.str aV.Name,.af 1 (qu.map c4),.af 1 ((pB++[xc]).map c4)])),(20,.aG (c2 i3)),(21,.int .i64 (i64.wrap (qv+1)))] ?_)));exact aiU _ (inr ⟨_,bx rfl,aiT qs qt qu (pB++[xc]) (i64.wrap (qv+1)) h⟩)
       .exact cT (aiX 4 _ (aiV 4 _ (aiR _ (HH _ (inr ⟨_,bx rfl,UJ qs qt qu pB h⟩)))))
      exact dy h λn h=>aiS n mG nC m8 [CB] 0 h
     .obtain⟨tR,ai3,h⟩:=ar h;obtain⟨F9,ai4,h⟩:=ar h;refine ko rfl (h0 [(4,.int .i64 dM),(10,.aG (.agg [.au,.au,.str ([]:arE),.au,.au])),(14,.int .i64 aP),(15,.aG (.agg [.af 1 (mG.map bd),.af 2 (nC.map bf),.str aV.Name,.af 1 (m8.map c4),.af 1 ([F9].map c4)]))] (λP aX=>?_) ?_)
      ·(try simp only[cM.down,simprocAttr,vu.down,eZ,cH]);refine g1 (Oa R ai (i64.wrap (bG+1)) _ ai3) (hK:= ?_);simp only[cM.down,simprocAttr,vu.down,eZ,cH];refine g1 (HC tR _ ai4) (hK:= ?_);simp only[cM.down,simprocAttr,vu.down,eZ,cH];refine⟨hc (by kernel_rfl),?_⟩;(try simp only[gH.down,simprocAttr,vu.down,eZ,cH]at aX⊢);exact aX
      refine an ?_;refine an ?_;refine bh HI λai5 _ ai6 ai7 _=>?_;show a6 ah (.loop ?Nl) _ _;have ai8:∀n qw qx qy pC rJ pD,xe dM aP aV n qw qx qy pC rJ pD=some r->cL ah ?Nl ai5 (aq [(4,.int .i64 dM),(10,.aG (.agg [.au,.au,.str ([]:arE),.au,.au])),(14,.int .i64 aP),(15,.aG (.agg [.af 1 (qw.map bd),.af 2 (qx.map bf),.str aV.Name,.af 1 (qy.map c4),.af 1 (pC.map c4)])),(22,.int .i64 rJ),(23,.int .i64 pD)]):=by
       refine cY λ_ ai9 qw qx qy pC rJ pD h=>cV ai6 λ_ ai_ UM aja=>aA UM λ_ ajb _ ajc=>an ?_;refine aO h (λajd h=>?_) λajd h=>?_
       .refine aS (ajb _ (inl (aA UM λ_ aje ajf _=>bh ajf λ_ ajg _ _ _=>?_)));obtain⟨qz,ajh,h⟩:=ar h;obtain⟨tQ,aji,h⟩:=ar h;obtain⟨UF,Aa,h⟩:=ar h;(try simp only[hj.down,Nat.zero_add,Nat.add_zero,reduceAdd]at Aa);refine sD rfl (h0 [(4,.int .i64 dM),(10,.aG (.agg [.au,.au,.str ([]:arE),.au,.au])),(14,.int .i64 aP),(15,.aG (.agg [.af 1 (qw.map bd),.af 2 (qx.map bf),.str aV.Name,.af 1 (qy.map c4),.af 1 ((pC++[tQ]).map c4)])),(22,.int .i64 rJ),(23,.int .i64 pD)] (λP aX=>?_) ?_)
        ·(try simp only[cM.down,simprocAttr,jk.down,eZ,cH,Aa]);refine g1 (UD pD _ ajh) (hK:= ?_);simp only[cM.down,simprocAttr,jk.down,eZ,cH,Aa];refine g1 (HD qz aP dM _ aji) rfl rfl (by simp only[cM.down,simprocAttr, @n5 ah 98 97 1 1 [.au] rfl rfl rfl (by kernel_rfl),eZ,n6,cH,n7,ed,hR,List.nil_append,List.cons_append, @iN ah 98 98 97 rfl rfl,iO,iP,all_cons,all_nil,Aa, @hQ _ c4 1 (λ_=>rfl),g9,g_,ha,dm, @bn _ bf bf (λ_=>oi _)]<;>rfl) rfl (inr (iM (λ_=>xz _) _)) ?_;simp only[cM.down,simprocAttr,jk.down,eZ,cH,Aa];refine⟨hc (by kernel_rfl),?_⟩;(try simp only[gH.down,simprocAttr,jk.down,eZ,cH,Aa]at aX⊢);exact aX
        refine ajg _ (aje _ (inl (wr [(4,.int .i64 dM),(10,.aG (.agg [.au,.au,.str ([]:arE),.au,.au])),(14,.int .i64 aP),(15,.aG (.agg [.af 1 (qw.map bd),.af 2 (qx.map bf),.str aV.Name,.af 1 (qy.map c4),.af 1 ((pC++[tQ]).map c4)])),(22,.int .i64 rJ),(23,.int .i64 (i64.wrap (pD+1)))] ?_)));exact ai_ _ (inr ⟨_,bx rfl,ai9 qw qx qy (pC++[tQ]) rJ (i64.wrap (pD+1)) h⟩)
       .exact cT (ajc 6 _ (aja 6 _ (ai7 _ (HH _ (inr ⟨_,bx rfl,UJ qw qx qy pC h⟩)))))
      exact dy h λn h=>ai8 n mG nC m8 [F9] (i64.wrap (aP+(mG.length:Int))) 0 h
   obtain⟨n,h⟩:=mo h;exact oM (inr ⟨_,iZ [] rfl (eF (t:=1) (d:=.slice (R.map c3)) rfl (eF (t:=3) (d:=.int .i64 bG) rfl (eF (t:=4) (d:=.int .i64 dM) rfl (eF (t:=10) (d:=.aG (.agg [.au,.au,.str ([]:arE),.au,.au])) rfl (eF (t:=11) (d:=.int .i64 ai) rfl (eF (t:=12) (d:=.slice (aB.Body.map c2)) rfl (eF (t:=14) (d:=.int .i64 aP) rfl (i1 (t:=15) (d:=.aG (.agg [.af 1 (mf.map bd),.af 2 (gA.map bf),.str aV.Name,.au,.au])) (bE:=.aG (.agg [.af 1 (mf.map bd),.af 2 (gA.map bf),.str aV.Name,.af 1 [],.au])) rfl rfl (.aG (.agg (.cons (.refl _) (.cons (.refl _) (.cons (.refl _) (.cons (.gS _) (.cons (.refl _) (.nil)))))))) (by decide) (eF (t:=19) (d:=.int .i64 0) rfl (i0)))))))))),aix n mf gA [] 0 h⟩)
 obtain⟨n,h⟩:=mo h;exact oM (inr ⟨_,iZ [] rfl (eF (t:=1) (d:=.slice (R.map c3)) rfl (eF (t:=3) (d:=.int .i64 bG) rfl (eF (t:=4) (d:=.int .i64 dM) rfl (eF (t:=10) (d:=.aG (.agg [.au,.au,.str ([]:arE),.au,.au])) rfl (eF (t:=11) (d:=.int .i64 ai) rfl (eF (t:=12) (d:=.slice (aB.Body.map c2)) rfl (eF (t:=14) (d:=.int .i64 aP) rfl (i1 (t:=15) (d:=.aG (.agg [.au,.au,.str aV.Name,.au,.au])) (bE:=.aG (.agg [.af 1 [],.au,.str aV.Name,.au,.au])) rfl rfl (.aG (.agg (.cons (.gS _) (.cons (.refl _) (.cons (.refl _) (.cons (.refl _) (.cons (.refl _) (.nil)))))))) (by decide) (eF (t:=17) (d:=.af 1 ([(([(aF.mk 2 3)]++bp)++cp)].map c4)) rfl (eF (t:=18) (d:=.int .i64 a7) rfl (i0))))))))))),Oc n [] [(([(aF.mk 2 3)]++bp)++cp)] a7 h⟩)
theorem ajj (I R r) (h:Gc I R=some r):ba ah 19 [.ref (fF I),.int .i64 R] (.tuple [gb r.1,.bool r.2]) []:=by
 refine bF [0,1] [.cell 4 32,.tmp 5] Tryz.func19 aeQ λbw aj bu=>an ?_;obtain⟨U,aY,h⟩:=ar h;refine dC (ah8 I _ aY) _ ?_;refine aA aj λ_ gg bX a7=>an ?_;refine aO h (λeL h=>?_) λeL h=>?_
 .refine c5 (show∀s,ey ah s 32 []=some (.agg [.int .i64 0,.au,.au],s)from λs=>by kernel_rfl) _ ?_;exact jr (bX _ (inr ⟨[(4,.aG (gb (cr.mk 0 [] []))),(5,.bool false)],iZ [] rfl (i1 (t:=4) (d:=.aG (.agg [.int .i64 0,.au,.au])) rfl rfl (.aG (.agg (.cons (.refl _) (.cons (.gS _) (.cons (.gS _) (.nil)))))) (by decide) (eF rfl (i0))),oP [gb (cr.mk 0 [] []),.bool false]⟩))
 .refine aS (gg _ (inl (an ?_)));refine aA aj λ_ cJ cd di=>an ?_;refine bh cd λz6 _ gM jV de=>?_;show a6 ah (.loop ?Nd) _ _;have ajk:∀n pI rL,zl I R U n pI rL=some r->cL ah ?Nd z6 (aq [(0,.ref (fF I)),(1,.int .i64 R),(4,.aG (.agg [.int .i64 0,.au,.au])),(6,.af 1 (U.map h7)),(7,.int .i64 pI),(8,.int .i64 rL)]):=by
   refine cY λ_ ajl pI rL h=>cV gM λ_ gI kL gx=>aA kL λ_ gh _ eK=>an ?_;refine aO h (λfp h=>?_) λfp h=>?_
   .refine aS (gh _ (inl (aA kL λ_ jG kZ kH=>bh kZ λ_ ju _ _ kI=>?_)));obtain⟨ai,fG,h⟩:=ar h;obtain⟨aB,hn,h⟩:=ar h;obtain⟨a7,iR,h⟩:=ar h;obtain⟨aP,fq,h⟩:=ar h;obtain⟨aV,k1,h⟩:=ar h;obtain⟨bp,jH,h⟩:=ar h;refine sD rfl (h0 [(0,.ref (fF I)),(1,.int .i64 R),(4,.aG (.agg [.int .i64 0,.au,.au])),(6,.af 1 (U.map h7)),(7,.int .i64 bp),(8,.int .i64 rL)] (λP aX=>?_) ?_)
    ·(try simp only[cM.down,simprocAttr,fG,cu fG,hn,(sJ (n:=0) hn),iR,fq,(sJ (n:=1) fq)]);refine g1 (UB a7 aP _ k1) (hK:= ?_);simp only[cM.down,simprocAttr,fG,cu fG,hn,(sJ (n:=0) hn),iR,fq,(sJ (n:=1) fq)];refine g1 (aie pI aV _ jH) (hK:= ?_);simp only[cM.down,simprocAttr,fG,cu fG,hn,(sJ (n:=0) hn),iR,fq,(sJ (n:=1) fq)];refine⟨hc (by kernel_rfl),?_⟩;exact bR (aa fG (aa (cu fG) (aa hn (aa (sJ (n:=0) hn) (aa iR (aa fq (sJ (n:=1) fq)))))))
    refine ju _ (jG _ (inl (dG ?_)));exact gI _ (inr ⟨_,bx rfl,ajl bp (i64.wrap (rL+1)) h⟩)
   .refine cT (eK 0 _ (gx 0 _ (jV _ (cJ _ (inl (c5 (show∀s,ey ah s 32 [(0,.int .i64 (i64.wrap (pI+1)))]=some (.agg [.int .i64 (i64.wrap (pI+1)),.au,.au],s)from λs=>by kernel_rfl) _ ?_))))));obtain⟨cp,qN,h⟩:=ar h;refine c5 qN _ ?_;obtain⟨di,vB,h⟩:=ar h;obtain⟨aq0,h9,h⟩:=ar h;(try simp only[hj.down,Nat.zero_add,Nat.add_zero,reduceAdd]at h9);refine ko rfl (h0 [(0,.ref (fF I)),(4,.aG (.agg [.int .i64 0,.au,.au])),(6,.af 1 (U.map h7)),(9,.aG (.agg [.int .i64 (i64.wrap (pI+1)),.af 1 (([di]++cp.e7).map bd),.au]))] (λP aX=>?_) ?_)
    ·(try simp only[cM.down,simprocAttr,(show∀s,dz ah s 29 1 [(0,.int .i64 di)]=some (.af 1 [.int .i64 di],s)from λs=>by kernel_rfl),t_.down,h9]);refine g1 (Oa U cp.gl 0 _ vB) rfl rfl (by simp only[cM.down,simprocAttr,(show∀s,dz ah s 29 1 [(0,.int .i64 di)]=some (.af 1 [.int .i64 di],s)from λs=>by kernel_rfl), @iN ah 29 29 2 rfl rfl,iO,iP,hR,all_cons,all_nil,h9, @hQ _ bd 1 (λ_=>rfl),g9,g_,ha,dm, @bn _ h7 c3 (λ_=>M7 _)]<;>rfl) rfl (inr (by rfl)) ?_;simp only[cM.down,simprocAttr,(show∀s,dz ah s 29 1 [(0,.int .i64 di)]=some (.af 1 [.int .i64 di],s)from λs=>by kernel_rfl),t_.down,h9];refine⟨hc (by kernel_rfl),?_⟩;exact bR (aa (show∀s,dz ah s 29 1 [(0,.int .i64 di)]=some (.af 1 [.int .i64 di],s)from λs=>by kernel_rfl) (aa t_.down h9))
    refine aA aj λ_ Ou Ov _=>bh Ov λOw _ DA h3 _=>?_;show a6 ah (.loop ?Nu) _ _;have ajm:∀n oR og,CC I U n oR og=some r->cL ah ?Nu Ow (aq [(0,.ref (fF I)),(4,.aG (.agg [.int .i64 0,.au,.au])),(6,.af 1 (U.map h7)),(9,.aG (.agg [.int .i64 oR,.af 1 (og.map bd),.au]))]):=by
     refine cY λ_ ajn oR og h=>cV DA λ_ xI uc Ox=>aA uc λ_ ajo _ ajp=>an ?_;refine aO h (λqQ h=>?_) λqQ h=>?_
     .refine aS (ajo _ (inl (bh uc λ_ Oy _ _ _=>?_)));obtain⟨ait,xL,h⟩:=ar h;(try simp only[hj.down,Nat.zero_add,Nat.add_zero,reduceAdd]at xL);refine qG (aa (show∀s,dz ah s 29 1 [(0,.int .i64 0)]=some (.af 1 [.int .i64 0],s)from λs=>by kernel_rfl) (aa (@iN ah 29 29 2 rfl rfl) (aa @iO (aa @iP (aa @hR (aa @all_cons (aa @all_nil (aa xL (@hQ _ bd 1 λ_=>rfl))))))))) [(0,.ref (fF I)),(4,.aG (.agg [.int .i64 0,.au,.au])),(6,.af 1 (U.map h7)),(9,.aG (.agg [.int .i64 oR,.af 1 ((og++[0]).map bd),.au]))] ?_;exact Oy _ (xI _ (inr ⟨_,bx rfl,ajn oR (og++[0]) h⟩))
     .refine cT (ajp 2 _ (Ox 2 _ (h3 _ (Ou _ (inl (aA aj λ_ Oz DG _=>an ?_))))));refine bh DG λajq _ N7 rQ _=>?_;show a6 ah (.loop ?Nh) _ _;have ajr:∀n pF pG pH sW,rK I U n pF pG pH sW=some r->cL ah ?Nh ajq (aq [(0,.ref (fF I)),(4,.aG (.agg [.int .i64 0,.au,.au])),(6,.af 1 (U.map h7)),(9,.aG (.agg [.int .i64 pF,.af 1 (pG.map bd),.af 5 (pH.map dO)])),(11,.int .i64 sW)]):=by
       refine cY λOA ajs pF pG pH sW h=>cV N7 λ_ N8 HB ajt=>aA HB λ_ OB _ aju=>an ?_;refine aO h (λDH h=>?_) λDH h=>?_
       .refine aS (OB _ (inl (aA HB λ_ Og Oh _=>bh Oh λ_ OC OD _ _=>?_)));obtain⟨cE,HK,h⟩:=ar h;obtain⟨de,UN,h⟩:=ar h;obtain⟨gx,ajv,h⟩:=ar h;refine qH (aa HK (aa (cu HK) (aa UN (aa (sJ (n:=0) UN) ajv)))) _ ?_;obtain⟨eK,HL,h⟩:=ar h;refine c5 (aa HK (aa (cu HK) (aa HL (sJ (n:=1) HL)))) _ ?_;obtain⟨gA,ajw,h⟩:=ar h;refine dC (DI gx.Body eK _ ajw) _ ?_;refine an ?_;refine bh OD λajx _ ajy ajz _=>?_;show a6 ah (.loop ?Nt) _ _;have ajA:∀n oc pE od oe nD,vl (rK I U OA) I U gx eK gA n oc pE od oe nD=some r->cL ah ?Nt ajx (aq [(0,.ref (fF I)),(4,.aG (.agg [.int .i64 0,.au,.au])),(6,.af 1 (U.map h7)),(9,.aG (.agg [.int .i64 oc,.af 1 (pE.map bd),.af 5 (od.map dO)])),(11,.int .i64 oe),(12,.slice (gx.Body.map c2)),(13,.int .i64 eK),(14,.int .i64 gA),(15,.int .i64 nD)]):=by
         refine cY λajB ajC oc pE od oe nD h=>cV ajy λajD ajE UO ajF=>aA UO λ_ ajG _ ajH=>an ?_;refine aO h (λajI h=>?_) λajI h=>?_
         .refine aS (ajG _ (inl ?_));show a6 ah (.seq _ ?Nk) _ _;have UP:∀zg zh zi zj zk,Ga (rK I U OA) (vl (rK I U OA) I U gx eK gA ajB) I U gx eK gA zg zh zi zj zk=some r->a6 ah ?Nk ajD (aq [(0,.ref (fF I)),(4,.aG (.agg [.int .i64 0,.au,.au])),(6,.af 1 (U.map h7)),(9,.aG (.agg [.int .i64 zg,.af 1 (zh.map bd),.af 5 (zi.map dO)])),(11,.int .i64 zj),(12,.slice (gx.Body.map c2)),(13,.int .i64 eK),(14,.int .i64 gA),(15,.int .i64 zk)]):=by
           intro zg zh zi zj zk h;refine dG ?_;exact ajE _ (inr ⟨_,bx rfl,ajC zg zh zi zj (i64.wrap (zk+1)) h⟩)
          refine aA UO λ_ UQ ajJ _=>bh ajJ λ_ HG Om _ _=>?_;obtain⟨ik,DE,h⟩:=ar h;refine dC (aik gx.Body eK nD _ DE) _ ?_;refine aO h (λpW h=>?_) λpW h=>?_
          .refine aA Om λ_ ajK ajL _=>an ?_;refine aO h (λvx h=>?_) λvx h=>?_
           .refine c5 (show∀s,ey ah s 32 []=some (.agg [.int .i64 0,.au,.au],s)from λs=>by kernel_rfl) _ ?_;exact jr (ajL _ (inr ⟨[(4,.aG (gb (cr.mk 0 [] []))),(5,.bool false)],iZ [] rfl (i1 (t:=4) (d:=.aG (.agg [.int .i64 0,.au,.au])) rfl rfl (.aG (.agg (.cons (.refl _) (.cons (.gS _) (.cons (.gS _) (.nil)))))) (by decide) (eF rfl (i0))),oP [gb (cr.mk 0 [] []),.bool false]⟩))
           .refine aS (ajK _ (inl ?_));obtain⟨kH,z_,h⟩:=ar h;obtain⟨aq1,xJ,h⟩:=ar h;(try simp only[hj.down,Nat.zero_add,Nat.add_zero,reduceAdd]at xJ);refine sD rfl (h0 [(0,.ref (fF I)),(4,.aG (.agg [.int .i64 0,.au,.au])),(6,.af 1 (U.map h7)),(9,.aG (.agg [.int .i64 oc,.af 1 (pE.map bd),.af 5 ((od++[kH]).map dO)])),(11,.int .i64 oe),(12,.slice (gx.Body.map c2)),(13,.int .i64 eK),(14,.int .i64 gA),(15,.int .i64 nD)] (λP aX=>?_) ?_)
            ·(try simp only[cM.down,simprocAttr,xE.down,eZ,cH,xJ]);refine g1 (aiq I U oe nD oc _ z_) rfl rfl (by simp only[cM.down,simprocAttr, @n5 ah 30 100 1 5 [(.agg [.au,.au,(.str []),.au,.au])] rfl rfl rfl (by kernel_rfl),eZ,n6,cH,n7,ed,hR,List.nil_append,List.cons_append, @iN ah 30 30 100 rfl rfl,iO,iP,all_cons,all_nil,xJ, @hQ _ dO 5 (λ_=>rfl),g9,g_,ha,dm, @bn _ h7 c3 (λ_=>M7 _)]<;>rfl) rfl (inr (M8 _)) ?_;simp only[cM.down,simprocAttr,xE.down,eZ,cH,xJ];refine⟨hc (by kernel_rfl),?_⟩;(try simp only[gH.down,simprocAttr,xE.down,eZ,cH,xJ]at aX⊢);exact aX
            exact HG _ (UQ _ (inr ⟨_,bx rfl,UP oc pE (od++[kH]) oe nD h⟩))
          .exact aS (HG _ (UQ _ (inr ⟨_,bx rfl,UP oc pE od oe nD h⟩)))
         .refine cT (ajH 6 _ (ajF 6 _ (ajz _ (OC _ (Og _ (inl (dG ?_)))))));exact N8 _ (inr ⟨_,bx rfl,ajs oc pE od (i64.wrap (oe+1)) h⟩)
        exact dy h λn h=>ajA n pF pG pH sW eK h
       .refine cT (aju 4 _ (ajt 4 _ (rQ _ (Oz _ (inl (aA aj λ_ ajM ajN _=>?_))))));obtain⟨kI,Oq,h⟩:=ar h;refine du (b5 [(4,.aG (.agg [.int .i64 0,.au,.au])),(9,.aG (.agg [.int .i64 pF,.af 1 (pG.map bd),.af 5 (pH.map dO)])),(137,.bool (!kI))] (λP aX=>?_) ?_)
        .refine d_ (aii (cr.mk pF pG pH) _ Oq) rfl rfl (by simp only[aR.down,simprocAttr,Hq.down]<;>rfl) rfl (inr (by rfl)) ?_;simp only[aR.down,simprocAttr];exact bR trivial
        refine aO h (λajO h=>?_) λajO h=>?_
        .refine c5 (show∀s,ey ah s 32 []=some (.agg [.int .i64 0,.au,.au],s)from λs=>by kernel_rfl) _ ?_;exact jr (ajN _ (inr ⟨[(4,.aG (gb (cr.mk 0 [] []))),(5,.bool false)],iZ [] rfl (i1 (t:=4) (d:=.aG (.agg [.int .i64 0,.au,.au])) rfl rfl (.aG (.agg (.cons (.refl _) (.cons (.gS _) (.cons (.gS _) (.nil)))))) (by decide) (eF rfl (i0))),oP [gb (cr.mk 0 [] []),.bool false]⟩))
        .exact aS (ajM _ (inl (aT aj [gb (cr.mk pF pG pH),.bool true])))
      obtain⟨n,h⟩:=mo h;exact oM (inr ⟨_,iZ [] rfl (eF (t:=0) (d:=.ref (fF I)) rfl (eF (t:=4) (d:=.aG (.agg [.int .i64 0,.au,.au])) rfl (eF (t:=6) (d:=.af 1 (U.map h7)) rfl (i1 (t:=9) (d:=.aG (.agg [.int .i64 oR,.af 1 (og.map bd),.au])) (bE:=.aG (.agg [.int .i64 oR,.af 1 (og.map bd),.af 5 []])) rfl rfl (.aG (.agg (.cons (.refl _) (.cons (.refl _) (.cons (.gS _) (.nil)))))) (by decide) (eF (t:=11) (d:=.int .i64 0) rfl (i0)))))),ajr n oR og [] 0 h⟩)
    exact dy h λn h=>ajm n (i64.wrap (pI+1)) ([di]++cp.e7) h
  exact dy h λn h=>ajk n 0 0 h
theorem ajP (I R r) (h:Gd I R=some r):ba ah 5 [fF I,.int .i64 R] (.tuple [gb r.1,.int .i64 r.2]) []:=by
 refine bF [0,1] [.cell 4 32,.tmp 5] Tryz.func5 nv λbw aj bu=>an ?_;refine aA aj λ_ bD bb ai=>?_;obtain⟨U,bT,h⟩:=ar h;refine du (b5 [(1,.int .i64 R),(2,.aG (fF I)),(4,.aG (.agg [.int .i64 0,.au,.au])),(9,.bool (!U))] (λP aX=>?_) ?_)
 .refine d_ (ah7 I _ bT) rfl rfl (by simp only[aR.down,simprocAttr,NA.down]<;>rfl) rfl (inr (by rfl)) ?_;simp only[aR.down,simprocAttr];exact bR trivial
 refine aO h (λcS h=>?_) λcS h=>?_
 .refine c5 (show∀s,ey ah s 32 []=some (.agg [.int .i64 0,.au,.au],s)from λs=>by kernel_rfl) _ ?_;exact jr (bb _ (inr ⟨[(4,.aG (gb (cr.mk 0 [] []))),(5,.int .i64 1)],iZ [] rfl (i1 (t:=4) (d:=.aG (.agg [.int .i64 0,.au,.au])) rfl rfl (.aG (.agg (.cons (.refl _) (.cons (.gS _) (.cons (.gS _) (.nil)))))) (by decide) (eF rfl (i0))),oP [gb (cr.mk 0 [] []),.int .i64 1]⟩))
 .refine aS (bD _ (inl (aA aj λ_ dR e6 _=>?_)));obtain⟨ai,ie,h⟩:=ar h;refine dC (nK R 0 (i64.wrap ((I.b7.length:Int)-1)) _ ie) _ ?_;refine aO h (λfU h=>?_) λfU h=>?_
  .refine c5 (show∀s,ey ah s 32 []=some (.agg [.int .i64 0,.au,.au],s)from λs=>by kernel_rfl) _ ?_;exact jr (e6 _ (inr ⟨[(4,.aG (gb (cr.mk 0 [] []))),(5,.int .i64 2)],iZ [] rfl (i1 (t:=4) (d:=.aG (.agg [.int .i64 0,.au,.au])) rfl rfl (.aG (.agg (.cons (.refl _) (.cons (.gS _) (.cons (.gS _) (.nil)))))) (by decide) (eF rfl (i0))),oP [gb (cr.mk 0 [] []),.int .i64 2]⟩))
  .refine aS (dR _ (inl ?_));obtain⟨aB,dw,h⟩:=ar h;refine du (b5 [(4,.aG (.agg [.int .i64 0,.au,.au])),(6,.aG (gb aB.1)),(7,.bool aB.2)] (λP aX=>?_) ?_)
   ·(try simp only[aR.down,simprocAttr]);refine d_ (ajj I R _ dw) rfl rfl (by simp only[aR.down,simprocAttr,NA.down]<;>rfl) rfl (inr (by simp only[J.da,J.hZ,Hm,Bool.and_self])) ?_;simp only[aR.down,simprocAttr];exact bR trivial
   refine aA aj λ_ eS el _=>an ?_;refine aO h (λjI h=>?_) λjI h=>?_
   .refine c5 (show∀s,ey ah s 32 []=some (.agg [.int .i64 0,.au,.au],s)from λs=>by kernel_rfl) _ ?_;exact jr (el _ (inr ⟨[(4,.aG (gb (cr.mk 0 [] []))),(5,.int .i64 5)],iZ [] rfl (i1 (t:=4) (d:=.aG (.agg [.int .i64 0,.au,.au])) rfl rfl (.aG (.agg (.cons (.refl _) (.cons (.gS _) (.cons (.gS _) (.nil)))))) (by decide) (eF rfl (i0))),oP [gb (cr.mk 0 [] []),.int .i64 5]⟩))
   .exact aS (eS _ (inl (aT aj [gb aB.1,.int .i64 0])))
theorem kc (I R aM r) (h:jD I R aM=some r):ba ah 57 [.int .i64 I,.int .i64 R,.int .i64 aM] (.bool r) []:=by
 refine bF [0,1,2] [.tmp 6] Tryz.func57 aeR λbw aj bu=>an ?_;refine nf (decide (R<=I)) [(6,.bool ((decide (R<=I))&&(decide (I<=aM))))] ?_;exact dV aj [.bool ((decide (R<=I))&&(decide (I<=aM)))]
theorem ajQ (I r) (h:LJ I=some r):ba ah 152 [br I] (.bool r) []:=by
 refine bF [0] [.tmp 2] Tryz.func152 aeS λbw aj bu=>an ?_;obtain⟨U,aY,h⟩:=ar h;refine dC (kc I.bW 0 3 _ aY) _ ?_;exact dV aj [.bool (!U)]
theorem ajR (I r) (h:LL I=some r):ba ah 154 [.slice (I.map br),.fn 152 []] (.int .i64 r) []:=by
 refine bF [0,1] [.tmp 4] Tryz.func154 aeT λbw aj bu=>an ?_;refine aA aj λ_ bD bb ai=>an ?_;refine bh bb λeC _ bX bN _=>?_;show a6 ah (.loop ?eA) _ _;have eT:∀n cI,CD I n cI=some r->cL ah ?eA eC (aq [(0,.slice (I.map br)),(1,.fn 152 []),(7,.int .i64 (I.length:Int)),(8,.int .i64 cI)]):=by
  refine cY λ_ eH cI h=>cV bX λ_ dJ cm aP=>an ?_;refine aA cm λ_ dR _ bp=>aO h (λcw h=>?_) λcw h=>?_
  .refine aS (dR _ (inl (aA cm λ_ cJ cd _=>bh cd λ_ b1 cz _ _=>an ?_)));obtain⟨U,dw,h⟩:=ar h;obtain⟨ai,dQ,h⟩:=ar h;refine fw dw (ajQ U _ dQ) _ ?_;refine aO h (λfp h=>?_) λfp h=>?_
   .exact aT cz [.int .i64 cI]
   .refine aS (b1 _ (cJ _ (inl (dG ?_))));exact dJ _ (inr ⟨_,bx rfl,eH (i64.wrap (cI+1)) h⟩)
  .exact cT (bp 0 _ (aP 0 _ (bN _ (bD _ (inl (aT aj [.int .i64 (-1)]))))))
 exact dy h λn h=>eT n 0 h
theorem ajS (I r) (h:LM I=some r):ba ah 151 [.slice (I.map br),.fn 152 []] (.bool r) []:=by
 refine bF [0,1] [.tmp 4] Tryz.func151 aeU λbw aj bu=>an ?_;obtain⟨U,aY,h⟩:=ar h;refine dC (ajR I _ aY) _ ?_;exact dV aj [.bool (decide (0<=U))]
theorem ajT (I r) (h:Ge I=some r):ba ah 119 [.slice (I.map br)] (.bool r) []:=by
 refine bF [0] [.tmp 2] Tryz.func119 aeV λbw aj bu=>an ?_;obtain⟨U,aY,h⟩:=ar h;refine dC (ajS I _ aY) _ ?_;exact dV aj [.bool (!U)]
theorem ajU (I r) (h:LN I=some r):ba ah 153 [.int .u8 (I.toNat:Int)] (.bool r) []:=by
 refine bF [0] [.tmp 2] Tryz.func153 aeW λbw aj bu=>an ?_;refine nf (decide (48<=(I.toNat:Int))) [(2,.bool ((decide (48<=(I.toNat:Int)))&&(decide ((I.toNat:Int)<=57))))] ?_;exact dV aj [.bool ((decide (48<=(I.toNat:Int)))&&(decide ((I.toNat:Int)<=57)))]
theorem HM (I r) (h:CE I=some r):ba ah 120 [.str I] (.bool r) []:=by
 refine bF [0] [.tmp 2] Tryz.func120 aeX λbw aj bu=>an ?_;refine aA aj λ_ bD bb ai=>an ?_;refine bh bb λeC _ bX bN _=>?_;show a6 ah (.loop ?eA) _ _;have eT:∀n dW,vm I n dW=some r->cL ah ?eA eC (aq [(0,.str I),(6,.int .i64 (I.length:Int)),(7,.int .i64 dW)]):=by
  refine cY λ_ eH dW h=>cV bX λ_ dJ cm aP=>an ?_;refine aA cm λ_ dR _ bp=>aO h (λcw h=>?_) λcw h=>?_
  .refine aS (dR _ (inl (aA cm λ_ cJ cd _=>bh cd λ_ b1 cz _ _=>an ?_)));obtain⟨U,dw,h⟩:=ar h;refine agT (decide (97<=(U.toNat:Int))) dw [(0,.str I),(3,.int .i64 dW),(4,.bool ((decide (97<=(U.toNat:Int)))&&(decide ((U.toNat:Int)<=122)))),(6,.int .i64 (I.length:Int)),(7,.int .i64 dW)] ?_;rcases dH h with⟨fp,h⟩|⟨fp,h⟩
   .rcases dH h with⟨jI,h⟩|⟨jI,h⟩
    .refine c5 (aa fp jI) _ ?_;refine iE rfl ?_;exact aT cz [.bool false]
    .obtain⟨ai,fy,h⟩:=ar h;refine fw (aa fp (aa jI dw)) (ajU U _ fy) _ ?_;refine aO h (λiq h=>?_) λiq h=>?_
     .exact aT cz [.bool false]
     .refine aS (b1 _ (cJ _ (inl (dG ?_))));exact dJ _ (inr ⟨_,bx rfl,eH (i64.wrap (dW+1)) h⟩)
   .refine c5 fp _ ?_;refine m3 rfl ?_;refine aS (b1 _ (cJ _ (inl (dG ?_))));exact dJ _ (inr ⟨_,bx rfl,eH (i64.wrap (dW+1)) h⟩)
  .refine cT (bp 0 _ (aP 0 _ (bN _ (bD _ (inl (nf (decide (1<=(I.length:Int))) [(2,.bool ((decide (1<=(I.length:Int)))&&(decide ((I.length:Int)<=10))))] ?_))))));exact dV aj [.bool ((decide (1<=(I.length:Int)))&&(decide ((I.length:Int)<=10)))]
 exact dy h λn h=>eT n 0 h
theorem ajV (I R r) (h:LO I R=some r):ba ah 155 [br I,.ref (.str R)] (.bool r) []:=by
 refine bF [0,1] [.tmp 3] Tryz.func155 aeY λbw aj bu=>an ?_;exact aT aj [.bool (I.Name==R)]
theorem ajW (I R r) (h:LQ I R=some r):ba ah 154 [.slice (I.map br),.fn 155 [.ref (.str R)]] (.int .i64 r) []:=by
 refine bF [0,1] [.tmp 4] Tryz.func154 aeZ λbw aj bu=>an ?_;refine aA aj λ_ bD bb ai=>an ?_;refine bh bb λeC _ bX bN _=>?_;show a6 ah (.loop ?eA) _ _;have eT:∀n cI,CF I R n cI=some r->cL ah ?eA eC (aq [(0,.slice (I.map br)),(1,.fn 155 [.ref (.str R)]),(7,.int .i64 (I.length:Int)),(8,.int .i64 cI)]):=by
  refine cY λ_ eH cI h=>cV bX λ_ dJ cm aP=>an ?_;refine aA cm λ_ dR _ bp=>aO h (λcw h=>?_) λcw h=>?_
  .refine aS (dR _ (inl (aA cm λ_ cJ cd _=>bh cd λ_ b1 cz _ _=>an ?_)));obtain⟨U,dw,h⟩:=ar h;obtain⟨ai,dQ,h⟩:=ar h;refine fw dw (ajV U R _ dQ) _ ?_;refine aO h (λfp h=>?_) λfp h=>?_
   .exact aT cz [.int .i64 cI]
   .refine aS (b1 _ (cJ _ (inl (dG ?_))));exact dJ _ (inr ⟨_,bx rfl,eH (i64.wrap (cI+1)) h⟩)
  .exact cT (bp 0 _ (aP 0 _ (bN _ (bD _ (inl (aT aj [.int .i64 (-1)]))))))
 exact dy h λn h=>eT n 0 h
theorem ajX (I R r) (h:Gg I R=some r):ba ah 121 [.slice (I.map br),.str R] (.int .i64 r) []:=by
 refine bF [0,1] [.tmp 4] Tryz.func121 ae0 λbw aj bu=>an ?_;obtain⟨U,aY,h⟩:=ar h;refine du (b5 [(4,.int .i64 U)] (λP aX=>?_) ?_)
 ·(try simp only[aR.down,simprocAttr]);refine d_ (ajW I R _ aY) rfl rfl (by simp only[aR.down,simprocAttr,Ds.down]<;>rfl) rfl (inr (by rfl)) ?_;simp only[aR.down,simprocAttr];exact bR trivial
 exact dV aj [.int .i64 U]
theorem UR (I r) (h:CH I=some r):ba ah 130 [c2 I] (.int .i64 r) []:=by
 refine bF [0] [.tmp 2] Tryz.func130 ae1 λbw aj bu=>an ?_;refine aA aj λ_ bD bb _=>an ?_;refine bh bb λeC gg bX _ _=>?_;show a6 ah (.seq _ ?jj) _ _;have pU:∀eG,CG I eG=some r->a6 ah ?jj eC (aq [(4,.int .i64 I.Kind),(5,.bool eG)]):=by
  intro eG h;refine aO h (λeL h=>?_) λeL h=>?_
  .exact aT bX [.int .i64 1]
  .refine an ?_;refine aO h (λfh h=>?_) λfh h=>?_
   .exact aT bX [.int .i64 2]
   .exact aS (gg _ (bD _ (inl (aT aj [.int .i64 0]))))
 refine aA bX λ_ dJ _ _=>an ?_;refine aO h (λg5 h=>?_) λg5 h=>?_
 .simp only[g5,z0.down];exact aS (dJ _ (inr ⟨_,bx rfl,pU true h⟩))
 .refine an ?_;refine aO h (λfp h=>?_) λfp h=>?_
  .simp only[fp,z0.down];exact aS (dJ _ (inr ⟨_,bx rfl,pU true h⟩))
  .refine dG ?_;exact dJ _ (inr ⟨_,bx rfl,pU (I.Kind==4) h⟩)
theorem US (I R r) (h:CI I R=some r):ba ah 98 [br I,.int .i64 R] (.int .i64 r) []:=by
 refine bF [0] [.tmp 4] Tryz.func98 ae2 λbw aj bu=>an ?_;refine aA aj λ_ bD bb ai=>an ?_;refine bh bb λeC _ bX bN _=>?_;show a6 ah (.loop ?eA) _ _;have eT:∀n a1 aL,zm I n a1 aL=some r->cL ah ?eA eC (aq [(1,.int .i64 a1),(2,.aG (br I)),(5,.int .i64 aL)]):=by
  refine cY λ_ eH a1 aL h=>cV bX λ_ dJ cm aP=>aA cm λ_ dp _ aV=>an ?_;refine aO h (λcw h=>?_) λcw h=>?_
  .refine aS (dp _ (inl (aA cm λ_ cJ cd _=>bh cd λ_ b1 cz _ _=>aA cz λ_ eX gM _=>an ?_)));refine aO h (λg5 h=>?_) λg5 h=>?_
   .exact aT gM [.int .i64 (-1)]
   .refine aS (eX _ (inl ?_));obtain⟨U,cN,h⟩:=ar h;obtain⟨ai,fb,h⟩:=ar h;refine Ny cN (UR U _ fb) _ ?_;refine b1 _ (cJ _ (inl (dG ?_)));exact dJ _ (inr ⟨_,bx rfl,eH (i64.wrap (a1+1)) (i64.wrap (aL+(i64.wrap (ai-1)))) h⟩)
  .exact cT (aV 0 _ (aP 0 _ (bN _ (bD _ (inl (aT aj [.int .i64 a1]))))))
 exact dy h λn h=>eT n R 1 h
theorem ajY (oS:Int->dv->asa->bg->Option (Int×asa)) (ajZ:∀I R aM bG r,oS I R aM bG=some r->n9 ah 129 2 4 [.int .i64 I,e8 R,.aG (.af 2 (aM.map e8)),.ref (br bG),.ref (.hole)] (.int .i64 r.1) [.hole,.hole,.aG (.af 2 (r.2.map e8)),.hole,.hole]) (I R aM bG r) (h:LU oS I R aM bG=some r):n9 ah 129 2 4 [.int .i64 I,e8 R,.aG (.af 2 (aM.map e8)),.ref (br bG),.ref (.hole)] (.int .i64 r.1) [.hole,.hole,.aG (.af 2 (r.2.map e8)),.hole,.hole]:=by
 refine n9.KS (fx:=[0,1,2,3,4]) KU [.tmp 7] [(0,.int .i64 I),(1,e8 R),(2,.aG (.af 2 (aM.map e8))),(3,.ref (br bG)),(4,.ref (.hole))] Tryz.func129 rfl rfl aff (le_of_ble_eq_true rfl) afe rfl rfl λbw aj bu=>?_;refine an ?_;obtain⟨U,aY,h⟩:=ar h;refine du (b5 [(0,.int .i64 I),(2,.aG (.af 2 ((List.set aM (Int.toNat I) R).map e8))),(3,.ref (br bG)),(4,.ref (.hole)),(6,.aG (e8 R))] (λP aX=>?_) ?_)
 .simp only[aR.down,simprocAttr,aY,cu aY,ed,dN];exact bR (aa aY (aa (cu aY) @ed))
 obtain⟨ai,cF,h⟩:=ar h;refine c5 cF [(0,.int .i64 I),(2,.aG (.af 2 ((List.set aM (Int.toNat I) R).map e8))),(3,.ref (br bG)),(4,.ref (.hole)),(6,.aG (e8 R)),(8,.aG (c2 ai))] ?_;refine c5 (show∀s,ey ah s 149 [(0,.int .i64 R.scope),(1,.bool (ai.Kind==1))]=some (.agg [.int .i64 R.scope,.bool (ai.Kind==1)],s)from λs=>by kernel_rfl) [(0,.int .i64 I),(2,.aG (.af 2 ((List.set aM (Int.toNat I) R).map e8))),(3,.ref (br bG)),(4,.ref (.hole)),(8,.aG (c2 ai)),(9,.aG (.agg [.int .i64 R.scope,.bool (ai.Kind==1)]))] ?_;have UT:∀na,Gh oS I R aM bG ai na=some r->a6 ah T3 bw (aq [(0,.int .i64 I),(2,.aG (.af 2 ((List.set aM (Int.toNat I) R).map e8))),(3,.ref (br bG)),(4,.ref (.hole)),(8,.aG (c2 ai)),(9,.aG (.agg [.int .i64 na,.bool (ai.Kind==1)]))]):=by
  intro na h;refine ws [(2,.aG (.af 2 ((List.set aM (Int.toNat I) R).map e8))),(3,.ref (br bG)),(4,.ref (.hole)),(8,.aG (c2 ai)),(9,.aG (.agg [.int .i64 na,.bool (ai.Kind==1)])),(10,.int .i64 (i64.wrap (I+1)))] ?_;refine aA aj λ_ cJ cd _=>?_;obtain⟨aB,mX,h⟩:=ar h;refine dC (UR ai _ mX) [(2,.aG (.af 2 ((List.set aM (Int.toNat I) R).map e8))),(3,.ref (br bG)),(4,.ref (.hole)),(9,.aG (.agg [.int .i64 na,.bool (ai.Kind==1)])),(10,.int .i64 (i64.wrap (I+1))),(36,.int .i64 aB),(37,.int .i64 0)] ?_;refine bh cd λxH _ kL gp _=>?_;have Oc:∀n tU rM sX,xg oS bG na ai aB n tU rM sX=some r->cL ah T2 xH (aq [(2,.aG (.af 2 (tU.map e8))),(3,.ref (br bG)),(4,.ref (.hole)),(9,.aG (.agg [.int .i64 na,.bool (ai.Kind==1)])),(10,.int .i64 rM),(36,.int .i64 aB),(37,.int .i64 sX)]):=by
   refine cY λ_ Od tU rM sX h=>cV kL λ_ gh gB eK=>an ?_;refine aA gB λ_ hd _ ik=>aO h (λjI h=>?_) λjI h=>?_
   .refine aS (hd _ (inl (aA gB λ_ ju jm _=>bh jm λ_ qM _ _ _=>?_)));obtain⟨a7,hn,h⟩:=ar h;refine abp [(2,.aG (.af 2 (a7.2.map e8))),(3,.ref (br bG)),(4,.ref (.hole)),(9,.aG (.agg [.int .i64 na,.bool (ai.Kind==1)])),(10,.int .i64 a7.1),(36,.int .i64 aB),(37,.int .i64 sX)] (λP aX=>?_) ?_
    ·(try simp only[aR.down,simprocAttr,rC]);refine S8 [⟨.int .i64 rM,false,_,.hole⟩,⟨.agg [.int .i64 na,.bool (ai.Kind==1)],false,_,.hole⟩,⟨.h 2 [],true,_,_⟩,⟨.ref (br bG),false,_,.hole⟩,⟨.ref (.hole),false,_,.hole⟩] (ajZ rM (dv.mk na (ai.Kind==1)) tU bG _ hn) rfl (by simp only[aR.down,simprocAttr,rC,n8,mA,lI,g9,g_,ha,dm,or_true,true_or, @bn _ e8 e8 (λ_=>TW _)]) rfl rfl (inl rfl) ?_;simp only[aR.down,simprocAttr,rC,kp];(try simp only[gH.down,simprocAttr,rC]at aX⊢);exact aX
    refine qM _ (ju _ (inl (dG ?_)));exact gh _ (inr ⟨_,bx rfl,Od a7.2 a7.1 (i64.wrap (sX+1)) h⟩)
   .refine cT (ik 0 _ (eK 0 _ (gp _ (cJ _ (inl (an ?_))))));exact jr (aj _ (inl (lj [.int .i64 rM] rfl (by cases gU h;rfl) (by decide) (lJ (h1 (h1 (mb (by cases gU h;rfl) rfl rfl rfl (h1 (h1 (lK))))))))))
  exact dy h λn h=>Oc n (List.set aM (Int.toNat I) R) (i64.wrap (I+1)) 0 h
 refine aA aj λ_ dR _ _=>ws [(0,.int .i64 I),(2,.aG (.af 2 ((List.set aM (Int.toNat I) R).map e8))),(3,.ref (br bG)),(4,.ref (.hole)),(8,.aG (c2 ai)),(9,.aG (.agg [.int .i64 R.scope,.bool (ai.Kind==1)])),(28,.bool (ai.Kind==4))] ?_;refine aO h (λir h=>?_) λir h=>?_
 .refine wr [(0,.int .i64 I),(2,.aG (.af 2 ((List.set aM (Int.toNat I) R).map e8))),(3,.ref (br bG)),(4,.ref (.hole)),(8,.aG (c2 ai)),(9,.aG (.agg [.int .i64 (i64.wrap (R.scope+1)),.bool (ai.Kind==1)]))] ?_;exact dR _ (inr ⟨_,bx rfl,UT (i64.wrap (R.scope+1)) h⟩)
 .exact aS (dR _ (inr ⟨_,bx rfl,UT R.scope h⟩))
theorem aj0:∀n I R aM bG r,xh n I R aM bG=some r->n9 ah 129 2 4 [.int .i64 I,e8 R,.aG (.af 2 (aM.map e8)),.ref (br bG),.ref (.hole)] (.int .i64 r.1) [.hole,.hole,.aG (.af 2 (r.2.map e8)),.hole,.hole]:=by
 intro n;induction n with
 |zero=>intro I R aM bG r h;cases(show none=some r from h)
 |succ n ih=>intro I R aM bG r h;exact ajY (xh n) ih I R aM bG r h
theorem aj1 (I R aM bG r) (h:Gi I R aM bG=some r):n9 ah 129 2 4 [.int .i64 I,e8 R,.aG (.af 2 (aM.map e8)),.ref (br bG),.ref (.hole)] (.int .i64 r.1) [.hole,.hole,.aG (.af 2 (r.2.map e8)),.hole,.hole]:=by
 obtain⟨n,h⟩:=mo h;exact aj0 n I R aM bG r h
theorem HN (I r) (h:vn I=some r):ba ah 94 [br I] (.af 2 (r.map e8)) []:=by
 refine ba.ace (fx:=[0]) KU [.tmp 2] [(0,br I)] Tryz.func94 rfl rfl afk (le_of_ble_eq_true rfl) afj rfl rfl λbw aj bu=>?_;refine an ?_;obtain⟨Ji,aY,h⟩:=ar h;refine tZ (aa (pa aY) @List.map_replicate.{0,0}) [(1,.aG (br I)),(3,.aG (.af 2 ((List.replicate (Int.toNat (I.Body.length:Int)) (dv.mk 0 false)).map e8)))] ?_;obtain⟨U,cF,h⟩:=ar h;refine ab8 [(3,.aG (.af 2 (U.2.map e8)))] (λP aX=>?_) ?_
 ·(try simp only[aR.down,simprocAttr,(show∀s,ey ah s 149 [(0,.int .i64 I.bW)]=some (.agg [.int .i64 I.bW,.bool false],s)from λs=>by kernel_rfl),rC]);refine S8 [⟨.int .i64 0,false,_,.hole⟩,⟨.agg [.int .i64 I.bW,.bool false],false,_,.hole⟩,⟨.h 3 [],true,_,_⟩,⟨.h 1 [],false,_,.hole⟩,⟨.ref (.hole),false,_,.hole⟩] (aj1 0 (dv.mk I.bW false) (List.replicate (Int.toNat (I.Body.length:Int)) (dv.mk 0 false)) I _ cF) rfl (by simp only[aR.down,simprocAttr,(show∀s,ey ah s 149 [(0,.int .i64 I.bW)]=some (.agg [.int .i64 I.bW,.bool false],s)from λs=>by kernel_rfl),rC,n8,mA,lI,g9,g_,ha,dm,or_true,true_or, @bn _ e8 e8 (λ_=>TW _), @bn _ c2 c2 (λ_=>M5 _)]) rfl rfl ((inr (by simp only[sE,J.da,J.hZ,Bool.and_self, @iM _ e8 (λ_=>adT _)]))) ?_;simp only[aR.down,simprocAttr,(show∀s,ey ah s 149 [(0,.int .i64 I.bW)]=some (.agg [.int .i64 I.bW,.bool false],s)from λs=>by kernel_rfl),rC,kp];(try simp only[gH.down,simprocAttr,(show∀s,ey ah s 149 [(0,.int .i64 I.bW)]=some (.agg [.int .i64 I.bW,.bool false],s)from λs=>by kernel_rfl),rC]at aX⊢);exact aX
 exact aT aj [.af 2 (U.2.map e8)]
theorem aj2 (I r) (h:LV I=some r):ba ah 175 [c2 I] (.bool r) []:=by
 refine bF [0] [.tmp 2] Tryz.func175 afl λbw aj bu=>an ?_;refine nf (I.Kind==4) [(1,.aG (c2 I)),(3,.bool ((I.Kind==4)||(I.Kind==5)))] ?_;refine du (b5 [(1,.aG (c2 I)),(3,.bool ((I.Kind==4)||(I.Kind==5))),(4,.bool (((I.Kind==1)||(I.Kind==3))||(I.Kind==5)))] (λP aX=>?_) ?_)
 ·(rcases Bool.eq_false_or_eq_true (I.Kind==1)with lD|lD)<;>(rcases Bool.eq_false_or_eq_true (I.Kind==3)with rV|rV)<;>
   (simp only[aR.down,simprocAttr,lD,rV]
    exact bR (aa lD rV))
 obtain⟨U,b0,h⟩:=ar h;refine du (b5 [(2,.bool (((U&&(((I.Kind==4)||(I.Kind==5))||(I.Number==0)))&&((I.Kind==1)||(I.Name==([]:arE))))&&((((I.Kind==1)||(I.Kind==3))||(I.Kind==5))||((I.a9.length:Int)==0))))] (λP aX=>?_) ?_)
 ·(rcases Bool.eq_false_or_eq_true (U)with jt|jt)<;>(rcases Bool.eq_false_or_eq_true (I.Kind==4)with qJ|qJ)<;>(rcases Bool.eq_false_or_eq_true (I.Kind==5)with vC|vC)<;>(rcases Bool.eq_false_or_eq_true (I.Number==0)with qP|qP)<;>(rcases Bool.eq_false_or_eq_true (I.Kind==1)with HO|HO)<;>(rcases Bool.eq_false_or_eq_true (I.Name==([]:arE))with HP|HP)<;>(rcases Bool.eq_false_or_eq_true (I.Kind==3)with HQ|HQ)<;>
   ((try simp only[aR.down,simprocAttr,jt,qJ,vC,qP,HO,HP,HQ])
    refine d_ (kc I.Kind 0 5 _ b0) (hK:= ?_);simp only[aR.down,simprocAttr,jt,qJ,vC,qP,HO,HP,HQ];exact bR (aa jt (aa qJ (aa vC (aa qP (aa HO (aa HP HQ)))))))
 exact dV aj [.bool (((U&&(((I.Kind==4)||(I.Kind==5))||(I.Number==0)))&&((I.Kind==1)||(I.Name==([]:arE))))&&((((I.Kind==1)||(I.Kind==3))||(I.Kind==5))||((I.a9.length:Int)==0)))]
theorem lq (I r) (h:pJ I=some r):ba ah 125 [.str I] (.bool r) []:=by
 refine bF [0] [.tmp 2] Tryz.func125 afm λbw aj bu=>an ?_;obtain⟨U,aY,h⟩:=ar h;refine du (b5 [(2,.bool (U&&(!(I==([116,97,117]:arE)))))] (λP aX=>?_) ?_)
 .rcases Bool.eq_false_or_eq_true (U)with lD|lD
  ·(try simp only[aR.down,simprocAttr,lD]);refine d_ (HM I _ aY) (hK:= ?_);simp only[aR.down,simprocAttr,lD];exact bR lD
  ·(try simp only[aR.down,simprocAttr,lD]);refine d_ (HM I _ aY) (hK:= ?_);simp only[aR.down,simprocAttr,lD];exact bR lD
 exact dV aj [.bool (U&&(!(I==([116,97,117]:arE))))]
theorem Ab (I R r) (h:xi I R=some r):ba ah 25 [.int .i64 I,.int .i64 R] (.bool r) []:=by
 refine bF [0,1] [.tmp 4] Tryz.func25 Nj λbw aj bu=>an ?_;obtain⟨U,aY,h⟩:=ar h;refine dC (kc I 0 (i64.wrap (R-1)) _ aY) _ ?_;exact dV aj [.bool U]
theorem aj3 (I R r) (h:LW I R=some r):ba ah 176 [c2 I,.slice (R.map br)] (.bool r) []:=by
 refine bF [0,1] [.tmp 4] Tryz.func176 afo λbw aj bu=>an ?_;refine an ?_;refine aA aj λ_ fk dt _=>an ?_;refine bh dt λ_ dJ cm _ _=>an ?_;refine aO h (λpj h=>?_) λpj h=>?_
 .refine du (b5 [(4,.bool (((I.a9.length:Int)==0)||((!(I.Name==([116,97,117]:arE)))&&(decide ((I.a9.length:Int)<=2)))))] (λP aX=>?_) ?_)
  ·(rcases Bool.eq_false_or_eq_true ((I.a9.length:Int)==0)with qJ|qJ)<;>(rcases Bool.eq_false_or_eq_true (I.Name==([116,97,117]:arE))with vC|vC)<;>
    (simp only[aR.down,simprocAttr,qJ,vC]
     exact bR (aa qJ vC))
  exact dV cm [.bool (((I.a9.length:Int)==0)||((!(I.Name==([116,97,117]:arE)))&&(decide ((I.a9.length:Int)<=2))))]
 .refine an ?_;refine aO h (λgp h=>?_) λgp h=>?_
  .exact aT cm [.bool ((I.a9.length:Int)==1)]
  .refine an ?_;refine aO h (λfp h=>?_) λfp h=>?_
   .obtain⟨U,fb,h⟩:=ar h;refine c5 fb _ ?_;exact dV cm [.bool ((I.a9.length:Int)==U.bW)]
   .exact aS (dJ _ (fk _ (inl (aT aj [.bool true]))))
theorem UU (I r) (h:CJ I=some r):ba ah 159 [.int .i64 I] (.bool r) []:=by
 refine bF [0] [.tmp 2] Tryz.func159 afp λbw aj bu=>an ?_;obtain⟨U,aY,h⟩:=ar h;refine dC (kc I 0 63 _ aY) _ ?_;exact dV aj [.bool U]
theorem aj4 (I R r) (h:Gj I R=some r):ba ah 168 [bf I,.int .i64 R] (.bool r) []:=by
 refine bF [0,1] [.tmp 4] Tryz.func168 afq λbw aj bu=>an ?_;refine aA aj λ_ bD bb ai=>an ?_;refine bh bb λ_ gg bX _ _=>an ?_;refine aO h (λeL h=>?_) λeL h=>?_
 .obtain⟨U,gZ,h⟩:=ar h;refine dC (UU I.Value _ gZ) _ ?_;exact dV bX [.bool U]
 .refine an ?_;refine aO h (λfU h=>?_) λfU h=>?_
  .obtain⟨ai,dL,h⟩:=ar h;refine dC (kc I.Value 0 (i64.wrap (R-1)) _ dL) _ ?_;exact dV bX [.bool ai]
  .refine an ?_;refine aO h (λh8 h=>?_) λh8 h=>?_
   .obtain⟨aB,cN,h⟩:=ar h;refine dC (kc I.Value 0 8 _ cN) _ ?_;exact dV bX [.bool aB]
   .refine an ?_;refine aO h (λlp h=>?_) λlp h=>?_
    .exact aT bX [.bool (I.Value==0)]
    .exact aS (gg _ (bD _ (inl (aT aj [.bool false]))))
theorem aj5 (I r) (h:LX I=some r):ba ah 169 [bf I] (.int .i64 r) []:=by
 refine bF [0] [.tmp 2] Tryz.func169 afr λbw aj bu=>an ?_;refine aA aj λ_ bD bb _=>an ?_;refine bh bb λ_ gg bX _ _=>an ?_;refine aO h (λeL h=>?_) λeL h=>?_
 .exact aT bX [.int .i64 2]
 .refine an ?_;refine aO h (λfh h=>?_) λfh h=>?_
  .exact aT bX [.int .i64 1]
  .exact aS (gg _ (bD _ (inl (aT aj [.int .i64 0]))))
theorem UW (I R aM r) (h:CK I R aM=some r):ba ah 140 [.slice (I.map bf),.int .i64 R,.int .i64 aM] (.bool r) []:=by
 refine bF [0,1,2] [.tmp 6] Tryz.func140 afs λbw aj bu=>an ?_;refine aA aj λ_ bD bb ai=>?_;obtain⟨U,bT,h⟩:=ar h;rcases dH h with⟨cS,h⟩|⟨cS,h⟩
 .refine fw (hz cS) (kc R 0 29 _ bT) _ ?_;refine iE rfl ?_;exact aT bb [.bool false]
 .obtain⟨ai,b0,h⟩:=ar h;rcases dH h with⟨cw,h⟩|⟨cw,h⟩
  .refine du (b5 [(0,.slice (I.map bf)),(1,.int .i64 R),(24,.bool true)] (λP aX=>?_) ?_)
   ·(try simp only[aR.down,simprocAttr,(bV cS),(hz cw)]);refine d_ (kc R 0 29 _ bT) (hK:= ?_);simp only[aR.down,simprocAttr,(bV cS),(hz cw)];refine ij (kc aM 1 60 _ b0) (hK:= ?_);simp only[aR.down,simprocAttr,(bV cS),(hz cw)];exact bR (aa (bV cS) (hz cw))
   refine iE rfl ?_;exact aT bb [.bool false]
  .obtain⟨aB,jz,h⟩:=ar h;refine du (b5 [(0,.slice (I.map bf)),(1,.int .i64 R),(24,.bool (!aB))] (λP aX=>?_) ?_)
   ·(try simp only[aR.down,simprocAttr,(bV cS),(bV cw)]);refine d_ (kc R 0 29 _ bT) (hK:= ?_);simp only[aR.down,simprocAttr,(bV cS),(bV cw)];refine ij (kc aM 1 60 _ b0) (hK:= ?_);simp only[aR.down,simprocAttr,(bV cS),(bV cw)];refine ij (kc (I.length:Int) 1 aM _ jz) (hK:= ?_);simp only[aR.down,simprocAttr,(bV cS),(bV cw)];exact bR (aa (bV cS) (bV cw))
   refine aO h (λjV h=>?_) λjV h=>?_
   .exact aT bb [.bool false]
   .refine aS (bD _ (inl (an ?_)));refine aA aj λ_ eS el _=>an ?_;refine bh el λOE _ kZ jI _=>?_;show a6 ah (.loop ?jj) _ _;have j_:∀n jg sY,zn I R n jg sY=some r->cL ah ?jj OE (aq [(1,.int .i64 R),(7,.int .i64 jg),(25,.slice (I.map bf)),(26,.int .i64 (I.length:Int)),(27,.int .i64 sY)]):=by
     refine cY λ_ ka jg sY h=>cV kZ λ_ ju jm kI=>an ?_;refine aA jm λ_ ng _ me=>aO h (λgn h=>?_) λgn h=>?_
     .refine aS (ng _ (inl (aA jm λ_ nM nL _=>bh nL λ_ mh mJ _ _=>?_)));obtain⟨a7,jH,h⟩:=ar h;refine c5 jH _ ?_;refine aA mJ λ_ DL vy _=>?_;rcases dH h with⟨jv,h⟩|⟨jv,h⟩
      .refine c5 jv _ ?_;refine iE rfl ?_;exact aT vy [.bool false]
      .obtain⟨aP,ud,h⟩:=ar h;refine fw jv (aj4 a7 R _ ud) _ ?_;refine aO h (λkK h=>?_) λkK h=>?_
       .exact aT vy [.bool false]
       .refine aS (DL _ (inl ?_));obtain⟨aV,mj,h⟩:=ar h;refine Ui (aj5 a7 _ mj) _ ?_;refine mh _ (nM _ (inl (dG ?_)));exact ju _ (inr ⟨_,bx rfl,ka (i64.wrap (jg+(i64.wrap (aV-1)))) (i64.wrap (sY+1)) h⟩)
     .exact cT (me 0 _ (kI 0 _ (jI _ (eS _ (inl (aT aj [.bool (jg==0)]))))))
    exact dy h λn h=>j_ n 1 0 h
theorem aj6 (I R r) (h:LZ I R=some r):ba ah 177 [.slice (I.map bf),.ref (e8 R)] (.bool r) []:=by
 refine bF [0,1] [.tmp 3] Tryz.func177 aft λbw aj bu=>an ?_;obtain⟨U,aY,h⟩:=ar h;refine dC (UW I R.scope 15 _ aY) _ ?_;exact dV aj [.bool (!U)]
theorem aj7 (I R r) (h:L1 I R=some r):ba ah 167 [.slice (I.map cy),.fn 177 [.ref (e8 R)]] (.int .i64 r) []:=by
 refine bF [0,1] [.tmp 4] Tryz.func167 afu λbw aj bu=>an ?_;refine aA aj λ_ bD bb ai=>an ?_;refine bh bb λeC _ bX bN _=>?_;show a6 ah (.loop ?eA) _ _;have eT:∀n cI,CL I R n cI=some r->cL ah ?eA eC (aq [(0,.slice (I.map cy)),(1,.fn 177 [.ref (e8 R)]),(7,.int .i64 (I.length:Int)),(8,.int .i64 cI)]):=by
  refine cY λ_ eH cI h=>cV bX λ_ dJ cm aP=>an ?_;refine aA cm λ_ dR _ bp=>aO h (λcw h=>?_) λcw h=>?_
  .refine aS (dR _ (inl (aA cm λ_ cJ cd _=>bh cd λ_ b1 cz _ _=>an ?_)));obtain⟨U,dw,h⟩:=ar h;obtain⟨ai,dQ,h⟩:=ar h;refine fw dw (aj6 U R _ dQ) _ ?_;refine aO h (λfp h=>?_) λfp h=>?_
   .exact aT cz [.int .i64 cI]
   .refine aS (b1 _ (cJ _ (inl (dG ?_))));exact dJ _ (inr ⟨_,bx rfl,eH (i64.wrap (cI+1)) h⟩)
  .exact cT (bp 0 _ (aP 0 _ (bN _ (bD _ (inl (aT aj [.int .i64 (-1)]))))))
 exact dy h λn h=>eT n 0 h
theorem aj8 (I R r) (h:Gk I R=some r):ba ah 137 [.slice (I.map cy),.fn 177 [.ref (e8 R)]] (.bool r) []:=by
 refine bF [0,1] [.tmp 4] Tryz.func137 afv λbw aj bu=>an ?_;obtain⟨U,aY,h⟩:=ar h;refine dC (aj7 I R _ aY) _ ?_;exact dV aj [.bool (decide (0<=U))]
theorem aj9 (I R aM r) (h:CP I R aM=some r):ba ah 156 [c2 I,.slice (R.map br),e8 aM] (.int .i64 r) []:=by
 refine bF [0,1,2] [.tmp 6] Tryz.func156 afz λbw aj bu=>an ?_;refine aA aj λ_ bD bb ai=>bh bb λUX fk dt _ aB=>?_;obtain⟨U,cF,h⟩:=ar h;refine dC (aj2 I _ cF) _ ?_;refine aO h (λeL h=>?_) λeL h=>?_
 .exact aT dt [.int .i64 2]
 .skip;have ub:∀CO,CN I R aM CO=some r->a6 ah T7 UX (aq [(1,.slice (R.map br)),(3,.aG (c2 I)),(5,.aG (e8 aM)),(11,.bool CO)]):=by
   intro CO h;refine aO h (λcw h=>?_) λcw h=>?_
   .exact aT dt [.int .i64 3]
   .skip;have DM:∀CM,xj I R aM CM=some r->a6 ah T6 UX (aq [(1,.slice (R.map br)),(3,.aG (c2 I)),(5,.aG (e8 aM)),(26,.bool CM)]):=by
     intro CM h;refine aO h (λfU h=>?_) λfU h=>?_
     .exact aT dt [.int .i64 4]
     .obtain⟨ai,dw,h⟩:=ar h;refine dC (aj3 I R _ dw) _ ?_;refine aO h (λh8 h=>?_) λh8 h=>?_
      .exact aT dt [.int .i64 5]
      .refine nf (I.Kind==5) [(3,.aG (c2 I)),(5,.aG (e8 aM)),(54,.bool ((I.Kind==5)&&(!aM.behind)))] ?_;refine aO h (λhC h=>?_) λhC h=>?_
       .exact aT dt [.int .i64 6]
       .refine nf (I.Kind==4) [(3,.aG (c2 I)),(5,.aG (e8 aM)),(63,.bool ((I.Kind==4)&&(decide (6<=aM.scope))))] ?_;refine aO h (λgn h=>?_) λgn h=>?_
        .exact aT dt [.int .i64 7]
        .obtain⟨aB,k1,h⟩:=ar h;refine du (b5 [(72,.bool aB)] (λP aX=>?_) ?_)
         ·(try simp only[aR.down,simprocAttr]);refine d_ (aj8 I.a9 aM _ k1) rfl rfl (by simp only[aR.down,simprocAttr,Ds.down]<;>rfl) rfl (inr (by rfl)) ?_;simp only[aR.down,simprocAttr];exact bR trivial
         refine aO h (λir h=>?_) λir h=>?_
         .exact aT dt [.int .i64 8]
         .exact aS (fk _ (bD _ (inl (aT aj [.int .i64 0]))))
    rcases dH h with⟨kv,h⟩|⟨kv,h⟩
    .obtain⟨a7,ud,h⟩:=ar h;rcases dH h with⟨kK,h⟩|⟨kK,h⟩
     .refine mB (b5 (K:=eB _) [(1,.slice (R.map br)),(3,.aG (c2 I)),(5,.aG (e8 aM)),(26,.bool true)] (λP aX=>?_) ?_)
      ·(try simp only[aR.down,simprocAttr,kv,(hz kK)]);refine ij (kc I.Number 1 7 _ ud) (hK:= ?_);simp only[aR.down,simprocAttr,kv,(hz kK)];exact bR (aa kv (hz kK))
      exact inr ⟨_,bx rfl,DM true h⟩
     .rcases dH h with⟨iS,h⟩|⟨iS,h⟩
      .obtain⟨aP,oZ,h⟩:=ar h;refine mB (b5 (K:=eB _) [(1,.slice (R.map br)),(3,.aG (c2 I)),(5,.aG (e8 aM)),(26,.bool (!aP))] (λP aX=>?_) ?_)
       ·(try simp only[aR.down,simprocAttr,kv,(bV kK),iS]);refine ij (kc I.Number 1 7 _ ud) (hK:= ?_);simp only[aR.down,simprocAttr,kv,(bV kK),iS];refine ij (Ab I.Number (R.length:Int) _ oZ) (hK:= ?_);simp only[aR.down,simprocAttr,kv,(bV kK),iS];exact bR (aa kv (aa (bV kK) iS))
       exact inr ⟨_,bx rfl,DM (!aP) h⟩
      .refine mB (b5 (K:=eB _) [(1,.slice (R.map br)),(3,.aG (c2 I)),(5,.aG (e8 aM)),(26,.bool false)] (λP aX=>?_) ?_)
       ·(try simp only[aR.down,simprocAttr,kv,(bV kK),iS]);refine ij (kc I.Number 1 7 _ ud) (hK:= ?_);simp only[aR.down,simprocAttr,kv,(bV kK),iS];exact bR (aa kv (aa (bV kK) iS))
       exact inr ⟨_,bx rfl,DM false h⟩
    .rcases dH h with⟨h3,h⟩|⟨h3,h⟩
     .obtain⟨aV,mK,h⟩:=ar h;refine mB (b5 (K:=eB _) [(1,.slice (R.map br)),(3,.aG (c2 I)),(5,.aG (e8 aM)),(26,.bool (!aV))] (λP aX=>?_) ?_)
      ·(try simp only[aR.down,simprocAttr,kv,h3]);refine ij (Ab I.Number (R.length:Int) _ mK) (hK:= ?_);simp only[aR.down,simprocAttr,kv,h3];exact bR (aa kv h3)
      exact inr ⟨_,bx rfl,DM (!aV) h⟩
     .refine mB (b5 (K:=eB _) [(1,.slice (R.map br)),(3,.aG (c2 I)),(5,.aG (e8 aM)),(26,.bool false)] (λP aX=>?_) ?_)
      .simp only[aR.down,simprocAttr,kv,h3];exact bR (aa kv h3)
      exact inr ⟨_,bx rfl,DM false h⟩
  rcases dH h with⟨o0,h⟩|⟨o0,h⟩
  .rcases dH h with⟨qQ,h⟩|⟨qQ,h⟩
   .obtain⟨bp,DJ,h⟩:=ar h;refine mB (b5 (K:=eB _) [(1,.slice (R.map br)),(3,.aG (c2 I)),(5,.aG (e8 aM)),(11,.bool (!bp))] (λP aX=>?_) ?_)
    ·(try simp only[aR.down,simprocAttr,o0,qQ]);refine ij (lq I.Name _ DJ) (hK:= ?_);simp only[aR.down,simprocAttr,o0,qQ];exact bR (aa o0 qQ)
    exact inr ⟨_,bx rfl,ub (!bp) h⟩
   .refine mB (b5 (K:=eB _) [(1,.slice (R.map br)),(3,.aG (c2 I)),(5,.aG (e8 aM)),(11,.bool false)] (λP aX=>?_) ?_)
    .simp only[aR.down,simprocAttr,o0,qQ];exact bR (aa o0 qQ)
    exact inr ⟨_,bx rfl,ub false h⟩
  .refine mB (b5 (K:=eB _) [(1,.slice (R.map br)),(3,.aG (c2 I)),(5,.aG (e8 aM)),(11,.bool false)] (λP aX=>?_) ?_)
   .simp only[aR.down,simprocAttr,o0];exact bR o0
   exact inr ⟨_,bx rfl,ub false h⟩
theorem aj_ (I R r) (h:CQ I R=some r):ba ah 122 [.slice (I.map br),br R] (.tuple [.int .i64 r.1,.int .i64 r.2]) []:=by
 refine bF [0,1] [.tmp 4,.tmp 5] Tryz.func122 afA λbw aj bu=>an ?_;refine aA aj λ_ bD bb ai=>?_;obtain⟨U,bT,h⟩:=ar h;rcases dH h with⟨cS,h⟩|⟨cS,h⟩
 .refine mg (hz cS) (kc (R.Body.length:Int) 1 20 _ bT) _ ?_;refine iE rfl ?_;exact aT bb [.int .i64 0,.int .i64 1]
 .obtain⟨ai,b0,h⟩:=ar h;refine ko rfl (h0 [(0,.slice (I.map br)),(3,.aG (br R)),(22,.bool (ai !=(R.Body.length:Int)))] (λP aX=>?_) ?_)
  ·(try simp only[cM.down,simprocAttr,(bV cS)]);refine g1 (kc (R.Body.length:Int) 1 20 _ bT) (hK:= ?_);simp only[cM.down,simprocAttr,(bV cS)];refine m4 (US R 0 _ b0) (hK:= ?_);simp only[cM.down,simprocAttr,(bV cS)];refine⟨hc (by kernel_rfl),?_⟩;exact bR (bV cS)
  refine aO h (λcw h=>?_) λcw h=>?_
  .exact aT bb [.int .i64 0,.int .i64 1]
  .refine aS (bD _ (inl ?_));obtain⟨aB,mX,h⟩:=ar h;refine dC (HN R _ mX) _ ?_;refine aA aj λ_ gI kL _=>an ?_;refine bh kL λNJ _ el h8 _=>?_;show a6 ah (.loop ?jj) _ _;have j_:∀n pK,xk I R aB n pK=some r->cL ah ?jj NJ (aq [(0,.slice (I.map br)),(6,.af 2 (aB.map e8)),(26,.slice (R.Body.map c2)),(27,.int .i64 (R.Body.length:Int)),(28,.int .i64 pK)]):=by
    refine cY λ_ ka pK h=>cV el λ_ hd im ik=>an ?_;refine aA im λ_ ju _ kI=>aO h (λlp h=>?_) λlp h=>?_
    .refine aS (ju _ (inl (aA im λ_ ng ua _=>bh ua λ_ s4 Dx _ _=>?_)));obtain⟨a7,fq,h⟩:=ar h;refine c5 fq _ ?_;obtain⟨aP,jH,h⟩:=ar h;obtain⟨aV,hJ,h⟩:=ar h;refine mg (aa jH (cu jH)) (aj9 a7 I aP _ hJ) _ ?_;refine an ?_;refine aO h (λjv h=>?_) λjv h=>?_
     .exact aT Dx [.int .i64 pK,.int .i64 aV]
     .refine aS (s4 _ (ng _ (inl (dG ?_))));exact hd _ (inr ⟨_,bx rfl,ka (i64.wrap (pK+1)) h⟩)
    .exact cT (kI 0 _ (ik 0 _ (h8 _ (gI _ (inl (aT aj [.int .i64 0,.int .i64 0]))))))
   exact dy h λn h=>j_ n 0 h
theorem aka (I r) (h:Gm I=some r):ba ah 88 [.slice (I.map br)] (.bool r) []:=by
 refine bF [0] [.tmp 2] Tryz.func88 afB λbw aj bu=>an ?_;refine aA aj λ_ bD bb ai=>?_;obtain⟨U,bT,h⟩:=ar h;rcases dH h with⟨cS,h⟩|⟨cS,h⟩
 .refine fw (hz cS) (kc (I.length:Int) 1 4 _ bT) _ ?_;refine iE rfl ?_;exact aT bb [.bool false]
 .obtain⟨ai,b0,h⟩:=ar h;refine du (b5 [(0,.slice (I.map br)),(15,.bool (!ai))] (λP aX=>?_) ?_)
  ·(try simp only[aR.down,simprocAttr,(bV cS)]);refine d_ (kc (I.length:Int) 1 4 _ bT) (hK:= ?_);simp only[aR.down,simprocAttr,(bV cS)];refine ij (ajT I _ b0) (hK:= ?_);simp only[aR.down,simprocAttr,(bV cS)];exact bR (bV cS)
  refine aO h (λcw h=>?_) λcw h=>?_
  .exact aT bb [.bool false]
  .refine aS (bD _ (inl (aA aj λ_ b1 cz _=>an ?_)));refine bh cz λxH _ kL gp _=>?_;show a6 ah (.loop ?hT) _ _;have hV:∀n qB,zo I n qB=some r->cL ah ?hT xH (aq [(0,.slice (I.map br)),(16,.slice (I.map br)),(17,.int .i64 (I.length:Int)),(18,.int .i64 qB)]):=by
    refine cY λ_ hk qB h=>cV kL λ_ gh gB eK=>an ?_;refine aA gB λ_ hd _ ik=>aO h (λjI h=>?_) λjI h=>?_
    .refine aS (hd _ (inl (aA gB λ_ ju jm _=>bh jm λ_ qM rT _ _=>?_)));obtain⟨aB,hn,h⟩:=ar h;refine c5 hn _ ?_;refine aA rT λ_ nM nL _=>?_;obtain⟨a7,k1,h⟩:=ar h;rcases dH h with⟨ir,h⟩|⟨ir,h⟩
     .refine mg (hz ir) (HM aB.Name _ k1) _ ?_;refine iE rfl ?_;exact aT nL [.bool false]
     .obtain⟨aP,lS,h⟩:=ar h;obtain⟨aV,xF,h⟩:=ar h;refine ko rfl (h0 [(0,.slice (I.map br)),(4,.aG (br aB)),(16,.slice (I.map br)),(17,.int .i64 (I.length:Int)),(18,.int .i64 qB),(35,.bool (decide (0<=aV)))] (λP aX=>?_) ?_)
      ·(try simp only[cM.down,simprocAttr,(bV ir),lS, @hQ _ br 3 (λ_=>rfl)]);refine g1 (HM aB.Name _ k1) (hK:= ?_);simp only[cM.down,simprocAttr,(bV ir),lS, @hQ _ br 3 (λ_=>rfl)];refine m4 (ajX aP aB.Name _ xF) (hK:= ?_);simp only[cM.down,simprocAttr,(bV ir),lS, @hQ _ br 3 (λ_=>rfl)];refine⟨hc (by kernel_rfl),?_⟩;exact bR (aa (bV ir) (aa lS (@hQ _ br 3 λ_=>rfl)))
      refine aO h (λkv h=>?_) λkv h=>?_
      .exact aT nL [.bool false]
      .refine aS (nM _ (inl ?_));obtain⟨bp,h9,h⟩:=ar h;refine dC (aj_ I aB _ h9) _ ?_;refine an ?_;refine aO h (λh3 h=>?_) λh3 h=>?_
       .exact aT rT [.bool false]
       .refine aS (qM _ (ju _ (inl (dG ?_))));exact gh _ (inr ⟨_,bx rfl,hk (i64.wrap (qB+1)) h⟩)
    .exact cT (ik 0 _ (eK 0 _ (gp _ (b1 _ (inl (aT aj [.bool true]))))))
   exact dy h λn h=>hV n 0 h
theorem akb (I r) (h:Gn I=some r):ba ah 158 [.int .i64 I] (.bool r) []:=by
 refine bF [0] [.tmp 2] Tryz.func158 afC λbw aj bu=>an ?_;obtain⟨U,aY,h⟩:=ar h;refine dC (UU I _ aY) _ ?_;exact dV aj [.bool (!U)]
theorem akc (I r) (h:Gq I=some r):ba ah 178 [.slice (I.map bd),.fn 158 []] (.int .i64 r) []:=by
 refine bF [0,1] [.tmp 4] Tryz.func178 afD λbw aj bu=>an ?_;refine aA aj λ_ bD bb ai=>an ?_;refine bh bb λeC _ bX bN _=>?_;show a6 ah (.loop ?eA) _ _;have eT:∀n cI,zp I n cI=some r->cL ah ?eA eC (aq [(0,.slice (I.map bd)),(1,.fn 158 []),(7,.int .i64 (I.length:Int)),(8,.int .i64 cI)]):=by
  refine cY λ_ eH cI h=>cV bX λ_ dJ cm aP=>an ?_;refine aA cm λ_ dR _ bp=>aO h (λcw h=>?_) λcw h=>?_
  .refine aS (dR _ (inl (aA cm λ_ cJ cd _=>bh cd λ_ b1 cz _ _=>an ?_)));obtain⟨U,dw,h⟩:=ar h;obtain⟨ai,dQ,h⟩:=ar h;refine fw dw (akb U _ dQ) _ ?_;refine aO h (λfp h=>?_) λfp h=>?_
   .exact aT cz [.int .i64 cI]
   .refine aS (b1 _ (cJ _ (inl (dG ?_))));exact dJ _ (inr ⟨_,bx rfl,eH (i64.wrap (cI+1)) h⟩)
  .exact cT (bp 0 _ (aP 0 _ (bN _ (bD _ (inl (aT aj [.int .i64 (-1)]))))))
 exact dy h λn h=>eT n 0 h
theorem akd (I r) (h:Gr I=some r):ba ah 157 [.slice (I.map bd),.fn 158 []] (.bool r) []:=by
 refine bF [0,1] [.tmp 4] Tryz.func157 afE λbw aj bu=>an ?_;obtain⟨U,aY,h⟩:=ar h;refine dC (akc I _ aY) _ ?_;exact dV aj [.bool (decide (0<=U))]
theorem UY (I r) (h:zq I=some r):ba ah 124 [.slice (I.map bd)] (.bool r) []:=by
 refine bF [0] [.tmp 2] Tryz.func124 afF λbw aj bu=>an ?_;obtain⟨U,aY,h⟩:=ar h;refine dC (akd I _ aY) _ ?_;exact dV aj [.bool (!U)]
theorem ake (I R r) (h:Gs I R=some r):ba ah 91 [.slice (I.map br),dF R] (.bool r) []:=by
 refine bF [0,1] [.tmp 4] Tryz.func91 afG λbw aj bu=>an ?_;obtain⟨U,aY,h⟩:=ar h;rcases dH h with⟨bN,h⟩|⟨bN,h⟩
 .obtain⟨ai,cF,h⟩:=ar h;rcases dH h with⟨eL,h⟩|⟨eL,h⟩
  .obtain⟨aB,b0,h⟩:=ar h;refine ko rfl (h0 [(4,.bool aB)] (λP aX=>?_) ?_)
   ·(try simp only[cM.down,simprocAttr,bN,cF,eL]);refine g1 (Ab R.gl (I.length:Int) _ aY) (hK:= ?_);simp only[cM.down,simprocAttr,bN,cF,eL];refine m4 (UY R.e7 _ b0) (hK:= ?_);simp only[cM.down,simprocAttr,bN,cF,eL];refine⟨hc (by kernel_rfl),?_⟩;exact bR (aa bN (aa cF eL))
   exact dV aj [.bool aB]
  .refine mg (aa bN (aa cF eL)) (Ab R.gl (I.length:Int) _ aY) _ ?_;exact dV aj [.bool false]
 .refine mg bN (Ab R.gl (I.length:Int) _ aY) _ ?_;exact dV aj [.bool false]
theorem akf (I R r) (h:L3 I R=some r):ba ah 90 [dF I,.ref (fF R)] (.bool r) []:=by
 refine bF [0,1] [.tmp 3] Tryz.func90 Nk λbw aj bu=>an ?_;obtain⟨U,aY,h⟩:=ar h;refine dC (ake R.aC I _ aY) _ ?_;exact dV aj [.bool (!U)]
theorem akg (I R r) (h:L5 I R=some r):ba ah 123 [.slice (I.map dF),.fn 90 [.ref (fF R)]] (.int .i64 r) []:=by
 refine bF [0,1] [.tmp 4] Tryz.func123 afH λbw aj bu=>an ?_;refine aA aj λ_ bD bb ai=>an ?_;refine bh bb λeC _ bX bN _=>?_;show a6 ah (.loop ?eA) _ _;have eT:∀n cI,CR I R n cI=some r->cL ah ?eA eC (aq [(0,.slice (I.map dF)),(1,.fn 90 [.ref (fF R)]),(7,.int .i64 (I.length:Int)),(8,.int .i64 cI)]):=by
  refine cY λ_ eH cI h=>cV bX λ_ dJ cm aP=>an ?_;refine aA cm λ_ dR _ bp=>aO h (λcw h=>?_) λcw h=>?_
  .refine aS (dR _ (inl (aA cm λ_ cJ cd _=>bh cd λ_ b1 cz _ _=>an ?_)));obtain⟨U,dw,h⟩:=ar h;obtain⟨ai,dQ,h⟩:=ar h;refine fw dw (akf U R _ dQ) _ ?_;refine aO h (λfp h=>?_) λfp h=>?_
   .exact aT cz [.int .i64 cI]
   .refine aS (b1 _ (cJ _ (inl (dG ?_))));exact dJ _ (inr ⟨_,bx rfl,eH (i64.wrap (cI+1)) h⟩)
  .exact cT (bp 0 _ (aP 0 _ (bN _ (bD _ (inl (aT aj [.int .i64 (-1)]))))))
 exact dy h λn h=>eT n 0 h
theorem akh (I R r) (h:Gt I R=some r):ba ah 89 [.slice (I.map dF),.fn 90 [.ref (fF R)]] (.bool r) []:=by
 refine bF [0,1] [.tmp 4] Tryz.func89 afI λbw aj bu=>an ?_;obtain⟨U,aY,h⟩:=ar h;refine dC (akg I R _ aY) _ ?_;exact dV aj [.bool (decide (0<=U))]
theorem UZ (I r) (h:Gu I=some r):ba ah 186 [.str I] (.bool r) []:=by
 refine bF [0] [.tmp 2] Tryz.func186 afJ λbw aj bu=>an ?_;exact aT aj [.bool false]
theorem aki (I R r) (h:Gv I R=some r):ba ah 179 [.str I,.str R] (.int .i64 r) []:=by
 refine bF [0,1] [.tmp 4] Tryz.func179 afK λbw aj bu=>an ?_;obtain⟨U,aY,h⟩:=ar h;refine dC (UZ I _ aY) _ ?_;obtain⟨ai,cF,h⟩:=ar h;refine dC (UZ R _ cF) _ ?_;refine aA aj λ_ dp dK _=>an ?_;refine aO h (λcw h=>?_) λcw h=>?_
 .refine aA dK λ_ cJ cd _=>an ?_;refine aO h (λjV h=>?_) λjV h=>?_
  .exact aT cd [.int .i64 0]
  .exact aS (cJ _ (inl (aT dK [.int .i64 (-1)])))
 .refine aS (dp _ (inl (aA aj λ_ eS el _=>an ?_)));refine aO h (λjI h=>?_) λjI h=>?_
  .exact aT el [.int .i64 1]
  .refine aS (eS _ (inl (aA aj λ_ qM rT _=>an ?_)));refine aO h (λgn h=>?_) λgn h=>?_
   .exact aT rT [.int .i64 (-1)]
   .refine aS (qM _ (inl (aA aj λ_ mh mJ _=>an ?_)));refine aO h (λir h=>?_) λir h=>?_
    .exact aT mJ [.int .i64 1]
    .exact aS (mh _ (inl (aT aj [.int .i64 0])))
theorem akj (I R r) (h:Gx I R=some r):ba ah 160 [.slice (I.map bj),.slice (R.map bj)] (.int .i64 r) []:=by
 refine bF [0,1] [.tmp 4] Tryz.func160 afL λbw aj bu=>an ?_;refine aA aj λ_ bD bb ai=>an ?_;refine bh bb λeC _ bX bN _=>?_;show a6 ah (.loop ?eA) _ _;have eT:∀n qC,Gw I R n qC=some r->cL ah ?eA eC (aq [(0,.slice (I.map bj)),(1,.slice (R.map bj)),(9,.slice (I.map bj)),(10,.int .i64 (I.length:Int)),(11,.int .i64 qC)]):=by
  refine cY λ_ eH qC h=>cV bX λ_ dJ cm aP=>an ?_;refine aA cm λ_ dR _ bp=>aO h (λcw h=>?_) λcw h=>?_
  .refine aS (dR _ (inl (aA cm λ_ cJ cd _=>bh cd λ_ b1 cz _ _=>?_)));obtain⟨U,dL,h⟩:=ar h;refine c5 dL _ ?_;refine aA cz λ_ gh gB _=>an ?_;refine aO h (λfp h=>?_) λfp h=>?_
   .exact aT gB [.int .i64 1]
   .refine aS (gh _ (inl ?_));obtain⟨ai,fy,h⟩:=ar h;refine c5 fy _ ?_;obtain⟨aB,hn,h⟩:=ar h;refine dC (aki U ai _ hn) _ ?_;refine an ?_;refine aO h (λom h=>?_) λom h=>?_
    .exact aT cz [.int .i64 aB]
    .refine aS (b1 _ (cJ _ (inl (dG ?_))));exact dJ _ (inr ⟨_,bx rfl,eH (i64.wrap (qC+1)) h⟩)
  .refine cT (bp 0 _ (aP 0 _ (bN _ (bD _ (inl (aA aj λ_ DL vy _=>an ?_))))));refine aO h (λjv h=>?_) λjv h=>?_
   .exact aT vy [.int .i64 (-1)]
   .exact aS (DL _ (inl (aT aj [.int .i64 0])))
 exact dy h λn h=>eT n 0 h
theorem akk (I R r) (h:Gy I R=some r):ba ah 126 [bL I,bL R] (.int .i64 r) []:=by
 refine bF [0,1] [.tmp 4] Tryz.func126 afM λbw aj bu=>an ?_;obtain⟨U,aY,h⟩:=ar h;refine du (b5 [(4,.int .i64 U)] (λP aX=>?_) ?_)
 ·(try simp only[aR.down,simprocAttr,(show∀s,dz ah s 25 2 [(0,.str I.Left),(1,.str I.ct)]=some (.af 1 [.str I.Left,.str I.ct],s)from λs=>by kernel_rfl),(show∀s,dz ah s 25 2 [(0,.str R.Left),(1,.str R.ct)]=some (.af 1 [.str R.Left,.str R.ct],s)from λs=>by kernel_rfl)]);refine d_ (akj [I.Left,I.ct] [R.Left,R.ct] _ aY) rfl rfl (by simp only[aR.down,simprocAttr,(show∀s,dz ah s 25 2 [(0,.str I.Left),(1,.str I.ct)]=some (.af 1 [.str I.Left,.str I.ct],s)from λs=>by kernel_rfl),(show∀s,dz ah s 25 2 [(0,.str R.Left),(1,.str R.ct)]=some (.af 1 [.str R.Left,.str R.ct],s)from λs=>by kernel_rfl),g9,g_,ha,dm,J.shares, @bn _ bj bj (λ_=>hH _), @bn _ bj bj (λ_=>hH _)]<;>rfl) rfl (inr (by rfl)) ?_;simp only[aR.down,simprocAttr,(show∀s,dz ah s 25 2 [(0,.str I.Left),(1,.str I.ct)]=some (.af 1 [.str I.Left,.str I.ct],s)from λs=>by kernel_rfl),(show∀s,dz ah s 25 2 [(0,.str R.Left),(1,.str R.ct)]=some (.af 1 [.str R.Left,.str R.ct],s)from λs=>by kernel_rfl)];exact bR (aa (show∀s,dz ah s 25 2 [(0,.str I.Left),(1,.str I.ct)]=some (.af 1 [.str I.Left,.str I.ct],s)from λs=>by kernel_rfl) (show∀s,dz ah s 25 2 [(0,.str R.Left),(1,.str R.ct)]=some (.af 1 [.str R.Left,.str R.ct],s)from λs=>by kernel_rfl))
 exact dV aj [.int .i64 U]
theorem akl (I R r) (h:L6 I R=some r):ba ah 128 [bL I,.ref (bL R)] (.bool r) []:=by
 refine bF [0,1] [.tmp 3] Tryz.func128 afN λbw aj bu=>an ?_;refine nf (I.Left==R.Result) [(3,.bool ((I.Left==R.Result)||(I.ct==R.Result)))] ?_;exact dV aj [.bool ((I.Left==R.Result)||(I.ct==R.Result))]
theorem akm (I R r) (h:L8 I R=some r):ba ah 161 [.slice (I.map bL),.fn 128 [.ref (bL R)]] (.int .i64 r) []:=by
 refine bF [0,1] [.tmp 4] Tryz.func161 afO λbw aj bu=>an ?_;refine aA aj λ_ bD bb ai=>an ?_;refine bh bb λeC _ bX bN _=>?_;show a6 ah (.loop ?eA) _ _;have eT:∀n cI,CS I R n cI=some r->cL ah ?eA eC (aq [(0,.slice (I.map bL)),(1,.fn 128 [.ref (bL R)]),(7,.int .i64 (I.length:Int)),(8,.int .i64 cI)]):=by
  refine cY λ_ eH cI h=>cV bX λ_ dJ cm aP=>an ?_;refine aA cm λ_ dR _ bp=>aO h (λcw h=>?_) λcw h=>?_
  .refine aS (dR _ (inl (aA cm λ_ cJ cd _=>bh cd λ_ b1 cz _ _=>an ?_)));obtain⟨U,dw,h⟩:=ar h;obtain⟨ai,dQ,h⟩:=ar h;refine fw dw (akl U R _ dQ) _ ?_;refine aO h (λfp h=>?_) λfp h=>?_
   .exact aT cz [.int .i64 cI]
   .refine aS (b1 _ (cJ _ (inl (dG ?_))));exact dJ _ (inr ⟨_,bx rfl,eH (i64.wrap (cI+1)) h⟩)
  .exact cT (bp 0 _ (aP 0 _ (bN _ (bD _ (inl (aT aj [.int .i64 (-1)]))))))
 exact dy h λn h=>eT n 0 h
theorem U0 (I R r) (h:CT I R=some r):ba ah 127 [.slice (I.map bL),.fn 128 [.ref (bL R)]] (.bool r) []:=by
 refine bF [0,1] [.tmp 4] Tryz.func127 afP λbw aj bu=>an ?_;obtain⟨U,aY,h⟩:=ar h;refine dC (akm I R _ aY) _ ?_;exact dV aj [.bool (decide (0<=U))]
end Go.Proofs.YtmaenemdkobeeaaGreat
