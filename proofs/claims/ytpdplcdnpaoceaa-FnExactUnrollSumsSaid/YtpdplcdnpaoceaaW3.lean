/- Part of a proof that a law returns true for every input. No condition. -/
import Derived.Test.YtpdplcdnpaoceaaC3
namespace Go.Proofs.Ytpdplcdnpaoceaa
open Option Go.IntKind Nat Or
open Go Go.cV Go.nB
set_option maxRecDepth 100000
set_option maxHeartbeats 2000000
set_option linter.unusedSimpArgs false
set_option linter.unusedVariables false
theorem cq (fx:Vm) (dA:List ResultVar) {f:FuncId} {fn:Func} {ins outs:Vr} {r:j} (bd:aA.P.funcs[f]? =some fn) (dP:aM)
 (zF:∀Q:Exit->af->Prop,(∀s,dr (cV.Ends aA fx dA r outs) s->Q .ret s)->(∀s,dr (cV.Ends aA fx dA r outs) s->Q .normal s)->bh aA dP Q (ao (num 0 ins))) (R:e_ ⟨fn.ntmps,fx⟩ (fn.body.getD .skip)=some dP.strip:=by kernel_rfl) (J:fn.body=some (fn.body.getD .skip):=by rfl) (iM:(fn.name== "runtime.NumGoroutine")=false:=by rfl) (a2:ins.length<=fn.ntmps:=by exact le_of_ble_eq_true rfl) (eX:fn.results.toList=dA:=by rfl) (ag:dP.plain=true:=by kernel_rfl):bq aA f ins r outs:=
 bq.Gl AB dA (num 0 ins) bd J iM R a2 eX rfl zF ag
theorem eB {P:Nat->Prop} (s:∀m,P m->P (m+1)) (z:P 0:=by intros;rename_i h;cases(show none=some _ from h)):∀n,P n:=λn=>Nat.rec z s n
def BJ:=PLift.up (ab @Of (ab @Og (ab @Oh (ab @Oi (ab @Oj (ab @Ok (ab @Ol (ab @Om (ab @On (ab @Oo (ab @Oq (ab @Ot (ab @Ou (ab @Ov (ab @Ow (ab @Ox (ab @Oy (ab @Oz (ab @OA (ab @OB (ab @i2.eq_1 (ab @aH.eq_1 (ab @ej.eq_1 (ab @b3.eq_1 (ab @bA.eq_1 (ab @jQ.eq_1 (ab @gK.eq_1 (ab @ha.eq_1 (ab @cB.eq_1 (ab @g0.eq_1 (ab @jR.eq_1 (ab @e3.eq_1 (ab @cg.eq_1 @eG.eq_1)))))))))))))))))))))))))))))))))
def a5:=PLift.up (ab @qX (ab NO.down BJ.down))
def gr:=PLift.up (ab @qX (ab NP.down BJ.down))
def hR:=PLift.up (ab @qX (ab NQ.down BJ.down))
theorem cH {F A:Prop} (f:F) (h:F->A:=by intro a3;(try simp only[hR.down,simprocAttr,a3,dc,dt,c4,dO,j.db,j.shares]at bf⊢);exact bf):A:=h f
theorem wr {Q l ros k} (b0:Vq) (ak:Q .normal (ao b0)) (h:∀P:Vq->Prop,P b0->cl aA (ao l) ros none (λ_ s=>P (e1 k s)):=by
 intro P bf;simp only[a5.down,simprocAttr,dc,dt,c4,dO];(try simp only[hR.down,simprocAttr,dc,dt,c4,dO]at bf⊢);exact bf):bh aA (.eT ros (some k)) Q (ao l):=
 ja (cS b0 (h) ak)
theorem gf {Q l ros k} {b0:Vq} (ak:Q .normal (ao b0)) (h:∀P:Vq->Prop,P b0->cl aA (ao l) ros none (λ_ s=>P (e1 k s)):=by
 intro P bf;simp only[a5.down,simprocAttr,dc,dt,c4,dO];(try simp only[hR.down,simprocAttr,dc,dt,c4,dO]at bf⊢);exact bf):bh aA (.eT ros (some k)) Q (ao l):=
 ja (cS b0 (h) ak)
theorem BK {Q l ros k g ds r} (ok:bq aA g ds r []) (b0:Vq) (ak:Q .normal (ao b0)) (h:bq aA g ds r []->∀P:Vq->Prop,P b0->cl aA (ao l) ros none (λ_ s=>P (e1 k s)):=by
 intro kL P bf;(try simp only[a5.down,simprocAttr,dc,dt,c4,dO]);(first|refine er kL rfl rfl rfl rfl (inl (by rfl)) ?_|refine kG kL rfl rfl rfl rfl (inl (by rfl)) ?_);simp only[a5.down,simprocAttr,dc,dt,c4,dO];(try simp only[hR.down,simprocAttr,dc,dt,c4,dO]at bf⊢);exact bf):bh aA (.eT ros (some k)) Q (ao l):=
 ja (cS b0 (h ok) ak)
theorem GS {Q l ros k g ds r} {F:Prop} (a3:F) (ok:bq aA g ds r []) (b0:Vq) (ak:Q .normal (ao b0)) (h:bq aA g ds r []->F->∀P:Vq->Prop,P b0->cl aA (ao l) ros none (λ_ s=>P (e1 k s)):=by
 intro kL a3 P bf;(try simp only[a5.down,simprocAttr,a3,dc,dt,c4,dO]);(first|refine er kL rfl rfl rfl rfl (inl (by rfl)) ?_|refine kG kL rfl rfl rfl rfl (inl (by rfl)) ?_);simp only[a5.down,simprocAttr,a3,dc,dt,c4,dO];(try simp only[hR.down,simprocAttr,a3,dc,dt,c4,dO]at bf⊢);exact bf):bh aA (.eT ros (some k)) Q (ao l):=
 ja (cS b0 (h ok a3) ak)
theorem oA {Q l ros k} {F:Prop} (a3:F) (b0:Vq) (ak:Q .normal (ao b0)) (h:F->∀P:Vq->Prop,P b0->cl aA (ao l) ros none (λ_ s=>P (e1 k s)):=by
 intro a3 P bf;simp only[a5.down,simprocAttr,a3,dc,dt,c4,dO];(try simp only[hR.down,simprocAttr,a3,dc,dt,c4,dO]at bf⊢);exact bf):bh aA (.eT ros (some k)) Q (ao l):=
 ja (cS b0 (h a3) ak)
theorem ws {Q l ros k b} (b0:Vq) (ak:bh aA b Q (ao b0)) (h:∀P:Vq->Prop,P b0->cl aA (ao l) ros none (λ_ s=>P (e1 k s)):=by
 intro P bf;simp only[a5.down,simprocAttr,dc,dt,c4,dO];(try simp only[hR.down,simprocAttr,dc,dt,c4,dO]at bf⊢);exact bf):bh aA (.seq (.eT ros (some k)) b) Q (ao l):=
 dJ (cS b0 (h) ak)
theorem aJ {Q l ros k b} {b0:Vq} (ak:bh aA b Q (ao b0)) (h:∀P:Vq->Prop,P b0->cl aA (ao l) ros none (λ_ s=>P (e1 k s)):=by
 intro P bf;simp only[a5.down,simprocAttr,dc,dt,c4,dO];(try simp only[hR.down,simprocAttr,dc,dt,c4,dO]at bf⊢);exact bf):bh aA (.seq (.eT ros (some k)) b) Q (ao l):=
 dJ (cS b0 (h) ak)
theorem bo {Q l ros k fx dA r} {b0:Vq} (ib:∀s,dr (cV.Ends aA fx dA r []) s->Q .ret s) (ds:Vr) (h:∀P:Vq->Prop,P b0->cl aA (ao l) ros none (λ_ s=>P (e1 k s)):=by
 intro P bf;simp only[a5.down,simprocAttr,dc,dt,c4,dO];(try simp only[hR.down,simprocAttr,dc,dt,c4,dO]at bf⊢);exact bf) (aa:r=wA ds:=by cases hb (by assumption);rfl) (U:dA.map (mG aA (ao b0))=ds.map some:=by rfl) (ax:(dA.map hA).Nodup:=by decide):bh aA (.seq (.eT ros (some k)) .ret) Q (ao l):=
 ws b0 (ez ib ds aa U ax) h
theorem eV {Q l ros k b g ds r} (ok:bq aA g ds r []) (b0:Vq) (ak:bh aA b Q (ao b0)) (h:bq aA g ds r []->∀P:Vq->Prop,P b0->cl aA (ao l) ros none (λ_ s=>P (e1 k s)):=by
 intro kL P bf;(try simp only[a5.down,simprocAttr,dc,dt,c4,dO]);(first|refine er kL rfl rfl rfl rfl (inl (by rfl)) ?_|refine kG kL rfl rfl rfl rfl (inl (by rfl)) ?_);simp only[a5.down,simprocAttr,dc,dt,c4,dO];(try simp only[hR.down,simprocAttr,dc,dt,c4,dO]at bf⊢);exact bf):bh aA (.seq (.eT ros (some k)) b) Q (ao l):=
 dJ (cS b0 (h ok) ak)
theorem gL {Q l ros k b g ds r} {F:Prop} (a3:F) (ok:bq aA g ds r []) (b0:Vq) (ak:bh aA b Q (ao b0)) (h:bq aA g ds r []->F->∀P:Vq->Prop,P b0->cl aA (ao l) ros none (λ_ s=>P (e1 k s)):=by
 intro kL a3 P bf;(try simp only[a5.down,simprocAttr,a3,dc,dt,c4,dO]);(first|refine er kL rfl rfl rfl rfl (inl (by rfl)) ?_|refine kG kL rfl rfl rfl rfl (inl (by rfl)) ?_);simp only[a5.down,simprocAttr,a3,dc,dt,c4,dO];(try simp only[hR.down,simprocAttr,a3,dc,dt,c4,dO]at bf⊢);exact bf):bh aA (.seq (.eT ros (some k)) b) Q (ao l):=
 dJ (cS b0 (h ok a3) ak)
theorem pE {Q l ros k b dR g ds r} {F:Prop} (a3:F) (ok:bq aA g ds r []) (b0:Vq) (ak:bh aA b Q (ao b0)) (h:bq aA g ds r []->F->∀P:Vq->Prop,P b0->cl aA (ao l) ros (some []) (λacc s=>i9 (nt dR) 0 [] (acc.getD []).reverse=true/\P (e1 k s)):=by
 intro kL a3 P bf;(try simp only[gr.down,simprocAttr,a3,dc,dt,c4,dO]);(first|refine k3 kL rfl rfl rfl rfl (inl (by rfl)) ?_|refine z0 kL rfl rfl rfl rfl (inl (by rfl)) ?_);simp only[gr.down,simprocAttr,a3,dc,dt,c4,dO];refine⟨oi (by kernel_rfl),?_⟩;(try simp only[hR.down,simprocAttr,a3,dc,dt,c4,dO]at bf⊢);exact bf) (hl:dR.length=ros.length:=by rfl):bh aA (.seq (.im ros dR (some k)) b) Q (ao l):=
 ue hl (pj b0 (h ok a3) ak)
theorem xD {Q l ros k b dR} {F:Prop} (a3:F) (b0:Vq) (ak:bh aA b Q (ao b0)) (h:F->∀P:Vq->Prop,P b0->cl aA (ao l) ros (some []) (λacc s=>i9 (nt dR) 0 [] (acc.getD []).reverse=true/\P (e1 k s)):=by
 intro a3 P bf;simp only[gr.down,simprocAttr,a3,dc,dt,c4,dO];refine⟨oi (by kernel_rfl),?_⟩;(try simp only[hR.down,simprocAttr,a3,dc,dt,c4,dO]at bf⊢);exact bf) (hl:dR.length=ros.length:=by rfl):bh aA (.seq (.im ros dR (some k)) b) Q (ao l):=
 ue hl (pj b0 (h a3) ak)
theorem eL {Q l ros k b} {F:Prop} (a3:F) (b0:Vq) (ak:bh aA b Q (ao b0)) (h:F->∀P:Vq->Prop,P b0->cl aA (ao l) ros none (λ_ s=>P (e1 k s)):=by
 intro a3 P bf;simp only[a5.down,simprocAttr,a3,dc,dt,c4,dO];(try simp only[hR.down,simprocAttr,a3,dc,dt,c4,dO]at bf⊢);exact bf):bh aA (.seq (.eT ros (some k)) b) Q (ao l):=
 dJ (cS b0 (h a3) ak)
theorem sM {Q l ros k b} {F:Prop} (a3:F) (b0:Vq) (ak:bh aA b Q (ao b0)) (h:F->∀P:Vq->Prop,P b0->cl aA (ao l) ros none (λ_ s=>P (e1 k s)):=by
 intro a3 P bf;simp only[a5.down,simprocAttr,a3,dc,dt,c4,dO,-Int.reduceNatCast'];(try simp only[hR.down,simprocAttr,a3,dc,dt,c4,dO,-Int.reduceNatCast']at bf⊢);exact bf):bh aA (.seq (.eT ros (some k)) b) Q (ao l):=
 dJ (cS b0 (h a3) ak)
theorem ri {Q l ros k b} (e:Bool) (b0:Vq) (ak:bh aA b Q (ao b0)) (h:∀c,e=c->∀P:Vq->Prop,P b0->cl aA (ao l) ros none (λ_ s=>P (e1 k s)):=by
 intro c ai P bf;cases c;all_goals
  (try simp only[List.length_replicate]at ai);simp only[a5.down,simprocAttr,ai,dc,dt,c4,dO];(try simp only[hR.down,simprocAttr,ai,dc,dt,c4,dO]at bf⊢);exact bf):bh aA (.seq (.eT ros (some k)) b) Q (ao l):=
 dJ (cS b0 (h e rfl) ak)
theorem GU {Q l ros k b} (e:Bool) {F:Prop} (a3:F) (b0:Vq) (ak:bh aA b Q (ao b0)) (h:F->∀c,e=c->∀P:Vq->Prop,P b0->cl aA (ao l) ros none (λ_ s=>P (e1 k s)):=by
 intro a3 c ai P bf;cases c;all_goals
  (try simp only[List.length_replicate]at ai);simp only[a5.down,simprocAttr,ai,a3,dc,dt,c4,dO];(try simp only[hR.down,simprocAttr,ai,a3,dc,dt,c4,dO]at bf⊢);exact bf):bh aA (.seq (.eT ros (some k)) b) Q (ao l):=
 dJ (cS b0 (h a3 e rfl) ak)
def kj:=PLift.up (ab @List.cons_append.{0} (ab @List.nil_append.{0} (ab @List.length_append.{0} (ab @List.length_cons.{0} (ab @List.length_nil.{0} (ab @List.length_map.{0,0} @List.length_replicate.{0}))))))
def mY:=PLift.up (ab (@qO aA 47 [(22,0),(44,1),(9,2),(45,3),(45,4)] [.aK,.aK,(.str []),.aK,.aK] rfl rfl (by kernel_rfl)) (ab @ob (ab @oc (ab @eK (ab @jt (ab @List.nil_append.{0} (ab @List.cons_append.{0} (ab (@ug aA 27 47 1 5 [(.agg [.aK,.aK,(.str []),.aK,.aK])] rfl rfl rfl (by kernel_rfl)) (ab (@k6 aA 27 27 47 rfl rfl) (ab @k7 (ab @k8 (ab @k5 (ab @all_nil (@k4 _ cg 5 (λ_=>rfl)))))))))))))))
def rj:=PLift.up (ab @jI (ab @jK (ab @jL (ab @fc (ab (@c2 _ aH aH (λ_=>hD _)) (ab (@c2 _ cg b3 (λ_=>pD _)) (ab (@c2 _ aH aH (λ_=>hD _)) (@c2 _ cg b3 (λ_=>pD _)))))))))
def sN:=PLift.up (ab (@ug aA 45 44 1 1 [.aK] rfl rfl rfl (by kernel_rfl)) (ab @ob (ab @oc (ab @eK (ab @jt (ab @List.nil_append.{0} (ab @List.cons_append.{0} (ab (@k6 aA 45 45 44 rfl rfl) (ab @k7 (ab @k8 (ab @k5 (ab @all_nil (@k4 _ eG 1 (λ_=>rfl))))))))))))))
def vd:=PLift.up (ab @jI (ab @jK (ab @jL (ab @fc (ab (@c2 _ aH aH (λ_=>hD _)) (@c2 _ cg b3 (λ_=>pD _)))))))
def BL:=PLift.up (ab (@qO aA 47 [(22,0),(44,1),(9,2),(45,3),(45,4)] [.aK,.aK,(.str []),.aK,.aK] rfl rfl (by kernel_rfl)) (ab @ob (ab @oc (ab @eK (ab @jt (ab @List.nil_append.{0} (ab @List.cons_append.{0} (ab (@ug aA 27 47 1 5 [(.agg [.aK,.aK,(.str []),.aK,.aK])] rfl rfl rfl (by kernel_rfl)) (ab (@k6 aA 27 27 47 rfl rfl) (ab @k7 (ab @k8 (ab @k5 (ab @all_nil (ab (@k4 _ cg 5 (λ_=>rfl)) (ab @jI (ab @jK (ab @jL (ab @fc (@c2 _ aH aH (λ_=>hD _))))))))))))))))))))
def BM:=PLift.up (ab @Nd (ab @M_ (ab @fc (ab @M9 (ab (@c2 _ bA bA (λ_=>oy _)) (ab (@c2 _ cB cB (λ_=>nH _)) (@c2 _ jR jR (λ_=>OQ _))))))))
def BN:=PLift.up (ab @jI (ab @jK (ab @jL (ab @fc (ab (@c2 _ cB cB (λ_=>nH _)) (ab (@c2 _ aH aH (λ_=>hD _)) (ab (@c2 _ bA bA (λ_=>oy _)) (ab (@c2 _ cB cB (λ_=>nH _)) (@c2 _ cB cB (λ_=>nH _))))))))))
def BO:=PLift.up (ab (@qO aA 29 [(2,0),(22,1),(27,2)] [(.int .i64 0),.aK,.aK] rfl rfl (by kernel_rfl)) (ab @ob (ab @oc (ab @eK (ab @jt (ab @List.nil_append.{0} @List.cons_append.{0}))))))
def GV:=PLift.up (ab @jI (ab @jK (ab @jL (ab @fc (ab (@c2 _ aH aH (λ_=>hD _)) (@c2 _ b3 b3 (λ_=>vb _)))))))
def GW:=PLift.up (ab @FU (ab (λs x h=> @FT aA s 45 44 x rfl h) (ab @Nh (ab @Ng (ab @Ni (ab @Nc (ab @List.map_replicate.{0,0} (ab (λs y q=>(z_ aA s 45 y q).1) (ab (λs y q=>(z_ aA s 45 y q).2.1) (ab (λs y q=>(z_ aA s 45 y q).2.2) @Nj))))))))))
def GX:=PLift.up (ab (@qO aA 47 [(22,0),(44,1),(9,2),(45,3),(45,4)] [.aK,.aK,(.str []),.aK,.aK] rfl rfl (by kernel_rfl)) (ab @ob (ab @oc (ab @eK (ab @jt (ab @List.nil_append.{0} (ab @List.cons_append.{0} (ab (@ug aA 27 47 1 5 [(.agg [.aK,.aK,(.str []),.aK,.aK])] rfl rfl rfl (by kernel_rfl)) (ab (@k6 aA 27 27 47 rfl rfl) (ab @k7 (ab @k8 (ab @k5 (ab @all_nil (ab (@k4 _ cg 5 (λ_=>rfl)) (ab @jI (ab @jK (ab @jL (ab @fc (ab (@c2 _ aH aH (λ_=>hD _)) (ab (@c2 _ bA bA (λ_=>oy _)) (ab (@c2 _ cB cB (λ_=>nH _)) (@c2 _ cB cB (λ_=>nH _)))))))))))))))))))))))
def GY:=PLift.up (ab (@ug aA 27 47 1 5 [(.agg [.aK,.aK,(.str []),.aK,.aK])] rfl rfl rfl (by kernel_rfl)) (ab @ob (ab @oc (ab @eK (ab @jt (ab @List.nil_append.{0} (ab @List.cons_append.{0} (ab (@k6 aA 27 27 47 rfl rfl) (ab @k7 (ab @k8 (ab @k5 (ab @all_nil (@k4 _ cg 5 (λ_=>rfl))))))))))))))
def GZ:=PLift.up (ab (@jJ _ aH (λ_=>xx _)) (@jJ _ cg (λ_=>BE _)))
def G0:=PLift.up (ab @oe (ab @mJ (ab @jI (ab @jK (ab @jL (ab @fc (ab @or_true (ab @true_or (@c2 _ bA bA (λ_=>oy _))))))))))
def G1:=PLift.up (ab @oe (ab @mJ (ab @jI (ab @jK (ab @jL (ab @fc (ab @or_true (ab @true_or (@c2 _ eG cB (λ_=>BD _))))))))))
def G2:=PLift.up (ab @qQ (ab @oe (ab @mJ (ab @jI (ab @jK (ab @jL (ab @fc (ab @or_true (ab @true_or (ab (@c2 _ aH aH (λ_=>hD _)) (@c2 _ cg b3 (λ_=>pD _))))))))))))
theorem G3 (I ar r) (h:uC I ar=some r):bq aA 17 [.slice (I.map aH),.int .i64 ar] (.int .i64 r) []:=by
 refine cq [0] [.tmp 4] Try.func17 OR λcm aF ck=>aJ ?_;refine aJ ?_;refine a1 aF λ_ iv dC _=>aJ ?_;refine bn h (λc6 h=>?_) λc6 h=>?_
 .exact bo dC [.int .i64 (-1)]
 .exact bp (iv _ (inl (bo aF [.int .i64 (i64.wrap (ar-(I.length:Int)))])))
theorem G4 (I ar r) (h:sg I ar=some r):bq aA 68 [.slice (I.map ha),.int .i64 ar] (.int .i64 r) []:=by
 refine cq [0] [.tmp 4] Try.func68 OS λcm aF ck=>aJ ?_;refine aJ ?_;refine a1 aF λ_ iv dC _=>aJ ?_;refine bn h (λc6 h=>?_) λc6 h=>?_
 .exact bo dC [.int .i64 (-1)]
 .exact bp (iv _ (inl (bo aF [.int .i64 (i64.wrap (ar-(I.length:Int)))])))
theorem G5 (I ar r) (h:uD I ar=some r):bq aA 69 [.slice (I.map g0),.int .i64 ar] (.int .i64 r) []:=by
 refine cq [0] [.tmp 4] Try.func69 OT λcm aF ck=>aJ ?_;refine aJ ?_;refine a1 aF λ_ iv dC _=>aJ ?_;refine bn h (λc6 h=>?_) λc6 h=>?_
 .exact bo dC [.int .i64 (-1)]
 .refine bp (iv _ (inl (a1 aF λ_ fL f_ _=>aJ ?_)));refine cd f_ λrk _ dp g6 _=>?_;show bh aA (.loop ?lk) _ _;have ll:∀n iw fT,AE I n iw fT=some r->dK aA ?lk rk (ao [(0,.slice (I.map g0)),(1,.int .i64 iw),(5,.int .i64 fT)]):=by
   refine eB λ_ ln iw fT h=>eA dp λ_ c3 du fK=>a1 du λ_ eC _ eU=>aJ ?_;refine bn h (λoB h=>?_) λoB h=>?_
   .refine bp (eC _ (inl (a1 du λ_ gu gg _=>cd gg λ_ iP kM _ _=>?_)));obtain⟨ah,hE,h⟩:=aU h;obtain⟨aC,fM,h⟩:=aU h;refine gL hE (G4 ah iw _ fM) _ ?_;refine aJ ?_;refine bn h (λlo h=>?_) λlo h=>?_
    .exact bo kM [.int .i64 (-1)]
    .refine bp (iP _ (gu _ (inl (gf ?_))));exact c3 _ (inr ⟨_,dd rfl,ln aC (i64.wrap (fT+1)) h⟩)
   .exact ep (eU 0 _ (fK 0 _ (g6 _ (fL _ (inl (bo aF [.int .i64 iw]))))))
  exact fa h λn h=>ll n (i64.wrap (ar-(I.length:Int))) 0 h
theorem Qz (I ar r) (h:uE I ar=some r):bq aA 42 [gK I,.int .i64 ar] (.int .i64 r) []:=by
 refine cq [0] [.tmp 4] Try.func42 OU λcm aF ck=>aJ ?_;obtain⟨ah,aX,h⟩:=aU h;refine eV (G3 I.aY ar _ aX) _ ?_;refine a1 aF λ_ gv ct bL=>aJ ?_;refine bn h (λfC h=>?_) λfC h=>?_
 .exact bo ct [.int .i64 (-1)]
 .refine bp (gv _ (inl ?_));obtain⟨aC,iE,h⟩:=aU h;refine eV (G4 I.Guard ah _ iE) _ ?_;refine a1 aF λ_ c3 du _=>aJ ?_;refine bn h (λhn h=>?_) λhn h=>?_
  .exact bo du [.int .i64 (-1)]
  .refine bp (c3 _ (inl (aJ ?_)));refine a1 aF λ_ iP kM _=>aJ ?_;refine bn h (λkk h=>?_) λkk h=>?_
   .exact bo kM [.int .i64 (-1)]
   .refine bp (iP _ (inl ?_));obtain⟨aV,nI,h⟩:=aU h;refine eV (G5 I.bG (i64.wrap (aC-(I.Name.length:Int))) _ nI) _ ?_;refine a1 aF λ_ mZ oC _=>aJ ?_;refine bn h (λkN h=>?_) λkN h=>?_
    .exact bo oC [.int .i64 (-1)]
    .refine bp (mZ _ (inl ?_));obtain⟨bL,rl,h⟩:=aU h;refine eV (G5 I.Next aV _ rl) _ ?_;refine a1 aF λ_ oD ve _=>aJ ?_;refine bn h (λvf h=>?_) λvf h=>?_
     .exact bo ve [.int .i64 (-1)]
     .exact bp (oD _ (inl (bo aF [.int .i64 bL])))
theorem QA (I ar r) (h:wR I ar=some r):bq aA 18 [.slice (I.map gK),.int .i64 ar] (.int .i64 r) []:=by
 refine cq [0] [.tmp 4] Try.func18 OV λcm aF ck=>aJ ?_;refine aJ ?_;refine a1 aF λ_ iv dC _=>aJ ?_;refine bn h (λc6 h=>?_) λc6 h=>?_
 .exact bo dC [.int .i64 (-1)]
 .refine bp (iv _ (inl (a1 aF λ_ fL f_ _=>aJ ?_)));refine cd f_ λrk _ dp g6 _=>?_;show bh aA (.loop ?lk) _ _;have ll:∀n iw fT,AF I n iw fT=some r->dK aA ?lk rk (ao [(0,.slice (I.map gK)),(1,.int .i64 iw),(5,.int .i64 fT)]):=by
   refine eB λ_ ln iw fT h=>eA dp λ_ c3 du fK=>a1 du λ_ eC _ eU=>aJ ?_;refine bn h (λoB h=>?_) λoB h=>?_
   .refine bp (eC _ (inl (a1 du λ_ gu gg _=>cd gg λ_ iP kM _ _=>?_)));obtain⟨ah,hE,h⟩:=aU h;obtain⟨aC,fM,h⟩:=aU h;refine gL hE (Qz ah iw _ fM) _ ?_;refine aJ ?_;refine bn h (λlo h=>?_) λlo h=>?_
    .exact bo kM [.int .i64 (-1)]
    .refine bp (iP _ (gu _ (inl (gf ?_))));exact c3 _ (inr ⟨_,dd rfl,ln aC (i64.wrap (fT+1)) h⟩)
   .exact ep (eU 0 _ (fK 0 _ (g6 _ (fL _ (inl (bo aF [.int .i64 iw]))))))
  exact fa h λn h=>ll n (i64.wrap (ar-(I.length:Int))) 0 h
theorem QB (I ar r) (h:wS I ar=some r):bq aA 5 [jQ I,.int .i64 ar] (.int .i64 r) []:=by
 refine cq [0] [.tmp 4] Try.func5 lS λcm aF ck=>aJ ?_;obtain⟨ah,aX,h⟩:=aU h;refine eV (G3 I.Start ar _ aX) _ ?_;refine a1 aF λ_ gv ct _=>aJ ?_;refine bn h (λfC h=>?_) λfC h=>?_
 .exact bo ct [.int .i64 (-1)]
 .refine bp (gv _ (inl ?_));obtain⟨aC,iE,h⟩:=aU h;refine eV (QA I.bJ ah _ iE) _ ?_;refine a1 aF λ_ c3 du _=>aJ ?_;refine bn h (λhn h=>?_) λhn h=>?_
  .exact bo du [.int .i64 (-1)]
  .exact bp (c3 _ (inl (bo aF [.int .i64 aC])))
theorem G6 (I r) (h:uF I=some r):bq aA 25 [.slice (I.map aH)] (.aq 1 (r.map aH)) []:=by
 refine cq [0] [.tmp 2] Try.func25 OW λcm aF ck=>aJ ?_;obtain⟨QC,aX,h⟩:=aU h;refine sM (ab (oP aX) @List.map_replicate.{0,0}) [(0,.slice (I.map aH)),(3,.aq 1 ((List.replicate (Int.toNat (I.length:Int)) 0).map aH))] ?_;refine a1 aF λ_ gv ct _=>ws [(0,.slice (I.map aH)),(3,.aq 1 ((List.replicate (Int.toNat (I.length:Int)) 0).map aH)),(4,.int .i64 0)] ?_;refine cd ct λlp _ eW fC _=>?_;show bh aA (.loop ?hx) _ _;have iy:∀n cw cT,AG I n cw cT=some r->dK aA ?hx lp (ao [(0,.slice (I.map aH)),(3,.aq 1 (cw.map aH)),(4,.int .i64 cT)]):=by
  refine eB λ_ hS cw cT h=>eA eW λ_ fL f_ cE=>a1 f_ λ_ ho _ dL=>aJ ?_;refine bn h (λiz h=>?_) λiz h=>?_
  .refine bp (ho _ (inl (a1 f_ λ_ eC fy _=>cd fy λ_ iW _ _ _=>?_)));obtain⟨ah,g1,h⟩:=aU h;obtain⟨aC,eH,h⟩:=aU h;refine ja (cS [(0,.slice (I.map aH)),(3,.aq 1 ((List.set cw (Int.toNat cT) ah).map aH)),(4,.int .i64 cT)] (λP bf=>?_) ?_)
   .simp only[a5.down,simprocAttr,g1,eH,c7 eH,eK,dc];exact cH (ab g1 (ab eH (ab (c7 eH) @eK)))
   refine iW _ (eC _ (inl (wr [(0,.slice (I.map aH)),(3,.aq 1 ((List.set cw (Int.toNat cT) ah).map aH)),(4,.int .i64 (i64.wrap (cT+1)))] ?_)));exact fL _ (inr ⟨_,dd rfl,hS (List.set cw (Int.toNat cT) ah) (i64.wrap (cT+1)) h⟩)
  .exact ep (dL 0 _ (cE 0 _ (fC _ (gv _ (inl (bo aF [.aq 1 (cw.map aH)]))))))
 exact fa h λn h=>iy n (List.replicate (Int.toNat (I.length:Int)) 0) 0 h
theorem QD (I r) (h:uG I=some r):bq aA 97 [ha I] (bA r) []:=by
 refine cq [0] [.cell 2 76] Try.func97 OX λcm aF ck=>aJ ?_;refine aJ ?_;refine aJ ?_;refine aJ ?_;exact bo aF [bA (aW.mk I.Kind I.Value)]
theorem G7 (I r) (h:si I=some r):bq aA 74 [.slice (I.map ha)] (.aq 2 (r.map bA)) []:=by
 refine cq [0] [.tmp 2] Try.func74 OY λcm aF ck=>aJ ?_;obtain⟨BP,aX,h⟩:=aU h;refine sM (ab (oP aX) @List.map_replicate.{0,0}) [(0,.slice (I.map ha)),(3,.aq 2 ((List.replicate (Int.toNat (I.length:Int)) (aW.mk 0 0)).map bA))] ?_;refine a1 aF λ_ gv ct _=>ws [(0,.slice (I.map ha)),(3,.aq 2 ((List.replicate (Int.toNat (I.length:Int)) (aW.mk 0 0)).map bA)),(4,.int .i64 0)] ?_;refine cd ct λlp _ eW fC _=>?_;show bh aA (.loop ?hx) _ _;have iy:∀n cw cT,AH I n cw cT=some r->dK aA ?hx lp (ao [(0,.slice (I.map ha)),(3,.aq 2 (cw.map bA)),(4,.int .i64 cT)]):=by
  refine eB λ_ hS cw cT h=>eA eW λ_ fL f_ cE=>a1 f_ λ_ ho _ dL=>aJ ?_;refine bn h (λiz h=>?_) λiz h=>?_
  .refine bp (ho _ (inl (a1 f_ λ_ eC fy _=>cd fy λ_ iW _ _ _=>?_)));obtain⟨ah,g1,h⟩:=aU h;obtain⟨aC,eH,h⟩:=aU h;obtain⟨aV,eM,h⟩:=aU h;refine ja (cS [(0,.slice (I.map ha)),(3,.aq 2 ((List.set cw (Int.toNat cT) aC).map bA)),(4,.int .i64 cT)] (λP bf=>?_) ?_)
   ·(try simp only[a5.down,simprocAttr,g1,eM,c7 eM,eK,dc]);refine er (QD ah _ eH) (hK:= ?_);simp only[a5.down,simprocAttr,g1,eM,c7 eM,eK,dc];exact cH (ab g1 (ab eM (ab (c7 eM) @eK)))
   refine iW _ (eC _ (inl (wr [(0,.slice (I.map ha)),(3,.aq 2 ((List.set cw (Int.toNat cT) aC).map bA)),(4,.int .i64 (i64.wrap (cT+1)))] ?_)));exact fL _ (inr ⟨_,dd rfl,hS (List.set cw (Int.toNat cT) aC) (i64.wrap (cT+1)) h⟩)
  .exact ep (dL 0 _ (cE 0 _ (fC _ (gv _ (inl (bo aF [.aq 2 (cw.map bA)]))))))
 exact fa h λn h=>iy n (List.replicate (Int.toNat (I.length:Int)) (aW.mk 0 0)) 0 h
theorem G8 (I r) (h:uH I=some r):bq aA 75 [.slice (I.map g0)] (.aq 1 (r.map eG)) []:=by
 refine cq [0] [.tmp 2] Try.func75 OZ λcm aF ck=>aJ ?_;obtain⟨BP,aX,h⟩:=aU h;refine sM (ab (oP aX) @List.map_replicate.{0,0}) [(0,.slice (I.map g0)),(3,.aq 1 (List.replicate (Int.toNat (I.length:Int)) .aK))] ?_;refine a1 aF λ_ gv ct _=>ws [(0,.slice (I.map g0)),(3,.aq 1 (List.replicate (Int.toNat (I.length:Int)) .aK)),(4,.int .i64 0)] ?_;refine cd ct λlp _ eW fC _=>?_;show bh aA (.loop ?hx) _ _;have iy:∀n cw cT,AJ I n cw cT=some r->dK aA ?hx lp (ao [(0,.slice (I.map g0)),(3,.aq 1 (cw.map eG)),(4,.int .i64 cT)]):=by
  refine eB λ_ hS cw cT h=>eA eW λ_ fL f_ cE=>a1 f_ λ_ ho _ dL=>aJ ?_;refine bn h (λiz h=>?_) λiz h=>?_
  .refine bp (ho _ (inl (a1 f_ λ_ eC fy _=>cd fy λ_ iW _ _ _=>?_)));obtain⟨ah,g1,h⟩:=aU h;obtain⟨aC,eH,h⟩:=aU h;obtain⟨aV,eM,h⟩:=aU h;refine ja (cS [(0,.slice (I.map g0)),(3,.aq 1 ((List.set cw (Int.toNat cT) aC).map eG)),(4,.int .i64 cT)] (λP bf=>?_) ?_)
   ·(try simp only[a5.down,simprocAttr,g1,eM,c7 eM,eK,dc]);refine er (G7 ah _ eH) (hK:= ?_);simp only[a5.down,simprocAttr,g1,eM,c7 eM,eK,dc];exact cH (ab g1 (ab eM (ab (c7 eM) @eK)))
   refine iW _ (eC _ (inl (wr [(0,.slice (I.map g0)),(3,.aq 1 ((List.set cw (Int.toNat cT) aC).map eG)),(4,.int .i64 (i64.wrap (cT+1)))] ?_)));exact fL _ (inr ⟨_,dd rfl,hS (List.set cw (Int.toNat cT) aC) (i64.wrap (cT+1)) h⟩)
  .exact ep (dL 0 _ (cE 0 _ (fC _ (gv _ (inl (bo aF [.aq 1 (cw.map eG)]))))))
 obtain⟨n,h⟩:=pV h;exact qL (inr ⟨_,kb [] rfl (fI (t:=0) (d:=.slice (I.map g0)) rfl (kd (t:=3) (d:=.aq 1 (List.replicate (Int.toNat (I.length:Int)) .aK)) (a8:=.aq 1 ((List.replicate (Int.toNat (I.length:Int)) []).map eG)) rfl rfl (Fq (u:=eG) (z:=[]) (.gW _) _) (by decide) (fI (t:=4) (d:=.int .i64 0) rfl (kc)))),iy n (List.replicate (Int.toNat (I.length:Int)) []) 0 h⟩)
theorem QE (I r) (h:uI I=some r):bq aA 47 [gK I] (cg r) []:=by
 refine cq [0] [.cell 2 47] Try.func47 O0 λcm aF ck=>aJ ?_;refine aJ ?_;obtain⟨ah,bT,h⟩:=aU h;refine eV (G6 I.aY _ bT) _ ?_;obtain⟨aC,bH,h⟩:=aU h;refine eV (G7 I.Guard _ bH) _ ?_;refine aJ ?_;obtain⟨aV,iE,h⟩:=aU h;refine eV (G8 I.bG _ iE) _ ?_;obtain⟨bL,tk,h⟩:=aU h;refine eV (G8 I.Next _ tk) _ ?_;exact bo aF [cg (aN.mk ah aC I.Name aV bL)]
theorem QF (I r) (h:wT I=some r):bq aA 26 [.slice (I.map gK)] (.aq 5 (r.map cg)) []:=by
 refine cq [0] [.tmp 2] Try.func26 BF λcm aF ck=>aJ ?_;obtain⟨BP,aX,h⟩:=aU h;refine sM (ab (oP aX) @List.map_replicate.{0,0}) [(0,.slice (I.map gK)),(3,.aq 5 (List.replicate (Int.toNat (I.length:Int)) (.agg [.aK,.aK,(.str []),.aK,.aK])))] ?_;refine a1 aF λ_ gv ct _=>ws [(0,.slice (I.map gK)),(3,.aq 5 (List.replicate (Int.toNat (I.length:Int)) (.agg [.aK,.aK,(.str []),.aK,.aK]))),(4,.int .i64 0)] ?_;refine cd ct λlp _ eW fC _=>?_;show bh aA (.loop ?hx) _ _;have iy:∀n cw cT,AK I n cw cT=some r->dK aA ?hx lp (ao [(0,.slice (I.map gK)),(3,.aq 5 (cw.map cg)),(4,.int .i64 cT)]):=by
  refine eB λ_ hS cw cT h=>eA eW λ_ fL f_ cE=>a1 f_ λ_ ho _ dL=>aJ ?_;refine bn h (λiz h=>?_) λiz h=>?_
  .refine bp (ho _ (inl (a1 f_ λ_ eC fy _=>cd fy λ_ iW _ _ _=>?_)));obtain⟨ah,g1,h⟩:=aU h;obtain⟨aC,eH,h⟩:=aU h;obtain⟨aV,eM,h⟩:=aU h;refine ja (cS [(0,.slice (I.map gK)),(3,.aq 5 ((List.set cw (Int.toNat cT) aC).map cg)),(4,.int .i64 cT)] (λP bf=>?_) ?_)
   ·(try simp only[a5.down,simprocAttr,g1,eM,c7 eM,eK,dc]);refine er (QE ah _ eH) (hK:= ?_);simp only[a5.down,simprocAttr,g1,eM,c7 eM,eK,dc];exact cH (ab g1 (ab eM (ab (c7 eM) @eK)))
   refine iW _ (eC _ (inl (wr [(0,.slice (I.map gK)),(3,.aq 5 ((List.set cw (Int.toNat cT) aC).map cg)),(4,.int .i64 (i64.wrap (cT+1)))] ?_)));exact fL _ (inr ⟨_,dd rfl,hS (List.set cw (Int.toNat cT) aC) (i64.wrap (cT+1)) h⟩)
  .exact ep (dL 0 _ (cE 0 _ (fC _ (gv _ (inl (bo aF [.aq 5 (cw.map cg)]))))))
 obtain⟨n,h⟩:=pV h;exact qL (inr ⟨_,kb [] rfl (fI (t:=0) (d:=.slice (I.map gK)) rfl (kd (t:=3) (d:=.aq 5 (List.replicate (Int.toNat (I.length:Int)) (.agg [.aK,.aK,(.str []),.aK,.aK]))) (a8:=.aq 5 ((List.replicate (Int.toNat (I.length:Int)) (aN.mk [] [] ([]:Vj) [] [])).map cg)) rfl rfl (Fq (u:=cg) (z:=(aN.mk [] [] ([]:Vj) [] [])) (.agg (.cons (.gW _) (.cons (.gW _) (.cons (.refl _) (.cons (.gW _) (.cons (.gW _) (.nil))))))) _) (by decide) (fI (t:=4) (d:=.int .i64 0) rfl (kc)))),iy n (List.replicate (Int.toNat (I.length:Int)) (aN.mk [] [] ([]:Vj) [] [])) 0 h⟩)
theorem xE (I r) (h:qZ I=some r):bq aA 7 [jQ I] (e3 r) []:=by
 refine cq [0] [.cell 2 29] Try.func7 zi λcm aF ck=>aJ ?_;refine aJ ?_;refine aJ ?_;obtain⟨ah,cb,h⟩:=aU h;refine eV (G6 I.Start _ cb) _ ?_;obtain⟨aC,bx,h⟩:=aU h;refine eV (QF I.bJ _ bx) _ ?_;exact bo aF [e3 (b5.mk I.a7 ah aC)]
theorem pF (I ar bw r) (h:l4 I ar bw=some r):bq aA 43 [.int .i64 I,.int .i64 ar,.int .i64 bw] (.bool r) []:=by
 refine cq [0,1,2] [.tmp 6] Try.func43 O1 λcm aF ck=>aJ ?_;refine ri (decide (ar<=I)) [(6,.bool ((decide (ar<=I))&&(decide (I<=bw))))] ?_;exact ez aF [.bool ((decide (ar<=I))&&(decide (I<=bw)))]
theorem QG (I r) (h:wU I=some r):bq aA 70 [.slice (I.map aH)] (.bool r) []:=by
 refine cq [0] [.tmp 2] Try.func70 O2 λcm aF ck=>aJ ?_;refine a1 aF λ_ cf bz aC=>aJ ?_;refine cd bz λgM _ ct cO _=>?_;show bh aA (.loop ?fu) _ _;have gN:∀n nC,uJ I n nC=some r->dK aA ?fu gM (ao [(0,.slice (I.map aH)),(3,.int .i64 nC)]):=by
  refine eB λ_ gw nC h=>eA ct λ_ fq dk bM=>a1 dk λ_ eD _ b1=>aJ ?_;refine bn h (λdy h=>?_) λdy h=>?_
  .refine bp (eD _ (inl (a1 dk λ_ ek dp _=>cd dp λ_ c3 du _ _=>?_)));obtain⟨ah,dT,h⟩:=aU h;obtain⟨aC,dN,h⟩:=aU h;refine gL dT (pF ah 0 63 _ dN) _ ?_;refine bn h (λhT h=>?_) λhT h=>?_
   .exact bo du [.bool false]
   .refine bp (c3 _ (ek _ (inl (gf ?_))));exact fq _ (inr ⟨_,dd rfl,gw (i64.wrap (nC+1)) h⟩)
  .exact ep (b1 0 _ (bM 0 _ (cO _ (cf _ (inl (bo aF [.bool true]))))))
 exact fa h λn h=>gN n 0 h
theorem G9 (I ar r) (h:wV I ar=some r):bq aA 44 [.slice (I.map aH),.int .i64 ar] (.bool r) []:=by
 refine cq [0,1] [.tmp 4] Try.func44 O3 λcm aF ck=>aJ ?_;rcases g3 h with⟨h1,h⟩|⟨h1,h⟩
 .obtain⟨ah,bT,h⟩:=aU h;refine gL h1 (QG I _ bT) _ ?_;exact ez aF [.bool ah]
 .refine eL h1 _ ?_;exact ez aF [.bool false]
theorem G_ (I r) (h:q0 I=some r):bq aA 20 [.slice (I.map aH)] (.int .i64 r) []:=by
 refine cq [0] [.tmp 2] Try.func20 O4 λcm aF ck=>aJ ?_;refine a1 aF λ_ cf bz aC=>aJ ?_;refine bn h (λcO h=>?_) λcO h=>?_
 .exact bo bz [.int .i64 0]
 .refine bp (cf _ (inl (aJ ?_)));refine a1 aF λ_ fL f_ _=>aJ ?_;refine cd f_ λrk _ dp g6 _=>?_;show bh aA (.loop ?lk) _ _;have ll:∀n mQ gb,oq I n mQ gb=some r->dK aA ?lk rk (ao [(0,.slice (I.map aH)),(3,.int .i64 mQ),(4,.int .i64 gb)]):=by
   refine eB λ_ ln mQ gb h=>eA dp λ_ c3 du fK=>a1 du λ_ eC _ eU=>aJ ?_;refine bn h (λoB h=>?_) λoB h=>?_
   .refine bp (eC _ (inl (a1 du λ_ gu gg _=>cd gg λ_ iP kM _ _=>a1 kM λ_ lq l8 _=>?_)));obtain⟨ah,fM,h⟩:=aU h;obtain⟨aC,iX,h⟩:=aU h;refine gL fM (pF ah 1 7 _ iX) _ ?_;refine bn h (λlo h=>?_) λlo h=>?_
    .exact bo l8 [.int .i64 0]
    .refine bp (lq _ (inl (oA fM _ ?_)));refine iP _ (gu _ (inl (gf ?_)));exact c3 _ (inr ⟨_,dd rfl,ln (i64.wrap (mQ*(i64.wrap (ah+1)))) (i64.wrap (gb+1)) h⟩)
   .refine ep (eU 0 _ (fK 0 _ (g6 _ (fL _ (inl (a1 aF λ_ rm pG _=>aJ ?_))))));refine bn h (λm0 h=>?_) λm0 h=>?_
    .exact bo pG [.int .i64 0]
    .exact bp (rm _ (inl (bo aF [.int .i64 mQ])))
  exact fa h λn h=>ll n 1 0 h
theorem QH (I ar r) (h:wW I ar=some r):bq aA 94 [.ref (bA I),.int .i64 ar] (.bool r) []:=by
 refine cq [0,1] [.tmp 4] Try.func94 O5 λcm aF ck=>aJ ?_;refine a1 aF λ_ cf bz aC=>aJ ?_;refine cd bz λ_ gv ct _ _=>aJ ?_;refine bn h (λfC h=>?_) λfC h=>?_
 .obtain⟨ah,gR,h⟩:=aU h;refine eV (pF I.Value 0 63 _ gR) _ ?_;exact ez ct [.bool ah]
 .refine aJ ?_;refine bn h (λiz h=>?_) λiz h=>?_
  .obtain⟨aC,dT,h⟩:=aU h;refine eV (pF I.Value 0 (i64.wrap (ar-1)) _ dT) _ ?_;exact ez ct [.bool aC]
  .refine aJ ?_;refine bn h (λhT h=>?_) λhT h=>?_
   .obtain⟨aV,eM,h⟩:=aU h;refine eV (pF I.Value 0 8 _ eM) _ ?_;exact ez ct [.bool aV]
   .refine aJ ?_;refine bn h (λm1 h=>?_) λm1 h=>?_
    .exact bo ct [.bool (I.Value==0)]
    .exact bp (gv _ (cf _ (inl (bo aF [.bool false]))))
theorem QI (I r) (h:AM I=some r):bq aA 95 [.ref (bA I)] (.int .i64 r) []:=by
 refine cq [0] [.tmp 2] Try.func95 O6 λcm aF ck=>aJ ?_;refine a1 aF λ_ cf bz _=>aJ ?_;refine cd bz λ_ gv ct _ _=>aJ ?_;refine bn h (λfC h=>?_) λfC h=>?_
 .exact bo ct [.int .i64 2]
 .refine aJ ?_;refine bn h (λg6 h=>?_) λg6 h=>?_
  .exact bo ct [.int .i64 1]
  .exact bp (gv _ (cf _ (inl (bo aF [.int .i64 0]))))
theorem BQ (I ar bw r) (h:uL I ar bw=some r):bq aA 71 [.slice (I.map bA),.int .i64 ar,.int .i64 bw] (.bool r) []:=by
 refine cq [0,1,2] [.tmp 6] Try.func71 O7 λcm aF ck=>aJ ?_;refine a1 aF λ_ cf bz aC=>aJ ?_;refine bn h (λcO h=>?_) λcO h=>?_
 .exact bo bz [.bool false]
 .refine bp (cf _ (inl (aJ ?_)));refine a1 aF λ_ fL f_ _=>aJ ?_;refine cd f_ λrk _ dp g6 _=>?_;show bh aA (.loop ?lk) _ _;have ll:∀n hO nD,sj I ar n hO nD=some r->dK aA ?lk rk (ao [(0,.slice (I.map bA)),(1,.int .i64 ar),(7,.int .i64 hO),(8,.int .i64 nD)]):=by
   refine eB λ_ ln hO nD h=>eA dp λ_ c3 du fK=>a1 du λ_ eC _ eU=>aJ ?_;refine bn h (λoB h=>?_) λoB h=>?_
   .refine bp (eC _ (inl (a1 du λ_ gu gg _=>cd gg λ_ iP kM _ _=>a1 kM λ_ lq l8 _=>?_)));rcases g3 h with⟨m1,h⟩|⟨m1,h⟩
    .refine eL m1 _ ?_;refine js rfl ?_;exact bo l8 [.bool false]
    .obtain⟨ah,nI,h⟩:=aU h;obtain⟨aC,kl,h⟩:=aU h;refine gL (ab m1 nI) (QH ah ar _ kl) _ ?_;refine bn h (λrn h=>?_) λrn h=>?_
     .exact bo l8 [.bool false]
     .refine bp (lq _ (inl ?_));obtain⟨aV,jc,h⟩:=aU h;refine GS nI (QI ah _ jc) _ ?_;refine iP _ (gu _ (inl (gf ?_)));exact c3 _ (inr ⟨_,dd rfl,ln (i64.wrap (hO+(i64.wrap (aV-1)))) (i64.wrap (nD+1)) h⟩)
   .exact ep (eU 0 _ (fK 0 _ (g6 _ (fL _ (inl (bo aF [.bool (hO==0)]))))))
  exact fa h λn h=>ll n 1 0 h
theorem sO (I ar r) (h:q1 I ar=some r):bq aA 73 [.slice (I.map cB),.int .i64 ar] (.bool r) []:=by
 refine cq [0,1] [.tmp 4] Try.func73 O8 λcm aF ck=>aJ ?_;refine a1 aF λ_ cf bz aC=>aJ ?_;refine cd bz λgM _ ct cO _=>?_;show bh aA (.loop ?fu) _ _;have gN:∀n aZ,uM I ar n aZ=some r->dK aA ?fu gM (ao [(0,.slice (I.map cB)),(1,.int .i64 ar),(5,.int .i64 aZ)]):=by
  refine eB λ_ gw aZ h=>eA ct λ_ fq dk bM=>a1 dk λ_ eD _ b1=>aJ ?_;refine bn h (λdy h=>?_) λdy h=>?_
  .refine bp (eD _ (inl (a1 dk λ_ ek dp _=>cd dp λ_ c3 du _ _=>?_)));obtain⟨ah,dT,h⟩:=aU h;obtain⟨aC,dN,h⟩:=aU h;refine gL dT (BQ ah ar 60 _ dN) _ ?_;refine bn h (λhT h=>?_) λhT h=>?_
   .exact bo du [.bool false]
   .refine bp (c3 _ (ek _ (inl (gf ?_))));exact fq _ (inr ⟨_,dd rfl,gw (i64.wrap (aZ+1)) h⟩)
  .exact ep (b1 0 _ (bM 0 _ (cO _ (cf _ (inl (bo aF [.bool true]))))))
 exact fa h λn h=>gN n 0 h
theorem BR (I r) (h:uN I=some r):bq aA 113 [.int .u8 (I.toNat:Int)] (.bool r) []:=by
 refine cq [0] [.tmp 2] Try.func113 O9 λcm aF ck=>aJ ?_;refine ri (decide (97<=(I.toNat:Int))) [(2,.bool ((decide (97<=(I.toNat:Int)))&&(decide ((I.toNat:Int)<=122))))] ?_;exact ez aF [.bool ((decide (97<=(I.toNat:Int)))&&(decide ((I.toNat:Int)<=122)))]
theorem QJ (I r) (h:AP I=some r):bq aA 114 [.int .u8 (I.toNat:Int)] (.bool r) []:=by
 refine cq [0] [.tmp 2] Try.func114 O_ λcm aF ck=>aJ ?_;refine ri (decide (48<=(I.toNat:Int))) [(2,.bool ((decide (48<=(I.toNat:Int)))&&(decide ((I.toNat:Int)<=57))))] ?_;exact ez aF [.bool ((decide (48<=(I.toNat:Int)))&&(decide ((I.toNat:Int)<=57)))]
theorem Ha (I r) (h:wX I=some r):bq aA 96 [.str I] (.bool r) []:=by
 refine cq [0] [.tmp 2] Try.func96 Pa λcm aF ck=>aJ ?_;refine a1 aF λ_ cf bz aC=>?_;rcases g3 h with⟨cO,h⟩|⟨cO,h⟩
 .refine eL cO _ ?_;refine js rfl ?_;exact bo bz [.bool false]
 .rcases g3 h with⟨fC,h⟩|⟨fC,h⟩
  .refine eL (ab cO fC) _ ?_;refine js rfl ?_;exact bo bz [.bool false]
  .obtain⟨ah,gR,h⟩:=aU h;obtain⟨aC,iE,h⟩:=aU h;refine gL (ab cO (ab fC gR)) (BR ah _ iE) _ ?_;refine bn h (λiz h=>?_) λiz h=>?_
   .exact bo bz [.bool false]
   .refine bp (cf _ (inl (a1 aF λ_ iW pH _=>aJ ?_)));refine cd pH λQK _ gg hT _=>?_;show bh aA (.loop ?lj) _ _;have lr:∀n e2,uO I n e2=some r->dK aA ?lj QK (ao [(0,.str I),(3,.int .i64 e2)]):=by
     refine eB λ_ kO e2 h=>eA gg λ_ iP kM pC=>a1 kM λ_ lq _ rh=>aJ ?_;refine bn h (λm1 h=>?_) λm1 h=>?_
     .refine bp (lq _ (inl (a1 kM λ_ sP BS _=>cd BS λ_ sQ BT _ _=>?_)));obtain⟨aV,h6,h⟩:=aU h;obtain⟨bL,m2,h⟩:=aU h;rcases g3 h with⟨nJ,h⟩|⟨nJ,h⟩
      .obtain⟨bM,jc,h⟩:=aU h;refine dJ (cS [(0,.str I),(3,.int .i64 e2),(34,.bool (!bM))] (λP bf=>?_) ?_)
       ·(try simp only[a5.down,simprocAttr,h6,(l1 nJ)]);refine er (BR aV _ m2) (hK:= ?_);simp only[a5.down,simprocAttr,h6,(l1 nJ)];refine kG (QJ aV _ jc) (hK:= ?_);simp only[a5.down,simprocAttr,h6,(l1 nJ)];exact cH (ab h6 (l1 nJ))
       refine bn h (λm0 h=>?_) λm0 h=>?_
       .exact bo BT [.bool false]
       .refine bp (sQ _ (sP _ (inl (gf ?_))));exact iP _ (inr ⟨_,dd rfl,kO (i64.wrap (e2+1)) h⟩)
      .refine gL (ab h6 (fS nJ)) (BR aV _ m2) _ ?_;refine qK rfl ?_;refine bp (sQ _ (sP _ (inl (gf ?_))));exact iP _ (inr ⟨_,dd rfl,kO (i64.wrap (e2+1)) h⟩)
     .exact ep (rh 0 _ (pC 0 _ (hT _ (iW _ (inl (bo aF [.bool true]))))))
    exact fa h λn h=>lr n 0 h
theorem Hb (I r) (h:wY I=some r):bq aA 72 [.str I] (.bool r) []:=by
 refine cq [0] [.tmp 2] Try.func72 Pb λcm aF ck=>aJ ?_;obtain⟨ah,aX,h⟩:=aU h;refine dJ (cS [(2,.bool (ah&&(!(I==([116,97,117]:Vj)))))] (λP bf=>?_) ?_)
 .rcases Bool.eq_false_or_eq_true (ah)with jC|jC
  ·(try simp only[a5.down,simprocAttr,jC]);refine er (Ha I _ aX) (hK:= ?_);simp only[a5.down,simprocAttr,jC];exact cH jC
  ·(try simp only[a5.down,simprocAttr,jC]);refine er (Ha I _ aX) (hK:= ?_);simp only[a5.down,simprocAttr,jC];exact cH jC
 exact ez aF [.bool (ah&&(!(I==([116,97,117]:Vj))))]
theorem QL (I ar r) (h:wZ I ar=some r):bq aA 45 [.ref (b3 I),.int .i64 ar] (.bool r) []:=by
 refine cq [0,1] [.tmp 4] Try.func45 Pe λcm aF ck=>aJ ?_;refine a1 aF λ_ cf bz aC=>?_;obtain⟨ah,bT,h⟩:=aU h;refine eV (G_ I.aY _ bT) _ ?_;refine bn h (λc6 h=>?_) λc6 h=>?_
 .exact bo bz [.bool false]
 .refine bp (cf _ (inl (aJ ?_)));refine a1 aF λ_ ho jd _=>?_;obtain⟨aC,j2,h⟩:=aU h;refine dJ (cS [(0,.ref (b3 I)),(5,.int .i64 (i64.wrap (ar+(I.aY.length:Int)))),(34,.bool ((!aC)||((I.Next.length:Int) !=ar)))] (λP bf=>?_) ?_)
  .rcases Bool.eq_false_or_eq_true (aC)with rp|rp
   ·(try simp only[a5.down,simprocAttr,rp]);refine er (BQ I.Guard (i64.wrap (ar+(I.aY.length:Int))) 60 _ j2) (hK:= ?_);simp only[a5.down,simprocAttr,rp];exact cH rp
   ·(try simp only[a5.down,simprocAttr,rp]);refine er (BQ I.Guard (i64.wrap (ar+(I.aY.length:Int))) 60 _ j2) (hK:= ?_);simp only[a5.down,simprocAttr,rp];exact cH rp
  refine bn h (λhn h=>?_) λhn h=>?_
  .exact bo jd [.bool false]
  .refine bp (ho _ (inl (a1 aF λ_ gu gg _=>?_)));rcases g3 h with⟨iY,h⟩|⟨iY,h⟩
   .rcases g3 h with⟨kk,h⟩|⟨kk,h⟩
    .refine eL (ab iY kk) _ ?_;refine js rfl ?_;exact bo gg [.bool false]
    .refine eL (ab iY kk) _ ?_;refine bn h (λkm h=>?_) λkm h=>?_
     .exact bo gg [.bool false]
     .refine bp (gu _ (inl ?_));obtain⟨aV,h6,h⟩:=aU h;rcases g3 h with⟨kN,h⟩|⟨kN,h⟩
      .obtain⟨bL,vg,h⟩:=aU h;refine dJ (cS [(4,.bool bL)] (λP bf=>?_) ?_)
       ·(try simp only[a5.down,simprocAttr,kN]);refine er (sO I.bG (i64.wrap (ar+(I.aY.length:Int))) _ h6) (hK:= ?_);simp only[a5.down,simprocAttr,kN];refine kG (sO I.Next (i64.wrap (ar+(I.aY.length:Int))) _ vg) (hK:= ?_);simp only[a5.down,simprocAttr,kN];exact cH kN
       exact ez aF [.bool bL]
      .refine gL kN (sO I.bG (i64.wrap (ar+(I.aY.length:Int))) _ h6) _ ?_;exact ez aF [.bool false]
   .obtain⟨bM,jc,h⟩:=aU h;rcases g3 h with⟨m0,h⟩|⟨m0,h⟩
    .refine gL (ab iY (l1 m0)) (Hb I.Name _ jc) _ ?_;refine js rfl ?_;exact bo gg [.bool false]
    .refine gL (ab iY (fS m0)) (Hb I.Name _ jc) _ ?_;refine bn h (λQM h=>?_) λQM h=>?_
     .exact bo gg [.bool false]
     .refine bp (gu _ (inl ?_));obtain⟨b1,lu,h⟩:=aU h;rcases g3 h with⟨l9,h⟩|⟨l9,h⟩
      .obtain⟨cE,sR,h⟩:=aU h;refine dJ (cS [(4,.bool cE)] (λP bf=>?_) ?_)
       ·(try simp only[a5.down,simprocAttr,l9]);refine er (sO I.bG (i64.wrap (ar+(I.aY.length:Int))) _ lu) (hK:= ?_);simp only[a5.down,simprocAttr,l9];refine kG (sO I.Next (i64.wrap (ar+(I.aY.length:Int))) _ sR) (hK:= ?_);simp only[a5.down,simprocAttr,l9];exact cH l9
       exact ez aF [.bool cE]
      .refine gL l9 (sO I.bG (i64.wrap (ar+(I.aY.length:Int))) _ lu) _ ?_;exact ez aF [.bool false]
theorem QN (I r) (h:w1 I=some r):bq aA 19 [.ref (ej I)] (.bool r) []:=by
 refine cq [0] [.tmp 2] Try.func19 Pf λcm aF ck=>aJ ?_;refine a1 aF λ_ cf bz aC=>?_;obtain⟨ah,bT,h⟩:=aU h;rcases g3 h with⟨c6,h⟩|⟨c6,h⟩
 .refine pE (l1 c6) (pF I.a7 0 21 _ bT) _ ?_;refine js rfl ?_;exact bo bz [.bool false]
 .obtain⟨aC,bx,h⟩:=aU h;refine ue rfl (pj [(0,.ref (ej I)),(29,.bool ((!aC)||(decide (60<(I.bJ.length:Int)))))] (λP bf=>?_) ?_)
  .rcases Bool.eq_false_or_eq_true (aC)with ix|ix
   ·(try simp only[gr.down,simprocAttr,(fS c6),ix]);refine k3 (pF I.a7 0 21 _ bT) (hK:= ?_);simp only[gr.down,simprocAttr,(fS c6),ix];refine z0 (G9 I.Start I.a7 _ bx) (hK:= ?_);simp only[gr.down,simprocAttr,(fS c6),ix];refine⟨oi (by kernel_rfl),?_⟩;exact cH (ab (fS c6) ix)
   ·(try simp only[gr.down,simprocAttr,(fS c6),ix]);refine k3 (pF I.a7 0 21 _ bT) (hK:= ?_);simp only[gr.down,simprocAttr,(fS c6),ix];refine z0 (G9 I.Start I.a7 _ bx) (hK:= ?_);simp only[gr.down,simprocAttr,(fS c6),ix];refine⟨oi (by kernel_rfl),?_⟩;exact cH (ab (fS c6) ix)
  refine bn h (λg6 h=>?_) λg6 h=>?_
  .exact bo bz [.bool false]
  .refine bp (cf _ (inl (a1 aF λ_ eC fy _=>aJ ?_)));refine cd fy λQO _ l_ oB _=>?_;show bh aA (.loop ?lj) _ _;have lr:∀n e2,uP I n e2=some r->dK aA ?lj QO (ao [(0,.ref (ej I)),(3,.int .i64 e2)]):=by
    refine eB λ_ kO e2 h=>eA l_ λ_ gu gg ki=>a1 gg λ_ iP _ pC=>aJ ?_;refine bn h (λkk h=>?_) λkk h=>?_
    .refine bp (iP _ (inl (a1 gg λ_ QP QQ _=>cd QQ λ_ sP BS _ _=>?_)));obtain⟨aV,kl,h⟩:=aU h;obtain⟨bL,h6,h⟩:=aU h;refine pE kl (QL aV I.a7 _ h6) _ ?_;refine bn h (λkN h=>?_) λkN h=>?_
     .exact bo BS [.bool false]
     .refine bp (sP _ (QP _ (inl (gf ?_))));exact gu _ (inr ⟨_,dd rfl,kO (i64.wrap (e2+1)) h⟩)
    .exact ep (pC 0 _ (ki 0 _ (oB _ (eC _ (inl (bo aF [.bool true]))))))
   exact fa h λn h=>lr n 0 h
theorem QR (I r) (h:w2 I=some r):bq aA 21 [.slice (I.map aH)] (.aq 1 (r.map aH)) []:=by
 refine cq [0] [.tmp 2] Try.func21 Pg λcm aF ck=>aJ ?_;obtain⟨Dn,aX,h⟩:=aU h;(try simp only[kj.down,Nat.zero_add,Nat.add_zero,reduceAdd]at aX);refine eL (ab (show∀s,e6 aA s 22 0 []=some (.aq 1 [],s)from λs=>by kernel_rfl) (ab (@k6 aA 22 22 2 rfl rfl) (ab @k7 (ab @k8 (ab @jt (ab @k5 (ab @all_nil (ab aX (@k4 _ aH 1 λ_=>rfl))))))))) _ ?_;exact ez aF [.aq 1 (I.map aH)]
theorem QS (I r) (h:w3 I=some r):bq aA 46 [.slice (I.map bA)] (.aq 2 (r.map bA)) []:=by
 refine cq [0] [.tmp 2] Try.func46 Ph λcm aF ck=>aJ ?_;obtain⟨Dn,aX,h⟩:=aU h;(try simp only[kj.down,Nat.zero_add,Nat.add_zero,reduceAdd]at aX);refine eL (ab (show∀s,e6 aA s 44 0 []=some (.aq 2 [],s)from λs=>by kernel_rfl) (ab (@k6 aA 44 44 76 rfl rfl) (ab @k7 (ab @k8 (ab @jt (ab @k5 (ab @all_nil (ab aX (@k4 _ bA 2 λ_=>rfl))))))))) _ ?_;exact ez aF [.aq 2 (I.map bA)]
theorem Hc (I ar bw r) (h:uQ I ar bw=some r):bq aA 22 [.slice (I.map bA),.int .i64 ar,.slice (bw.map aH)] (.aq 2 (r.map bA)) []:=by
 refine cq [0,1,2] [.tmp 6] Try.func22 BH λcm aF ck=>aJ ?_;obtain⟨ah,aX,h⟩:=aU h;refine eV (QS I _ aX) _ ?_;refine a1 aF λ_ gv ct _=>aJ ?_;refine cd ct λlp _ eW fC _=>?_;show bh aA (.loop ?hx) _ _;have iy:∀n gn gp,q2 ar bw n gn gp=some r->dK aA ?hx lp (ao [(1,.int .i64 ar),(2,.slice (bw.map aH)),(7,.aq 2 (gn.map bA)),(8,.int .i64 gp)]):=by
  refine eB λlP hS gn gp h=>eA eW λQT fL f_ cE=>a1 f_ λ_ ho _ dL=>aJ ?_;refine bn h (λiz h=>?_) λiz h=>?_
  .refine bp (ho _ (inl ?_));show bh aA (.seq _ ?BH) _ _;have Hd:∀sk sl,w4 (q2 ar bw lP) ar bw sk sl=some r->bh aA ?BH QT (ao [(1,.int .i64 ar),(2,.slice (bw.map aH)),(7,.aq 2 (sk.map bA)),(8,.int .i64 sl)]):=by
    intro sk sl h;refine gf ?_;exact fL _ (inr ⟨_,dd rfl,hS sk (i64.wrap (sl+1)) h⟩)
   refine a1 f_ λ_ eC fy _=>cd fy λ_ kP _ _ _=>?_;obtain⟨aC,eH,h⟩:=aU h;refine GU (aC.Kind==1) (ab eH (c7 eH)) [(1,.int .i64 ar),(2,.slice (bw.map aH)),(7,.aq 2 (gn.map bA)),(8,.int .i64 gp),(31,.bool ((aC.Kind==1)&&(decide (ar<=aC.Value))))] ?_;refine bn h (λiY h=>?_) λiY h=>?_
   .obtain⟨aV,fM,h⟩:=aU h;refine ja (cS [(1,.int .i64 ar),(2,.slice (bw.map aH)),(7,.aq 2 ((List.set gn (Int.toNat gp) (aW.mk 0 aV)).map bA)),(8,.int .i64 gp)] (λP bf=>?_) ?_)
    .simp only[a5.down,simprocAttr,eH,c7 eH,fM,(show∀s,fb aA s 76 [(0,.int .i64 0),(1,.int .i64 aV)]=some (.agg [.int .i64 0,.int .i64 aV],s)from λs=>by kernel_rfl),eK,dc];exact cH (ab eH (ab (c7 eH) (ab fM (ab (show∀s,fb aA s 76 [(0,.int .i64 0),(1,.int .i64 aV)]=some (.agg [.int .i64 0,.int .i64 aV],s)from λs=>by kernel_rfl) @eK))))
    exact kP _ (eC _ (inr ⟨_,dd rfl,Hd (List.set gn (Int.toNat gp) (aW.mk 0 aV)) gp h⟩))
   .exact bp (kP _ (eC _ (inr ⟨_,dd rfl,Hd gn gp h⟩)))
  .exact ep (dL 0 _ (cE 0 _ (fC _ (gv _ (inl (bo aF [.aq 2 (gn.map bA)]))))))
 exact fa h λn h=>iy n ah 0 h
theorem He (I ar bw r) (h:uR I ar bw=some r):bq aA 23 [.slice (I.map cB),.int .i64 ar,.slice (bw.map aH)] (.aq 1 (r.map eG)) []:=by
 refine cq [0,1,2] [.tmp 6] Try.func23 Pj λcm aF ck=>aJ ?_;refine eL (show∀s,e6 aA s 45 0 []=some (.aq 1 [],s)from λs=>by kernel_rfl) _ ?_;refine a1 aF λ_ iv dC _=>aJ ?_;refine cd dC λoE _ dk c6 _=>?_;show bh aA (.loop ?hx) _ _;have iy:∀n gn gp,sm I ar bw n gn gp=some r->dK aA ?hx oE (ao [(0,.slice (I.map cB)),(1,.int .i64 ar),(2,.slice (bw.map aH)),(7,.aq 1 (gn.map eG)),(8,.int .i64 gp)]):=by
  refine eB λ_ hS gn gp h=>eA dk λ_ eD eW b1=>a1 eW λ_ fL _ cE=>aJ ?_;refine bn h (λg6 h=>?_) λg6 h=>?_
  .refine bp (fL _ (inl (a1 eW λ_ c3 du _=>cd du λ_ eC _ _ _=>?_)));obtain⟨ah,dN,h⟩:=aU h;obtain⟨aC,g1,h⟩:=aU h;obtain⟨u16,eH,h⟩:=aU h;(try simp only[kj.down,Nat.zero_add,Nat.add_zero,reduceAdd]at eH);refine ja (cS [(0,.slice (I.map cB)),(1,.int .i64 ar),(2,.slice (bw.map aH)),(7,.aq 1 ((gn++[aC]).map eG)),(8,.int .i64 gp)] (λP bf=>?_) ?_)
   ·(try simp only[a5.down,simprocAttr,dN,sN.down,hk,c4,eH]);refine er (Hc ah ar bw _ g1) (hK:= ?_);simp only[a5.down,simprocAttr,dN,sN.down,hk,c4,eH];(try simp only[hR.down,simprocAttr,dN,sN.down,hk,c4,eH]at bf⊢);exact bf
   refine eC _ (c3 _ (inl (wr [(0,.slice (I.map cB)),(1,.int .i64 ar),(2,.slice (bw.map aH)),(7,.aq 1 ((gn++[aC]).map eG)),(8,.int .i64 (i64.wrap (gp+1)))] ?_)));exact eD _ (inr ⟨_,dd rfl,hS (gn++[aC]) (i64.wrap (gp+1)) h⟩)
  .exact ep (cE 0 _ (b1 0 _ (c6 _ (iv _ (inl (bo aF [.aq 1 (gn.map eG)]))))))
 exact fa h λn h=>iy n [] 0 h
theorem QU (I ar r) (h:w5 I ar=some r):bq aA 24 [.aq 1 (I.map aH),.slice (ar.map aH)] (.bool r.1) [.aq 1 (r.2.map aH),.hole]:=by
 refine cq [0,1] [.tmp 4] Try.func24 Pk λcm aF ck=>aJ ?_;refine a1 aF λ_ cf bz aC=>aJ ?_;refine cd bz λgM _ ct cO _=>?_;show bh aA (.loop ?fu) _ _;have gN:∀n cp aZ,sn ar n cp aZ=some r->dK aA ?fu gM (ao [(0,.aq 1 (cp.map aH)),(1,.slice (ar.map aH)),(5,.int .i64 aZ)]):=by
  refine eB λ_ gw cp aZ h=>eA ct λ_ fq dk bM=>a1 dk λ_ eD _ b1=>aJ ?_;refine bn h (λdy h=>?_) λdy h=>?_
  .refine bp (eD _ (inl (a1 dk λ_ ek dp _=>cd dp λ_ c3 du _ _=>a1 du λ_ eC fy _=>?_)));obtain⟨ah,dN,h⟩:=aU h;obtain⟨aC,g1,h⟩:=aU h;refine xD (ab dN (ab (c7 dN) g1)) _ ?_;refine bn h (λjS h=>?_) λjS h=>?_
   .refine dJ (cS [(0,.aq 1 ((List.set cp (Int.toNat aZ) (i64.wrap (ah+1))).map aH))] (λP bf=>?_) ?_)
    .simp only[a5.down,simprocAttr,dN,c7 dN,eK,dc];exact cH (ab dN (ab (c7 dN) @eK))
    refine ws [(0,.aq 1 ((List.set cp (Int.toNat aZ) (i64.wrap (ah+1))).map aH)),(4,.bool true)] ?_;exact jH (fy _ (inl (lY [.bool true] rfl (by cases hb h;rfl) (by decide) (mK (mL (by cases hb h;rfl) rfl rfl rfl (k9 (mM)))))))
   .refine bp (eC _ (inl (ja (cS [(0,.aq 1 ((List.set cp (Int.toNat aZ) 0).map aH)),(1,.slice (ar.map aH)),(5,.int .i64 aZ)] (λP bf=>?_) ?_))))
    .simp only[a5.down,simprocAttr,dN,c7 dN,eK,dc];exact cH (ab dN (ab (c7 dN) @eK))
    refine c3 _ (ek _ (inl (wr [(0,.aq 1 ((List.set cp (Int.toNat aZ) 0).map aH)),(1,.slice (ar.map aH)),(5,.int .i64 (i64.wrap (aZ-1)))] ?_)));exact fq _ (inr ⟨_,dd rfl,gw (List.set cp (Int.toNat aZ) 0) (i64.wrap (aZ-1)) h⟩)
  .refine ep (b1 0 _ (bM 0 _ (cO _ (cf _ (inl (aJ ?_))))));exact jH (aF _ (inl (lY [.bool false] rfl (by cases hb h;rfl) (by decide) (mK (mL (by cases hb h;rfl) rfl rfl rfl (k9 (mM)))))))
 exact fa h λn h=>gN n I (i64.wrap ((I.length:Int)-1)) h
theorem QV (I r) (h:w6 I=some r):bq aA 6 [ej I] (.tuple [e3 r.1,.int .i64 r.2]) []:=by
 refine cq [0] [.cell 2 29,.tmp 3] Try.func6 fu λcm aF ck=>aJ ?_;refine a1 aF λ_ cf bz aC=>?_;obtain⟨ah,bT,h⟩:=aU h;refine dJ (cS [(1,.aS (ej I)),(2,.aS (.agg [.int .i64 0,.aK,.aK])),(11,.bool (!ah))] (λP bf=>?_) ?_)
 .refine er (QN I _ bT) rfl rfl (by simp only[a5.down,simprocAttr,GV.down]<;>rfl) rfl (inr (by rfl)) ?_;simp only[a5.down,simprocAttr];exact cH trivial
 refine bn h (λc6 h=>?_) λc6 h=>?_
 .refine eL (show∀s,fb aA s 29 []=some (.agg [.int .i64 0,.aK,.aK],s)from λs=>by kernel_rfl) _ ?_;exact jH (bz _ (inr ⟨[(2,.aS (e3 (b5.mk 0 [] []))),(3,.int .i64 1)],kb [] rfl (kd (t:=2) (d:=.aS (.agg [.int .i64 0,.aK,.aK])) rfl rfl (.aS (.agg (.cons (.refl _) (.cons (.gW _) (.cons (.gW _) (.nil)))))) (by decide) (fI rfl (kc))),sa [e3 (b5.mk 0 [] []),.int .i64 1]⟩))
 .refine bp (cf _ (inl (aJ ?_)));refine a1 aF λ_ ho jd dL=>aJ ?_;refine cd jd λQW _ du iz _=>?_;show bh aA (.loop ?lk) _ _;have ll:∀n gb fT,so I n gb fT=some r->dK aA ?lk QW (ao [(1,.aS (ej I)),(2,.aS (.agg [.int .i64 0,.aK,.aK])),(4,.int .i64 gb),(5,.int .i64 fT)]):=by
   refine eB λ_ ln gb fT h=>eA du λ_ eC fy eU=>a1 fy λ_ iW _ pB=>aJ ?_;refine bn h (λhT h=>?_) λhT h=>?_
   .refine bp (iW _ (inl (a1 fy λ_ iP kM _=>cd kM λ_ lq _ _ _=>?_)));obtain⟨aC,fM,h⟩:=aU h;obtain⟨aV,iX,h⟩:=aU h;refine GS fM (G_ aC.aY _ iX) _ ?_;refine lq _ (iP _ (inl (gf ?_)));exact eC _ (inr ⟨_,dd rfl,ln (i64.wrap (gb+aV)) (i64.wrap (fT+1)) h⟩)
   .refine ep (pB 0 _ (eU 0 _ (iz _ (ho _ (inl (a1 aF λ_ mZ oC _=>aJ ?_))))));refine bn h (λkN h=>?_) λkN h=>?_
    .refine eL (show∀s,fb aA s 29 []=some (.agg [.int .i64 0,.aK,.aK],s)from λs=>by kernel_rfl) _ ?_;exact jH (oC _ (inr ⟨[(2,.aS (e3 (b5.mk 0 [] []))),(3,.int .i64 5)],kb [] rfl (kd (t:=2) (d:=.aS (.agg [.int .i64 0,.aK,.aK])) rfl rfl (.aS (.agg (.cons (.refl _) (.cons (.gW _) (.cons (.gW _) (.nil)))))) (by decide) (fI rfl (kc))),sa [e3 (b5.mk 0 [] []),.int .i64 5]⟩))
    .refine bp (mZ _ (inl ?_));obtain⟨bL,rl,h⟩:=aU h;refine pE (ab (@qO aA 29 [(2,0),(22,1),(27,2)] [(.int .i64 0),.aK,.aK] rfl rfl (by kernel_rfl)) (ab @ob (ab @oc (ab @eK (ab @jt (ab @List.nil_append.{0} @List.cons_append.{0})))))) (QR I.Start _ rl) _ ?_;refine a1 aF λ_ oD ve _=>aJ ?_;refine cd ve λQX _ QY vf _=>?_;show bh aA (.loop ?QZ) _ _;have Q0:∀n mR mS,q4 I bL n mR mS=some r->dK aA ?QZ QX (ao [(1,.aS (ej I)),(2,.aS (.agg [.int .i64 0,.aK,.aK])),(6,.aS (.agg [.int .i64 I.a7,.aq 1 (bL.map aH),.aq 5 (mR.map cg)])),(7,.int .i64 mS)]):=by
      refine eB λQ1 Q2 mR mS h=>eA QY λ_ Q3 Hf Q4=>a1 Hf λ_ BU _ Q5=>aJ ?_;refine bn h (λma h=>?_) λma h=>?_
      .refine bp (BU _ (inl (a1 Hf λ_ Q6 Q7 _=>cd Q7 λ_ BV Q8 _ _=>?_)));obtain⟨bM,sS,h⟩:=aU h;refine eL sS _ ?_;obtain⟨Q9,Q_,h⟩:=aU h;refine sM (ab (oP Q_) @List.map_replicate.{0,0}) [(1,.aS (ej I)),(2,.aS (.agg [.int .i64 0,.aK,.aK])),(6,.aS (.agg [.int .i64 I.a7,.aq 1 (bL.map aH),.aq 5 (mR.map cg)])),(7,.int .i64 mS),(8,.ref (b3 bM)),(9,.aq 1 ((List.replicate (Int.toNat (bM.aY.length:Int)) 0).map aH))] ?_;refine cd Q8 λRa _ Rb Rc _=>?_;show bh aA (.loop ?BI) _ _;have Rd:∀n jv kK jP,q3 (q4 I bL Q1) I bL bM n jv kK jP=some r->dK aA ?BI Ra (ao [(1,.aS (ej I)),(2,.aS (.agg [.int .i64 0,.aK,.aK])),(6,.aS (.agg [.int .i64 I.a7,.aq 1 (bL.map aH),.aq 5 (jv.map cg)])),(7,.int .i64 kK),(8,.ref (b3 bM)),(9,.aq 1 (jP.map aH))]):=by
        refine eB λ_ Re jv kK jP h=>eA Rb λ_ Rf Rg Rh=>cd Rg λ_ Ri _ _ Rj=>?_;obtain⟨b1,BW,h⟩:=aU h;obtain⟨cE,Rk,h⟩:=aU h;obtain⟨dL,Rl,h⟩:=aU h;obtain⟨Q9,oF,h⟩:=aU h;(try simp only[kj.down,Nat.zero_add,Nat.add_zero,reduceAdd]at oF);refine FM rfl (pj (K:=dr _) [(1,.aS (ej I)),(2,.aS (.agg [.int .i64 0,.aK,.aK])),(6,.aS (.agg [.int .i64 I.a7,.aq 1 (bL.map aH),.aq 5 (List.map cg jv++[.agg [.aK,.aq 2 (b1.map bA),.str bM.Name,.aq 1 (cE.map eG),.aq 1 (dL.map eG)]])])),(7,.int .i64 kK),(8,.ref (b3 bM)),(9,.aq 1 (jP.map aH))] (λP bf=>?_) (z7 [(1,.aS (ej I)),(2,.aS (.agg [.int .i64 0,.aK,.aK])),(6,.aS (.agg [.int .i64 I.a7,.aq 1 (bL.map aH),.aq 5 ((jv++[(aN.mk [] b1 bM.Name cE dL)]).map cg)])),(7,.int .i64 kK),(8,.ref (b3 bM)),(9,.aq 1 (jP.map aH))] (kb [] rfl (fI rfl (fI rfl (kd (t:=6) (d:=.aS (.agg [.int .i64 I.a7,.aq 1 (bL.map aH),.aq 5 (List.map cg jv++[.agg [.aK,.aq 2 (b1.map bA),.str bM.Name,.aq 1 (cE.map eG),.aq 1 (dL.map eG)]])])) (a8:=.aS (.agg [.int .i64 I.a7,.aq 1 (bL.map aH),.aq 5 ((jv++[(aN.mk [] b1 bM.Name cE dL)]).map cg)])) rfl rfl (.aS (.agg (.cons (.refl _) (.cons (.refl _) (.cons ((.aq (FR (ys:=[(aN.mk [] b1 bM.Name cE dL)]) (.cons (.agg (.cons (.gW _) (.cons (.refl _) (.cons (.refl _) (.cons (.refl _) (.cons (.refl _) (.nil))))))) (.nil)) _))) (.nil)))))) (by decide) (fI rfl (fI rfl (fI rfl (kc)))))))) ?_))
        ·(try simp only[gr.down,simprocAttr,mY.down,dt,c4,hk,oF]);refine k3 (Hc bM.Guard I.a7 jP _ BW) rfl rfl (by simp only[gr.down,simprocAttr,BL.down,dt,c4,hk,oF]<;>rfl) rfl (inr (jJ (λ_=>BC _) _)) ?_;simp only[gr.down,simprocAttr,mY.down,dt,c4,hk,oF];refine k3 (He bM.bG I.a7 jP _ Rk) rfl rfl (by simp only[gr.down,simprocAttr,BL.down,dt,c4,hk,oF]<;>rfl) rfl (inr (jJ (λ_=>sL _) _)) ?_;simp only[gr.down,simprocAttr,mY.down,dt,c4,hk,oF];refine k3 (He bM.Next I.a7 jP _ Rl) rfl rfl (by simp only[gr.down,simprocAttr,BL.down,dt,c4,hk,oF]<;>rfl) rfl (inr (jJ (λ_=>sL _) _)) ?_;simp only[gr.down,simprocAttr,mY.down,dt,c4,hk,oF];refine⟨oi (by kernel_rfl),?_⟩;(try simp only[hR.down,simprocAttr,mY.down,dt,c4,hk,oF]at bf⊢);exact bf
        obtain⟨ee,Rm,h⟩:=aU h;refine dJ (cS [(1,.aS (ej I)),(2,.aS (.agg [.int .i64 0,.aK,.aK])),(6,.aS (.agg [.int .i64 I.a7,.aq 1 (bL.map aH),.aq 5 ((jv++[(aN.mk [] b1 bM.Name cE dL)]).map cg)])),(7,.int .i64 kK),(8,.ref (b3 bM)),(9,.aq 1 (ee.2.map aH)),(95,.bool (!ee.1))] (λP bf=>?_) ?_)
        ·(try simp only[a5.down,simprocAttr]);refine od [⟨.h 9 [],true,_,_⟩,⟨.slice (bM.aY.map aH),false,_,.hole⟩] (QU jP bM.aY _ Rm) rfl rfl rfl (by simp only[a5.down,simprocAttr,qQ,oe,mJ,jI,jK,jL,fc,or_true,true_or, @c2 _ aH aH (λ_=>hD _)]) rfl rfl (inl rfl) ?_;simp only[a5.down,simprocAttr,lZ];exact cH trivial
        refine bn h (λRn h=>?_) λRn h=>?_
        .refine ep (Rj 4 _ (by decide) (Rh 4 _ (Rc _ (BV _ (Q6 _ (inl (wr [(1,.aS (ej I)),(2,.aS (.agg [.int .i64 0,.aK,.aK])),(6,.aS (.agg [.int .i64 I.a7,.aq 1 (bL.map aH),.aq 5 ((jv++[(aN.mk [] b1 bM.Name cE dL)]).map cg)])),(7,.int .i64 (i64.wrap (kK+1)))] ?_)))))));exact Q3 _ (inr ⟨_,dd rfl,Q2 (jv++[(aN.mk [] b1 bM.Name cE dL)]) (i64.wrap (kK+1)) h⟩)
        .exact bp (Ri _ (Rf _ (inr ⟨_,dd rfl,Re (jv++[(aN.mk [] b1 bM.Name cE dL)]) kK ee.2 h⟩)))
       exact fa h λn h=>Rd n mR mS (List.replicate (Int.toNat (bM.aY.length:Int)) 0) h
      .exact ep (Q5 2 _ (Q4 2 _ (vf _ (oD _ (inl (bo aF [e3 (b5.mk I.a7 bL mR),.int .i64 0]))))))
     obtain⟨n,h⟩:=pV h;exact qL (inr ⟨_,kb [] rfl (fI (t:=1) (d:=.aS (ej I)) rfl (fI (t:=2) (d:=.aS (.agg [.int .i64 0,.aK,.aK])) rfl (kd (t:=6) (d:=.aS (.agg [.int .i64 I.a7,.aq 1 (bL.map aH),.aK])) (a8:=.aS (.agg [.int .i64 I.a7,.aq 1 (bL.map aH),.aq 5 []])) rfl rfl (.aS (.agg (.cons (.refl _) (.cons (.refl _) (.cons (.gW _) (.nil)))))) (by decide) (fI (t:=7) (d:=.int .i64 0) rfl (kc))))),Q0 n [] 0 h⟩)
  exact fa h λn h=>ll n 0 0 h
theorem lv (I ar bw r) (h:ld I ar bw=some r):bq aA 48 [.int .i64 I,.int .i64 ar,.int .i64 bw] (.bool r) []:=by
 refine cq [0,1,2] [.tmp 6] Try.func48 Pl λcm aF ck=>aJ ?_;refine ri (decide (ar<=I)) [(6,.bool ((decide (ar<=I))&&(decide (I<=bw))))] ?_;exact ez aF [.bool ((decide (ar<=I))&&(decide (I<=bw)))]
theorem Hg (I r) (h:w7 I=some r):bq aA 100 [.int .i64 I] (.bool r) []:=by
 refine cq [0] [.tmp 2] Try.func100 Pm λcm aF ck=>aJ ?_;obtain⟨ah,aX,h⟩:=aU h;refine eV (lv I 0 63 _ aX) _ ?_;exact ez aF [.bool ah]
theorem Ro (I r) (h:AZ I=some r):bq aA 99 [.int .i64 I] (.bool r) []:=by
 refine cq [0] [.tmp 2] Try.func99 Pn λcm aF ck=>aJ ?_;obtain⟨ah,aX,h⟩:=aU h;refine eV (Hg I _ aX) _ ?_;exact ez aF [.bool (!ah)]
theorem Rp (I r) (h:A0 I=some r):bq aA 88 [.slice (I.map aH),.fn 99 []] (.int .i64 r) []:=by
 refine cq [0,1] [.tmp 4] Try.func88 Po λcm aF ck=>aJ ?_;refine a1 aF λ_ cf bz aC=>aJ ?_;refine cd bz λgM _ ct cO _=>?_;show bh aA (.loop ?fu) _ _;have gN:∀n ff,w8 I n ff=some r->dK aA ?fu gM (ao [(0,.slice (I.map aH)),(1,.fn 99 []),(7,.int .i64 (I.length:Int)),(8,.int .i64 ff)]):=by
  refine eB λ_ gw ff h=>eA ct λ_ fq dk bM=>aJ ?_;refine a1 dk λ_ fL _ cE=>bn h (λdy h=>?_) λdy h=>?_
  .refine bp (fL _ (inl (a1 dk λ_ ek dp _=>cd dp λ_ c3 du _ _=>aJ ?_)));obtain⟨ah,dN,h⟩:=aU h;obtain⟨aC,g1,h⟩:=aU h;refine gL dN (Ro ah _ g1) _ ?_;refine bn h (λjS h=>?_) λjS h=>?_
   .exact bo du [.int .i64 ff]
   .refine bp (c3 _ (ek _ (inl (gf ?_))));exact fq _ (inr ⟨_,dd rfl,gw (i64.wrap (ff+1)) h⟩)
  .exact ep (cE 0 _ (bM 0 _ (cO _ (cf _ (inl (bo aF [.int .i64 (-1)]))))))
 exact fa h λn h=>gN n 0 h
theorem Rq (I r) (h:A1 I=some r):bq aA 98 [.slice (I.map aH),.fn 99 []] (.bool r) []:=by
 refine cq [0,1] [.tmp 4] Try.func98 Pp λcm aF ck=>aJ ?_;obtain⟨ah,aX,h⟩:=aU h;refine eV (Rp I _ aX) _ ?_;exact ez aF [.bool (decide (0<=ah))]
theorem Rr (I r) (h:A2 I=some r):bq aA 76 [.slice (I.map aH)] (.bool r) []:=by
 refine cq [0] [.tmp 2] Try.func76 Pq λcm aF ck=>aJ ?_;obtain⟨ah,aX,h⟩:=aU h;refine eV (Rq I _ aX) _ ?_;exact ez aF [.bool (!ah)]
theorem Hh (I ar r) (h:w9 I ar=some r):bq aA 49 [ej I,.slice (ar.map aH)] (.bool r) []:=by
 refine cq [0,1] [.tmp 4] Try.func49 Pr λcm aF ck=>aJ ?_;rcases g3 h with⟨h1,h⟩|⟨h1,h⟩
 .obtain⟨ah,bT,h⟩:=aU h;refine gL h1 (Rr ar _ bT) _ ?_;exact ez aF [.bool ah]
 .refine eL h1 _ ?_;exact ez aF [.bool false]
theorem Hi (I r) (h:w_ I=some r):bq aA 78 [b3 I] (.bool r) []:=by
 refine cq [0] [.tmp 2] Try.func78 Ps λcm aF ck=>aJ ?_;refine aJ ?_;refine a1 aF λ_ iv dC _=>aJ ?_;refine cd dC λoE _ dk c6 _=>?_;show bh aA (.loop ?hx) _ _;have iy:∀n cw nE,sq I n cw nE=some r->dK aA ?hx oE (ao [(1,.aS (b3 I)),(3,.int .i64 cw),(7,.slice (I.aY.map aH)),(8,.int .i64 (I.aY.length:Int)),(9,.int .i64 nE)]):=by
  refine eB λ_ hS cw nE h=>eA dk λ_ eD eW b1=>aJ ?_;refine a1 eW λ_ ho _ dL=>bn h (λg6 h=>?_) λg6 h=>?_
  .refine bp (ho _ (inl (a1 eW λ_ c3 du _=>cd du λ_ eC fy _ _=>?_)));obtain⟨ah,dN,h⟩:=aU h;refine eL dN _ ?_;refine a1 fy λ_ gu gg _=>?_;obtain⟨aC,eM,h⟩:=aU h;refine eV (lv ah 1 7 _ eM) _ ?_;refine bn h (λkk h=>?_) λkk h=>?_
   .exact bo gg [.bool false]
   .refine bp (gu _ (inl (gf ?_)));refine eC _ (c3 _ (inl (gf ?_)));exact eD _ (inr ⟨_,dd rfl,hS (i64.wrap (cw*(i64.wrap (ah+1)))) (i64.wrap (nE+1)) h⟩)
  .refine ep (dL 0 _ (b1 0 _ (c6 _ (iv _ (inl (ri (decide ((I.aY.length:Int)<=8)) [(2,.bool ((decide ((I.aY.length:Int)<=8))&&(decide (cw<=4096))))] ?_))))));exact ez aF [.bool ((decide ((I.aY.length:Int)<=8))&&(decide (cw<=4096)))]
 exact fa h λn h=>iy n 1 0 h
theorem Rs (I r) (h:A4 I=some r):bq aA 115 [.int .u8 (I.toNat:Int)] (.bool r) []:=by
 refine cq [0] [.tmp 2] Try.func115 Pt λcm aF ck=>aJ ?_;refine ri (decide (48<=(I.toNat:Int))) [(2,.bool ((decide (48<=(I.toNat:Int)))&&(decide ((I.toNat:Int)<=57))))] ?_;exact ez aF [.bool ((decide (48<=(I.toNat:Int)))&&(decide ((I.toNat:Int)<=57)))]
theorem Hj (I r) (h:xb I=some r):bq aA 101 [.str I] (.bool r) []:=by
 refine cq [0] [.tmp 2] Try.func101 Pu λcm aF ck=>aJ ?_;refine a1 aF λ_ cf bz aC=>aJ ?_;refine cd bz λgM _ ct cO _=>?_;show bh aA (.loop ?fu) _ _;have gN:∀n kh,px I n kh=some r->dK aA ?fu gM (ao [(0,.str I),(6,.int .i64 (I.length:Int)),(7,.int .i64 kh)]):=by
  refine eB λ_ gw kh h=>eA ct λ_ fq dk bM=>aJ ?_;refine a1 dk λ_ fL _ cE=>bn h (λdy h=>?_) λdy h=>?_
  .refine bp (fL _ (inl (a1 dk λ_ ek dp _=>cd dp λ_ c3 du _ _=>aJ ?_)));obtain⟨ah,dN,h⟩:=aU h;refine GU (decide (97<=(ah.toNat:Int))) dN [(0,.str I),(3,.int .i64 kh),(4,.bool ((decide (97<=(ah.toNat:Int)))&&(decide ((ah.toNat:Int)<=122)))),(6,.int .i64 (I.length:Int)),(7,.int .i64 kh)] ?_;rcases g3 h with⟨jS,h⟩|⟨jS,h⟩
   .rcases g3 h with⟨iY,h⟩|⟨iY,h⟩
    .refine eL (ab jS iY) _ ?_;refine js rfl ?_;exact bo du [.bool false]
    .obtain⟨aC,fM,h⟩:=aU h;refine gL (ab jS (ab iY dN)) (Rs ah _ fM) _ ?_;refine bn h (λkm h=>?_) λkm h=>?_
     .exact bo du [.bool false]
     .refine bp (c3 _ (ek _ (inl (gf ?_))));exact fq _ (inr ⟨_,dd rfl,gw (i64.wrap (kh+1)) h⟩)
   .refine eL jS _ ?_;refine qK rfl ?_;refine bp (c3 _ (ek _ (inl (gf ?_))));exact fq _ (inr ⟨_,dd rfl,gw (i64.wrap (kh+1)) h⟩)
  .refine ep (cE 0 _ (bM 0 _ (cO _ (cf _ (inl (ri (decide (1<=(I.length:Int))) [(2,.bool ((decide (1<=(I.length:Int)))&&(decide ((I.length:Int)<=10))))] ?_))))));exact ez aF [.bool ((decide (1<=(I.length:Int)))&&(decide ((I.length:Int)<=10)))]
 exact fa h λn h=>gN n 0 h
theorem Hk (I r) (h:uS I=some r):bq aA 79 [.str I] (.bool r) []:=by
 refine cq [0] [.tmp 2] Try.func79 Pv λcm aF ck=>aJ ?_;obtain⟨ah,aX,h⟩:=aU h;refine dJ (cS [(2,.bool (ah&&(!(I==([116,97,117]:Vj)))))] (λP bf=>?_) ?_)
 .rcases Bool.eq_false_or_eq_true (ah)with jC|jC
  ·(try simp only[a5.down,simprocAttr,jC]);refine er (Hj I _ aX) (hK:= ?_);simp only[a5.down,simprocAttr,jC];exact cH jC
  ·(try simp only[a5.down,simprocAttr,jC]);refine er (Hj I _ aX) (hK:= ?_);simp only[a5.down,simprocAttr,jC];exact cH jC
 exact ez aF [.bool (ah&&(!(I==([116,97,117]:Vj))))]
theorem Rt (ar r) (h:xd ar=some r):bq aA 116 [.aK,.int .i64 ar] (.aq 1 []) []:=by
 refine cq [] [.tmp 4] Try.func116 Pw λcm aF ck=>aJ ?_;have Ru:A5 ar=some r->bh aA GK cm (ao [(0,.aK),(1,.int .i64 ar),(6,.bool (decide (ar<0)))]):=by
  intro h;have Hl:xc=some r->bh aA GJ cm (ao [(0,.aq 1 [])]):=by
   intro h;exact bo aF [.aq 1 []]
  refine a1 aF λ_ iv _ _=>eL (ab @FU λs x h=> @FT aA s 45 44 x rfl h) _ ?_;refine aJ ?_;refine bn h (λtv h=>?_) λtv h=>?_
  .obtain⟨Rv,iE,h⟩:=aU h;refine ja (cS [(0,.aq 1 [])] (λP bf=>?_) ?_)
   .simp only[a5.down,simprocAttr,GW.down,oP iE,hL,-Int.reduceNatCast',pq];(try simp only[hR.down,simprocAttr,GW.down,oP iE,hL,-Int.reduceNatCast',pq]at bf⊢);exact bf
   exact iv _ (inr ⟨_,dd rfl,Hl h⟩)
  .exact bp (iv _ (inr ⟨_,kb [] rfl (kd (t:=0) (d:=.aK) (a8:=.aq 1 []) rfl rfl (.gW _) (by decide) (kc)),Hl h⟩))
 refine a1 aF λ_ cf _ _=>aJ ?_;refine bn h (λmb h=>?_) λmb h=>?_
 .cases h
 .exact bp (cf _ (inr ⟨_,dd rfl,Ru h⟩))
theorem Rw (I r) (h:xf I=some r):bq aA 103 [.slice (I.map jR)] (.aq 1 (r.map cB)) []:=by
 refine cq [0] [.tmp 2] Try.func103 Px λcm aF ck=>aJ ?_;refine aJ ?_;refine a1 aF λ_ iv dC aV=>aJ ?_;refine cd dC λoE _ dk c6 _=>?_;show bh aA (.loop ?hx) _ _;have iy:∀n cw gd,q6 I n cw gd=some r->dK aA ?hx oE (ao [(0,.slice (I.map jR)),(3,.int .i64 cw),(9,.slice (I.map jR)),(10,.int .i64 (I.length:Int)),(11,.int .i64 gd)]):=by
  refine eB λlP hS cw gd h=>eA dk λlp eD eW b1=>aJ ?_;refine a1 eW λ_ ho _ dL=>bn h (λg6 h=>?_) λg6 h=>?_
  .refine bp (ho _ (inl ?_));show bh aA (.seq _ ?BF) _ _;have Rx:∀sr ss xe,A6 (q6 I lP) I sr ss xe=some r->bh aA ?BF lp (ao [(0,.slice (I.map jR)),(3,.int .i64 sr),(9,.slice (I.map jR)),(10,.int .i64 (I.length:Int)),(11,.int .i64 ss),(20,.bool xe)]):=by
    intro sr ss xe h;refine gf ?_;exact eD _ (inr ⟨_,dd rfl,hS sr (i64.wrap (ss+1)) h⟩)
   refine a1 eW λ_ c3 du _=>cd du λ_ iW _ _ _=>?_;obtain⟨ah,g1,h⟩:=aU h;refine eL g1 _ ?_;refine aJ ?_;refine aJ ?_;refine bn h (λkk h=>?_) λkk h=>?_
   .cases h
   .exact bp (iW _ (c3 _ (inr ⟨_,dd rfl,Rx (i64.wrap (cw+(ah.length:Int))) gd (decide ((i64.wrap (cw+(ah.length:Int)))<0)) h⟩)))
  .refine ep (dL 0 _ (b1 0 _ (c6 _ (iv _ (inl ?_)))));obtain⟨aC,nI,h⟩:=aU h;refine eV (Rt cw _ nI) _ ?_;refine a1 aF λ_ mZ oC _=>aJ ?_;refine cd oC λRy _ BX kN _=>?_;show bh aA (.loop ?oz) _ _;have Rz:∀n lf l5,q5 I n lf l5=some r->dK aA ?oz Ry (ao [(6,.aq 1 (lf.map cB)),(25,.slice (I.map jR)),(26,.int .i64 (I.length:Int)),(27,.int .i64 l5)]):=by
    refine eB λ_ RA lf l5 h=>eA BX λ_ rm pG RB=>aJ ?_;refine a1 pG λ_ RC _ RD=>bn h (λrq h=>?_) λrq h=>?_
    .refine bp (RC _ (inl (a1 pG λ_ RE RF _=>cd RF λ_ RG _ _ _=>?_)));obtain⟨aV,lu,h⟩:=aU h;refine eL lu _ ?_;obtain⟨U4,sR,h⟩:=aU h;(try simp only[kj.down,Nat.zero_add,Nat.add_zero,reduceAdd]at sR);refine oA (ab (@k6 aA 45 45 44 rfl rfl) (ab @k7 (ab @k8 (ab @jt (ab @k5 (ab @all_nil (ab sR (@k4 _ cB 1 λ_=>rfl)))))))) [(6,.aq 1 ((lf++aV).map cB)),(25,.slice (I.map jR)),(26,.int .i64 (I.length:Int)),(27,.int .i64 l5)] ?_;refine RG _ (RE _ (inl (wr [(6,.aq 1 ((lf++aV).map cB)),(25,.slice (I.map jR)),(26,.int .i64 (I.length:Int)),(27,.int .i64 (i64.wrap (l5+1)))] ?_)));exact rm _ (inr ⟨_,dd rfl,RA (lf++aV) (i64.wrap (l5+1)) h⟩)
    .exact ep (RD 2 _ (RB 2 _ (kN _ (mZ _ (inl (bo aF [.aq 1 (lf.map cB)]))))))
   exact fa h λn h=>Rz n [] 0 h
 exact fa h λn h=>iy n 0 0 h
theorem BZ (I r) (h:su I=some r):bq aA 81 [b3 I] (.aq 1 (r.map cB)) []:=by
 refine cq [0] [.tmp 2] Try.func81 Py λcm aF ck=>aJ ?_;obtain⟨ah,aX,h⟩:=aU h;refine dJ (cS [(2,.aq 1 (ah.map cB))] (λP bf=>?_) ?_)
 ·(try simp only[a5.down,simprocAttr,(show∀s,e6 aA s 45 1 [(0,.slice (I.Guard.map bA))]=some (.aq 1 [.slice (I.Guard.map bA)],s)from λs=>by kernel_rfl),BM.down,j.shares,(show∀s,e6 aA s 131 3 [(0,.slice [.slice (I.Guard.map bA)]),(1,.slice (I.bG.map cB)),(2,.slice (I.Next.map cB))]=some (.aq 1 [.slice [.slice (I.Guard.map bA)],.slice (I.bG.map cB),.slice (I.Next.map cB)],s)from λs=>by kernel_rfl)]);refine er (Rw [[I.Guard],I.bG,I.Next] _ aX) (hK:= ?_);simp only[a5.down,simprocAttr,(show∀s,e6 aA s 45 1 [(0,.slice (I.Guard.map bA))]=some (.aq 1 [.slice (I.Guard.map bA)],s)from λs=>by kernel_rfl),BM.down,j.shares,(show∀s,e6 aA s 131 3 [(0,.slice [.slice (I.Guard.map bA)]),(1,.slice (I.bG.map cB)),(2,.slice (I.Next.map cB))]=some (.aq 1 [.slice [.slice (I.Guard.map bA)],.slice (I.bG.map cB),.slice (I.Next.map cB)],s)from λs=>by kernel_rfl)];exact cH (ab (show∀s,e6 aA s 45 1 [(0,.slice (I.Guard.map bA))]=some (.aq 1 [.slice (I.Guard.map bA)],s)from λs=>by kernel_rfl) (ab BM.down (show∀s,e6 aA s 131 3 [(0,.slice [.slice (I.Guard.map bA)]),(1,.slice (I.bG.map cB)),(2,.slice (I.Next.map cB))]=some (.aq 1 [.slice [.slice (I.Guard.map bA)],.slice (I.bG.map cB),.slice (I.Next.map cB)],s)from λs=>by kernel_rfl)))
 exact ez aF [.aq 1 (ah.map cB)]
theorem RH (I ar r) (h:xg I ar=some r):bq aA 104 [bA I,.int .i64 ar] (.bool r) []:=by
 refine cq [0,1] [.tmp 4] Try.func104 Pz λcm aF ck=>aJ ?_;refine a1 aF λ_ cf bz aC=>aJ ?_;refine cd bz λ_ gv ct _ _=>aJ ?_;refine bn h (λfC h=>?_) λfC h=>?_
 .obtain⟨ah,gR,h⟩:=aU h;refine eV (Hg I.Value _ gR) _ ?_;exact ez ct [.bool ah]
 .refine aJ ?_;refine bn h (λiz h=>?_) λiz h=>?_
  .obtain⟨aC,dT,h⟩:=aU h;refine eV (lv I.Value 0 (i64.wrap (ar-1)) _ dT) _ ?_;exact ez ct [.bool aC]
  .refine aJ ?_;refine bn h (λhT h=>?_) λhT h=>?_
   .obtain⟨aV,eM,h⟩:=aU h;refine eV (lv I.Value 0 8 _ eM) _ ?_;exact ez ct [.bool aV]
   .refine aJ ?_;refine bn h (λm1 h=>?_) λm1 h=>?_
    .exact bo ct [.bool (I.Value==0)]
    .exact bp (gv _ (cf _ (inl (bo aF [.bool false]))))
theorem RI (I r) (h:A_ I=some r):bq aA 105 [bA I] (.int .i64 r) []:=by
 refine cq [0] [.tmp 2] Try.func105 PA λcm aF ck=>aJ ?_;refine a1 aF λ_ cf bz _=>aJ ?_;refine cd bz λ_ gv ct _ _=>aJ ?_;refine bn h (λfC h=>?_) λfC h=>?_
 .exact bo ct [.int .i64 2]
 .refine aJ ?_;refine bn h (λg6 h=>?_) λg6 h=>?_
  .exact bo ct [.int .i64 1]
  .exact bp (gv _ (cf _ (inl (bo aF [.int .i64 0]))))
theorem RJ (I ar bw r) (h:xh I ar bw=some r):bq aA 83 [.slice (I.map bA),.int .i64 ar,.int .i64 bw] (.bool r) []:=by
 refine cq [0,1,2] [.tmp 6] Try.func83 PB λcm aF ck=>aJ ?_;refine a1 aF λ_ cf bz aC=>?_;obtain⟨ah,bT,h⟩:=aU h;rcases g3 h with⟨c6,h⟩|⟨c6,h⟩
 .refine gL (l1 c6) (lv ar 0 29 _ bT) _ ?_;refine js rfl ?_;exact bo bz [.bool false]
 .obtain⟨aC,bx,h⟩:=aU h;rcases g3 h with⟨dy,h⟩|⟨dy,h⟩
  .refine dJ (cS [(0,.slice (I.map bA)),(1,.int .i64 ar),(24,.bool true)] (λP bf=>?_) ?_)
   ·(try simp only[a5.down,simprocAttr,(fS c6),(l1 dy)]);refine er (lv ar 0 29 _ bT) (hK:= ?_);simp only[a5.down,simprocAttr,(fS c6),(l1 dy)];refine kG (lv bw 1 60 _ bx) (hK:= ?_);simp only[a5.down,simprocAttr,(fS c6),(l1 dy)];exact cH (ab (fS c6) (l1 dy))
   refine js rfl ?_;exact bo bz [.bool false]
  .obtain⟨aV,j2,h⟩:=aU h;refine dJ (cS [(0,.slice (I.map bA)),(1,.int .i64 ar),(24,.bool (!aV))] (λP bf=>?_) ?_)
   ·(try simp only[a5.down,simprocAttr,(fS c6),(fS dy)]);refine er (lv ar 0 29 _ bT) (hK:= ?_);simp only[a5.down,simprocAttr,(fS c6),(fS dy)];refine kG (lv bw 1 60 _ bx) (hK:= ?_);simp only[a5.down,simprocAttr,(fS c6),(fS dy)];refine kG (lv (I.length:Int) 1 bw _ j2) (hK:= ?_);simp only[a5.down,simprocAttr,(fS c6),(fS dy)];exact cH (ab (fS c6) (fS dy))
   refine bn h (λmb h=>?_) λmb h=>?_
   .exact bo bz [.bool false]
   .refine bp (cf _ (inl (aJ ?_)));refine a1 aF λ_ gu gg _=>aJ ?_;refine cd gg λRK _ l8 iY _=>?_;show bh aA (.loop ?lk) _ _;have ll:∀n hO nF,sv I ar n hO nF=some r->dK aA ?lk RK (ao [(1,.int .i64 ar),(7,.int .i64 hO),(25,.slice (I.map bA)),(26,.int .i64 (I.length:Int)),(27,.int .i64 nF)]):=by
     refine eB λ_ ln hO nF h=>eA l8 λ_ vh xF RL=>aJ ?_;refine a1 xF λ_ sP _ RM=>bn h (λlo h=>?_) λlo h=>?_
     .refine bp (sP _ (inl (a1 xF λ_ mZ oC _=>cd oC λ_ B0 B1 _ _=>?_)));obtain⟨bL,vg,h⟩:=aU h;refine eL vg _ ?_;refine a1 B1 λ_ RN Hm _=>?_;rcases g3 h with⟨rq,h⟩|⟨rq,h⟩
      .refine eL rq _ ?_;refine js rfl ?_;exact bo Hm [.bool false]
      .obtain⟨bM,xG,h⟩:=aU h;refine gL rq (RH bL ar _ xG) _ ?_;refine bn h (λRO h=>?_) λRO h=>?_
       .exact bo Hm [.bool false]
       .refine bp (RN _ (inl ?_));obtain⟨b1,sR,h⟩:=aU h;refine BK (RI bL _ sR) _ ?_;refine B0 _ (mZ _ (inl (gf ?_)));exact vh _ (inr ⟨_,dd rfl,ln (i64.wrap (hO+(i64.wrap (b1-1)))) (i64.wrap (nF+1)) h⟩)
     .exact ep (RM 0 _ (RL 0 _ (iY _ (gu _ (inl (bo aF [.bool (hO==0)]))))))
    exact fa h λn h=>ll n 1 0 h
theorem RP (I ar bw r) (h:xi I ar bw=some r):bq aA 82 [.slice (I.map bA),.ref (.int .i64 ar),.ref (b3 bw)] (.bool r) []:=by
 refine cq [0,1,2] [.tmp 4] Try.func82 PC λcm aF ck=>aJ ?_;obtain⟨ah,aX,h⟩:=aU h;refine eV (RJ I (i64.wrap (ar+(bw.aY.length:Int))) 60 _ aX) _ ?_;exact ez aF [.bool (!ah)]
theorem RQ (I bD bF r) (h:Bb I bD bF=some r):bq aA 102 [.slice (I.map cB),.fn 82 [.ref (.int .i64 bD),.ref (b3 bF)]] (.int .i64 r) []:=by
 refine cq [0,1] [.tmp 4] Try.func102 PD λcm aF ck=>aJ ?_;refine a1 aF λ_ cf bz aC=>aJ ?_;refine cd bz λgM _ ct cO _=>?_;show bh aA (.loop ?fu) _ _;have gN:∀n ff,xj I bD bF n ff=some r->dK aA ?fu gM (ao [(0,.slice (I.map cB)),(1,.fn 82 [.ref (.int .i64 bD),.ref (b3 bF)]),(7,.int .i64 (I.length:Int)),(8,.int .i64 ff)]):=by
  refine eB λ_ gw ff h=>eA ct λ_ fq dk bM=>aJ ?_;refine a1 dk λ_ fL _ cE=>bn h (λdy h=>?_) λdy h=>?_
  .refine bp (fL _ (inl (a1 dk λ_ ek dp _=>cd dp λ_ c3 du _ _=>aJ ?_)));obtain⟨ah,dN,h⟩:=aU h;obtain⟨aC,g1,h⟩:=aU h;refine gL dN (RP ah bD bF _ g1) _ ?_;refine bn h (λjS h=>?_) λjS h=>?_
   .exact bo du [.int .i64 ff]
   .refine bp (c3 _ (ek _ (inl (gf ?_))));exact fq _ (inr ⟨_,dd rfl,gw (i64.wrap (ff+1)) h⟩)
  .exact ep (cE 0 _ (bM 0 _ (cO _ (cf _ (inl (bo aF [.int .i64 (-1)]))))))
 exact fa h λn h=>gN n 0 h
theorem B2 (I bD bF r) (h:q7 I bD bF=some r):bq aA 80 [.slice (I.map cB),.fn 82 [.ref (.int .i64 bD),.ref (b3 bF)]] (.bool r) []:=by
 refine cq [0,1] [.tmp 4] Try.func80 PE λcm aF ck=>aJ ?_;obtain⟨ah,aX,h⟩:=aU h;refine eV (RQ I bD bF _ aX) _ ?_;exact ez aF [.bool (decide (0<=ah))]
theorem RR (I ar r) (h:xk I ar=some r):bq aA 52 [b3 I,.int .i64 ar] (.bool r) []:=by
 refine cq [0,1] [.tmp 4] Try.func52 PG λcm aF ck=>aJ ?_;refine a1 aF λ_ cf bz aC=>?_;obtain⟨ah,bT,h⟩:=aU h;refine dJ (cS [(2,.aS (b3 I)),(3,.aS (.int .i64 ar)),(15,.bool ((!ah)||((I.Next.length:Int) !=ar)))] (λP bf=>?_) ?_)
 .rcases Bool.eq_false_or_eq_true (ah)with rr|rr
  ·(try simp only[a5.down,simprocAttr,rr]);refine er (Hi I _ bT) (hK:= ?_);simp only[a5.down,simprocAttr,rr];exact cH rr
  ·(try simp only[a5.down,simprocAttr,rr]);refine er (Hi I _ bT) (hK:= ?_);simp only[a5.down,simprocAttr,rr];exact cH rr
 refine bn h (λfC h=>?_) λfC h=>?_
 .exact bo bz [.bool false]
 .refine bp (cf _ (inl (a1 aF λ_ ho jd dL=>aJ ?_)));rcases g3 h with⟨mb,h⟩|⟨mb,h⟩
  .rcases g3 h with⟨hn,h⟩|⟨hn,h⟩
   .refine eL (ab mb hn) _ ?_;refine js rfl ?_;exact bo jd [.bool false]
   .rcases g3 h with⟨hT,h⟩|⟨hT,h⟩
    .refine eL (ab mb (ab hn hT)) _ ?_;refine js rfl ?_;exact bo jd [.bool false]
    .obtain⟨aC,eM,h⟩:=aU h;refine gL (ab mb (ab hn hT)) (Hk I.Name _ eM) _ ?_;refine bn h (λkk h=>?_) λkk h=>?_
     .exact bo jd [.bool false]
     .refine bp (ho _ (inl ?_));obtain⟨aV,nI,h⟩:=aU h;obtain⟨bL,kl,h⟩:=aU h;refine dJ (cS [(4,.bool (!bL))] (λP bf=>?_) ?_)
      ·(try simp only[a5.down,simprocAttr]);refine er (BZ I _ nI) (hK:= ?_);simp only[a5.down,simprocAttr];refine er (B2 aV ar I _ kl) rfl rfl (by simp only[a5.down,simprocAttr,BN.down]<;>rfl) rfl (inr (by rfl)) ?_;simp only[a5.down,simprocAttr];exact cH trivial
      exact ez aF [.bool (!bL)]
  .rcases g3 h with⟨rn,h⟩|⟨rn,h⟩
   .obtain⟨bM,m2,h⟩:=aU h;refine gL (ab mb rn) (Hk I.Name _ m2) _ ?_;refine bn h (λnJ h=>?_) λnJ h=>?_
    .exact bo jd [.bool false]
    .refine bp (ho _ (inl ?_));obtain⟨b1,RS,h⟩:=aU h;obtain⟨cE,RT,h⟩:=aU h;refine dJ (cS [(4,.bool (!cE))] (λP bf=>?_) ?_)
     ·(try simp only[a5.down,simprocAttr]);refine er (BZ I _ RS) (hK:= ?_);simp only[a5.down,simprocAttr];refine er (B2 b1 ar I _ RT) rfl rfl (by simp only[a5.down,simprocAttr,BN.down]<;>rfl) rfl (inr (by rfl)) ?_;simp only[a5.down,simprocAttr];exact cH trivial
     exact ez aF [.bool (!cE)]
   .refine eL (ab mb rn) _ ?_;refine qK rfl ?_;refine bp (ho _ (inl ?_));obtain⟨dL,B3,h⟩:=aU h;obtain⟨ee,lu,h⟩:=aU h;refine dJ (cS [(4,.bool (!ee))] (λP bf=>?_) ?_)
    ·(try simp only[a5.down,simprocAttr]);refine er (BZ I _ B3) (hK:= ?_);simp only[a5.down,simprocAttr];refine er (B2 dL ar I _ lu) rfl rfl (by simp only[a5.down,simprocAttr,BN.down]<;>rfl) rfl (inr (by rfl)) ?_;simp only[a5.down,simprocAttr];exact cH trivial
    exact ez aF [.bool (!ee)]
theorem RU (I ar r) (h:xl I ar=some r):bq aA 51 [b3 I,.ref (ej ar)] (.bool r) []:=by
 refine cq [0,1] [.tmp 3] Try.func51 PH λcm aF ck=>aJ ?_;obtain⟨ah,aX,h⟩:=aU h;refine eV (RR I ar.a7 _ aX) _ ?_;exact ez aF [.bool (!ah)]
theorem RV (I ar r) (h:Bc I ar=some r):bq aA 77 [.slice (I.map b3),.fn 51 [.ref (ej ar)]] (.int .i64 r) []:=by
 refine cq [0,1] [.tmp 4] Try.func77 PI λcm aF ck=>aJ ?_;refine a1 aF λ_ cf bz aC=>aJ ?_;refine cd bz λgM _ ct cO _=>?_;show bh aA (.loop ?fu) _ _;have gN:∀n ff,xm I ar n ff=some r->dK aA ?fu gM (ao [(0,.slice (I.map b3)),(1,.fn 51 [.ref (ej ar)]),(7,.int .i64 (I.length:Int)),(8,.int .i64 ff)]):=by
  refine eB λ_ gw ff h=>eA ct λ_ fq dk bM=>aJ ?_;refine a1 dk λ_ fL _ cE=>bn h (λdy h=>?_) λdy h=>?_
  .refine bp (fL _ (inl (a1 dk λ_ ek dp _=>cd dp λ_ c3 du _ _=>aJ ?_)));obtain⟨ah,dN,h⟩:=aU h;obtain⟨aC,g1,h⟩:=aU h;refine gL dN (RU ah ar _ g1) _ ?_;refine bn h (λjS h=>?_) λjS h=>?_
   .exact bo du [.int .i64 ff]
   .refine bp (c3 _ (ek _ (inl (gf ?_))));exact fq _ (inr ⟨_,dd rfl,gw (i64.wrap (ff+1)) h⟩)
  .exact ep (cE 0 _ (bM 0 _ (cO _ (cf _ (inl (bo aF [.int .i64 (-1)]))))))
 exact fa h λn h=>gN n 0 h
theorem RW (I ar r) (h:Bd I ar=some r):bq aA 50 [.slice (I.map b3),.fn 51 [.ref (ej ar)]] (.bool r) []:=by
 refine cq [0,1] [.tmp 4] Try.func50 PJ λcm aF ck=>aJ ?_;obtain⟨ah,aX,h⟩:=aU h;refine eV (RV I ar _ aX) _ ?_;exact ez aF [.bool (decide (0<=ah))]
theorem RX (I r) (h:xn I=some r):bq aA 27 [ej I] (.bool r) []:=by
 refine cq [0] [.tmp 2] Try.func27 PK λcm aF ck=>aJ ?_;refine a1 aF λ_ cf bz aC=>?_;obtain⟨ah,bT,h⟩:=aU h;rcases g3 h with⟨c6,h⟩|⟨c6,h⟩
 .refine gL (l1 c6) (lv I.a7 0 21 _ bT) _ ?_;refine js rfl ?_;exact bo bz [.bool false]
 .obtain⟨aC,bx,h⟩:=aU h;refine dJ (cS [(1,.aS (ej I)),(19,.bool ((!aC)||(decide (60<(I.bJ.length:Int)))))] (λP bf=>?_) ?_)
  .rcases Bool.eq_false_or_eq_true (aC)with ix|ix
   ·(try simp only[a5.down,simprocAttr,(fS c6),ix]);refine er (lv I.a7 0 21 _ bT) (hK:= ?_);simp only[a5.down,simprocAttr,(fS c6),ix];refine kG (Hh I I.Start _ bx) (hK:= ?_);simp only[a5.down,simprocAttr,(fS c6),ix];exact cH (ab (fS c6) ix)
   ·(try simp only[a5.down,simprocAttr,(fS c6),ix]);refine er (lv I.a7 0 21 _ bT) (hK:= ?_);simp only[a5.down,simprocAttr,(fS c6),ix];refine kG (Hh I I.Start _ bx) (hK:= ?_);simp only[a5.down,simprocAttr,(fS c6),ix];exact cH (ab (fS c6) ix)
  refine bn h (λg6 h=>?_) λg6 h=>?_
  .exact bo bz [.bool false]
  .refine bp (cf _ (inl ?_));obtain⟨aV,dT,h⟩:=aU h;refine dJ (cS [(2,.bool (!aV))] (λP bf=>?_) ?_)
   ·(try simp only[a5.down,simprocAttr]);refine er (RW I.bJ I _ dT) rfl rfl (by simp only[a5.down,simprocAttr,GV.down]<;>rfl) rfl (inr (by rfl)) ?_;simp only[a5.down,simprocAttr];exact cH trivial
   exact ez aF [.bool (!aV)]
theorem B4 (I r) (h:sw I=some r):bq aA 28 [.slice (I.map aH)] (.aq 1 (r.map aH)) []:=by
 refine cq [0] [.tmp 2] Try.func28 PL λcm aF ck=>aJ ?_;refine a1 aF λ_ cf bz _=>?_;rcases g3 h with⟨cO,h⟩|⟨cO,h⟩
 .refine dJ (cS [(0,.slice (I.map aH)),(4,.dV)] (λP bf=>?_) ?_)
  .simp only[a5.down,simprocAttr,nv,(FN cO),po];exact cH (ab @nv (ab (FN cO) @po))
  obtain⟨a9,h⟩:=Cy h;refine Fe rfl ?_ ?_
  .replace h:=a9;refine aJ ?_;exact jH (bz _ (inr ⟨[(2,.aq 1 [])],kb [] rfl (kd (t:=2) (d:=.aK) rfl rfl (.gW _) (by decide) (kc)),sa [.aq 1 []]⟩))
  .refine bp (cf _ (inl ?_));obtain⟨u8,gR,h⟩:=aU h;(try simp only[kj.down,Nat.zero_add,Nat.add_zero,reduceAdd]at gR);refine eL (ab (show∀s,e6 aA s 22 0 []=some (.aq 1 [],s)from λs=>by kernel_rfl) (ab (@k6 aA 22 22 2 rfl rfl) (ab @k7 (ab @k8 (ab @jt (ab @k5 (ab @all_nil (ab gR (@k4 _ aH 1 λ_=>rfl))))))))) _ ?_;exact ez aF [.aq 1 (I.map aH)]
 .refine dJ (cS [(0,.slice (I.map aH)),(4,.bool false)] (λP bf=>?_) ?_)
  .simp only[a5.down,simprocAttr,nv,(FO cO),po];exact cH (ab @nv (ab (FO cO) @po))
  refine qK rfl ?_;refine bp (cf _ (inl ?_));obtain⟨U5,j2,h⟩:=aU h;(try simp only[kj.down,Nat.zero_add,Nat.add_zero,reduceAdd]at j2);refine eL (ab (show∀s,e6 aA s 22 0 []=some (.aq 1 [],s)from λs=>by kernel_rfl) (ab (@k6 aA 22 22 2 rfl rfl) (ab @k7 (ab @k8 (ab @jt (ab @k5 (ab @all_nil (ab j2 (@k4 _ aH 1 λ_=>rfl))))))))) _ ?_;exact ez aF [.aq 1 (I.map aH)]
theorem RY (I r) (h:Be I=some r):bq aA 35 [.int .i64 I] (.aq 2 (r.map bA)) []:=by
 refine cq [0] [.tmp 2] Try.func35 PM λcm aF ck=>aJ ?_;refine eL (ab (show∀s,fb aA s 76 [(0,.int .i64 0),(1,.int .i64 I)]=some (.agg [.int .i64 0,.int .i64 I],s)from λs=>by kernel_rfl) (show∀s,e6 aA s 44 1 [(0,.agg [.int .i64 0,.int .i64 I])]=some (.aq 2 [.agg [.int .i64 0,.int .i64 I]],s)from λs=>by kernel_rfl)) _ ?_;exact ez aF [.aq 2 ([(aW.mk 0 I)].map bA)]
theorem Hn (I bD bF bS bw r) (h:Bf I bD bF bS bw=some r):bq aA 34 [.int .i64 I,.ref (.agg [.int .i64 bD,.slice (bF.map aH),.slice (bS.map b3)]),.ref (.slice (bw.map aH))] (z8 (λy=>.aq 2 (y.map bA)) r) []:=by
 refine cq [0,1,2] [.tmp 4] Try.func34 PN λcm aF ck=>aJ ?_;refine a1 aF λ_ cf bz aC=>aJ ?_;refine bn h (λcO h=>?_) λcO h=>?_
 .exact bo bz [.aK]
 .refine bp (cf _ (inl ?_));obtain⟨ah,bx,h⟩:=aU h;obtain⟨aC,gR,h⟩:=aU h;refine gL bx (RY ah _ gR) _ ?_;exact ez aF [.aq 2 (aC.map bA)]
theorem RZ (I bD bF bS cv r) (h:Bh I bD bF bS cv=some r):bq aA 33 [.slice (I.map bA),.fn 34 [.ref (.agg [.int .i64 bD,.slice (bF.map aH),.slice (bS.map b3)]),.ref (.slice (cv.map aH))]] (.aq 2 (r.map bA)) []:=by
 refine cq [0,1] [.tmp 4] Try.func33 oz λcm aF ck=>aJ ?_;refine aJ ?_;refine a1 aF λ_ iv dC aV=>aJ ?_;refine cd dC λoE _ dk c6 _=>?_;show bh aA (.loop ?hx) _ _;have iy:∀n ef gd,ou I bD bF bS cv n ef gd=some r->dK aA ?hx oE (ao [(1,.fn 34 [.ref (.agg [.int .i64 bD,.slice (bF.map aH),.slice (bS.map b3)]),.ref (.slice (cv.map aH))]),(5,.aq 2 (ef.map bA)),(9,.slice (I.map bA)),(10,.int .i64 (I.length:Int)),(11,.int .i64 gd)]):=by
  refine eB λlP hS ef gd h=>eA dk λ_ eD eW b1=>aJ ?_;refine a1 eW λ_ ho _ dL=>bn h (λg6 h=>?_) λg6 h=>?_
  .refine bp (ho _ (inl (a1 eW λ_ c3 du _=>cd du λvi eC fy _ _=>?_)));obtain⟨ah,dN,h⟩:=aU h;refine eL dN _ ?_;refine aJ ?_;refine a1 fy λ_ iP _ _=>aJ ?_;refine bn h (λkk h=>?_) λkk h=>?_
   .obtain⟨aC,iX,h⟩:=aU h;rcases M8 h with⟨lo,h⟩|⟨aV,lo,h⟩
    .refine BK (by have q:=(Hn ah.Value bD bF bS cv _ iX);simp only[lo,z8]at q;exact q) _ ?_;refine iP _ (inl ?_);show bh aA (.seq _ ?oz) _ _;have ru:∀hP hQ h5,ot (ou I bD bF bS cv lP) I bD bF bS cv hP hQ h5=some r->bh aA ?oz vi (ao [(1,.fn 34 [.ref (.agg [.int .i64 bD,.slice (bF.map aH),.slice (bS.map b3)]),.ref (.slice (cv.map aH))]),(5,.aq 2 (hP.map bA)),(8,.aq 2 (hQ.map bA)),(9,.slice (I.map bA)),(10,.int .i64 (I.length:Int)),(11,.int .i64 h5)]):=by
      intro hP hQ h5 h;obtain⟨U6,m2,h⟩:=aU h;(try simp only[kj.down,Nat.zero_add,Nat.add_zero,reduceAdd]at m2);refine oA (ab (@k6 aA 44 44 76 rfl rfl) (ab @k7 (ab @k8 (ab @jt (ab @k5 (ab @all_nil (ab m2 (@k4 _ bA 2 λ_=>rfl)))))))) [(1,.fn 34 [.ref (.agg [.int .i64 bD,.slice (bF.map aH),.slice (bS.map b3)]),.ref (.slice (cv.map aH))]),(5,.aq 2 ((hP++hQ).map bA)),(9,.slice (I.map bA)),(10,.int .i64 (I.length:Int)),(11,.int .i64 h5)] ?_;refine eC _ (c3 _ (inl (wr [(1,.fn 34 [.ref (.agg [.int .i64 bD,.slice (bF.map aH),.slice (bS.map b3)]),.ref (.slice (cv.map aH))]),(5,.aq 2 ((hP++hQ).map bA)),(9,.slice (I.map bA)),(10,.int .i64 (I.length:Int)),(11,.int .i64 (i64.wrap (h5+1)))] ?_)));exact eD _ (inr ⟨_,dd rfl,hS (hP++hQ) (i64.wrap (h5+1)) h⟩)
     refine a1 fy λ_ mZ _ _=>eL @nv _ ?_;refine js rfl ?_;refine oA (show∀s,e6 aA s 44 1 [(0,.agg [.int .i64 ah.Kind,.int .i64 ah.Value])]=some (.aq 2 [.agg [.int .i64 ah.Kind,.int .i64 ah.Value]],s)from λs=>by kernel_rfl) _ ?_;exact mZ _ (inr ⟨_,dd rfl,ru ef [ah] gd h⟩)
    .refine BK (by have q:=(Hn ah.Value bD bF bS cv _ iX);simp only[lo,z8]at q;exact q) _ ?_;refine iP _ (inl ?_);show bh aA (.seq _ ?oz) _ _;have ru:∀hP hQ h5,ot (ou I bD bF bS cv lP) I bD bF bS cv hP hQ h5=some r->bh aA ?oz vi (ao [(1,.fn 34 [.ref (.agg [.int .i64 bD,.slice (bF.map aH),.slice (bS.map b3)]),.ref (.slice (cv.map aH))]),(5,.aq 2 (hP.map bA)),(8,.aq 2 (hQ.map bA)),(9,.slice (I.map bA)),(10,.int .i64 (I.length:Int)),(11,.int .i64 h5)]):=by
      intro hP hQ h5 h;obtain⟨U7,xG,h⟩:=aU h;(try simp only[kj.down,Nat.zero_add,Nat.add_zero,reduceAdd]at xG);refine oA (ab (@k6 aA 44 44 76 rfl rfl) (ab @k7 (ab @k8 (ab @jt (ab @k5 (ab @all_nil (ab xG (@k4 _ bA 2 λ_=>rfl)))))))) [(1,.fn 34 [.ref (.agg [.int .i64 bD,.slice (bF.map aH),.slice (bS.map b3)]),.ref (.slice (cv.map aH))]),(5,.aq 2 ((hP++hQ).map bA)),(9,.slice (I.map bA)),(10,.int .i64 (I.length:Int)),(11,.int .i64 h5)] ?_;refine eC _ (c3 _ (inl (wr [(1,.fn 34 [.ref (.agg [.int .i64 bD,.slice (bF.map aH),.slice (bS.map b3)]),.ref (.slice (cv.map aH))]),(5,.aq 2 ((hP++hQ).map bA)),(9,.slice (I.map bA)),(10,.int .i64 (I.length:Int)),(11,.int .i64 (i64.wrap (h5+1)))] ?_)));exact eD _ (inr ⟨_,dd rfl,hS (hP++hQ) (i64.wrap (h5+1)) h⟩)
     refine a1 fy λ_ oD _ _=>?_;rcases g3 h with⟨l9,h⟩|⟨l9,h⟩
     .refine dJ (cS [(1,.fn 34 [.ref (.agg [.int .i64 bD,.slice (bF.map aH),.slice (bS.map b3)]),.ref (.slice (cv.map aH))]),(5,.aq 2 (ef.map bA)),(7,.aS (bA ah)),(8,.aq 2 (aV.map bA)),(9,.slice (I.map bA)),(10,.int .i64 (I.length:Int)),(11,.int .i64 gd),(23,.dV)] (λP bf=>?_) ?_)
      .simp only[a5.down,simprocAttr,nv,(FP l9),po];exact cH (ab @nv (ab (FP l9) @po))
      obtain⟨R0,h⟩:=Cy h;refine Fe rfl ?_ ?_
      .replace h:=R0;refine oA (show∀s,e6 aA s 44 1 [(0,.agg [.int .i64 ah.Kind,.int .i64 ah.Value])]=some (.aq 2 [.agg [.int .i64 ah.Kind,.int .i64 ah.Value]],s)from λs=>by kernel_rfl) _ ?_;exact oD _ (inr ⟨_,dd rfl,ru ef [ah] gd h⟩)
      .exact bp (oD _ (inr ⟨_,dd rfl,ru ef aV gd h⟩))
     .refine dJ (cS [(1,.fn 34 [.ref (.agg [.int .i64 bD,.slice (bF.map aH),.slice (bS.map b3)]),.ref (.slice (cv.map aH))]),(5,.aq 2 (ef.map bA)),(7,.aS (bA ah)),(8,.aq 2 (aV.map bA)),(9,.slice (I.map bA)),(10,.int .i64 (I.length:Int)),(11,.int .i64 gd),(23,.bool false)] (λP bf=>?_) ?_)
      .simp only[a5.down,simprocAttr,nv,(FQ l9),po];exact cH (ab @nv (ab (FQ l9) @po))
      refine qK rfl ?_;exact bp (oD _ (inr ⟨_,dd rfl,ru ef aV gd h⟩))
   .refine bp (iP _ (inl ?_));show bh aA (.seq _ ?oz) _ _;have ru:∀hP hQ h5,ot (ou I bD bF bS cv lP) I bD bF bS cv hP hQ h5=some r->bh aA ?oz vi (ao [(1,.fn 34 [.ref (.agg [.int .i64 bD,.slice (bF.map aH),.slice (bS.map b3)]),.ref (.slice (cv.map aH))]),(5,.aq 2 (hP.map bA)),(8,.aq 2 (hQ.map bA)),(9,.slice (I.map bA)),(10,.int .i64 (I.length:Int)),(11,.int .i64 h5)]):=by
     intro hP hQ h5 h;obtain⟨U8,sS,h⟩:=aU h;(try simp only[kj.down,Nat.zero_add,Nat.add_zero,reduceAdd]at sS);refine oA (ab (@k6 aA 44 44 76 rfl rfl) (ab @k7 (ab @k8 (ab @jt (ab @k5 (ab @all_nil (ab sS (@k4 _ bA 2 λ_=>rfl)))))))) [(1,.fn 34 [.ref (.agg [.int .i64 bD,.slice (bF.map aH),.slice (bS.map b3)]),.ref (.slice (cv.map aH))]),(5,.aq 2 ((hP++hQ).map bA)),(9,.slice (I.map bA)),(10,.int .i64 (I.length:Int)),(11,.int .i64 h5)] ?_;refine eC _ (c3 _ (inl (wr [(1,.fn 34 [.ref (.agg [.int .i64 bD,.slice (bF.map aH),.slice (bS.map b3)]),.ref (.slice (cv.map aH))]),(5,.aq 2 ((hP++hQ).map bA)),(9,.slice (I.map bA)),(10,.int .i64 (I.length:Int)),(11,.int .i64 (i64.wrap (h5+1)))] ?_)));exact eD _ (inr ⟨_,dd rfl,hS (hP++hQ) (i64.wrap (h5+1)) h⟩)
    refine a1 fy λ_ BV _ _=>eL @nv _ ?_;refine js rfl ?_;refine oA (show∀s,e6 aA s 44 1 [(0,.agg [.int .i64 ah.Kind,.int .i64 ah.Value])]=some (.aq 2 [.agg [.int .i64 ah.Kind,.int .i64 ah.Value]],s)from λs=>by kernel_rfl) _ ?_;exact BV _ (inr ⟨_,dd rfl,ru ef [ah] gd h⟩)
  .exact ep (dL 0 _ (b1 0 _ (c6 _ (iv _ (inl (bo aF [.aq 2 (ef.map bA)]))))))
 obtain⟨n,h⟩:=pV h;exact qL (inr ⟨_,kb [] rfl (fI (t:=1) (d:=.fn 34 [.ref (.agg [.int .i64 bD,.slice (bF.map aH),.slice (bS.map b3)]),.ref (.slice (cv.map aH))]) rfl (kd (t:=5) (d:=.aK) (a8:=.aq 2 []) rfl rfl (.gW _) (by decide) (fI (t:=9) (d:=.slice (I.map bA)) rfl (fI (t:=10) (d:=.int .i64 (I.length:Int)) rfl (fI (t:=11) (d:=.int .i64 0) rfl (kc)))))),iy n [] 0 h⟩)
theorem Ho (I ar mT mU mV fG r) (h:uT I ar mT mU mV fG=some r):bq aA 32 [b3 I,.slice (ar.map bA),.ref (.agg [.int .i64 mT,.slice (mU.map aH),.slice (mV.map b3)]),.ref (.slice (fG.map aH))] (.aq 2 (r.map bA)) []:=by
 refine cq [0,1,2,3] [.tmp 6] Try.func32 PO λcm aF ck=>aJ ?_;obtain⟨ah,aX,h⟩:=aU h;refine eV (RZ ar mT mU mV fG _ aX) _ ?_;exact ez aF [.aq 2 (ah.map bA)]
theorem Hp (I bD bF bS cv bw r) (h:uU I bD bF bS cv bw=some r):bq aA 53 [.slice (I.map cB),.ref (.fn 32 [.ref (.agg [.int .i64 bD,.slice (bF.map aH),.slice (bS.map b3)]),.ref (.slice (cv.map aH))]),.ref (b3 bw)] (.aq 1 (r.map eG)) []:=by
 refine cq [0,1,2] [.tmp 4] Try.func53 PQ λcm aF ck=>aJ ?_;refine aJ ?_;refine a1 aF λ_ iv dC _=>aJ ?_;refine cd dC λoE _ dk c6 _=>?_;show bh aA (.loop ?hx) _ _;have iy:∀n ef l6,sx I bw bD bF bS cv n ef l6=some r->dK aA ?hx oE (ao [(1,.ref (.fn 32 [.ref (.agg [.int .i64 bD,.slice (bF.map aH),.slice (bS.map b3)]),.ref (.slice (cv.map aH))])),(2,.ref (b3 bw)),(5,.aq 1 (ef.map eG)),(8,.slice (I.map cB)),(9,.int .i64 (I.length:Int)),(10,.int .i64 l6)]):=by
  refine eB λ_ hS ef l6 h=>eA dk λ_ eD eW b1=>aJ ?_;refine a1 eW λ_ ho _ dL=>bn h (λg6 h=>?_) λg6 h=>?_
  .refine bp (ho _ (inl (a1 eW λ_ c3 du _=>cd du λ_ eC _ _ _=>?_)));obtain⟨ah,dN,h⟩:=aU h;refine eL dN _ ?_;obtain⟨aC,eH,h⟩:=aU h;obtain⟨QC,eM,h⟩:=aU h;(try simp only[kj.down,Nat.zero_add,Nat.add_zero,reduceAdd]at eM);refine ja (cS [(1,.ref (.fn 32 [.ref (.agg [.int .i64 bD,.slice (bF.map aH),.slice (bS.map b3)]),.ref (.slice (cv.map aH))])),(2,.ref (b3 bw)),(5,.aq 1 ((ef++[aC]).map eG)),(8,.slice (I.map cB)),(9,.int .i64 (I.length:Int)),(10,.int .i64 l6)] (λP bf=>?_) ?_)
   ·(try simp only[a5.down,simprocAttr,sN.down,hk,c4,eM]);refine er (Ho bw ah bD bF bS cv _ eH) (hK:= ?_);simp only[a5.down,simprocAttr,sN.down,hk,c4,eM];(try simp only[hR.down,simprocAttr,sN.down,hk,c4,eM]at bf⊢);exact bf
   refine eC _ (c3 _ (inl (wr [(1,.ref (.fn 32 [.ref (.agg [.int .i64 bD,.slice (bF.map aH),.slice (bS.map b3)]),.ref (.slice (cv.map aH))])),(2,.ref (b3 bw)),(5,.aq 1 ((ef++[aC]).map eG)),(8,.slice (I.map cB)),(9,.int .i64 (I.length:Int)),(10,.int .i64 (i64.wrap (l6+1)))] ?_)));exact eD _ (inr ⟨_,dd rfl,hS (ef++[aC]) (i64.wrap (l6+1)) h⟩)
  .exact ep (dL 0 _ (b1 0 _ (c6 _ (iv _ (inl (bo aF [.aq 1 (ef.map eG)]))))))
 obtain⟨n,h⟩:=pV h;exact qL (inr ⟨_,kb [] rfl (fI (t:=1) (d:=.ref (.fn 32 [.ref (.agg [.int .i64 bD,.slice (bF.map aH),.slice (bS.map b3)]),.ref (.slice (cv.map aH))])) rfl (fI (t:=2) (d:=.ref (b3 bw)) rfl (kd (t:=5) (d:=.aK) (a8:=.aq 1 []) rfl rfl (.gW _) (by decide) (fI (t:=8) (d:=.slice (I.map cB)) rfl (fI (t:=9) (d:=.int .i64 (I.length:Int)) rfl (fI (t:=10) (d:=.int .i64 0) rfl (kc))))))),iy n [] 0 h⟩)
theorem R1 (I bD bF bS cv r) (h:xp I bD bF bS cv=some r):bq aA 31 [ej I,.fn 32 [.ref (.agg [.int .i64 bD,.slice (bF.map aH),.slice (bS.map b3)]),.ref (.slice (cv.map aH))]] (e3 r) []:=by
 refine cq [0,1] [.cell 4 29] Try.func31 PS λcm aF ck=>eL (ab @l0 (show∀s,hs s (.fn 32 [.ref (.agg [.int .i64 bD,.slice (bF.map aH),.slice (bS.map b3)]),.ref (.slice (cv.map aH))])=some (.ref (.fn 32 [.ref (.agg [.int .i64 bD,.slice (bF.map aH),.slice (bS.map b3)]),.ref (.slice (cv.map aH))]),s)from λs=>rfl)) _ ?_;obtain⟨ah,aX,h⟩:=aU h;refine pE (ab (@qO aA 29 [(2,0),(22,1),(27,2)] [(.int .i64 0),.aK,.aK] rfl rfl (by kernel_rfl)) (ab @ob (ab @oc (ab @eK (ab @jt (ab @List.nil_append.{0} @List.cons_append.{0})))))) (B4 I.Start _ aX) _ ?_;refine a1 aF λ_ gv ct bL=>aJ ?_;refine cd ct λlp _ eW fC b1=>?_;have iy:∀n ef l7,xo I bD bF bS cv ah n ef l7=some r->dK aA GL lp (ao [(3,.ref (.fn 32 [.ref (.agg [.int .i64 bD,.slice (bF.map aH),.slice (bS.map b3)]),.ref (.slice (cv.map aH))])),(4,.aS (.agg [.int .i64 0,.aK,.aK])),(5,.aS (.agg [.int .i64 I.a7,.aq 1 (ah.map aH),.aq 5 (ef.map cg)])),(16,.slice (I.bJ.map b3)),(17,.int .i64 (I.bJ.length:Int)),(18,.int .i64 l7)]):=by
  refine eB λ_ hS ef l7 h=>eA eW λ_ fL f_ cE=>aJ ?_;refine a1 f_ λ_ ek _ ee=>bn h (λiz h=>?_) λiz h=>?_
  .refine bp (ek _ (inl (a1 f_ λ_ eC fy _=>cd fy λ_ iW _ _ _=>?_)));obtain⟨aC,g1,h⟩:=aU h;refine eL g1 _ ?_;refine aJ ?_;obtain⟨aV,hE,h⟩:=aU h;obtain⟨bL,fM,h⟩:=aU h;obtain⟨bM,iX,h⟩:=aU h;obtain⟨b1,nI,h⟩:=aU h;obtain⟨U9,kl,h⟩:=aU h;(try simp only[kj.down,Nat.zero_add,Nat.add_zero,reduceAdd]at kl);refine MF rfl (pj [(3,.ref (.fn 32 [.ref (.agg [.int .i64 bD,.slice (bF.map aH),.slice (bS.map b3)]),.ref (.slice (cv.map aH))])),(4,.aS (.agg [.int .i64 0,.aK,.aK])),(5,.aS (.agg [.int .i64 I.a7,.aq 1 (ah.map aH),.aq 5 ((ef++[(aN.mk aV bL aC.Name bM b1)]).map cg)])),(16,.slice (I.bJ.map b3)),(17,.int .i64 (I.bJ.length:Int)),(18,.int .i64 l7)] (λP bf=>?_) ?_)
   ·(try simp only[gr.down,simprocAttr,mY.down,dt,c4,hk,kl]);refine k3 (B4 aC.aY _ hE) (hK:= ?_);simp only[gr.down,simprocAttr,mY.down,dt,c4,hk,kl];refine k3 (Ho aC aC.Guard bD bF bS cv _ fM) (hK:= ?_);simp only[gr.down,simprocAttr,mY.down,dt,c4,hk,kl];refine k3 (Hp aC.bG bD bF bS cv aC _ iX) rfl rfl (by simp only[gr.down,simprocAttr,GX.down,dt,c4,hk,kl]<;>rfl) rfl (inr (jJ (λ_=>sL _) _)) ?_;simp only[gr.down,simprocAttr,mY.down,dt,c4,hk,kl];refine k3 (Hp aC.Next bD bF bS cv aC _ nI) rfl rfl (by simp only[gr.down,simprocAttr,GX.down,dt,c4,hk,kl]<;>rfl) rfl (inr (jJ (λ_=>sL _) _)) ?_;simp only[gr.down,simprocAttr,mY.down,dt,c4,hk,kl];refine⟨oi (by kernel_rfl),?_⟩;(try simp only[hR.down,simprocAttr,mY.down,dt,c4,hk,kl]at bf⊢);exact bf
   refine iW _ (eC _ (inl (wr [(3,.ref (.fn 32 [.ref (.agg [.int .i64 bD,.slice (bF.map aH),.slice (bS.map b3)]),.ref (.slice (cv.map aH))])),(4,.aS (.agg [.int .i64 0,.aK,.aK])),(5,.aS (.agg [.int .i64 I.a7,.aq 1 (ah.map aH),.aq 5 ((ef++[(aN.mk aV bL aC.Name bM b1)]).map cg)])),(16,.slice (I.bJ.map b3)),(17,.int .i64 (I.bJ.length:Int)),(18,.int .i64 (i64.wrap (l7+1)))] ?_)));exact fL _ (inr ⟨_,dd rfl,hS (ef++[(aN.mk aV bL aC.Name bM b1)]) (i64.wrap (l7+1)) h⟩)
  .exact ep (ee 0 _ (cE 0 _ (fC _ (gv _ (inl (bo aF [e3 (b5.mk I.a7 ah ef)]))))))
 obtain⟨n,h⟩:=pV h;exact qL (inr ⟨_,kb [] rfl (fI (t:=3) (d:=.ref (.fn 32 [.ref (.agg [.int .i64 bD,.slice (bF.map aH),.slice (bS.map b3)]),.ref (.slice (cv.map aH))])) rfl (fI (t:=4) (d:=.aS (.agg [.int .i64 0,.aK,.aK])) rfl (kd (t:=5) (d:=.aS (.agg [.int .i64 I.a7,.aq 1 (ah.map aH),.aK])) (a8:=.aS (.agg [.int .i64 I.a7,.aq 1 (ah.map aH),.aq 5 []])) rfl rfl (.aS (.agg (.cons (.refl _) (.cons (.refl _) (.cons (.gW _) (.nil)))))) (by decide) (fI (t:=16) (d:=.slice (I.bJ.map b3)) rfl (fI (t:=17) (d:=.int .i64 (I.bJ.length:Int)) rfl (fI (t:=18) (d:=.int .i64 0) rfl (kc))))))),iy n [] 0 h⟩)
theorem R2 (I bD bF mT mU mV ov ow lg r) (h:xq I bD bF mT mU mV ov ow lg=some r):bq aA 30 [.slice (I.map aH),.ref (.agg [.int .i64 bD,.aK,.slice (bF.map b3)]),.ref (.agg [.int .i64 mT,.slice (mU.map aH),.slice (mV.map b3)]),.aS (.agg [.int .i64 ov,.aq 1 (ow.map aH),.aq 5 (lg.map cg)])] (.bool r.1) [.hole,.hole,.hole,.aS (.agg [.int .i64 r.2.1,.aq 1 (r.2.2.1.map aH),.aq 5 (r.2.2.2.map cg)])]:=by
 refine cq [0,1,2,3] [.tmp 5] Try.func30 PT λcm aF ck=>aJ ?_;obtain⟨ah,aX,h⟩:=aU h;refine dJ (cS [(3,.aS (.agg [.int .i64 ov,.aq 1 (ow.map aH),.aq 5 (lg.map cg)])),(6,.aS (e3 ah))] (λP bf=>?_) ?_)
 ·(try simp only[a5.down,simprocAttr]);refine er (bq.Nk (R1 (b5.mk bD [] bF) mT mU mV I _ aX) (.wd (.agg (.cons (.refl _) (.cons (.qv) (.cons (.refl _) (.nil))))) rfl rfl (.eq rfl (.nil)))) rfl rfl (by simp only[a5.down,simprocAttr,jI,jK,jL,fc, @c2 _ aH aH (λ_=>hD _)]<;>rfl) rfl (inr (xA _)) ?_;simp only[a5.down,simprocAttr];exact cH trivial
 obtain⟨aC,cb,h⟩:=aU h;refine M7 (cS (K:=dr _) [(3,.aS (.agg [.int .i64 ov,.aq 1 (ow.map aH),.aq 5 (lg.map cg)])),(6,.aS (.agg [.int .i64 ah.a7,.aq 1 (ah.Start.map aH),.aq 5 (List.set (List.map cg ah.bJ) 0 (.agg [.aK,.aq 2 (aC.Guard.map bA),.str aC.Name,.aq 1 (aC.bG.map eG),.aq 1 (aC.Next.map eG)]))]))] (λP bf=>?_) (z7 [(3,.aS (.agg [.int .i64 ov,.aq 1 (ow.map aH),.aq 5 (lg.map cg)])),(6,.aS (.agg [.int .i64 ah.a7,.aq 1 (ah.Start.map aH),.aq 5 ((List.set ah.bJ 0 (aN.mk [] aC.Guard aC.Name aC.bG aC.Next)).map cg)]))] (kb [] rfl (fI rfl (kd (t:=6) (d:=.aS (.agg [.int .i64 ah.a7,.aq 1 (ah.Start.map aH),.aq 5 (List.set (List.map cg ah.bJ) 0 (.agg [.aK,.aq 2 (aC.Guard.map bA),.str aC.Name,.aq 1 (aC.bG.map eG),.aq 1 (aC.Next.map eG)]))])) (a8:=.aS (.agg [.int .i64 ah.a7,.aq 1 (ah.Start.map aH),.aq 5 ((List.set ah.bJ 0 (aN.mk [] aC.Guard aC.Name aC.bG aC.Next)).map cg)])) rfl rfl (.aS (.agg (.cons (.refl _) (.cons (.refl _) (.cons ((.aq (Gz (u:=cg) (y:=(aN.mk [] aC.Guard aC.Name aC.bG aC.Next)) (.agg (.cons (.gW _) (.cons (.refl _) (.cons (.refl _) (.cons (.refl _) (.cons (.refl _) (.nil))))))) _ _))) (.nil)))))) (by decide) (kc)))) ?_))
 .simp only[a5.down,simprocAttr,cb,(wI (n:=0) cb),eK,dc];exact cH (ab cb (ab (wI (n:=0) cb) @eK))
 obtain⟨aV,bx,h⟩:=aU h;obtain⟨Rv,gR,h⟩:=aU h;(try simp only[kj.down,Nat.zero_add,Nat.add_zero,reduceAdd]at gR);refine ue rfl (pj [(3,.aS (.agg [.int .i64 ov,.aq 1 (ow.map aH),.aq 5 ((lg++[aV]).map cg)]))] (λP bf=>?_) ?_)
 .simp only[gr.down,simprocAttr,bx,(wI (n:=0) bx),GY.down,hk,c4,gR];refine⟨oi (by kernel_rfl),?_⟩;(try simp only[hR.down,simprocAttr,bx,(wI (n:=0) bx),GY.down,hk,c4,gR]at bf⊢);exact bf
 refine ws [(3,.aS (.agg [.int .i64 ov,.aq 1 (ow.map aH),.aq 5 ((lg++[aV]).map cg)])),(5,.bool (decide (((lg++[aV]).length:Int)<=60)))] ?_;exact jH (aF _ (inl (lY [.bool (decide (((lg++[aV]).length:Int)<=60))] rfl (by cases hb h;rfl) (by decide) (mK (k9 (k9 (k9 (mL (by cases hb h;rfl) rfl rfl rfl (mM)))))))))
theorem R3 (I bD bF bS cv q9 q_ r) (h:xr I bD bF bS cv q9 q_=some r):bq aA 29 [.slice (I.map aH),.br 30 [.ref (.agg [.int .i64 bD,.aK,.slice (bF.map b3)]),.ref (ej bS),.aS (.agg [.int .i64 cv,.aq 1 (q9.map aH),.aq 5 (q_.map cg)])]] (.tuple []) [.hole,.br 30 [.ref (.agg [.int .i64 r.1,.aK,.slice (r.2.1.map b3)]),.ref (.agg [.int .i64 r.2.2.1,.slice (r.2.2.2.1.map aH),.slice (r.2.2.2.2.1.map b3)]),.aS (.agg [.int .i64 r.2.2.2.2.2.1,.aq 1 (r.2.2.2.2.2.2.1.map aH),.aq 5 (r.2.2.2.2.2.2.2.map cg)])]]:=by
 refine bq.Gx (fx:=[0,1]) AB [] [(0,.slice (I.map aH)),(1,.br 30 [.ref (.agg [.int .i64 bD,.aK,.slice (bF.map b3)]),.ref (ej bS),.aS (.agg [.int .i64 cv,.aq 1 (q9.map aH),.aq 5 (q_.map cg)])])] Try.func29 rfl rfl P5 (le_of_ble_eq_true rfl) P4 rfl rfl λcm aF ck=>?_;obtain⟨U_,aR,h⟩:=aU h;refine sM (ab (oP aR) @List.map_replicate.{0,0}) [(0,.slice (I.map aH)),(1,.br 30 [.ref (.agg [.int .i64 bD,.aK,.slice (bF.map b3)]),.ref (ej bS),.aS (.agg [.int .i64 cv,.aq 1 (q9.map aH),.aq 5 (q_.map cg)])]),(4,.aq 1 ((List.replicate (Int.toNat (I.length:Int)) 0).map aH))] ?_;refine cd aF λR4 _ dC h1 aV=>?_;have R5:∀n py pz pA lh,ox I bD bF bS n py pz pA lh=some r->dK aA GN R4 (ao [(0,.slice (I.map aH)),(1,.br 30 [.ref (.agg [.int .i64 bD,.aK,.slice (bF.map b3)]),.ref (ej bS),.aS (.agg [.int .i64 py,.aq 1 (pz.map aH),.aq 5 (pA.map cg)])]),(4,.aq 1 (lh.map aH))]):=by
  refine eB λgE Hq py pz pA lh h=>eA dC λ_ gv ct bL=>a1 ct λ_ fq _ bM=>?_;obtain⟨ah,bx,h⟩:=aU h;refine Ob [(0,.slice (I.map aH)),(1,.br 30 [.ref (.agg [.int .i64 bD,.aK,.slice (bF.map b3)]),.ref (ej bS),.aS (.agg [.int .i64 ah.2.1,.aq 1 (ah.2.2.1.map aH),.aq 5 (ah.2.2.2.map cg)])]),(4,.aq 1 (lh.map aH)),(11,.bool ah.1)] (λP bf=>?_) ?_
  ·(try simp only[a5.down,simprocAttr]);refine Od [⟨.h 4 [],false,_,.hole⟩] [.hole,.hole,.aS (.agg [.int .i64 ah.2.1,.aq 1 (ah.2.2.1.map aH),.aq 5 (ah.2.2.2.map cg)])] (R2 lh bD bF bS.a7 bS.Start bS.bJ py pz pA _ bx) rfl rfl rfl (by simp only[a5.down,simprocAttr,qQ,oe,mJ,jI,jK,jL,fc,or_true,true_or,qX,List.cons_append,List.nil_append, @c2 _ aH aH (λ_=>hD _)]) rfl rfl rfl rfl ((inr (by simp only[qY,j.ch,j.gU,Bool.and_self,GR.down,Bool.true_or,Bool.false_or,GZ.down]))) ?_;simp only[a5.down,simprocAttr,lZ,qX,List.cons_append,List.nil_append];exact cH trivial
  refine bn h (λdy h=>?_) λdy h=>?_
  .refine bp (fq _ (inl (cd ct λ_ ek dp _ _=>aJ ?_)));refine a1 dp λ_ eC fy _=>cd fy λR6 _ pH hn _=>?_;have R7:∀n jb g_,q8 (ox I bD bF bS gE) I bD bF bS ah n jb g_=some r->dK aA GM R6 (ao [(0,.slice (I.map aH)),(1,.br 30 [.ref (.agg [.int .i64 bD,.aK,.slice (bF.map b3)]),.ref (ej bS),.aS (.agg [.int .i64 ah.2.1,.aq 1 (ah.2.2.1.map aH),.aq 5 (ah.2.2.2.map cg)])]),(4,.aq 1 (jb.map aH)),(5,.int .i64 g_)]):=by
    refine eB λ_ R8 jb g_ h=>eA pH λ_ kP l_ sK=>a1 l_ λ_ gu _ ki=>?_;rcases g3 h with⟨iY,h⟩|⟨iY,h⟩
    .obtain⟨aC,hE,h⟩:=aU h;obtain⟨aV,fM,h⟩:=aU h;refine xD (ab iY (ab hE (ab (c7 hE) fM))) _ ?_;refine bn h (λkm h=>?_) λkm h=>?_
     .refine bp (gu _ (inl (cd l_ λ_ sQ _ _ _=>dJ (cS [(0,.slice (I.map aH)),(1,.br 30 [.ref (.agg [.int .i64 bD,.aK,.slice (bF.map b3)]),.ref (ej bS),.aS (.agg [.int .i64 ah.2.1,.aq 1 (ah.2.2.1.map aH),.aq 5 (ah.2.2.2.map cg)])]),(4,.aq 1 ((List.set jb (Int.toNat g_) 0).map aH)),(5,.int .i64 g_)] (λP bf=>?_) ?_))))
      .simp only[a5.down,simprocAttr,hE,c7 hE,eK,dc];exact cH (ab hE (ab (c7 hE) @eK))
      refine wr [(0,.slice (I.map aH)),(1,.br 30 [.ref (.agg [.int .i64 bD,.aK,.slice (bF.map b3)]),.ref (ej bS),.aS (.agg [.int .i64 ah.2.1,.aq 1 (ah.2.2.1.map aH),.aq 5 (ah.2.2.2.map cg)])]),(4,.aq 1 ((List.set jb (Int.toNat g_) 0).map aH)),(5,.int .i64 (i64.wrap (g_-1)))] ?_;exact sQ _ (kP _ (inr ⟨_,dd rfl,R8 (List.set jb (Int.toNat g_) 0) (i64.wrap (g_-1)) h⟩))
     .refine ep (ki 2 _ (sK 2 _ (hn _ (eC _ (inl (a1 dp λ_ R9 BX _=>aJ ?_))))));refine bn h (λR_ h=>?_) λR_ h=>?_
      .exact jH (BX _ (inl (lY [] rfl (by cases hb h;rfl) (by decide) (mK (k9 (mL (by cases hb h;rfl) rfl rfl rfl (mM)))))))
      .refine bp (R9 _ (inl (ja (cS [(0,.slice (I.map aH)),(1,.br 30 [.ref (.agg [.int .i64 bD,.aK,.slice (bF.map b3)]),.ref (ej bS),.aS (.agg [.int .i64 ah.2.1,.aq 1 (ah.2.2.1.map aH),.aq 5 (ah.2.2.2.map cg)])]),(4,.aq 1 ((List.set jb (Int.toNat g_) (i64.wrap (aC+1))).map aH))] (λP bf=>?_) ?_))))
       .simp only[a5.down,simprocAttr,hE,c7 hE,eK,dc];exact cH (ab hE (ab (c7 hE) @eK))
       exact ek _ (gv _ (inr ⟨_,dd rfl,Hq ah.2.1 ah.2.2.1 ah.2.2.2 (List.set jb (Int.toNat g_) (i64.wrap (aC+1))) h⟩))
    .refine xD iY _ ?_;refine qK rfl ?_;refine ep (ki 2 _ (sK 2 _ (hn _ (eC _ (inl (a1 dp λ_ oD ve _=>aJ ?_))))));refine bn h (λvf h=>?_) λvf h=>?_
     .exact jH (ve _ (inl (lY [] rfl (by cases hb h;rfl) (by decide) (mK (k9 (mL (by cases hb h;rfl) rfl rfl rfl (mM)))))))
     .refine bp (oD _ (inl ?_));obtain⟨bL,lu,h⟩:=aU h;refine ja (cS [(0,.slice (I.map aH)),(1,.br 30 [.ref (.agg [.int .i64 bD,.aK,.slice (bF.map b3)]),.ref (ej bS),.aS (.agg [.int .i64 ah.2.1,.aq 1 (ah.2.2.1.map aH),.aq 5 (ah.2.2.2.map cg)])]),(4,.aq 1 ((List.set jb (Int.toNat g_) (i64.wrap (bL+1))).map aH))] (λP bf=>?_) ?_)
      .simp only[a5.down,simprocAttr,lu,c7 lu,eK,dc];exact cH (ab lu (ab (c7 lu) @eK))
      exact ek _ (gv _ (inr ⟨_,dd rfl,Hq ah.2.1 ah.2.2.1 ah.2.2.2 (List.set jb (Int.toNat g_) (i64.wrap (bL+1))) h⟩))
   exact fa h λn h=>R7 n lh (i64.wrap ((lh.length:Int)-1)) h
  .exact ep (bM 0 _ (bL 0 _ (h1 _ (ck _ (inl (lY [] rfl (by cases hb h;rfl) (by decide) (mK (k9 (mL (by cases hb h;rfl) rfl rfl rfl (mM))))))))))
 exact fa h λn h=>R5 n cv q9 q_ (List.replicate (Int.toNat (I.length:Int)) 0) h
theorem Hr (I r) (h:uV I=some r):bq aA 8 [ej I] (.tuple [e3 r.1,.int .i64 r.2]) []:=by
 refine bq.Gx (fx:=[0]) AB [.cell 2 29,.tmp 3] [(0,ej I)] Try.func8 rfl rfl ix (le_of_ble_eq_true rfl) Qk rfl rfl λcm aF ck=>?_;refine aJ ?_;refine a1 aF λ_ cf bz aC=>?_;obtain⟨ah,bT,h⟩:=aU h;refine eV (RX I _ bT) _ ?_;refine bn h (λc6 h=>?_) λc6 h=>?_
 .refine eL (show∀s,fb aA s 29 []=some (.agg [.int .i64 0,.aK,.aK],s)from λs=>by kernel_rfl) _ ?_;exact jH (bz _ (inr ⟨[(2,.aS (e3 (b5.mk 0 [] []))),(3,.int .i64 1)],kb [] rfl (kd (t:=2) (d:=.aS (.agg [.int .i64 0,.aK,.aK])) rfl rfl (.aS (.agg (.cons (.refl _) (.cons (.gW _) (.cons (.gW _) (.nil)))))) (by decide) (fI rfl (kc))),sa [e3 (b5.mk 0 [] []),.int .i64 1]⟩))
 .refine bp (cf _ (inl ?_));obtain⟨aC,gR,h⟩:=aU h;refine FM rfl (pj (K:=dr _) [(1,.aS (ej I)),(2,.aS (.agg [.int .i64 0,.aK,.aK])),(4,.aS (.agg [.int .i64 I.a7,.aq 1 (aC.map aH),.aK]))] (λP bf=>?_) (z7 [(1,.aS (ej I)),(2,.aS (.agg [.int .i64 0,.aK,.aK])),(4,.aS (.agg [.int .i64 I.a7,.aq 1 (aC.map aH),.aq 5 []]))] (kb [] rfl (fI rfl (fI rfl (kd (t:=4) (d:=.aS (.agg [.int .i64 I.a7,.aq 1 (aC.map aH),.aK])) (a8:=.aS (.agg [.int .i64 I.a7,.aq 1 (aC.map aH),.aq 5 []])) rfl rfl (.aS (.agg (.cons (.refl _) (.cons (.refl _) (.cons (.gW _) (.nil)))))) (by decide) (kc))))) ?_))
  ·(try simp only[gr.down,simprocAttr,BO.down,dt,c4]);refine k3 (B4 I.Start _ gR) (hK:= ?_);simp only[gr.down,simprocAttr,BO.down,dt,c4];refine⟨oi (by kernel_rfl),?_⟩;exact cH BO.down
  refine a1 aF λ_ ek dp _=>aJ ?_;refine cd dp λvi _ fy mb _=>?_;have ll:∀n gb nG mW mX,sy I n gb nG mW mX=some r->dK aA GP vi (ao [(1,.aS (ej I)),(2,.aS (.agg [.int .i64 0,.aK,.aK])),(4,.aS (.agg [.int .i64 gb,.aq 1 (nG.map aH),.aq 5 (mW.map cg)])),(19,.slice (I.bJ.map b3)),(20,.int .i64 (I.bJ.length:Int)),(21,.int .i64 mX)]):=by
   refine eB λ_ ln gb nG mW mX h=>eA fy λ_ iW pH pB=>aJ ?_;refine a1 pH λ_ gu _ ki=>bn h (λjS h=>?_) λjS h=>?_
   .refine bp (gu _ (inl (a1 pH λ_ lq l8 _=>cd l8 λ_ vh _ _ _=>?_)));obtain⟨aV,iX,h⟩:=aU h;refine eL iX _ ?_;refine eL (ab (show∀s,e6 aA s 27 1 [(0,.agg [.slice (aV.aY.map aH),.slice (aV.Guard.map bA),.str aV.Name,.slice (aV.bG.map cB),.slice (aV.Next.map cB)])]=some (.aq 5 [.agg [.slice (aV.aY.map aH),.slice (aV.Guard.map bA),.str aV.Name,.slice (aV.bG.map cB),.slice (aV.Next.map cB)]],s)from λs=>by kernel_rfl) (ab (@qO aA 29 [(2,0),(22,1),(27,2)] [(.int .i64 0),.aK,.aK] rfl rfl (by kernel_rfl)) (ab @ob (ab @oc (ab @eK (ab @jt (ab @List.nil_append.{0} @List.cons_append.{0}))))))) _ ?_;obtain⟨bL,h6,h⟩:=aU h;refine N_ [(1,.aS (ej I)),(2,.aS (.agg [.int .i64 0,.aK,.aK])),(4,.aS (.agg [.int .i64 bL.2.2.2.2.2.1,.aq 1 (bL.2.2.2.2.2.2.1.map aH),.aq 5 (bL.2.2.2.2.2.2.2.map cg)])),(19,.slice (I.bJ.map b3)),(20,.int .i64 (I.bJ.length:Int)),(21,.int .i64 mX)] (λP bf=>?_) ?_
    ·(try simp only[a5.down,simprocAttr]);refine Oc [⟨.slice (aV.aY.map aH),false,_,.hole⟩,⟨.h 7 [],false,_,_⟩,⟨.h 1 [],false,_,_⟩,⟨.h 4 [],true,_,_⟩] (R3 aV.aY I.a7 [aV] I gb nG mW _ h6) rfl rfl rfl (by simp only[a5.down,simprocAttr,qQ,oe,mJ,jI,jK,jL,fc,or_true,true_or,qX,List.cons_append,List.nil_append, @c2 _ aH aH (λ_=>hD _), @c2 _ bA bA (λ_=>oy _), @c2 _ cB cB (λ_=>nH _), @c2 _ cB cB (λ_=>nH _),j.shares, @c2 _ b3 b3 (λ_=>vb _), @c2 _ aH aH (λ_=>hD _), @c2 _ b3 b3 (λ_=>vb _), @c2 _ aH aH (λ_=>hD _), @c2 _ cg b3 (λ_=>pD _)]) rfl rfl rfl rfl rfl rfl ((inr (by simp only[qY,j.ch,j.gU,Bool.and_self,GR.down,Bool.true_or,Bool.false_or,GZ.down]))) ?_;simp only[a5.down,simprocAttr,lZ,qX,List.cons_append,List.nil_append];exact cH trivial
    refine vh _ (lq _ (inl (gf ?_)));exact iW _ (inr ⟨_,dd rfl,ln bL.2.2.2.2.2.1 bL.2.2.2.2.2.2.1 bL.2.2.2.2.2.2.2 (i64.wrap (mX+1)) h⟩)
   .refine ep (ki 0 _ (pB 0 _ (mb _ (ek _ (inl (a1 aF λ_ rm pG _=>aJ ?_))))));refine bn h (λm0 h=>?_) λm0 h=>?_
    .refine eL (show∀s,fb aA s 29 []=some (.agg [.int .i64 0,.aK,.aK],s)from λs=>by kernel_rfl) _ ?_;exact jH (pG _ (inr ⟨[(2,.aS (e3 (b5.mk 0 [] []))),(3,.int .i64 5)],kb [] rfl (kd (t:=2) (d:=.aS (.agg [.int .i64 0,.aK,.aK])) rfl rfl (.aS (.agg (.cons (.refl _) (.cons (.gW _) (.cons (.gW _) (.nil)))))) (by decide) (fI rfl (kc))),sa [e3 (b5.mk 0 [] []),.int .i64 5]⟩))
    .exact bp (rm _ (inl (bo aF [e3 (b5.mk gb nG mW),.int .i64 0])))
  exact fa h λn h=>ll n I.a7 aC [] 0 h
theorem Hs (I ar r) (h:uW I ar=some r):bq aA 14 [.slice (I.map aH),.slice (ar.map aH)] (.bool r) []:=by
 refine cq [0,1] [.tmp 4] Try.func14 lj λcm aF ck=>aJ ?_;refine a1 aF λ_ cf bz aC=>aJ ?_;refine bn h (λcO h=>?_) λcO h=>?_
 .exact bo bz [.bool false]
 .refine bp (cf _ (inl (a1 aF λ_ eD eW _=>aJ ?_)));refine cd eW λoG _ jd dy _=>?_;show bh aA (.loop ?lj) _ _;have lr:∀n ei,Bm I ar n ei=some r->dK aA ?lj oG (ao [(0,.slice (I.map aH)),(1,.slice (ar.map aH)),(5,.int .i64 ei)]):=by
   refine eB λ_ kO ei h=>eA jd λ_ ek dp ee=>a1 dp λ_ c3 _ fK=>aJ ?_;refine bn h (λhn h=>?_) λhn h=>?_
   .refine bp (c3 _ (inl (a1 dp λ_ kP l_ _=>cd l_ λ_ gu gg _ _=>?_)));obtain⟨ah,eM,h⟩:=aU h;obtain⟨aC,hE,h⟩:=aU h;refine xD (ab eM hE) _ ?_;refine bn h (λm1 h=>?_) λm1 h=>?_
    .exact bo gg [.bool false]
    .refine bp (gu _ (kP _ (inl (gf ?_))));exact ek _ (inr ⟨_,dd rfl,kO (i64.wrap (ei+1)) h⟩)
   .exact ep (fK 0 _ (ee 0 _ (dy _ (eD _ (inl (bo aF [.bool true]))))))
  exact fa h λn h=>lr n 0 h
theorem Sa (I ar r) (h:uX I ar=some r):bq aA 106 [bA I,bA ar] (.bool r) []:=by
 refine cq [0,1] [.tmp 4] Try.func106 Ql λcm aF ck=>aJ ?_;refine a1 aF λ_ cf bz _=>aJ ?_;refine bn h (λcO h=>?_) λcO h=>?_
 .exact bo bz [.bool false]
 .refine bp (cf _ (inl (a1 aF λ_ eD eW _=>aJ ?_)));refine bn h (λdy h=>?_) λdy h=>?_
  .exact bo eW [.bool false]
  .exact bp (eD _ (inl (bo aF [.bool true])))
theorem Ht (I ar r) (h:sA I ar=some r):bq aA 84 [.slice (I.map bA),.slice (ar.map bA)] (.bool r) []:=by
 refine cq [0,1] [.tmp 4] Try.func84 Qm λcm aF ck=>aJ ?_;refine a1 aF λ_ cf bz aC=>aJ ?_;refine bn h (λcO h=>?_) λcO h=>?_
 .exact bo bz [.bool false]
 .refine bp (cf _ (inl (a1 aF λ_ eD eW _=>aJ ?_)));refine cd eW λoG _ jd dy _=>?_;show bh aA (.loop ?lj) _ _;have lr:∀n ei,Bn I ar n ei=some r->dK aA ?lj oG (ao [(0,.slice (I.map bA)),(1,.slice (ar.map bA)),(5,.int .i64 ei)]):=by
   refine eB λ_ kO ei h=>eA jd λ_ ek dp ee=>a1 dp λ_ c3 _ fK=>aJ ?_;refine bn h (λhn h=>?_) λhn h=>?_
   .refine bp (c3 _ (inl (a1 dp λ_ kP l_ _=>cd l_ λ_ gu gg _ _=>?_)));obtain⟨ah,eM,h⟩:=aU h;obtain⟨aC,hE,h⟩:=aU h;obtain⟨aV,fM,h⟩:=aU h;refine pE (ab eM hE) (Sa ah aC _ fM) _ ?_;refine bn h (λkm h=>?_) λkm h=>?_
    .exact bo gg [.bool false]
    .refine bp (gu _ (kP _ (inl (gf ?_))));exact ek _ (inr ⟨_,dd rfl,kO (i64.wrap (ei+1)) h⟩)
   .exact ep (fK 0 _ (ee 0 _ (dy _ (eD _ (inl (bo aF [.bool true]))))))
  exact fa h λn h=>lr n 0 h
theorem Hu (I ar r) (h:uY I ar=some r):bq aA 85 [.slice (I.map cB),.slice (ar.map cB)] (.bool r) []:=by
 refine cq [0,1] [.tmp 4] Try.func85 Qn λcm aF ck=>aJ ?_;refine a1 aF λ_ cf bz aC=>aJ ?_;refine bn h (λcO h=>?_) λcO h=>?_
 .exact bo bz [.bool false]
 .refine bp (cf _ (inl (a1 aF λ_ eD eW _=>aJ ?_)));refine cd eW λoG _ jd dy _=>?_;show bh aA (.loop ?lj) _ _;have lr:∀n ei,Bo I ar n ei=some r->dK aA ?lj oG (ao [(0,.slice (I.map cB)),(1,.slice (ar.map cB)),(5,.int .i64 ei)]):=by
   refine eB λ_ kO ei h=>eA jd λ_ ek dp ee=>a1 dp λ_ c3 _ fK=>aJ ?_;refine bn h (λhn h=>?_) λhn h=>?_
   .refine bp (c3 _ (inl (a1 dp λ_ kP l_ _=>cd l_ λ_ gu gg _ _=>?_)));obtain⟨ah,eM,h⟩:=aU h;obtain⟨aC,hE,h⟩:=aU h;obtain⟨aV,fM,h⟩:=aU h;refine pE (ab eM hE) (Ht ah aC _ fM) _ ?_;refine bn h (λkm h=>?_) λkm h=>?_
    .exact bo gg [.bool false]
    .refine bp (gu _ (kP _ (inl (gf ?_))));exact ek _ (inr ⟨_,dd rfl,kO (i64.wrap (ei+1)) h⟩)
   .exact ep (fK 0 _ (ee 0 _ (dy _ (eD _ (inl (bo aF [.bool true]))))))
  exact fa h λn h=>lr n 0 h
theorem Sb (I ar r) (h:uZ I ar=some r):bq aA 54 [b3 I,b3 ar] (.bool r) []:=by
 refine cq [0,1] [.tmp 4] Try.func54 Qo λcm aF ck=>aJ ?_;refine a1 aF λ_ cf bz aC=>?_;obtain⟨ah,bT,h⟩:=aU h;refine eV (Hs I.aY ar.aY _ bT) _ ?_;refine bn h (λc6 h=>?_) λc6 h=>?_
 .exact bo bz [.bool false]
 .refine bp (cf _ (inl (a1 aF λ_ fL f_ _=>?_)));obtain⟨aC,iE,h⟩:=aU h;refine eV (Ht I.Guard ar.Guard _ iE) _ ?_;refine bn h (λiz h=>?_) λiz h=>?_
  .exact bo f_ [.bool false]
  .refine bp (fL _ (inl (a1 aF λ_ iW pH _=>aJ ?_)));refine bn h (λhT h=>?_) λhT h=>?_
   .exact bo pH [.bool false]
   .refine bp (iW _ (inl (a1 aF λ_ lq l8 _=>?_)));obtain⟨aV,fM,h⟩:=aU h;refine eV (Hu I.bG ar.bG _ fM) _ ?_;refine bn h (λkm h=>?_) λkm h=>?_
    .exact bo l8 [.bool false]
    .refine bp (lq _ (inl (a1 aF λ_ mZ oC _=>?_)));obtain⟨bL,m2,h⟩:=aU h;refine eV (Hu I.Next ar.Next _ m2) _ ?_;refine bn h (λnJ h=>?_) λnJ h=>?_
     .exact bo oC [.bool false]
     .exact bp (mZ _ (inl (bo aF [.bool true])))
theorem Sc (I ar r) (h:xt I ar=some r):bq aA 36 [.slice (I.map b3),.slice (ar.map b3)] (.bool r) []:=by
 refine cq [0,1] [.tmp 4] Try.func36 Qp λcm aF ck=>aJ ?_;refine a1 aF λ_ cf bz aC=>aJ ?_;refine bn h (λcO h=>?_) λcO h=>?_
 .exact bo bz [.bool false]
 .refine bp (cf _ (inl (a1 aF λ_ eD eW _=>aJ ?_)));refine cd eW λoG _ jd dy _=>?_;show bh aA (.loop ?lj) _ _;have lr:∀n ei,Bp I ar n ei=some r->dK aA ?lj oG (ao [(0,.slice (I.map b3)),(1,.slice (ar.map b3)),(5,.int .i64 ei)]):=by
   refine eB λ_ kO ei h=>eA jd λ_ ek dp ee=>a1 dp λ_ c3 _ fK=>aJ ?_;refine bn h (λhn h=>?_) λhn h=>?_
   .refine bp (c3 _ (inl (a1 dp λ_ kP l_ _=>cd l_ λ_ gu gg _ _=>?_)));obtain⟨ah,eM,h⟩:=aU h;obtain⟨aC,hE,h⟩:=aU h;obtain⟨aV,fM,h⟩:=aU h;refine pE (ab eM hE) (Sb ah aC _ fM) _ ?_;refine bn h (λkm h=>?_) λkm h=>?_
    .exact bo gg [.bool false]
    .refine bp (gu _ (kP _ (inl (gf ?_))));exact ek _ (inr ⟨_,dd rfl,kO (i64.wrap (ei+1)) h⟩)
   .exact ep (fK 0 _ (ee 0 _ (dy _ (eD _ (inl (bo aF [.bool true]))))))
  exact fa h λn h=>lr n 0 h
theorem rv (I ar r) (h:ra I ar=some r):bq aA 9 [ej I,ej ar] (.bool r) []:=by
 refine cq [0,1] [.tmp 4] Try.func9 zj λcm aF ck=>aJ ?_;refine a1 aF λ_ cf bz aC=>aJ ?_;refine bn h (λcO h=>?_) λcO h=>?_
 .exact bo bz [.bool false]
 .refine bp (cf _ (inl (a1 aF λ_ eD eW _=>?_)));obtain⟨ah,gR,h⟩:=aU h;refine eV (Hs I.Start ar.Start _ gR) _ ?_;refine bn h (λg6 h=>?_) λg6 h=>?_
  .exact bo eW [.bool false]
  .refine bp (eD _ (inl (a1 aF λ_ eC fy _=>?_)));obtain⟨aC,dN,h⟩:=aU h;refine eV (Sc I.bJ ar.bJ _ dN) _ ?_;refine bn h (λhT h=>?_) λhT h=>?_
   .exact bo fy [.bool false]
   .exact bp (eC _ (inl (bo aF [.bool true])))
theorem Hv (I ar r) (h:u0 I ar=some r):bq aA 15 [.aq 1 (I.map aH),.int .i64 ar] (.int .i64 r.1) [.aq 1 (r.2.map aH),.hole]:=by
 refine cq [0] [.tmp 4] Try.func15 Qq λcm aF ck=>aJ ?_;refine a1 aF λ_ cf bz _=>aJ ?_;refine cd bz λgM _ ct cO _=>?_;show bh aA (.loop ?fu) _ _;have gN:∀n cp bV aZ,sB n cp bV aZ=some r->dK aA ?fu gM (ao [(0,.aq 1 (cp.map aH)),(1,.int .i64 bV),(5,.int .i64 aZ)]):=by
  refine eB λ_ gw cp bV aZ h=>eA ct λ_ fq dk bM=>a1 dk λ_ eD _ b1=>aJ ?_;refine bn h (λdy h=>?_) λdy h=>?_
  .refine bp (eD _ (inl (a1 dk λ_ ek dp _=>cd dp λ_ c3 _ _ _=>?_)));obtain⟨ah,dT,h⟩:=aU h;refine dJ (cS [(0,.aq 1 ((List.set cp (Int.toNat aZ) bV).map aH)),(1,.int .i64 bV),(5,.int .i64 aZ)] (λP bf=>?_) ?_)
   .simp only[a5.down,simprocAttr,dT,c7 dT,eK,dc];exact cH (ab dT (ab (c7 dT) @eK))
   refine wr [(0,.aq 1 ((List.set cp (Int.toNat aZ) bV).map aH)),(1,.int .i64 (i64.wrap (bV+1))),(5,.int .i64 aZ)] ?_;refine c3 _ (ek _ (inl (wr [(0,.aq 1 ((List.set cp (Int.toNat aZ) bV).map aH)),(1,.int .i64 (i64.wrap (bV+1))),(5,.int .i64 (i64.wrap (aZ+1)))] ?_)));exact fq _ (inr ⟨_,dd rfl,gw (List.set cp (Int.toNat aZ) bV) (i64.wrap (bV+1)) (i64.wrap (aZ+1)) h⟩)
  .refine ep (b1 0 _ (bM 0 _ (cO _ (cf _ (inl (aJ ?_))))));exact jH (aF _ (inl (lY [.int .i64 bV] rfl (by cases hb h;rfl) (by decide) (mK (mL (by cases hb h;rfl) rfl rfl rfl (k9 (mM)))))))
 exact fa h λn h=>gN n I ar 0 h
theorem Hw (I ar r) (h:u1 I ar=some r):bq aA 55 [.aq 2 (I.map bA),.int .i64 ar] (.int .i64 r.1) [.aq 2 (r.2.map bA),.hole]:=by
 refine cq [0] [.tmp 4] Try.func55 BI λcm aF ck=>aJ ?_;refine a1 aF λ_ cf bz aC=>aJ ?_;refine cd bz λgM _ ct cO _=>?_;show bh aA (.loop ?fu) _ _;have gN:∀n cp bV aZ,sC n cp bV aZ=some r->dK aA ?fu gM (ao [(0,.aq 2 (cp.map bA)),(1,.int .i64 bV),(5,.int .i64 aZ)]):=by
  refine eB λ_ gw cp bV aZ h=>eA ct λ_ fq dk bM=>a1 dk λ_ eD _ b1=>aJ ?_;refine bn h (λdy h=>?_) λdy h=>?_
  .refine bp (eD _ (inl (a1 dk λ_ ek dp _=>cd dp λ_ c3 _ _ _=>?_)));obtain⟨ah,dT,h⟩:=aU h;refine dJ (cS [(0,.aq 2 ((List.set cp (Int.toNat aZ) (aW.mk bV ah.Value)).map bA)),(1,.int .i64 bV),(5,.int .i64 aZ)] (λP bf=>?_) ?_)
   .simp only[a5.down,simprocAttr,dT,c7 dT,eK,dc];exact cH (ab dT (ab (c7 dT) @eK))
   refine ws [(0,.aq 2 ((List.set cp (Int.toNat aZ) (aW.mk bV ah.Value)).map bA)),(1,.int .i64 (i64.wrap (bV+1))),(5,.int .i64 aZ)] ?_;obtain⟨aC,eH,h⟩:=aU h;refine dJ (cS [(0,.aq 2 ((List.set (List.set cp (Int.toNat aZ) (aW.mk bV ah.Value)) (Int.toNat aZ) (aW.mk aC.Kind (i64.wrap (bV+1)))).map bA)),(1,.int .i64 (i64.wrap (bV+1))),(5,.int .i64 aZ)] (λP bf=>?_) ?_)
   .simp only[a5.down,simprocAttr,eH,c7 eH,eK,dc];exact cH (ab eH (ab (c7 eH) @eK))
   refine wr [(0,.aq 2 ((List.set (List.set cp (Int.toNat aZ) (aW.mk bV ah.Value)) (Int.toNat aZ) (aW.mk aC.Kind (i64.wrap (bV+1)))).map bA)),(1,.int .i64 (i64.wrap ((i64.wrap (bV+1))+1))),(5,.int .i64 aZ)] ?_;refine c3 _ (ek _ (inl (wr [(0,.aq 2 ((List.set (List.set cp (Int.toNat aZ) (aW.mk bV ah.Value)) (Int.toNat aZ) (aW.mk aC.Kind (i64.wrap (bV+1)))).map bA)),(1,.int .i64 (i64.wrap ((i64.wrap (bV+1))+1))),(5,.int .i64 (i64.wrap (aZ+1)))] ?_)));exact fq _ (inr ⟨_,dd rfl,gw (List.set (List.set cp (Int.toNat aZ) (aW.mk bV ah.Value)) (Int.toNat aZ) (aW.mk aC.Kind (i64.wrap (bV+1)))) (i64.wrap ((i64.wrap (bV+1))+1)) (i64.wrap (aZ+1)) h⟩)
  .refine ep (b1 0 _ (bM 0 _ (cO _ (cf _ (inl (aJ ?_))))));exact jH (aF _ (inl (lY [.int .i64 bV] rfl (by cases hb h;rfl) (by decide) (mK (mL (by cases hb h;rfl) rfl rfl rfl (k9 (mM)))))))
 exact fa h λn h=>gN n I ar 0 h
theorem Hx (I r) (h:u2 I=some r):bq aA 56 [.int .i64 I] (.str r) []:=by
 refine cq [] [.tmp 2] Try.func56 Qr λcm aF ck=>aJ ?_;refine a1 aF λ_ cf bz _=>aJ ?_;refine bn h (λcO h=>?_) λcO h=>?_
 .exact bo bz [.str ([109,48]:Vj)]
 .refine bp (cf _ (inl (aJ ?_)));refine a1 aF λ_ fL f_ _=>cd f_ λoG _ jd dy _=>?_;have lr:∀n jw e2,rb n jw e2=some r->dK aA GQ oG (ao [(0,.int .i64 jw),(3,.str e2)]):=by
   refine eB λ_ kO jw e2 h=>eA jd λ_ ek dp ee=>a1 dp λ_ c3 _ fK=>aJ ?_;refine bn h (λhn h=>?_) λhn h=>?_
   .refine bp (c3 _ (inl (cd dp λ_ kP _ _ _=>?_)));obtain⟨u16,eH,h⟩:=aU h;(try simp only[kj.down,Nat.zero_add,Nat.add_zero,reduceAdd]at eH);refine eL (ab (@MQ .i64 10 (by decide)) (ab (@ML aA 3 5 .u8 rfl rfl) (ab (show∀s,e6 aA s 110 1 [(0,.int .u8 (u8.wrap (i64.wrap (48+(Int.tmod jw 10)))))]=some (.aq 1 [.int .u8 (u8.wrap (i64.wrap (48+(Int.tmod jw 10))))],s)from λs=>by kernel_rfl) (ab ((@MM aA 110 9 5 rfl rfl rfl).2.2) (ab @MO (ab @MN (ab eH (ab @Fv @Fw)))))))) [(0,.int .i64 jw),(3,.str ([(nL (i64.wrap (48+(Int.tmod jw 10))))]++e2))] ?_;refine oA (@MP .i64 10 (by decide)) [(0,.int .i64 (i64.wrap (Int.tdiv jw 10))),(3,.str ([(nL (i64.wrap (48+(Int.tmod jw 10))))]++e2))] ?_;exact kP _ (ek _ (inr ⟨_,dd rfl,kO (i64.wrap (Int.tdiv jw 10)) ([(nL (i64.wrap (48+(Int.tmod jw 10))))]++e2) h⟩))
   .refine ep (fK 0 _ (ee 0 _ (dy _ (fL _ (inl ?_)))));obtain⟨BP,fM,h⟩:=aU h;(try simp only[kj.down,Nat.zero_add,Nat.add_zero,reduceAdd]at fM);refine eL (ab fM (ab @Fv @Fw)) [(2,.str (([109]:Vj)++e2))] ?_;exact ez aF [.str (([109]:Vj)++e2)]
  exact fa h λn h=>lr n I ([]:Vj) h
theorem Hy (I ar r) (h:u3 I ar=some r):bq aA 57 [.aq 1 (I.map eG),.int .i64 ar] (.int .i64 r.1) [.aq 1 (r.2.map eG),.hole]:=by
 refine cq [0] [.tmp 4] Try.func57 Qs λcm aF ck=>aJ ?_;refine a1 aF λ_ cf bz aC=>aJ ?_;refine cd bz λgM _ ct cO _=>?_;show bh aA (.loop ?fu) _ _;have gN:∀n cp bV aZ,sD n cp bV aZ=some r->dK aA ?fu gM (ao [(0,.aq 1 (cp.map eG)),(1,.int .i64 bV),(5,.int .i64 aZ)]):=by
  refine eB λ_ gw cp bV aZ h=>eA ct λ_ fq dk bM=>a1 dk λ_ eD _ b1=>aJ ?_;refine bn h (λdy h=>?_) λdy h=>?_
  .refine bp (eD _ (inl (a1 dk λ_ ek dp _=>cd dp λ_ c3 _ _ _=>?_)));obtain⟨ah,dT,h⟩:=aU h;obtain⟨aC,dN,h⟩:=aU h;refine ja (cS [(0,.aq 1 ((List.set cp (Int.toNat aZ) aC.2).map eG)),(1,.int .i64 aC.1),(5,.int .i64 aZ)] (λP bf=>?_) ?_)
   ·(try simp only[a5.down,simprocAttr,dT,c7 dT]);refine od [⟨.h 0 [Int.toNat aZ],true,_,_⟩,⟨.int .i64 bV,false,_,.hole⟩] (Hw ah bV _ dN) rfl rfl rfl (by simp only[a5.down,simprocAttr,dT,c7 dT,G0.down]) rfl rfl (inl rfl) ?_;simp only[a5.down,simprocAttr,dT,c7 dT,lZ,(ui (c7 dT)),uj];exact cH (ab dT (c7 dT))
   refine c3 _ (ek _ (inl (wr [(0,.aq 1 ((List.set cp (Int.toNat aZ) aC.2).map eG)),(1,.int .i64 aC.1),(5,.int .i64 (i64.wrap (aZ+1)))] ?_)));exact fq _ (inr ⟨_,dd rfl,gw (List.set cp (Int.toNat aZ) aC.2) aC.1 (i64.wrap (aZ+1)) h⟩)
  .refine ep (b1 0 _ (bM 0 _ (cO _ (cf _ (inl (aJ ?_))))));exact jH (aF _ (inl (lY [.int .i64 bV] rfl (by cases hb h;rfl) (by decide) (mK (mL (by cases hb h;rfl) rfl rfl rfl (k9 (mM)))))))
 exact fa h λn h=>gN n I ar 0 h
theorem Sd (I ar r) (h:xv I ar=some r):bq aA 37 [.aq 5 (I.map cg),.int .i64 ar] (.int .i64 r.1) [.aq 5 (r.2.map cg),.hole]:=by
 refine cq [0] [.tmp 4] Try.func37 Qt λcm aF ck=>aJ ?_;refine a1 aF λ_ cf bz aC=>aJ ?_;refine cd bz λgM _ ct cO bL=>?_;show bh aA (.loop ?fu) _ _;have gN:∀n cp bV aZ,sE n cp bV aZ=some r->dK aA ?fu gM (ao [(0,.aq 5 (cp.map cg)),(1,.int .i64 bV),(5,.int .i64 aZ)]):=by
  refine eB λ_ gw cp bV aZ h=>eA ct λ_ fq dk bM=>a1 dk λ_ eD _ b1=>aJ ?_;refine bn h (λdy h=>?_) λdy h=>?_
  .refine bp (eD _ (inl (a1 dk λ_ ek dp ee=>cd dp λ_ c3 _ _ fK=>?_)));obtain⟨ah,dT,h⟩:=aU h;obtain⟨aC,dN,h⟩:=aU h;refine dJ (cS [(0,.aq 5 ((List.set cp (Int.toNat aZ) (aN.mk aC.2 ah.Guard ah.Name ah.bG ah.Next)).map cg)),(1,.int .i64 aC.1),(5,.int .i64 aZ)] (λP bf=>?_) ?_)
   ·(try simp only[a5.down,simprocAttr,dT,c7 dT]);refine od [⟨.h 0 [Int.toNat aZ,0],true,_,_⟩,⟨.int .i64 bV,false,_,.hole⟩] (Hv ah.aY bV _ dN) rfl rfl rfl (by simp only[a5.down,simprocAttr,dT,c7 dT,oe,mJ,jI,jK,jL,fc,or_true,true_or, @c2 _ aH aH (λ_=>hD _)]) rfl rfl (inl rfl) ?_;simp only[a5.down,simprocAttr,dT,c7 dT,lZ,(ui (c7 dT)),uj];exact cH (ab dT (c7 dT))
   obtain⟨aV,eH,h⟩:=aU h;obtain⟨bL,eM,h⟩:=aU h;refine dJ (cS [(0,.aq 5 ((List.set (List.set cp (Int.toNat aZ) (aN.mk aC.2 ah.Guard ah.Name ah.bG ah.Next)) (Int.toNat aZ) (aN.mk aV.aY bL.2 aV.Name aV.bG aV.Next)).map cg)),(1,.int .i64 bL.1),(5,.int .i64 aZ)] (λP bf=>?_) ?_)
   ·(try simp only[a5.down,simprocAttr,eH,c7 eH]);refine od [⟨.h 0 [Int.toNat aZ,1],true,_,_⟩,⟨.int .i64 aC.1,false,_,.hole⟩] (Hw aV.Guard aC.1 _ eM) rfl rfl rfl (by simp only[a5.down,simprocAttr,eH,c7 eH,G0.down]) rfl rfl (inl rfl) ?_;simp only[a5.down,simprocAttr,eH,c7 eH,lZ,(ui (c7 eH)),uj];exact cH (ab eH (c7 eH))
   obtain⟨bM,fM,h⟩:=aU h;obtain⟨b1,iX,h⟩:=aU h;refine dJ (cS [(0,.aq 5 ((List.set (List.set (List.set cp (Int.toNat aZ) (aN.mk aC.2 ah.Guard ah.Name ah.bG ah.Next)) (Int.toNat aZ) (aN.mk aV.aY bL.2 aV.Name aV.bG aV.Next)) (Int.toNat aZ) (aN.mk b1.aY b1.Guard bM b1.bG b1.Next)).map cg)),(1,.int .i64 bL.1),(5,.int .i64 aZ)] (λP bf=>?_) ?_)
   ·(try simp only[a5.down,simprocAttr,iX,c7 iX,eK,dc]);refine er (Hx bL.1 _ fM) (hK:= ?_);simp only[a5.down,simprocAttr,iX,c7 iX,eK,dc];exact cH (ab iX (ab (c7 iX) @eK))
   refine ws [(0,.aq 5 ((List.set (List.set (List.set cp (Int.toNat aZ) (aN.mk aC.2 ah.Guard ah.Name ah.bG ah.Next)) (Int.toNat aZ) (aN.mk aV.aY bL.2 aV.Name aV.bG aV.Next)) (Int.toNat aZ) (aN.mk b1.aY b1.Guard bM b1.bG b1.Next)).map cg)),(1,.int .i64 (i64.wrap (bL.1+1))),(5,.int .i64 aZ)] ?_;obtain⟨cE,h6,h⟩:=aU h;obtain⟨dL,m2,h⟩:=aU h;refine dJ (cS [(0,.aq 5 ((List.set (List.set (List.set (List.set cp (Int.toNat aZ) (aN.mk aC.2 ah.Guard ah.Name ah.bG ah.Next)) (Int.toNat aZ) (aN.mk aV.aY bL.2 aV.Name aV.bG aV.Next)) (Int.toNat aZ) (aN.mk b1.aY b1.Guard bM b1.bG b1.Next)) (Int.toNat aZ) (aN.mk cE.aY cE.Guard cE.Name dL.2 cE.Next)).map cg)),(1,.int .i64 dL.1),(5,.int .i64 aZ)] (λP bf=>?_) ?_)
   ·(try simp only[a5.down,simprocAttr,h6,c7 h6]);refine od [⟨.h 0 [Int.toNat aZ,3],true,_,_⟩,⟨.int .i64 (i64.wrap (bL.1+1)),false,_,.hole⟩] (Hy cE.bG (i64.wrap (bL.1+1)) _ m2) rfl rfl rfl (by simp only[a5.down,simprocAttr,h6,c7 h6,G1.down]) rfl rfl (inl rfl) ?_;simp only[a5.down,simprocAttr,h6,c7 h6,lZ,(ui (c7 h6)),uj];exact cH (ab h6 (c7 h6))
   obtain⟨ee,jc,h⟩:=aU h;obtain⟨fK,rl,h⟩:=aU h;refine ja (cS [(0,.aq 5 ((List.set (List.set (List.set (List.set (List.set cp (Int.toNat aZ) (aN.mk aC.2 ah.Guard ah.Name ah.bG ah.Next)) (Int.toNat aZ) (aN.mk aV.aY bL.2 aV.Name aV.bG aV.Next)) (Int.toNat aZ) (aN.mk b1.aY b1.Guard bM b1.bG b1.Next)) (Int.toNat aZ) (aN.mk cE.aY cE.Guard cE.Name dL.2 cE.Next)) (Int.toNat aZ) (aN.mk ee.aY ee.Guard ee.Name ee.bG fK.2)).map cg)),(1,.int .i64 fK.1),(5,.int .i64 aZ)] (λP bf=>?_) ?_)
   ·(try simp only[a5.down,simprocAttr,jc,c7 jc]);refine od [⟨.h 0 [Int.toNat aZ,4],true,_,_⟩,⟨.int .i64 dL.1,false,_,.hole⟩] (Hy ee.Next dL.1 _ rl) rfl rfl rfl (by simp only[a5.down,simprocAttr,jc,c7 jc,G1.down]) rfl rfl (inl rfl) ?_;simp only[a5.down,simprocAttr,jc,c7 jc,lZ,(ui (c7 jc)),uj];exact cH (ab jc (c7 jc))
   refine c3 _ (ek _ (inl (wr [(0,.aq 5 ((List.set (List.set (List.set (List.set (List.set cp (Int.toNat aZ) (aN.mk aC.2 ah.Guard ah.Name ah.bG ah.Next)) (Int.toNat aZ) (aN.mk aV.aY bL.2 aV.Name aV.bG aV.Next)) (Int.toNat aZ) (aN.mk b1.aY b1.Guard bM b1.bG b1.Next)) (Int.toNat aZ) (aN.mk cE.aY cE.Guard cE.Name dL.2 cE.Next)) (Int.toNat aZ) (aN.mk ee.aY ee.Guard ee.Name ee.bG fK.2)).map cg)),(1,.int .i64 fK.1),(5,.int .i64 (i64.wrap (aZ+1)))] ?_)));exact fq _ (inr ⟨_,dd rfl,gw (List.set (List.set (List.set (List.set (List.set cp (Int.toNat aZ) (aN.mk aC.2 ah.Guard ah.Name ah.bG ah.Next)) (Int.toNat aZ) (aN.mk aV.aY bL.2 aV.Name aV.bG aV.Next)) (Int.toNat aZ) (aN.mk b1.aY b1.Guard bM b1.bG b1.Next)) (Int.toNat aZ) (aN.mk cE.aY cE.Guard cE.Name dL.2 cE.Next)) (Int.toNat aZ) (aN.mk ee.aY ee.Guard ee.Name ee.bG fK.2)) fK.1 (i64.wrap (aZ+1)) h⟩)
  .refine ep (b1 0 _ (bM 0 _ (cO _ (cf _ (inl (aJ ?_))))));exact jH (aF _ (inl (lY [.int .i64 bV] rfl (by cases hb h;rfl) (by decide) (mK (mL (by cases hb h;rfl) rfl rfl rfl (k9 (mM)))))))
 exact fa h λn h=>gN n I ar 0 h
theorem Hz (re sF rf ar r) (h:u4 re sF rf ar=some r):bq aA 10 [.agg [.int .i64 re,.aq 1 (sF.map aH),.aq 5 (rf.map cg)],.int .i64 ar] (.int .i64 r.1) [.agg [.int .i64 r.2.1,.aq 1 (r.2.2.1.map aH),.aq 5 (r.2.2.2.map cg)],.hole]:=by
 refine cq [0] [.tmp 4] Try.func10 Qu λcm aF ck=>dJ (cS [(0,.agg [.int .i64 re,.aq 1 (sF.map aH),.aq 5 (rf.map cg)]),(1,.int .i64 ar),(2,.J 0 0)] (λP bf=>?_) ?_)
 .simp only[a5.down,simprocAttr,l0,mO,j.db,mN];exact cH (ab @l0 (ab @mO @mN))
 obtain⟨ah,aX,h⟩:=aU h;refine dJ (cS [(0,.agg [.int .i64 re,.aq 1 (ah.2.map aH),.aq 5 (rf.map cg)]),(1,.int .i64 ah.1),(2,.J 0 0)] (λP bf=>?_) ?_)
 ·(try simp only[a5.down,simprocAttr,l0,mO,j.db,mN]);refine M6 [⟨.h 0 [1],true,_,_⟩,⟨.int .i64 ar,false,_,.hole⟩] (Hv sF ar _ aX) rfl rfl rfl (by simp only[a5.down,simprocAttr,l0,mO,j.db,mN,qQ,oe,mJ,jI,jK,jL,fc,or_true,true_or, @c2 _ aH aH (λ_=>hD _)]) rfl rfl (inl rfl) (by simp only[a5.down,simprocAttr,l0,mO,j.db,mN,FL,mJ,zT,Bool.and_self,Bool.not_false,Bool.and_true]) ?_;simp only[a5.down,simprocAttr,l0,mO,j.db,mN,lZ,FL,mJ,eq_self,Bool.and_self];exact cH (ab @l0 (ab @mO @mN))
 obtain⟨aC,cb,h⟩:=aU h;refine dJ (cS [(0,.agg [.int .i64 re,.aq 1 (ah.2.map aH),.aq 5 (aC.2.map cg)]),(1,.int .i64 aC.1)] (λP bf=>?_) ?_)
 ·(try simp only[a5.down,simprocAttr,l0,mO,j.db,mN]);refine od [⟨.h 0 [2],true,_,_⟩,⟨.int .i64 ah.1,false,_,.hole⟩] (Sd rf ah.1 _ cb) rfl rfl rfl (by simp only[a5.down,simprocAttr,l0,mO,j.db,mN,qQ,oe,mJ,jI,jK,jL,fc,or_true,true_or, @c2 _ cg b3 (λ_=>pD _)]) rfl rfl (inl rfl) ?_;simp only[a5.down,simprocAttr,l0,mO,j.db,mN,lZ];exact cH (ab @l0 (ab @mO @mN))
 refine aJ ?_;exact jH (aF _ (inl (lY [.int .i64 aC.1] rfl (by cases hb h;rfl) (by decide) (mK (mL (by cases hb h;rfl) rfl rfl rfl (k9 (mM)))))))
theorem HA (I ar r) (h:u5 I ar=some r):bq aA 16 [.slice (I.map aH),.int .i64 ar] (.int .i64 r) []:=by
 refine cq [0] [.tmp 4] Try.func16 lk λcm aF ck=>aJ ?_;refine a1 aF λ_ cf bz _=>aJ ?_;refine cd bz λgM _ ct cO _=>?_;show bh aA (.loop ?fu) _ _;have gN:∀n bV aZ,sG I n bV aZ=some r->dK aA ?fu gM (ao [(0,.slice (I.map aH)),(1,.int .i64 bV),(5,.int .i64 aZ)]):=by
  refine eB λ_ gw bV aZ h=>eA ct λ_ fq dk bM=>a1 dk λ_ eD _ b1=>aJ ?_;refine bn h (λdy h=>?_) λdy h=>?_
  .refine bp (eD _ (inl (a1 dk λ_ ek dp _=>cd dp λ_ c3 du _ _=>a1 du λ_ eC fy _=>?_)));obtain⟨ah,dN,h⟩:=aU h;refine eL dN _ ?_;refine bn h (λhT h=>?_) λhT h=>?_
   .exact bo fy [.int .i64 (-1)]
   .refine bp (eC _ (inl (gf ?_)));refine c3 _ (ek _ (inl (gf ?_)));exact fq _ (inr ⟨_,dd rfl,gw (i64.wrap (bV+1)) (i64.wrap (aZ+1)) h⟩)
  .exact ep (b1 0 _ (bM 0 _ (cO _ (cf _ (inl (bo aF [.int .i64 bV]))))))
 exact fa h λn h=>gN n ar 0 h
theorem HB (I ar r) (h:u6 I ar=some r):bq aA 58 [.slice (I.map bA),.int .i64 ar] (.int .i64 r) []:=by
 refine cq [0] [.tmp 4] Try.func58 Qv λcm aF ck=>aJ ?_;refine a1 aF λ_ cf bz _=>aJ ?_;refine cd bz λgM _ ct cO _=>?_;show bh aA (.loop ?fu) _ _;have gN:∀n bV aZ,sH I n bV aZ=some r->dK aA ?fu gM (ao [(0,.slice (I.map bA)),(1,.int .i64 bV),(5,.int .i64 aZ)]):=by
  refine eB λ_ gw bV aZ h=>eA ct λ_ fq dk bM=>a1 dk λ_ eD _ b1=>aJ ?_;refine bn h (λdy h=>?_) λdy h=>?_
  .refine bp (eD _ (inl (a1 dk λ_ ek dp _=>cd dp λ_ c3 du _ _=>a1 du λ_ eC fy _=>?_)));obtain⟨ah,dN,h⟩:=aU h;refine eL dN _ ?_;refine bn h (λhT h=>?_) λhT h=>?_
   .exact bo fy [.int .i64 (-1)]
   .refine bp (eC _ (inl (aJ ?_)));refine a1 du λ_ vh xF _=>eL dN _ ?_;refine bn h (λkm h=>?_) λkm h=>?_
    .exact bo xF [.int .i64 (-1)]
    .refine bp (vh _ (inl (gf ?_)));refine c3 _ (ek _ (inl (gf ?_)));exact fq _ (inr ⟨_,dd rfl,gw (i64.wrap ((i64.wrap (bV+1))+1)) (i64.wrap (aZ+1)) h⟩)
  .exact ep (b1 0 _ (bM 0 _ (cO _ (cf _ (inl (bo aF [.int .i64 bV]))))))
 exact fa h λn h=>gN n ar 0 h
theorem HC (I ar r) (h:u7 I ar=some r):bq aA 59 [.slice (I.map cB),.int .i64 ar] (.int .i64 r) []:=by
 refine cq [0] [.tmp 4] Try.func59 Qw λcm aF ck=>aJ ?_;refine a1 aF λ_ cf bz aC=>aJ ?_;refine cd bz λgM _ ct cO _=>?_;show bh aA (.loop ?fu) _ _;have gN:∀n bV aZ,sI I n bV aZ=some r->dK aA ?fu gM (ao [(0,.slice (I.map cB)),(1,.int .i64 bV),(5,.int .i64 aZ)]):=by
  refine eB λ_ gw bV aZ h=>eA ct λ_ fq dk bM=>a1 dk λ_ eD _ b1=>aJ ?_;refine bn h (λdy h=>?_) λdy h=>?_
  .refine bp (eD _ (inl (a1 dk λ_ ek dp _=>cd dp λ_ c3 du _ _=>?_)));obtain⟨ah,dT,h⟩:=aU h;obtain⟨aC,dN,h⟩:=aU h;refine gL dT (HB ah bV _ dN) _ ?_;refine aJ ?_;refine bn h (λjS h=>?_) λjS h=>?_
   .exact bo du [.int .i64 (-1)]
   .refine bp (c3 _ (ek _ (inl (gf ?_))));exact fq _ (inr ⟨_,dd rfl,gw aC (i64.wrap (aZ+1)) h⟩)
  .exact ep (b1 0 _ (bM 0 _ (cO _ (cf _ (inl (bo aF [.int .i64 bV]))))))
 exact fa h λn h=>gN n ar 0 h
theorem Se (I ar r) (h:xw I ar=some r):bq aA 38 [.slice (I.map b3),.int .i64 ar] (.int .i64 r) []:=by
 refine cq [0] [.tmp 4] Try.func38 Qx λcm aF ck=>aJ ?_;refine a1 aF λ_ cf bz aC=>aJ ?_;refine cd bz λgM _ ct cO bL=>?_;show bh aA (.loop ?fu) _ _;have gN:∀n bV aZ,sJ I n bV aZ=some r->dK aA ?fu gM (ao [(0,.slice (I.map b3)),(1,.int .i64 bV),(5,.int .i64 aZ)]):=by
  refine eB λ_ gw bV aZ h=>eA ct λ_ fq dk bM=>a1 dk λ_ eD _ b1=>aJ ?_;refine bn h (λdy h=>?_) λdy h=>?_
  .refine bp (eD _ (inl (a1 dk λ_ ek dp _=>cd dp λ_ c3 du _ _=>?_)));obtain⟨ah,dT,h⟩:=aU h;obtain⟨aC,dN,h⟩:=aU h;refine gL dT (HA ah.aY bV _ dN) _ ?_;refine a1 du λ_ gu gg _=>aJ ?_;refine bn h (λiY h=>?_) λiY h=>?_
   .exact bo gg [.int .i64 (-1)]
   .refine bp (gu _ (inl ?_));obtain⟨aV,iX,h⟩:=aU h;refine gL dT (HB ah.Guard aC _ iX) _ ?_;refine a1 du λ_ sQ BT _=>aJ ?_;refine bn h (λrn h=>?_) λrn h=>?_
    .exact bo BT [.int .i64 (-1)]
    .refine bp (sQ _ (inl (a1 du λ_ rm pG _=>?_)));obtain⟨bL,rl,h⟩:=aU h;refine pE dT (Hx aV _ rl) _ ?_;refine bn h (λrq h=>?_) λrq h=>?_
     .exact bo pG [.int .i64 (-1)]
     .refine bp (rm _ (inl (aJ ?_)));obtain⟨bM,lu,h⟩:=aU h;refine gL dT (HC ah.bG (i64.wrap (aV+1)) _ lu) _ ?_;refine a1 du λ_ Sf Sg _=>aJ ?_;refine bn h (λSh h=>?_) λSh h=>?_
      .exact bo Sg [.int .i64 (-1)]
      .refine bp (Sf _ (inl ?_));obtain⟨b1,sS,h⟩:=aU h;refine gL dT (HC ah.Next bM _ sS) _ ?_;refine aJ ?_;refine bn h (λSi h=>?_) λSi h=>?_
       .exact bo du [.int .i64 (-1)]
       .refine bp (c3 _ (ek _ (inl (gf ?_))));exact fq _ (inr ⟨_,dd rfl,gw b1 (i64.wrap (aZ+1)) h⟩)
  .exact ep (b1 0 _ (bM 0 _ (cO _ (cf _ (inl (bo aF [.int .i64 bV]))))))
 exact fa h λn h=>gN n ar 0 h
theorem HD (I ar r) (h:u9 I ar=some r):bq aA 11 [ej I,.int .i64 ar] (.int .i64 r) []:=by
 refine cq [0] [.tmp 4] Try.func11 Qy λcm aF ck=>aJ ?_;obtain⟨ah,aX,h⟩:=aU h;refine eV (HA I.Start ar _ aX) _ ?_;refine a1 aF λ_ gv ct _=>aJ ?_;refine bn h (λfC h=>?_) λfC h=>?_
 .exact bo ct [.int .i64 (-1)]
 .refine bp (gv _ (inl ?_));obtain⟨aC,iE,h⟩:=aU h;refine eV (Se I.bJ ah _ iE) _ ?_;refine a1 aF λ_ c3 du _=>aJ ?_;refine bn h (λhn h=>?_) λhn h=>?_
  .exact bo du [.int .i64 (-1)]
  .exact bp (c3 _ (inl (bo aF [.int .i64 aC])))
theorem Sj (I r) (h:Bz I=some r):bq aA 3 [jQ I] (.bool r) []:=by
 refine cq [0] [.tmp 2] Try.func3 o9 λcm aF ck=>aJ ?_;refine aJ ?_;obtain⟨ah,bT,h⟩:=aU h;refine eV (QB I 1048576 _ bT) _ ?_;refine a1 aF λ_ fq dk bM=>aJ ?_;refine bn h (λtv h=>?_) λtv h=>?_
 .exact bo dk [.bool true]
 .refine bp (fq _ (inl ?_));obtain⟨aC,j2,h⟩:=aU h;obtain⟨aV,tk,h⟩:=aU h;refine dJ (cS [(1,.aS (jQ I)),(4,.aS (e3 aV.1)),(5,.int .i64 aV.2)] (λP bf=>?_) ?_)
  ·(try simp only[a5.down,simprocAttr]);refine er (xE I _ j2) (hK:= ?_);simp only[a5.down,simprocAttr];refine er (QV aC _ tk) rfl rfl (by simp only[a5.down,simprocAttr,vd.down]<;>rfl) rfl (inr (by simp only[j.ch,j.gU,xA,Bool.and_self])) ?_;simp only[a5.down,simprocAttr];exact cH trivial
  obtain⟨bL,dN,h⟩:=aU h;refine eV (xE I _ dN) _ ?_;obtain⟨bM,eH,h⟩:=aU h;refine dJ (cS [(1,.aS (jQ I)),(4,.aS (e3 aV.1)),(5,.int .i64 aV.2),(6,.aS (e3 bL)),(7,.aS (e3 bM.1)),(8,.int .i64 bM.2)] (λP bf=>?_) ?_)
  ·(try simp only[a5.down,simprocAttr]);refine er (Hr bL _ eH) rfl rfl (by simp only[a5.down,simprocAttr,vd.down]<;>rfl) rfl (inr (by simp only[j.ch,j.gU,xA,Bool.and_self])) ?_;simp only[a5.down,simprocAttr];exact cH trivial
  refine a1 aF λ_ lq l8 rh=>?_;obtain⟨b1,fM,h⟩:=aU h;refine dJ (cS [(1,.aS (jQ I)),(4,.aS (e3 aV.1)),(5,.int .i64 aV.2),(6,.aS (e3 bL)),(7,.aS (e3 bM.1)),(8,.int .i64 bM.2),(40,.bool ((!b1)||(bM.2 !=aV.2)))] (λP bf=>?_) ?_)
  .rcases Bool.eq_false_or_eq_true (b1)with oH|oH
   ·(try simp only[a5.down,simprocAttr,oH]);refine er (rv bM.1 aV.1 _ fM) rfl rfl (by simp only[a5.down,simprocAttr,oH,rj.down]<;>rfl) rfl (inr (by rfl)) ?_;simp only[a5.down,simprocAttr,oH];exact cH oH
   ·(try simp only[a5.down,simprocAttr,oH]);refine er (rv bM.1 aV.1 _ fM) rfl rfl (by simp only[a5.down,simprocAttr,oH,rj.down]<;>rfl) rfl (inr (by rfl)) ?_;simp only[a5.down,simprocAttr,oH];exact cH oH
  refine bn h (λlo h=>?_) λlo h=>?_
  .exact bo l8 [.bool false]
  .refine bp (lq _ (inl (a1 aF λ_ B0 B1 _=>?_)));obtain⟨cE,vg,h⟩:=aU h;obtain⟨dL,jc,h⟩:=aU h;refine ue rfl (pj [(1,.aS (jQ I)),(4,.aS (e3 aV.1)),(5,.int .i64 aV.2),(6,.aS (e3 bL)),(7,.aS (e3 bM.1)),(8,.int .i64 bM.2),(45,.bool (!dL))] (λP bf=>?_) ?_)
   ·(try simp only[gr.down,simprocAttr]);refine k3 (xE I _ vg) (hK:= ?_);simp only[gr.down,simprocAttr];refine k3 (rv bL cE _ jc) rfl rfl (by simp only[gr.down,simprocAttr,rj.down]<;>rfl) rfl (inr (by rfl)) ?_;simp only[gr.down,simprocAttr];refine⟨oi (by kernel_rfl),?_⟩;exact cH trivial
   refine bn h (λm0 h=>?_) λm0 h=>?_
   .exact bo B1 [.bool false]
   .refine bp (B0 _ (inl (aJ ?_)));obtain⟨ee,B3,h⟩:=aU h;refine dJ (cS [(1,.aS (jQ I)),(4,.aS (e3 aV.1)),(5,.int .i64 aV.2),(7,.aS (e3 bM.1)),(8,.int .i64 bM.2),(9,.int .i64 ee.1)] (λP bf=>?_) ?_)
    ·(try simp only[a5.down,simprocAttr]);refine od [⟨.h 6 [0],true,_,_⟩,⟨.int .i64 1,false,_,.hole⟩] (Hz bL.a7 bL.Start bL.bJ 1 _ B3) rfl rfl rfl (by simp only[a5.down,simprocAttr,G2.down]) rfl rfl (inl rfl) ?_;simp only[a5.down,simprocAttr,lZ];exact cH trivial
    refine a1 aF λ_ BU HE _=>?_;rcases g3 h with⟨ma,h⟩|⟨ma,h⟩
    .refine eL ma _ ?_;refine js rfl ?_;exact bo HE [.bool false]
    .obtain⟨fK,HF,h⟩:=aU h;refine dJ (cS [(1,.aS (jQ I)),(4,.aS (e3 aV.1)),(5,.int .i64 aV.2),(7,.aS (e3 bM.1)),(61,.bool ((!fK)||(bM.2 !=aV.2)))] (λP bf=>?_) ?_)
     .rcases Bool.eq_false_or_eq_true (fK)with oI|oI
      ·(try simp only[a5.down,simprocAttr,ma,oI]);refine kG (rv bM.1 aV.1 _ HF) rfl rfl (by simp only[a5.down,simprocAttr,ma,oI,rj.down]<;>rfl) rfl (inr (by rfl)) ?_;simp only[a5.down,simprocAttr,ma,oI];exact cH (ab ma oI)
      ·(try simp only[a5.down,simprocAttr,ma,oI]);refine kG (rv bM.1 aV.1 _ HF) rfl rfl (by simp only[a5.down,simprocAttr,ma,oI,rj.down]<;>rfl) rfl (inr (by rfl)) ?_;simp only[a5.down,simprocAttr,ma,oI];exact cH (ab ma oI)
     refine bn h (λSk h=>?_) λSk h=>?_
     .exact bo HE [.bool false]
     .refine bp (BU _ (inl (aJ ?_)));obtain⟨eU,Sl,h⟩:=aU h;refine dJ (cS [(1,.aS (jQ I)),(4,.aS (e3 aV.1)),(5,.int .i64 aV.2),(7,.aS (.agg [.int .i64 eU.2.1,.aq 1 (eU.2.2.1.map aH),.aq 5 (eU.2.2.2.map cg)])),(10,.int .i64 eU.1)] (λP bf=>?_) ?_)
      ·(try simp only[a5.down,simprocAttr]);refine od [⟨.h 7 [0],true,_,_⟩,⟨.int .i64 1,false,_,.hole⟩] (Hz bM.1.a7 bM.1.Start bM.1.bJ 1 _ Sl) rfl rfl rfl (by simp only[a5.down,simprocAttr,G2.down]) rfl rfl (inl rfl) ?_;simp only[a5.down,simprocAttr,lZ];exact cH trivial
      refine aJ ?_;obtain⟨pB,BW,h⟩:=aU h;refine dJ (cS [(1,.aS (jQ I)),(4,.aS (e3 aV.1)),(5,.int .i64 aV.2),(7,.aS (.agg [.int .i64 eU.2.1,.aq 1 (eU.2.2.1.map aH),.aq 5 (eU.2.2.2.map cg)])),(10,.int .i64 eU.1),(11,.int .i64 pB)] (λP bf=>?_) ?_)
      ·(try simp only[a5.down,simprocAttr]);refine er (HD (b5.mk eU.2.1 eU.2.2.1 eU.2.2.2) 1 _ BW) rfl rfl (by simp only[a5.down,simprocAttr,vd.down]<;>rfl) rfl (inr (by rfl)) ?_;simp only[a5.down,simprocAttr];exact cH trivial
      refine a1 aF λ_ Sm So _=>aJ ?_;refine bn h (λSp h=>?_) λSp h=>?_
      .exact bo So [.bool false]
      .refine bp (Sm _ (inl (a1 aF λ_ Sq Sr _=>aJ ?_)));refine bn h (λSs h=>?_) λSs h=>?_
       .exact bo Sr [.bool false]
       .refine bp (Sq _ (inl ?_));obtain⟨sK,St,h⟩:=aU h;obtain⟨ki,Su,h⟩:=aU h;refine dJ (cS [(4,.aS (e3 aV.1)),(5,.int .i64 aV.2),(7,.aS (.agg [.int .i64 eU.2.1,.aq 1 (eU.2.2.1.map aH),.aq 5 (eU.2.2.2.map cg)])),(10,.int .i64 eU.1),(12,.aS (e3 ki.1)),(13,.int .i64 ki.2)] (λP bf=>?_) ?_)
        ·(try simp only[a5.down,simprocAttr]);refine er (xE I _ St) (hK:= ?_);simp only[a5.down,simprocAttr];refine er (Hr sK _ Su) rfl rfl (by simp only[a5.down,simprocAttr,vd.down]<;>rfl) rfl (inr (by simp only[j.ch,j.gU,xA,Bool.and_self])) ?_;simp only[a5.down,simprocAttr];exact cH trivial
        refine a1 aF λ_ Sv Sw _=>?_;obtain⟨pC,HG,h⟩:=aU h;refine dJ (cS [(7,.aS (.agg [.int .i64 eU.2.1,.aq 1 (eU.2.2.1.map aH),.aq 5 (eU.2.2.2.map cg)])),(10,.int .i64 eU.1),(87,.bool ((!pC)||(ki.2 !=aV.2)))] (λP bf=>?_) ?_)
        .rcases Bool.eq_false_or_eq_true (pC)with oJ|oJ
         ·(try simp only[a5.down,simprocAttr,oJ]);refine er (rv ki.1 aV.1 _ HG) rfl rfl (by simp only[a5.down,simprocAttr,oJ,rj.down]<;>rfl) rfl (inr (by rfl)) ?_;simp only[a5.down,simprocAttr,oJ];exact cH oJ
         ·(try simp only[a5.down,simprocAttr,oJ]);refine er (rv ki.1 aV.1 _ HG) rfl rfl (by simp only[a5.down,simprocAttr,oJ,rj.down]<;>rfl) rfl (inr (by rfl)) ?_;simp only[a5.down,simprocAttr,oJ];exact cH oJ
        refine bn h (λSy h=>?_) λSy h=>?_
        .exact bo Sw [.bool false]
        .refine bp (Sv _ (inl (aJ ?_)));obtain⟨rh,Sz,h⟩:=aU h;refine dJ (cS [(10,.int .i64 eU.1),(11,.int .i64 rh)] (λP bf=>?_) ?_)
         ·(try simp only[a5.down,simprocAttr]);refine er (HD (b5.mk eU.2.1 eU.2.2.1 eU.2.2.2) 1 _ Sz) rfl rfl (by simp only[a5.down,simprocAttr,vd.down]<;>rfl) rfl (inr (by rfl)) ?_;simp only[a5.down,simprocAttr];exact cH trivial
         refine a1 aF λ_ SA SB _=>aJ ?_;refine bn h (λSC h=>?_) λSC h=>?_
         .exact bo SB [.bool false]
         .refine bp (SA _ (inl (a1 aF λ_ SD SE _=>aJ ?_)));refine bn h (λSF h=>?_) λSF h=>?_
          .exact bo SE [.bool false]
          .exact bp (SD _ (inl (bo aF [.bool true])))
end Go.Proofs.Ytpdplcdnpaoceaa
