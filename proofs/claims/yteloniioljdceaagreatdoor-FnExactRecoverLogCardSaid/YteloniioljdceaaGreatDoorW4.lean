/- Part of a proof that a law returns true for every input. No condition. -/
import Derived.Test.YteloniioljdceaaGreatDoorSl
namespace Go.Proofs.YteloniioljdceaaGreatDoor
open Option Go.IntKind Nat Or
open Go Go.ca Go.lh
set_option maxRecDepth 100000
set_option maxHeartbeats 1200000
set_option linter.unusedSimpArgs false
set_option linter.unusedVariables false
theorem cN (fx:RG) (cT:List ResultVar) {f:FuncId} {fn:Func} {ins outs:RL} {r:I} (bq:aF.P.funcs[f]? =some fn) (c_:aK)
 (xH:∀Q:Exit->aj->Prop,(∀s,dY (ca.Ends aF fx cT r outs) s->Q .ret s)->(∀s,dY (ca.Ends aF fx cT r outs) s->Q .normal s)->bd aF c_ Q (au (num 0 ins))) (R:el ⟨fn.ntmps,fx⟩ (fn.body.getD .skip)=some c_.strip:=by kernel_rfl) (J:fn.body=some (fn.body.getD .skip):=by rfl) (h7:(fn.name== "runtime.NumGoroutine")=false:=by rfl) (aT:ins.length<=fn.ntmps:=by exact le_of_ble_eq_true rfl) (eC:fn.results.toList=cT:=by rfl) (af:c_.plain=true:=by kernel_rfl):bf aF f ins r outs:=
 bf.DN Ls cT (num 0 ins) bq J h7 R aT eC rfl xH af
theorem gk {P:Nat->Prop} (s:∀m,P m->P (m+1)) (z:P 0:=by intros;rename_i h;cases(show none=some _ from h)):∀n,P n:=λn=>Nat.rec z s n
def y2:=PLift.up (ai @Lt (ai @Lu (ai @Lv (ai @Lw (ai @Lx (ai @Ly (ai @Lz (ai @LA (ai @eN.eq_1 (ai @dU.eq_1 (ai @bS.eq_1 @cL.eq_1)))))))))))
def br:=PLift.up (ai K9.down y2.down)
def kK:=PLift.up (ai K_.down y2.down)
def hq:=PLift.up (ai La.down y2.down)
theorem d_ {F A:Prop} (f:F) (h:F->A:=by intro aL;(try simp only[hq.down,simprocAttr,aL,cO,dS,dT,cQ,I.ee,I.shares]at bX⊢);exact bX):A:=h f
theorem wr {Q l ros k} (bH:RK) (ag:Q .normal (au bH)) (h:∀P:RK->Prop,P bH->cm aF (au l) ros none (λ_ s=>P (eO k s)):=by
 intro P bX;simp only[br.down,simprocAttr,cO,dS,dT,cQ];(try simp only[hq.down,simprocAttr,cO,dS,dT,cQ]at bX⊢);exact bX):bd aF (.dX ros (some k)) Q (au l):=
 qe (dR bH (h) ag)
theorem gl {Q l ros k} {bH:RK} (ag:Q .normal (au bH)) (h:∀P:RK->Prop,P bH->cm aF (au l) ros none (λ_ s=>P (eO k s)):=by
 intro P bX;simp only[br.down,simprocAttr,cO,dS,dT,cQ];(try simp only[hq.down,simprocAttr,cO,dS,dT,cQ]at bX⊢);exact bX):bd aF (.dX ros (some k)) Q (au l):=
 qe (dR bH (h) ag)
theorem Nj {Q l ros k g ds r} (ok:bf aF g ds r []) (bH:RK) (ag:Q .normal (au bH)) (h:bf aF g ds r []->∀P:RK->Prop,P bH->cm aF (au l) ros none (λ_ s=>P (eO k s)):=by
 intro ie P bX;(try simp only[br.down,simprocAttr,cO,dS,dT,cQ]);(first|refine e2 ie rfl rfl rfl rfl (inl (by rfl)) ?_|refine ho ie rfl rfl rfl rfl (inl (by rfl)) ?_);simp only[br.down,simprocAttr,cO,dS,dT,cQ];(try simp only[hq.down,simprocAttr,cO,dS,dT,cQ]at bX⊢);exact bX):bd aF (.dX ros (some k)) Q (au l):=
 qe (dR bH (h ok) ag)
theorem Ro {Q l ros k g ds r} {F:Prop} (aL:F) (ok:bf aF g ds r []) (bH:RK) (ag:Q .normal (au bH)) (h:bf aF g ds r []->F->∀P:RK->Prop,P bH->cm aF (au l) ros none (λ_ s=>P (eO k s)):=by
 intro ie aL P bX;(try simp only[br.down,simprocAttr,aL,cO,dS,dT,cQ]);(first|refine e2 ie rfl rfl rfl rfl (inl (by rfl)) ?_|refine ho ie rfl rfl rfl rfl (inl (by rfl)) ?_);simp only[br.down,simprocAttr,aL,cO,dS,dT,cQ];(try simp only[hq.down,simprocAttr,aL,cO,dS,dT,cQ]at bX⊢);exact bX):bd aF (.dX ros (some k)) Q (au l):=
 qe (dR bH (h ok aL) ag)
theorem mg {Q l ros k} {F:Prop} (aL:F) (bH:RK) (ag:Q .normal (au bH)) (h:F->∀P:RK->Prop,P bH->cm aF (au l) ros none (λ_ s=>P (eO k s)):=by
 intro aL P bX;simp only[br.down,simprocAttr,aL,cO,dS,dT,cQ];(try simp only[hq.down,simprocAttr,aL,cO,dS,dT,cQ]at bX⊢);exact bX):bd aF (.dX ros (some k)) Q (au l):=
 qe (dR bH (h aL) ag)
theorem ws {Q l ros k b} (bH:RK) (ag:bd aF b Q (au bH)) (h:∀P:RK->Prop,P bH->cm aF (au l) ros none (λ_ s=>P (eO k s)):=by
 intro P bX;simp only[br.down,simprocAttr,cO,dS,dT,cQ];(try simp only[hq.down,simprocAttr,cO,dS,dT,cQ]at bX⊢);exact bX):bd aF (.seq (.dX ros (some k)) b) Q (au l):=
 eB (dR bH (h) ag)
theorem aW {Q l ros k b} {bH:RK} (ag:bd aF b Q (au bH)) (h:∀P:RK->Prop,P bH->cm aF (au l) ros none (λ_ s=>P (eO k s)):=by
 intro P bX;simp only[br.down,simprocAttr,cO,dS,dT,cQ];(try simp only[hq.down,simprocAttr,cO,dS,dT,cQ]at bX⊢);exact bX):bd aF (.seq (.dX ros (some k)) b) Q (au l):=
 eB (dR bH (h) ag)
theorem cx {Q l ros k fx cT r} {bH:RK} (hb:∀s,dY (ca.Ends aF fx cT r []) s->Q .ret s) (ds:RL) (h:∀P:RK->Prop,P bH->cm aF (au l) ros none (λ_ s=>P (eO k s)):=by
 intro P bX;simp only[br.down,simprocAttr,cO,dS,dT,cQ];(try simp only[hq.down,simprocAttr,cO,dS,dT,cQ]at bX⊢);exact bX) (ab:r=uz ds:=by cases jc (by assumption);rfl) (U:cT.map (k9 aF (au bH))=ds.map some:=by rfl) (ay:(cT.map fW).Nodup:=by decide):bd aF (.seq (.dX ros (some k)) .ret) Q (au l):=
 ws bH (cR hb ds ab U ay) h
theorem e7 {Q l ros k b g ds r} (ok:bf aF g ds r []) (bH:RK) (ag:bd aF b Q (au bH)) (h:bf aF g ds r []->∀P:RK->Prop,P bH->cm aF (au l) ros none (λ_ s=>P (eO k s)):=by
 intro ie P bX;(try simp only[br.down,simprocAttr,cO,dS,dT,cQ]);(first|refine e2 ie rfl rfl rfl rfl (inl (by rfl)) ?_|refine ho ie rfl rfl rfl rfl (inl (by rfl)) ?_);simp only[br.down,simprocAttr,cO,dS,dT,cQ];(try simp only[hq.down,simprocAttr,cO,dS,dT,cQ]at bX⊢);exact bX):bd aF (.seq (.dX ros (some k)) b) Q (au l):=
 eB (dR bH (h ok) ag)
theorem fA {Q l ros k b g ds r} {F:Prop} (aL:F) (ok:bf aF g ds r []) (bH:RK) (ag:bd aF b Q (au bH)) (h:bf aF g ds r []->F->∀P:RK->Prop,P bH->cm aF (au l) ros none (λ_ s=>P (eO k s)):=by
 intro ie aL P bX;(try simp only[br.down,simprocAttr,aL,cO,dS,dT,cQ]);(first|refine e2 ie rfl rfl rfl rfl (inl (by rfl)) ?_|refine ho ie rfl rfl rfl rfl (inl (by rfl)) ?_);simp only[br.down,simprocAttr,aL,cO,dS,dT,cQ];(try simp only[hq.down,simprocAttr,aL,cO,dS,dT,cQ]at bX⊢);exact bX):bd aF (.seq (.dX ros (some k)) b) Q (au l):=
 eB (dR bH (h ok aL) ag)
theorem Nk {Q l ros k b dn g ds r} (ok:bf aF g ds r []) (bH:RK) (ag:bd aF b Q (au bH)) (h:bf aF g ds r []->∀P:RK->Prop,P bH->cm aF (au l) ros (some []) (λacc s=>h8 (mJ dn) 0 [] (acc.getD []).reverse=true/\P (eO k s)):=by
 intro ie P bX;(try simp only[kK.down,simprocAttr,cO,dS,dT,cQ]);(first|refine qf ie rfl rfl rfl rfl (inl (by rfl)) ?_|refine C4 ie rfl rfl rfl rfl (inl (by rfl)) ?_);simp only[kK.down,simprocAttr,cO,dS,dT,cQ];refine⟨sk (by kernel_rfl),?_⟩;(try simp only[hq.down,simprocAttr,cO,dS,dT,cQ]at bX⊢);exact bX) (hl:dn.length=ros.length:=by rfl):bd aF (.seq (.hj ros dn (some k)) b) Q (au l):=
 sc hl (sf bH (h ok) ag)
theorem Es {Q l ros k b dn g ds r} {F:Prop} (aL:F) (ok:bf aF g ds r []) (bH:RK) (ag:bd aF b Q (au bH)) (h:bf aF g ds r []->F->∀P:RK->Prop,P bH->cm aF (au l) ros (some []) (λacc s=>h8 (mJ dn) 0 [] (acc.getD []).reverse=true/\P (eO k s)):=by
 intro ie aL P bX;(try simp only[kK.down,simprocAttr,aL,cO,dS,dT,cQ]);(first|refine qf ie rfl rfl rfl rfl (inl (by rfl)) ?_|refine C4 ie rfl rfl rfl rfl (inl (by rfl)) ?_);simp only[kK.down,simprocAttr,aL,cO,dS,dT,cQ];refine⟨sk (by kernel_rfl),?_⟩;(try simp only[hq.down,simprocAttr,aL,cO,dS,dT,cQ]at bX⊢);exact bX) (hl:dn.length=ros.length:=by rfl):bd aF (.seq (.hj ros dn (some k)) b) Q (au l):=
 sc hl (sf bH (h ok aL) ag)
theorem Et {Q l ros k b dn} {F:Prop} (aL:F) (bH:RK) (ag:bd aF b Q (au bH)) (h:F->∀P:RK->Prop,P bH->cm aF (au l) ros (some []) (λacc s=>h8 (mJ dn) 0 [] (acc.getD []).reverse=true/\P (eO k s)):=by
 intro aL P bX;simp only[kK.down,simprocAttr,aL,cO,dS,dT,cQ];refine⟨sk (by kernel_rfl),?_⟩;(try simp only[hq.down,simprocAttr,aL,cO,dS,dT,cQ]at bX⊢);exact bX) (hl:dn.length=ros.length:=by rfl):bd aF (.seq (.hj ros dn (some k)) b) Q (au l):=
 sc hl (sf bH (h aL) ag)
theorem cX {Q l ros k b} {F:Prop} (aL:F) (bH:RK) (ag:bd aF b Q (au bH)) (h:F->∀P:RK->Prop,P bH->cm aF (au l) ros none (λ_ s=>P (eO k s)):=by
 intro aL P bX;simp only[br.down,simprocAttr,aL,cO,dS,dT,cQ];(try simp only[hq.down,simprocAttr,aL,cO,dS,dT,cQ]at bX⊢);exact bX):bd aF (.seq (.dX ros (some k)) b) Q (au l):=
 eB (dR bH (h aL) ag)
theorem Eu {Q l ros k b} {F:Prop} (aL:F) (bH:RK) (ag:bd aF b Q (au bH)) (h:F->∀P:RK->Prop,P bH->cm aF (au l) ros none (λ_ s=>P (eO k s)):=by
 intro aL P bX;simp only[br.down,simprocAttr,aL,cO,dS,dT,cQ,-Int.reduceNatCast'];(try simp only[hq.down,simprocAttr,aL,cO,dS,dT,cQ,-Int.reduceNatCast']at bX⊢);exact bX):bd aF (.seq (.dX ros (some k)) b) Q (au l):=
 eB (dR bH (h aL) ag)
theorem nc {Q l ros k b} (e:Bool) (bH:RK) (ag:bd aF b Q (au bH)) (h:∀c,e=c->∀P:RK->Prop,P bH->cm aF (au l) ros none (λ_ s=>P (eO k s)):=by
 intro c ae P bX;cases c;all_goals
  (try simp only[List.length_replicate]at ae);simp only[br.down,simprocAttr,ae,cO,dS,dT,cQ];(try simp only[hq.down,simprocAttr,ae,cO,dS,dT,cQ]at bX⊢);exact bX):bd aF (.seq (.dX ros (some k)) b) Q (au l):=
 eB (dR bH (h e rfl) ag)
theorem Nl {Q l ros k b} (e:Bool) {F:Prop} (aL:F) (bH:RK) (ag:bd aF b Q (au bH)) (h:F->∀c,e=c->∀P:RK->Prop,P bH->cm aF (au l) ros none (λ_ s=>P (eO k s)):=by
 intro aL c ae P bX;cases c;all_goals
  (try simp only[List.length_replicate]at ae);simp only[br.down,simprocAttr,ae,aL,cO,dS,dT,cQ];(try simp only[hq.down,simprocAttr,ae,aL,cO,dS,dT,cQ]at bX⊢);exact bX):bd aF (.seq (.dX ros (some k)) b) Q (au l):=
 eB (dR bH (h aL e rfl) ag)
def fB:=PLift.up (ai @List.length_append.{0} (ai @List.length_cons.{0} (ai @List.length_nil.{0} (ai @List.length_map.{0,0} @List.length_replicate.{0}))))
def vw:=PLift.up (ai @nT (ai @n1 (ai @n2 (ai @kz (ai (@nU _ bS bS (λ_=>vg _)) (@nU _ bS bS (λ_=>vg _)))))))
def Ev:=PLift.up (ai (λs y q=>(Dr aF s 128 y q).1) (λs y q=>(Dr aF s 128 y q).2.1))
def Ew:=PLift.up (ai @nT (ai @n1 (ai @n2 (ai @kz (@nU _ cL cL (λ_=>DY _))))))
def Ex:=PLift.up (ai @nT (ai @n1 (ai @n2 (ai @kz (@nU _ bS bS (λ_=>vg _))))))
theorem Ey (a0 aw r) (h:ss a0 aw=some r):bf aF 101 [.str a0,.int .u8 (aw.toNat:Int)] (.aE 1 (r.map cL)) []:=by
 refine cN [0,1] [.tmp 4] Tryz.func101 LK λcy aO cJ=>aW ?_;refine cX (show∀s,dH aF s 128 0 []=some (.aE 1 [],s)from λs=>by kernel_rfl) _ ?_;refine aW ?_;refine bo aO λ_ kL dy _=>aW ?_;refine dd dy λy3 _ iq cA _=>?_;show bd aF (.loop ?y4) _ _;have Nn:∀n ia l3 hJ,o9 a0 aw n ia l3 hJ=some r->e1 aF ?y4 y3 (au [(0,.str a0),(1,.int .u8 (aw.toNat:Int)),(5,.aE 1 (ia.map cL)),(6,.int .i64 l3),(7,.int .i64 hJ)]):=by
  refine gk λm10 Np ia l3 hJ h=>gi iq λNq lq kV c7=>bo kV λ_ sZ _ e4=>aW ?_;refine bR h (λig h=>?_) λig h=>?_
  .refine bV (sZ _ (inl ?_));show bd aF (.seq _ ?Nr) _ _;have Ez:∀qn qo qp,uQ (o9 a0 aw m10) a0 aw qn qo qp=some r->bd aF ?Nr Nq (au [(0,.str a0),(1,.int .u8 (aw.toNat:Int)),(5,.aE 1 (qn.map cL)),(6,.int .i64 qo),(7,.int .i64 qp)]):=by
    intro qn qo qp h;refine gl ?_;exact lq _ (inr ⟨_,cU rfl,Np qn qo (i64.wrap (qp+1)) h⟩)
   refine bo kV λ_ jA kM _=>dd kM λ_ lr _ _ _=>?_;obtain⟨aA,hr,h⟩:=aU h;refine cX hr _ ?_;refine bR h (λnd h=>?_) λnd h=>?_
   .obtain⟨aM,e8,h⟩:=aU h;obtain⟨EA,j1,h⟩:=aU h;(try simp only[fB.down,Nat.zero_add,Nat.add_zero,reduceAdd]at j1);refine cX (ai e8 (ai (show∀s,dH aF s 128 1 [(0,.str aM)]=some (.aE 1 [.str aM],s)from λs=>by kernel_rfl) (ai (@nX aF 128 128 9 rfl rfl) (ai @nY (ai @nZ (ai @n0 (ai @nW (ai @all_nil (ai j1 (@qh _ cL 1 λ_=>rfl)))))))))) [(0,.str a0),(1,.int .u8 (aw.toNat:Int)),(5,.aE 1 ((ia++[aM]).map cL)),(7,.int .i64 hJ)] ?_;refine wr [(0,.str a0),(1,.int .u8 (aw.toNat:Int)),(5,.aE 1 ((ia++[aM]).map cL)),(6,.int .i64 (i64.wrap (hJ+1))),(7,.int .i64 hJ)] ?_;exact lr _ (jA _ (inr ⟨_,cU rfl,Ez (ia++[aM]) (i64.wrap (hJ+1)) hJ h⟩))
   .exact bV (lr _ (jA _ (inr ⟨_,cU rfl,Ez ia l3 hJ h⟩)))
  .refine fN (e4 0 _ (c7 0 _ (cA _ (kL _ (inl ?_)))));obtain⟨aY,hP,h⟩:=aU h;obtain⟨Rp,oe,h⟩:=aU h;(try simp only[fB.down,Nat.zero_add,Nat.add_zero,reduceAdd]at oe);refine cX (ai hP (ai (show∀s,dH aF s 128 1 [(0,.str aY)]=some (.aE 1 [.str aY],s)from λs=>by kernel_rfl) (ai (@nX aF 128 128 9 rfl rfl) (ai @nY (ai @nZ (ai @n0 (ai @nW (ai @all_nil (ai oe (@qh _ cL 1 λ_=>rfl)))))))))) [(4,.aE 1 ((ia++[aY]).map cL))] ?_;exact cR aO [.aE 1 ((ia++[aY]).map cL)]
 exact gr h λn h=>Nn n [] 0 0 h
theorem y5 (a0 r) (h:qq a0=some r):bf aF 135 [.int .u8 (a0.toNat:Int)] (.bool r) []:=by
 refine cN [0] [.tmp 2] Tryz.func135 LL λcy aO cJ=>aW ?_;refine nc (decide (48<=(a0.toNat:Int))) [(2,.bool ((decide (48<=(a0.toNat:Int)))&&(decide ((a0.toNat:Int)<=57))))] ?_;exact cR aO [.bool ((decide (48<=(a0.toNat:Int)))&&(decide ((a0.toNat:Int)<=57)))]
theorem vx (a0 r) (h:o_ a0=some r):bf aF 102 [.str a0] (.tuple [.int .i64 r.1,.bool r.2]) []:=by
 refine cN [0] [.tmp 2,.tmp 3] Tryz.func102 LM λcy aO cJ=>aW ?_;refine aW ?_;show bd aF (.seq _ ?y4) _ _;have y6:∀gu,qs a0 gu=some r->bd aF ?y4 cy (au [(0,.str a0),(4,.int .i64 gu)]):=by
  intro gu h;refine bo aO λ_ kL dy bu=>?_;rcases fP h with⟨cA,h⟩|⟨cA,h⟩
  .refine cX cA _ ?_;refine jS rfl ?_;exact cx dy [.int .i64 0,.bool false]
  .rcases fP h with⟨cF,h⟩|⟨cF,h⟩
   .refine cX (ai cA cF) _ ?_;refine jS rfl ?_;exact cx dy [.int .i64 0,.bool false]
   .obtain⟨aA,gd,h⟩:=aU h;rcases fP h with⟨y7,h⟩|⟨y7,h⟩
    .refine cX (ai cA (ai cF (ai gd y7))) _ ?_;refine bR h (λiK h=>?_) λiK h=>?_
     .exact cx dy [.int .i64 0,.bool false]
     .refine bV (kL _ (inl (aW ?_)));refine bo aO λ_ jB iL _=>aW ?_;refine dd iL λNs _ y8 Nt _=>?_;show bd aF (.loop ?c24) _ _;have y9:∀n hp i_,mQ a0 gu n hp i_=some r->e1 aF ?c24 Ns (au [(0,.str a0),(4,.int .i64 gu),(5,.int .i64 hp),(6,.int .i64 i_)]):=by
       refine gk λm24 y_ hp i_ h=>gi y8 λ_ za vy Nu=>bo vy λ_ nf _ Nv=>aW ?_;refine bR h (λij h=>?_) λij h=>?_
       .refine bV (nf _ (inl (bo vy λ_ lu j2 _=>dd j2 λ_ s0 Nw _ _=>bo Nw λ_ qV zb _=>?_)));obtain⟨aM,EB,h⟩:=aU h;obtain⟨aY,qW,h⟩:=aU h;refine fA EB (y5 aM _ qW) _ ?_;refine bR h (λng h=>?_) λng h=>?_
        .exact cx zb [.int .i64 0,.bool false]
        .refine bV (qV _ (inl (mg (ai EB (@qg aF 5 2 .i64 rfl rfl)) _ ?_)));refine s0 _ (lu _ (inl (gl ?_)));exact za _ (inr ⟨_,cU rfl,y_ (i64.wrap ((i64.wrap (10*hp))+(i64.wrap (u8.wrap ((aM.toNat:Int)-48))))) (i64.wrap (i_+1)) h⟩)
       .refine fN (Nv 0 _ (Nu 0 _ (Nt _ (jB _ (inl ?_)))));show bd aF (.seq _ ?c49) _ _;have s3:∀lj,su lj=some r->bd aF ?c49 cy (au [(5,.int .i64 lj)]):=by
         intro lj h;exact cx aO [.int .i64 lj,.bool true]
        refine bo aO λ_ vz _ _=>aW ?_;refine bR h (λNx h=>?_) λNx h=>?_
        .refine gl ?_;exact vz _ (inr ⟨_,cU rfl,s3 (i64.wrap (0-hp)) h⟩)
        .exact bV (vz _ (inr ⟨_,cU rfl,s3 hp h⟩))
      exact gr h λn h=>y9 n 0 gu h
    .refine cX (ai cA (ai cF (ai gd y7))) _ ?_;refine sd rfl ?_;refine bV (kL _ (inl (aW ?_)));refine bo aO λ_ Ny Nz _=>aW ?_;refine dd Nz λNA _ NB NC _=>?_;show bd aF (.loop ?c24) _ _;have y9:∀n hp i_,mQ a0 gu n hp i_=some r->e1 aF ?c24 NA (au [(0,.str a0),(4,.int .i64 gu),(5,.int .i64 hp),(6,.int .i64 i_)]):=by
      refine gk λm24 y_ hp i_ h=>gi NB λ_ zc vA ND=>bo vA λ_ NF _ NG=>aW ?_;refine bR h (λNH h=>?_) λNH h=>?_
      .refine bV (NF _ (inl (bo vA λ_ s4 zd _=>dd zd λ_ NI NJ _ _=>bo NJ λ_ NK NL _=>?_)));obtain⟨bu,EC,h⟩:=aU h;obtain⟨bY,NM,h⟩:=aU h;refine fA EC (y5 bu _ NM) _ ?_;refine bR h (λNN h=>?_) λNN h=>?_
       .exact cx NL [.int .i64 0,.bool false]
       .refine bV (NK _ (inl (mg (ai EC (@qg aF 5 2 .i64 rfl rfl)) _ ?_)));refine NI _ (s4 _ (inl (gl ?_)));exact zc _ (inr ⟨_,cU rfl,y_ (i64.wrap ((i64.wrap (10*hp))+(i64.wrap (u8.wrap ((bu.toNat:Int)-48))))) (i64.wrap (i_+1)) h⟩)
      .refine fN (NG 0 _ (ND 0 _ (NC _ (Ny _ (inl ?_)))));show bd aF (.seq _ ?c49) _ _;have s3:∀lj,su lj=some r->bd aF ?c49 cy (au [(5,.int .i64 lj)]):=by
        intro lj h;exact cx aO [.int .i64 lj,.bool true]
       refine bo aO λ_ ED _ _=>aW ?_;refine bR h (λNO h=>?_) λNO h=>?_
       .refine gl ?_;exact ED _ (inr ⟨_,cU rfl,s3 (i64.wrap (0-hp)) h⟩)
       .exact bV (ED _ (inr ⟨_,cU rfl,s3 hp h⟩))
     exact gr h λn h=>y9 n 0 gu h
 refine bo aO λ_ pv _ aY=>?_;rcases fP h with⟨ze,h⟩|⟨ze,h⟩
 .obtain⟨dK,NP,h⟩:=aU h;refine cX (ai ze NP) _ ?_;refine bR h (λNQ h=>?_) λNQ h=>?_
  .refine gl ?_;exact pv _ (inr ⟨_,cU rfl,y6 1 h⟩)
  .exact bV (pv _ (inr ⟨_,cU rfl,y6 0 h⟩))
 .refine cX ze _ ?_;refine sd rfl ?_;exact bV (pv _ (inr ⟨_,cU rfl,y6 0 h⟩))
theorem mh (a0 aw a2 r) (h:pa a0 aw a2=some r):bf aF 43 [.int .i64 a0,.int .i64 aw,.int .i64 a2] (.bool r) []:=by
 refine cN [0,1,2] [.tmp 6] Tryz.func43 LN λcy aO cJ=>aW ?_;refine nc (decide (aw<=a0)) [(6,.bool ((decide (aw<=a0))&&(decide (a0<=a2))))] ?_;exact cR aO [.bool ((decide (aw<=a0))&&(decide (a0<=a2)))]
theorem NR (a0 r) (h:qt a0=some r):bf aF 163 [.str a0] (.int .i64 r) []:=by
 refine cN [0] [.tmp 2] Tryz.func163 LO λcy aO cJ=>aW ?_;refine bo aO λ_ dv b8 _=>aW ?_;refine dd b8 λlv _ dy b3 _=>?_;show bd aF (.loop ?iX) _ _;have lx:∀n kB,n8 a0 n kB=some r->e1 aF ?iX lv (au [(0,.str a0),(3,.int .i64 kB)]):=by
  refine gk λ_ kN kB h=>gi dy λ_ hQ eZ bY=>bo eZ λ_ hs _ dK=>aW ?_;refine bR h (λcF h=>?_) λcF h=>?_
  .refine bV (hs _ (inl (bo eZ λ_ gv fO _=>dd fO λ_ fi fY _ _=>?_)));obtain⟨aA,fT,h⟩:=aU h;refine cX fT _ ?_;refine bR h (λnh h=>?_) λnh h=>?_
   .exact cx fY [.int .i64 kB]
   .refine bV (fi _ (gv _ (inl (gl ?_))));exact hQ _ (inr ⟨_,cU rfl,kN (i64.wrap (kB+1)) h⟩)
  .exact fN (dK 0 _ (bY 0 _ (b3 _ (dv _ (inl (cx aO [.int .i64 (a0.length:Int)]))))))
 exact gr h λn h=>lx n 0 h
theorem zf (a0 r) (h:sv a0=some r):bf aF 143 [.int .u8 (a0.toNat:Int)] (.bool r) []:=by
 refine cN [0] [.tmp 2] Tryz.func143 c143 λcy aO cJ=>aW ?_;refine nc (decide (97<=(a0.toNat:Int))) [(2,.bool ((decide (97<=(a0.toNat:Int)))&&(decide ((a0.toNat:Int)<=122))))] ?_;exact cR aO [.bool ((decide (97<=(a0.toNat:Int)))&&(decide ((a0.toNat:Int)<=122)))]
theorem zg (a0 r) (h:sx a0=some r):bf aF 114 [.str a0] (.bool r) []:=by
 refine cN [0] [.tmp 2] Tryz.func114 LP λcy aO cJ=>aW ?_;refine bo aO λ_ dv b8 aM=>?_;rcases fP h with⟨b3,h⟩|⟨b3,h⟩
 .refine cX b3 _ ?_;refine jS rfl ?_;exact cx b8 [.bool false]
 .rcases fP h with⟨cA,h⟩|⟨cA,h⟩
  .refine cX (ai b3 cA) _ ?_;refine jS rfl ?_;exact cx b8 [.bool false]
  .obtain⟨aA,eH,h⟩:=aU h;obtain⟨aM,ec,h⟩:=aU h;refine fA (ai b3 (ai cA eH)) (zf aA _ ec) _ ?_;refine bR h (λig h=>?_) λig h=>?_
   .exact cx b8 [.bool false]
   .refine bV (dv _ (inl (bo aO λ_ zh NS _=>aW ?_)));refine dd NS λzi _ ly j3 _=>?_;show bd aF (.loop ?zj) _ _;have s5:∀n ff,sw a0 n ff=some r->e1 aF ?zj zi (au [(0,.str a0),(3,.int .i64 ff)]):=by
     refine gk λ_ qX ff h=>gi ly λ_ jB iL s6=>bo iL λ_ kO _ s7=>aW ?_;refine bR h (λpw h=>?_) λpw h=>?_
     .refine bV (kO _ (inl (bo iL λ_ nf og _=>dd og λ_ EE NT _ _=>?_)));obtain⟨aY,hP,h⟩:=aU h;obtain⟨bu,oe,h⟩:=aU h;rcases fP h with⟨jC,h⟩|⟨jC,h⟩
      .obtain⟨bY,NU,h⟩:=aU h;refine eB (dR [(0,.str a0),(3,.int .i64 ff),(34,.bool (!bY))] (λP bX=>?_) ?_)
       ·(try simp only[br.down,simprocAttr,hP,(lZ jC)]);refine e2 (zf aY _ oe) (hK:= ?_);simp only[br.down,simprocAttr,hP,(lZ jC)];refine ho (y5 aY _ NU) (hK:= ?_);simp only[br.down,simprocAttr,hP,(lZ jC)];exact d_ (ai hP (lZ jC))
       refine bR h (λNV h=>?_) λNV h=>?_
       .exact cx NT [.bool false]
       .refine bV (EE _ (nf _ (inl (gl ?_))));exact jB _ (inr ⟨_,cU rfl,qX (i64.wrap (ff+1)) h⟩)
      .refine fA (ai hP (gh jC)) (zf aY _ oe) _ ?_;refine sd rfl ?_;refine bV (EE _ (nf _ (inl (gl ?_))));exact jB _ (inr ⟨_,cU rfl,qX (i64.wrap (ff+1)) h⟩)
     .exact fN (s7 0 _ (s6 0 _ (j3 _ (zh _ (inl (cx aO [.bool true]))))))
    exact gr h λn h=>s5 n 0 h
theorem EF (a0 r) (h:uR a0=some r):bf aF 75 [.str a0] (.bool r) []:=by
 refine cN [0] [.tmp 2] Tryz.func75 c75 λcy aO cJ=>aW ?_;obtain⟨aA,aJ,h⟩:=aU h;refine eB (dR [(2,.bool (aA&&(!(a0==([116,97,117]:RD)))))] (λP bX=>?_) ?_)
 .rcases Bool.eq_false_or_eq_true (aA)with hI|hI
  ·(try simp only[br.down,simprocAttr,hI]);refine e2 (zg a0 _ aJ) (hK:= ?_);simp only[br.down,simprocAttr,hI];exact d_ hI
  ·(try simp only[br.down,simprocAttr,hI]);refine e2 (zg a0 _ aJ) (hK:= ?_);simp only[br.down,simprocAttr,hI];exact d_ hI
 exact cR aO [.bool (aA&&(!(a0==([116,97,117]:RD))))]
theorem NW (a0 r) (h:sy a0=some r):bf aF 149 [.str a0] (.tuple [.aE 1 (r.1.map dU),.bool r.2]) []:=by
 refine cN [0] [.tmp 2,.tmp 3] Tryz.func149 LQ λcy aO cJ=>aW ?_;obtain⟨aA,aJ,h⟩:=aU h;refine e7 (NR a0 _ aJ) _ ?_;refine bo aO λ_ kL dy bu=>aW ?_;refine bR h (λcA h=>?_) λcA h=>?_
 .obtain⟨aM,eH,h⟩:=aU h;refine fA (show∀s,dH aF s 22 0 []=some (.aE 1 [],s)from λs=>by kernel_rfl) (zg a0 _ eH) _ ?_;exact cR dy [.aE 1 [],.bool aM]
 .refine bV (kL _ (inl (bo aO λ_ gv fO fy=>?_)));obtain⟨aY,hD,h⟩:=aU h;obtain⟨bu,fT,h⟩:=aU h;rcases fP h with⟨nh,h⟩|⟨nh,h⟩
  .refine fA (ai hD (lZ nh)) (EF aY _ fT) _ ?_;refine jS rfl ?_;refine aW ?_;exact ld (fO _ (inr ⟨[(2,.aE 1 []),(3,.bool false)],kv [] rfl (ky (t:=2) (d:=.bz) rfl rfl (.h5 _) (by decide) (h_ rfl (kx))),l0 [.aE 1 [],.bool false]⟩))
  .obtain⟨bY,hr,h⟩:=aU h;refine fA (ai hD (ai (gh nh) hr)) (EF aY _ fT) _ ?_;refine bR h (λnd h=>?_) λnd h=>?_
   .refine aW ?_;exact ld (fO _ (inr ⟨[(2,.aE 1 []),(3,.bool false)],kv [] rfl (ky (t:=2) (d:=.bz) rfl rfl (.h5 _) (by decide) (h_ rfl (kx))),l0 [.aE 1 [],.bool false]⟩))
   .refine bV (gv _ (inl ?_));obtain⟨dK,j1,h⟩:=aU h;obtain⟨c7,qY,h⟩:=aU h;refine fA j1 (Ey dK (44:UInt8) _ qY) _ ?_;refine cX (show∀s,dH aF s 22 0 []=some (.aE 1 [],s)from λs=>by kernel_rfl) _ ?_;refine bo aO λ_ lu j2 _=>aW ?_;refine dd j2 λNX _ zb jC _=>?_;show bd aF (.loop ?c28) _ _;have NY:∀n ja kC,pb c7 n ja kC=some r->e1 aF ?c28 NX (au [(5,.aE 1 (c7.map cL)),(6,.aE 1 (ja.map dU)),(7,.int .i64 kC)]):=by
     refine gk λ_ NZ ja kC h=>gi zb λ_ N0 EG N1=>bo EG λ_ mi _ zk=>aW ?_;refine bR h (λng h=>?_) λng h=>?_
     .refine bV (mi _ (inl (bo EG λ_ s8 vB _=>dd vB λ_ zl N2 _ _=>?_)));obtain⟨e4,EH,h⟩:=aU h;obtain⟨fy,vC,h⟩:=aU h;refine fA (ai EH (gZ EH)) (vx e4 _ vC) _ ?_;refine bo N2 λ_ zm EI _=>?_;rcases fP h with⟨s9,h⟩|⟨s9,h⟩
      .refine cX (lZ s9) _ ?_;refine jS rfl ?_;refine aW ?_;exact ld (EI _ (inr ⟨[(2,.aE 1 []),(3,.bool false)],kv [] rfl (ky (t:=2) (d:=.bz) rfl rfl (.h5 _) (by decide) (h_ rfl (kx))),l0 [.aE 1 [],.bool false]⟩))
      .obtain⟨gH,N3,h⟩:=aU h;refine fA (gh s9) (mh fy.1 0 63 _ N3) _ ?_;refine bR h (λzn h=>?_) λzn h=>?_
       .refine aW ?_;exact ld (EI _ (inr ⟨[(2,.aE 1 []),(3,.bool false)],kv [] rfl (ky (t:=2) (d:=.bz) rfl rfl (.h5 _) (by decide) (h_ rfl (kx))),l0 [.aE 1 [],.bool false]⟩))
       .refine bV (zm _ (inl ?_));obtain⟨N4,EJ,h⟩:=aU h;(try simp only[fB.down,Nat.zero_add,Nat.add_zero,reduceAdd]at EJ);refine mg (ai (show∀s,dH aF s 22 1 [(0,.int .i64 fy.1)]=some (.aE 1 [.int .i64 fy.1],s)from λs=>by kernel_rfl) (ai (@nX aF 22 22 2 rfl rfl) (ai @nY (ai @nZ (ai @n0 (ai @nW (ai @all_nil (ai EJ (@qh _ dU 1 λ_=>rfl))))))))) [(5,.aE 1 (c7.map cL)),(6,.aE 1 ((ja++[fy.1]).map dU)),(7,.int .i64 kC)] ?_;refine zl _ (s8 _ (inl (wr [(5,.aE 1 (c7.map cL)),(6,.aE 1 ((ja++[fy.1]).map dU)),(7,.int .i64 (i64.wrap (kC+1)))] ?_)));exact N0 _ (inr ⟨_,cU rfl,NZ (ja++[fy.1]) (i64.wrap (kC+1)) h⟩)
     .exact fN (zk 0 _ (N1 0 _ (jC _ (lu _ (inl (cx aO [.aE 1 (ja.map dU),.bool (decide ((ja.length:Int)<=2))]))))))
    exact gr h λn h=>NY n [] 0 h
theorem N5 (a0 r) (h:l4 a0=some r):bf aF 136 [.str a0] (.bool r) []:=by
 refine cN [0] [.tmp 2] Tryz.func136 LR λcy aO cJ=>aW ?_;obtain⟨aA,aJ,h⟩:=aU h;refine e7 (NW a0 _ aJ) _ ?_;exact cx aO [.bool aA.2]
theorem N6 (a0 r) (h:sA a0=some r):bf aF 103 [.ref (bS a0)] (.bool r) []:=by
 refine cN [0] [.tmp 2] Tryz.func103 LS λcy aO cJ=>aW ?_;obtain⟨aA,aJ,h⟩:=aU h;rcases fP h with⟨b3,h⟩|⟨b3,h⟩
 .obtain⟨aM,bJ,h⟩:=aU h;rcases fP h with⟨cA,h⟩|⟨cA,h⟩
  .obtain⟨aY,a7,h⟩:=aU h;rcases fP h with⟨cF,h⟩|⟨cF,h⟩
   .obtain⟨bu,ec,h⟩:=aU h;refine eB (dR [(2,.bool bu)] (λP bX=>?_) ?_)
    ·(try simp only[br.down,simprocAttr,b3,cA,cF]);refine e2 (mh a0.Choice 0 199 _ aJ) (hK:= ?_);simp only[br.down,simprocAttr,b3,cA,cF];refine ho (mh a0.bP 0 2 _ bJ) (hK:= ?_);simp only[br.down,simprocAttr,b3,cA,cF];refine ho (mh a0.Second (-1) 2 _ a7) (hK:= ?_);simp only[br.down,simprocAttr,b3,cA,cF];refine ho (N5 a0.Label _ ec) (hK:= ?_);simp only[br.down,simprocAttr,b3,cA,cF];exact d_ (ai b3 (ai cA cF))
    exact cR aO [.bool bu]
   .refine eB (dR [(2,.bool false)] (λP bX=>?_) ?_)
    ·(try simp only[br.down,simprocAttr,b3,cA,cF]);refine e2 (mh a0.Choice 0 199 _ aJ) (hK:= ?_);simp only[br.down,simprocAttr,b3,cA,cF];refine ho (mh a0.bP 0 2 _ bJ) (hK:= ?_);simp only[br.down,simprocAttr,b3,cA,cF];refine ho (mh a0.Second (-1) 2 _ a7) (hK:= ?_);simp only[br.down,simprocAttr,b3,cA,cF];exact d_ (ai b3 (ai cA cF))
    exact cR aO [.bool false]
  .refine eB (dR [(2,.bool false)] (λP bX=>?_) ?_)
   ·(try simp only[br.down,simprocAttr,b3,cA]);refine e2 (mh a0.Choice 0 199 _ aJ) (hK:= ?_);simp only[br.down,simprocAttr,b3,cA];refine ho (mh a0.bP 0 2 _ bJ) (hK:= ?_);simp only[br.down,simprocAttr,b3,cA];exact d_ (ai b3 cA)
   exact cR aO [.bool false]
 .refine fA b3 (mh a0.Choice 0 199 _ aJ) _ ?_;exact cR aO [.bool false]
theorem vD (a0 r) (h:n_ a0=some r):bf aF 118 [.int .i64 a0] (.str r) []:=by
 refine cN [0] [.tmp 2] Tryz.func118 LU λcy aO cJ=>aW ?_;refine bo aO λ_ dv b8 _=>aW ?_;refine bR h (λb3 h=>?_) λb3 h=>?_
 .exact cx b8 [.str ([48]:RD)]
 .refine bV (dv _ (inl (cX (show∀s,dH aF s 98 0 []=some (.aE 1 [],s)from λs=>by kernel_rfl) _ ?_)));refine bo aO λ_ lq kV _=>aW ?_;refine dd kV λzo _ fO s_ _=>?_;have zp:∀n iF iG,jw a0 n iF iG=some r->e1 aF D1 zo (au [(0,.int .i64 a0),(3,.aE 1 (iF.map eN)),(4,.int .i64 iG)]):=by
   refine gk λm16 zq iF iG h=>gi fO λ_ fi fY gH=>bo fY λ_ jA _ zr=>aW ?_;refine bR h (λnh h=>?_) λnh h=>?_
   .refine bV (jA _ (inl (bo fY λ_ px ly _=>dd ly λzs jB iL _ _=>cX (@Da .i64 10 (by decide)) _ ?_)));have EK:∀mR n9 l5,sC (jw a0 m16) a0 mR n9 l5=some r->bd aF D0 zs (au [(0,.int .i64 a0),(3,.aE 1 (mR.map eN)),(4,.int .i64 n9),(5,.int .i64 l5)]):=by
     intro mR n9 l5 h;obtain⟨EA,j1,h⟩:=aU h;(try simp only[fB.down,Nat.zero_add,Nat.add_zero,reduceAdd]at j1);refine mg (ai (@qg aF 2 5 .u8 rfl rfl) (ai (show∀s,dH aF s 98 1 [(0,.int .u8 (u8.wrap (i64.wrap (48+l5))))]=some (.aE 1 [.int .u8 (u8.wrap (i64.wrap (48+l5)))],s)from λs=>by kernel_rfl) (ai (@nX aF 98 98 5 rfl rfl) (ai @nY (ai @nZ (ai @n0 (ai @nW (ai @all_nil (ai j1 @xX))))))))) [(0,.int .i64 a0),(3,.aE 1 ((mR++[(hT (i64.wrap (48+l5)))]).map eN)),(4,.int .i64 n9)] ?_;refine jB _ (px _ (inl (mg (@C_ .i64 10 (by decide)) [(0,.int .i64 a0),(3,.aE 1 ((mR++[(hT (i64.wrap (48+l5)))]).map eN)),(4,.int .i64 (i64.wrap (Int.tdiv n9 10)))] ?_)));exact fi _ (inr ⟨_,cU rfl,zq (mR++[(hT (i64.wrap (48+l5)))]) (i64.wrap (Int.tdiv n9 10)) h⟩)
    refine bo iL λ_ vE _ _=>aW ?_;refine bR h (λN7 h=>?_) λN7 h=>?_
    .refine gl ?_;exact vE _ (inr ⟨_,cU rfl,EK iF iG (i64.wrap (0-(Int.tmod iG 10))) h⟩)
    .exact bV (vE _ (inr ⟨_,cU rfl,EK iF iG (Int.tmod iG 10) h⟩))
   .refine fN (zr 0 _ (gH 0 _ (s_ _ (lq _ (inl ?_)))));have ta:∀iE,sD iE=some r->bd aF D3 cy (au [(3,.aE 1 (iE.map eN))]):=by
     intro iE h;refine cX (show∀s,dH aF s 98 0 []=some (.aE 1 [],s)from λs=>by kernel_rfl) _ ?_;refine bo aO λ_ mi py _=>aW ?_;refine dd py λN8 _ N9 ng _=>?_;have N_:∀n jU kD,qv iE n jU kD=some r->e1 aF D2 N8 (au [(3,.aE 1 (iE.map eN)),(6,.aE 1 (jU.map eN)),(7,.int .i64 kD)]):=by
      refine gk λ_ Oa jU kD h=>gi N9 λ_ s8 vB zt=>bo vB λ_ zl _ Ob=>aW ?_;refine bR h (λOc h=>?_) λOc h=>?_
      .refine bV (zl _ (inl (bo vB λ_ Od Oe _=>dd Oe λ_ zm _ _ _=>?_)));obtain⟨aA,vF,h⟩:=aU h;obtain⟨Rq,EL,h⟩:=aU h;(try simp only[fB.down,Nat.zero_add,Nat.add_zero,reduceAdd]at EL);refine mg (ai vF (ai (gZ vF) (ai (show∀s,dH aF s 98 1 [(0,.int .u8 (aA.toNat:Int))]=some (.aE 1 [.int .u8 (aA.toNat:Int)],s)from λs=>by kernel_rfl) (ai (@nX aF 98 98 5 rfl rfl) (ai @nY (ai @nZ (ai @n0 (ai @nW (ai @all_nil (ai EL @xX)))))))))) [(3,.aE 1 (iE.map eN)),(6,.aE 1 ((jU++[aA]).map eN)),(7,.int .i64 kD)] ?_;refine zm _ (Od _ (inl (wr [(3,.aE 1 (iE.map eN)),(6,.aE 1 ((jU++[aA]).map eN)),(7,.int .i64 (i64.wrap (kD-1)))] ?_)));exact s8 _ (inr ⟨_,cU rfl,Oa (jU++[aA]) (i64.wrap (kD-1)) h⟩)
      .refine fN (Ob 2 _ (zt 2 _ (ng _ (mi _ (inl (cX (ai ((@C6 aF 98 9 5 rfl rfl rfl).2.2) (ai @C9 @C7)) _ ?_))))));exact cR aO [.str jU]
     exact gr h λn h=>N_ n [] (i64.wrap ((iE.length:Int)-1)) h
    refine bo aO λ_ qV _ _=>aW ?_;refine bR h (λOf h=>?_) λOf h=>?_
    .obtain⟨N4,EM,h⟩:=aU h;(try simp only[fB.down,Nat.zero_add,Nat.add_zero,reduceAdd]at EM);refine mg (ai (show∀s,dH aF s 98 1 [(0,.int .u8 45)]=some (.aE 1 [.int .u8 45],s)from λs=>by kernel_rfl) (ai (@nX aF 98 98 5 rfl rfl) (ai @nY (ai @nZ (ai @n0 (ai @nW (ai @all_nil (ai EM @xX)))))))) [(3,.aE 1 ((iF++[(45:UInt8)]).map eN))] ?_;exact qV _ (inr ⟨_,cU rfl,ta (iF++[(45:UInt8)]) h⟩)
    .exact bV (qV _ (inr ⟨_,cU rfl,ta iF h⟩))
  exact gr h λn h=>zp n [] a0 h
theorem Og (a0 aw r) (h:pc a0 aw=some r):bf aF 137 [.str a0,.int .i64 aw] (.int .i64 r) []:=by
 refine cN [0] [.tmp 4] Tryz.func137 LV λcy aO cJ=>aW ?_;refine bo aO λ_ dv b8 _=>aW ?_;refine dd b8 λlv _ dy b3 _=>?_;show bd aF (.loop ?iX) _ _;have lx:∀n b1 bZ,jW a0 n b1 bZ=some r->e1 aF ?iX lv (au [(0,.str a0),(1,.int .i64 b1),(5,.int .i64 bZ)]):=by
  refine gk λm6 kN b1 bZ h=>gi dy λ_ hQ eZ bY=>bo eZ λ_ hs _ dK=>aW ?_;refine bR h (λcF h=>?_) λcF h=>?_
  .refine bV (hs _ (inl (bo eZ λ_ gv fO _=>dd fO λ_ fi fY _ _=>?_)));obtain⟨aA,fT,h⟩:=aU h;refine cX (ai fT (ai (@qg aF 5 2 .i64 rfl rfl) (@DH .i64 .u64 8 256 (by decide) (by decide)))) [(0,.str a0),(1,.int .i64 (bitsOf .xor .i64 b1 (i64.wrap ((aA.toNat:Int)*256)))),(5,.int .i64 bZ)] ?_;refine aW ?_;refine dd fY λzi _ ly j3 _=>?_;show bd aF (.loop ?c20) _ _;have Oh:∀n jx jV kE,mS (jW a0 m6) a0 n jx jV kE=some r->e1 aF ?c20 zi (au [(0,.str a0),(1,.int .i64 jx),(5,.int .i64 jV),(6,.int .i64 kE)]):=by
    refine gk λm20 Oi jx jV kE h=>gi ly λzs jB iL s6=>bo iL λ_ kO _ s7=>aW ?_;refine bR h (λpw h=>?_) λpw h=>?_
    .refine bV (kO _ (inl ?_));show bd aF (.seq _ ?Oj) _ _;have EN:∀qw qx qy,sF (jW a0 m6) (mS (jW a0 m6) a0 m20) a0 qw qx qy=some r->bd aF ?Oj zs (au [(0,.str a0),(1,.int .i64 qw),(5,.int .i64 qx),(6,.int .i64 qy)]):=by
      intro qw qx qy h;refine gl ?_;exact jB _ (inr ⟨_,cU rfl,Oi qw qx (i64.wrap (qy+1)) h⟩)
     refine bo iL λ_ nf og _=>dd og λ_ EO _ _ _=>cX (@DH .i64 .u64 1 2 (by decide) (by decide)) [(0,.str a0),(1,.int .i64 (i64.wrap (jx*2))),(5,.int .i64 jV),(6,.int .i64 kE)] ?_;refine aW ?_;refine bR h (λjC h=>?_) λjC h=>?_
     .refine gl ?_;exact EO _ (nf _ (inr ⟨_,cU rfl,EN (bitsOf .xor .i64 (bitsOf .and .i64 (i64.wrap (jx*2)) 65535) 4129) jV kE h⟩))
     .exact bV (EO _ (nf _ (inr ⟨_,cU rfl,EN (i64.wrap (jx*2)) jV kE h⟩)))
    .refine fN (s7 2 _ (s6 2 _ (j3 _ (fi _ (gv _ (inl (gl ?_)))))));exact hQ _ (inr ⟨_,cU rfl,kN jx (i64.wrap (jV+1)) h⟩)
   exact gr h λn h=>Oh n (bitsOf .xor .i64 b1 (i64.wrap ((aA.toNat:Int)*256))) bZ 0 h
  .exact fN (dK 0 _ (bY 0 _ (b3 _ (dv _ (inl (cx aO [.int .i64 b1]))))))
 exact gr h λn h=>lx n aw 0 h
theorem Ok (a0 aw r) (h:sG a0 aw=some r):bf aF 104 [.ref (bS a0),.int .i64 aw] (.tuple [.str r.1,.int .i64 r.2]) []:=by
 refine cN [0,1] [.tmp 4,.tmp 5] Tryz.func104 LX λcy aO cJ=>aW ?_;obtain⟨aA,aJ,h⟩:=aU h;obtain⟨pz,bp,h⟩:=aU h;(try simp only[fB.down,Nat.zero_add,Nat.add_zero,reduceAdd]at bp);obtain⟨aM,bJ,h⟩:=aU h;obtain⟨pz,bk,h⟩:=aU h;(try simp only[fB.down,Nat.zero_add,Nat.add_zero,reduceAdd]at bk);obtain⟨pz,a7,h⟩:=aU h;(try simp only[fB.down,Nat.zero_add,Nat.add_zero,reduceAdd]at a7);obtain⟨aY,eH,h⟩:=aU h;obtain⟨pz,ec,h⟩:=aU h;(try simp only[fB.down,Nat.zero_add,Nat.add_zero,reduceAdd]at ec);obtain⟨pz,gd,h⟩:=aU h;(try simp only[fB.down,Nat.zero_add,Nat.add_zero,reduceAdd]at gd);obtain⟨pz,hD,h⟩:=aU h;(try simp only[fB.down,Nat.zero_add,Nat.add_zero,reduceAdd]at hD);refine sc rfl (sf [(1,.int .i64 aw),(6,.str ((((((aA++([32]:RD))++aM)++([32]:RD))++aY)++([32]:RD))++a0.Label))] (λP bX=>?_) ?_)
 ·(try simp only[kK.down,simprocAttr,bp,js,jt,bk,a7,ec,gd,hD]);refine qf (vD a0.Choice _ aJ) (hK:= ?_);simp only[kK.down,simprocAttr,bp,js,jt,bk,a7,ec,gd,hD];refine qf (vD a0.bP _ bJ) (hK:= ?_);simp only[kK.down,simprocAttr,bp,js,jt,bk,a7,ec,gd,hD];refine qf (vD a0.Second _ eH) (hK:= ?_);simp only[kK.down,simprocAttr,bp,js,jt,bk,a7,ec,gd,hD];refine⟨sk (by kernel_rfl),?_⟩;exact d_ (ai bp (ai @js (ai @jt (ai bk (ai a7 (ai ec (ai gd hD)))))))
 obtain⟨bu,hE,h⟩:=aU h;refine e7 (Og ((((((aA++([32]:RD))++aM)++([32]:RD))++aY)++([32]:RD))++a0.Label) aw _ hE) [(6,.str ((((((aA++([32]:RD))++aM)++([32]:RD))++aY)++([32]:RD))++a0.Label)),(7,.int .i64 bu)] ?_;obtain⟨pz,hr,h⟩:=aU h;(try simp only[fB.down,Nat.zero_add,Nat.add_zero,reduceAdd]at hr);obtain⟨bY,mj,h⟩:=aU h;obtain⟨pz,hR,h⟩:=aU h;(try simp only[fB.down,Nat.zero_add,Nat.add_zero,reduceAdd]at hR);refine fA (ai hr (ai @js (ai @jt hR))) (vD bu _ mj) [(4,.str ((((((((aA++([32]:RD))++aM)++([32]:RD))++aY)++([32]:RD))++a0.Label)++([32]:RD))++bY)),(5,.int .i64 bu)] ?_;exact cR aO [.str ((((((((aA++([32]:RD))++aM)++([32]:RD))++aY)++([32]:RD))++a0.Label)++([32]:RD))++bY),.int .i64 bu]
theorem Ol (a0 aw r) (h:uV a0 aw=some r):bf aF 66 [.str a0,.int .i64 aw] (.tuple [bS r.1,.int .i64 r.2.1,.bool r.2.2]) []:=by
 refine cN [0,1] [.cell 4 69,.tmp 5,.tmp 6] Tryz.func66 LY λcy aO cJ=>aW ?_;obtain⟨aA,aJ,h⟩:=aU h;refine e7 (Ey a0 (32:UInt8) _ aJ) _ ?_;refine bo aO λ_ kL dy bu=>aW ?_;refine bR h (λcA h=>?_) λcA h=>?_
 .refine cX (show∀s,ey aF s 69 []=some (.agg [.int .i64 0,.int .i64 0,.int .i64 0,.str ([]:RD)],s)from λs=>by kernel_rfl) _ ?_;exact cR dy [bS (aX.mk 0 0 0 ([]:RD)),.int .i64 0,.bool false]
 .refine bV (kL _ (inl ?_));obtain⟨aM,ec,h⟩:=aU h;obtain⟨aY,gd,h⟩:=aU h;refine fA (ai ec (o6 (n:=0) ec)) (vx aM _ gd) _ ?_;obtain⟨bu,fT,h⟩:=aU h;obtain⟨bY,hE,h⟩:=aU h;refine fA (ai fT (o6 (n:=1) fT)) (vx bu _ hE) _ ?_;obtain⟨dK,hr,h⟩:=aU h;obtain⟨c7,mj,h⟩:=aU h;refine fA (ai hr (o6 (n:=2) hr)) (vx dK _ mj) _ ?_;obtain⟨e4,e8,h⟩:=aU h;refine cX (ai e8 (ai (o6 (n:=3) e8) (show∀s,ey aF s 69 [(0,.int .i64 aY.1),(1,.int .i64 bY.1),(2,.int .i64 c7.1),(3,.str e4)]=some (.agg [.int .i64 aY.1,.int .i64 bY.1,.int .i64 c7.1,.str e4],s)from λs=>by kernel_rfl))) _ ?_;refine bo aO λ_ nf og _=>?_;rcases fP h with⟨ij,h⟩|⟨ij,h⟩
  .refine cX (lZ ij) _ ?_;refine jS rfl ?_;refine cX (show∀s,ey aF s 69 []=some (.agg [.int .i64 0,.int .i64 0,.int .i64 0,.str ([]:RD)],s)from λs=>by kernel_rfl) _ ?_;exact cR og [bS (aX.mk 0 0 0 ([]:RD)),.int .i64 0,.bool false]
  .rcases fP h with⟨pA,h⟩|⟨pA,h⟩
   .refine cX (ai (gh ij) (lZ pA)) _ ?_;refine jS rfl ?_;refine cX (show∀s,ey aF s 69 []=some (.agg [.int .i64 0,.int .i64 0,.int .i64 0,.str ([]:RD)],s)from λs=>by kernel_rfl) _ ?_;exact cR og [bS (aX.mk 0 0 0 ([]:RD)),.int .i64 0,.bool false]
   .rcases fP h with⟨kP,h⟩|⟨kP,h⟩
    .refine cX (ai (gh ij) (ai (gh pA) (lZ kP))) _ ?_;refine jS rfl ?_;refine cX (show∀s,ey aF s 69 []=some (.agg [.int .i64 0,.int .i64 0,.int .i64 0,.str ([]:RD)],s)from λs=>by kernel_rfl) _ ?_;exact cR og [bS (aX.mk 0 0 0 ([]:RD)),.int .i64 0,.bool false]
    .obtain⟨fy,qW,h⟩:=aU h;refine eB (dR [(0,.str a0),(1,.int .i64 aw),(4,.bC (.agg [.int .i64 0,.int .i64 0,.int .i64 0,.str ([]:RD)])),(14,.bC (.agg [.int .i64 aY.1,.int .i64 bY.1,.int .i64 c7.1,.str e4])),(64,.bool (!fy))] (λP bX=>?_) ?_)
     ·(try simp only[br.down,simprocAttr,(gh ij),(gh pA),(gh kP)]);refine ho (N6 (aX.mk aY.1 bY.1 c7.1 e4) _ qW) rfl rfl (by simp only[br.down,simprocAttr,(gh ij),(gh pA),(gh kP),nT,n1,n2,kz]<;>rfl) rfl (inr (by rfl)) ?_;simp only[br.down,simprocAttr,(gh ij),(gh pA),(gh kP)];exact d_ (ai (gh ij) (ai (gh pA) (gh kP)))
     refine bR h (λng h=>?_) λng h=>?_
     .refine cX (show∀s,ey aF s 69 []=some (.agg [.int .i64 0,.int .i64 0,.int .i64 0,.str ([]:RD)],s)from λs=>by kernel_rfl) _ ?_;exact cR og [bS (aX.mk 0 0 0 ([]:RD)),.int .i64 0,.bool false]
     .refine bV (nf _ (inl ?_));obtain⟨gH,zu,h⟩:=aU h;refine eB (dR [(0,.str a0),(4,.bC (.agg [.int .i64 0,.int .i64 0,.int .i64 0,.str ([]:RD)])),(14,.bC (.agg [.int .i64 aY.1,.int .i64 bY.1,.int .i64 c7.1,.str e4])),(15,.str gH.1),(16,.int .i64 gH.2)] (λP bX=>?_) ?_)
      ·(try simp only[br.down,simprocAttr]);refine e2 (Ok (aX.mk aY.1 bY.1 c7.1 e4) aw _ zu) rfl rfl (by simp only[br.down,simprocAttr,nT,n1,n2,kz]<;>rfl) rfl (inr (by rfl)) ?_;simp only[br.down,simprocAttr];exact d_ trivial
      exact cx aO [bS (aX.mk aY.1 bY.1 c7.1 e4),.int .i64 gH.2,.bool (gH.1==a0)]
theorem Om (a0 r) (h:uY a0=some r):bf aF 39 [.str a0] (.tuple [.aE 4 (r.1.map bS),.int .i64 r.2]) []:=by
 refine cN [0] [.tmp 2,.tmp 3] Tryz.func39 LZ λcy aO cJ=>aW ?_;refine cX (show∀s,dH aF s 42 0 []=some (.aE 4 [],s)from λs=>by kernel_rfl) _ ?_;refine aW ?_;refine aW ?_;show bd aF (.seq _ ?yL) _ _;have ta:∀qz qA uW,pd a0 qz qA uW=some r->bd aF ?yL cy (au [(0,.str a0),(4,.aE 4 (qz.map bS)),(6,.int .i64 qA),(7,.int .i64 uW)]):=by
  intro qz qA uW h;exact cx aO [.aE 4 (qz.map bS),.int .i64 qA]
 refine bo aO λ_ hQ eZ _=>aW ?_;refine dd eZ λtb _ pB cF _=>?_;show bd aF (.loop ?c12) _ _;have On:∀n gI lk jy fz,iH a0 n gI lk jy fz=some r->e1 aF ?c12 tb (au [(0,.str a0),(4,.aE 4 (gI.map bS)),(5,.int .i64 lk),(6,.int .i64 jy),(7,.int .i64 fz)]):=by
  refine gk λm12 Oo gI lk jy fz h=>gi pB λzo gv fO fy=>bo fO λ_ fi _ gH=>nc (decide (fz<(a0.length:Int))) [(0,.str a0),(4,.aE 4 (gI.map bS)),(5,.int .i64 lk),(6,.int .i64 jy),(7,.int .i64 fz),(20,.bool ((decide (fz<(a0.length:Int)))&&(decide ((gI.length:Int)<60))))] ?_;refine bR h (λiK h=>?_) λiK h=>?_
  .refine bV (fi _ (inl ?_));show bd aF (.seq _ ?c40) _ _;have EP:∀qC qD qE qF,qB (iH a0 m12) a0 qC qD qE qF=some r->bd aF ?c40 zo (au [(0,.str a0),(4,.aE 4 (qC.map bS)),(5,.int .i64 qD),(6,.int .i64 qE),(7,.int .i64 qF)]):=by
    intro qC qD qE qF h;refine gl ?_;exact gv _ (inr ⟨_,cU rfl,Oo qC qD qE (i64.wrap (qF+1)) h⟩)
   refine bo fO λ_ lr tc zv=>dd tc λ_ jB iL ml s6=>bo iL λ_ kO _ s7=>?_;obtain⟨aA,e8,h⟩:=aU h;refine cX e8 _ ?_;refine bR h (λpC h=>?_) λpC h=>?_
   .exact fN (s7 1 _ (ml _ (lr _ (inr ⟨_,cU rfl,EP gI lk jy fz h⟩))))
   .refine bV (kO _ (inl ?_));obtain⟨aM,j4,h⟩:=aU h;obtain⟨aY,hP,h⟩:=aU h;refine fA j4 (Ol aM lk _ hP) _ ?_;refine bo iL λ_ s0 _ zw=>aW ?_;refine bR h (λkP h=>?_) λkP h=>?_
    .exact fN (zw 0 _ (s6 0 _ (by decide) (zv 0 _ (fy 0 _ (cF _ (hQ _ (inr ⟨_,cU rfl,ta gI jy fz h⟩)))))))
    .refine bV (s0 _ (inl ?_));obtain⟨Rr,qW,h⟩:=aU h;(try simp only[fB.down,Nat.zero_add,Nat.add_zero,reduceAdd]at qW);refine cX (ai (show∀s,dH aF s 42 1 [(0,.agg [.int .i64 aY.1.Choice,.int .i64 aY.1.bP,.int .i64 aY.1.Second,.str aY.1.Label])]=some (.aE 4 [.agg [.int .i64 aY.1.Choice,.int .i64 aY.1.bP,.int .i64 aY.1.Second,.str aY.1.Label]],s)from λs=>by kernel_rfl) (ai (@nX aF 42 42 69 rfl rfl) (ai @nY (ai @nZ (ai @n0 (ai @nW (ai @all_nil (ai qW (@qh _ bS 4 λ_=>rfl))))))))) [(0,.str a0),(4,.aE 4 ((gI++[aY.1]).map bS)),(7,.int .i64 fz),(9,.int .i64 aY.2.1)] ?_;refine ws [(0,.str a0),(4,.aE 4 ((gI++[aY.1]).map bS)),(5,.int .i64 aY.2.1),(7,.int .i64 fz)] ?_;refine wr [(0,.str a0),(4,.aE 4 ((gI++[aY.1]).map bS)),(5,.int .i64 aY.2.1),(6,.int .i64 (i64.wrap (fz+1))),(7,.int .i64 fz)] ?_;exact jB _ (lr _ (inr ⟨_,cU rfl,EP (gI++[aY.1]) aY.2.1 (i64.wrap (fz+1)) fz h⟩))
  .exact fN (gH 0 _ (fy 0 _ (cF _ (hQ _ (inr ⟨_,cU rfl,ta gI jy fz h⟩)))))
 exact gr h λn h=>On n [] 65535 0 0 h
theorem Oq (a0 r) (h:uZ a0=some r):bf aF 18 [.str a0] (.tuple [.aE 4 (r.1.map bS),.int .i64 r.2]) []:=by
 refine cN [0] [.tmp 2,.tmp 3] Tryz.func18 L0 λcy aO cJ=>aW ?_;refine bo aO λ_ dv b8 _=>aW ?_;refine bR h (λb3 h=>?_) λb3 h=>?_
 .refine cX (show∀s,dH aF s 42 0 []=some (.aE 4 [],s)from λs=>by kernel_rfl) _ ?_;exact cR b8 [.aE 4 [],.int .i64 0]
 .refine bV (dv _ (inl ?_));obtain⟨aA,a7,h⟩:=aU h;refine e7 (Om a0 _ a7) _ ?_;exact cR aO [.aE 4 (aA.1.map bS),.int .i64 aA.2]
theorem ER:∀a c,e5 a c=Lib.indexByte a c
 |[],_=>rfl
 |a::x,c=>by simp only[e5,Lib.indexByte,ER x c]
theorem Ot (a0:RD) (aw:UInt8) (r:Int) (h:yu a0 aw=some r):bf aF 150 [.str a0,.int .u8 aw.toNat] (.int .i64 r) []:=by
 rw[show r=Lib.indexByte a0 aw from(jc h).trans (ER _ _)];exact Dn Tryz.func150 (by kernel_rfl) (by kernel_rfl) (by kernel_rfl) (E:=Extern.BytealgIndexByte.indexByte) (by kernel_rfl) a0 aw _ λw=>by
  rw[Lib.run_indexByteString,show((aw.toNat:Int).toNat).toUInt8=aw from by simp]
theorem ES (a0 aw r) (h:u0 a0 aw=some r):bf aF 138 [.str a0,.int .u8 (aw.toNat:Int)] (.int .i64 r) []:=by
 refine cN [0,1] [.tmp 4] Tryz.func138 c138 λcy aO cJ=>aW ?_;obtain⟨aA,aJ,h⟩:=aU h;refine e7 (Ot a0 aw _ aJ) _ ?_;exact cR aO [.int .i64 aA]
theorem Ou (a0 aw r) (h:qG a0 aw=some r):bf aF 106 [.str a0,.int .u8 (aw.toNat:Int)] (.int .i64 r) []:=by
 refine cN [0,1] [.tmp 4] Tryz.func106 L1 λcy aO cJ=>aW ?_;obtain⟨aA,aJ,h⟩:=aU h;refine e7 (ES a0 aw _ aJ) _ ?_;exact cR aO [.int .i64 aA]
theorem Ov (a0 aw r) (h:u1 a0 aw=some r):bf aF 142 [.str a0,.str aw] (.bool r) []:=by
 refine cN [0,1] [.tmp 4] Tryz.func142 L2 λcy aO cJ=>aW ?_;rcases fP h with⟨iw,h⟩|⟨iw,h⟩
 .obtain⟨aA,bp,h⟩:=aU h;refine cX (ai iw bp) _ ?_;exact cR aO [.bool (aA==aw)]
 .refine cX iw _ ?_;exact cR aO [.bool false]
theorem Ow (a0 aw r) (h:u2 a0 aw=some r):bf aF 110 [.str a0,.str aw] (.str r) []:=by
 refine cN [0,1] [.tmp 4] Tryz.func110 L3 λcy aO cJ=>aW ?_;refine bo aO λ_ dv b8 aM=>?_;obtain⟨aA,bp,h⟩:=aU h;refine e7 (Ov a0 aw _ bp) _ ?_;refine bR h (λlM h=>?_) λlM h=>?_
 .obtain⟨aM,a7,h⟩:=aU h;refine cX a7 _ ?_;exact cR b8 [.str aM]
 .exact bV (dv _ (inl (cx aO [.str a0])))
theorem ET (a0 aw r) (h:strings_TrimSuffix a0 aw=some r):bf aF 69 [.str a0,.str aw] (.str r) []:=by
 refine cN [0,1] [.tmp 4] Tryz.func69 L4 λcy aO cJ=>aW ?_;obtain⟨aA,aJ,h⟩:=aU h;refine e7 (Ow a0 aw _ aJ) _ ?_;exact cR aO [.str aA]
theorem Ox (a0:RD) (aw:UInt8) (r:Int) (h:yv a0 aw=some r):bf aF 166 [.str a0,.int .u8 aw.toNat] (.int .i64 r) []:=by
 rw[show r=((Lib.countByte a0 aw:Nat):Int)from jc h];exact Dn Tryz.func166 (by kernel_rfl) (by kernel_rfl) (by kernel_rfl) (E:=Extern.BytealgCount.count) (by kernel_rfl) a0 aw _ λw=>by
  rw[Lib.run_countString,show((aw.toNat:Int).toNat).toUInt8=aw from by simp]
theorem EU (a0 aw r) (h:mT a0 aw=some r):bf aF 167 [.str a0,.str aw] (.int .i64 r) []:=by
 refine cN [0,1] [.tmp 4] Tryz.func167 c167 λcy aO cJ=>aW ?_;refine aW ?_;refine bo aO λ_ _ ga _=>dd ga λ_ _ dy _ _=>nc ((aw.length:Int)==0) [(0,.str a0),(1,.str aw),(5,.int .i64 (aw.length:Int)),(16,.bool (((aw.length:Int)==0)||(aw==a0)))] ?_;refine bR h (λcA h=>?_) λcA h=>?_
 .exact cx dy [.int .i64 0]
 .refine aW ?_;refine bR h (λs_ h=>?_) λs_ h=>?_
  .obtain⟨aA,hD,h⟩:=aU h;obtain⟨aM,fT,h⟩:=aU h;refine fA hD (ES a0 aA _ fT) _ ?_;exact cR dy [.int .i64 aM]
  .refine aW ?_;refine bR h (λj3 h=>?_) λj3 h=>?_
   .exact cx dy [.int .i64 (-1)]
   .cases h
theorem EV (a0 aw r) (h:sH a0 aw=some r):bf aF 153 [.str a0,.str aw] (.int .i64 r) []:=by
 refine cN [0,1] [.tmp 4] Tryz.func153 L5 λcy aO cJ=>aW ?_;obtain⟨aA,aJ,h⟩:=aU h;refine e7 (EU a0 aw _ aJ) _ ?_;exact cR aO [.int .i64 aA]
theorem Oy (a0 aw r) (h:yx a0 aw=some r):bf aF 152 [.str a0,.str aw] (.int .i64 r) []:=by
 refine cN [1] [.tmp 4] Tryz.func152 c152 λcy aO cJ=>aW ?_;refine bo aO λ_ dv _ aM=>aW ?_;refine bR h (λb3 h=>?_) λb3 h=>?_
 .cases h
 .refine bV (dv _ (inl (bo aO λ_ hs iq _=>aW ?_)));refine bR h (λcF h=>?_) λcF h=>?_
  .obtain⟨aA,gd,h⟩:=aU h;obtain⟨aM,hD,h⟩:=aU h;refine fA gd (Ox a0 aA _ hD) _ ?_;exact cR iq [.int .i64 aM]
  .refine bV (hs _ (inl (aW ?_)));refine dd aO λOz _ tc _ _=>?_;show bd aF (.loop ?c21) _ _;have OA:∀n l6 l7,yw aw n l6 l7=some r->e1 aF ?c21 Oz (au [(0,.str l6),(1,.str aw),(5,.int .i64 l7)]):=by
    refine gk λ_ OB l6 l7 h=>gi tc λ_ px ly _=>dd ly λ_ jB iL _ _=>?_;obtain⟨aY,hR,h⟩:=aU h;refine e7 (EV l6 aw _ hR) _ ?_;refine bo iL λ_ za vy _=>aW ?_;refine bR h (λOC h=>?_) λOC h=>?_
    .exact cx vy [.int .i64 l7]
    .refine bV (za _ (inl (aW ?_)));obtain⟨bu,vG,h⟩:=aU h;refine mg vG _ ?_;exact jB _ (px _ (inr ⟨_,cU rfl,OB bu (i64.wrap (l7+1)) h⟩))
   exact gr h λn h=>OA n a0 0 h
theorem OD (a0 aw a2 a3 r) (h:yz a0 aw a2 a3=some r):bf aF 139 [.str a0,.str aw,.int .i64 a2,.int .i64 a3] (.aE 1 (r.map cL)) []:=by
 refine cN [1,2] [.tmp 8] Tryz.func139 c139 λcy aO cJ=>aW ?_;refine bo aO λ_ dv b8 aM=>aW ?_;refine bR h (λb3 h=>?_) λb3 h=>?_
 .refine aW ?_;exact ld (b8 _ (inr ⟨[(8,.aE 1 [])],kv [] rfl (ky (t:=8) (d:=.bz) rfl rfl (.h5 _) (by decide) (kx)),l0 [.aE 1 []]⟩))
 .refine bV (dv _ (inl (bo aO λ_ hs _ dK=>aW ?_)));refine bR h (λcF h=>?_) λcF h=>?_
  .cases h
  .refine bV (hs _ (inl ?_));show bd aF (.seq _ ?c24) _ _;have EW:∀fg,u3 a0 aw a2 fg=some r->bd aF ?c24 cy (au [(0,.str a0),(1,.str aw),(2,.int .i64 a2),(3,.int .i64 fg)]):=by
    intro fg h;refine cX (ai @Kx @Ky) _ ?_;obtain⟨Rs,hE,h⟩:=aU h;refine Eu (ai (z_ hE) @List.map_replicate.{0,0}) [(0,.str a0),(1,.str aw),(2,.int .i64 a2),(3,.int .i64 (fC false fg (i64.wrap ((a0.length:Int)+1)))),(9,.aE 1 ((List.replicate (Int.toNat (fC false fg (i64.wrap ((a0.length:Int)+1)))) ([]:RD)).map cL))] ?_;refine ws [(0,.str a0),(1,.str aw),(2,.int .i64 a2),(3,.int .i64 (i64.wrap ((fC false fg (i64.wrap ((a0.length:Int)+1)))-1))),(9,.aE 1 ((List.replicate (Int.toNat (fC false fg (i64.wrap ((a0.length:Int)+1)))) ([]:RD)).map cL))] ?_;refine ws [(0,.str a0),(1,.str aw),(2,.int .i64 a2),(3,.int .i64 (i64.wrap ((fC false fg (i64.wrap ((a0.length:Int)+1)))-1))),(9,.aE 1 ((List.replicate (Int.toNat (fC false fg (i64.wrap ((a0.length:Int)+1)))) ([]:RD)).map cL)),(10,.int .i64 0)] ?_;show bd aF (.seq _ ?OE) _ _;have EX:∀qH pf mU,sI a0 aw a2 fg qH pf mU=some r->bd aF ?OE cy (au [(0,.str qH),(1,.str aw),(2,.int .i64 a2),(3,.int .i64 (i64.wrap ((fC false fg (i64.wrap ((a0.length:Int)+1)))-1))),(9,.aE 1 (pf.map cL)),(10,.int .i64 mU)]):=by
     intro qH pf mU h;obtain⟨aA,e8,h⟩:=aU h;refine eB (dR [(9,.aE 1 ((List.set pf (Int.toNat mU) qH).map cL)),(10,.int .i64 mU)] (λP bX=>?_) ?_)
     .simp only[br.down,simprocAttr,e8,gZ e8,iB,cO];exact d_ (ai e8 (ai (gZ e8) @iB))
     obtain⟨aM,qY,h⟩:=aU h;refine eB (dR [(8,.aE 1 (aM.map cL))] (λP bX=>?_) ?_)
     .simp only[br.down,simprocAttr,qY,Ev.down,n4];(try simp only[hq.down,simprocAttr,qY,Ev.down,n4]at bX⊢);exact bX
     exact cR aO [.aE 1 (aM.map cL)]
    refine bo aO λ_ kO td _=>dd td λzx _ zy ij _=>?_;show bd aF (.loop ?OG) _ _;have OH:∀n iI hL fX,pg a0 aw a2 fg n iI hL fX=some r->e1 aF ?OG zx (au [(0,.str iI),(1,.str aw),(2,.int .i64 a2),(3,.int .i64 (i64.wrap ((fC false fg (i64.wrap ((a0.length:Int)+1)))-1))),(9,.aE 1 (hL.map cL)),(10,.int .i64 fX)]):=by
     refine gk λ_ OI iI hL fX h=>gi zy λ_ lu j2 vH=>bo j2 λ_ s0 _ zw=>aW ?_;refine bR h (λkP h=>?_) λkP h=>?_
     .refine bV (s0 _ (inl (dd j2 λ_ mi py _ zk=>?_)));obtain⟨aY,OJ,h⟩:=aU h;refine e7 (EV iI aw _ OJ) _ ?_;refine bo py λ_ s8 _ zt=>aW ?_;refine bR h (λzz h=>?_) λzz h=>?_
      .exact fN (zt 0 _ (zk 0 _ (by decide) (vH 0 _ (ij _ (kO _ (inr ⟨_,cU rfl,EX iI hL fX h⟩))))))
      .refine bV (s8 _ (inl ?_));obtain⟨bu,vC,h⟩:=aU h;obtain⟨bY,pD,h⟩:=aU h;refine eB (dR [(0,.str iI),(1,.str aw),(2,.int .i64 a2),(3,.int .i64 (i64.wrap ((fC false fg (i64.wrap ((a0.length:Int)+1)))-1))),(9,.aE 1 ((List.set hL (Int.toNat fX) bu).map cL)),(10,.int .i64 fX),(11,.int .i64 aY)] (λP bX=>?_) ?_)
       .simp only[br.down,simprocAttr,vC,pD,gZ pD,iB,cO,(show(List.map cL hL).set (Int.toNat fX) (.str bu)=List.map cL (List.set hL (Int.toNat fX) bu)from(List.map_set ..).symm)];exact d_ (ai vC (ai pD (ai (gZ pD) @iB)))
       obtain⟨dK,vF,h⟩:=aU h;refine cX vF [(0,.str dK),(1,.str aw),(2,.int .i64 a2),(3,.int .i64 (i64.wrap ((fC false fg (i64.wrap ((a0.length:Int)+1)))-1))),(9,.aE 1 ((List.set hL (Int.toNat fX) bu).map cL)),(10,.int .i64 fX)] ?_;refine wr [(0,.str dK),(1,.str aw),(2,.int .i64 a2),(3,.int .i64 (i64.wrap ((fC false fg (i64.wrap ((a0.length:Int)+1)))-1))),(9,.aE 1 ((List.set hL (Int.toNat fX) bu).map cL)),(10,.int .i64 (i64.wrap (fX+1)))] ?_;exact mi _ (lu _ (inr ⟨_,cU rfl,OI dK (List.set hL (Int.toNat fX) bu) (i64.wrap (fX+1)) h⟩))
     .exact fN (zw 0 _ (vH 0 _ (ij _ (kO _ (inr ⟨_,cU rfl,EX iI hL fX h⟩)))))
    exact gr h λn h=>OH n a0 (List.replicate (Int.toNat (fC false fg (i64.wrap ((a0.length:Int)+1)))) ([]:RD)) 0 h
   refine bo aO λ_ fi _ _=>aW ?_;refine bR h (λzn h=>?_) λzn h=>?_
   .obtain⟨c7,OK,h⟩:=aU h;refine Nj (Oy a0 aw _ OK) _ ?_;exact fi _ (inr ⟨_,cU rfl,EW (i64.wrap (c7+1)) h⟩)
   .exact bV (fi _ (inr ⟨_,cU rfl,EW a3 h⟩))
theorem EY (a0 aw r) (h:sJ a0 aw=some r):bf aF 107 [.str a0,.str aw] (.aE 1 (r.map cL)) []:=by
 refine cN [0,1] [.tmp 4] Tryz.func107 c107 λcy aO cJ=>aW ?_;obtain⟨aA,aJ,h⟩:=aU h;refine e7 (OD a0 aw 0 (-1) _ aJ) _ ?_;exact cR aO [.aE 1 (aA.map cL)]
theorem OL (a0:RD) (r:Int×Bool) (h:u4 a0=some r):bf aF 140 [.str a0] (.tuple [.int .i64 r.1,.bool r.2]) []:=MK a0 r h
theorem EZ (a0 r) (h:sK a0=some r):bf aF 108 [.slice (a0.map cL)] (.tuple [.aE 1 (r.1.map dU),.bool r.2]) []:=by
 refine cN [0] [.tmp 2,.tmp 3] Tryz.func108 L6 λcy aO cJ=>aW ?_;refine aW ?_;refine bo aO λ_ pv ga _=>aW ?_;refine dd ga λOM _ eZ lM _=>?_;show bd aF (.loop ?rP) _ _;have zA:∀n jX kF,qI a0 n jX kF=some r->e1 aF ?rP OM (au [(4,.aE 1 (jX.map dU)),(9,.slice (a0.map cL)),(10,.int .i64 (a0.length:Int)),(11,.int .i64 kF)]):=by
  refine gk λ_ zB jX kF h=>gi eZ λ_ hs iq dK=>aW ?_;refine bo iq λ_ sZ _ e4=>bR h (λs_ h=>?_) λs_ h=>?_
  .refine bV (sZ _ (inl (bo iq λ_ fi fY _=>dd fY λ_ jA kM _ _=>?_)));obtain⟨aA,hE,h⟩:=aU h;refine cX hE _ ?_;obtain⟨aM,hr,h⟩:=aU h;refine e7 (OL aA _ hr) _ ?_;refine bo kM λ_ kO td _=>aW ?_;refine bR h (λpw h=>?_) λpw h=>?_
   .refine aW ?_;exact ld (td _ (inr ⟨[(2,.aE 1 []),(3,.bool false)],kv [] rfl (ky (t:=2) (d:=.bz) rfl rfl (.h5 _) (by decide) (h_ rfl (kx))),l0 [.aE 1 [],.bool false]⟩))
   .refine bV (kO _ (inl ?_));obtain⟨Rt,j4,h⟩:=aU h;(try simp only[fB.down,Nat.zero_add,Nat.add_zero,reduceAdd]at j4);refine mg (ai (show∀s,dH aF s 22 1 [(0,.int .i64 aM.1)]=some (.aE 1 [.int .i64 aM.1],s)from λs=>by kernel_rfl) (ai (@nX aF 22 22 2 rfl rfl) (ai @nY (ai @nZ (ai @n0 (ai @nW (ai @all_nil (ai j4 (@qh _ dU 1 λ_=>rfl))))))))) [(4,.aE 1 ((jX++[aM.1]).map dU)),(9,.slice (a0.map cL)),(10,.int .i64 (a0.length:Int)),(11,.int .i64 kF)] ?_;refine jA _ (fi _ (inl (wr [(4,.aE 1 ((jX++[aM.1]).map dU)),(9,.slice (a0.map cL)),(10,.int .i64 (a0.length:Int)),(11,.int .i64 (i64.wrap (kF+1)))] ?_)));exact hs _ (inr ⟨_,cU rfl,zB (jX++[aM.1]) (i64.wrap (kF+1)) h⟩)
  .exact fN (e4 0 _ (dK 0 _ (lM _ (pv _ (inl (cx aO [.aE 1 (jX.map dU),.bool true]))))))
 obtain⟨n,h⟩:=z1 h;exact CT (inr ⟨_,kv [] rfl (ky (t:=4) (d:=.bz) (aV:=.aE 1 []) rfl rfl (.h5 _) (by decide) (h_ (t:=9) (d:=.slice (a0.map cL)) rfl (h_ (t:=10) (d:=.int .i64 (a0.length:Int)) rfl (h_ (t:=11) (d:=.int .i64 0) rfl (kx))))),zA n [] 0 h⟩)
theorem lz (a0 aw a2 r) (h:mV a0 aw a2=some r):bf aF 53 [.int .i64 a0,.int .i64 aw,.int .i64 a2] (.bool r) []:=by
 refine cN [0,1,2] [.tmp 6] Tryz.func53 c53 λcy aO cJ=>aW ?_;refine nc (decide (aw<=a0)) [(6,.bool ((decide (aw<=a0))&&(decide (a0<=a2))))] ?_;exact cR aO [.bool ((decide (aw<=a0))&&(decide (a0<=a2)))]
theorem ON (a0 aw r) (h:u5 a0 aw=some r):bf aF 187 [.str a0,.str aw] (.tuple [.str r.1,.str r.2.1,.bool r.2.2]) []:=by
 refine cN [0,1] [.tmp 4,.tmp 5,.tmp 6] Tryz.func187 L7 λcy aO cJ=>aW ?_;refine bo aO λ_ dv b8 aM=>?_;obtain⟨aA,bp,h⟩:=aU h;refine e7 (EU a0 aw _ bp) _ ?_;refine aW ?_;refine bR h (λcA h=>?_) λcA h=>?_
 .obtain⟨aM,eH,h⟩:=aU h;obtain⟨aY,ec,h⟩:=aU h;refine Et (ai eH ec) _ ?_;exact cR b8 [.str aM,.str aY,.bool true]
 .exact bV (dv _ (inl (cx aO [.str a0,.str ([]:RD),.bool false])))
theorem OO (a0 aw r) (h:qJ a0 aw=some r):bf aF 171 [.str a0,.str aw] (.tuple [.str r.1,.str r.2.1,.bool r.2.2]) []:=by
 refine cN [0,1] [.tmp 4,.tmp 5,.tmp 6] Tryz.func171 c171 λcy aO cJ=>aW ?_;obtain⟨aA,aJ,h⟩:=aU h;refine e7 (ON a0 aw _ aJ) _ ?_;exact cR aO [.str aA.1,.str aA.2.1,.bool aA.2.2]
theorem OP (a0 r) (h:yB a0=some r):bf aF 144 [.int .u8 (a0.toNat:Int)] (.bool r) []:=by
 refine cN [0] [.tmp 2] Tryz.func144 L8 λcy aO cJ=>aW ?_;refine nc (decide (48<=(a0.toNat:Int))) [(2,.bool ((decide (48<=(a0.toNat:Int)))&&(decide ((a0.toNat:Int)<=57))))] ?_;exact cR aO [.bool ((decide (48<=(a0.toNat:Int)))&&(decide ((a0.toNat:Int)<=57)))]
theorem E0 (a0 r) (h:u7 a0=some r):bf aF 120 [.str a0] (.bool r) []:=by
 refine cN [0] [.tmp 2] Tryz.func120 L9 λcy aO cJ=>aW ?_;refine bo aO λ_ dv b8 aM=>aW ?_;refine dd b8 λlv _ dy b3 _=>?_;show bd aF (.loop ?iX) _ _;have lx:∀n jb,oa a0 n jb=some r->e1 aF ?iX lv (au [(0,.str a0),(6,.int .i64 (a0.length:Int)),(7,.int .i64 jb)]):=by
  refine gk λ_ kN jb h=>gi dy λ_ hQ eZ bY=>aW ?_;refine bo eZ λ_ lq _ c7=>bR h (λcF h=>?_) λcF h=>?_
  .refine bV (lq _ (inl (bo eZ λ_ gv fO _=>dd fO λ_ fi fY _ _=>aW ?_)));obtain⟨aA,hE,h⟩:=aU h;refine Nl (decide (97<=(aA.toNat:Int))) hE [(0,.str a0),(3,.int .i64 jb),(4,.bool ((decide (97<=(aA.toNat:Int)))&&(decide ((aA.toNat:Int)<=122)))),(6,.int .i64 (a0.length:Int)),(7,.int .i64 jb)] ?_;rcases fP h with⟨ml,h⟩|⟨ml,h⟩
   .rcases fP h with⟨nd,h⟩|⟨nd,h⟩
    .refine cX (ai ml nd) _ ?_;refine jS rfl ?_;exact cx fY [.bool false]
    .obtain⟨aM,e8,h⟩:=aU h;refine fA (ai ml (ai nd hE)) (OP aA _ e8) _ ?_;refine bR h (λpC h=>?_) λpC h=>?_
     .exact cx fY [.bool false]
     .refine bV (fi _ (gv _ (inl (gl ?_))));exact hQ _ (inr ⟨_,cU rfl,kN (i64.wrap (jb+1)) h⟩)
   .refine cX ml _ ?_;refine sd rfl ?_;refine bV (fi _ (gv _ (inl (gl ?_))));exact hQ _ (inr ⟨_,cU rfl,kN (i64.wrap (jb+1)) h⟩)
  .refine fN (c7 0 _ (bY 0 _ (b3 _ (dv _ (inl (nc (decide (1<=(a0.length:Int))) [(2,.bool ((decide (1<=(a0.length:Int)))&&(decide ((a0.length:Int)<=10))))] ?_))))));exact cR aO [.bool ((decide (1<=(a0.length:Int)))&&(decide ((a0.length:Int)<=10)))]
 exact gr h λn h=>lx n 0 h
theorem zC (a0 r) (h:u9 a0=some r):bf aF 83 [.str a0] (.bool r) []:=by
 refine cN [0] [.tmp 2] Tryz.func83 L_ λcy aO cJ=>aW ?_;obtain⟨aA,aJ,h⟩:=aU h;refine eB (dR [(2,.bool (aA&&(!(a0==([116,97,117]:RD)))))] (λP bX=>?_) ?_)
 .rcases Bool.eq_false_or_eq_true (aA)with hI|hI
  ·(try simp only[br.down,simprocAttr,hI]);refine e2 (E0 a0 _ aJ) (hK:= ?_);simp only[br.down,simprocAttr,hI];exact d_ hI
  ·(try simp only[br.down,simprocAttr,hI]);refine e2 (E0 a0 _ aJ) (hK:= ?_);simp only[br.down,simprocAttr,hI];exact d_ hI
 exact cR aO [.bool (aA&&(!(a0==([116,97,117]:RD))))]
theorem OQ (a0 r) (h:yC a0=some r):bf aF 90 [.int .i64 a0] (.bool r) []:=by
 refine cN [0] [.tmp 2] Tryz.func90 Ma λcy aO cJ=>aW ?_;obtain⟨aA,aJ,h⟩:=aU h;refine e7 (lz a0 0 63 _ aJ) _ ?_;exact cR aO [.bool aA]
theorem OR (a0 r) (h:yD a0=some r):bf aF 89 [.int .i64 a0] (.bool r) []:=by
 refine cN [0] [.tmp 2] Tryz.func89 Mb λcy aO cJ=>aW ?_;obtain⟨aA,aJ,h⟩:=aU h;refine e7 (OQ a0 _ aJ) _ ?_;exact cR aO [.bool (!aA)]
theorem OS (a0 r) (h:yF a0=some r):bf aF 125 [.slice (a0.map dU),.fn 89 []] (.int .i64 r) []:=by
 refine cN [0,1] [.tmp 4] Tryz.func125 Mc λcy aO cJ=>aW ?_;refine bo aO λ_ dv b8 aM=>aW ?_;refine dd b8 λlv _ dy b3 _=>?_;show bd aF (.loop ?iX) _ _;have lx:∀n kG,qK a0 n kG=some r->e1 aF ?iX lv (au [(0,.slice (a0.map dU)),(1,.fn 89 []),(7,.int .i64 (a0.length:Int)),(8,.int .i64 kG)]):=by
  refine gk λ_ kN kG h=>gi dy λ_ hQ eZ bY=>aW ?_;refine bo eZ λ_ lq _ c7=>bR h (λcF h=>?_) λcF h=>?_
  .refine bV (lq _ (inl (bo eZ λ_ gv fO _=>dd fO λ_ fi fY _ _=>aW ?_)));obtain⟨aA,hE,h⟩:=aU h;obtain⟨aM,te,h⟩:=aU h;refine fA hE (OR aA _ te) _ ?_;refine bR h (λml h=>?_) λml h=>?_
   .exact cx fY [.int .i64 kG]
   .refine bV (fi _ (gv _ (inl (gl ?_))));exact hQ _ (inr ⟨_,cU rfl,kN (i64.wrap (kG+1)) h⟩)
  .exact fN (c7 0 _ (bY 0 _ (b3 _ (dv _ (inl (cx aO [.int .i64 (-1)]))))))
 exact gr h λn h=>lx n 0 h
theorem OT (a0 r) (h:yG a0=some r):bf aF 88 [.slice (a0.map dU),.fn 89 []] (.bool r) []:=by
 refine cN [0,1] [.tmp 4] Tryz.func88 Md λcy aO cJ=>aW ?_;obtain⟨aA,aJ,h⟩:=aU h;refine e7 (OS a0 _ aJ) _ ?_;exact cR aO [.bool (decide (0<=aA))]
theorem OU (a0 r) (h:u_ a0=some r):bf aF 57 [.slice (a0.map dU)] (.bool r) []:=by
 refine cN [0] [.tmp 2] Tryz.func57 Me λcy aO cJ=>aW ?_;obtain⟨aA,aJ,h⟩:=aU h;refine e7 (OT a0 _ aJ) _ ?_;exact cR aO [.bool (!aA)]
theorem OV (a0 aw:Int) (r:RD) (h:qL a0 aw=some r):bf aF 130 [.int .i64 a0,.int .i64 aw] (.str r) []:=My a0 aw r h
theorem E1 (a0 r) (h:l8 a0=some r):bf aF 97 [.int .i64 a0] (.str r) []:=by
 refine cN [0] [.tmp 2] Tryz.func97 Mf λcy aO cJ=>aW ?_;obtain⟨aA,aJ,h⟩:=aU h;refine e7 (OV a0 10 _ aJ) _ ?_;exact cR aO [.str aA]
theorem OW (a0:RC) (aw:RD) (r:RD) (h:strings_Join a0 aw=some r):bf aF 98 [.slice (a0.map cL),.str aw] (.str r) []:=Mz a0 aw r h
theorem E2 (a0 aw r) (h:ph a0 aw=some r):bf aF 62 [.slice (a0.map dU),.str aw] (.str r) []:=by
 refine cN [0,1] [.tmp 4] Tryz.func62 Mg λcy aO cJ=>aW ?_;obtain⟨EA,aJ,h⟩:=aU h;refine Eu (ai (z_ aJ) @List.map_replicate.{0,0}) [(0,.slice (a0.map dU)),(1,.str aw),(5,.aE 1 ((List.replicate (Int.toNat (a0.length:Int)) ([]:RD)).map cL))] ?_;refine bo aO λ_ kL dy bu=>ws [(1,.str aw),(5,.aE 1 ((List.replicate (Int.toNat (a0.length:Int)) ([]:RD)).map cL)),(11,.slice (a0.map dU)),(12,.int .i64 (a0.length:Int)),(13,.int .i64 0)] ?_;refine dd dy λy3 _ iq cA _=>?_;show bd aF (.loop ?rP) _ _;have zA:∀n jY ib,mW a0 aw n jY ib=some r->e1 aF ?rP y3 (au [(1,.str aw),(5,.aE 1 (jY.map cL)),(11,.slice (a0.map dU)),(12,.int .i64 (a0.length:Int)),(13,.int .i64 ib)]):=by
  refine gk λ_ zB jY ib h=>gi iq λ_ lq kV c7=>aW ?_;refine bo kV λ_ gv _ fy=>bR h (λig h=>?_) λig h=>?_
  .refine bV (gv _ (inl (bo kV λ_ jA kM _=>dd kM λ_ zh _ _ _=>?_)));obtain⟨aA,te,h⟩:=aU h;refine cX te _ ?_;obtain⟨aM,mj,h⟩:=aU h;obtain⟨aY,hR,h⟩:=aU h;refine qe (dR [(1,.str aw),(5,.aE 1 ((List.set jY (Int.toNat ib) aM).map cL)),(11,.slice (a0.map dU)),(12,.int .i64 (a0.length:Int)),(13,.int .i64 ib)] (λP bX=>?_) ?_)
   ·(try simp only[br.down,simprocAttr,hR,gZ hR,iB,cO]);refine e2 (E1 aA _ mj) (hK:= ?_);simp only[br.down,simprocAttr,hR,gZ hR,iB,cO];exact d_ (ai hR (ai (gZ hR) @iB))
   refine zh _ (jA _ (inl (wr [(1,.str aw),(5,.aE 1 ((List.set jY (Int.toNat ib) aM).map cL)),(11,.slice (a0.map dU)),(12,.int .i64 (a0.length:Int)),(13,.int .i64 (i64.wrap (ib+1)))] ?_)));exact lq _ (inr ⟨_,cU rfl,zB (List.set jY (Int.toNat ib) aM) (i64.wrap (ib+1)) h⟩)
  .refine fN (fy 0 _ (c7 0 _ (cA _ (kL _ (inl ?_)))));obtain⟨bu,qY,h⟩:=aU h;refine eB (dR [(4,.str bu)] (λP bX=>?_) ?_)
   ·(try simp only[br.down,simprocAttr]);refine e2 (OW jY aw _ qY) rfl rfl (by simp only[br.down,simprocAttr,Ew.down]<;>rfl) rfl (inr (by rfl)) ?_;simp only[br.down,simprocAttr];exact d_ trivial
   exact cR aO [.str bu]
 exact gr h λn h=>zA n (List.replicate (Int.toNat (a0.length:Int)) ([]:RD)) 0 h
theorem OX (a0 aw r) (h:va a0 aw=some r):bf aF 60 [.str a0,.slice (aw.map dU)] (.tuple [.str r.1,.bool r.2]) []:=by
 refine cN [0,1] [.tmp 4,.tmp 5] Tryz.func60 Mi λcy aO cJ=>aW ?_;refine bo aO λ_ dv b8 aM=>dd b8 λ_ pv ga _ aY=>aW ?_;refine bR h (λlM h=>?_) λlM h=>?_
 .exact cx ga [.str ([116,97,117]:RD),.bool ((aw.length:Int)==0)]
 .obtain⟨aM,ec,h⟩:=aU h;rcases fP h with⟨ig,h⟩|⟨ig,h⟩
  .refine fA (lZ ig) (zC a0 _ ec) _ ?_;refine jS rfl ?_;exact cx ga [.str ([]:RD),.bool false]
  .rcases fP h with⟨iK,h⟩|⟨iK,h⟩
   .refine fA (ai (gh ig) iK) (zC a0 _ ec) _ ?_;refine jS rfl ?_;exact cx ga [.str ([]:RD),.bool false]
   .obtain⟨aY,te,h⟩:=aU h;refine eB (dR [(0,.str a0),(1,.slice (aw.map dU)),(12,.bool (!aY))] (λP bX=>?_) ?_)
    ·(try simp only[br.down,simprocAttr,(gh ig),iK]);refine e2 (zC a0 _ ec) (hK:= ?_);simp only[br.down,simprocAttr,(gh ig),iK];refine ho (OU aw _ te) (hK:= ?_);simp only[br.down,simprocAttr,(gh ig),iK];exact d_ (ai (gh ig) iK)
    refine bR h (λml h=>?_) λml h=>?_
    .exact cx ga [.str ([]:RD),.bool false]
    .refine aW ?_;refine bR h (λpw h=>?_) λpw h=>?_
     .exact cx ga [.str a0,.bool true]
     .refine bV (pv _ (dv _ (inl ?_)));obtain⟨E3,j4,h⟩:=aU h;(try simp only[fB.down,Nat.zero_add,Nat.add_zero,reduceAdd]at j4);obtain⟨bu,hP,h⟩:=aU h;obtain⟨E3,oe,h⟩:=aU h;(try simp only[fB.down,Nat.zero_add,Nat.add_zero,reduceAdd]at oe);obtain⟨E3,vG,h⟩:=aU h;(try simp only[fB.down,Nat.zero_add,Nat.add_zero,reduceAdd]at vG);refine fA (ai j4 (ai @js (ai @jt (ai oe vG)))) (E2 aw ([44]:RD) _ hP) [(4,.str (((a0++([40]:RD))++bu)++([41]:RD))),(5,.bool true)] ?_;exact cR aO [.str (((a0++([40]:RD))++bu)++([41]:RD)),.bool true]
theorem OY (a0 r) (h:vb a0=some r):bf aF 156 [.str a0] (.tuple [.str r.1,.aE 1 (r.2.1.map dU),.bool r.2.2]) []:=by
 refine cN [0] [.tmp 2,.tmp 3,.tmp 4] Tryz.func156 c156 λcy aO cJ=>aW ?_;obtain⟨aA,aJ,h⟩:=aU h;refine e7 (OO a0 ([40]:RD) _ aJ) _ ?_;refine aW ?_;have E4:∀l9,sM a0 aA l9=some r->bd aF D4 cy (au [(0,.str a0),(5,.str aA.1),(8,.aE 1 (l9.map dU))]):=by
  intro l9 h;refine bo aO λ_ hs iq _=>?_;obtain⟨aM,eH,h⟩:=aU h;refine eB (dR [(0,.str a0),(5,.str aA.1),(8,.aE 1 (l9.map dU)),(10,.str aM.1),(11,.bool aM.2)] (λP bX=>?_) ?_)
  ·(try simp only[br.down,simprocAttr]);refine e2 (OX aA.1 l9 _ eH) rfl rfl (by simp only[br.down,simprocAttr,nT,n1,n2,kz, @nU _ dU dU (λ_=>DX _)]<;>rfl) rfl (inr (by rfl)) ?_;simp only[br.down,simprocAttr];exact d_ trivial
  refine nc (aM.2) [(5,.str aA.1),(8,.aE 1 (l9.map dU)),(40,.bool ((!aM.2)||(!(aM.1==a0))))] ?_;refine bR h (λig h=>?_) λig h=>?_
  .refine aW ?_;exact ld (iq _ (inr ⟨[(2,.str ([]:RD)),(3,.aE 1 []),(4,.bool false)],kv [] rfl (h_ rfl (ky (t:=3) (d:=.bz) rfl rfl (.h5 _) (by decide) (h_ rfl (kx)))),l0 [.str ([]:RD),.aE 1 [],.bool false]⟩))
  .exact bV (hs _ (inl (cx aO [.str aA.1,.aE 1 (l9.map dU),.bool true])))
 refine bo aO λ_ hQ eZ bY=>aW ?_;refine bR h (λj3 h=>?_) λj3 h=>?_
 .refine aW ?_;obtain⟨aY,hR,h⟩:=aU h;obtain⟨bu,e8,h⟩:=aU h;obtain⟨bY,j1,h⟩:=aU h;refine eB (dR [(0,.str a0),(5,.str aA.1),(8,.aE 1 (bY.1.map dU)),(9,.bool bY.2)] (λP bX=>?_) ?_)
  ·(try simp only[br.down,simprocAttr]);refine e2 (ET aA.2.1 ([41]:RD) _ hR) (hK:= ?_);simp only[br.down,simprocAttr];refine e2 (EY aY ([44]:RD) _ e8) (hK:= ?_);simp only[br.down,simprocAttr];refine e2 (EZ bu _ j1) rfl rfl (by simp only[br.down,simprocAttr,Ew.down]<;>rfl) rfl (inr (by simp only[I.cK,I.jR, @Kg _ dU (λ_=>LJ _),Bool.and_self])) ?_;simp only[br.down,simprocAttr];exact d_ trivial
  refine aW ?_;refine bR h (λij h=>?_) λij h=>?_
  .refine aW ?_;exact ld (eZ _ (inr ⟨[(2,.str ([]:RD)),(3,.aE 1 []),(4,.bool false)],kv [] rfl (h_ rfl (ky (t:=3) (d:=.bz) rfl rfl (.h5 _) (by decide) (h_ rfl (kx)))),l0 [.str ([]:RD),.aE 1 [],.bool false]⟩))
  .exact bV (hQ _ (inr ⟨_,cU rfl,E4 bY.1 h⟩))
 .exact bV (hQ _ (inr ⟨_,kv [] rfl (h_ (t:=0) (d:=.str a0) rfl (h_ (t:=5) (d:=.str aA.1) rfl (ky (t:=8) (d:=.bz) (aV:=.aE 1 []) rfl rfl (.h5 _) (by decide) (kx)))),E4 [] h⟩))
theorem OZ (a0 r) (h:pj a0=some r):bf aF 141 [.str a0] (.bool r) []:=by
 refine cN [0] [.tmp 2] Tryz.func141 c141 λcy aO cJ=>aW ?_;obtain⟨aA,aJ,h⟩:=aU h;refine e7 (OY a0 _ aJ) _ ?_;exact cx aO [.bool aA.2.2]
theorem O0 (a0 r) (h:sN a0=some r):bf aF 109 [bS a0] (.bool r) []:=by
 refine cN [0] [.tmp 2] Tryz.func109 c109 λcy aO cJ=>aW ?_;obtain⟨aA,aJ,h⟩:=aU h;rcases fP h with⟨b3,h⟩|⟨b3,h⟩
 .obtain⟨aM,bJ,h⟩:=aU h;rcases fP h with⟨cA,h⟩|⟨cA,h⟩
  .obtain⟨aY,a7,h⟩:=aU h;rcases fP h with⟨cF,h⟩|⟨cF,h⟩
   .obtain⟨bu,ec,h⟩:=aU h;refine eB (dR [(2,.bool bu)] (λP bX=>?_) ?_)
    ·(try simp only[br.down,simprocAttr,b3,cA,cF]);refine e2 (lz a0.Choice 0 199 _ aJ) (hK:= ?_);simp only[br.down,simprocAttr,b3,cA,cF];refine ho (lz a0.bP 0 2 _ bJ) (hK:= ?_);simp only[br.down,simprocAttr,b3,cA,cF];refine ho (lz a0.Second (-1) 2 _ a7) (hK:= ?_);simp only[br.down,simprocAttr,b3,cA,cF];refine ho (OZ a0.Label _ ec) (hK:= ?_);simp only[br.down,simprocAttr,b3,cA,cF];exact d_ (ai b3 (ai cA cF))
    exact cR aO [.bool bu]
   .refine eB (dR [(2,.bool false)] (λP bX=>?_) ?_)
    ·(try simp only[br.down,simprocAttr,b3,cA,cF]);refine e2 (lz a0.Choice 0 199 _ aJ) (hK:= ?_);simp only[br.down,simprocAttr,b3,cA,cF];refine ho (lz a0.bP 0 2 _ bJ) (hK:= ?_);simp only[br.down,simprocAttr,b3,cA,cF];refine ho (lz a0.Second (-1) 2 _ a7) (hK:= ?_);simp only[br.down,simprocAttr,b3,cA,cF];exact d_ (ai b3 (ai cA cF))
    exact cR aO [.bool false]
  .refine eB (dR [(2,.bool false)] (λP bX=>?_) ?_)
   ·(try simp only[br.down,simprocAttr,b3,cA]);refine e2 (lz a0.Choice 0 199 _ aJ) (hK:= ?_);simp only[br.down,simprocAttr,b3,cA];refine ho (lz a0.bP 0 2 _ bJ) (hK:= ?_);simp only[br.down,simprocAttr,b3,cA];exact d_ (ai b3 cA)
   exact cR aO [.bool false]
 .refine fA b3 (lz a0.Choice 0 199 _ aJ) _ ?_;exact cR aO [.bool false]
theorem O1 (a0 r) (h:pk a0=some r):bf aF 68 [.str a0] (.tuple [bS r.1,.bool r.2]) []:=by
 refine cN [0] [.cell 2 69,.tmp 3] Tryz.func68 Ml λcy aO cJ=>aW ?_;obtain⟨aA,aJ,h⟩:=aU h;refine e7 (EY a0 ([32]:RD) _ aJ) _ ?_;refine bo aO λ_ kL dy bu=>aW ?_;refine bR h (λcA h=>?_) λcA h=>?_
 .refine cX (show∀s,ey aF s 69 []=some (.agg [.int .i64 0,.int .i64 0,.int .i64 0,.str ([]:RD)],s)from λs=>by kernel_rfl) _ ?_;exact cR dy [bS (aX.mk 0 0 0 ([]:RD)),.bool false]
 .refine bV (kL _ (inr ⟨[(2,.bC (.agg [.int .i64 0,.int .i64 0,.int .i64 0,.str ([]:RD)])),(4,.slice (aA.map cL)),(12,.bool ((aA.length:Int) !=5))],kv [] rfl (h_ rfl (ky (t:=4) (d:=.aE 1 (aA.map cL)) (aV:=.slice (aA.map cL)) rfl rfl (Kw rfl rfl (by simp only[kz,I.share,I.shares, @nU _ cL cL (λ_=>DY _)]<;>rfl)) (by decide) (h_ rfl (kx)))),?_⟩));obtain⟨aM,ec,h⟩:=aU h;obtain⟨aY,gd,h⟩:=aU h;refine fA (ai ec (@qh _ cL 1 λ_=>rfl)) (EZ aM _ gd) _ ?_;refine bo aO λ_ jA kM _=>aW ?_;refine bR h (λnh h=>?_) λnh h=>?_
  .refine cX (show∀s,ey aF s 69 []=some (.agg [.int .i64 0,.int .i64 0,.int .i64 0,.str ([]:RD)],s)from λs=>by kernel_rfl) _ ?_;exact cR kM [bS (aX.mk 0 0 0 ([]:RD)),.bool false]
  .refine bV (jA _ (inl ?_));obtain⟨bu,mj,h⟩:=aU h;obtain⟨bY,hR,h⟩:=aU h;obtain⟨dK,e8,h⟩:=aU h;obtain⟨c7,j1,h⟩:=aU h;refine Et (ai mj (ai (o6 (n:=0) mj) (ai hR (ai (o6 (n:=1) hR) (ai e8 (ai (o6 (n:=2) e8) (ai j1 (show∀s,ey aF s 69 [(0,.int .i64 bu),(1,.int .i64 bY),(2,.int .i64 dK),(3,.str c7)]=some (.agg [.int .i64 bu,.int .i64 bY,.int .i64 dK,.str c7],s)from λs=>by kernel_rfl)))))))) _ ?_;obtain⟨e4,j4,h⟩:=aU h;refine Nk (O0 (aX.mk bu bY dK c7) _ j4) _ ?_;exact cR aO [bS (aX.mk bu bY dK c7),.bool e4]
theorem O2 (a0 aw r) (h:qQ a0 aw=some r):bf aF 111 [.str a0,.int .i64 aw] (.int .i64 r) []:=by
 refine cN [0,1] [.tmp 4] Tryz.func111 Mm λcy aO cJ=>aW ?_;refine bo aO λ_ dv b8 aM=>?_;obtain⟨aA,bp,h⟩:=aU h;refine e7 (lz aw 0 65535 _ bp) _ ?_;refine bR h (λlM h=>?_) λlM h=>?_
 .exact cx b8 [.int .i64 0]
 .refine bV (dv _ (inl (aW ?_)));refine bo aO λ_ sZ pB _=>aW ?_;refine dd pB λO3 _ fY ig _=>?_;show bd aF (.loop ?O4) _ _;have zp:∀n l_ ma,mX a0 n l_ ma=some r->e1 aF ?O4 O3 (au [(0,.str a0),(5,.int .i64 l_),(12,.int .i64 (a0.length:Int)),(13,.int .i64 ma)]):=by
   refine gk λm16 zq l_ ma h=>gi fY λ_ jA kM zr=>aW ?_;refine bo kM λ_ lr _ zv=>bR h (λj3 h=>?_) λj3 h=>?_
   .refine bV (lr _ (inl (bo kM λ_ jB iL _=>dd iL λ_ kO td _ _=>aW ?_)));obtain⟨aM,j1,h⟩:=aU h;refine cX (ai j1 (@qg aF 5 2 .i64 rfl rfl)) _ ?_;refine aW ?_;refine dd td λzx _ zy ij _=>?_;show bd aF (.loop ?O5) _ _;have O6:∀n jZ kH ll,qP (mX a0 m16) a0 n jZ kH ll=some r->e1 aF ?O5 zx (au [(0,.str a0),(5,.int .i64 jZ),(12,.int .i64 (a0.length:Int)),(13,.int .i64 kH),(23,.int .i64 ll)]):=by
     refine gk λm32 O7 jZ kH ll h=>gi zy λO8 lu j2 vH=>aW ?_;refine bo j2 λ_ qV _ O9=>bR h (λkP h=>?_) λkP h=>?_
     .refine bV (qV _ (inl ?_));show bd aF (.seq _ ?O_) _ _;have E5:∀qM qN qO,vc (mX a0 m16) (qP (mX a0 m16) a0 m32) a0 qM qN qO=some r->bd aF ?O_ O8 (au [(0,.str a0),(5,.int .i64 qM),(12,.int .i64 (a0.length:Int)),(13,.int .i64 qN),(23,.int .i64 qO)]):=by
       intro qM qN qO h;refine gl ?_;exact lu _ (inr ⟨_,cU rfl,O7 qM qN (i64.wrap (qO+1)) h⟩)
      refine bo j2 λ_ mi py _=>dd py λ_ E6 _ _ _=>aW ?_;refine aW ?_;refine bR h (λzz h=>?_) λzz h=>?_
      .refine gl ?_;exact E6 _ (mi _ (inr ⟨_,cU rfl,E5 (bitsOf .xor .i64 (bitsOf .and .i64 (i64.wrap (jZ*2)) 65535) 4129) kH ll h⟩))
      .exact bV (E6 _ (mi _ (inr ⟨_,cU rfl,E5 (i64.wrap (jZ*2)) kH ll h⟩)))
     .refine fN (O9 2 _ (vH 2 _ (ij _ (kO _ (jB _ (inl (gl ?_)))))));exact jA _ (inr ⟨_,cU rfl,zq jZ (i64.wrap (kH+1)) h⟩)
    exact gr h λn h=>O6 n (bitsOf .xor .i64 l_ (i64.wrap ((aM.toNat:Int)*256))) ma 0 h
   .exact fN (zv 0 _ (zr 0 _ (ig _ (sZ _ (inl (cx aO [.int .i64 l_]))))))
  exact gr h λn h=>zp n aw 0 h
theorem Pa (a0 aw r) (h:pn a0 aw=some r):bf aF 70 [bS a0,.int .i64 aw] (.tuple [.str r.1,.int .i64 r.2]) []:=by
 refine cN [0] [.tmp 4,.tmp 5] Tryz.func70 c70 λcy aO cJ=>aW ?_;obtain⟨aA,aJ,h⟩:=aU h;obtain⟨vI,bp,h⟩:=aU h;(try simp only[fB.down,Nat.zero_add,Nat.add_zero,reduceAdd]at bp);obtain⟨vI,bJ,h⟩:=aU h;(try simp only[fB.down,Nat.zero_add,Nat.add_zero,reduceAdd]at bJ);refine sc rfl (sf [(1,.int .i64 aw),(6,.str ((aA++([32]:RD))++a0.Label))] (λP bX=>?_) ?_)
 ·(try simp only[kK.down,simprocAttr,(show∀s,dH aF s 22 3 [(0,.int .i64 a0.Choice),(1,.int .i64 a0.bP),(2,.int .i64 a0.Second)]=some (.aE 1 [.int .i64 a0.Choice,.int .i64 a0.bP,.int .i64 a0.Second],s)from λs=>by kernel_rfl),bp,js,jt,bJ]);refine qf (E2 [a0.Choice,a0.bP,a0.Second] ([32]:RD) _ aJ) rfl rfl (by simp only[kK.down,simprocAttr,(show∀s,dH aF s 22 3 [(0,.int .i64 a0.Choice),(1,.int .i64 a0.bP),(2,.int .i64 a0.Second)]=some (.aE 1 [.int .i64 a0.Choice,.int .i64 a0.bP,.int .i64 a0.Second],s)from λs=>by kernel_rfl),bp,js,jt,bJ,nT,n1,n2,kz,I.shares, @nU _ dU dU (λ_=>DX _)]<;>rfl) rfl (inr (by rfl)) ?_;simp only[kK.down,simprocAttr,(show∀s,dH aF s 22 3 [(0,.int .i64 a0.Choice),(1,.int .i64 a0.bP),(2,.int .i64 a0.Second)]=some (.aE 1 [.int .i64 a0.Choice,.int .i64 a0.bP,.int .i64 a0.Second],s)from λs=>by kernel_rfl),bp,js,jt,bJ];refine⟨sk (by kernel_rfl),?_⟩;exact d_ (ai (show∀s,dH aF s 22 3 [(0,.int .i64 a0.Choice),(1,.int .i64 a0.bP),(2,.int .i64 a0.Second)]=some (.aE 1 [.int .i64 a0.Choice,.int .i64 a0.bP,.int .i64 a0.Second],s)from λs=>by kernel_rfl) (ai bp (ai @js (ai @jt bJ))))
 obtain⟨aM,a7,h⟩:=aU h;refine e7 (O2 ((aA++([32]:RD))++a0.Label) aw _ a7) [(1,.int .i64 aM),(6,.str ((aA++([32]:RD))++a0.Label))] ?_;obtain⟨vI,ec,h⟩:=aU h;(try simp only[fB.down,Nat.zero_add,Nat.add_zero,reduceAdd]at ec);obtain⟨aY,gd,h⟩:=aU h;obtain⟨vI,hD,h⟩:=aU h;(try simp only[fB.down,Nat.zero_add,Nat.add_zero,reduceAdd]at hD);obtain⟨vI,fT,h⟩:=aU h;(try simp only[fB.down,Nat.zero_add,Nat.add_zero,reduceAdd]at fT);refine fA (ai ec (ai @js (ai @jt (ai hD fT)))) (E1 aM _ gd) [(4,.str (((((aA++([32]:RD))++a0.Label)++([32]:RD))++aY)++([10]:RD))),(5,.int .i64 aM)] ?_;exact cR aO [.str (((((aA++([32]:RD))++a0.Label)++([32]:RD))++aY)++([10]:RD)),.int .i64 aM]
theorem Pb (a0:RD) (r:RM×Int) (h:qR a0=some r):bf aF 40 [.str a0] (.tuple [.aE 4 (r.1.map bS),.int .i64 r.2]) []:=
 Nb Ou ET O1 Pa a0 r h
theorem E7 (a0 r) (h:sO a0=some r):bf aF 19 [.str a0] (.tuple [.aE 4 (r.1.map bS),.int .i64 r.2]) []:=by
 refine cN [0] [.tmp 2,.tmp 3] Tryz.func19 Mo λcy aO cJ=>aW ?_;refine bo aO λ_ dv b8 _=>aW ?_;refine bR h (λb3 h=>?_) λb3 h=>?_
 .refine aW ?_;exact ld (b8 _ (inr ⟨[(2,.aE 4 []),(3,.int .i64 0)],kv [] rfl (ky (t:=2) (d:=.bz) rfl rfl (.h5 _) (by decide) (h_ rfl (kx))),l0 [.aE 4 [],.int .i64 0]⟩))
 .refine bV (dv _ (inl ?_));obtain⟨aA,a7,h⟩:=aU h;refine e7 (Pb a0 _ a7) _ ?_;exact cx aO [.aE 4 (aA.1.map bS),.int .i64 aA.2]
theorem Pc (a0 aw r) (h:sP a0 aw=some r):bf aF 41 [bS a0,bS aw] (.bool r) []:=by
 refine cN [0,1] [.tmp 4] Tryz.func41 yL λcy aO cJ=>aW ?_;refine bo aO λ_ dv b8 _=>aW ?_;refine bR h (λb3 h=>?_) λb3 h=>?_
 .exact cx b8 [.bool false]
 .refine bV (dv _ (inl (bo aO λ_ hs iq _=>aW ?_)));refine bR h (λcF h=>?_) λcF h=>?_
  .exact cx iq [.bool false]
  .refine bV (hs _ (inl (bo aO λ_ fi fY _=>aW ?_)));refine bR h (λiK h=>?_) λiK h=>?_
   .exact cx fY [.bool false]
   .refine bV (fi _ (inl (bo aO λ_ px ly _=>aW ?_)));refine bR h (λnd h=>?_) λnd h=>?_
    .exact cx ly [.bool false]
    .exact bV (px _ (inl (cx aO [.bool true])))
theorem vJ (a0 aw r) (h:sQ a0 aw=some r):bf aF 20 [.slice (a0.map bS),.slice (aw.map bS)] (.bool r) []:=by
 refine cN [0,1] [.tmp 4] Tryz.func20 c20 λcy aO cJ=>aW ?_;refine bo aO λ_ dv b8 aM=>aW ?_;refine bR h (λb3 h=>?_) λb3 h=>?_
 .exact cx b8 [.bool false]
 .refine bV (dv _ (inl (bo aO λ_ hs iq _=>aW ?_)));refine dd iq λtb _ pB cF _=>?_;show bd aF (.loop ?zj) _ _;have s5:∀n ln,yH a0 aw n ln=some r->e1 aF ?zj tb (au [(0,.slice (a0.map bS)),(1,.slice (aw.map bS)),(5,.int .i64 ln)]):=by
   refine gk λ_ qX ln h=>gi pB λ_ gv fO fy=>bo fO λ_ fi _ gH=>aW ?_;refine bR h (λiK h=>?_) λiK h=>?_
   .refine bV (fi _ (inl (bo fO λ_ lr tc _=>dd tc λ_ px ly _ _=>?_)));obtain⟨aA,mj,h⟩:=aU h;obtain⟨aM,hR,h⟩:=aU h;obtain⟨aY,e8,h⟩:=aU h;refine Es (ai mj hR) (Pc aA aM _ e8) _ ?_;refine bR h (λpC h=>?_) λpC h=>?_
    .exact cx ly [.bool false]
    .refine bV (px _ (lr _ (inl (gl ?_))));exact gv _ (inr ⟨_,cU rfl,qX (i64.wrap (ln+1)) h⟩)
   .exact fN (gH 0 _ (fy 0 _ (cF _ (hs _ (inl (cx aO [.bool true]))))))
  exact gr h λn h=>s5 n 0 h
theorem E8 (a0 r) (h:sR a0=some r):bf aF 37 [.int .i64 a0] (.str r) []:=by
 refine cN [] [.tmp 2] Tryz.func37 c37 λcy aO cJ=>aW ?_;refine bo aO λ_ dv b8 _=>aW ?_;refine bR h (λb3 h=>?_) λb3 h=>?_
 .exact cx b8 [.str ([109,48]:RD)]
 .refine bV (dv _ (inl (aW ?_)));refine bo aO λ_ lq kV _=>dd kV λtb _ pB cF _=>?_;have s5:∀n ic ff,po n ic ff=some r->e1 aF D5 tb (au [(0,.int .i64 ic),(3,.str ff)]):=by
   refine gk λ_ qX ic ff h=>gi pB λ_ gv fO fy=>bo fO λ_ fi _ gH=>aW ?_;refine bR h (λiK h=>?_) λiK h=>?_
   .refine bV (fi _ (inl (dd fO λ_ lr _ _ _=>?_)));obtain⟨u16,hr,h⟩:=aU h;(try simp only[fB.down,Nat.zero_add,Nat.add_zero,reduceAdd]at hr);refine cX (ai (@Da .i64 10 (by decide)) (ai (@qg aF 3 5 .u8 rfl rfl) (ai (show∀s,dH aF s 98 1 [(0,.int .u8 (u8.wrap (i64.wrap (48+(Int.tmod ic 10)))))]=some (.aE 1 [.int .u8 (u8.wrap (i64.wrap (48+(Int.tmod ic 10))))],s)from λs=>by kernel_rfl) (ai ((@C6 aF 98 9 5 rfl rfl rfl).2.2) (ai @C9 (ai @C7 (ai hr (ai @js @jt)))))))) [(0,.int .i64 ic),(3,.str ([(hT (i64.wrap (48+(Int.tmod ic 10))))]++ff))] ?_;refine mg (@C_ .i64 10 (by decide)) [(0,.int .i64 (i64.wrap (Int.tdiv ic 10))),(3,.str ([(hT (i64.wrap (48+(Int.tmod ic 10))))]++ff))] ?_;exact lr _ (gv _ (inr ⟨_,cU rfl,qX (i64.wrap (Int.tdiv ic 10)) ([(hT (i64.wrap (48+(Int.tmod ic 10))))]++ff) h⟩))
   .refine fN (gH 0 _ (fy 0 _ (cF _ (lq _ (inl ?_)))));obtain⟨Ru,e8,h⟩:=aU h;(try simp only[fB.down,Nat.zero_add,Nat.add_zero,reduceAdd]at e8);refine cX (ai e8 (ai @js @jt)) [(2,.str (([109]:RD)++ff))] ?_;exact cR aO [.str (([109]:RD)++ff)]
  exact gr h λn h=>s5 n a0 ([]:RD) h
theorem Pd (a0 aw r) (h:vf a0 aw=some r):bf aF 21 [.aE 4 (a0.map bS),.int .i64 aw] (.int .i64 r.1) [.aE 4 (r.2.map bS),.hole]:=by
 refine cN [0] [.tmp 4] Tryz.func21 c21 λcy aO cJ=>aW ?_;refine bo aO λ_ dv b8 aM=>aW ?_;refine dd b8 λlv _ dy b3 bu=>?_;show bd aF (.loop ?iX) _ _;have lx:∀n gj b1 bZ,qS n gj b1 bZ=some r->e1 aF ?iX lv (au [(0,.aE 4 (gj.map bS)),(1,.int .i64 b1),(5,.int .i64 bZ)]):=by
  refine gk λ_ kN gj b1 bZ h=>gi dy λ_ hQ eZ bY=>bo eZ λ_ hs _ dK=>aW ?_;refine bR h (λcF h=>?_) λcF h=>?_
  .refine bV (hs _ (inl (bo eZ λ_ gv fO _=>dd fO λ_ fi _ _ _=>?_)));obtain⟨aA,fT,h⟩:=aU h;refine eB (dR [(0,.aE 4 ((List.set gj (Int.toNat bZ) (aX.mk b1 aA.bP aA.Second aA.Label)).map bS)),(1,.int .i64 b1),(5,.int .i64 bZ)] (λP bX=>?_) ?_)
   .simp only[br.down,simprocAttr,fT,gZ fT,iB,cO];exact d_ (ai fT (ai (gZ fT) @iB))
   refine ws [(0,.aE 4 ((List.set gj (Int.toNat bZ) (aX.mk b1 aA.bP aA.Second aA.Label)).map bS)),(1,.int .i64 (i64.wrap (b1+1))),(5,.int .i64 bZ)] ?_;obtain⟨aM,hr,h⟩:=aU h;refine eB (dR [(0,.aE 4 ((List.set (List.set gj (Int.toNat bZ) (aX.mk b1 aA.bP aA.Second aA.Label)) (Int.toNat bZ) (aX.mk aM.Choice (i64.wrap (b1+1)) aM.Second aM.Label)).map bS)),(1,.int .i64 (i64.wrap (b1+1))),(5,.int .i64 bZ)] (λP bX=>?_) ?_)
   .simp only[br.down,simprocAttr,hr,gZ hr,iB,cO];exact d_ (ai hr (ai (gZ hr) @iB))
   refine ws [(0,.aE 4 ((List.set (List.set gj (Int.toNat bZ) (aX.mk b1 aA.bP aA.Second aA.Label)) (Int.toNat bZ) (aX.mk aM.Choice (i64.wrap (b1+1)) aM.Second aM.Label)).map bS)),(1,.int .i64 (i64.wrap ((i64.wrap (b1+1))+1))),(5,.int .i64 bZ)] ?_;obtain⟨aY,e8,h⟩:=aU h;refine eB (dR [(0,.aE 4 ((List.set (List.set (List.set gj (Int.toNat bZ) (aX.mk b1 aA.bP aA.Second aA.Label)) (Int.toNat bZ) (aX.mk aM.Choice (i64.wrap (b1+1)) aM.Second aM.Label)) (Int.toNat bZ) (aX.mk aY.Choice aY.bP (i64.wrap ((i64.wrap (b1+1))+1)) aY.Label)).map bS)),(1,.int .i64 (i64.wrap ((i64.wrap (b1+1))+1))),(5,.int .i64 bZ)] (λP bX=>?_) ?_)
   .simp only[br.down,simprocAttr,e8,gZ e8,iB,cO];exact d_ (ai e8 (ai (gZ e8) @iB))
   refine ws [(0,.aE 4 ((List.set (List.set (List.set gj (Int.toNat bZ) (aX.mk b1 aA.bP aA.Second aA.Label)) (Int.toNat bZ) (aX.mk aM.Choice (i64.wrap (b1+1)) aM.Second aM.Label)) (Int.toNat bZ) (aX.mk aY.Choice aY.bP (i64.wrap ((i64.wrap (b1+1))+1)) aY.Label)).map bS)),(1,.int .i64 (i64.wrap ((i64.wrap ((i64.wrap (b1+1))+1))+1))),(5,.int .i64 bZ)] ?_;obtain⟨bu,j4,h⟩:=aU h;obtain⟨bY,hP,h⟩:=aU h;refine eB (dR [(0,.aE 4 ((List.set (List.set (List.set (List.set gj (Int.toNat bZ) (aX.mk b1 aA.bP aA.Second aA.Label)) (Int.toNat bZ) (aX.mk aM.Choice (i64.wrap (b1+1)) aM.Second aM.Label)) (Int.toNat bZ) (aX.mk aY.Choice aY.bP (i64.wrap ((i64.wrap (b1+1))+1)) aY.Label)) (Int.toNat bZ) (aX.mk bY.Choice bY.bP bY.Second bu)).map bS)),(1,.int .i64 (i64.wrap ((i64.wrap ((i64.wrap (b1+1))+1))+1))),(5,.int .i64 bZ)] (λP bX=>?_) ?_)
   ·(try simp only[br.down,simprocAttr,hP,gZ hP,iB,cO]);refine e2 (E8 (i64.wrap ((i64.wrap ((i64.wrap (b1+1))+1))+1)) _ j4) (hK:= ?_);simp only[br.down,simprocAttr,hP,gZ hP,iB,cO];exact d_ (ai hP (ai (gZ hP) @iB))
   refine wr [(0,.aE 4 ((List.set (List.set (List.set (List.set gj (Int.toNat bZ) (aX.mk b1 aA.bP aA.Second aA.Label)) (Int.toNat bZ) (aX.mk aM.Choice (i64.wrap (b1+1)) aM.Second aM.Label)) (Int.toNat bZ) (aX.mk aY.Choice aY.bP (i64.wrap ((i64.wrap (b1+1))+1)) aY.Label)) (Int.toNat bZ) (aX.mk bY.Choice bY.bP bY.Second bu)).map bS)),(1,.int .i64 (i64.wrap ((i64.wrap ((i64.wrap ((i64.wrap (b1+1))+1))+1))+1))),(5,.int .i64 bZ)] ?_;refine fi _ (gv _ (inl (wr [(0,.aE 4 ((List.set (List.set (List.set (List.set gj (Int.toNat bZ) (aX.mk b1 aA.bP aA.Second aA.Label)) (Int.toNat bZ) (aX.mk aM.Choice (i64.wrap (b1+1)) aM.Second aM.Label)) (Int.toNat bZ) (aX.mk aY.Choice aY.bP (i64.wrap ((i64.wrap (b1+1))+1)) aY.Label)) (Int.toNat bZ) (aX.mk bY.Choice bY.bP bY.Second bu)).map bS)),(1,.int .i64 (i64.wrap ((i64.wrap ((i64.wrap ((i64.wrap (b1+1))+1))+1))+1))),(5,.int .i64 (i64.wrap (bZ+1)))] ?_)));exact hQ _ (inr ⟨_,cU rfl,kN (List.set (List.set (List.set (List.set gj (Int.toNat bZ) (aX.mk b1 aA.bP aA.Second aA.Label)) (Int.toNat bZ) (aX.mk aM.Choice (i64.wrap (b1+1)) aM.Second aM.Label)) (Int.toNat bZ) (aX.mk aY.Choice aY.bP (i64.wrap ((i64.wrap (b1+1))+1)) aY.Label)) (Int.toNat bZ) (aX.mk bY.Choice bY.bP bY.Second bu)) (i64.wrap ((i64.wrap ((i64.wrap ((i64.wrap (b1+1))+1))+1))+1)) (i64.wrap (bZ+1)) h⟩)
  .refine fN (dK 0 _ (bY 0 _ (b3 _ (dv _ (inl (aW ?_))))));exact ld (aO _ (inl (C2 [.int .i64 b1] rfl (by cases jc h;rfl) (by decide) (Kr (Kt (by cases jc h;rfl) rfl rfl rfl (Ks (Ku)))))))
 exact gr h λn h=>lx n a0 aw 0 h
theorem E9 (a0 aw r) (h:sS a0 aw=some r):bf aF 22 [.slice (a0.map bS),.int .i64 aw] (.int .i64 r) []:=by
 refine cN [0] [.tmp 4] Tryz.func22 Mp λcy aO cJ=>aW ?_;refine bo aO λ_ dv b8 aM=>aW ?_;refine dd b8 λlv _ dy b3 _=>?_;show bd aF (.loop ?iX) _ _;have lx:∀n b1 bZ,qT a0 n b1 bZ=some r->e1 aF ?iX lv (au [(0,.slice (a0.map bS)),(1,.int .i64 b1),(5,.int .i64 bZ)]):=by
  refine gk λ_ kN b1 bZ h=>gi dy λ_ hQ eZ bY=>bo eZ λ_ hs _ dK=>aW ?_;refine bR h (λcF h=>?_) λcF h=>?_
  .refine bV (hs _ (inl (bo eZ λ_ gv fO _=>dd fO λ_ fi fY _ _=>bo fY λ_ jA kM _=>?_)));obtain⟨aA,hE,h⟩:=aU h;refine cX hE _ ?_;refine bR h (λj3 h=>?_) λj3 h=>?_
   .exact cx kM [.int .i64 (-1)]
   .refine bV (jA _ (inl (aW ?_)));refine bo fY λ_ vE y8 _=>cX hE _ ?_;refine bR h (λpC h=>?_) λpC h=>?_
    .exact cx y8 [.int .i64 (-1)]
    .refine bV (vE _ (inl (aW ?_)));refine bo fY λ_ lu j2 _=>cX hE _ ?_;refine bR h (λjC h=>?_) λjC h=>?_
     .exact cx j2 [.int .i64 (-1)]
     .refine bV (lu _ (inl (aW ?_)));refine bo fY λ_ Pe Pf _=>?_;obtain⟨aM,Pg,h⟩:=aU h;refine Es hE (E8 (i64.wrap ((i64.wrap ((i64.wrap (b1+1))+1))+1)) _ Pg) _ ?_;refine bR h (λPh h=>?_) λPh h=>?_
      .exact cx Pf [.int .i64 (-1)]
      .refine bV (Pe _ (inl (gl ?_)));refine fi _ (gv _ (inl (gl ?_)));exact hQ _ (inr ⟨_,cU rfl,kN (i64.wrap ((i64.wrap ((i64.wrap ((i64.wrap (b1+1))+1))+1))+1)) (i64.wrap (bZ+1)) h⟩)
  .exact fN (dK 0 _ (bY 0 _ (b3 _ (dv _ (inl (cx aO [.int .i64 b1]))))))
 exact gr h λn h=>lx n aw 0 h
theorem Pj (a0 r) (h:yK a0=some r):bf aF 4 [.str a0] (.bool r) []:=by
 refine cN [0] [.tmp 2] Tryz.func4 c4 λcy aO cJ=>aW ?_;refine bo aO λ_ dv b8 aM=>aW ?_;refine bR h (λb3 h=>?_) λb3 h=>?_
 .exact cx b8 [.bool true]
 .refine bV (dv _ (inl ?_));obtain⟨aA,a7,h⟩:=aU h;refine e7 (Oq a0 _ a7) _ ?_;obtain⟨aM,ec,h⟩:=aU h;refine e7 (E7 a0 _ ec) _ ?_;refine bo aO λ_ fi fY _=>?_;obtain⟨aY,fT,h⟩:=aU h;refine eB (dR [(0,.str a0),(3,.aE 4 (aA.1.map bS)),(4,.int .i64 aA.2),(5,.aE 4 (aM.1.map bS)),(32,.bool ((!aY)||(aM.2 !=aA.2)))] (λP bX=>?_) ?_)
  .rcases Bool.eq_false_or_eq_true (aY)with ni|ni
   ·(try simp only[br.down,simprocAttr,ni]);refine e2 (vJ aM.1 aA.1 _ fT) rfl rfl (by simp only[br.down,simprocAttr,ni,vw.down]<;>rfl) rfl (inr (by rfl)) ?_;simp only[br.down,simprocAttr,ni];exact d_ ni
   ·(try simp only[br.down,simprocAttr,ni]);refine e2 (vJ aM.1 aA.1 _ fT) rfl rfl (by simp only[br.down,simprocAttr,ni,vw.down]<;>rfl) rfl (inr (by rfl)) ?_;simp only[br.down,simprocAttr,ni];exact d_ ni
  refine bR h (λj3 h=>?_) λj3 h=>?_
  .exact cx fY [.bool false]
  .refine bV (fi _ (inl (aW ?_)));obtain⟨bu,e8,h⟩:=aU h;refine eB (dR [(0,.str a0),(3,.aE 4 (aA.1.map bS)),(4,.int .i64 aA.2),(5,.aE 4 (bu.2.map bS)),(7,.int .i64 bu.1)] (λP bX=>?_) ?_)
   ·(try simp only[br.down,simprocAttr]);refine Kn [⟨.h 5 [],true,_,_⟩,⟨.int .i64 1,false,_,.hole⟩] (Pd aM.1 1 _ e8) rfl rfl rfl (by simp only[br.down,simprocAttr,Dm,Ko,Kp,nT,n1,n2,kz,or_true,true_or, @nU _ bS bS (λ_=>vg _)]) rfl rfl (inl rfl) ?_;simp only[br.down,simprocAttr,Kq];exact d_ trivial
   refine aW ?_;obtain⟨bY,j4,h⟩:=aU h;refine eB (dR [(0,.str a0),(3,.aE 4 (aA.1.map bS)),(4,.int .i64 aA.2),(5,.aE 4 (bu.2.map bS)),(7,.int .i64 bu.1),(8,.int .i64 bY)] (λP bX=>?_) ?_)
   ·(try simp only[br.down,simprocAttr]);refine e2 (E9 bu.2 1 _ j4) rfl rfl (by simp only[br.down,simprocAttr,Ex.down]<;>rfl) rfl (inr (by rfl)) ?_;simp only[br.down,simprocAttr];exact d_ trivial
   refine bo aO λ_ lu j2 _=>aW ?_;refine bR h (λjC h=>?_) λjC h=>?_
   .exact cx j2 [.bool false]
   .refine bV (lu _ (inl (bo aO λ_ mi py _=>aW ?_)));refine bR h (λng h=>?_) λng h=>?_
    .exact cx py [.bool false]
    .refine bV (mi _ (inl ?_));obtain⟨dK,zu,h⟩:=aU h;refine e7 (E7 a0 _ zu) _ ?_;refine bo aO λ_ vz Pk _=>?_;obtain⟨c7,pD,h⟩:=aU h;refine eB (dR [(5,.aE 4 (bu.2.map bS)),(7,.int .i64 bu.1),(57,.bool ((!c7)||(dK.2 !=aA.2)))] (λP bX=>?_) ?_)
     .rcases Bool.eq_false_or_eq_true (c7)with nj|nj
      ·(try simp only[br.down,simprocAttr,nj]);refine e2 (vJ dK.1 aA.1 _ pD) rfl rfl (by simp only[br.down,simprocAttr,nj,vw.down]<;>rfl) rfl (inr (by rfl)) ?_;simp only[br.down,simprocAttr,nj];exact d_ nj
      ·(try simp only[br.down,simprocAttr,nj]);refine e2 (vJ dK.1 aA.1 _ pD) rfl rfl (by simp only[br.down,simprocAttr,nj,vw.down]<;>rfl) rfl (inr (by rfl)) ?_;simp only[br.down,simprocAttr,nj];exact d_ nj
     refine bR h (λs9 h=>?_) λs9 h=>?_
     .exact cx Pk [.bool false]
     .refine bV (vz _ (inl (aW ?_)));obtain⟨e4,Pl,h⟩:=aU h;refine eB (dR [(7,.int .i64 bu.1),(8,.int .i64 e4)] (λP bX=>?_) ?_)
      ·(try simp only[br.down,simprocAttr]);refine e2 (E9 bu.2 1 _ Pl) rfl rfl (by simp only[br.down,simprocAttr,Ex.down]<;>rfl) rfl (inr (by rfl)) ?_;simp only[br.down,simprocAttr];exact d_ trivial
      refine bo aO λ_ zc vA _=>aW ?_;refine bR h (λPm h=>?_) λPm h=>?_
      .exact cx vA [.bool false]
      .refine bV (zc _ (inl (bo aO λ_ s4 zd _=>aW ?_)));refine bR h (λPn h=>?_) λPn h=>?_
       .exact cx zd [.bool false]
       .exact bV (s4 _ (inl (cx aO [.bool true])))
end Go.Proofs.YteloniioljdceaaGreatDoor
