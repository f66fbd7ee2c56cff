/- Part of a proof that a law returns true for every input. No condition. -/
import Derived.Test.YtpdplcdnpaoceaaC4
namespace Go.Proofs.Ytpdplcdnpaoceaa
open Option Go.IntKind Nat Or
open Go Go.cM Go.nI
set_option maxRecDepth 100000
set_option maxHeartbeats 2000000
set_option linter.unusedSimpArgs false
set_option linter.unusedVariables false
theorem ca (fx:Xt) (dr:List ResultVar) {f:FuncId} {fn:Func} {ins outs:Xy} {r:I} (bk:ay.P.funcs[f]? =some fn) (dt:aL)
 (Ad:∀Q:Exit->ah->Prop,(∀s,dC (cM.Ends ay fx dr r outs) s->Q .ret s)->(∀s,dC (cM.Ends ay fx dr r outs) s->Q .normal s)->bc ay dt Q (au (num 0 ins))) (aa:eN ⟨fn.ntmps,fx⟩ (fn.body.getD .skip)=some dt.strip:=by kernel_rfl) (U:fn.body=some (fn.body.getD .skip):=by rfl) (jF:(fn.name== "runtime.NumGoroutine")=false:=by rfl) (aU:ins.length<=fn.ntmps:=by exact le_of_ble_eq_true rfl) (e7:fn.results.toList=dr:=by rfl) (ao:dt.plain=true:=by kernel_rfl):bb ay f ins r outs:=
 bb.Hc Hq dr (num 0 ins) bk U jF aa aU e7 rfl Ad ao
theorem eg {P:Nat->Prop} (s:∀m,P m->P (m+1)) (z:P 0:=by intros;rename_i h;cases(show none=some _ from h)):∀n,P n:=λn=>Nat.rec z s n
def Cl:=PLift.up (ae @A8 (ae @Ph (ae @Pj (ae @Pk (ae @Pl (ae @Pm (ae @Pn (ae @Po (ae @Pp (ae @Pq (ae @Pr (ae @Ps (ae @Pt (ae @Pu (ae @Pv (ae @Pw (ae @Px (ae @A9 (ae @Py (ae @Pz (ae @PA (ae @PB (ae @PC (ae @PD (ae @jf.eq_1 (ae @gd.eq_1 (ae @aR.eq_1 (ae @cQ.eq_1 (ae @dN.eq_1 (ae @aW.eq_1 (ae @ya (ae @ka.eq_1 (ae @gI.eq_1 (ae @hb.eq_1 (ae @fo.eq_1 (ae @dv.eq_1 (ae @gS.eq_1 (ae @kb.eq_1 (ae @x_ (ae @nT.eq_1 (ae @eR.eq_1 (ae @PU (ae @hc.eq_1 @hq.eq_1)))))))))))))))))))))))))))))))))))))))))))
def aZ:=PLift.up (ae OD.down Cl.down)
def gT:=PLift.up (ae OE.down Cl.down)
def iv:=PLift.up (ae OG.down Cl.down)
theorem cv {F A:Prop} (f:F) (h:F->A:=by intro a1;(try simp only[iv.down,simprocAttr,a1,da,eO,eA,dB,I.dz,I.shares]at bs⊢);exact bs):A:=h f
theorem wr {Q l ros k} (bU:Xx) (ai:Q .normal (au bU)) (h:∀P:Xx->Prop,P bU->cw ay (au l) ros none (λ_ s=>P (fB k s)):=by
 intro P bs;simp only[aZ.down,simprocAttr,da,eO,eA,dB];(try simp only[iv.down,simprocAttr,da,eO,eA,dB]at bs⊢);exact bs):bc ay (.eM ros (some k)) Q (au l):=
 jG (cB bU (h) ai)
theorem fp {Q l ros k} {bU:Xx} (ai:Q .normal (au bU)) (h:∀P:Xx->Prop,P bU->cw ay (au l) ros none (λ_ s=>P (fB k s)):=by
 intro P bs;simp only[aZ.down,simprocAttr,da,eO,eA,dB];(try simp only[iv.down,simprocAttr,da,eO,eA,dB]at bs⊢);exact bs):bc ay (.eM ros (some k)) Q (au l):=
 jG (cB bU (h) ai)
theorem Cm {Q l ros k g ds r} (ok:bb ay g ds r []) (bU:Xx) (ai:Q .normal (au bU)) (h:bb ay g ds r []->∀P:Xx->Prop,P bU->cw ay (au l) ros none (λ_ s=>P (fB k s)):=by
 intro k6 P bs;(try simp only[aZ.down,simprocAttr,da,eO,eA,dB]);(first|refine du k6 rfl rfl rfl rfl (inl (by rfl)) ?_|refine ku k6 rfl rfl rfl rfl (inl (by rfl)) ?_);simp only[aZ.down,simprocAttr,da,eO,eA,dB];(try simp only[iv.down,simprocAttr,da,eO,eA,dB]at bs⊢);exact bs):bc ay (.eM ros (some k)) Q (au l):=
 jG (cB bU (h ok) ai)
theorem RE {Q l ros k g ds r} {F:Prop} (a1:F) (ok:bb ay g ds r []) (bU:Xx) (ai:Q .normal (au bU)) (h:bb ay g ds r []->F->∀P:Xx->Prop,P bU->cw ay (au l) ros none (λ_ s=>P (fB k s)):=by
 intro k6 a1 P bs;(try simp only[aZ.down,simprocAttr,a1,da,eO,eA,dB]);(first|refine du k6 rfl rfl rfl rfl (inl (by rfl)) ?_|refine ku k6 rfl rfl rfl rfl (inl (by rfl)) ?_);simp only[aZ.down,simprocAttr,a1,da,eO,eA,dB];(try simp only[iv.down,simprocAttr,a1,da,eO,eA,dB]at bs⊢);exact bs):bc ay (.eM ros (some k)) Q (au l):=
 jG (cB bU (h ok a1) ai)
theorem mY {Q l ros k} {F:Prop} (a1:F) (bU:Xx) (ai:Q .normal (au bU)) (h:F->∀P:Xx->Prop,P bU->cw ay (au l) ros none (λ_ s=>P (fB k s)):=by
 intro a1 P bs;simp only[aZ.down,simprocAttr,a1,da,eO,eA,dB];(try simp only[iv.down,simprocAttr,a1,da,eO,eA,dB]at bs⊢);exact bs):bc ay (.eM ros (some k)) Q (au l):=
 jG (cB bU (h a1) ai)
theorem RF {Q l ros k} (e:Bool) (bU:Xx) (ai:Q .normal (au bU)) (h:∀c,e=c->∀P:Xx->Prop,P bU->cw ay (au l) ros none (λ_ s=>P (fB k s)):=by
 intro c aj P bs;cases c;all_goals
  (try simp only[List.length_replicate]at aj);simp only[aZ.down,simprocAttr,aj,da,eO,eA,dB];(try simp only[iv.down,simprocAttr,aj,da,eO,eA,dB]at bs⊢);exact bs):bc ay (.eM ros (some k)) Q (au l):=
 jG (cB bU (h e rfl) ai)
theorem ws {Q l ros k b} (bU:Xx) (ai:bc ay b Q (au bU)) (h:∀P:Xx->Prop,P bU->cw ay (au l) ros none (λ_ s=>P (fB k s)):=by
 intro P bs;simp only[aZ.down,simprocAttr,da,eO,eA,dB];(try simp only[iv.down,simprocAttr,da,eO,eA,dB]at bs⊢);exact bs):bc ay (.seq (.eM ros (some k)) b) Q (au l):=
 df (cB bU (h) ai)
theorem aH {Q l ros k b} {bU:Xx} (ai:bc ay b Q (au bU)) (h:∀P:Xx->Prop,P bU->cw ay (au l) ros none (λ_ s=>P (fB k s)):=by
 intro P bs;simp only[aZ.down,simprocAttr,da,eO,eA,dB];(try simp only[iv.down,simprocAttr,da,eO,eA,dB]at bs⊢);exact bs):bc ay (.seq (.eM ros (some k)) b) Q (au l):=
 df (cB bU (h) ai)
theorem bl {Q l ros k fx dr r} {bU:Xx} (ia:∀s,dC (cM.Ends ay fx dr r []) s->Q .ret s) (ds:Xy) (h:∀P:Xx->Prop,P bU->cw ay (au l) ros none (λ_ s=>P (fB k s)):=by
 intro P bs;simp only[aZ.down,simprocAttr,da,eO,eA,dB];(try simp only[iv.down,simprocAttr,da,eO,eA,dB]at bs⊢);exact bs) (ad:r=wN ds:=by cases ki (by assumption);rfl) (ab:dr.map (mN ay (au bU))=ds.map some:=by rfl) (aB:(dr.map hE).Nodup:=by decide):bc ay (.seq (.eM ros (some k)) .ret) Q (au l):=
 ws bU (ct ia ds ad ab aB) h
theorem dk {Q l ros k b g ds r} (ok:bb ay g ds r []) (bU:Xx) (ai:bc ay b Q (au bU)) (h:bb ay g ds r []->∀P:Xx->Prop,P bU->cw ay (au l) ros none (λ_ s=>P (fB k s)):=by
 intro k6 P bs;(try simp only[aZ.down,simprocAttr,da,eO,eA,dB]);(first|refine du k6 rfl rfl rfl rfl (inl (by rfl)) ?_|refine ku k6 rfl rfl rfl rfl (inl (by rfl)) ?_);simp only[aZ.down,simprocAttr,da,eO,eA,dB];(try simp only[iv.down,simprocAttr,da,eO,eA,dB]at bs⊢);exact bs):bc ay (.seq (.eM ros (some k)) b) Q (au l):=
 df (cB bU (h ok) ai)
theorem eS {Q l ros k b g ds r} {F:Prop} (a1:F) (ok:bb ay g ds r []) (bU:Xx) (ai:bc ay b Q (au bU)) (h:bb ay g ds r []->F->∀P:Xx->Prop,P bU->cw ay (au l) ros none (λ_ s=>P (fB k s)):=by
 intro k6 a1 P bs;(try simp only[aZ.down,simprocAttr,a1,da,eO,eA,dB]);(first|refine du k6 rfl rfl rfl rfl (inl (by rfl)) ?_|refine ku k6 rfl rfl rfl rfl (inl (by rfl)) ?_);simp only[aZ.down,simprocAttr,a1,da,eO,eA,dB];(try simp only[iv.down,simprocAttr,a1,da,eO,eA,dB]at bs⊢);exact bs):bc ay (.seq (.eM ros (some k)) b) Q (au l):=
 df (cB bU (h ok a1) ai)
theorem sR {Q l ros k b eE g ds r} {F:Prop} (a1:F) (ok:bb ay g ds r []) (bU:Xx) (ai:bc ay b Q (au bU)) (h:bb ay g ds r []->F->∀P:Xx->Prop,P bU->cw ay (au l) ros (some []) (λacc s=>j3 (pv eE) 0 [] (acc.getD []).reverse=true/\P (fB k s)):=by
 intro k6 a1 P bs;(try simp only[gT.down,simprocAttr,a1,da,eO,eA,dB]);(first|refine lk k6 rfl rfl rfl rfl (inl (by rfl)) ?_|refine Ax k6 rfl rfl rfl rfl (inl (by rfl)) ?_);simp only[gT.down,simprocAttr,a1,da,eO,eA,dB];refine⟨pG (by kernel_rfl),?_⟩;(try simp only[iv.down,simprocAttr,a1,da,eO,eA,dB]at bs⊢);exact bs) (hl:eE.length=ros.length:=by rfl):bc ay (.seq (.jl ros eE (some k)) b) Q (au l):=
 qH hl (qJ bU (h ok a1) ai)
theorem vc {Q l ros k b eE} {F:Prop} (a1:F) (bU:Xx) (ai:bc ay b Q (au bU)) (h:F->∀P:Xx->Prop,P bU->cw ay (au l) ros (some []) (λacc s=>j3 (pv eE) 0 [] (acc.getD []).reverse=true/\P (fB k s)):=by
 intro a1 P bs;simp only[gT.down,simprocAttr,a1,da,eO,eA,dB];refine⟨pG (by kernel_rfl),?_⟩;(try simp only[iv.down,simprocAttr,a1,da,eO,eA,dB]at bs⊢);exact bs) (hl:eE.length=ros.length:=by rfl):bc ay (.seq (.jl ros eE (some k)) b) Q (au l):=
 qH hl (qJ bU (h a1) ai)
theorem dh {Q l ros k b} {F:Prop} (a1:F) (bU:Xx) (ai:bc ay b Q (au bU)) (h:F->∀P:Xx->Prop,P bU->cw ay (au l) ros none (λ_ s=>P (fB k s)):=by
 intro a1 P bs;simp only[aZ.down,simprocAttr,a1,da,eO,eA,dB];(try simp only[iv.down,simprocAttr,a1,da,eO,eA,dB]at bs⊢);exact bs):bc ay (.seq (.eM ros (some k)) b) Q (au l):=
 df (cB bU (h a1) ai)
theorem vd {Q l ros k b} {F:Prop} (a1:F) (bU:Xx) (ai:bc ay b Q (au bU)) (h:F->∀P:Xx->Prop,P bU->cw ay (au l) ros none (λ_ s=>P (fB k s)):=by
 intro a1 P bs;simp only[aZ.down,simprocAttr,a1,da,eO,eA,dB,-Int.reduceNatCast'];(try simp only[iv.down,simprocAttr,a1,da,eO,eA,dB,-Int.reduceNatCast']at bs⊢);exact bs):bc ay (.seq (.eM ros (some k)) b) Q (au l):=
 df (cB bU (h a1) ai)
theorem ra {Q l ros k b} (e:Bool) (bU:Xx) (ai:bc ay b Q (au bU)) (h:∀c,e=c->∀P:Xx->Prop,P bU->cw ay (au l) ros none (λ_ s=>P (fB k s)):=by
 intro c aj P bs;cases c;all_goals
  (try simp only[List.length_replicate]at aj);simp only[aZ.down,simprocAttr,aj,da,eO,eA,dB];(try simp only[iv.down,simprocAttr,aj,da,eO,eA,dB]at bs⊢);exact bs):bc ay (.seq (.eM ros (some k)) b) Q (au l):=
 df (cB bU (h e rfl) ai)
theorem RG {Q l ros k b} (e:Bool) {F:Prop} (a1:F) (bU:Xx) (ai:bc ay b Q (au bU)) (h:F->∀c,e=c->∀P:Xx->Prop,P bU->cw ay (au l) ros none (λ_ s=>P (fB k s)):=by
 intro a1 c aj P bs;cases c;all_goals
  (try simp only[List.length_replicate]at aj);simp only[aZ.down,simprocAttr,aj,a1,da,eO,eA,dB];(try simp only[iv.down,simprocAttr,aj,a1,da,eO,eA,dB]at bs⊢);exact bs):bc ay (.seq (.eM ros (some k)) b) Q (au l):=
 df (cB bU (h a1 e rfl) ai)
def jK:=PLift.up (ae @List.length_append.{0} (ae @List.length_cons.{0} (ae @List.length_nil.{0} (ae @List.length_map.{0,0} @List.length_replicate.{0}))))
def sS:=PLift.up (ae @iW (ae @i0 (ae @i1 @dM)))
def sT:=PLift.up (ae @iW (ae @i0 (ae @i1 (ae @dM (ae (@cT _ aR aR (λ_=>hp _)) (@cT _ aR aR (λ_=>hp _)))))))
def yd:=PLift.up (ae @iW (ae @i0 (ae @i1 (ae @dM (@cT _ aR aR (λ_=>hp _))))))
def Cn:=PLift.up (ae @iW (ae @i0 (ae @i1 (ae @dM (ae (@cT _ aR aR (λ_=>hp _)) (@cT _ dN dN (λ_=>u_ _)))))))
def Co:=PLift.up (ae @N1 (ae @NX (ae @dM (ae @NW (ae (@cT _ aW aW (λ_=>lv _)) (ae (@cT _ dv dv (λ_=>sQ _)) (@cT _ kb kb (λ_=>PR _))))))))
def Cp:=PLift.up (ae @iW (ae @i0 (ae @i1 (ae @dM (ae (@cT _ dv dv (λ_=>sQ _)) (ae (@cT _ aR aR (λ_=>hp _)) (ae (@cT _ aW aW (λ_=>lv _)) (ae (@cT _ dv dv (λ_=>sQ _)) (@cT _ dv dv (λ_=>sQ _))))))))))
def Cq:=PLift.up (ae @iW (ae @i0 (ae @i1 (ae @dM (ae (@cT _ aR aR (λ_=>hp _)) (@cT _ eR dN (λ_=>q_ _)))))))
def HS:=PLift.up (ae @iW (ae @i0 (ae @i1 (ae @dM (@cT _ gd gd (λ_=>PS _))))))
def HT:=PLift.up (ae @GO (ae (λs x h=> @GN ay s 45 44 x rfl h) (ae @N4 (ae @N3 (ae @N5 (ae @N0 (ae @List.map_replicate.{0,0} (ae (λs y q=>(uw ay s 45 y q).1) (ae (λs y q=>(uw ay s 45 y q).2.1) (ae (λs y q=>(uw ay s 45 y q).2.2) @N6))))))))))
def HU:=PLift.up (ae (@NB ay 93 89 1 1 [.cJ] rfl rfl rfl (by kernel_rfl)) (ae @NC (ae @ND (ae @gH (ae @j8 (ae @List.nil_append.{0} (ae @List.cons_append.{0} (ae (@j5 ay 93 93 89 rfl rfl) (ae @j6 (ae @j7 (ae @j4 (ae @all_nil (@iZ _ hc 1 (λ_=>rfl))))))))))))))
def HV:=PLift.up (ae (λs y q=>(uw ay s 22 y q).1) (λs y q=>(uw ay s 22 y q).2.1))
def HW:=PLift.up (ae @pD (ae @nD (ae @iW (ae @i0 (ae @i1 (ae @dM (ae @or_true (ae @true_or (@cT _ aW aW (λ_=>lv _))))))))))
def HX:=PLift.up (ae @pD (ae @nD (ae @iW (ae @i0 (ae @i1 (ae @dM (ae @or_true (ae @true_or (@cT _ hq dv (λ_=>Ce _))))))))))
theorem HY (J ag r) (h:uG J ag=some r):bb ay 17 [.slice (J.map aR),.int .i64 ag] (.int .i64 r) []:=by
 refine ca [0] [.tmp 4] Try.func17 PX λb3 aC b2=>aH ?_;refine aH ?_;refine aT aC λ_ h6 e5 _=>aH ?_;refine a8 h (λc0 h=>?_) λc0 h=>?_
 .exact bl e5 [.int .i64 (-1)]
 .exact bd (h6 _ (inl (bl aC [.int .i64 (i64.wrap (ag-(J.length:Int)))])))
theorem HZ (J ag r) (h:sb J ag=some r):bb ay 68 [.slice (J.map hb),.int .i64 ag] (.int .i64 r) []:=by
 refine ca [0] [.tmp 4] Try.func68 PY λb3 aC b2=>aH ?_;refine aH ?_;refine aT aC λ_ h6 e5 _=>aH ?_;refine a8 h (λc0 h=>?_) λc0 h=>?_
 .exact bl e5 [.int .i64 (-1)]
 .exact bd (h6 _ (inl (bl aC [.int .i64 (i64.wrap (ag-(J.length:Int)))])))
theorem H0 (J ag r) (h:uH J ag=some r):bb ay 69 [.slice (J.map gS),.int .i64 ag] (.int .i64 r) []:=by
 refine ca [0] [.tmp 4] Try.func69 PZ λb3 aC b2=>aH ?_;refine aH ?_;refine aT aC λ_ h6 e5 _=>aH ?_;refine a8 h (λc0 h=>?_) λc0 h=>?_
 .exact bl e5 [.int .i64 (-1)]
 .refine bd (h6 _ (inl (aT aC λ_ eY fY _=>aH ?_)));refine b_ fY λoO _ dw fq _=>?_;show bc ay (.loop ?mX) _ _;have mZ:∀n iq eF,Ba J n iq eF=some r->dy ay ?mX oO (au [(0,.slice (J.map gS)),(1,.int .i64 iq),(5,.int .i64 eF)]):=by
   refine eg λ_ m0 iq eF h=>ef dw λ_ cR di dW=>aT di λ_ eT _ fJ=>aH ?_;refine a8 h (λly h=>?_) λly h=>?_
   .refine bd (eT _ (inl (aT di λ_ gU fC _=>b_ fC λ_ hs kc _ _=>?_)));obtain⟨ak,iI,h⟩:=aJ h;obtain⟨aG,gV,h⟩:=aJ h;refine eS iI (HZ ak iq _ gV) _ ?_;refine aH ?_;refine a8 h (λiw h=>?_) λiw h=>?_
    .exact bl kc [.int .i64 (-1)]
    .refine bd (hs _ (gU _ (inl (fp ?_))));exact cR _ (inr ⟨_,cL rfl,m0 aG (i64.wrap (eF+1)) h⟩)
   .exact el (fJ 0 _ (dW 0 _ (fq _ (eY _ (inl (bl aC [.int .i64 iq]))))))
  exact eP h λn h=>mZ n (i64.wrap (ag-(J.length:Int))) 0 h
theorem RH (J ag r) (h:uI J ag=some r):bb ay 42 [gI J,.int .i64 ag] (.int .i64 r) []:=by
 refine ca [0] [.tmp 4] Try.func42 P0 λb3 aC b2=>aH ?_;obtain⟨ak,aV,h⟩:=aJ h;refine dk (HY J.bw ag _ aV) _ ?_;refine aT aC λ_ gf bV bu=>aH ?_;refine a8 h (λeD h=>?_) λeD h=>?_
 .exact bl bV [.int .i64 (-1)]
 .refine bd (gf _ (inl ?_));obtain⟨aG,h2,h⟩:=aJ h;refine dk (HZ J.Guard ak _ h2) _ ?_;refine aT aC λ_ cR di _=>aH ?_;refine a8 h (λhd h=>?_) λhd h=>?_
  .exact bl di [.int .i64 (-1)]
  .refine bd (cR _ (inl (aH ?_)));refine aT aC λ_ hs kc _=>aH ?_;refine a8 h (λht h=>?_) λht h=>?_
   .exact bl kc [.int .i64 (-1)]
   .refine bd (hs _ (inl ?_));obtain⟨aP,kd,h⟩:=aJ h;refine dk (H0 J.bP (i64.wrap (aG-(J.Name.length:Int))) _ kd) _ ?_;refine aT aC λ_ oP rb _=>aH ?_;refine a8 h (λjr h=>?_) λjr h=>?_
    .exact bl rb [.int .i64 (-1)]
    .refine bd (oP _ (inl ?_));obtain⟨bu,ve,h⟩:=aJ h;refine dk (H0 J.Next aP _ ve) _ ?_;refine aT aC λ_ re ye _=>aH ?_;refine a8 h (λRI h=>?_) λRI h=>?_
     .exact bl ye [.int .i64 (-1)]
     .exact bd (re _ (inl (bl aC [.int .i64 bu])))
theorem RJ (J ag r) (h:w8 J ag=some r):bb ay 18 [.slice (J.map gI),.int .i64 ag] (.int .i64 r) []:=by
 refine ca [0] [.tmp 4] Try.func18 Cg λb3 aC b2=>aH ?_;refine aH ?_;refine aT aC λ_ h6 e5 _=>aH ?_;refine a8 h (λc0 h=>?_) λc0 h=>?_
 .exact bl e5 [.int .i64 (-1)]
 .refine bd (h6 _ (inl (aT aC λ_ eY fY _=>aH ?_)));refine b_ fY λoO _ dw fq _=>?_;show bc ay (.loop ?mX) _ _;have mZ:∀n iq eF,Bb J n iq eF=some r->dy ay ?mX oO (au [(0,.slice (J.map gI)),(1,.int .i64 iq),(5,.int .i64 eF)]):=by
   refine eg λ_ m0 iq eF h=>ef dw λ_ cR di dW=>aT di λ_ eT _ fJ=>aH ?_;refine a8 h (λly h=>?_) λly h=>?_
   .refine bd (eT _ (inl (aT di λ_ gU fC _=>b_ fC λ_ hs kc _ _=>?_)));obtain⟨ak,iI,h⟩:=aJ h;obtain⟨aG,gV,h⟩:=aJ h;refine eS iI (RH ak iq _ gV) _ ?_;refine aH ?_;refine a8 h (λiw h=>?_) λiw h=>?_
    .exact bl kc [.int .i64 (-1)]
    .refine bd (hs _ (gU _ (inl (fp ?_))));exact cR _ (inr ⟨_,cL rfl,m0 aG (i64.wrap (eF+1)) h⟩)
   .exact el (fJ 0 _ (dW 0 _ (fq _ (eY _ (inl (bl aC [.int .i64 iq]))))))
  exact eP h λn h=>mZ n (i64.wrap (ag-(J.length:Int))) 0 h
theorem RK (J ag r) (h:w9 J ag=some r):bb ay 5 [ka J,.int .i64 ag] (.int .i64 r) []:=by
 refine ca [0] [.tmp 4] Try.func5 ou λb3 aC b2=>aH ?_;obtain⟨ak,aV,h⟩:=aJ h;refine dk (HY J.Start ag _ aV) _ ?_;refine aT aC λ_ gf bV _=>aH ?_;refine a8 h (λeD h=>?_) λeD h=>?_
 .exact bl bV [.int .i64 (-1)]
 .refine bd (gf _ (inl ?_));obtain⟨aG,h2,h⟩:=aJ h;refine dk (RJ J.cY ak _ h2) _ ?_;refine aT aC λ_ cR di _=>aH ?_;refine a8 h (λhd h=>?_) λhd h=>?_
  .exact bl di [.int .i64 (-1)]
  .exact bd (cR _ (inl (bl aC [.int .i64 aG])))
theorem H2 (J r) (h:uJ J=some r):bb ay 25 [.slice (J.map aR)] (.aw 1 (r.map aR)) []:=by
 refine ca [0] [.tmp 2] Try.func25 P1 λb3 aC b2=>aH ?_;obtain⟨RL,aV,h⟩:=aJ h;refine vd (ae (p0 aV) @List.map_replicate.{0,0}) [(0,.slice (J.map aR)),(3,.aw 1 ((List.replicate (Int.toNat (J.length:Int)) 0).map aR))] ?_;refine aT aC λ_ gf bV _=>ws [(0,.slice (J.map aR)),(3,.aw 1 ((List.replicate (Int.toNat (J.length:Int)) 0).map aR)),(4,.int .i64 0)] ?_;refine b_ bV λkA _ eo eD _=>?_;show bc ay (.loop ?hN) _ _;have ix:∀n bS ck,Bc J n bS ck=some r->dy ay ?hN kA (au [(0,.slice (J.map aR)),(3,.aw 1 (bS.map aR)),(4,.int .i64 ck)]):=by
  refine eg λ_ hS bS ck h=>ef eo λ_ eY fY cm=>aT fY λ_ gJ _ db=>aH ?_;refine a8 h (λhT h=>?_) λhT h=>?_
  .refine bd (gJ _ (inl (aT fY λ_ eT gu _=>b_ gu λ_ h7 _ _ _=>?_)));obtain⟨ak,e1,h⟩:=aJ h;obtain⟨aG,e2,h⟩:=aJ h;refine jG (cB [(0,.slice (J.map aR)),(3,.aw 1 ((List.set bS (Int.toNat ck) ak).map aR)),(4,.int .i64 ck)] (λP bs=>?_) ?_)
   .simp only[aZ.down,simprocAttr,e1,e2,c2 e2,gH,da];exact cv (ae e1 (ae e2 (ae (c2 e2) @gH)))
   refine h7 _ (eT _ (inl (wr [(0,.slice (J.map aR)),(3,.aw 1 ((List.set bS (Int.toNat ck) ak).map aR)),(4,.int .i64 (i64.wrap (ck+1)))] ?_)));exact eY _ (inr ⟨_,cL rfl,hS (List.set bS (Int.toNat ck) ak) (i64.wrap (ck+1)) h⟩)
  .exact el (db 0 _ (cm 0 _ (eD _ (gf _ (inl (bl aC [.aw 1 (bS.map aR)]))))))
 exact eP h λn h=>ix n (List.replicate (Int.toNat (J.length:Int)) 0) 0 h
theorem RM (J r) (h:uK J=some r):bb ay 97 [hb J] (aW r) []:=by
 refine ca [0] [.cell 2 76] Try.func97 P2 λb3 aC b2=>aH ?_;refine aH ?_;refine aH ?_;refine aH ?_;exact bl aC [aW (aK.mk J.Kind J.Value)]
theorem H3 (J r) (h:sc J=some r):bb ay 74 [.slice (J.map hb)] (.aw 2 (r.map aW)) []:=by
 refine ca [0] [.tmp 2] Try.func74 P3 λb3 aC b2=>aH ?_;obtain⟨Cr,aV,h⟩:=aJ h;refine vd (ae (p0 aV) @List.map_replicate.{0,0}) [(0,.slice (J.map hb)),(3,.aw 2 ((List.replicate (Int.toNat (J.length:Int)) (aK.mk 0 0)).map aW))] ?_;refine aT aC λ_ gf bV _=>ws [(0,.slice (J.map hb)),(3,.aw 2 ((List.replicate (Int.toNat (J.length:Int)) (aK.mk 0 0)).map aW)),(4,.int .i64 0)] ?_;refine b_ bV λkA _ eo eD _=>?_;show bc ay (.loop ?hN) _ _;have ix:∀n bS ck,Bd J n bS ck=some r->dy ay ?hN kA (au [(0,.slice (J.map hb)),(3,.aw 2 (bS.map aW)),(4,.int .i64 ck)]):=by
  refine eg λ_ hS bS ck h=>ef eo λ_ eY fY cm=>aT fY λ_ gJ _ db=>aH ?_;refine a8 h (λhT h=>?_) λhT h=>?_
  .refine bd (gJ _ (inl (aT fY λ_ eT gu _=>b_ gu λ_ h7 _ _ _=>?_)));obtain⟨ak,e1,h⟩:=aJ h;obtain⟨aG,e2,h⟩:=aJ h;obtain⟨aP,dJ,h⟩:=aJ h;refine jG (cB [(0,.slice (J.map hb)),(3,.aw 2 ((List.set bS (Int.toNat ck) aG).map aW)),(4,.int .i64 ck)] (λP bs=>?_) ?_)
   ·(try simp only[aZ.down,simprocAttr,e1,dJ,c2 dJ,gH,da]);refine du (RM ak _ e2) (hK:= ?_);simp only[aZ.down,simprocAttr,e1,dJ,c2 dJ,gH,da];exact cv (ae e1 (ae dJ (ae (c2 dJ) @gH)))
   refine h7 _ (eT _ (inl (wr [(0,.slice (J.map hb)),(3,.aw 2 ((List.set bS (Int.toNat ck) aG).map aW)),(4,.int .i64 (i64.wrap (ck+1)))] ?_)));exact eY _ (inr ⟨_,cL rfl,hS (List.set bS (Int.toNat ck) aG) (i64.wrap (ck+1)) h⟩)
  .exact el (db 0 _ (cm 0 _ (eD _ (gf _ (inl (bl aC [.aw 2 (bS.map aW)]))))))
 exact eP h λn h=>ix n (List.replicate (Int.toNat (J.length:Int)) (aK.mk 0 0)) 0 h
theorem H4 (J r) (h:uL J=some r):bb ay 75 [.slice (J.map gS)] (.aw 1 (r.map hq)) []:=by
 refine ca [0] [.tmp 2] Try.func75 P4 λb3 aC b2=>aH ?_;obtain⟨Cr,aV,h⟩:=aJ h;refine vd (ae (p0 aV) @List.map_replicate.{0,0}) [(0,.slice (J.map gS)),(3,.aw 1 (List.replicate (Int.toNat (J.length:Int)) .a5))] ?_;refine aT aC λ_ gf bV _=>ws [(0,.slice (J.map gS)),(3,.aw 1 (List.replicate (Int.toNat (J.length:Int)) .a5)),(4,.int .i64 0)] ?_;refine b_ bV λkA _ eo eD _=>?_;show bc ay (.loop ?hN) _ _;have ix:∀n bS ck,Be J n bS ck=some r->dy ay ?hN kA (au [(0,.slice (J.map gS)),(3,.aw 1 (bS.map hq)),(4,.int .i64 ck)]):=by
  refine eg λ_ hS bS ck h=>ef eo λ_ eY fY cm=>aT fY λ_ gJ _ db=>aH ?_;refine a8 h (λhT h=>?_) λhT h=>?_
  .refine bd (gJ _ (inl (aT fY λ_ eT gu _=>b_ gu λ_ h7 _ _ _=>?_)));obtain⟨ak,e1,h⟩:=aJ h;obtain⟨aG,e2,h⟩:=aJ h;obtain⟨aP,dJ,h⟩:=aJ h;refine jG (cB [(0,.slice (J.map gS)),(3,.aw 1 ((List.set bS (Int.toNat ck) aG).map hq)),(4,.int .i64 ck)] (λP bs=>?_) ?_)
   ·(try simp only[aZ.down,simprocAttr,e1,dJ,c2 dJ,gH,da]);refine du (H3 ak _ e2) (hK:= ?_);simp only[aZ.down,simprocAttr,e1,dJ,c2 dJ,gH,da];exact cv (ae e1 (ae dJ (ae (c2 dJ) @gH)))
   refine h7 _ (eT _ (inl (wr [(0,.slice (J.map gS)),(3,.aw 1 ((List.set bS (Int.toNat ck) aG).map hq)),(4,.int .i64 (i64.wrap (ck+1)))] ?_)));exact eY _ (inr ⟨_,cL rfl,hS (List.set bS (Int.toNat ck) aG) (i64.wrap (ck+1)) h⟩)
  .exact el (db 0 _ (cm 0 _ (eD _ (gf _ (inl (bl aC [.aw 1 (bS.map hq)]))))))
 obtain⟨n,h⟩:=mo h;exact qI (inr ⟨_,l8 [] rfl (iY (t:=0) (d:=.slice (J.map gS)) rfl (l_ (t:=3) (d:=.aw 1 (List.replicate (Int.toNat (J.length:Int)) .a5)) (a7:=.aw 1 ((List.replicate (Int.toNat (J.length:Int)) []).map hq)) rfl rfl (Gn (u:=hq) (z:=[]) (.iR _) _) (by decide) (iY (t:=4) (d:=.int .i64 0) rfl (l9)))),ix n (List.replicate (Int.toNat (J.length:Int)) []) 0 h⟩)
theorem RN (J r) (h:uM J=some r):bb ay 47 [gI J] (eR r) []:=by
 refine ca [0] [.cell 2 47] Try.func47 P5 λb3 aC b2=>aH ?_;refine aH ?_;obtain⟨ak,bK,h⟩:=aJ h;refine dk (H2 J.bw _ bK) _ ?_;obtain⟨aG,bB,h⟩:=aJ h;refine dk (H3 J.Guard _ bB) _ ?_;refine aH ?_;obtain⟨aP,h2,h⟩:=aJ h;refine dk (H4 J.bP _ h2) _ ?_;obtain⟨bu,oc,h⟩:=aJ h;refine dk (H4 J.Next _ oc) _ ?_;exact bl aC [eR (bD.mk ak aG J.Name aP bu)]
theorem RO (J r) (h:w_ J=some r):bb ay 26 [.slice (J.map gI)] (.aw 5 (r.map eR)) []:=by
 refine ca [0] [.tmp 2] Try.func26 Ch λb3 aC b2=>aH ?_;obtain⟨Cr,aV,h⟩:=aJ h;refine vd (ae (p0 aV) @List.map_replicate.{0,0}) [(0,.slice (J.map gI)),(3,.aw 5 (List.replicate (Int.toNat (J.length:Int)) (.agg [.a5,.a5,(.str []),.a5,.a5])))] ?_;refine aT aC λ_ gf bV _=>ws [(0,.slice (J.map gI)),(3,.aw 5 (List.replicate (Int.toNat (J.length:Int)) (.agg [.a5,.a5,(.str []),.a5,.a5]))),(4,.int .i64 0)] ?_;refine b_ bV λkA _ eo eD _=>?_;show bc ay (.loop ?hN) _ _;have ix:∀n bS ck,Bf J n bS ck=some r->dy ay ?hN kA (au [(0,.slice (J.map gI)),(3,.aw 5 (bS.map eR)),(4,.int .i64 ck)]):=by
  refine eg λ_ hS bS ck h=>ef eo λ_ eY fY cm=>aT fY λ_ gJ _ db=>aH ?_;refine a8 h (λhT h=>?_) λhT h=>?_
  .refine bd (gJ _ (inl (aT fY λ_ eT gu _=>b_ gu λ_ h7 _ _ _=>?_)));obtain⟨ak,e1,h⟩:=aJ h;obtain⟨aG,e2,h⟩:=aJ h;obtain⟨aP,dJ,h⟩:=aJ h;refine jG (cB [(0,.slice (J.map gI)),(3,.aw 5 ((List.set bS (Int.toNat ck) aG).map eR)),(4,.int .i64 ck)] (λP bs=>?_) ?_)
   ·(try simp only[aZ.down,simprocAttr,e1,dJ,c2 dJ,gH,da]);refine du (RN ak _ e2) (hK:= ?_);simp only[aZ.down,simprocAttr,e1,dJ,c2 dJ,gH,da];exact cv (ae e1 (ae dJ (ae (c2 dJ) @gH)))
   refine h7 _ (eT _ (inl (wr [(0,.slice (J.map gI)),(3,.aw 5 ((List.set bS (Int.toNat ck) aG).map eR)),(4,.int .i64 (i64.wrap (ck+1)))] ?_)));exact eY _ (inr ⟨_,cL rfl,hS (List.set bS (Int.toNat ck) aG) (i64.wrap (ck+1)) h⟩)
  .exact el (db 0 _ (cm 0 _ (eD _ (gf _ (inl (bl aC [.aw 5 (bS.map eR)]))))))
 obtain⟨n,h⟩:=mo h;exact qI (inr ⟨_,l8 [] rfl (iY (t:=0) (d:=.slice (J.map gI)) rfl (l_ (t:=3) (d:=.aw 5 (List.replicate (Int.toNat (J.length:Int)) (.agg [.a5,.a5,(.str []),.a5,.a5]))) (a7:=.aw 5 ((List.replicate (Int.toNat (J.length:Int)) (bD.mk [] [] ([]:Xq) [] [])).map eR)) rfl rfl (Gn (u:=eR) (z:=(bD.mk [] [] ([]:Xq) [] [])) (.agg (.cons (.iR _) (.cons (.iR _) (.cons (.refl _) (.cons (.iR _) (.cons (.iR _) (.nil))))))) _) (by decide) (iY (t:=4) (d:=.int .i64 0) rfl (l9)))),ix n (List.replicate (Int.toNat (J.length:Int)) (bD.mk [] [] ([]:Xq) [] [])) 0 h⟩)
theorem yf (J r) (h:qU J=some r):bb ay 7 [ka J] (nT r) []:=by
 refine ca [0] [.cell 2 29] Try.func7 zS λb3 aC b2=>aH ?_;refine aH ?_;refine aH ?_;obtain⟨ak,cn,h⟩:=aJ h;refine dk (H2 J.Start _ cn) _ ?_;obtain⟨aG,bt,h⟩:=aJ h;refine dk (RO J.cY _ bt) _ ?_;exact bl aC [nT (cq.mk J.c1 ak aG)]
theorem pO (J ag a4 r) (h:mT J ag a4=some r):bb ay 43 [.int .i64 J,.int .i64 ag,.int .i64 a4] (.bool r) []:=by
 refine ca [0,1,2] [.tmp 6] Try.func43 P6 λb3 aC b2=>aH ?_;refine ra (decide (ag<=J)) [(6,.bool ((decide (ag<=J))&&(decide (J<=a4))))] ?_;exact ct aC [.bool ((decide (ag<=J))&&(decide (J<=a4)))]
theorem RP (J r) (h:xa J=some r):bb ay 70 [.slice (J.map aR)] (.bool r) []:=by
 refine ca [0] [.tmp 2] Try.func70 P7 λb3 aC b2=>aH ?_;refine aT aC λ_ b5 br aG=>aH ?_;refine b_ br λfK _ bV cy _=>?_;show bc ay (.loop ?fk) _ _;have gg:∀n nJ,uN J n nJ=some r->dy ay ?fk fK (au [(0,.slice (J.map aR)),(3,.int .i64 nJ)]):=by
  refine eg λ_ fR nJ h=>ef bV λ_ fh c7 bI=>aT c7 λ_ en _ bF=>aH ?_;refine a8 h (λdq h=>?_) λdq h=>?_
  .refine bd (en _ (inl (aT c7 λ_ eG dw _=>b_ dw λ_ cR di _ _=>?_)));obtain⟨ak,dF,h⟩:=aJ h;obtain⟨aG,eJ,h⟩:=aJ h;refine eS dF (pO ak 0 63 _ eJ) _ ?_;refine a8 h (λhv h=>?_) λhv h=>?_
   .exact bl di [.bool false]
   .refine bd (cR _ (eG _ (inl (fp ?_))));exact fh _ (inr ⟨_,cL rfl,fR (i64.wrap (nJ+1)) h⟩)
  .exact el (bF 0 _ (bI 0 _ (cy _ (b5 _ (inl (bl aC [.bool true]))))))
 exact eP h λn h=>gg n 0 h
theorem H5 (J ag r) (h:xb J ag=some r):bb ay 44 [.slice (J.map aR),.int .i64 ag] (.bool r) []:=by
 refine ca [0,1] [.tmp 4] Try.func44 P8 λb3 aC b2=>aH ?_;rcases e8 h with⟨iD,h⟩|⟨iD,h⟩
 .obtain⟨ak,bK,h⟩:=aJ h;refine eS iD (RP J _ bK) _ ?_;exact ct aC [.bool ak]
 .refine dh iD _ ?_;exact ct aC [.bool false]
theorem RQ (J r) (h:xc J=some r):bb ay 20 [.slice (J.map aR)] (.int .i64 r) []:=by
 refine ca [0] [.tmp 2] Try.func20 P9 λb3 aC b2=>aH ?_;refine aT aC λ_ b5 br aG=>aH ?_;refine a8 h (λcy h=>?_) λcy h=>?_
 .exact bl br [.int .i64 0]
 .refine bd (b5 _ (inl (aH ?_)));refine aT aC λ_ eY fY _=>aH ?_;refine b_ fY λoO _ dw fq _=>?_;show bc ay (.loop ?mX) _ _;have mZ:∀n mU nK,sd J n mU nK=some r->dy ay ?mX oO (au [(0,.slice (J.map aR)),(3,.int .i64 mU),(4,.int .i64 nK)]):=by
   refine eg λ_ m0 mU nK h=>ef dw λ_ cR di dW=>aT di λ_ eT _ fJ=>aH ?_;refine a8 h (λly h=>?_) λly h=>?_
   .refine bd (eT _ (inl (aT di λ_ gU fC _=>b_ fC λ_ hs kc _ _=>aT kc λ_ lz mh _=>?_)));obtain⟨ak,gV,h⟩:=aJ h;obtain⟨aG,fD,h⟩:=aJ h;refine eS gV (pO ak 1 7 _ fD) _ ?_;refine a8 h (λiw h=>?_) λiw h=>?_
    .exact bl mh [.int .i64 0]
    .refine bd (lz _ (inl (mY gV _ ?_)));refine hs _ (gU _ (inl (fp ?_)));exact cR _ (inr ⟨_,cL rfl,m0 (i64.wrap (mU*(i64.wrap (ak+1)))) (i64.wrap (nK+1)) h⟩)
   .refine el (fJ 0 _ (dW 0 _ (fq _ (eY _ (inl (aT aC λ_ vf sU _=>aH ?_))))));refine a8 h (λm1 h=>?_) λm1 h=>?_
    .exact bl sU [.int .i64 0]
    .exact bd (vf _ (inl (bl aC [.int .i64 mU])))
  exact eP h λn h=>mZ n 1 0 h
theorem RR (J ag r) (h:xd J ag=some r):bb ay 94 [.ref (aW J),.int .i64 ag] (.bool r) []:=by
 refine ca [0,1] [.tmp 4] Try.func94 P_ λb3 aC b2=>aH ?_;refine aT aC λ_ b5 br aG=>aH ?_;refine b_ br λ_ gf bV _ _=>aH ?_;refine a8 h (λeD h=>?_) λeD h=>?_
 .obtain⟨ak,fy,h⟩:=aJ h;refine dk (pO J.Value 0 63 _ fy) _ ?_;exact ct bV [.bool ak]
 .refine aH ?_;refine a8 h (λhT h=>?_) λhT h=>?_
  .obtain⟨aG,dF,h⟩:=aJ h;refine dk (pO J.Value 0 (i64.wrap (ag-1)) _ dF) _ ?_;exact ct bV [.bool aG]
  .refine aH ?_;refine a8 h (λhv h=>?_) λhv h=>?_
   .obtain⟨aP,dJ,h⟩:=aJ h;refine dk (pO J.Value 0 8 _ dJ) _ ?_;exact ct bV [.bool aP]
   .refine aH ?_;refine a8 h (λjL h=>?_) λjL h=>?_
    .exact bl bV [.bool (J.Value==0)]
    .exact bd (gf _ (b5 _ (inl (bl aC [.bool false]))))
theorem Cs (J r) (h:uO J=some r):bb ay 95 [.ref (aW J)] (.int .i64 r) []:=by
 refine ca [0] [.tmp 2] Try.func95 Qa λb3 aC b2=>aH ?_;refine aT aC λ_ b5 br _=>aH ?_;refine b_ br λ_ gf bV _ _=>aH ?_;refine a8 h (λeD h=>?_) λeD h=>?_
 .exact bl bV [.int .i64 2]
 .refine aH ?_;refine a8 h (λfq h=>?_) λfq h=>?_
  .exact bl bV [.int .i64 1]
  .exact bd (gf _ (b5 _ (inl (bl aC [.int .i64 0]))))
theorem Ct (J ag a4 r) (h:uP J ag a4=some r):bb ay 71 [.slice (J.map aW),.int .i64 ag,.int .i64 a4] (.bool r) []:=by
 refine ca [0,1,2] [.tmp 6] Try.func71 Qb λb3 aC b2=>aH ?_;refine aT aC λ_ b5 br aG=>aH ?_;refine a8 h (λcy h=>?_) λcy h=>?_
 .exact bl br [.bool false]
 .refine bd (b5 _ (inl (aH ?_)));refine aT aC λ_ eY fY _=>aH ?_;refine b_ fY λoO _ dw fq _=>?_;show bc ay (.loop ?mX) _ _;have mZ:∀n hP nL,se J ag n hP nL=some r->dy ay ?mX oO (au [(0,.slice (J.map aW)),(1,.int .i64 ag),(7,.int .i64 hP),(8,.int .i64 nL)]):=by
   refine eg λ_ m0 hP nL h=>ef dw λ_ cR di dW=>aT di λ_ eT _ fJ=>aH ?_;refine a8 h (λly h=>?_) λly h=>?_
   .refine bd (eT _ (inl (aT di λ_ gU fC _=>b_ fC λ_ hs kc _ _=>aT kc λ_ lz mh _=>?_)));rcases e8 h with⟨jL,h⟩|⟨jL,h⟩
    .refine dh jL _ ?_;refine iV rfl ?_;exact bl mh [.bool false]
    .obtain⟨ak,kd,h⟩:=aJ h;obtain⟨aG,i4,h⟩:=aJ h;refine eS (ae jL kd) (RR ak ag _ i4) _ ?_;refine a8 h (λoQ h=>?_) λoQ h=>?_
     .exact bl mh [.bool false]
     .refine bd (lz _ (inl ?_));obtain⟨aP,h8,h⟩:=aJ h;refine RE kd (Cs ak _ h8) _ ?_;refine hs _ (gU _ (inl (fp ?_)));exact cR _ (inr ⟨_,cL rfl,m0 (i64.wrap (hP+(i64.wrap (aP-1)))) (i64.wrap (nL+1)) h⟩)
   .exact el (fJ 0 _ (dW 0 _ (fq _ (eY _ (inl (bl aC [.bool (hP==0)]))))))
  exact eP h λn h=>mZ n 1 0 h
theorem sV (J ag r) (h:qV J ag=some r):bb ay 73 [.slice (J.map dv),.int .i64 ag] (.bool r) []:=by
 refine ca [0,1] [.tmp 4] Try.func73 Qc λb3 aC b2=>aH ?_;refine aT aC λ_ b5 br aG=>aH ?_;refine b_ br λfK _ bV cy _=>?_;show bc ay (.loop ?fk) _ _;have gg:∀n a_,uQ J ag n a_=some r->dy ay ?fk fK (au [(0,.slice (J.map dv)),(1,.int .i64 ag),(5,.int .i64 a_)]):=by
  refine eg λ_ fR a_ h=>ef bV λ_ fh c7 bI=>aT c7 λ_ en _ bF=>aH ?_;refine a8 h (λdq h=>?_) λdq h=>?_
  .refine bd (en _ (inl (aT c7 λ_ eG dw _=>b_ dw λ_ cR di _ _=>?_)));obtain⟨ak,dF,h⟩:=aJ h;obtain⟨aG,eJ,h⟩:=aJ h;refine eS dF (Ct ak ag 60 _ eJ) _ ?_;refine a8 h (λhv h=>?_) λhv h=>?_
   .exact bl di [.bool false]
   .refine bd (cR _ (eG _ (inl (fp ?_))));exact fh _ (inr ⟨_,cL rfl,fR (i64.wrap (a_+1)) h⟩)
  .exact el (bF 0 _ (bI 0 _ (cy _ (b5 _ (inl (bl aC [.bool true]))))))
 exact eP h λn h=>gg n 0 h
theorem Cu (J r) (h:uR J=some r):bb ay 113 [.int .u8 (J.toNat:Int)] (.bool r) []:=by
 refine ca [0] [.tmp 2] Try.func113 Qd λb3 aC b2=>aH ?_;refine ra (decide (97<=(J.toNat:Int))) [(2,.bool ((decide (97<=(J.toNat:Int)))&&(decide ((J.toNat:Int)<=122))))] ?_;exact ct aC [.bool ((decide (97<=(J.toNat:Int)))&&(decide ((J.toNat:Int)<=122)))]
theorem RS (J r) (h:Bk J=some r):bb ay 114 [.int .u8 (J.toNat:Int)] (.bool r) []:=by
 refine ca [0] [.tmp 2] Try.func114 Qe λb3 aC b2=>aH ?_;refine ra (decide (48<=(J.toNat:Int))) [(2,.bool ((decide (48<=(J.toNat:Int)))&&(decide ((J.toNat:Int)<=57))))] ?_;exact ct aC [.bool ((decide (48<=(J.toNat:Int)))&&(decide ((J.toNat:Int)<=57)))]
theorem H6 (J r) (h:xe J=some r):bb ay 96 [.str J] (.bool r) []:=by
 refine ca [0] [.tmp 2] Try.func96 Qf λb3 aC b2=>aH ?_;refine aT aC λ_ b5 br aG=>?_;rcases e8 h with⟨cy,h⟩|⟨cy,h⟩
 .refine dh cy _ ?_;refine iV rfl ?_;exact bl br [.bool false]
 .rcases e8 h with⟨eD,h⟩|⟨eD,h⟩
  .refine dh (ae cy eD) _ ?_;refine iV rfl ?_;exact bl br [.bool false]
  .obtain⟨ak,fy,h⟩:=aJ h;obtain⟨aG,h2,h⟩:=aJ h;refine eS (ae cy (ae eD fy)) (Cu ak _ h2) _ ?_;refine a8 h (λhT h=>?_) λhT h=>?_
   .exact bl br [.bool false]
   .refine bd (b5 _ (inl (aT aC λ_ h7 Cv _=>aH ?_)));refine b_ Cv λRT _ fC hv _=>?_;show bc ay (.loop ?lx) _ _;have lA:∀n eQ,uS J n eQ=some r->dy ay ?lx RT (au [(0,.str J),(3,.int .i64 eQ)]):=by
     refine eg λ_ k7 eQ h=>ef fC λ_ hs kc pM=>aT kc λ_ lz _ q9=>aH ?_;refine a8 h (λjL h=>?_) λjL h=>?_
     .refine bd (lz _ (inl (aT kc λ_ pP sW _=>b_ sW λ_ yg RU _ _=>?_)));obtain⟨aP,fS,h⟩:=aJ h;obtain⟨bu,lB,h⟩:=aJ h;rcases e8 h with⟨nU,h⟩|⟨nU,h⟩
      .obtain⟨bI,h8,h⟩:=aJ h;refine df (cB [(0,.str J),(3,.int .i64 eQ),(34,.bool (!bI))] (λP bs=>?_) ?_)
       ·(try simp only[aZ.down,simprocAttr,fS,(mb nU)]);refine du (Cu aP _ lB) (hK:= ?_);simp only[aZ.down,simprocAttr,fS,(mb nU)];refine ku (RS aP _ h8) (hK:= ?_);simp only[aZ.down,simprocAttr,fS,(mb nU)];exact cv (ae fS (mb nU))
       refine a8 h (λm1 h=>?_) λm1 h=>?_
       .exact bl RU [.bool false]
       .refine bd (yg _ (pP _ (inl (fp ?_))));exact hs _ (inr ⟨_,cL rfl,k7 (i64.wrap (eQ+1)) h⟩)
      .refine eS (ae fS (fQ nU)) (Cu aP _ lB) _ ?_;refine nB rfl ?_;refine bd (yg _ (pP _ (inl (fp ?_))));exact hs _ (inr ⟨_,cL rfl,k7 (i64.wrap (eQ+1)) h⟩)
     .exact el (q9 0 _ (pM 0 _ (hv _ (h7 _ (inl (bl aC [.bool true]))))))
    exact eP h λn h=>lA n 0 h
theorem H7 (J r) (h:xf J=some r):bb ay 72 [.str J] (.bool r) []:=by
 refine ca [0] [.tmp 2] Try.func72 Qg λb3 aC b2=>aH ?_;obtain⟨ak,aV,h⟩:=aJ h;refine df (cB [(2,.bool (ak&&(!(J==([116,97,117]:Xq)))))] (λP bs=>?_) ?_)
 .rcases Bool.eq_false_or_eq_true (ak)with jY|jY
  ·(try simp only[aZ.down,simprocAttr,jY]);refine du (H6 J _ aV) (hK:= ?_);simp only[aZ.down,simprocAttr,jY];exact cv jY
  ·(try simp only[aZ.down,simprocAttr,jY]);refine du (H6 J _ aV) (hK:= ?_);simp only[aZ.down,simprocAttr,jY];exact cv jY
 exact ct aC [.bool (ak&&(!(J==([116,97,117]:Xq))))]
theorem RV (J ag r) (h:xg J ag=some r):bb ay 45 [.ref (dN J),.int .i64 ag] (.bool r) []:=by
 refine ca [0,1] [.tmp 4] Try.func45 Qj λb3 aC b2=>aH ?_;refine aT aC λ_ b5 br aG=>?_;obtain⟨ak,bK,h⟩:=aJ h;refine dk (RQ J.bw _ bK) _ ?_;refine a8 h (λc0 h=>?_) λc0 h=>?_
 .exact bl br [.bool false]
 .refine bd (b5 _ (inl (aH ?_)));refine aT aC λ_ gJ iJ _=>?_;obtain⟨aG,jw,h⟩:=aJ h;refine df (cB [(0,.ref (dN J)),(5,.int .i64 (i64.wrap (ag+(J.bw.length:Int)))),(34,.bool ((!aG)||((J.Next.length:Int) !=ag)))] (λP bs=>?_) ?_)
  .rcases Bool.eq_false_or_eq_true (aG)with rf|rf
   ·(try simp only[aZ.down,simprocAttr,rf]);refine du (Ct J.Guard (i64.wrap (ag+(J.bw.length:Int))) 60 _ jw) (hK:= ?_);simp only[aZ.down,simprocAttr,rf];exact cv rf
   ·(try simp only[aZ.down,simprocAttr,rf]);refine du (Ct J.Guard (i64.wrap (ag+(J.bw.length:Int))) 60 _ jw) (hK:= ?_);simp only[aZ.down,simprocAttr,rf];exact cv rf
  refine a8 h (λhd h=>?_) λhd h=>?_
  .exact bl iJ [.bool false]
  .refine bd (gJ _ (inl (aT aC λ_ gU fC _=>?_)));rcases e8 h with⟨lC,h⟩|⟨lC,h⟩
   .rcases e8 h with⟨ht,h⟩|⟨ht,h⟩
    .refine dh (ae lC ht) _ ?_;refine iV rfl ?_;exact bl fC [.bool false]
    .refine dh (ae lC ht) _ ?_;refine a8 h (λkB h=>?_) λkB h=>?_
     .exact bl fC [.bool false]
     .refine bd (gU _ (inl ?_));obtain⟨aP,fS,h⟩:=aJ h;rcases e8 h with⟨jr,h⟩|⟨jr,h⟩
      .obtain⟨bu,lD,h⟩:=aJ h;refine df (cB [(4,.bool bu)] (λP bs=>?_) ?_)
       ·(try simp only[aZ.down,simprocAttr,jr]);refine du (sV J.bP (i64.wrap (ag+(J.bw.length:Int))) _ fS) (hK:= ?_);simp only[aZ.down,simprocAttr,jr];refine ku (sV J.Next (i64.wrap (ag+(J.bw.length:Int))) _ lD) (hK:= ?_);simp only[aZ.down,simprocAttr,jr];exact cv jr
       exact ct aC [.bool bu]
      .refine eS jr (sV J.bP (i64.wrap (ag+(J.bw.length:Int))) _ fS) _ ?_;exact ct aC [.bool false]
   .obtain⟨bI,h8,h⟩:=aJ h;rcases e8 h with⟨m1,h⟩|⟨m1,h⟩
    .refine eS (ae lC (mb m1)) (H7 J.Name _ h8) _ ?_;refine iV rfl ?_;exact bl fC [.bool false]
    .refine eS (ae lC (fQ m1)) (H7 J.Name _ h8) _ ?_;refine a8 h (λRW h=>?_) λRW h=>?_
     .exact bl fC [.bool false]
     .refine bd (gU _ (inl ?_));obtain⟨bF,sX,h⟩:=aJ h;rcases e8 h with⟨mi,h⟩|⟨mi,h⟩
      .obtain⟨cm,sY,h⟩:=aJ h;refine df (cB [(4,.bool cm)] (λP bs=>?_) ?_)
       ·(try simp only[aZ.down,simprocAttr,mi]);refine du (sV J.bP (i64.wrap (ag+(J.bw.length:Int))) _ sX) (hK:= ?_);simp only[aZ.down,simprocAttr,mi];refine ku (sV J.Next (i64.wrap (ag+(J.bw.length:Int))) _ sY) (hK:= ?_);simp only[aZ.down,simprocAttr,mi];exact cv mi
       exact ct aC [.bool cm]
      .refine eS mi (sV J.bP (i64.wrap (ag+(J.bw.length:Int))) _ sX) _ ?_;exact ct aC [.bool false]
theorem RX (J r) (h:xh J=some r):bb ay 19 [.ref (cQ J)] (.bool r) []:=by
 refine ca [0] [.tmp 2] Try.func19 Qk λb3 aC b2=>aH ?_;refine aT aC λ_ b5 br aG=>?_;obtain⟨ak,bK,h⟩:=aJ h;rcases e8 h with⟨c0,h⟩|⟨c0,h⟩
 .refine sR (mb c0) (pO J.c1 0 21 _ bK) _ ?_;refine iV rfl ?_;exact bl br [.bool false]
 .obtain⟨aG,bt,h⟩:=aJ h;refine qH rfl (qJ [(0,.ref (cQ J)),(29,.bool ((!aG)||(decide (60<(J.cY.length:Int)))))] (λP bs=>?_) ?_)
  .rcases Bool.eq_false_or_eq_true (aG)with i5|i5
   ·(try simp only[gT.down,simprocAttr,(fQ c0),i5]);refine lk (pO J.c1 0 21 _ bK) (hK:= ?_);simp only[gT.down,simprocAttr,(fQ c0),i5];refine Ax (H5 J.Start J.c1 _ bt) (hK:= ?_);simp only[gT.down,simprocAttr,(fQ c0),i5];refine⟨pG (by kernel_rfl),?_⟩;exact cv (ae (fQ c0) i5)
   ·(try simp only[gT.down,simprocAttr,(fQ c0),i5]);refine lk (pO J.c1 0 21 _ bK) (hK:= ?_);simp only[gT.down,simprocAttr,(fQ c0),i5];refine Ax (H5 J.Start J.c1 _ bt) (hK:= ?_);simp only[gT.down,simprocAttr,(fQ c0),i5];refine⟨pG (by kernel_rfl),?_⟩;exact cv (ae (fQ c0) i5)
  refine a8 h (λfq h=>?_) λfq h=>?_
  .exact bl br [.bool false]
  .refine bd (b5 _ (inl (aT aC λ_ eT gu _=>aH ?_)));refine b_ gu λRY _ oR ly _=>?_;show bc ay (.loop ?lx) _ _;have lA:∀n eQ,uT J n eQ=some r->dy ay ?lx RY (au [(0,.ref (cQ J)),(3,.int .i64 eQ)]):=by
    refine eg λ_ k7 eQ h=>ef oR λ_ gU fC nS=>aT fC λ_ hs _ pM=>aH ?_;refine a8 h (λht h=>?_) λht h=>?_
    .refine bd (hs _ (inl (aT fC λ_ RZ Cw _=>b_ Cw λ_ pP sW _ _=>?_)));obtain⟨aP,i4,h⟩:=aJ h;obtain⟨bu,fS,h⟩:=aJ h;refine sR i4 (RV aP J.c1 _ fS) _ ?_;refine a8 h (λjr h=>?_) λjr h=>?_
     .exact bl sW [.bool false]
     .refine bd (pP _ (RZ _ (inl (fp ?_))));exact gU _ (inr ⟨_,cL rfl,k7 (i64.wrap (eQ+1)) h⟩)
    .exact el (pM 0 _ (nS 0 _ (ly _ (eT _ (inl (bl aC [.bool true]))))))
   exact eP h λn h=>lA n 0 h
theorem H8 (J r) (h:sf J=some r):bb ay 46 [.slice (J.map aW)] (.aw 2 (r.map aW)) []:=by
 refine ca [0] [.tmp 2] Try.func46 Ql λb3 aC b2=>aH ?_;obtain⟨KR,aV,h⟩:=aJ h;(try simp only[jK.down,Nat.zero_add,Nat.add_zero,reduceAdd]at aV);refine dh (ae (show∀s,ek ay s 44 0 []=some (.aw 2 [],s)from λs=>by kernel_rfl) (ae (@j5 ay 44 44 76 rfl rfl) (ae @j6 (ae @j7 (ae @j8 (ae @j4 (ae @all_nil (ae aV (@iZ _ aW 2 λ_=>rfl))))))))) _ ?_;exact ct aC [.aw 2 (J.map aW)]
theorem R0 (J ag a4 r) (h:xi J ag a4=some r):bb ay 87 [.slice (J.map aW),.slice (ag.map gd),.slice (a4.map aR)] (.aw 2 (r.map aW)) []:=by
 refine ca [0,1,2] [.tmp 6] Try.func87 Qm λb3 aC b2=>aH ?_;obtain⟨ak,aV,h⟩:=aJ h;refine dk (H8 J _ aV) _ ?_;refine aT aC λ_ gf bV bu=>aH ?_;refine b_ bV λkA _ eo eD _=>?_;show bc ay (.loop ?hN) _ _;have ix:∀n i2 iH,qW ag a4 n i2 iH=some r->dy ay ?hN kA (au [(1,.slice (ag.map gd)),(2,.slice (a4.map aR)),(7,.aw 2 (i2.map aW)),(8,.int .i64 iH)]):=by
  refine eg λkP hS i2 iH h=>ef eo λR1 eY fY cm=>aT fY λ_ gJ _ db=>aH ?_;refine a8 h (λhT h=>?_) λhT h=>?_
  .refine bd (gJ _ (inl ?_));show bc ay (.seq _ ?Cx) _ _;have rh:∀si sj,sg (qW ag a4 kP) ag a4 si sj=some r->bc ay ?Cx R1 (au [(1,.slice (ag.map gd)),(2,.slice (a4.map aR)),(7,.aw 2 (si.map aW)),(8,.int .i64 sj)]):=by
    intro si sj h;refine fp ?_;exact eY _ (inr ⟨_,cL rfl,hS si (i64.wrap (sj+1)) h⟩)
   refine aT fY λ_ eT gu _=>b_ gu λ_ ke _ _ _=>?_;obtain⟨aP,dJ,h⟩:=aJ h;rcases e8 h with⟨ht,h⟩|⟨ht,h⟩
   .rcases e8 h with⟨jL,h⟩|⟨jL,h⟩
    .obtain⟨bu,fD,h⟩:=aJ h;refine dh (ae dJ (ae (c2 dJ) (ae ht (ae jL fD)))) _ ?_;refine a8 h (λiw h=>?_) λiw h=>?_
     .obtain⟨bI,fS,h⟩:=aJ h;refine jG (cB [(1,.slice (ag.map gd)),(2,.slice (a4.map aR)),(7,.aw 2 ((List.set i2 (Int.toNat iH) (aK.mk 0 bI)).map aW)),(8,.int .i64 iH)] (λP bs=>?_) ?_)
      .simp only[aZ.down,simprocAttr,dJ,c2 dJ,fS,(show∀s,fw ay s 76 [(0,.int .i64 0),(1,.int .i64 bI)]=some (.agg [.int .i64 0,.int .i64 bI],s)from λs=>by kernel_rfl),gH,da];exact cv (ae dJ (ae (c2 dJ) (ae fS (ae (show∀s,fw ay s 76 [(0,.int .i64 0),(1,.int .i64 bI)]=some (.agg [.int .i64 0,.int .i64 bI],s)from λs=>by kernel_rfl) @gH))))
      exact ke _ (eT _ (inr ⟨_,cL rfl,rh (List.set i2 (Int.toNat iH) (aK.mk 0 bI)) iH h⟩))
     .exact bd (ke _ (eT _ (inr ⟨_,cL rfl,rh i2 iH h⟩)))
    .refine dh (ae dJ (ae (c2 dJ) (ae ht jL))) _ ?_;refine nB rfl ?_;exact bd (ke _ (eT _ (inr ⟨_,cL rfl,rh i2 iH h⟩)))
   .refine dh (ae dJ (ae (c2 dJ) ht)) _ ?_;refine nB rfl ?_;exact bd (ke _ (eT _ (inr ⟨_,cL rfl,rh i2 iH h⟩)))
  .exact el (db 0 _ (cm 0 _ (eD _ (gf _ (inl (bl aC [.aw 2 (i2.map aW)]))))))
 exact eP h λn h=>ix n ak 0 h
theorem R2 (J ag r) (h:xj J ag=some r):bb ay 107 [.slice (J.map aW),.int .i64 ag] (.int .i64 r) []:=by
 refine ca [0] [.tmp 4] Try.func107 Qn λb3 aC b2=>aH ?_;refine aH ?_;refine aT aC λ_ h6 e5 _=>b_ e5 λfK _ bV cy _=>?_;show bc ay (.loop ?fk) _ _;have gg:∀n cd a_,sk J n cd a_=some r->dy ay ?fk fK (au [(0,.slice (J.map aW)),(1,.int .i64 cd),(5,.int .i64 a_)]):=by
  refine eg λ_ fR cd a_ h=>ef bV λ_ fh c7 bI=>aT c7 λ_ en _ bF=>aH ?_;refine a8 h (λdq h=>?_) λdq h=>?_
  .refine bd (en _ (inl (b_ c7 λ_ eG _ _ _=>?_)));obtain⟨ak,oc,h⟩:=aJ h;obtain⟨aG,dF,h⟩:=aJ h;refine eS oc (Cs ak _ dF) _ ?_;refine fp ?_;exact eG _ (fh _ (inr ⟨_,cL rfl,fR (i64.wrap (cd+1)) (i64.wrap (a_+(i64.wrap (aG-1)))) h⟩))
  .exact el (bF 0 _ (bI 0 _ (cy _ (h6 _ (inl (bl aC [.int .i64 cd]))))))
 exact eP h λn h=>gg n ag 1 h
theorem oS (J r) (h:mc J=some r):bb ay 108 [.bool J] (.int .i64 r) []:=by
 refine ca [0] [.tmp 2] Try.func108 Qo λb3 aC b2=>aH ?_;refine aT aC λ_ b5 br _=>aH ?_;refine a8 h (λcy h=>?_) λcy h=>?_
 .exact bl br [.int .i64 1]
 .exact bd (b5 _ (inl (bl aC [.int .i64 0])))
theorem R3 (J ag a4 r) (h:xk J ag a4=some r):bb ay 109 [.int .i64 J,.int .i64 ag,.int .i64 a4] (.int .i64 r) []:=by
 refine ca [0,1,2] [.tmp 6] Try.func109 Qp λb3 aC b2=>aH ?_;refine aT aC λ_ b5 br aG=>aH ?_;refine b_ br λ_ gf bV _ bu=>aH ?_;refine a8 h (λeD h=>?_) λeD h=>?_
 .refine dh (@qK .i64 64 (by decide)) _ ?_;exact ct bV [.int .i64 (Int.tmod (i64.wrap (ag+a4)) 64)]
 .refine aH ?_;refine a8 h (λfq h=>?_) λfq h=>?_
  .refine dh (@qK .i64 64 (by decide)) _ ?_;exact ct bV [.int .i64 (Int.tmod (i64.wrap ((i64.wrap (ag-a4))+64)) 64)]
  .refine aH ?_;refine a8 h (λhd h=>?_) λhd h=>?_
   .refine dh (@qK .i64 64 (by decide)) _ ?_;exact ct bV [.int .i64 (Int.tmod (i64.wrap (ag*a4)) 64)]
   .refine aH ?_;refine a8 h (λiK h=>?_) λiK h=>?_
    .obtain⟨ak,iI,h⟩:=aJ h;refine dk (oS (ag==a4) _ iI) _ ?_;exact ct bV [.int .i64 ak]
    .refine aH ?_;refine a8 h (λkB h=>?_) λkB h=>?_
     .obtain⟨aG,i4,h⟩:=aJ h;refine dk (oS (ag !=a4) _ i4) _ ?_;exact ct bV [.int .i64 aG]
     .refine aH ?_;refine a8 h (λjr h=>?_) λjr h=>?_
      .obtain⟨aP,h8,h⟩:=aJ h;refine dk (oS (decide (ag<a4)) _ h8) _ ?_;exact ct bV [.int .i64 aP]
      .refine aH ?_;refine a8 h (λm2 h=>?_) λm2 h=>?_
       .obtain⟨bu,lE,h⟩:=aJ h;refine dk (oS (decide (ag<=a4)) _ lE) _ ?_;exact ct bV [.int .i64 bu]
       .refine aH ?_;refine a8 h (λri h=>?_) λri h=>?_
        .rcases e8 h with⟨iL,h⟩|⟨iL,h⟩
         .obtain⟨bI,Cy,h⟩:=aJ h;refine eS iL (oS (a4 !=0) _ Cy) _ ?_;exact ct bV [.int .i64 bI]
         .obtain⟨bF,hU,h⟩:=aJ h;refine eS iL (oS false _ hU) _ ?_;exact ct bV [.int .i64 bF]
        .refine bd (gf _ (b5 _ (inl ?_)));rcases e8 h with⟨oT,h⟩|⟨oT,h⟩
         .obtain⟨cm,Cz,h⟩:=aJ h;refine eS oT (oS true _ Cz) _ ?_;exact ct aC [.int .i64 cm]
         .obtain⟨db,sZ,h⟩:=aJ h;refine eS oT (oS (a4 !=0) _ sZ) _ ?_;exact ct aC [.int .i64 db]
theorem R4 (uU:XD->Option XD) (H9:∀J r,uU J=some r->bb ay 86 [.slice (J.map aW)] (.aw 2 (r.map aW)) []) (J r) (h:Bp uU J=some r):bb ay 86 [.slice (J.map aW)] (.aw 2 (r.map aW)) []:=by
 refine ca [0] [.tmp 2] Try.func86 Qq λb3 aC b2=>aH ?_;refine aT aC λ_ b5 br aG=>?_;obtain⟨ak,bK,h⟩:=aJ h;obtain⟨aG,cn,h⟩:=aJ h;refine eS bK (Cs ak _ cn) _ ?_;refine a8 h (λeD h=>?_) λeD h=>?_
 .obtain⟨aP,fy,h⟩:=aJ h;refine dk (H8 J _ fy) _ ?_;exact ct br [.aw 2 (aP.map aW)]
 .refine bd (b5 _ (inl ?_));obtain⟨bu,jw,h⟩:=aJ h;refine dk (R2 J 1 _ jw) _ ?_;obtain⟨bI,dF,h⟩:=aJ h;obtain⟨bF,eJ,h⟩:=aJ h;refine eS (ae dF (@iZ _ aW 2 λ_=>rfl)) (H9 bI _ eJ) _ ?_;refine aT aC λ_ gU fC _=>dh bK _ ?_;refine a8 h (λlC h=>?_) λlC h=>?_
  .refine aT fC λ_ s0 yh _=>?_;obtain⟨cm,fD,h⟩:=aJ h;refine dh (ae fD (oH (n:=0) fD)) _ ?_;refine a8 h (λiw h=>?_) λiw h=>?_
   .obtain⟨db,fS,h⟩:=aJ h;refine eS (ae fD (ae (oH (n:=0) fD) (ae (show∀s,fw ay s 76 [(0,.int .i64 0),(1,.int .i64 db)]=some (.agg [.int .i64 0,.int .i64 db],s)from λs=>by kernel_rfl) (show∀s,ek ay s 44 1 [(0,.agg [.int .i64 0,.int .i64 db])]=some (.aw 2 [.agg [.int .i64 0,.int .i64 db]],s)from λs=>by kernel_rfl)))) (oS (cm.Value==0) _ fS) _ ?_;exact ct yh [.aw 2 ([(aK.mk 0 db)].map aW)]
   .refine bd (s0 _ (inl ?_));obtain⟨H_,lD,h⟩:=aJ h;(try simp only[jK.down,Nat.zero_add,Nat.add_zero,reduceAdd]at lD);refine dh (ae bK (ae (show∀s,ek ay s 44 1 [(0,.agg [.int .i64 ak.Kind,.int .i64 ak.Value])]=some (.aw 2 [.agg [.int .i64 ak.Kind,.int .i64 ak.Value]],s)from λs=>by kernel_rfl) (ae (@j5 ay 44 44 76 rfl rfl) (ae @j6 (ae @j7 (ae @j8 (ae @j4 (ae @all_nil (ae lD (@iZ _ aW 2 λ_=>rfl)))))))))) [(2,.aw 2 (([ak]++bF).map aW))] ?_;exact ct fC [.aw 2 (([ak]++bF).map aW)]
  .refine bd (gU _ (inl ?_));obtain⟨dV,ve,h⟩:=aJ h;obtain⟨dW,vg,h⟩:=aJ h;refine eS (ae ve (@iZ _ aW 2 λ_=>rfl)) (H9 dV _ vg) _ ?_;refine aT aC λ_ s3 CA _=>?_;obtain⟨fJ,mj,h⟩:=aJ h;rcases e8 h with⟨ri,h⟩|⟨ri,h⟩
   .obtain⟨lo,yi,h⟩:=aJ h;refine dh (ae mj (ae (oH (n:=0) mj) (ae ri (ae yi (oH (n:=0) yi))))) _ ?_;refine a8 h (λiL h=>?_) λiL h=>?_
    .obtain⟨lp,hU,h⟩:=aJ h;refine sR (ae bK (ae mj (ae (oH (n:=0) mj) (ae yi (ae (oH (n:=0) yi) (ae (show∀s,fw ay s 76 [(0,.int .i64 0),(1,.int .i64 lp)]=some (.agg [.int .i64 0,.int .i64 lp],s)from λs=>by kernel_rfl) (show∀s,ek ay s 44 1 [(0,.agg [.int .i64 0,.int .i64 lp])]=some (.aw 2 [.agg [.int .i64 0,.int .i64 lp]],s)from λs=>by kernel_rfl))))))) (R3 ak.Value fJ.Value lo.Value _ hU) _ ?_;exact ct CA [.aw 2 ([(aK.mk 0 lp)].map aW)]
    .refine bd (s3 _ (inl ?_));obtain⟨R5,rj,h⟩:=aJ h;(try simp only[jK.down,Nat.zero_add,Nat.add_zero,reduceAdd]at rj);refine dh (ae bK (ae (show∀s,ek ay s 44 1 [(0,.agg [.int .i64 ak.Kind,.int .i64 ak.Value])]=some (.aw 2 [.agg [.int .i64 ak.Kind,.int .i64 ak.Value]],s)from λs=>by kernel_rfl) (ae (@j5 ay 44 44 76 rfl rfl) (ae @j6 (ae @j7 (ae @j8 (ae @j4 (ae @all_nil (ae rj (@iZ _ aW 2 λ_=>rfl)))))))))) [(5,.aw 2 (dW.map aW)),(6,.aw 2 (([ak]++bF).map aW))] ?_;obtain⟨R5,sZ,h⟩:=aJ h;(try simp only[jK.down,Nat.zero_add,Nat.add_zero,reduceAdd]at sZ);refine dh (ae (@j5 ay 44 44 76 rfl rfl) (ae @j6 (ae @j7 (ae @j8 (ae @j4 (ae @all_nil (ae sZ (@iZ _ aW 2 λ_=>rfl)))))))) [(2,.aw 2 ((([ak]++bF)++dW).map aW))] ?_;exact ct aC [.aw 2 ((([ak]++bF)++dW).map aW)]
   .refine dh (ae mj (ae (oH (n:=0) mj) ri)) _ ?_;refine nB rfl ?_;refine bd (s3 _ (inl ?_));obtain⟨R6,yj,h⟩:=aJ h;(try simp only[jK.down,Nat.zero_add,Nat.add_zero,reduceAdd]at yj);refine dh (ae bK (ae (show∀s,ek ay s 44 1 [(0,.agg [.int .i64 ak.Kind,.int .i64 ak.Value])]=some (.aw 2 [.agg [.int .i64 ak.Kind,.int .i64 ak.Value]],s)from λs=>by kernel_rfl) (ae (@j5 ay 44 44 76 rfl rfl) (ae @j6 (ae @j7 (ae @j8 (ae @j4 (ae @all_nil (ae yj (@iZ _ aW 2 λ_=>rfl)))))))))) [(5,.aw 2 (dW.map aW)),(6,.aw 2 (([ak]++bF).map aW))] ?_;obtain⟨R6,Ia,h⟩:=aJ h;(try simp only[jK.down,Nat.zero_add,Nat.add_zero,reduceAdd]at Ia);refine dh (ae (@j5 ay 44 44 76 rfl rfl) (ae @j6 (ae @j7 (ae @j8 (ae @j4 (ae @all_nil (ae Ia (@iZ _ aW 2 λ_=>rfl)))))))) [(2,.aw 2 ((([ak]++bF)++dW).map aW))] ?_;exact ct aC [.aw 2 ((([ak]++bF)++dW).map aW)]
theorem R7:∀n J r,sl n J=some r->bb ay 86 [.slice (J.map aW)] (.aw 2 (r.map aW)) []:=by
 intro n;induction n with
 |zero=>intro J r h;cases(show none=some r from h)
 |succ n ih=>intro J r h;exact R4 (sl n) ih J r h
theorem R8 (J r) (h:xl J=some r):bb ay 86 [.slice (J.map aW)] (.aw 2 (r.map aW)) []:=by
 obtain⟨n,h⟩:=mo h;exact R7 n J r h
theorem R9 (J ag a4 r) (h:xm J ag a4=some r):bb ay 60 [.ref (cQ J),.slice (ag.map gd),.int .i64 a4] (.bool r) []:=by
 refine ca [0,1,2] [.tmp 6] Try.func60 Qr λb3 aC b2=>aH ?_;refine aT aC λ_ b5 br aG=>aH ?_;refine b_ br λfK _ bV cy bu=>?_;show bc ay (.loop ?fk) _ _;have gg:∀n g2,uV J ag a4 n g2=some r->dy ay ?fk fK (au [(0,.ref (cQ J)),(1,.slice (ag.map gd)),(2,.int .i64 a4),(7,.int .i64 g2)]):=by
  refine eg λ_ fR g2 h=>ef bV λ_ fh c7 bI=>aT c7 λ_ en _ bF=>aH ?_;refine a8 h (λdq h=>?_) λdq h=>?_
  .refine bd (en _ (inl (aT c7 λ_ eG dw _=>b_ dw λ_ cR di _ _=>?_)));obtain⟨ak,dF,h⟩:=aJ h;obtain⟨aG,eJ,h⟩:=aJ h;obtain⟨aP,e1,h⟩:=aJ h;obtain⟨bu,e2,h⟩:=aJ h;refine qH rfl (qJ [(0,.ref (cQ J)),(1,.slice (ag.map gd)),(2,.int .i64 a4),(7,.int .i64 g2),(8,.aw 2 (bu.map aW))] (λP bs=>?_) ?_)
   ·(try simp only[gT.down,simprocAttr,dF,eJ]);refine lk (R0 aG ag J.Start _ e1) (hK:= ?_);simp only[gT.down,simprocAttr,dF,eJ];refine lk (R8 aP _ e2) rfl rfl (by simp only[gT.down,simprocAttr,dF,eJ,iW,i0,i1,dM, @cT _ aW aW (λ_=>lv _)]<;>rfl) rfl (inr (iX (λ_=>x6 _) _)) ?_;simp only[gT.down,simprocAttr,dF,eJ];refine⟨pG (by kernel_rfl),?_⟩;exact cv (ae dF eJ)
   rcases e8 h with⟨ht,h⟩|⟨ht,h⟩
   .refine vc ht _ ?_;refine iV rfl ?_;exact bl di [.bool false]
   .obtain⟨bI,fD,h⟩:=aJ h;rcases e8 h with⟨iw,h⟩|⟨iw,h⟩
    .refine vc (ae ht (ae fD (ae (oH (n:=0) fD) iw))) _ ?_;refine iV rfl ?_;exact bl di [.bool false]
    .obtain⟨bF,fS,h⟩:=aJ h;refine vc (ae ht (ae fD (ae (oH (n:=0) fD) (ae iw fS)))) _ ?_;refine a8 h (λjr h=>?_) λjr h=>?_
     .exact bl di [.bool false]
     .refine bd (cR _ (eG _ (inl (fp ?_))));exact fh _ (inr ⟨_,cL rfl,fR (i64.wrap (g2+1)) h⟩)
  .exact el (bF 0 _ (bI 0 _ (cy _ (b5 _ (inl (bl aC [.bool true]))))))
 exact eP h λn h=>gg n 0 h
theorem R_ (J r) (h:xn J=some r):bb ay 40 [.ref (cQ J)] (.aw 1 (r.map gd)) []:=by
 refine ca [0] [.tmp 2] Try.func40 Qs λb3 aC b2=>aH ?_;obtain⟨W4,aV,h⟩:=aJ h;refine vd (ae (p0 aV) @List.map_replicate.{0,0}) [(0,.ref (cQ J)),(3,.aw 1 ((List.replicate (Int.toNat J.c1) false).map gd))] ?_;refine aT aC λ_ gf bV _=>ws [(0,.ref (cQ J)),(3,.aw 1 ((List.replicate (Int.toNat J.c1) false).map gd)),(4,.int .i64 0)] ?_;refine b_ bV λkA _ eo eD _=>?_;show bc ay (.loop ?hN) _ _;have ix:∀n bS ck,sq J n bS ck=some r->dy ay ?hN kA (au [(0,.ref (cQ J)),(3,.aw 1 (bS.map gd)),(4,.int .i64 ck)]):=by
  refine eg λ_ hS bS ck h=>ef eo λ_ eY fY cm=>aT fY λ_ gJ _ db=>aH ?_;refine a8 h (λhT h=>?_) λhT h=>?_
  .refine bd (gJ _ (inl (aT fY λ_ eT gu _=>b_ gu λ_ h7 _ _ _=>?_)));obtain⟨ak,e1,h⟩:=aJ h;refine jG (cB [(0,.ref (cQ J)),(3,.aw 1 ((List.set bS (Int.toNat ck) true).map gd)),(4,.int .i64 ck)] (λP bs=>?_) ?_)
   .simp only[aZ.down,simprocAttr,e1,c2 e1,gH,da];exact cv (ae e1 (ae (c2 e1) @gH))
   refine h7 _ (eT _ (inl (wr [(0,.ref (cQ J)),(3,.aw 1 ((List.set bS (Int.toNat ck) true).map gd)),(4,.int .i64 (i64.wrap (ck+1)))] ?_)));exact eY _ (inr ⟨_,cL rfl,hS (List.set bS (Int.toNat ck) true) (i64.wrap (ck+1)) h⟩)
  .refine el (db 0 _ (cm 0 _ (eD _ (gf _ (inl (aT aC λ_ lz mh _=>aH ?_))))));refine b_ mh λSa _ Cw jL _=>?_;show bc ay (.loop ?Sb) _ _;have Sc:∀n nM oI,oJ J n nM oI=some r->dy ay ?Sb Sa (au [(0,.ref (cQ J)),(3,.aw 1 (nM.map gd)),(5,.int .i64 oI)]):=by
    refine eg λCB Sd nM oI h=>ef Cw λ_ pP sW CC=>aT sW λ_ yg _ Se=>aH ?_;refine a8 h (λoQ h=>?_) λoQ h=>?_
    .refine bd (yg _ (inl (aT sW λ_ Sf CD _=>b_ CD λ_ vf sU _ _=>aH ?_)));refine b_ sU λSg _ Sh m1 _=>?_;show bc ay (.loop ?Cj) _ _;have Si:∀n i3 j_ ir,pJ (oJ J CB) J n i3 j_ ir=some r->dy ay ?Cj Sg (au [(0,.ref (cQ J)),(3,.aw 1 (i3.map gd)),(5,.int .i64 j_),(6,.int .i64 ir)]):=by
      refine eg λSj Sk i3 j_ ir h=>ef Sh λSl re ye Sm=>aT ye λ_ s3 _ So=>aH ?_;refine a8 h (λCE h=>?_) λCE h=>?_
      .refine bd (s3 _ (inl ?_));show bc ay (.seq _ ?Ci) _ _;have CF:∀sm sn so,uW (oJ J CB) (pJ (oJ J CB) J Sj) J sm sn so=some r->bc ay ?Ci Sl (au [(0,.ref (cQ J)),(3,.aw 1 (sm.map gd)),(5,.int .i64 sn),(6,.int .i64 so)]):=by
        intro sm sn so h;refine fp ?_;exact re _ (inr ⟨_,cL rfl,Sk sm sn (i64.wrap (so+1)) h⟩)
       refine aT ye λ_ vh yk _=>b_ yk λ_ CG _ _ _=>?_;obtain⟨aG,hU,h⟩:=aJ h;rcases e8 h with⟨s4,h⟩|⟨s4,h⟩
       .obtain⟨aP,rj,h⟩:=aJ h;refine df (cB [(0,.ref (cQ J)),(3,.aw 1 (i3.map gd)),(5,.int .i64 j_),(6,.int .i64 ir),(49,.bool (!aP))] (λP bs=>?_) ?_)
        ·(try simp only[aZ.down,simprocAttr,hU,c2 hU,s4]);refine ku (R9 J i3 ir _ rj) rfl rfl (by simp only[aZ.down,simprocAttr,hU,c2 hU,s4,HS.down]<;>rfl) rfl (inr (by rfl)) ?_;simp only[aZ.down,simprocAttr,hU,c2 hU,s4];exact cv (ae hU (ae (c2 hU) s4))
        refine a8 h (λSp h=>?_) λSp h=>?_
        .refine jG (cB [(0,.ref (cQ J)),(3,.aw 1 ((List.set i3 (Int.toNat ir) false).map gd)),(5,.int .i64 j_),(6,.int .i64 ir)] (λP bs=>?_) ?_)
         .simp only[aZ.down,simprocAttr,hU,c2 hU,gH,da];exact cv (ae hU (ae (c2 hU) @gH))
         exact CG _ (vh _ (inr ⟨_,cL rfl,CF (List.set i3 (Int.toNat ir) false) j_ ir h⟩))
        .exact bd (CG _ (vh _ (inr ⟨_,cL rfl,CF i3 j_ ir h⟩)))
       .refine dh (ae hU (ae (c2 hU) s4)) _ ?_;refine nB rfl ?_;exact bd (CG _ (vh _ (inr ⟨_,cL rfl,CF i3 j_ ir h⟩)))
      .refine el (So 4 _ (Sm 4 _ (m1 _ (vf _ (Sf _ (inl (fp ?_)))))));exact pP _ (inr ⟨_,cL rfl,Sd i3 (i64.wrap (j_+1)) h⟩)
     exact eP h λn h=>Si n nM oI 0 h
    .exact el (Se 2 _ (CC 2 _ (jL _ (lz _ (inl (bl aC [.aw 1 (nM.map gd)]))))))
   exact eP h λn h=>Sc n bS 0 h
 exact eP h λn h=>ix n (List.replicate (Int.toNat J.c1) false) 0 h
theorem Sq (J ag r) (h:xp J ag=some r):bb ay 39 [.slice (J.map gd),.bool ag] (.aw 1 (r.map aR)) []:=by
 refine ca [0,1] [.tmp 4] Try.func39 Qt λb3 aC b2=>aH ?_;refine dh (show∀s,ek ay s 22 0 []=some (.aw 1 [],s)from λs=>by kernel_rfl) _ ?_;refine aT aC λ_ h6 e5 _=>aH ?_;refine b_ e5 λoU _ c7 c0 _=>?_;show bc ay (.loop ?hN) _ _;have ix:∀n fm fg,qX J ag n fm fg=some r->dy ay ?hN oU (au [(0,.slice (J.map gd)),(1,.bool ag),(5,.aw 1 (fm.map aR)),(6,.int .i64 fg)]):=by
  refine eg λkP hS fm fg h=>ef c7 λkA en eo bF=>aT eo λ_ eY _ cm=>aH ?_;refine a8 h (λfq h=>?_) λfq h=>?_
  .refine bd (eY _ (inl ?_));show bc ay (.seq _ ?Cx) _ _;have rh:∀sr ss,xo (qX J ag kP) J ag sr ss=some r->bc ay ?Cx kA (au [(0,.slice (J.map gd)),(1,.bool ag),(5,.aw 1 (sr.map aR)),(6,.int .i64 ss)]):=by
    intro sr ss h;refine fp ?_;exact en _ (inr ⟨_,cL rfl,hS sr (i64.wrap (ss+1)) h⟩)
   refine aT eo λ_ cR di _=>b_ di λ_ h7 _ _ _=>?_;obtain⟨ak,e1,h⟩:=aJ h;refine dh e1 _ ?_;refine a8 h (λiK h=>?_) λiK h=>?_
   .obtain⟨RL,iI,h⟩:=aJ h;(try simp only[jK.down,Nat.zero_add,Nat.add_zero,reduceAdd]at iI);refine mY (ae (show∀s,ek ay s 22 1 [(0,.int .i64 fg)]=some (.aw 1 [.int .i64 fg],s)from λs=>by kernel_rfl) (ae (@j5 ay 22 22 2 rfl rfl) (ae @j6 (ae @j7 (ae @j8 (ae @j4 (ae @all_nil (ae iI (@iZ _ aR 1 λ_=>rfl))))))))) [(0,.slice (J.map gd)),(1,.bool ag),(5,.aw 1 ((fm++[fg]).map aR)),(6,.int .i64 fg)] ?_;exact h7 _ (cR _ (inr ⟨_,cL rfl,rh (fm++[fg]) fg h⟩))
   .exact bd (h7 _ (cR _ (inr ⟨_,cL rfl,rh fm fg h⟩)))
  .exact el (cm 0 _ (bF 0 _ (c0 _ (h6 _ (inl (bl aC [.aw 1 (fm.map aR)]))))))
 exact eP h λn h=>ix n [] 0 h
theorem Sr (J r) (h:xq J=some r):bb ay 12 [cQ J] (.tuple [.aw 1 (r.1.map aR),.int .i64 r.2]) []:=by
 refine ca [0] [.tmp 2,.tmp 3] Try.func12 Qu λb3 aC b2=>aH ?_;refine aT aC λ_ b5 br aG=>?_;obtain⟨ak,bK,h⟩:=aJ h;refine df (cB [(1,.bh (cQ J)),(5,.bool (!ak))] (λP bs=>?_) ?_)
 .refine du (RX J _ bK) rfl rfl (by simp only[aZ.down,simprocAttr,Cn.down]<;>rfl) rfl (inr (by rfl)) ?_;simp only[aZ.down,simprocAttr];exact cv trivial
 refine a8 h (λc0 h=>?_) λc0 h=>?_
 .refine aH ?_;exact lj (br _ (inr ⟨[(2,.aw 1 []),(3,.int .i64 1)],l8 [] rfl (l_ (t:=2) (d:=.a5) rfl rfl (.iR _) (by decide) (iY rfl (l9))),r_ [.aw 1 [],.int .i64 1]⟩))
 .refine bd (b5 _ (inl ?_));obtain⟨aG,fy,h⟩:=aJ h;obtain⟨aP,h2,h⟩:=aJ h;refine df (cB [(2,.aw 1 (aP.map aR)),(3,.int .i64 0)] (λP bs=>?_) ?_)
  .refine du (R_ J _ fy) rfl rfl (by simp only[aZ.down,simprocAttr,Cn.down]<;>rfl) rfl (inr (iX (λ_=>PT _) _)) ?_;simp only[aZ.down,simprocAttr];refine du (Sq aG true _ h2) rfl rfl (by simp only[aZ.down,simprocAttr,HS.down]<;>rfl) rfl (inr (iX (λ_=>oM _) _)) ?_;simp only[aZ.down,simprocAttr];exact cv trivial
  exact ct aC [.aw 1 (aP.map aR),.int .i64 0]
theorem lF (J ag a4 r) (h:lq J ag a4=some r):bb ay 48 [.int .i64 J,.int .i64 ag,.int .i64 a4] (.bool r) []:=by
 refine ca [0,1,2] [.tmp 6] Try.func48 Qv λb3 aC b2=>aH ?_;refine ra (decide (ag<=J)) [(6,.bool ((decide (ag<=J))&&(decide (J<=a4))))] ?_;exact ct aC [.bool ((decide (ag<=J))&&(decide (J<=a4)))]
theorem Ib (J r) (h:xr J=some r):bb ay 100 [.int .i64 J] (.bool r) []:=by
 refine ca [0] [.tmp 2] Try.func100 Qw λb3 aC b2=>aH ?_;obtain⟨ak,aV,h⟩:=aJ h;refine dk (lF J 0 63 _ aV) _ ?_;exact ct aC [.bool ak]
theorem Ss (J r) (h:Bv J=some r):bb ay 99 [.int .i64 J] (.bool r) []:=by
 refine ca [0] [.tmp 2] Try.func99 Qx λb3 aC b2=>aH ?_;obtain⟨ak,aV,h⟩:=aJ h;refine dk (Ib J _ aV) _ ?_;exact ct aC [.bool (!ak)]
theorem St (J r) (h:Bw J=some r):bb ay 88 [.slice (J.map aR),.fn 99 []] (.int .i64 r) []:=by
 refine ca [0,1] [.tmp 4] Try.func88 Qy λb3 aC b2=>aH ?_;refine aT aC λ_ b5 br aG=>aH ?_;refine b_ br λfK _ bV cy _=>?_;show bc ay (.loop ?fk) _ _;have gg:∀n cz,xt J n cz=some r->dy ay ?fk fK (au [(0,.slice (J.map aR)),(1,.fn 99 []),(7,.int .i64 (J.length:Int)),(8,.int .i64 cz)]):=by
  refine eg λ_ fR cz h=>ef bV λ_ fh c7 bI=>aH ?_;refine aT c7 λ_ eY _ cm=>a8 h (λdq h=>?_) λdq h=>?_
  .refine bd (eY _ (inl (aT c7 λ_ eG dw _=>b_ dw λ_ cR di _ _=>aH ?_)));obtain⟨ak,eJ,h⟩:=aJ h;obtain⟨aG,e1,h⟩:=aJ h;refine eS eJ (Ss ak _ e1) _ ?_;refine a8 h (λiK h=>?_) λiK h=>?_
   .exact bl di [.int .i64 cz]
   .refine bd (cR _ (eG _ (inl (fp ?_))));exact fh _ (inr ⟨_,cL rfl,fR (i64.wrap (cz+1)) h⟩)
  .exact el (cm 0 _ (bI 0 _ (cy _ (b5 _ (inl (bl aC [.int .i64 (-1)]))))))
 exact eP h λn h=>gg n 0 h
theorem Su (J r) (h:Bx J=some r):bb ay 98 [.slice (J.map aR),.fn 99 []] (.bool r) []:=by
 refine ca [0,1] [.tmp 4] Try.func98 Qz λb3 aC b2=>aH ?_;obtain⟨ak,aV,h⟩:=aJ h;refine dk (St J _ aV) _ ?_;exact ct aC [.bool (decide (0<=ak))]
theorem Sv (J r) (h:Bz J=some r):bb ay 76 [.slice (J.map aR)] (.bool r) []:=by
 refine ca [0] [.tmp 2] Try.func76 QA λb3 aC b2=>aH ?_;obtain⟨ak,aV,h⟩:=aJ h;refine dk (Su J _ aV) _ ?_;exact ct aC [.bool (!ak)]
theorem Ic (J ag r) (h:xu J ag=some r):bb ay 49 [cQ J,.slice (ag.map aR)] (.bool r) []:=by
 refine ca [0,1] [.tmp 4] Try.func49 Ci λb3 aC b2=>aH ?_;rcases e8 h with⟨iD,h⟩|⟨iD,h⟩
 .obtain⟨ak,bK,h⟩:=aJ h;refine eS iD (Sv ag _ bK) _ ?_;exact ct aC [.bool ak]
 .refine dh iD _ ?_;exact ct aC [.bool false]
theorem Ie (J r) (h:xv J=some r):bb ay 78 [dN J] (.bool r) []:=by
 refine ca [0] [.tmp 2] Try.func78 QB λb3 aC b2=>aH ?_;refine aH ?_;refine aT aC λ_ h6 e5 _=>aH ?_;refine b_ e5 λoU _ c7 c0 _=>?_;show bc ay (.loop ?hN) _ _;have ix:∀n bS nN,su J n bS nN=some r->dy ay ?hN oU (au [(1,.bh (dN J)),(3,.int .i64 bS),(7,.slice (J.bw.map aR)),(8,.int .i64 (J.bw.length:Int)),(9,.int .i64 nN)]):=by
  refine eg λ_ hS bS nN h=>ef c7 λ_ en eo bF=>aH ?_;refine aT eo λ_ gJ _ db=>a8 h (λfq h=>?_) λfq h=>?_
  .refine bd (gJ _ (inl (aT eo λ_ cR di _=>b_ di λ_ eT gu _ _=>?_)));obtain⟨ak,eJ,h⟩:=aJ h;refine dh eJ _ ?_;refine aT gu λ_ gU fC _=>?_;obtain⟨aG,dJ,h⟩:=aJ h;refine dk (lF ak 1 7 _ dJ) _ ?_;refine a8 h (λht h=>?_) λht h=>?_
   .exact bl fC [.bool false]
   .refine bd (gU _ (inl (fp ?_)));refine eT _ (cR _ (inl (fp ?_)));exact en _ (inr ⟨_,cL rfl,hS (i64.wrap (bS*(i64.wrap (ak+1)))) (i64.wrap (nN+1)) h⟩)
  .refine el (db 0 _ (bF 0 _ (c0 _ (h6 _ (inl (ra (decide ((J.bw.length:Int)<=8)) [(2,.bool ((decide ((J.bw.length:Int)<=8))&&(decide (bS<=4096))))] ?_))))));exact ct aC [.bool ((decide ((J.bw.length:Int)<=8))&&(decide (bS<=4096)))]
 exact eP h λn h=>ix n 1 0 h
theorem Sw (J r) (h:BB J=some r):bb ay 115 [.int .u8 (J.toNat:Int)] (.bool r) []:=by
 refine ca [0] [.tmp 2] Try.func115 QC λb3 aC b2=>aH ?_;refine ra (decide (48<=(J.toNat:Int))) [(2,.bool ((decide (48<=(J.toNat:Int)))&&(decide ((J.toNat:Int)<=57))))] ?_;exact ct aC [.bool ((decide (48<=(J.toNat:Int)))&&(decide ((J.toNat:Int)<=57)))]
theorem Ig (J r) (h:xx J=some r):bb ay 101 [.str J] (.bool r) []:=by
 refine ca [0] [.tmp 2] Try.func101 QD λb3 aC b2=>aH ?_;refine aT aC λ_ b5 br aG=>aH ?_;refine b_ br λfK _ bV cy _=>?_;show bc ay (.loop ?fk) _ _;have gg:∀n g2,pK J n g2=some r->dy ay ?fk fK (au [(0,.str J),(6,.int .i64 (J.length:Int)),(7,.int .i64 g2)]):=by
  refine eg λ_ fR g2 h=>ef bV λ_ fh c7 bI=>aH ?_;refine aT c7 λ_ eY _ cm=>a8 h (λdq h=>?_) λdq h=>?_
  .refine bd (eY _ (inl (aT c7 λ_ eG dw _=>b_ dw λ_ cR di _ _=>aH ?_)));obtain⟨ak,eJ,h⟩:=aJ h;refine RG (decide (97<=(ak.toNat:Int))) eJ [(0,.str J),(3,.int .i64 g2),(4,.bool ((decide (97<=(ak.toNat:Int)))&&(decide ((ak.toNat:Int)<=122)))),(6,.int .i64 (J.length:Int)),(7,.int .i64 g2)] ?_;rcases e8 h with⟨iK,h⟩|⟨iK,h⟩
   .rcases e8 h with⟨lC,h⟩|⟨lC,h⟩
    .refine dh (ae iK lC) _ ?_;refine iV rfl ?_;exact bl di [.bool false]
    .obtain⟨aG,gV,h⟩:=aJ h;refine eS (ae iK (ae lC eJ)) (Sw ak _ gV) _ ?_;refine a8 h (λkB h=>?_) λkB h=>?_
     .exact bl di [.bool false]
     .refine bd (cR _ (eG _ (inl (fp ?_))));exact fh _ (inr ⟨_,cL rfl,fR (i64.wrap (g2+1)) h⟩)
   .refine dh iK _ ?_;refine nB rfl ?_;refine bd (cR _ (eG _ (inl (fp ?_))));exact fh _ (inr ⟨_,cL rfl,fR (i64.wrap (g2+1)) h⟩)
  .refine el (cm 0 _ (bI 0 _ (cy _ (b5 _ (inl (ra (decide (1<=(J.length:Int))) [(2,.bool ((decide (1<=(J.length:Int)))&&(decide ((J.length:Int)<=10))))] ?_))))));exact ct aC [.bool ((decide (1<=(J.length:Int)))&&(decide ((J.length:Int)<=10)))]
 exact eP h λn h=>gg n 0 h
theorem Ih (J r) (h:uY J=some r):bb ay 79 [.str J] (.bool r) []:=by
 refine ca [0] [.tmp 2] Try.func79 QE λb3 aC b2=>aH ?_;obtain⟨ak,aV,h⟩:=aJ h;refine df (cB [(2,.bool (ak&&(!(J==([116,97,117]:Xq)))))] (λP bs=>?_) ?_)
 .rcases Bool.eq_false_or_eq_true (ak)with jY|jY
  ·(try simp only[aZ.down,simprocAttr,jY]);refine du (Ig J _ aV) (hK:= ?_);simp only[aZ.down,simprocAttr,jY];exact cv jY
  ·(try simp only[aZ.down,simprocAttr,jY]);refine du (Ig J _ aV) (hK:= ?_);simp only[aZ.down,simprocAttr,jY];exact cv jY
 exact ct aC [.bool (ak&&(!(J==([116,97,117]:Xq))))]
theorem Sy (ag r) (h:xz ag=some r):bb ay 116 [.a5,.int .i64 ag] (.aw 1 []) []:=by
 refine ca [] [.tmp 4] Try.func116 QF λb3 aC b2=>aH ?_;have Sz:BC ag=some r->bc ay HN b3 (au [(0,.a5),(1,.int .i64 ag),(6,.bool (decide (ag<0)))]):=by
  intro h;have Ii:xy=some r->bc ay HM b3 (au [(0,.aw 1 [])]):=by
   intro h;exact bl aC [.aw 1 []]
  refine aT aC λ_ h6 _ _=>dh (ae @GO λs x h=> @GN ay s 45 44 x rfl h) _ ?_;refine aH ?_;refine a8 h (λtJ h=>?_) λtJ h=>?_
  .obtain⟨W5,h2,h⟩:=aJ h;refine jG (cB [(0,.aw 1 [])] (λP bs=>?_) ?_)
   .simp only[aZ.down,simprocAttr,HT.down,p0 h2,hJ,-Int.reduceNatCast',nF];(try simp only[iv.down,simprocAttr,HT.down,p0 h2,hJ,-Int.reduceNatCast',nF]at bs⊢);exact bs
   exact h6 _ (inr ⟨_,cL rfl,Ii h⟩)
  .exact bd (h6 _ (inr ⟨_,l8 [] rfl (l_ (t:=0) (d:=.a5) (a7:=.aw 1 []) rfl rfl (.iR _) (by decide) (l9)),Ii h⟩))
 refine aT aC λ_ b5 _ _=>aH ?_;refine a8 h (λnV h=>?_) λnV h=>?_
 .cases h
 .exact bd (b5 _ (inr ⟨_,cL rfl,Sz h⟩))
theorem SA (J r) (h:xB J=some r):bb ay 103 [.slice (J.map kb)] (.aw 1 (r.map dv)) []:=by
 refine ca [0] [.tmp 2] Try.func103 QG λb3 aC b2=>aH ?_;refine aH ?_;refine aT aC λ_ h6 e5 aP=>aH ?_;refine b_ e5 λoU _ c7 c0 _=>?_;show bc ay (.loop ?hN) _ _;have ix:∀n bS gb,qZ J n bS gb=some r->dy ay ?hN oU (au [(0,.slice (J.map kb)),(3,.int .i64 bS),(9,.slice (J.map kb)),(10,.int .i64 (J.length:Int)),(11,.int .i64 gb)]):=by
  refine eg λkP hS bS gb h=>ef c7 λkA en eo bF=>aH ?_;refine aT eo λ_ gJ _ db=>a8 h (λfq h=>?_) λfq h=>?_
  .refine bd (gJ _ (inl ?_));show bc ay (.seq _ ?Ch) _ _;have SB:∀sv sw xA,BD (qZ J kP) J sv sw xA=some r->bc ay ?Ch kA (au [(0,.slice (J.map kb)),(3,.int .i64 sv),(9,.slice (J.map kb)),(10,.int .i64 (J.length:Int)),(11,.int .i64 sw),(20,.bool xA)]):=by
    intro sv sw xA h;refine fp ?_;exact en _ (inr ⟨_,cL rfl,hS sv (i64.wrap (sw+1)) h⟩)
   refine aT eo λ_ cR di _=>b_ di λ_ h7 _ _ _=>?_;obtain⟨ak,e1,h⟩:=aJ h;refine dh e1 _ ?_;refine aH ?_;refine aH ?_;refine a8 h (λht h=>?_) λht h=>?_
   .cases h
   .exact bd (h7 _ (cR _ (inr ⟨_,cL rfl,SB (i64.wrap (bS+(ak.length:Int))) gb (decide ((i64.wrap (bS+(ak.length:Int)))<0)) h⟩)))
  .refine el (db 0 _ (bF 0 _ (c0 _ (h6 _ (inl ?_)))));obtain⟨aG,kd,h⟩:=aJ h;refine dk (Sy bS _ kd) _ ?_;refine aT aC λ_ oP rb _=>aH ?_;refine b_ rb λSC _ CD jr _=>?_;show bc ay (.loop ?oN) _ _;have SD:∀n lr me,qY J n lr me=some r->dy ay ?oN SC (au [(6,.aw 1 (lr.map dv)),(25,.slice (J.map kb)),(26,.int .i64 (J.length:Int)),(27,.int .i64 me)]):=by
    refine eg λ_ SE lr me h=>ef CD λ_ vf sU SF=>aH ?_;refine aT sU λ_ SG _ SH=>a8 h (λm2 h=>?_) λm2 h=>?_
    .refine bd (SG _ (inl (aT sU λ_ s3 CA _=>b_ CA λ_ SI _ _ _=>?_)));obtain⟨aP,sX,h⟩:=aJ h;refine dh sX _ ?_;obtain⟨W6,sY,h⟩:=aJ h;(try simp only[jK.down,Nat.zero_add,Nat.add_zero,reduceAdd]at sY);refine mY (ae (@j5 ay 45 45 44 rfl rfl) (ae @j6 (ae @j7 (ae @j8 (ae @j4 (ae @all_nil (ae sY (@iZ _ dv 1 λ_=>rfl)))))))) [(6,.aw 1 ((lr++aP).map dv)),(25,.slice (J.map kb)),(26,.int .i64 (J.length:Int)),(27,.int .i64 me)] ?_;refine SI _ (s3 _ (inl (wr [(6,.aw 1 ((lr++aP).map dv)),(25,.slice (J.map kb)),(26,.int .i64 (J.length:Int)),(27,.int .i64 (i64.wrap (me+1)))] ?_)));exact vf _ (inr ⟨_,cL rfl,SE (lr++aP) (i64.wrap (me+1)) h⟩)
    .exact el (SH 2 _ (SF 2 _ (jr _ (oP _ (inl (bl aC [.aw 1 (lr.map dv)]))))))
   exact eP h λn h=>SD n [] 0 h
 exact eP h λn h=>ix n 0 0 h
theorem CH (J r) (h:sx J=some r):bb ay 81 [dN J] (.aw 1 (r.map dv)) []:=by
 refine ca [0] [.tmp 2] Try.func81 QH λb3 aC b2=>aH ?_;obtain⟨ak,aV,h⟩:=aJ h;refine df (cB [(2,.aw 1 (ak.map dv))] (λP bs=>?_) ?_)
 ·(try simp only[aZ.down,simprocAttr,(show∀s,ek ay s 45 1 [(0,.slice (J.Guard.map aW))]=some (.aw 1 [.slice (J.Guard.map aW)],s)from λs=>by kernel_rfl),Co.down,I.shares,(show∀s,ek ay s 131 3 [(0,.slice [.slice (J.Guard.map aW)]),(1,.slice (J.bP.map dv)),(2,.slice (J.Next.map dv))]=some (.aw 1 [.slice [.slice (J.Guard.map aW)],.slice (J.bP.map dv),.slice (J.Next.map dv)],s)from λs=>by kernel_rfl)]);refine du (SA [[J.Guard],J.bP,J.Next] _ aV) (hK:= ?_);simp only[aZ.down,simprocAttr,(show∀s,ek ay s 45 1 [(0,.slice (J.Guard.map aW))]=some (.aw 1 [.slice (J.Guard.map aW)],s)from λs=>by kernel_rfl),Co.down,I.shares,(show∀s,ek ay s 131 3 [(0,.slice [.slice (J.Guard.map aW)]),(1,.slice (J.bP.map dv)),(2,.slice (J.Next.map dv))]=some (.aw 1 [.slice [.slice (J.Guard.map aW)],.slice (J.bP.map dv),.slice (J.Next.map dv)],s)from λs=>by kernel_rfl)];exact cv (ae (show∀s,ek ay s 45 1 [(0,.slice (J.Guard.map aW))]=some (.aw 1 [.slice (J.Guard.map aW)],s)from λs=>by kernel_rfl) (ae Co.down (show∀s,ek ay s 131 3 [(0,.slice [.slice (J.Guard.map aW)]),(1,.slice (J.bP.map dv)),(2,.slice (J.Next.map dv))]=some (.aw 1 [.slice [.slice (J.Guard.map aW)],.slice (J.bP.map dv),.slice (J.Next.map dv)],s)from λs=>by kernel_rfl)))
 exact ct aC [.aw 1 (ak.map dv)]
theorem SJ (J ag r) (h:xC J ag=some r):bb ay 104 [aW J,.int .i64 ag] (.bool r) []:=by
 refine ca [0,1] [.tmp 4] Try.func104 QI λb3 aC b2=>aH ?_;refine aT aC λ_ b5 br aG=>aH ?_;refine b_ br λ_ gf bV _ _=>aH ?_;refine a8 h (λeD h=>?_) λeD h=>?_
 .obtain⟨ak,fy,h⟩:=aJ h;refine dk (Ib J.Value _ fy) _ ?_;exact ct bV [.bool ak]
 .refine aH ?_;refine a8 h (λhT h=>?_) λhT h=>?_
  .obtain⟨aG,dF,h⟩:=aJ h;refine dk (lF J.Value 0 (i64.wrap (ag-1)) _ dF) _ ?_;exact ct bV [.bool aG]
  .refine aH ?_;refine a8 h (λhv h=>?_) λhv h=>?_
   .obtain⟨aP,dJ,h⟩:=aJ h;refine dk (lF J.Value 0 8 _ dJ) _ ?_;exact ct bV [.bool aP]
   .refine aH ?_;refine a8 h (λjL h=>?_) λjL h=>?_
    .exact bl bV [.bool (J.Value==0)]
    .exact bd (gf _ (b5 _ (inl (bl aC [.bool false]))))
theorem Ij (J r) (h:xD J=some r):bb ay 105 [aW J] (.int .i64 r) []:=by
 refine ca [0] [.tmp 2] Try.func105 QJ λb3 aC b2=>aH ?_;refine aT aC λ_ b5 br _=>aH ?_;refine b_ br λ_ gf bV _ _=>aH ?_;refine a8 h (λeD h=>?_) λeD h=>?_
 .exact bl bV [.int .i64 2]
 .refine aH ?_;refine a8 h (λfq h=>?_) λfq h=>?_
  .exact bl bV [.int .i64 1]
  .exact bd (gf _ (b5 _ (inl (bl aC [.int .i64 0]))))
theorem SK (J ag a4 r) (h:xE J ag a4=some r):bb ay 83 [.slice (J.map aW),.int .i64 ag,.int .i64 a4] (.bool r) []:=by
 refine ca [0,1,2] [.tmp 6] Try.func83 QK λb3 aC b2=>aH ?_;refine aT aC λ_ b5 br aG=>?_;obtain⟨ak,bK,h⟩:=aJ h;rcases e8 h with⟨c0,h⟩|⟨c0,h⟩
 .refine eS (mb c0) (lF ag 0 29 _ bK) _ ?_;refine iV rfl ?_;exact bl br [.bool false]
 .obtain⟨aG,bt,h⟩:=aJ h;rcases e8 h with⟨dq,h⟩|⟨dq,h⟩
  .refine df (cB [(0,.slice (J.map aW)),(1,.int .i64 ag),(24,.bool true)] (λP bs=>?_) ?_)
   ·(try simp only[aZ.down,simprocAttr,(fQ c0),(mb dq)]);refine du (lF ag 0 29 _ bK) (hK:= ?_);simp only[aZ.down,simprocAttr,(fQ c0),(mb dq)];refine ku (lF a4 1 60 _ bt) (hK:= ?_);simp only[aZ.down,simprocAttr,(fQ c0),(mb dq)];exact cv (ae (fQ c0) (mb dq))
   refine iV rfl ?_;exact bl br [.bool false]
  .obtain⟨aP,jw,h⟩:=aJ h;refine df (cB [(0,.slice (J.map aW)),(1,.int .i64 ag),(24,.bool (!aP))] (λP bs=>?_) ?_)
   ·(try simp only[aZ.down,simprocAttr,(fQ c0),(fQ dq)]);refine du (lF ag 0 29 _ bK) (hK:= ?_);simp only[aZ.down,simprocAttr,(fQ c0),(fQ dq)];refine ku (lF a4 1 60 _ bt) (hK:= ?_);simp only[aZ.down,simprocAttr,(fQ c0),(fQ dq)];refine ku (lF (J.length:Int) 1 a4 _ jw) (hK:= ?_);simp only[aZ.down,simprocAttr,(fQ c0),(fQ dq)];exact cv (ae (fQ c0) (fQ dq))
   refine a8 h (λnV h=>?_) λnV h=>?_
   .exact bl br [.bool false]
   .refine bd (b5 _ (inl (aH ?_)));refine aT aC λ_ gU fC _=>aH ?_;refine b_ fC λSL _ mh lC _=>?_;show bc ay (.loop ?mX) _ _;have mZ:∀n hP nO,sy J ag n hP nO=some r->dy ay ?mX SL (au [(1,.int .i64 ag),(7,.int .i64 hP),(25,.slice (J.map aW)),(26,.int .i64 (J.length:Int)),(27,.int .i64 nO)]):=by
     refine eg λ_ m0 hP nO h=>ef mh λ_ s0 yh SM=>aH ?_;refine aT yh λ_ pP _ CC=>a8 h (λiw h=>?_) λiw h=>?_
     .refine bd (pP _ (inl (aT yh λ_ oP rb _=>b_ rb λ_ CI CJ _ _=>?_)));obtain⟨bu,lD,h⟩:=aJ h;refine dh lD _ ?_;refine aT CJ λ_ CK yl _=>?_;rcases e8 h with⟨m2,h⟩|⟨m2,h⟩
      .refine dh m2 _ ?_;refine iV rfl ?_;exact bl yl [.bool false]
      .obtain⟨bI,lE,h⟩:=aJ h;refine eS m2 (SJ bu ag _ lE) _ ?_;refine a8 h (λCE h=>?_) λCE h=>?_
       .exact bl yl [.bool false]
       .refine bd (CK _ (inl ?_));obtain⟨bF,sY,h⟩:=aJ h;refine Cm (Ij bu _ sY) _ ?_;refine CI _ (oP _ (inl (fp ?_)));exact s0 _ (inr ⟨_,cL rfl,m0 (i64.wrap (hP+(i64.wrap (bF-1)))) (i64.wrap (nO+1)) h⟩)
     .exact el (CC 0 _ (SM 0 _ (lC _ (gU _ (inl (bl aC [.bool (hP==0)]))))))
    exact eP h λn h=>mZ n 1 0 h
theorem SN (J ag a4 r) (h:xF J ag a4=some r):bb ay 82 [.slice (J.map aW),.ref (.int .i64 ag),.ref (dN a4)] (.bool r) []:=by
 refine ca [0,1,2] [.tmp 4] Try.func82 QL λb3 aC b2=>aH ?_;obtain⟨ak,aV,h⟩:=aJ h;refine dk (SK J (i64.wrap (ag+(a4.bw.length:Int))) 60 _ aV) _ ?_;exact ct aC [.bool (!ak)]
theorem SO (J bN bO r) (h:BI J bN bO=some r):bb ay 102 [.slice (J.map dv),.fn 82 [.ref (.int .i64 bN),.ref (dN bO)]] (.int .i64 r) []:=by
 refine ca [0,1] [.tmp 4] Try.func102 QM λb3 aC b2=>aH ?_;refine aT aC λ_ b5 br aG=>aH ?_;refine b_ br λfK _ bV cy _=>?_;show bc ay (.loop ?fk) _ _;have gg:∀n cz,xG J bN bO n cz=some r->dy ay ?fk fK (au [(0,.slice (J.map dv)),(1,.fn 82 [.ref (.int .i64 bN),.ref (dN bO)]),(7,.int .i64 (J.length:Int)),(8,.int .i64 cz)]):=by
  refine eg λ_ fR cz h=>ef bV λ_ fh c7 bI=>aH ?_;refine aT c7 λ_ eY _ cm=>a8 h (λdq h=>?_) λdq h=>?_
  .refine bd (eY _ (inl (aT c7 λ_ eG dw _=>b_ dw λ_ cR di _ _=>aH ?_)));obtain⟨ak,eJ,h⟩:=aJ h;obtain⟨aG,e1,h⟩:=aJ h;refine eS eJ (SN ak bN bO _ e1) _ ?_;refine a8 h (λiK h=>?_) λiK h=>?_
   .exact bl di [.int .i64 cz]
   .refine bd (cR _ (eG _ (inl (fp ?_))));exact fh _ (inr ⟨_,cL rfl,fR (i64.wrap (cz+1)) h⟩)
  .exact el (cm 0 _ (bI 0 _ (cy _ (b5 _ (inl (bl aC [.int .i64 (-1)]))))))
 exact eP h λn h=>gg n 0 h
theorem CL (J bN bO r) (h:q0 J bN bO=some r):bb ay 80 [.slice (J.map dv),.fn 82 [.ref (.int .i64 bN),.ref (dN bO)]] (.bool r) []:=by
 refine ca [0,1] [.tmp 4] Try.func80 QN λb3 aC b2=>aH ?_;obtain⟨ak,aV,h⟩:=aJ h;refine dk (SO J bN bO _ aV) _ ?_;exact ct aC [.bool (decide (0<=ak))]
theorem SP (J ag r) (h:xH J ag=some r):bb ay 52 [dN J,.int .i64 ag] (.bool r) []:=by
 refine ca [0,1] [.tmp 4] Try.func52 QP λb3 aC b2=>aH ?_;refine aT aC λ_ b5 br aG=>?_;obtain⟨ak,bK,h⟩:=aJ h;refine df (cB [(2,.bh (dN J)),(3,.bh (.int .i64 ag)),(15,.bool ((!ak)||((J.Next.length:Int) !=ag)))] (λP bs=>?_) ?_)
 .rcases Bool.eq_false_or_eq_true (ak)with rk|rk
  ·(try simp only[aZ.down,simprocAttr,rk]);refine du (Ie J _ bK) (hK:= ?_);simp only[aZ.down,simprocAttr,rk];exact cv rk
  ·(try simp only[aZ.down,simprocAttr,rk]);refine du (Ie J _ bK) (hK:= ?_);simp only[aZ.down,simprocAttr,rk];exact cv rk
 refine a8 h (λeD h=>?_) λeD h=>?_
 .exact bl br [.bool false]
 .refine bd (b5 _ (inl (aT aC λ_ gJ iJ db=>aH ?_)));rcases e8 h with⟨nV,h⟩|⟨nV,h⟩
  .rcases e8 h with⟨hd,h⟩|⟨hd,h⟩
   .refine dh (ae nV hd) _ ?_;refine iV rfl ?_;exact bl iJ [.bool false]
   .rcases e8 h with⟨hv,h⟩|⟨hv,h⟩
    .refine dh (ae nV (ae hd hv)) _ ?_;refine iV rfl ?_;exact bl iJ [.bool false]
    .obtain⟨aG,dJ,h⟩:=aJ h;refine eS (ae nV (ae hd hv)) (Ih J.Name _ dJ) _ ?_;refine a8 h (λht h=>?_) λht h=>?_
     .exact bl iJ [.bool false]
     .refine bd (gJ _ (inl ?_));obtain⟨aP,kd,h⟩:=aJ h;obtain⟨bu,i4,h⟩:=aJ h;refine df (cB [(4,.bool (!bu))] (λP bs=>?_) ?_)
      ·(try simp only[aZ.down,simprocAttr]);refine du (CH J _ kd) (hK:= ?_);simp only[aZ.down,simprocAttr];refine du (CL aP ag J _ i4) rfl rfl (by simp only[aZ.down,simprocAttr,Cp.down]<;>rfl) rfl (inr (by rfl)) ?_;simp only[aZ.down,simprocAttr];exact cv trivial
      exact ct aC [.bool (!bu)]
  .rcases e8 h with⟨oQ,h⟩|⟨oQ,h⟩
   .obtain⟨bI,lB,h⟩:=aJ h;refine eS (ae nV oQ) (Ih J.Name _ lB) _ ?_;refine a8 h (λnU h=>?_) λnU h=>?_
    .exact bl iJ [.bool false]
    .refine bd (gJ _ (inl ?_));obtain⟨bF,vg,h⟩:=aJ h;obtain⟨cm,SQ,h⟩:=aJ h;refine df (cB [(4,.bool (!cm))] (λP bs=>?_) ?_)
     ·(try simp only[aZ.down,simprocAttr]);refine du (CH J _ vg) (hK:= ?_);simp only[aZ.down,simprocAttr];refine du (CL bF ag J _ SQ) rfl rfl (by simp only[aZ.down,simprocAttr,Cp.down]<;>rfl) rfl (inr (by rfl)) ?_;simp only[aZ.down,simprocAttr];exact cv trivial
     exact ct aC [.bool (!cm)]
   .refine dh (ae nV oQ) _ ?_;refine nB rfl ?_;refine bd (gJ _ (inl ?_));obtain⟨db,mj,h⟩:=aJ h;obtain⟨dV,sX,h⟩:=aJ h;refine df (cB [(4,.bool (!dV))] (λP bs=>?_) ?_)
    ·(try simp only[aZ.down,simprocAttr]);refine du (CH J _ mj) (hK:= ?_);simp only[aZ.down,simprocAttr];refine du (CL db ag J _ sX) rfl rfl (by simp only[aZ.down,simprocAttr,Cp.down]<;>rfl) rfl (inr (by rfl)) ?_;simp only[aZ.down,simprocAttr];exact cv trivial
    exact ct aC [.bool (!dV)]
theorem SR (J ag r) (h:xI J ag=some r):bb ay 51 [dN J,.ref (cQ ag)] (.bool r) []:=by
 refine ca [0,1] [.tmp 3] Try.func51 QQ λb3 aC b2=>aH ?_;obtain⟨ak,aV,h⟩:=aJ h;refine dk (SP J ag.c1 _ aV) _ ?_;exact ct aC [.bool (!ak)]
theorem SS (J ag r) (h:BJ J ag=some r):bb ay 77 [.slice (J.map dN),.fn 51 [.ref (cQ ag)]] (.int .i64 r) []:=by
 refine ca [0,1] [.tmp 4] Try.func77 QR λb3 aC b2=>aH ?_;refine aT aC λ_ b5 br aG=>aH ?_;refine b_ br λfK _ bV cy _=>?_;show bc ay (.loop ?fk) _ _;have gg:∀n cz,xJ J ag n cz=some r->dy ay ?fk fK (au [(0,.slice (J.map dN)),(1,.fn 51 [.ref (cQ ag)]),(7,.int .i64 (J.length:Int)),(8,.int .i64 cz)]):=by
  refine eg λ_ fR cz h=>ef bV λ_ fh c7 bI=>aH ?_;refine aT c7 λ_ eY _ cm=>a8 h (λdq h=>?_) λdq h=>?_
  .refine bd (eY _ (inl (aT c7 λ_ eG dw _=>b_ dw λ_ cR di _ _=>aH ?_)));obtain⟨ak,eJ,h⟩:=aJ h;obtain⟨aG,e1,h⟩:=aJ h;refine eS eJ (SR ak ag _ e1) _ ?_;refine a8 h (λiK h=>?_) λiK h=>?_
   .exact bl di [.int .i64 cz]
   .refine bd (cR _ (eG _ (inl (fp ?_))));exact fh _ (inr ⟨_,cL rfl,fR (i64.wrap (cz+1)) h⟩)
  .exact el (cm 0 _ (bI 0 _ (cy _ (b5 _ (inl (bl aC [.int .i64 (-1)]))))))
 exact eP h λn h=>gg n 0 h
theorem SU (J ag r) (h:BK J ag=some r):bb ay 50 [.slice (J.map dN),.fn 51 [.ref (cQ ag)]] (.bool r) []:=by
 refine ca [0,1] [.tmp 4] Try.func50 QS λb3 aC b2=>aH ?_;obtain⟨ak,aV,h⟩:=aJ h;refine dk (SS J ag _ aV) _ ?_;exact ct aC [.bool (decide (0<=ak))]
theorem SV (J r) (h:xK J=some r):bb ay 27 [cQ J] (.bool r) []:=by
 refine ca [0] [.tmp 2] Try.func27 QT λb3 aC b2=>aH ?_;refine aT aC λ_ b5 br aG=>?_;obtain⟨ak,bK,h⟩:=aJ h;rcases e8 h with⟨c0,h⟩|⟨c0,h⟩
 .refine eS (mb c0) (lF J.c1 0 21 _ bK) _ ?_;refine iV rfl ?_;exact bl br [.bool false]
 .obtain⟨aG,bt,h⟩:=aJ h;refine df (cB [(1,.bh (cQ J)),(19,.bool ((!aG)||(decide (60<(J.cY.length:Int)))))] (λP bs=>?_) ?_)
  .rcases Bool.eq_false_or_eq_true (aG)with i5|i5
   ·(try simp only[aZ.down,simprocAttr,(fQ c0),i5]);refine du (lF J.c1 0 21 _ bK) (hK:= ?_);simp only[aZ.down,simprocAttr,(fQ c0),i5];refine ku (Ic J J.Start _ bt) (hK:= ?_);simp only[aZ.down,simprocAttr,(fQ c0),i5];exact cv (ae (fQ c0) i5)
   ·(try simp only[aZ.down,simprocAttr,(fQ c0),i5]);refine du (lF J.c1 0 21 _ bK) (hK:= ?_);simp only[aZ.down,simprocAttr,(fQ c0),i5];refine ku (Ic J J.Start _ bt) (hK:= ?_);simp only[aZ.down,simprocAttr,(fQ c0),i5];exact cv (ae (fQ c0) i5)
  refine a8 h (λfq h=>?_) λfq h=>?_
  .exact bl br [.bool false]
  .refine bd (b5 _ (inl ?_));obtain⟨aP,dF,h⟩:=aJ h;refine df (cB [(2,.bool (!aP))] (λP bs=>?_) ?_)
   ·(try simp only[aZ.down,simprocAttr]);refine du (SU J.cY J _ dF) rfl rfl (by simp only[aZ.down,simprocAttr,Cn.down]<;>rfl) rfl (inr (by rfl)) ?_;simp only[aZ.down,simprocAttr];exact cv trivial
   exact ct aC [.bool (!aP)]
theorem SW (J r) (h:xL J=some r):bb ay 61 [.int .i64 J] (.aw 1 (r.map aR)) []:=by
 refine ca [0] [.tmp 2] Try.func61 QU λb3 aC b2=>aH ?_;refine aH ?_;refine aT aC λ_ h6 e5 _=>aH ?_;refine b_ e5 λoU _ c7 c0 _=>?_;show bc ay (.loop ?hN) _ _;have ix:∀n bS fg,sA J n bS fg=some r->dy ay ?hN oU (au [(3,.aw 1 (bS.map aR)),(5,.int .i64 J),(6,.int .i64 fg)]):=by
  refine eg λ_ hS bS fg h=>ef c7 λ_ en eo bF=>aH ?_;refine aT eo λ_ gJ _ db=>a8 h (λfq h=>?_) λfq h=>?_
  .refine bd (gJ _ (inl (aT eo λ_ cR di _=>b_ di λ_ eT _ _ _=>aH ?_)));obtain⟨W7,e1,h⟩:=aJ h;(try simp only[jK.down,Nat.zero_add,Nat.add_zero,reduceAdd]at e1);refine mY (ae (show∀s,ek ay s 22 1 [(0,.int .i64 fg)]=some (.aw 1 [.int .i64 fg],s)from λs=>by kernel_rfl) (ae (@j5 ay 22 22 2 rfl rfl) (ae @j6 (ae @j7 (ae @j8 (ae @j4 (ae @all_nil (ae e1 (@iZ _ aR 1 λ_=>rfl))))))))) [(3,.aw 1 ((bS++[fg]).map aR)),(5,.int .i64 J),(6,.int .i64 fg)] ?_;refine eT _ (cR _ (inl (wr [(3,.aw 1 ((bS++[fg]).map aR)),(5,.int .i64 J),(6,.int .i64 (i64.wrap (fg+1)))] ?_)));exact en _ (inr ⟨_,cL rfl,hS (bS++[fg]) (i64.wrap (fg+1)) h⟩)
  .exact el (db 0 _ (bF 0 _ (c0 _ (h6 _ (inl (bl aC [.aw 1 (bS.map aR)]))))))
 obtain⟨n,h⟩:=mo h;exact qI (inr ⟨_,l8 [] rfl (l_ (t:=3) (d:=.a5) (a7:=.aw 1 []) rfl rfl (.iR _) (by decide) (iY (t:=5) (d:=.int .i64 J) rfl (iY (t:=6) (d:=.int .i64 0) rfl (l9)))),ix n [] 0 h⟩)
theorem SX (J r) (h:xM J=some r):bb ay 28 [.slice (J.map aR)] (.aw 1 (r.map aR)) []:=by
 refine ca [0] [.tmp 2] Try.func28 QV λb3 aC b2=>aH ?_;refine aT aC λ_ b5 br _=>?_;rcases e8 h with⟨cy,h⟩|⟨cy,h⟩
 .refine df (cB [(0,.slice (J.map aR)),(4,.dR)] (λP bs=>?_) ?_)
  .simp only[aZ.down,simprocAttr,nE,(GJ cy),pF];exact cv (ae @nE (ae (GJ cy) @pF))
  obtain⟨bn,h⟩:=Dn h;refine Gc rfl ?_ ?_
  .replace h:=bn;refine aH ?_;exact lj (br _ (inr ⟨[(2,.aw 1 [])],l8 [] rfl (l_ (t:=2) (d:=.a5) rfl rfl (.iR _) (by decide) (l9)),r_ [.aw 1 []]⟩))
  .refine bd (b5 _ (inl ?_));obtain⟨u8,fy,h⟩:=aJ h;(try simp only[jK.down,Nat.zero_add,Nat.add_zero,reduceAdd]at fy);refine dh (ae (show∀s,ek ay s 22 0 []=some (.aw 1 [],s)from λs=>by kernel_rfl) (ae (@j5 ay 22 22 2 rfl rfl) (ae @j6 (ae @j7 (ae @j8 (ae @j4 (ae @all_nil (ae fy (@iZ _ aR 1 λ_=>rfl))))))))) _ ?_;exact ct aC [.aw 1 (J.map aR)]
 .refine df (cB [(0,.slice (J.map aR)),(4,.bool false)] (λP bs=>?_) ?_)
  .simp only[aZ.down,simprocAttr,nE,(GK cy),pF];exact cv (ae @nE (ae (GK cy) @pF))
  refine nB rfl ?_;refine bd (b5 _ (inl ?_));obtain⟨W8,jw,h⟩:=aJ h;(try simp only[jK.down,Nat.zero_add,Nat.add_zero,reduceAdd]at jw);refine dh (ae (show∀s,ek ay s 22 0 []=some (.aw 1 [],s)from λs=>by kernel_rfl) (ae (@j5 ay 22 22 2 rfl rfl) (ae @j6 (ae @j7 (ae @j8 (ae @j4 (ae @all_nil (ae jw (@iZ _ aR 1 λ_=>rfl))))))))) _ ?_;exact ct aC [.aw 1 (J.map aR)]
theorem SY (J ag r) (h:BN J ag=some r):bb ay 110 [.slice (J.map aR),.int .i64 ag] (.int .i64 r) []:=by
 refine ca [0,1] [.tmp 4] Try.func110 QW λb3 aC b2=>aH ?_;refine aT aC λ_ b5 br _=>aH ?_;refine b_ br λfK _ bV cy _=>?_;show bc ay (.loop ?fk) _ _;have gg:∀n cz,uZ J ag n cz=some r->dy ay ?fk fK (au [(0,.slice (J.map aR)),(1,.int .i64 ag),(7,.int .i64 (J.length:Int)),(8,.int .i64 cz)]):=by
  refine eg λ_ fR cz h=>ef bV λ_ fh c7 bI=>aH ?_;refine aT c7 λ_ eY _ cm=>a8 h (λdq h=>?_) λdq h=>?_
  .refine bd (eY _ (inl (aT c7 λ_ eG dw _=>b_ dw λ_ cR di _ _=>aH ?_)));obtain⟨ak,eJ,h⟩:=aJ h;refine dh eJ _ ?_;refine a8 h (λhv h=>?_) λhv h=>?_
   .exact bl di [.int .i64 cz]
   .refine bd (cR _ (eG _ (inl (fp ?_))));exact fh _ (inr ⟨_,cL rfl,fR (i64.wrap (cz+1)) h⟩)
  .exact el (cm 0 _ (bI 0 _ (cy _ (b5 _ (inl (bl aC [.int .i64 (-1)]))))))
 exact eP h λn h=>gg n 0 h
theorem SZ (J ag r) (h:xN J ag=some r):bb ay 91 [.slice (J.map aR),.int .i64 ag] (.bool r) []:=by
 refine ca [0,1] [.tmp 4] Try.func91 QX λb3 aC b2=>aH ?_;obtain⟨ak,aV,h⟩:=aJ h;refine dk (SY J ag _ aV) _ ?_;exact ct aC [.bool (decide (0<=ak))]
theorem S0 (J r) (h:BO J=some r):bb ay 35 [.int .i64 J] (.aw 2 (r.map aW)) []:=by
 refine ca [0] [.tmp 2] Try.func35 Cj λb3 aC b2=>aH ?_;refine dh (ae (show∀s,fw ay s 76 [(0,.int .i64 0),(1,.int .i64 J)]=some (.agg [.int .i64 0,.int .i64 J],s)from λs=>by kernel_rfl) (show∀s,ek ay s 44 1 [(0,.agg [.int .i64 0,.int .i64 J])]=some (.aw 2 [.agg [.int .i64 0,.int .i64 J]],s)from λs=>by kernel_rfl)) _ ?_;exact ct aC [.aw 2 ([(aK.mk 0 J)].map aW)]
theorem Ik (J ag a4 r) (h:BP J ag a4=some r):bb ay 90 [.int .i64 J,.ref (.slice (ag.map aR)),.ref (cQ a4)] (AH (λy=>.aw 2 (y.map aW)) r) []:=by
 refine ca [0,1,2] [.tmp 4] Try.func90 QY λb3 aC b2=>aH ?_;refine aT aC λ_ b5 br aG=>?_;obtain⟨ak,bK,h⟩:=aJ h;refine dk (SZ ag J _ bK) _ ?_;refine a8 h (λc0 h=>?_) λc0 h=>?_
 .obtain⟨aG,bt,h⟩:=aJ h;obtain⟨aP,fy,h⟩:=aJ h;refine eS bt (S0 aG _ fy) _ ?_;exact ct br [.aw 2 (aP.map aW)]
 .exact bd (b5 _ (inl (bl aC [.a5])))
theorem S3 (J bN bO r) (h:BR J bN bO=some r):bb ay 33 [.slice (J.map aW),.fn 90 [.ref (.slice (bN.map aR)),.ref (cQ bO)]] (.aw 2 (r.map aW)) []:=by
 refine ca [0,1] [.tmp 4] Try.func33 oN λb3 aC b2=>aH ?_;refine aH ?_;refine aT aC λ_ h6 e5 aP=>aH ?_;refine b_ e5 λoU _ c7 c0 _=>?_;show bc ay (.loop ?hN) _ _;have ix:∀n fm gb,oL J bN bO n fm gb=some r->dy ay ?hN oU (au [(1,.fn 90 [.ref (.slice (bN.map aR)),.ref (cQ bO)]),(5,.aw 2 (fm.map aW)),(9,.slice (J.map aW)),(10,.int .i64 (J.length:Int)),(11,.int .i64 gb)]):=by
  refine eg λkP hS fm gb h=>ef c7 λ_ en eo bF=>aH ?_;refine aT eo λ_ gJ _ db=>a8 h (λfq h=>?_) λfq h=>?_
  .refine bd (gJ _ (inl (aT eo λ_ cR di _=>b_ di λvi eT gu _ _=>?_)));obtain⟨ak,eJ,h⟩:=aJ h;refine dh eJ _ ?_;refine aH ?_;refine aT gu λ_ hs _ _=>aH ?_;refine a8 h (λht h=>?_) λht h=>?_
   .obtain⟨aG,fD,h⟩:=aJ h;rcases NV h with⟨iw,h⟩|⟨aP,iw,h⟩
    .refine Cm (by have q:=(Ik ak.Value bN bO _ fD);simp only[iw,AH]at q;exact q) _ ?_;refine hs _ (inl ?_);show bc ay (.seq _ ?oN) _ _;have rl:∀hQ hR h5,oK (oL J bN bO kP) J bN bO hQ hR h5=some r->bc ay ?oN vi (au [(1,.fn 90 [.ref (.slice (bN.map aR)),.ref (cQ bO)]),(5,.aw 2 (hQ.map aW)),(8,.aw 2 (hR.map aW)),(9,.slice (J.map aW)),(10,.int .i64 (J.length:Int)),(11,.int .i64 h5)]):=by
      intro hQ hR h5 h;obtain⟨H_,lB,h⟩:=aJ h;(try simp only[jK.down,Nat.zero_add,Nat.add_zero,reduceAdd]at lB);refine mY (ae (@j5 ay 44 44 76 rfl rfl) (ae @j6 (ae @j7 (ae @j8 (ae @j4 (ae @all_nil (ae lB (@iZ _ aW 2 λ_=>rfl)))))))) [(1,.fn 90 [.ref (.slice (bN.map aR)),.ref (cQ bO)]),(5,.aw 2 ((hQ++hR).map aW)),(9,.slice (J.map aW)),(10,.int .i64 (J.length:Int)),(11,.int .i64 h5)] ?_;refine eT _ (cR _ (inl (wr [(1,.fn 90 [.ref (.slice (bN.map aR)),.ref (cQ bO)]),(5,.aw 2 ((hQ++hR).map aW)),(9,.slice (J.map aW)),(10,.int .i64 (J.length:Int)),(11,.int .i64 (i64.wrap (h5+1)))] ?_)));exact en _ (inr ⟨_,cL rfl,hS (hQ++hR) (i64.wrap (h5+1)) h⟩)
     refine aT gu λ_ oP _ _=>dh @nE _ ?_;refine iV rfl ?_;refine mY (show∀s,ek ay s 44 1 [(0,.agg [.int .i64 ak.Kind,.int .i64 ak.Value])]=some (.aw 2 [.agg [.int .i64 ak.Kind,.int .i64 ak.Value]],s)from λs=>by kernel_rfl) _ ?_;exact oP _ (inr ⟨_,cL rfl,rl fm [ak] gb h⟩)
    .refine Cm (by have q:=(Ik ak.Value bN bO _ fD);simp only[iw,AH]at q;exact q) _ ?_;refine hs _ (inl ?_);show bc ay (.seq _ ?oN) _ _;have rl:∀hQ hR h5,oK (oL J bN bO kP) J bN bO hQ hR h5=some r->bc ay ?oN vi (au [(1,.fn 90 [.ref (.slice (bN.map aR)),.ref (cQ bO)]),(5,.aw 2 (hQ.map aW)),(8,.aw 2 (hR.map aW)),(9,.slice (J.map aW)),(10,.int .i64 (J.length:Int)),(11,.int .i64 h5)]):=by
      intro hQ hR h5 h;obtain⟨W9,lE,h⟩:=aJ h;(try simp only[jK.down,Nat.zero_add,Nat.add_zero,reduceAdd]at lE);refine mY (ae (@j5 ay 44 44 76 rfl rfl) (ae @j6 (ae @j7 (ae @j8 (ae @j4 (ae @all_nil (ae lE (@iZ _ aW 2 λ_=>rfl)))))))) [(1,.fn 90 [.ref (.slice (bN.map aR)),.ref (cQ bO)]),(5,.aw 2 ((hQ++hR).map aW)),(9,.slice (J.map aW)),(10,.int .i64 (J.length:Int)),(11,.int .i64 h5)] ?_;refine eT _ (cR _ (inl (wr [(1,.fn 90 [.ref (.slice (bN.map aR)),.ref (cQ bO)]),(5,.aw 2 ((hQ++hR).map aW)),(9,.slice (J.map aW)),(10,.int .i64 (J.length:Int)),(11,.int .i64 (i64.wrap (h5+1)))] ?_)));exact en _ (inr ⟨_,cL rfl,hS (hQ++hR) (i64.wrap (h5+1)) h⟩)
     refine aT gu λ_ re _ _=>?_;rcases e8 h with⟨mi,h⟩|⟨mi,h⟩
     .refine df (cB [(1,.fn 90 [.ref (.slice (bN.map aR)),.ref (cQ bO)]),(5,.aw 2 (fm.map aW)),(7,.bh (aW ak)),(8,.aw 2 (aP.map aW)),(9,.slice (J.map aW)),(10,.int .i64 (J.length:Int)),(11,.int .i64 gb),(23,.dR)] (λP bs=>?_) ?_)
      .simp only[aZ.down,simprocAttr,nE,(GL mi),pF];exact cv (ae @nE (ae (GL mi) @pF))
      obtain⟨S4,h⟩:=Dn h;refine Gc rfl ?_ ?_
      .replace h:=S4;refine mY (show∀s,ek ay s 44 1 [(0,.agg [.int .i64 ak.Kind,.int .i64 ak.Value])]=some (.aw 2 [.agg [.int .i64 ak.Kind,.int .i64 ak.Value]],s)from λs=>by kernel_rfl) _ ?_;exact re _ (inr ⟨_,cL rfl,rl fm [ak] gb h⟩)
      .exact bd (re _ (inr ⟨_,cL rfl,rl fm aP gb h⟩))
     .refine df (cB [(1,.fn 90 [.ref (.slice (bN.map aR)),.ref (cQ bO)]),(5,.aw 2 (fm.map aW)),(7,.bh (aW ak)),(8,.aw 2 (aP.map aW)),(9,.slice (J.map aW)),(10,.int .i64 (J.length:Int)),(11,.int .i64 gb),(23,.bool false)] (λP bs=>?_) ?_)
      .simp only[aZ.down,simprocAttr,nE,(GM mi),pF];exact cv (ae @nE (ae (GM mi) @pF))
      refine nB rfl ?_;exact bd (re _ (inr ⟨_,cL rfl,rl fm aP gb h⟩))
   .refine bd (hs _ (inl ?_));show bc ay (.seq _ ?oN) _ _;have rl:∀hQ hR h5,oK (oL J bN bO kP) J bN bO hQ hR h5=some r->bc ay ?oN vi (au [(1,.fn 90 [.ref (.slice (bN.map aR)),.ref (cQ bO)]),(5,.aw 2 (hQ.map aW)),(8,.aw 2 (hR.map aW)),(9,.slice (J.map aW)),(10,.int .i64 (J.length:Int)),(11,.int .i64 h5)]):=by
     intro hQ hR h5 h;obtain⟨W_,rj,h⟩:=aJ h;(try simp only[jK.down,Nat.zero_add,Nat.add_zero,reduceAdd]at rj);refine mY (ae (@j5 ay 44 44 76 rfl rfl) (ae @j6 (ae @j7 (ae @j8 (ae @j4 (ae @all_nil (ae rj (@iZ _ aW 2 λ_=>rfl)))))))) [(1,.fn 90 [.ref (.slice (bN.map aR)),.ref (cQ bO)]),(5,.aw 2 ((hQ++hR).map aW)),(9,.slice (J.map aW)),(10,.int .i64 (J.length:Int)),(11,.int .i64 h5)] ?_;refine eT _ (cR _ (inl (wr [(1,.fn 90 [.ref (.slice (bN.map aR)),.ref (cQ bO)]),(5,.aw 2 ((hQ++hR).map aW)),(9,.slice (J.map aW)),(10,.int .i64 (J.length:Int)),(11,.int .i64 (i64.wrap (h5+1)))] ?_)));exact en _ (inr ⟨_,cL rfl,hS (hQ++hR) (i64.wrap (h5+1)) h⟩)
    refine aT gu λ_ S5 _ _=>dh @nE _ ?_;refine iV rfl ?_;refine mY (show∀s,ek ay s 44 1 [(0,.agg [.int .i64 ak.Kind,.int .i64 ak.Value])]=some (.aw 2 [.agg [.int .i64 ak.Kind,.int .i64 ak.Value]],s)from λs=>by kernel_rfl) _ ?_;exact S5 _ (inr ⟨_,cL rfl,rl fm [ak] gb h⟩)
  .exact el (db 0 _ (bF 0 _ (c0 _ (h6 _ (inl (bl aC [.aw 2 (fm.map aW)]))))))
 obtain⟨n,h⟩:=mo h;exact qI (inr ⟨_,l8 [] rfl (iY (t:=1) (d:=.fn 90 [.ref (.slice (bN.map aR)),.ref (cQ bO)]) rfl (l_ (t:=5) (d:=.a5) (a7:=.aw 2 []) rfl rfl (.iR _) (by decide) (iY (t:=9) (d:=.slice (J.map aW)) rfl (iY (t:=10) (d:=.int .i64 (J.length:Int)) rfl (iY (t:=11) (d:=.int .i64 0) rfl (l9)))))),ix n [] 0 h⟩)
theorem S6 (J ag a4 r) (h:xO J ag a4=some r):bb ay 66 [cQ J,.slice (ag.map aW),.slice (a4.map aR)] (.aw 2 (r.map aW)) []:=by
 refine ca [0,1,2] [.tmp 6] Try.func66 QZ λb3 aC b2=>aH ?_;obtain⟨ak,aV,h⟩:=aJ h;refine df (cB [(6,.aw 2 (ak.map aW))] (λP bs=>?_) ?_)
 ·(try simp only[aZ.down,simprocAttr]);refine du (S3 ag a4 J _ aV) rfl rfl (by simp only[aZ.down,simprocAttr,iW,i0,i1,dM, @cT _ aR aR (λ_=>hp _), @cT _ aR aR (λ_=>hp _), @cT _ dN dN (λ_=>u_ _)]<;>rfl) rfl (inr (iX (λ_=>x6 _) _)) ?_;simp only[aZ.down,simprocAttr];exact cv trivial
 exact ct aC [.aw 2 (ak.map aW)]
theorem S7 (nP:XD->Option (aK×(List bq)×XD)) (S8:∀J r,nP J=some r->bb ay 89 [.slice (J.map aW)] (.tuple [.bh (.agg [aW r.1,.aw 1 (r.2.1.map hc)]),.slice (r.2.2.map aW)]) []) (J r) (h:BT nP J=some r):bb ay 89 [.slice (J.map aW)] (.tuple [.bh (.agg [aW r.1,.aw 1 (r.2.1.map hc)]),.slice (r.2.2.map aW)]) []:=by
 refine ca [0] [.tmp 2,.tmp 3] Try.func89 Q0 λb3 aC b2=>aH ?_;obtain⟨ak,aV,h⟩:=aJ h;refine dh (ae aV (show∀s,fw ay s 95 [(0,.agg [.int .i64 ak.Kind,.int .i64 ak.Value])]=some (.agg [.agg [.int .i64 ak.Kind,.int .i64 ak.Value],.a5],s)from λs=>by kernel_rfl)) _ ?_;obtain⟨aG,cn,h⟩:=aJ h;refine dh (ae cn (@iZ _ aW 2 λ_=>rfl)) _ ?_;refine aT aC λ_ en eo _=>?_;obtain⟨aP,fy,h⟩:=aJ h;refine eS aV (Ij ak _ fy) _ ?_;refine b_ eo λoO _ dw fq _=>?_;show bc ay (.loop ?Ck) _ _;have S9:∀n lu nQ mV,q1 nP ak aP n lu nQ mV=some r->dy ay ?Ck oO (au [(4,.bh (.agg [aW ak,.aw 1 (lu.map hc)])),(5,.slice (nQ.map aW)),(17,.int .i64 aP),(18,.int .i64 mV)]):=by
  refine eg λ_ S_ lu nQ mV h=>ef dw λ_ cR di dW=>aH ?_;refine aT di λ_ h7 _ lo=>a8 h (λly h=>?_) λly h=>?_
  .refine bd (h7 _ (inl (aT di λ_ gU fC _=>b_ fC λ_ hs _ _ _=>aH ?_)));obtain⟨bu,gV,h⟩:=aJ h;refine dk (S8 nQ _ gV) _ ?_;obtain⟨Xa,kd,h⟩:=aJ h;(try simp only[List.cons_append,List.nil_append,List.length_append,List.length_cons,List.length_nil,List.length_map,List.length_replicate,Nat.zero_add,Nat.add_zero,reduceAdd]at kd);refine jG (cB [(4,.bh (.agg [aW ak,.aw 1 ((lu++[(bq.mk bu.1 bu.2.1)]).map hc)])),(5,.slice (bu.2.2.map aW)),(17,.int .i64 aP),(18,.int .i64 mV)] (λP bs=>?_) ?_)
   .simp only[aZ.down,simprocAttr,HU.down,Az,eA,kd];(try simp only[iv.down,simprocAttr,HU.down,Az,eA,kd]at bs⊢);exact bs
   refine hs _ (gU _ (inl (wr [(4,.bh (.agg [aW ak,.aw 1 ((lu++[(bq.mk bu.1 bu.2.1)]).map hc)])),(5,.slice (bu.2.2.map aW)),(17,.int .i64 aP),(18,.int .i64 (i64.wrap (mV+1)))] ?_)));exact cR _ (inr ⟨_,cL rfl,S_ (lu++[(bq.mk bu.1 bu.2.1)]) bu.2.2 (i64.wrap (mV+1)) h⟩)
  .exact el (lo 0 _ (dW 0 _ (fq _ (en _ (inl (bl aC [.bh (.agg [aW ak,.aw 1 (lu.map hc)]),.slice (nQ.map aW)]))))))
 obtain⟨n,h⟩:=mo h;exact qI (inr ⟨_,l8 [] rfl (l_ (t:=4) (d:=.bh (.agg [aW ak,.a5])) (a7:=.bh (.agg [aW ak,.aw 1 []])) rfl rfl (.bh (.agg (.cons (.refl _) (.cons (.iR _) (.nil))))) (by decide) (iY (t:=5) (d:=.slice (aG.map aW)) rfl (iY (t:=17) (d:=.int .i64 aP) rfl (iY (t:=18) (d:=.int .i64 0) rfl (l9))))),S9 n [] aG 0 h⟩)
theorem Ta:∀n J r,sB n J=some r->bb ay 89 [.slice (J.map aW)] (.tuple [.bh (.agg [aW r.1,.aw 1 (r.2.1.map hc)]),.slice (r.2.2.map aW)]) []:=by
 intro n;induction n with
 |zero=>intro J r h;cases(show none=some r from h)
 |succ n ih=>intro J r h;exact S7 (sB n) ih J r h
theorem Tb (J r) (h:BU J=some r):bb ay 89 [.slice (J.map aW)] (.tuple [.bh (.agg [aW r.1,.aw 1 (r.2.1.map hc)]),.slice (r.2.2.map aW)]) []:=by
 obtain⟨n,h⟩:=mo h;exact Ta n J r h
theorem Tc (J r) (h:xP J=some r):bb ay 65 [.slice (J.map aW)] (.bh (.agg [aW r.1,.aw 1 (r.2.map hc)])) []:=by
 refine ca [0] [.tmp 2] Try.func65 Q1 λb3 aC b2=>aH ?_;obtain⟨ak,aV,h⟩:=aJ h;refine dk (Tb J _ aV) _ ?_;exact bl aC [.bh (.agg [aW ak.1,.aw 1 (ak.2.1.map hc)])]
theorem oV (J r) (h:mf J=some r):bb ay 111 [.bool J] (.int .i64 r) []:=by
 refine ca [0] [.tmp 2] Try.func111 Q2 λb3 aC b2=>aH ?_;refine aT aC λ_ b5 br _=>aH ?_;refine a8 h (λcy h=>?_) λcy h=>?_
 .exact bl br [.int .i64 1]
 .exact bd (b5 _ (inl (bl aC [.int .i64 0])))
theorem Td (J ag a4 r) (h:xQ J ag a4=some r):bb ay 112 [.int .i64 J,.int .i64 ag,.int .i64 a4] (.int .i64 r) []:=by
 refine ca [0,1,2] [.tmp 6] Try.func112 Q3 λb3 aC b2=>aH ?_;refine aT aC λ_ b5 br aG=>aH ?_;refine b_ br λ_ gf bV _ bu=>aH ?_;refine a8 h (λeD h=>?_) λeD h=>?_
 .refine dh (@qK .i64 64 (by decide)) _ ?_;exact ct bV [.int .i64 (Int.tmod (i64.wrap (ag+a4)) 64)]
 .refine aH ?_;refine a8 h (λfq h=>?_) λfq h=>?_
  .refine dh (@qK .i64 64 (by decide)) _ ?_;exact ct bV [.int .i64 (Int.tmod (i64.wrap ((i64.wrap (ag-a4))+64)) 64)]
  .refine aH ?_;refine a8 h (λhd h=>?_) λhd h=>?_
   .refine dh (@qK .i64 64 (by decide)) _ ?_;exact ct bV [.int .i64 (Int.tmod (i64.wrap (ag*a4)) 64)]
   .refine aH ?_;refine a8 h (λiK h=>?_) λiK h=>?_
    .obtain⟨ak,iI,h⟩:=aJ h;refine dk (oV (ag==a4) _ iI) _ ?_;exact ct bV [.int .i64 ak]
    .refine aH ?_;refine a8 h (λkB h=>?_) λkB h=>?_
     .obtain⟨aG,i4,h⟩:=aJ h;refine dk (oV (ag !=a4) _ i4) _ ?_;exact ct bV [.int .i64 aG]
     .refine aH ?_;refine a8 h (λjr h=>?_) λjr h=>?_
      .obtain⟨aP,h8,h⟩:=aJ h;refine dk (oV (decide (ag<a4)) _ h8) _ ?_;exact ct bV [.int .i64 aP]
      .refine aH ?_;refine a8 h (λm2 h=>?_) λm2 h=>?_
       .obtain⟨bu,lE,h⟩:=aJ h;refine dk (oV (decide (ag<=a4)) _ lE) _ ?_;exact ct bV [.int .i64 bu]
       .refine aH ?_;refine a8 h (λri h=>?_) λri h=>?_
        .rcases e8 h with⟨iL,h⟩|⟨iL,h⟩
         .obtain⟨bI,Cy,h⟩:=aJ h;refine eS iL (oV (a4 !=0) _ Cy) _ ?_;exact ct bV [.int .i64 bI]
         .obtain⟨bF,hU,h⟩:=aJ h;refine eS iL (oV false _ hU) _ ?_;exact ct bV [.int .i64 bF]
        .refine bd (gf _ (b5 _ (inl ?_)));rcases e8 h with⟨oT,h⟩|⟨oT,h⟩
         .obtain⟨cm,Cz,h⟩:=aJ h;refine eS oT (oV true _ Cz) _ ?_;exact ct aC [.int .i64 cm]
         .obtain⟨db,sZ,h⟩:=aJ h;refine eS oT (oV (a4 !=0) _ sZ) _ ?_;exact ct aC [.int .i64 db]
theorem Te (sC:bq->Xs->Xv) (CM:∀J ag r,sC J ag=some r->bb ay 93 [.ref (eK J),.slice (ag.map aR)] (.int .i64 r) []) (J ag r) (h:xR sC J ag=some r):bb ay 93 [.ref (eK J),.slice (ag.map aR)] (.int .i64 r) []:=by
 refine ca [0,1] [.tmp 4] Try.func93 Q4 λb3 aC b2=>ws [(0,.ref (eK J)),(1,.slice (ag.map aR))] ?_;refine aT aC λ_ b5 br aG=>ws [(0,.ref (eK J)),(1,.slice (ag.map aR)),(9,.int .i64 J.term.Kind)] ?_;refine b_ br λ_ gf bV _ bu=>ws [(0,.ref (eK J)),(1,.slice (ag.map aR)),(9,.int .i64 J.term.Kind),(10,.bool (J.term.Kind==0))] ?_;refine a8 h (λeD h=>?_) λeD h=>?_
 .exact bl bV [.int .i64 J.term.Value]
 .refine ws [(0,.ref (eK J)),(1,.slice (ag.map aR)),(9,.int .i64 J.term.Kind),(17,.bool (J.term.Kind==1))] ?_;refine a8 h (λfq h=>?_) λfq h=>?_
  .obtain⟨ak,oc,h⟩:=aJ h;refine dh oc _ ?_;exact ct bV [.int .i64 ak]
  .refine ws [(0,.ref (eK J)),(1,.slice (ag.map aR)),(27,.bool (J.term.Kind==3))] ?_;refine a8 h (λly h=>?_) λly h=>?_
   .obtain⟨aG,e2,h⟩:=aJ h;obtain⟨aP,dJ,h⟩:=aJ h;obtain⟨bu,iI,h⟩:=aJ h;refine df (cB [(4,.int .i64 bu)] (λP bs=>?_) ?_)
    ·(try simp only[aZ.down,simprocAttr,e2]);refine du (CM aG ag _ dJ) rfl rfl (by simp only[aZ.down,simprocAttr,e2,sS.down]<;>rfl) rfl (inl (by rfl)) ?_;simp only[aZ.down,simprocAttr,e2];refine du (oV (aP==0) _ iI) (hK:= ?_);simp only[aZ.down,simprocAttr,e2];exact cv e2
    exact ct bV [.int .i64 bu]
   .refine bd (gf _ (b5 _ (inl ?_)));obtain⟨bI,fD,h⟩:=aJ h;obtain⟨bF,kd,h⟩:=aJ h;obtain⟨cm,i4,h⟩:=aJ h;obtain⟨db,fS,h⟩:=aJ h;obtain⟨dV,lB,h⟩:=aJ h;refine qH rfl (qJ [(4,.int .i64 dV)] (λP bs=>?_) ?_)
    ·(try simp only[gT.down,simprocAttr,fD,i4]);refine lk (CM bI ag _ kd) rfl rfl (by simp only[gT.down,simprocAttr,fD,i4,sS.down]<;>rfl) rfl (inl (by rfl)) ?_;simp only[gT.down,simprocAttr,fD,i4];refine lk (CM cm ag _ fS) rfl rfl (by simp only[gT.down,simprocAttr,fD,i4,sS.down]<;>rfl) rfl (inl (by rfl)) ?_;simp only[gT.down,simprocAttr,fD,i4];refine lk (Td J.term.Value bF db _ lB) (hK:= ?_);simp only[gT.down,simprocAttr,fD,i4];refine⟨pG (by kernel_rfl),?_⟩;exact cv (ae fD i4)
    exact ct aC [.int .i64 dV]
theorem Tf:∀n J ag r,q2 n J ag=some r->bb ay 93 [.ref (eK J),.slice (ag.map aR)] (.int .i64 r) []:=by
 intro n;induction n with
 |zero=>intro J ag r h;cases(show none=some r from h)
 |succ n ih=>intro J ag r h;exact Te (q2 n) ih J ag r h
theorem Tg (J ag r) (h:xS J ag=some r):bb ay 93 [.ref (eK J),.slice (ag.map aR)] (.int .i64 r) []:=by
 obtain⟨n,h⟩:=mo h;exact Tf n J ag r h
theorem Th (J r) (h:BV J=some r):bb ay 92 [.int .i64 J] (.bh (.agg [.agg [.int .i64 r.1,.int .i64 r.2],.a5])) []:=by
 refine ca [0] [.tmp 2] Try.func92 Q5 λb3 aC b2=>aH ?_;refine dh (ae (show∀s,fw ay s 76 [(0,.int .i64 0),(1,.int .i64 J)]=some (.agg [.int .i64 0,.int .i64 J],s)from λs=>by kernel_rfl) (show∀s,fw ay s 95 [(0,.agg [.int .i64 0,.int .i64 J])]=some (.agg [.agg [.int .i64 0,.int .i64 J],.a5],s)from λs=>by kernel_rfl)) _ ?_;exact ct aC [.bh (.agg [.agg [.int .i64 0,.int .i64 J],.a5])]
theorem Ti (nR:bq->Option bq) (Tj:∀J r,nR J=some r->bb ay 67 [.ref (eK J)] (.ref (eK r)) []) (J r) (h:BX nR J=some r):bb ay 67 [.ref (eK J)] (.ref (eK r)) []:=by
 refine ca [0] [.tmp 2] Try.func67 Q6 λb3 aC b2=>ws [(0,.ref (eK J))] ?_;refine aT aC λ_ b5 br aG=>ws [(0,.ref (eK J)),(13,.bool ((J.args.length:Int)==0))] ?_;refine a8 h (λcy h=>?_) λcy h=>?_
 .refine ws [(2,.ref (eK J))] ?_;exact ct br [.ref (eK J)]
 .refine bd (b5 _ (inl (dh (show∀s,fw ay s 95 [(0,.agg [.int .i64 J.term.Kind,.int .i64 J.term.Value])]=some (.agg [.agg [.int .i64 J.term.Kind,.int .i64 J.term.Value],.a5],s)from λs=>by kernel_rfl) [(0,.ref (eK J)),(3,.bh (.agg [aW J.term,.a5]))] ?_)));refine ws [(0,.ref (eK J)),(3,.bh (.agg [aW J.term,.a5])),(4,.bool true)] ?_;refine aT aC λ_ gJ iJ _=>aH ?_;refine b_ iJ λCN _ di hT _=>?_;show bc ay (.loop ?Cg) _ _;have Tk:∀n iu ky kz,q3 nR J n iu ky kz=some r->dy ay ?Cg CN (au [(3,.bh (.agg [aW J.term,.aw 1 (iu.map fo)])),(4,.bool ky),(24,.slice (J.args.map fo)),(25,.int .i64 (J.args.length:Int)),(26,.int .i64 kz)]):=by
   refine eg λ_ Tl iu ky kz h=>ef di λ_ eT gu fJ=>aH ?_;refine aT gu λ_ ke _ lp=>a8 h (λhv h=>?_) λhv h=>?_
   .refine bd (ke _ (inl (aT gu λ_ hs kc _=>b_ kc λ_ lz _ _ _=>?_)));obtain⟨ak,gV,h⟩:=aJ h;refine dh gV [(3,.bh (.agg [aW J.term,.aw 1 (iu.map fo)])),(4,.bool ky),(6,.ref (eK ak)),(24,.slice (J.args.map fo)),(25,.int .i64 (J.args.length:Int)),(26,.int .i64 kz)] ?_;obtain⟨aG,kd,h⟩:=aJ h;refine df (cB [(3,.bh (.agg [aW J.term,.aw 1 (iu.map fo)])),(4,.bool ky),(7,.ref (eK aG)),(24,.slice (J.args.map fo)),(25,.int .i64 (J.args.length:Int)),(26,.int .i64 kz)] (λP bs=>?_) ?_)
    ·(try simp only[aZ.down,simprocAttr]);refine du (Tj ak _ kd) rfl rfl (by simp only[aZ.down,simprocAttr,sS.down]<;>rfl) rfl (inl (by rfl)) ?_;simp only[aZ.down,simprocAttr];exact cv trivial
    obtain⟨H_,fS,h⟩:=aJ h;(try simp only[jK.down,Nat.zero_add,Nat.add_zero,reduceAdd]at fS);refine dh (ae (show∀s,ek ay s 93 1 [(0,.ref (.agg [.agg [.int .i64 aG.term.Kind,.int .i64 aG.term.Value],.slice (aG.args.map fo)]))]=some (.aw 1 [.ref (.agg [.agg [.int .i64 aG.term.Kind,.int .i64 aG.term.Value],.slice (aG.args.map fo)])],s)from λs=>by kernel_rfl) (ae (@j5 ay 93 93 89 rfl rfl) (ae @j6 (ae @j7 (ae @j8 (ae @j4 (ae @all_nil (ae fS (@iZ _ fo 1 λ_=>rfl))))))))) [(3,.bh (.agg [aW J.term,.aw 1 ((iu++[aG]).map fo)])),(4,.bool ky),(7,.ref (eK aG)),(24,.slice (J.args.map fo)),(25,.int .i64 (J.args.length:Int)),(26,.int .i64 kz)] ?_;refine RF ky [(3,.bh (.agg [aW J.term,.aw 1 ((iu++[aG]).map fo)])),(4,.bool (ky&&(aG.term.Kind==0))),(24,.slice (J.args.map fo)),(25,.int .i64 (J.args.length:Int)),(26,.int .i64 kz)] ?_;refine lz _ (hs _ (inl (wr [(3,.bh (.agg [aW J.term,.aw 1 ((iu++[aG]).map fo)])),(4,.bool (ky&&(aG.term.Kind==0))),(24,.slice (J.args.map fo)),(25,.int .i64 (J.args.length:Int)),(26,.int .i64 (i64.wrap (kz+1)))] ?_)));exact eT _ (inr ⟨_,cL rfl,Tl (iu++[aG]) (ky&&(aG.term.Kind==0)) (i64.wrap (kz+1)) h⟩)
   .refine el (lp 0 _ (fJ 0 _ (hT _ (gJ _ (inl (aT aC λ_ CK yl _=>aH ?_))))));refine a8 h (λm2 h=>?_) λm2 h=>?_
    .obtain⟨aP,lE,h⟩:=aJ h;obtain⟨bu,mj,h⟩:=aJ h;refine df (cB [(2,.bh (.agg [.agg [.int .i64 bu.1,.int .i64 bu.2],.a5]))] (λP bs=>?_) ?_)
     ·(try simp only[aZ.down,simprocAttr]);refine du (bb.nil (args:=[.ref (eK (bq.mk J.term iu)),.a5]) 1 (Tg (bq.mk J.term iu) [] _ lE) rfl) rfl rfl (by simp only[aZ.down,simprocAttr,iW,i0,i1,dM, @cT _ fo fo (λ_=>Cf _)]<;>rfl) rfl (inr (by rfl)) ?_;simp only[aZ.down,simprocAttr];refine du (Th aP _ mj) (hK:= ?_);simp only[aZ.down,simprocAttr];exact cv trivial
     exact lj (yl _ (inr ⟨[(2,.ref (eK (bq.mk (aK.mk bu.1 bu.2) [])))],l8 [] rfl (l_ (t:=2) (d:=.bh (.agg [.agg [.int .i64 bu.1,.int .i64 bu.2],.a5])) rfl rfl (.trans (wS rfl rfl (by simp only[dM,I.share,I.shares,ya,x_]<;>rfl)) (.ref (.agg (.cons (.refl _) (.cons (.qy) (.nil)))))) (by decide) (l9)),r_ [.ref (eK (bq.mk (aK.mk bu.1 bu.2) []))]⟩))
    .refine bd (CK _ (inl (aH ?_)));exact lj (aC _ (inr ⟨[(2,.ref (eK (bq.mk J.term iu)))],l8 [] rfl (l_ (t:=2) (d:=.bh (.agg [aW J.term,.aw 1 (iu.map fo)])) rfl rfl ((wS rfl rfl (by simp only[dM,I.share,I.shares,lv, @cT _ fo fo (λ_=>Cf _),ya,x_]<;>rfl))) (by decide) (l9)),r_ [.ref (eK (bq.mk J.term iu))]⟩))
  obtain⟨n,h⟩:=mo h;exact qI (inr ⟨_,l8 [] rfl (l_ (t:=3) (d:=.bh (.agg [aW J.term,.a5])) (a7:=.bh (.agg [aW J.term,.aw 1 []])) rfl rfl (.bh (.agg (.cons (.refl _) (.cons (.iR _) (.nil))))) (by decide) (iY (t:=4) (d:=.bool true) rfl (iY (t:=24) (d:=.slice (J.args.map fo)) rfl (iY (t:=25) (d:=.int .i64 (J.args.length:Int)) rfl (iY (t:=26) (d:=.int .i64 0) rfl (l9)))))),Tk n [] true 0 h⟩)
theorem Tm:∀n J r,sD n J=some r->bb ay 67 [.ref (eK J)] (.ref (eK r)) []:=by
 intro n;induction n with
 |zero=>intro J r h;cases(show none=some r from h)
 |succ n ih=>intro J r h;exact Ti (sD n) ih J r h
theorem Tn (J r) (h:xT J=some r):bb ay 67 [.ref (eK J)] (.ref (eK r)) []:=by
 obtain⟨n,h⟩:=mo h;exact Tm n J r h
theorem To (J ag a4 gB r) (h:xU J ag a4 gB=some r):bb ay 64 [dN J,.ref (cQ ag),.ref (.int .i64 a4),.ref (.slice (gB.map aR))] (.bool r) []:=by
 refine ca [0,1,2,3] [.tmp 5] Try.func64 Q8 λb3 aC b2=>aH ?_;obtain⟨ak,aV,h⟩:=aJ h;obtain⟨aG,bK,h⟩:=aJ h;obtain⟨aP,cn,h⟩:=aJ h;obtain⟨bu,bB,h⟩:=aJ h;refine qH rfl (qJ [(1,.ref (cQ ag)),(2,.ref (.int .i64 a4)),(6,.ref (eK bu))] (λP bs=>?_) ?_)
 ·(try simp only[gT.down,simprocAttr,aV]);refine lk (((S6 ag ak gB _ bK)).wide (wS rfl rfl (by simp only[dM,I.share,I.shares, @cT _ aW aW (λ_=>lv _)]<;>rfl)) rfl rfl) (hK:= ?_);simp only[gT.down,simprocAttr,aV];refine lk (((Tc aG _ cn)).wide (wS rfl rfl (by simp only[dM,I.share,I.shares,lv, @cT _ hc fo (λ_=>HI _),ya,x_]<;>rfl)) rfl rfl) (hK:= ?_);simp only[gT.down,simprocAttr,aV];refine lk (Tn (bq.mk aP.1 aP.2) _ bB) rfl rfl (by simp only[gT.down,simprocAttr,aV,sS.down]<;>rfl) rfl (inl (by rfl)) ?_;simp only[gT.down,simprocAttr,aV];refine⟨pG (by kernel_rfl),?_⟩;exact cv aV
 obtain⟨bI,fy,h⟩:=aJ h;refine vc (ae fy (ae (show∀s,fw ay s 76 [(0,.int .i64 0),(1,.int .i64 bI)]=some (.agg [.int .i64 0,.int .i64 bI],s)from λs=>by kernel_rfl) (ae @aW.eq_1 @PW))) _ ?_;exact ct aC [.bool (!((bu.term.Kind==0)&&(bu.term.Value==bI)))]
theorem Tp (J bN bO jo r) (h:BZ J bN bO jo=some r):bb ay 77 [.slice (J.map dN),.fn 64 [.ref (cQ bN),.ref (.int .i64 bO),.ref (.slice (jo.map aR))]] (.int .i64 r) []:=by
 refine ca [0,1] [.tmp 4] Try.func77 Q9 λb3 aC b2=>aH ?_;refine aT aC λ_ b5 br aG=>aH ?_;refine b_ br λfK _ bV cy _=>?_;show bc ay (.loop ?fk) _ _;have gg:∀n cz,xV J bN bO jo n cz=some r->dy ay ?fk fK (au [(0,.slice (J.map dN)),(1,.fn 64 [.ref (cQ bN),.ref (.int .i64 bO),.ref (.slice (jo.map aR))]),(7,.int .i64 (J.length:Int)),(8,.int .i64 cz)]):=by
  refine eg λ_ fR cz h=>ef bV λ_ fh c7 bI=>aH ?_;refine aT c7 λ_ eY _ cm=>a8 h (λdq h=>?_) λdq h=>?_
  .refine bd (eY _ (inl (aT c7 λ_ eG dw _=>b_ dw λ_ cR di _ _=>aH ?_)));obtain⟨ak,eJ,h⟩:=aJ h;obtain⟨aG,e1,h⟩:=aJ h;refine eS eJ (To ak bN bO jo _ e1) _ ?_;refine a8 h (λiK h=>?_) λiK h=>?_
   .exact bl di [.int .i64 cz]
   .refine bd (cR _ (eG _ (inl (fp ?_))));exact fh _ (inr ⟨_,cL rfl,fR (i64.wrap (cz+1)) h⟩)
  .exact el (cm 0 _ (bI 0 _ (cy _ (b5 _ (inl (bl aC [.int .i64 (-1)]))))))
 exact eP h λn h=>gg n 0 h
theorem Tq (J bN bO jo r) (h:B0 J bN bO jo=some r):bb ay 50 [.slice (J.map dN),.fn 64 [.ref (cQ bN),.ref (.int .i64 bO),.ref (.slice (jo.map aR))]] (.bool r) []:=by
 refine ca [0,1] [.tmp 4] Try.func50 Q_ λb3 aC b2=>aH ?_;obtain⟨ak,aV,h⟩:=aJ h;refine dk (Tp J bN bO jo _ aV) _ ?_;exact ct aC [.bool (decide (0<=ak))]
theorem Il (J ag a4 r) (h:q4 J ag a4=some r):bb ay 63 [.int .i64 J,.ref (cQ ag),.ref (.slice (a4.map aR))] (.bool r) []:=by
 refine ca [0,1,2] [.tmp 4] Try.func63 Ra λb3 aC b2=>aH ?_;obtain⟨ak,aV,h⟩:=aJ h;refine df (cB [(4,.bool ak)] (λP bs=>?_) ?_)
 ·(try simp only[aZ.down,simprocAttr]);refine du (Tq ag.cY ag J a4 _ aV) rfl rfl (by simp only[aZ.down,simprocAttr,sS.down]<;>rfl) rfl (inr (by rfl)) ?_;simp only[aZ.down,simprocAttr];exact cv trivial
 exact ct aC [.bool ak]
theorem Tr (J bN bO r) (h:B1 J bN bO=some r):bb ay 88 [.slice (J.map aR),.fn 63 [.ref (cQ bN),.ref (.slice (bO.map aR))]] (.int .i64 r) []:=by
 refine ca [0,1] [.tmp 4] Try.func88 Rb λb3 aC b2=>aH ?_;refine aT aC λ_ b5 br aG=>aH ?_;refine b_ br λfK _ bV cy _=>?_;show bc ay (.loop ?fk) _ _;have gg:∀n cz,xW J bN bO n cz=some r->dy ay ?fk fK (au [(0,.slice (J.map aR)),(1,.fn 63 [.ref (cQ bN),.ref (.slice (bO.map aR))]),(7,.int .i64 (J.length:Int)),(8,.int .i64 cz)]):=by
  refine eg λ_ fR cz h=>ef bV λ_ fh c7 bI=>aH ?_;refine aT c7 λ_ eY _ cm=>a8 h (λdq h=>?_) λdq h=>?_
  .refine bd (eY _ (inl (aT c7 λ_ eG dw _=>b_ dw λ_ cR di _ _=>aH ?_)));obtain⟨ak,eJ,h⟩:=aJ h;obtain⟨aG,e1,h⟩:=aJ h;refine eS eJ (Il ak bN bO _ e1) _ ?_;refine a8 h (λiK h=>?_) λiK h=>?_
   .exact bl di [.int .i64 cz]
   .refine bd (cR _ (eG _ (inl (fp ?_))));exact fh _ (inr ⟨_,cL rfl,fR (i64.wrap (cz+1)) h⟩)
  .exact el (cm 0 _ (bI 0 _ (cy _ (b5 _ (inl (bl aC [.int .i64 (-1)]))))))
 exact eP h λn h=>gg n 0 h
theorem Ts (J bN bO r) (h:xY J bN bO=some r):bb ay 62 [.aw 1 (J.map aR),.fn 63 [.ref (cQ bN),.ref (.slice (bO.map aR))]] (.aw 1 (r.map aR)) [.hole,.hole]:=by
 refine bb.Pa (fx:=[0,1]) Hq [.tmp 4] [(0,.aw 1 (J.map aR)),(1,.fn 63 [.ref (cQ bN),.ref (.slice (bO.map aR))])] Try.func62 rfl rfl Rr (le_of_ble_eq_true rfl) Rq rfl rfl λb3 aC b2=>?_;refine aH ?_;obtain⟨ak,aV,h⟩:=aJ h;refine df (cB [(0,.aw 1 (J.map aR)),(1,.fn 63 [.ref (cQ bN),.ref (.slice (bO.map aR))]),(5,.int .i64 ak)] (λP bs=>?_) ?_)
 ·(try simp only[aZ.down,simprocAttr]);refine du (Tr J bN bO _ aV) rfl rfl (by simp only[aZ.down,simprocAttr,yd.down]<;>rfl) rfl (inr (by rfl)) ?_;simp only[aZ.down,simprocAttr];exact cv trivial
 refine aT aC λ_ gf bV bu=>aH ?_;refine a8 h (λeD h=>?_) λeD h=>?_
 .refine aH ?_;exact lj (bV _ (inl (pz [.aw 1 (J.map aR)] rfl (by cases ki h;rfl) (by decide) (qO (oB (oB (qP)))))))
 .refine bd (gf _ (inl (aT aC λ_ gJ iJ _=>aH ?_)));refine b_ iJ λCN _ di hT _=>?_;have mZ:∀n jq eF k4,q5 bN bO n jq eF k4=some r->dy ay HP CN (au [(0,.aw 1 (jq.map aR)),(1,.fn 63 [.ref (cQ bN),.ref (.slice (bO.map aR))]),(5,.int .i64 eF),(6,.int .i64 k4)]):=by
   refine eg λTt m0 jq eF k4 h=>ef di λvi eT gu fJ=>aT gu λ_ h7 _ lo=>aH ?_;refine a8 h (λhv h=>?_) λhv h=>?_
   .refine bd (h7 _ (inl ?_));have Im:∀sE sF sG,xX (q5 bN bO Tt) bN bO sE sF sG=some r->bc ay HO vi (au [(0,.aw 1 (sE.map aR)),(1,.fn 63 [.ref (cQ bN),.ref (.slice (bO.map aR))]),(5,.int .i64 sF),(6,.int .i64 sG)]):=by
     intro sE sF sG h;refine fp ?_;exact eT _ (inr ⟨_,cL rfl,m0 sE sF (i64.wrap (sG+1)) h⟩)
    refine aT gu λ_ hs kc _=>b_ kc λ_ s0 _ _ _=>?_;obtain⟨aG,fD,h⟩:=aJ h;refine dh (ae fD (c2 fD)) _ ?_;obtain⟨aP,i4,h⟩:=aJ h;refine dk (Il aG bN bO _ i4) _ ?_;refine a8 h (λoQ h=>?_) λoQ h=>?_
    .obtain⟨bu,lD,h⟩:=aJ h;refine df (cB [(0,.aw 1 ((List.set jq (Int.toNat eF) aG).map aR)),(1,.fn 63 [.ref (cQ bN),.ref (.slice (bO.map aR))]),(5,.int .i64 eF),(6,.int .i64 k4)] (λP bs=>?_) ?_)
     .simp only[aZ.down,simprocAttr,lD,c2 lD,gH,da];exact cv (ae lD (ae (c2 lD) @gH))
     refine wr [(0,.aw 1 ((List.set jq (Int.toNat eF) aG).map aR)),(1,.fn 63 [.ref (cQ bN),.ref (.slice (bO.map aR))]),(5,.int .i64 (i64.wrap (eF+1))),(6,.int .i64 k4)] ?_;exact s0 _ (hs _ (inr ⟨_,cL rfl,Im (List.set jq (Int.toNat eF) aG) (i64.wrap (eF+1)) k4 h⟩))
    .exact bd (s0 _ (hs _ (inr ⟨_,cL rfl,Im jq eF k4 h⟩)))
   .refine el (lo 0 _ (fJ 0 _ (hT _ (gJ _ (inl ?_)))));obtain⟨bI,vg,h⟩:=aJ h;refine Pe [(0,.aw 1 ((bI++List.replicate (jq.length-bI.length) 0).map aR)),(5,.int .i64 eF)] (λP bs=>?_) ?_
    ·(try simp only[aZ.down,simprocAttr]);refine Pf vg rfl rfl rfl rfl (by decide) (by decide) rfl rfl rfl rfl ?_;simp only[aZ.down,simprocAttr,mP];exact cv trivial
    obtain⟨bF,lE,h⟩:=aJ h;refine df (cB [(4,.aw 1 (bF.map aR))] (λP bs=>?_) ?_)
    .simp only[aZ.down,simprocAttr,lE,HV.down,nF];(try simp only[iv.down,simprocAttr,lE,HV.down,nF]at bs⊢);exact bs
    exact lj (aC _ (inl (pz [.aw 1 (bF.map aR)] rfl (by cases ki h;rfl) (by decide) (qO (oB (oB (qP)))))))
  exact eP h λn h=>mZ n J ak (i64.wrap (ak+1)) h
theorem Tu (J r) (h:xZ J=some r):bb ay 41 [cQ J] (.aw 1 (r.map aR)) []:=by
 refine ca [0] [.tmp 2] Try.func41 Rs λb3 aC b2=>aH ?_;obtain⟨ak,aV,h⟩:=aJ h;refine dk (SW J.c1 _ aV) _ ?_;refine b_ aC λfK _ bV _ _=>?_;show bc ay (.loop ?ou) _ _;have Tv:∀n k5,sH J n k5=some r->dy ay ?ou fK (au [(1,.bh (cQ J)),(3,.bh (.aw 1 (k5.map aR)))]):=by
  refine eg λ_ Tw k5 h=>ef bV λ_ fh c7 _=>b_ c7 λ_ en eo _ _=>?_;obtain⟨aG,fy,h⟩:=aJ h;obtain⟨aP,h2,h⟩:=aJ h;refine df (cB [(1,.bh (cQ J)),(3,.bh (.aw 1 (k5.map aR))),(4,.aw 1 (aP.map aR))] (λP bs=>?_) ?_)
  ·(try simp only[aZ.down,simprocAttr]);refine du (SX k5 _ fy) rfl rfl (by simp only[aZ.down,simprocAttr,yd.down]<;>rfl) rfl (inr (iX (λ_=>oM _) _)) ?_;simp only[aZ.down,simprocAttr];refine oA [⟨.h 9 [],true,_,.hole⟩,⟨.fn 63 [.h 1 [],.h 3 []],false,_,.hole⟩] (Ts aG J k5 _ h2) rfl rfl rfl (by simp only[aZ.down,simprocAttr,r5,pD,nD,iW,i0,i1,dM,or_true,true_or, @cT _ aR aR (λ_=>hp _), @cT _ aR aR (λ_=>hp _), @cT _ dN dN (λ_=>u_ _), @cT _ aR aR (λ_=>hp _)]) rfl rfl ((inr (by simp only[pC,I.cr,I.gD,Bool.and_self, @iX _ aR (λ_=>oM _)]))) ?_;simp only[aZ.down,simprocAttr,mP];exact cv trivial
  refine aT eo λ_ cR di _=>aH ?_;refine a8 h (λhd h=>?_) λhd h=>?_
  .exact bl di [.aw 1 (k5.map aR)]
  .refine bd (cR _ (inl (fp ?_)));exact en _ (fh _ (inr ⟨_,cL rfl,Tw aP h⟩))
 exact eP h λn h=>Tv n ak h
theorem Io (J r) (h:u0 J=some r):bb ay 13 [cQ J] (.tuple [.aw 1 (r.1.map aR),.int .i64 r.2]) []:=by
 refine ca [0] [.tmp 2,.tmp 3] Try.func13 Rt λb3 aC b2=>aH ?_;refine aT aC λ_ b5 br aG=>?_;obtain⟨ak,bK,h⟩:=aJ h;refine dk (SV J _ bK) _ ?_;refine a8 h (λc0 h=>?_) λc0 h=>?_
 .refine aH ?_;exact lj (br _ (inr ⟨[(2,.aw 1 []),(3,.int .i64 1)],l8 [] rfl (l_ (t:=2) (d:=.a5) rfl rfl (.iR _) (by decide) (iY rfl (l9))),r_ [.aw 1 [],.int .i64 1]⟩))
 .refine bd (b5 _ (inl ?_));obtain⟨aG,fy,h⟩:=aJ h;refine dk (Tu J _ fy) _ ?_;exact ct aC [.aw 1 (aG.map aR),.int .i64 0]
theorem pQ (J ag r) (h:pL J ag=some r):bb ay 14 [.slice (J.map aR),.slice (ag.map aR)] (.bool r) []:=by
 refine ca [0,1] [.tmp 4] Try.func14 lx λb3 aC b2=>aH ?_;refine aT aC λ_ b5 br aG=>aH ?_;refine a8 h (λcy h=>?_) λcy h=>?_
 .exact bl br [.bool false]
 .refine bd (b5 _ (inl (aT aC λ_ en eo _=>aH ?_)));refine b_ eo λoW _ iJ dq _=>?_;show bc ay (.loop ?lx) _ _;have lA:∀n d_,B3 J ag n d_=some r->dy ay ?lx oW (au [(0,.slice (J.map aR)),(1,.slice (ag.map aR)),(5,.int .i64 d_)]):=by
   refine eg λ_ k7 d_ h=>ef iJ λ_ eG dw dV=>aT dw λ_ cR _ dW=>aH ?_;refine a8 h (λhd h=>?_) λhd h=>?_
   .refine bd (cR _ (inl (aT dw λ_ ke oR _=>b_ oR λ_ gU fC _ _=>?_)));obtain⟨ak,dJ,h⟩:=aJ h;obtain⟨aG,iI,h⟩:=aJ h;refine vc (ae dJ iI) _ ?_;refine a8 h (λjL h=>?_) λjL h=>?_
    .exact bl fC [.bool false]
    .refine bd (gU _ (ke _ (inl (fp ?_))));exact eG _ (inr ⟨_,cL rfl,k7 (i64.wrap (d_+1)) h⟩)
   .exact el (dW 0 _ (dV 0 _ (dq _ (en _ (inl (bl aC [.bool true]))))))
  exact eP h λn h=>lA n 0 h
theorem Tx (J ag r) (h:u1 J ag=some r):bb ay 106 [aW J,aW ag] (.bool r) []:=by
 refine ca [0,1] [.tmp 4] Try.func106 Ru λb3 aC b2=>aH ?_;refine aT aC λ_ b5 br _=>aH ?_;refine a8 h (λcy h=>?_) λcy h=>?_
 .exact bl br [.bool false]
 .refine bd (b5 _ (inl (aT aC λ_ en eo _=>aH ?_)));refine a8 h (λdq h=>?_) λdq h=>?_
  .exact bl eo [.bool false]
  .exact bd (en _ (inl (bl aC [.bool true])))
theorem Ip (J ag r) (h:sI J ag=some r):bb ay 84 [.slice (J.map aW),.slice (ag.map aW)] (.bool r) []:=by
 refine ca [0,1] [.tmp 4] Try.func84 Rv λb3 aC b2=>aH ?_;refine aT aC λ_ b5 br aG=>aH ?_;refine a8 h (λcy h=>?_) λcy h=>?_
 .exact bl br [.bool false]
 .refine bd (b5 _ (inl (aT aC λ_ en eo _=>aH ?_)));refine b_ eo λoW _ iJ dq _=>?_;show bc ay (.loop ?lx) _ _;have lA:∀n d_,B4 J ag n d_=some r->dy ay ?lx oW (au [(0,.slice (J.map aW)),(1,.slice (ag.map aW)),(5,.int .i64 d_)]):=by
   refine eg λ_ k7 d_ h=>ef iJ λ_ eG dw dV=>aT dw λ_ cR _ dW=>aH ?_;refine a8 h (λhd h=>?_) λhd h=>?_
   .refine bd (cR _ (inl (aT dw λ_ ke oR _=>b_ oR λ_ gU fC _ _=>?_)));obtain⟨ak,dJ,h⟩:=aJ h;obtain⟨aG,iI,h⟩:=aJ h;obtain⟨aP,gV,h⟩:=aJ h;refine sR (ae dJ iI) (Tx ak aG _ gV) _ ?_;refine a8 h (λkB h=>?_) λkB h=>?_
    .exact bl fC [.bool false]
    .refine bd (gU _ (ke _ (inl (fp ?_))));exact eG _ (inr ⟨_,cL rfl,k7 (i64.wrap (d_+1)) h⟩)
   .exact el (dW 0 _ (dV 0 _ (dq _ (en _ (inl (bl aC [.bool true]))))))
  exact eP h λn h=>lA n 0 h
theorem Iq (J ag r) (h:u2 J ag=some r):bb ay 85 [.slice (J.map dv),.slice (ag.map dv)] (.bool r) []:=by
 refine ca [0,1] [.tmp 4] Try.func85 Rw λb3 aC b2=>aH ?_;refine aT aC λ_ b5 br aG=>aH ?_;refine a8 h (λcy h=>?_) λcy h=>?_
 .exact bl br [.bool false]
 .refine bd (b5 _ (inl (aT aC λ_ en eo _=>aH ?_)));refine b_ eo λoW _ iJ dq _=>?_;show bc ay (.loop ?lx) _ _;have lA:∀n d_,B5 J ag n d_=some r->dy ay ?lx oW (au [(0,.slice (J.map dv)),(1,.slice (ag.map dv)),(5,.int .i64 d_)]):=by
   refine eg λ_ k7 d_ h=>ef iJ λ_ eG dw dV=>aT dw λ_ cR _ dW=>aH ?_;refine a8 h (λhd h=>?_) λhd h=>?_
   .refine bd (cR _ (inl (aT dw λ_ ke oR _=>b_ oR λ_ gU fC _ _=>?_)));obtain⟨ak,dJ,h⟩:=aJ h;obtain⟨aG,iI,h⟩:=aJ h;obtain⟨aP,gV,h⟩:=aJ h;refine sR (ae dJ iI) (Ip ak aG _ gV) _ ?_;refine a8 h (λkB h=>?_) λkB h=>?_
    .exact bl fC [.bool false]
    .refine bd (gU _ (ke _ (inl (fp ?_))));exact eG _ (inr ⟨_,cL rfl,k7 (i64.wrap (d_+1)) h⟩)
   .exact el (dW 0 _ (dV 0 _ (dq _ (en _ (inl (bl aC [.bool true]))))))
  exact eP h λn h=>lA n 0 h
theorem Ty (J ag r) (h:u3 J ag=some r):bb ay 54 [dN J,dN ag] (.bool r) []:=by
 refine ca [0,1] [.tmp 4] Try.func54 Rx λb3 aC b2=>aH ?_;refine aT aC λ_ b5 br aG=>?_;obtain⟨ak,bK,h⟩:=aJ h;refine dk (pQ J.bw ag.bw _ bK) _ ?_;refine a8 h (λc0 h=>?_) λc0 h=>?_
 .exact bl br [.bool false]
 .refine bd (b5 _ (inl (aT aC λ_ eY fY _=>?_)));obtain⟨aG,h2,h⟩:=aJ h;refine dk (Ip J.Guard ag.Guard _ h2) _ ?_;refine a8 h (λhT h=>?_) λhT h=>?_
  .exact bl fY [.bool false]
  .refine bd (eY _ (inl (aT aC λ_ h7 Cv _=>aH ?_)));refine a8 h (λhv h=>?_) λhv h=>?_
   .exact bl Cv [.bool false]
   .refine bd (h7 _ (inl (aT aC λ_ lz mh _=>?_)));obtain⟨aP,gV,h⟩:=aJ h;refine dk (Iq J.bP ag.bP _ gV) _ ?_;refine a8 h (λkB h=>?_) λkB h=>?_
    .exact bl mh [.bool false]
    .refine bd (lz _ (inl (aT aC λ_ oP rb _=>?_)));obtain⟨bu,lB,h⟩:=aJ h;refine dk (Iq J.Next ag.Next _ lB) _ ?_;refine a8 h (λnU h=>?_) λnU h=>?_
     .exact bl rb [.bool false]
     .exact bd (oP _ (inl (bl aC [.bool true])))
theorem Tz (J ag r) (h:x0 J ag=some r):bb ay 36 [.slice (J.map dN),.slice (ag.map dN)] (.bool r) []:=by
 refine ca [0,1] [.tmp 4] Try.func36 Ry λb3 aC b2=>aH ?_;refine aT aC λ_ b5 br aG=>aH ?_;refine a8 h (λcy h=>?_) λcy h=>?_
 .exact bl br [.bool false]
 .refine bd (b5 _ (inl (aT aC λ_ en eo _=>aH ?_)));refine b_ eo λoW _ iJ dq _=>?_;show bc ay (.loop ?lx) _ _;have lA:∀n d_,B6 J ag n d_=some r->dy ay ?lx oW (au [(0,.slice (J.map dN)),(1,.slice (ag.map dN)),(5,.int .i64 d_)]):=by
   refine eg λ_ k7 d_ h=>ef iJ λ_ eG dw dV=>aT dw λ_ cR _ dW=>aH ?_;refine a8 h (λhd h=>?_) λhd h=>?_
   .refine bd (cR _ (inl (aT dw λ_ ke oR _=>b_ oR λ_ gU fC _ _=>?_)));obtain⟨ak,dJ,h⟩:=aJ h;obtain⟨aG,iI,h⟩:=aJ h;obtain⟨aP,gV,h⟩:=aJ h;refine sR (ae dJ iI) (Ty ak aG _ gV) _ ?_;refine a8 h (λkB h=>?_) λkB h=>?_
    .exact bl fC [.bool false]
    .refine bd (gU _ (ke _ (inl (fp ?_))));exact eG _ (inr ⟨_,cL rfl,k7 (i64.wrap (d_+1)) h⟩)
   .exact el (dW 0 _ (dV 0 _ (dq _ (en _ (inl (bl aC [.bool true]))))))
  exact eP h λn h=>lA n 0 h
theorem TA (J ag r) (h:x1 J ag=some r):bb ay 9 [cQ J,cQ ag] (.bool r) []:=by
 refine ca [0,1] [.tmp 4] Try.func9 zT λb3 aC b2=>aH ?_;refine aT aC λ_ b5 br aG=>aH ?_;refine a8 h (λcy h=>?_) λcy h=>?_
 .exact bl br [.bool false]
 .refine bd (b5 _ (inl (aT aC λ_ en eo _=>?_)));obtain⟨ak,fy,h⟩:=aJ h;refine dk (pQ J.Start ag.Start _ fy) _ ?_;refine a8 h (λfq h=>?_) λfq h=>?_
  .exact bl eo [.bool false]
  .refine bd (en _ (inl (aT aC λ_ eT gu _=>?_)));obtain⟨aG,eJ,h⟩:=aJ h;refine dk (Tz J.cY ag.cY _ eJ) _ ?_;refine a8 h (λhv h=>?_) λhv h=>?_
   .exact bl gu [.bool false]
   .exact bd (eT _ (inl (bl aC [.bool true])))
theorem CO (J ag r) (h:sK J ag=some r):bb ay 15 [.aw 1 (J.map aR),.int .i64 ag] (.int .i64 r.1) [.aw 1 (r.2.map aR),.hole]:=by
 refine ca [0] [.tmp 4] Try.func15 Rz λb3 aC b2=>aH ?_;refine aT aC λ_ b5 br _=>aH ?_;refine b_ br λfK _ bV cy _=>?_;show bc ay (.loop ?fk) _ _;have gg:∀n cP cd a_,sJ n cP cd a_=some r->dy ay ?fk fK (au [(0,.aw 1 (cP.map aR)),(1,.int .i64 cd),(5,.int .i64 a_)]):=by
  refine eg λ_ fR cP cd a_ h=>ef bV λ_ fh c7 bI=>aT c7 λ_ en _ bF=>aH ?_;refine a8 h (λdq h=>?_) λdq h=>?_
  .refine bd (en _ (inl (aT c7 λ_ eG dw _=>b_ dw λ_ cR _ _ _=>?_)));obtain⟨ak,dF,h⟩:=aJ h;refine df (cB [(0,.aw 1 ((List.set cP (Int.toNat a_) cd).map aR)),(1,.int .i64 cd),(5,.int .i64 a_)] (λP bs=>?_) ?_)
   .simp only[aZ.down,simprocAttr,dF,c2 dF,gH,da];exact cv (ae dF (ae (c2 dF) @gH))
   refine wr [(0,.aw 1 ((List.set cP (Int.toNat a_) cd).map aR)),(1,.int .i64 (i64.wrap (cd+1))),(5,.int .i64 a_)] ?_;refine cR _ (eG _ (inl (wr [(0,.aw 1 ((List.set cP (Int.toNat a_) cd).map aR)),(1,.int .i64 (i64.wrap (cd+1))),(5,.int .i64 (i64.wrap (a_+1)))] ?_)));exact fh _ (inr ⟨_,cL rfl,fR (List.set cP (Int.toNat a_) cd) (i64.wrap (cd+1)) (i64.wrap (a_+1)) h⟩)
  .refine el (bF 0 _ (bI 0 _ (cy _ (b5 _ (inl (aH ?_))))));exact lj (aC _ (inl (pz [.int .i64 cd] rfl (by cases ki h;rfl) (by decide) (qO (uv (by cases ki h;rfl) rfl rfl rfl (oB (qP)))))))
 exact eP h λn h=>gg n J ag 0 h
theorem Ir (J ag r) (h:u4 J ag=some r):bb ay 55 [.aw 2 (J.map aW),.int .i64 ag] (.int .i64 r.1) [.aw 2 (r.2.map aW),.hole]:=by
 refine ca [0] [.tmp 4] Try.func55 RA λb3 aC b2=>aH ?_;refine aT aC λ_ b5 br aG=>aH ?_;refine b_ br λfK _ bV cy _=>?_;show bc ay (.loop ?fk) _ _;have gg:∀n cP cd a_,sL n cP cd a_=some r->dy ay ?fk fK (au [(0,.aw 2 (cP.map aW)),(1,.int .i64 cd),(5,.int .i64 a_)]):=by
  refine eg λ_ fR cP cd a_ h=>ef bV λ_ fh c7 bI=>aT c7 λ_ en _ bF=>aH ?_;refine a8 h (λdq h=>?_) λdq h=>?_
  .refine bd (en _ (inl (aT c7 λ_ eG dw _=>b_ dw λ_ cR _ _ _=>?_)));obtain⟨ak,dF,h⟩:=aJ h;refine df (cB [(0,.aw 2 ((List.set cP (Int.toNat a_) (aK.mk cd ak.Value)).map aW)),(1,.int .i64 cd),(5,.int .i64 a_)] (λP bs=>?_) ?_)
   .simp only[aZ.down,simprocAttr,dF,c2 dF,gH,da];exact cv (ae dF (ae (c2 dF) @gH))
   refine ws [(0,.aw 2 ((List.set cP (Int.toNat a_) (aK.mk cd ak.Value)).map aW)),(1,.int .i64 (i64.wrap (cd+1))),(5,.int .i64 a_)] ?_;obtain⟨aG,e2,h⟩:=aJ h;refine df (cB [(0,.aw 2 ((List.set (List.set cP (Int.toNat a_) (aK.mk cd ak.Value)) (Int.toNat a_) (aK.mk aG.Kind (i64.wrap (cd+1)))).map aW)),(1,.int .i64 (i64.wrap (cd+1))),(5,.int .i64 a_)] (λP bs=>?_) ?_)
   .simp only[aZ.down,simprocAttr,e2,c2 e2,gH,da];exact cv (ae e2 (ae (c2 e2) @gH))
   refine wr [(0,.aw 2 ((List.set (List.set cP (Int.toNat a_) (aK.mk cd ak.Value)) (Int.toNat a_) (aK.mk aG.Kind (i64.wrap (cd+1)))).map aW)),(1,.int .i64 (i64.wrap ((i64.wrap (cd+1))+1))),(5,.int .i64 a_)] ?_;refine cR _ (eG _ (inl (wr [(0,.aw 2 ((List.set (List.set cP (Int.toNat a_) (aK.mk cd ak.Value)) (Int.toNat a_) (aK.mk aG.Kind (i64.wrap (cd+1)))).map aW)),(1,.int .i64 (i64.wrap ((i64.wrap (cd+1))+1))),(5,.int .i64 (i64.wrap (a_+1)))] ?_)));exact fh _ (inr ⟨_,cL rfl,fR (List.set (List.set cP (Int.toNat a_) (aK.mk cd ak.Value)) (Int.toNat a_) (aK.mk aG.Kind (i64.wrap (cd+1)))) (i64.wrap ((i64.wrap (cd+1))+1)) (i64.wrap (a_+1)) h⟩)
  .refine el (bF 0 _ (bI 0 _ (cy _ (b5 _ (inl (aH ?_))))));exact lj (aC _ (inl (pz [.int .i64 cd] rfl (by cases ki h;rfl) (by decide) (qO (uv (by cases ki h;rfl) rfl rfl rfl (oB (qP)))))))
 exact eP h λn h=>gg n J ag 0 h
theorem TB (J r) (h:x3 J=some r):bb ay 56 [.int .i64 J] (.str r) []:=by
 refine ca [] [.tmp 2] Try.func56 RB λb3 aC b2=>aH ?_;refine aT aC λ_ b5 br _=>aH ?_;refine a8 h (λcy h=>?_) λcy h=>?_
 .exact bl br [.str ([109,48]:Xq)]
 .refine bd (b5 _ (inl (aH ?_)));refine aT aC λ_ eY fY _=>b_ fY λoW _ iJ dq _=>?_;have lA:∀n jJ eQ,q6 n jJ eQ=some r->dy ay HR oW (au [(0,.int .i64 jJ),(3,.str eQ)]):=by
   refine eg λ_ k7 jJ eQ h=>ef iJ λ_ eG dw dV=>aT dw λ_ cR _ dW=>aH ?_;refine a8 h (λhd h=>?_) λhd h=>?_
   .refine bd (cR _ (inl (b_ dw λ_ ke _ _ _=>?_)));obtain⟨u16,e2,h⟩:=aJ h;(try simp only[jK.down,Nat.zero_add,Nat.add_zero,reduceAdd]at e2);refine dh (ae (@qK .i64 10 (by decide)) (ae (@Nv ay 3 5 .u8 rfl rfl) (ae (show∀s,ek ay s 110 1 [(0,.int .u8 (u8.wrap (i64.wrap (48+(Int.tmod jJ 10)))))]=some (.aw 1 [.int .u8 (u8.wrap (i64.wrap (48+(Int.tmod jJ 10))))],s)from λs=>by kernel_rfl) (ae ((@Nw ay 110 9 5 rfl rfl rfl).2.2) (ae @Ny (ae @Nx (ae e2 (ae @Gs @Gt)))))))) [(0,.int .i64 jJ),(3,.str ([(n3 (i64.wrap (48+(Int.tmod jJ 10))))]++eQ))] ?_;refine mY (@Nz .i64 10 (by decide)) [(0,.int .i64 (i64.wrap (Int.tdiv jJ 10))),(3,.str ([(n3 (i64.wrap (48+(Int.tmod jJ 10))))]++eQ))] ?_;exact ke _ (eG _ (inr ⟨_,cL rfl,k7 (i64.wrap (Int.tdiv jJ 10)) ([(n3 (i64.wrap (48+(Int.tmod jJ 10))))]++eQ) h⟩))
   .refine el (dW 0 _ (dV 0 _ (dq _ (eY _ (inl ?_)))));obtain⟨Cr,gV,h⟩:=aJ h;(try simp only[jK.down,Nat.zero_add,Nat.add_zero,reduceAdd]at gV);refine dh (ae gV (ae @Gs @Gt)) [(2,.str (([109]:Xq)++eQ))] ?_;exact ct aC [.str (([109]:Xq)++eQ)]
  exact eP h λn h=>lA n J ([]:Xq) h
theorem Is (J ag r) (h:u5 J ag=some r):bb ay 57 [.aw 1 (J.map hq),.int .i64 ag] (.int .i64 r.1) [.aw 1 (r.2.map hq),.hole]:=by
 refine ca [0] [.tmp 4] Try.func57 RC λb3 aC b2=>aH ?_;refine aT aC λ_ b5 br aG=>aH ?_;refine b_ br λfK _ bV cy _=>?_;show bc ay (.loop ?fk) _ _;have gg:∀n cP cd a_,sM n cP cd a_=some r->dy ay ?fk fK (au [(0,.aw 1 (cP.map hq)),(1,.int .i64 cd),(5,.int .i64 a_)]):=by
  refine eg λ_ fR cP cd a_ h=>ef bV λ_ fh c7 bI=>aT c7 λ_ en _ bF=>aH ?_;refine a8 h (λdq h=>?_) λdq h=>?_
  .refine bd (en _ (inl (aT c7 λ_ eG dw _=>b_ dw λ_ cR _ _ _=>?_)));obtain⟨ak,dF,h⟩:=aJ h;obtain⟨aG,eJ,h⟩:=aJ h;refine jG (cB [(0,.aw 1 ((List.set cP (Int.toNat a_) aG.2).map hq)),(1,.int .i64 aG.1),(5,.int .i64 a_)] (λP bs=>?_) ?_)
   ·(try simp only[aZ.down,simprocAttr,dF,c2 dF]);refine oA [⟨.h 0 [Int.toNat a_],true,_,_⟩,⟨.int .i64 cd,false,_,.hole⟩] (Ir ak cd _ eJ) rfl rfl rfl (by simp only[aZ.down,simprocAttr,dF,c2 dF,HW.down]) rfl rfl (inl rfl) ?_;simp only[aZ.down,simprocAttr,dF,c2 dF,mP,(ux (c2 dF)),uy];exact cv (ae dF (c2 dF))
   refine cR _ (eG _ (inl (wr [(0,.aw 1 ((List.set cP (Int.toNat a_) aG.2).map hq)),(1,.int .i64 aG.1),(5,.int .i64 (i64.wrap (a_+1)))] ?_)));exact fh _ (inr ⟨_,cL rfl,fR (List.set cP (Int.toNat a_) aG.2) aG.1 (i64.wrap (a_+1)) h⟩)
  .refine el (bF 0 _ (bI 0 _ (cy _ (b5 _ (inl (aH ?_))))));exact lj (aC _ (inl (pz [.int .i64 cd] rfl (by cases ki h;rfl) (by decide) (qO (uv (by cases ki h;rfl) rfl rfl rfl (oB (qP)))))))
 exact eP h λn h=>gg n J ag 0 h
theorem TC (J ag r) (h:x4 J ag=some r):bb ay 37 [.aw 5 (J.map eR),.int .i64 ag] (.int .i64 r.1) [.aw 5 (r.2.map eR),.hole]:=by
 refine ca [0] [.tmp 4] Try.func37 RD λb3 aC b2=>aH ?_;refine aT aC λ_ b5 br aG=>aH ?_;refine b_ br λfK _ bV cy bu=>?_;show bc ay (.loop ?fk) _ _;have gg:∀n cP cd a_,sN n cP cd a_=some r->dy ay ?fk fK (au [(0,.aw 5 (cP.map eR)),(1,.int .i64 cd),(5,.int .i64 a_)]):=by
  refine eg λ_ fR cP cd a_ h=>ef bV λ_ fh c7 bI=>aT c7 λ_ en _ bF=>aH ?_;refine a8 h (λdq h=>?_) λdq h=>?_
  .refine bd (en _ (inl (aT c7 λ_ eG dw dV=>b_ dw λ_ cR _ _ dW=>?_)));obtain⟨ak,dF,h⟩:=aJ h;obtain⟨aG,eJ,h⟩:=aJ h;refine df (cB [(0,.aw 5 ((List.set cP (Int.toNat a_) (bD.mk aG.2 ak.Guard ak.Name ak.bP ak.Next)).map eR)),(1,.int .i64 aG.1),(5,.int .i64 a_)] (λP bs=>?_) ?_)
   ·(try simp only[aZ.down,simprocAttr,dF,c2 dF]);refine oA [⟨.h 0 [Int.toNat a_,0],true,_,_⟩,⟨.int .i64 cd,false,_,.hole⟩] (CO ak.bw cd _ eJ) rfl rfl rfl (by simp only[aZ.down,simprocAttr,dF,c2 dF,pD,nD,iW,i0,i1,dM,or_true,true_or, @cT _ aR aR (λ_=>hp _)]) rfl rfl (inl rfl) ?_;simp only[aZ.down,simprocAttr,dF,c2 dF,mP,(ux (c2 dF)),uy];exact cv (ae dF (c2 dF))
   obtain⟨aP,e2,h⟩:=aJ h;obtain⟨bu,dJ,h⟩:=aJ h;refine df (cB [(0,.aw 5 ((List.set (List.set cP (Int.toNat a_) (bD.mk aG.2 ak.Guard ak.Name ak.bP ak.Next)) (Int.toNat a_) (bD.mk aP.bw bu.2 aP.Name aP.bP aP.Next)).map eR)),(1,.int .i64 bu.1),(5,.int .i64 a_)] (λP bs=>?_) ?_)
   ·(try simp only[aZ.down,simprocAttr,e2,c2 e2]);refine oA [⟨.h 0 [Int.toNat a_,1],true,_,_⟩,⟨.int .i64 aG.1,false,_,.hole⟩] (Ir aP.Guard aG.1 _ dJ) rfl rfl rfl (by simp only[aZ.down,simprocAttr,e2,c2 e2,HW.down]) rfl rfl (inl rfl) ?_;simp only[aZ.down,simprocAttr,e2,c2 e2,mP,(ux (c2 e2)),uy];exact cv (ae e2 (c2 e2))
   obtain⟨bI,gV,h⟩:=aJ h;obtain⟨bF,fD,h⟩:=aJ h;refine df (cB [(0,.aw 5 ((List.set (List.set (List.set cP (Int.toNat a_) (bD.mk aG.2 ak.Guard ak.Name ak.bP ak.Next)) (Int.toNat a_) (bD.mk aP.bw bu.2 aP.Name aP.bP aP.Next)) (Int.toNat a_) (bD.mk bF.bw bF.Guard bI bF.bP bF.Next)).map eR)),(1,.int .i64 bu.1),(5,.int .i64 a_)] (λP bs=>?_) ?_)
   ·(try simp only[aZ.down,simprocAttr,fD,c2 fD,gH,da]);refine du (TB bu.1 _ gV) (hK:= ?_);simp only[aZ.down,simprocAttr,fD,c2 fD,gH,da];exact cv (ae fD (ae (c2 fD) @gH))
   refine ws [(0,.aw 5 ((List.set (List.set (List.set cP (Int.toNat a_) (bD.mk aG.2 ak.Guard ak.Name ak.bP ak.Next)) (Int.toNat a_) (bD.mk aP.bw bu.2 aP.Name aP.bP aP.Next)) (Int.toNat a_) (bD.mk bF.bw bF.Guard bI bF.bP bF.Next)).map eR)),(1,.int .i64 (i64.wrap (bu.1+1))),(5,.int .i64 a_)] ?_;obtain⟨cm,fS,h⟩:=aJ h;obtain⟨db,lB,h⟩:=aJ h;refine df (cB [(0,.aw 5 ((List.set (List.set (List.set (List.set cP (Int.toNat a_) (bD.mk aG.2 ak.Guard ak.Name ak.bP ak.Next)) (Int.toNat a_) (bD.mk aP.bw bu.2 aP.Name aP.bP aP.Next)) (Int.toNat a_) (bD.mk bF.bw bF.Guard bI bF.bP bF.Next)) (Int.toNat a_) (bD.mk cm.bw cm.Guard cm.Name db.2 cm.Next)).map eR)),(1,.int .i64 db.1),(5,.int .i64 a_)] (λP bs=>?_) ?_)
   ·(try simp only[aZ.down,simprocAttr,fS,c2 fS]);refine oA [⟨.h 0 [Int.toNat a_,3],true,_,_⟩,⟨.int .i64 (i64.wrap (bu.1+1)),false,_,.hole⟩] (Is cm.bP (i64.wrap (bu.1+1)) _ lB) rfl rfl rfl (by simp only[aZ.down,simprocAttr,fS,c2 fS,HX.down]) rfl rfl (inl rfl) ?_;simp only[aZ.down,simprocAttr,fS,c2 fS,mP,(ux (c2 fS)),uy];exact cv (ae fS (c2 fS))
   obtain⟨dV,h8,h⟩:=aJ h;obtain⟨dW,ve,h⟩:=aJ h;refine jG (cB [(0,.aw 5 ((List.set (List.set (List.set (List.set (List.set cP (Int.toNat a_) (bD.mk aG.2 ak.Guard ak.Name ak.bP ak.Next)) (Int.toNat a_) (bD.mk aP.bw bu.2 aP.Name aP.bP aP.Next)) (Int.toNat a_) (bD.mk bF.bw bF.Guard bI bF.bP bF.Next)) (Int.toNat a_) (bD.mk cm.bw cm.Guard cm.Name db.2 cm.Next)) (Int.toNat a_) (bD.mk dV.bw dV.Guard dV.Name dV.bP dW.2)).map eR)),(1,.int .i64 dW.1),(5,.int .i64 a_)] (λP bs=>?_) ?_)
   ·(try simp only[aZ.down,simprocAttr,h8,c2 h8]);refine oA [⟨.h 0 [Int.toNat a_,4],true,_,_⟩,⟨.int .i64 db.1,false,_,.hole⟩] (Is dV.Next db.1 _ ve) rfl rfl rfl (by simp only[aZ.down,simprocAttr,h8,c2 h8,HX.down]) rfl rfl (inl rfl) ?_;simp only[aZ.down,simprocAttr,h8,c2 h8,mP,(ux (c2 h8)),uy];exact cv (ae h8 (c2 h8))
   refine cR _ (eG _ (inl (wr [(0,.aw 5 ((List.set (List.set (List.set (List.set (List.set cP (Int.toNat a_) (bD.mk aG.2 ak.Guard ak.Name ak.bP ak.Next)) (Int.toNat a_) (bD.mk aP.bw bu.2 aP.Name aP.bP aP.Next)) (Int.toNat a_) (bD.mk bF.bw bF.Guard bI bF.bP bF.Next)) (Int.toNat a_) (bD.mk cm.bw cm.Guard cm.Name db.2 cm.Next)) (Int.toNat a_) (bD.mk dV.bw dV.Guard dV.Name dV.bP dW.2)).map eR)),(1,.int .i64 dW.1),(5,.int .i64 (i64.wrap (a_+1)))] ?_)));exact fh _ (inr ⟨_,cL rfl,fR (List.set (List.set (List.set (List.set (List.set cP (Int.toNat a_) (bD.mk aG.2 ak.Guard ak.Name ak.bP ak.Next)) (Int.toNat a_) (bD.mk aP.bw bu.2 aP.Name aP.bP aP.Next)) (Int.toNat a_) (bD.mk bF.bw bF.Guard bI bF.bP bF.Next)) (Int.toNat a_) (bD.mk cm.bw cm.Guard cm.Name db.2 cm.Next)) (Int.toNat a_) (bD.mk dV.bw dV.Guard dV.Name dV.bP dW.2)) dW.1 (i64.wrap (a_+1)) h⟩)
  .refine el (bF 0 _ (bI 0 _ (cy _ (b5 _ (inl (aH ?_))))));exact lj (aC _ (inl (pz [.int .i64 cd] rfl (by cases ki h;rfl) (by decide) (qO (uv (by cases ki h;rfl) rfl rfl rfl (oB (qP)))))))
 exact eP h λn h=>gg n J ag 0 h
theorem TD (q7 sO q8 ag r) (h:x5 q7 sO q8 ag=some r):bb ay 10 [.agg [.int .i64 q7,.aw 1 (sO.map aR),.aw 5 (q8.map eR)],.int .i64 ag] (.int .i64 r.1) [.agg [.int .i64 r.2.1,.aw 1 (r.2.2.1.map aR),.aw 5 (r.2.2.2.map eR)],.hole]:=by
 refine ca [0] [.tmp 4] Try.func10 Ck λb3 aC b2=>df (cB [(0,.agg [.int .i64 q7,.aw 1 (sO.map aR),.aw 5 (q8.map eR)]),(1,.int .i64 ag),(2,.U 0 0)] (λP bs=>?_) ?_)
 .simp only[aZ.down,simprocAttr,mQ,mS,I.dz,mR];exact cv (ae @mQ (ae @mS @mR))
 obtain⟨ak,aV,h⟩:=aJ h;refine df (cB [(0,.agg [.int .i64 q7,.aw 1 (ak.2.map aR),.aw 5 (q8.map eR)]),(1,.int .i64 ak.1),(2,.U 0 0)] (λP bs=>?_) ?_)
 ·(try simp only[aZ.down,simprocAttr,mQ,mS,I.dz,mR]);refine NT [⟨.h 0 [1],true,_,_⟩,⟨.int .i64 ag,false,_,.hole⟩] (CO sO ag _ aV) rfl rfl rfl (by simp only[aZ.down,simprocAttr,mQ,mS,I.dz,mR,r5,pD,nD,iW,i0,i1,dM,or_true,true_or, @cT _ aR aR (λ_=>hp _)]) rfl rfl (inl rfl) (by simp only[aZ.down,simprocAttr,mQ,mS,I.dz,mR,GI,nD,Aq,Bool.and_self,Bool.not_false,Bool.and_true]) ?_;simp only[aZ.down,simprocAttr,mQ,mS,I.dz,mR,mP,GI,nD,eq_self,Bool.and_self];exact cv (ae @mQ (ae @mS @mR))
 obtain⟨aG,cn,h⟩:=aJ h;refine df (cB [(0,.agg [.int .i64 q7,.aw 1 (ak.2.map aR),.aw 5 (aG.2.map eR)]),(1,.int .i64 aG.1)] (λP bs=>?_) ?_)
 ·(try simp only[aZ.down,simprocAttr,mQ,mS,I.dz,mR]);refine oA [⟨.h 0 [2],true,_,_⟩,⟨.int .i64 ak.1,false,_,.hole⟩] (TC q8 ak.1 _ cn) rfl rfl rfl (by simp only[aZ.down,simprocAttr,mQ,mS,I.dz,mR,r5,pD,nD,iW,i0,i1,dM,or_true,true_or, @cT _ eR dN (λ_=>q_ _)]) rfl rfl (inl rfl) ?_;simp only[aZ.down,simprocAttr,mQ,mS,I.dz,mR,mP];exact cv (ae @mQ (ae @mS @mR))
 refine aH ?_;exact lj (aC _ (inl (pz [.int .i64 aG.1] rfl (by cases ki h;rfl) (by decide) (qO (uv (by cases ki h;rfl) rfl rfl rfl (oB (qP)))))))
theorem It (J ag r) (h:u6 J ag=some r):bb ay 16 [.slice (J.map aR),.int .i64 ag] (.int .i64 r) []:=by
 refine ca [0] [.tmp 4] Try.func16 mX λb3 aC b2=>aH ?_;refine aT aC λ_ b5 br _=>aH ?_;refine b_ br λfK _ bV cy _=>?_;show bc ay (.loop ?fk) _ _;have gg:∀n cd a_,sP J n cd a_=some r->dy ay ?fk fK (au [(0,.slice (J.map aR)),(1,.int .i64 cd),(5,.int .i64 a_)]):=by
  refine eg λ_ fR cd a_ h=>ef bV λ_ fh c7 bI=>aT c7 λ_ en _ bF=>aH ?_;refine a8 h (λdq h=>?_) λdq h=>?_
  .refine bd (en _ (inl (aT c7 λ_ eG dw _=>b_ dw λ_ cR di _ _=>aT di λ_ eT gu _=>?_)));obtain⟨ak,eJ,h⟩:=aJ h;refine dh eJ _ ?_;refine a8 h (λhv h=>?_) λhv h=>?_
   .exact bl gu [.int .i64 (-1)]
   .refine bd (eT _ (inl (fp ?_)));refine cR _ (eG _ (inl (fp ?_)));exact fh _ (inr ⟨_,cL rfl,fR (i64.wrap (cd+1)) (i64.wrap (a_+1)) h⟩)
  .exact el (bF 0 _ (bI 0 _ (cy _ (b5 _ (inl (bl aC [.int .i64 cd]))))))
 exact eP h λn h=>gg n ag 0 h
theorem TE (J r) (h:Cb J=some r):bb ay 4 [ka J] (.bool r) []:=by
 refine ca [0] [.tmp 2] Try.func4 mx λb3 aC b2=>aH ?_;refine aH ?_;obtain⟨ak,bK,h⟩:=aJ h;refine dk (RK J 1048576 _ bK) _ ?_;refine aT aC λ_ fh c7 bI=>aH ?_;refine a8 h (λtJ h=>?_) λtJ h=>?_
 .exact bl c7 [.bool true]
 .refine bd (fh _ (inl ?_));obtain⟨aG,jw,h⟩:=aJ h;obtain⟨aP,oc,h⟩:=aJ h;refine df (cB [(1,.bh (ka J)),(4,.aw 1 (aP.1.map aR)),(5,.int .i64 aP.2)] (λP bs=>?_) ?_)
  ·(try simp only[aZ.down,simprocAttr]);refine du (yf J _ jw) (hK:= ?_);simp only[aZ.down,simprocAttr];refine du (Sr aG _ oc) rfl rfl (by simp only[aZ.down,simprocAttr,Cq.down]<;>rfl) rfl (inr (by simp only[I.cr,I.gD, @iX _ aR (λ_=>oM _),Bool.and_self])) ?_;simp only[aZ.down,simprocAttr];exact cv trivial
  obtain⟨bu,eJ,h⟩:=aJ h;refine dk (yf J _ eJ) _ ?_;obtain⟨bI,e2,h⟩:=aJ h;refine df (cB [(1,.bh (ka J)),(4,.aw 1 (aP.1.map aR)),(5,.int .i64 aP.2),(6,.bh (nT bu)),(7,.aw 1 (bI.1.map aR)),(8,.int .i64 bI.2)] (λP bs=>?_) ?_)
  ·(try simp only[aZ.down,simprocAttr]);refine du (Io bu _ e2) rfl rfl (by simp only[aZ.down,simprocAttr,Cq.down]<;>rfl) rfl (inr (by simp only[I.cr,I.gD, @iX _ aR (λ_=>oM _),Bool.and_self])) ?_;simp only[aZ.down,simprocAttr];exact cv trivial
  refine aT aC λ_ lz mh q9=>?_;obtain⟨bF,gV,h⟩:=aJ h;refine df (cB [(1,.bh (ka J)),(4,.aw 1 (aP.1.map aR)),(5,.int .i64 aP.2),(6,.bh (nT bu)),(7,.aw 1 (bI.1.map aR)),(8,.int .i64 bI.2),(40,.bool ((!bF)||(bI.2 !=aP.2)))] (λP bs=>?_) ?_)
  .rcases Bool.eq_false_or_eq_true (bF)with oX|oX
   ·(try simp only[aZ.down,simprocAttr,oX]);refine du (pQ bI.1 aP.1 _ gV) rfl rfl (by simp only[aZ.down,simprocAttr,oX,sT.down]<;>rfl) rfl (inr (by rfl)) ?_;simp only[aZ.down,simprocAttr,oX];exact cv oX
   ·(try simp only[aZ.down,simprocAttr,oX]);refine du (pQ bI.1 aP.1 _ gV) rfl rfl (by simp only[aZ.down,simprocAttr,oX,sT.down]<;>rfl) rfl (inr (by rfl)) ?_;simp only[aZ.down,simprocAttr,oX];exact cv oX
  refine a8 h (λiw h=>?_) λiw h=>?_
  .exact bl mh [.bool false]
  .refine bd (lz _ (inl (aT aC λ_ CI CJ _=>?_)));obtain⟨cm,lD,h⟩:=aJ h;obtain⟨db,h8,h⟩:=aJ h;refine qH rfl (qJ [(1,.bh (ka J)),(4,.aw 1 (aP.1.map aR)),(5,.int .i64 aP.2),(6,.bh (nT bu)),(7,.aw 1 (bI.1.map aR)),(8,.int .i64 bI.2),(45,.bool (!db))] (λP bs=>?_) ?_)
   ·(try simp only[gT.down,simprocAttr]);refine lk (yf J _ lD) (hK:= ?_);simp only[gT.down,simprocAttr];refine lk (TA bu cm _ h8) rfl rfl (by simp only[gT.down,simprocAttr,iW,i0,i1,dM, @cT _ aR aR (λ_=>hp _), @cT _ eR dN (λ_=>q_ _), @cT _ aR aR (λ_=>hp _), @cT _ eR dN (λ_=>q_ _)]<;>rfl) rfl (inr (by rfl)) ?_;simp only[gT.down,simprocAttr];refine⟨pG (by kernel_rfl),?_⟩;exact cv trivial
   refine a8 h (λm1 h=>?_) λm1 h=>?_
   .exact bl CJ [.bool false]
   .refine bd (CI _ (inl (aH ?_)));obtain⟨dV,mj,h⟩:=aJ h;refine df (cB [(1,.bh (ka J)),(4,.aw 1 (aP.1.map aR)),(5,.int .i64 aP.2),(7,.aw 1 (bI.1.map aR)),(8,.int .i64 bI.2),(9,.int .i64 dV.1)] (λP bs=>?_) ?_)
    ·(try simp only[aZ.down,simprocAttr]);refine oA [⟨.h 6 [0],true,_,_⟩,⟨.int .i64 1,false,_,.hole⟩] (TD bu.c1 bu.Start bu.cY 1 _ mj) rfl rfl rfl (by simp only[aZ.down,simprocAttr,r5,pD,nD,iW,i0,i1,dM,or_true,true_or, @cT _ aR aR (λ_=>hp _), @cT _ eR dN (λ_=>q_ _)]) rfl rfl (inl rfl) ?_;simp only[aZ.down,simprocAttr,mP];exact cv trivial
    refine aT aC λ_ vh yk _=>?_;rcases e8 h with⟨iL,h⟩|⟨iL,h⟩
    .refine dh iL _ ?_;refine iV rfl ?_;exact bl yk [.bool false]
    .obtain⟨dW,hU,h⟩:=aJ h;refine df (cB [(1,.bh (ka J)),(4,.aw 1 (aP.1.map aR)),(5,.int .i64 aP.2),(7,.aw 1 (bI.1.map aR)),(61,.bool ((!dW)||(bI.2 !=aP.2)))] (λP bs=>?_) ?_)
     .rcases Bool.eq_false_or_eq_true (dW)with oY|oY
      ·(try simp only[aZ.down,simprocAttr,iL,oY]);refine ku (pQ bI.1 aP.1 _ hU) rfl rfl (by simp only[aZ.down,simprocAttr,iL,oY,sT.down]<;>rfl) rfl (inr (by rfl)) ?_;simp only[aZ.down,simprocAttr,iL,oY];exact cv (ae iL oY)
      ·(try simp only[aZ.down,simprocAttr,iL,oY]);refine ku (pQ bI.1 aP.1 _ hU) rfl rfl (by simp only[aZ.down,simprocAttr,iL,oY,sT.down]<;>rfl) rfl (inr (by rfl)) ?_;simp only[aZ.down,simprocAttr,iL,oY];exact cv (ae iL oY)
     refine a8 h (λoT h=>?_) λoT h=>?_
     .exact bl yk [.bool false]
     .refine bd (vh _ (inl (aH ?_)));obtain⟨fJ,yj,h⟩:=aJ h;refine df (cB [(1,.bh (ka J)),(4,.aw 1 (aP.1.map aR)),(5,.int .i64 aP.2),(7,.aw 1 (fJ.2.map aR)),(10,.int .i64 fJ.1)] (λP bs=>?_) ?_)
      ·(try simp only[aZ.down,simprocAttr]);refine oA [⟨.h 7 [],true,_,_⟩,⟨.int .i64 1,false,_,.hole⟩] (CO bI.1 1 _ yj) rfl rfl rfl (by simp only[aZ.down,simprocAttr,r5,pD,nD,iW,i0,i1,dM,or_true,true_or, @cT _ aR aR (λ_=>hp _)]) rfl rfl (inl rfl) ?_;simp only[aZ.down,simprocAttr,mP];exact cv trivial
      refine aH ?_;obtain⟨lo,TF,h⟩:=aJ h;refine df (cB [(1,.bh (ka J)),(4,.aw 1 (aP.1.map aR)),(5,.int .i64 aP.2),(7,.aw 1 (fJ.2.map aR)),(10,.int .i64 fJ.1),(11,.int .i64 lo)] (λP bs=>?_) ?_)
      ·(try simp only[aZ.down,simprocAttr]);refine du (It fJ.2 1 _ TF) rfl rfl (by simp only[aZ.down,simprocAttr,yd.down]<;>rfl) rfl (inr (by rfl)) ?_;simp only[aZ.down,simprocAttr];exact cv trivial
      refine aT aC λ_ TG TH _=>aH ?_;refine a8 h (λTI h=>?_) λTI h=>?_
      .exact bl TH [.bool false]
      .refine bd (TG _ (inl (aT aC λ_ TJ TK _=>aH ?_)));refine a8 h (λTL h=>?_) λTL h=>?_
       .exact bl TK [.bool false]
       .refine bd (TJ _ (inl ?_));obtain⟨lp,TM,h⟩:=aJ h;obtain⟨nS,TN,h⟩:=aJ h;refine df (cB [(4,.aw 1 (aP.1.map aR)),(5,.int .i64 aP.2),(7,.aw 1 (fJ.2.map aR)),(10,.int .i64 fJ.1),(12,.aw 1 (nS.1.map aR)),(13,.int .i64 nS.2)] (λP bs=>?_) ?_)
        ·(try simp only[aZ.down,simprocAttr]);refine du (yf J _ TM) (hK:= ?_);simp only[aZ.down,simprocAttr];refine du (Io lp _ TN) rfl rfl (by simp only[aZ.down,simprocAttr,Cq.down]<;>rfl) rfl (inr (by simp only[I.cr,I.gD, @iX _ aR (λ_=>oM _),Bool.and_self])) ?_;simp only[aZ.down,simprocAttr];exact cv trivial
        refine aT aC λ_ TO TP _=>?_;obtain⟨pM,Iu,h⟩:=aJ h;refine df (cB [(7,.aw 1 (fJ.2.map aR)),(10,.int .i64 fJ.1),(87,.bool ((!pM)||(nS.2 !=aP.2)))] (λP bs=>?_) ?_)
        .rcases Bool.eq_false_or_eq_true (pM)with oZ|oZ
         ·(try simp only[aZ.down,simprocAttr,oZ]);refine du (pQ nS.1 aP.1 _ Iu) rfl rfl (by simp only[aZ.down,simprocAttr,oZ,sT.down]<;>rfl) rfl (inr (by rfl)) ?_;simp only[aZ.down,simprocAttr,oZ];exact cv oZ
         ·(try simp only[aZ.down,simprocAttr,oZ]);refine du (pQ nS.1 aP.1 _ Iu) rfl rfl (by simp only[aZ.down,simprocAttr,oZ,sT.down]<;>rfl) rfl (inr (by rfl)) ?_;simp only[aZ.down,simprocAttr,oZ];exact cv oZ
        refine a8 h (λTQ h=>?_) λTQ h=>?_
        .exact bl TP [.bool false]
        .refine bd (TO _ (inl (aH ?_)));obtain⟨q9,TR,h⟩:=aJ h;refine df (cB [(10,.int .i64 fJ.1),(11,.int .i64 q9)] (λP bs=>?_) ?_)
         ·(try simp only[aZ.down,simprocAttr]);refine du (It fJ.2 1 _ TR) rfl rfl (by simp only[aZ.down,simprocAttr,yd.down]<;>rfl) rfl (inr (by rfl)) ?_;simp only[aZ.down,simprocAttr];exact cv trivial
         refine aT aC λ_ TS TT _=>aH ?_;refine a8 h (λTU h=>?_) λTU h=>?_
         .exact bl TT [.bool false]
         .refine bd (TS _ (inl (aT aC λ_ TV TW _=>aH ?_)));refine a8 h (λTX h=>?_) λTX h=>?_
          .exact bl TW [.bool false]
          .exact bd (TV _ (inl (bl aC [.bool true])))
end Go.Proofs.Ytpdplcdnpaoceaa
