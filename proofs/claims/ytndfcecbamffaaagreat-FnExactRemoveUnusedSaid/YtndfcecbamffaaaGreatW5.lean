/- Part of a proof that a law returns true for every input. No condition. -/
import Derived.Test.YtndfcecbamffaaaGreatSl
namespace Go.Proofs.YtndfcecbamffaaaGreat
open Option Go.IntKind Nat Or
open Go Go.cW Go.mn
set_option maxRecDepth 100000
set_option maxHeartbeats 2800000
set_option linter.unusedSimpArgs false
set_option linter.unusedVariables false
theorem cv (fx:abI) (dM:List ResultVar) {f:FuncId} {fn:Func} {ins outs:abN} {r:j} (a6:az.P.funcs[f]? =some fn) (dO:aP)
 (CQ:∀Q:Exit->ah->Prop,(∀s,eg (cW.Ends az fx dM r outs) s->Q .ret s)->(∀s,eg (cW.Ends az fx dM r outs) s->Q .normal s)->bk az dO Q (an (num 0 ins))) (I:fm ⟨fn.ntmps,fx⟩ (fn.body.getD .skip)=some dO.strip:=by kernel_rfl) (J:fn.body=some (fn.body.getD .skip):=by rfl) (je:(fn.name== "runtime.NumGoroutine")=false:=by rfl) (a7:ins.length<=fn.ntmps:=by exact le_of_ble_eq_true rfl) (eJ:fn.results.toList=dM:=by rfl) (al:dO.plain=true:=by kernel_rfl):bx az f ins r outs:=
 bx.KR K5 dM (num 0 ins) a6 J je I a7 eJ rfl CQ al
theorem dy {P:Nat->Prop} (s:∀m,P m->P (m+1)) (z:P 0:=by intros;rename_i h;cases(show none=some _ from h)):∀n,P n:=λn=>Nat.rec z s n
def E5:=PLift.up (aa @Tn (aa @To (aa @Tp (aa @Tq (aa @Tr (aa @Ts (aa @Tt (aa @Tu (aa @Tv (aa @Tw (aa @Tx (aa @Ty (aa @Tz (aa @TA (aa @TB (aa @TC (aa @TD (aa @TE (aa @TF (aa @TG (aa @TH (aa @TI (aa @jR.eq_1 (aa @db.eq_1 (aa @aC.eq_1 (aa @ca.eq_1 (aa @cM.eq_1 (aa @ba.eq_1 (aa @jh.eq_1 (aa @g3.eq_1 (aa @hE.eq_1 (aa @cV.eq_1 (aa @hg.eq_1 (aa @kJ.eq_1 (aa @eC.eq_1 (aa @cG.eq_1 @di.eq_1))))))))))))))))))))))))))))))))))))
def X0:=PLift.up (aa SN.down E5.down)
def fI:=PLift.up (aa SO.down E5.down)
def hP:=PLift.up (aa SP.down E5.down)
theorem cx {F A:Prop} (f:F) (h:F->A:=by intro aY;(try simp only[hP.down,simprocAttr,aY,dg,eA,dd,d_,j.dF,j.shares]at bB⊢);exact bB):A:=h f
theorem wr {Q l ros k} (bW:abM) (ak:Q .normal (an bW)) (h:∀P:abM->Prop,P bW->cm az (an l) ros none (λ_ s=>P (fH k s)):=by
 intro P bB;simp only[X0.down,simprocAttr,dg,eA,dd,d_];(try simp only[hP.down,simprocAttr,dg,eA,dd,d_]at bB⊢);exact bB):bk az (.eK ros (some k)) Q (an l):=
 h3 (cA bW (h) ak)
theorem eY {Q l ros k} {bW:abM} (ak:Q .normal (an bW)) (h:∀P:abM->Prop,P bW->cm az (an l) ros none (λ_ s=>P (fH k s)):=by
 intro P bB;simp only[X0.down,simprocAttr,dg,eA,dd,d_];(try simp only[hP.down,simprocAttr,dg,eA,dd,d_]at bB⊢);exact bB):bk az (.eK ros (some k)) Q (an l):=
 h3 (cA bW (h) ak)
theorem E6 {Q l ros k g ds r} (ok:bx az g ds r []) (bW:abM) (ak:Q .normal (an bW)) (h:bx az g ds r []->∀P:abM->Prop,P bW->cm az (an l) ros none (λ_ s=>P (fH k s)):=by
 intro l0 P bB;(try simp only[X0.down,simprocAttr,dg,eA,dd,d_]);(first|refine dS l0 rfl rfl rfl rfl (inl (by rfl)) ?_|refine iE l0 rfl rfl rfl rfl (inl (by rfl)) ?_);simp only[X0.down,simprocAttr,dg,eA,dd,d_];(try simp only[hP.down,simprocAttr,dg,eA,dd,d_]at bB⊢);exact bB):bk az (.eK ros (some k)) Q (an l):=
 h3 (cA bW (h ok) ak)
theorem VX {Q l ros k g ds r} {F:Prop} (aY:F) (ok:bx az g ds r []) (bW:abM) (ak:Q .normal (an bW)) (h:bx az g ds r []->F->∀P:abM->Prop,P bW->cm az (an l) ros none (λ_ s=>P (fH k s)):=by
 intro l0 aY P bB;(try simp only[X0.down,simprocAttr,aY,dg,eA,dd,d_]);(first|refine dS l0 rfl rfl rfl rfl (inl (by rfl)) ?_|refine iE l0 rfl rfl rfl rfl (inl (by rfl)) ?_);simp only[X0.down,simprocAttr,aY,dg,eA,dd,d_];(try simp only[hP.down,simprocAttr,aY,dg,eA,dd,d_]at bB⊢);exact bB):bk az (.eK ros (some k)) Q (an l):=
 h3 (cA bW (h ok aY) ak)
theorem Lr {Q l ros k eo} {F:Prop} (aY:F) (bW:abM) (ak:Q .normal (an bW)) (h:F->∀P:abM->Prop,P bW->cm az (an l) ros (some []) (λacc s=>jX (o7 eo) 0 [] (acc.getD []).reverse=true/\P (fH k s)):=by
 intro aY P bB;simp only[fI.down,simprocAttr,aY,dg,eA,dd,d_];refine⟨n9 (by kernel_rfl),?_⟩;(try simp only[hP.down,simprocAttr,aY,dg,eA,dd,d_]at bB⊢);exact bB) (hl:eo.length=ros.length:=by rfl):bk az (.ie ros eo (some k)) Q (an l):=
 w7 hl (o_ bW (h aY) ak)
theorem ot {Q l ros k} {F:Prop} (aY:F) (bW:abM) (ak:Q .normal (an bW)) (h:F->∀P:abM->Prop,P bW->cm az (an l) ros none (λ_ s=>P (fH k s)):=by
 intro aY P bB;simp only[X0.down,simprocAttr,aY,dg,eA,dd,d_];(try simp only[hP.down,simprocAttr,aY,dg,eA,dd,d_]at bB⊢);exact bB):bk az (.eK ros (some k)) Q (an l):=
 h3 (cA bW (h aY) ak)
theorem ws {Q l ros k b} (bW:abM) (ak:bk az b Q (an bW)) (h:∀P:abM->Prop,P bW->cm az (an l) ros none (λ_ s=>P (fH k s)):=by
 intro P bB;simp only[X0.down,simprocAttr,dg,eA,dd,d_];(try simp only[hP.down,simprocAttr,dg,eA,dd,d_]at bB⊢);exact bB):bk az (.seq (.eK ros (some k)) b) Q (an l):=
 dm (cA bW (h) ak)
theorem aI {Q l ros k b} {bW:abM} (ak:bk az b Q (an bW)) (h:∀P:abM->Prop,P bW->cm az (an l) ros none (λ_ s=>P (fH k s)):=by
 intro P bB;simp only[X0.down,simprocAttr,dg,eA,dd,d_];(try simp only[hP.down,simprocAttr,dg,eA,dd,d_]at bB⊢);exact bB):bk az (.seq (.eK ros (some k)) b) Q (an l):=
 dm (cA bW (h) ak)
theorem bw {Q l ros k fx dM r} {bW:abM} (iQ:∀s,eg (cW.Ends az fx dM r []) s->Q .ret s) (ds:abN) (h:∀P:abM->Prop,P bW->cm az (an l) ros none (λ_ s=>P (fH k s)):=by
 intro P bB;simp only[X0.down,simprocAttr,dg,eA,dd,d_];(try simp only[hP.down,simprocAttr,dg,eA,dd,d_]at bB⊢);exact bB) (U:r=zo ds:=by cases j4 (by assumption);rfl) (R:dM.map (n3 az (an bW))=ds.map some:=by rfl) (aA:(dM.map h2).Nodup:=by decide):bk az (.seq (.eK ros (some k)) .ret) Q (an l):=
 ws bW (ep iQ ds U R aA) h
theorem et {Q l ros k b g ds r} (ok:bx az g ds r []) (bW:abM) (ak:bk az b Q (an bW)) (h:bx az g ds r []->∀P:abM->Prop,P bW->cm az (an l) ros none (λ_ s=>P (fH k s)):=by
 intro l0 P bB;(try simp only[X0.down,simprocAttr,dg,eA,dd,d_]);(first|refine dS l0 rfl rfl rfl rfl (inl (by rfl)) ?_|refine iE l0 rfl rfl rfl rfl (inl (by rfl)) ?_);simp only[X0.down,simprocAttr,dg,eA,dd,d_];(try simp only[hP.down,simprocAttr,dg,eA,dd,d_]at bB⊢);exact bB):bk az (.seq (.eK ros (some k)) b) Q (an l):=
 dm (cA bW (h ok) ak)
theorem hh {Q l ros k b g ds r} {F:Prop} (aY:F) (ok:bx az g ds r []) (bW:abM) (ak:bk az b Q (an bW)) (h:bx az g ds r []->F->∀P:abM->Prop,P bW->cm az (an l) ros none (λ_ s=>P (fH k s)):=by
 intro l0 aY P bB;(try simp only[X0.down,simprocAttr,aY,dg,eA,dd,d_]);(first|refine dS l0 rfl rfl rfl rfl (inl (by rfl)) ?_|refine iE l0 rfl rfl rfl rfl (inl (by rfl)) ?_);simp only[X0.down,simprocAttr,aY,dg,eA,dd,d_];(try simp only[hP.down,simprocAttr,aY,dg,eA,dd,d_]at bB⊢);exact bB):bk az (.seq (.eK ros (some k)) b) Q (an l):=
 dm (cA bW (h ok aY) ak)
theorem ri {Q l ros k b eo g ds r} {F:Prop} (aY:F) (ok:bx az g ds r []) (bW:abM) (ak:bk az b Q (an bW)) (h:bx az g ds r []->F->∀P:abM->Prop,P bW->cm az (an l) ros (some []) (λacc s=>jX (o7 eo) 0 [] (acc.getD []).reverse=true/\P (fH k s)):=by
 intro l0 aY P bB;(try simp only[fI.down,simprocAttr,aY,dg,eA,dd,d_]);(first|refine k7 l0 rfl rfl rfl rfl (inl (by rfl)) ?_|refine Db l0 rfl rfl rfl rfl (inl (by rfl)) ?_);simp only[fI.down,simprocAttr,aY,dg,eA,dd,d_];refine⟨n9 (by kernel_rfl),?_⟩;(try simp only[hP.down,simprocAttr,aY,dg,eA,dd,d_]at bB⊢);exact bB) (hl:eo.length=ros.length:=by rfl):bk az (.seq (.ie ros eo (some k)) b) Q (an l):=
 w8 hl (o_ bW (h ok aY) ak)
theorem VY {Q l ros k b eo} {F:Prop} (aY:F) (bW:abM) (ak:bk az b Q (an bW)) (h:F->∀P:abM->Prop,P bW->cm az (an l) ros (some []) (λacc s=>jX (o7 eo) 0 [] (acc.getD []).reverse=true/\P (fH k s)):=by
 intro aY P bB;simp only[fI.down,simprocAttr,aY,dg,eA,dd,d_];refine⟨n9 (by kernel_rfl),?_⟩;(try simp only[hP.down,simprocAttr,aY,dg,eA,dd,d_]at bB⊢);exact bB) (hl:eo.length=ros.length:=by rfl):bk az (.seq (.ie ros eo (some k)) b) Q (an l):=
 w8 hl (o_ bW (h aY) ak)
theorem dC {Q l ros k b} {F:Prop} (aY:F) (bW:abM) (ak:bk az b Q (an bW)) (h:F->∀P:abM->Prop,P bW->cm az (an l) ros none (λ_ s=>P (fH k s)):=by
 intro aY P bB;simp only[X0.down,simprocAttr,aY,dg,eA,dd,d_];(try simp only[hP.down,simprocAttr,aY,dg,eA,dd,d_]at bB⊢);exact bB):bk az (.seq (.eK ros (some k)) b) Q (an l):=
 dm (cA bW (h aY) ak)
theorem xX {Q l ros k b} {F:Prop} (aY:F) (bW:abM) (ak:bk az b Q (an bW)) (h:F->∀P:abM->Prop,P bW->cm az (an l) ros none (λ_ s=>P (fH k s)):=by
 intro aY P bB;simp only[X0.down,simprocAttr,aY,dg,eA,dd,d_,-Int.reduceNatCast'];(try simp only[hP.down,simprocAttr,aY,dg,eA,dd,d_,-Int.reduceNatCast']at bB⊢);exact bB):bk az (.seq (.eK ros (some k)) b) Q (an l):=
 dm (cA bW (h aY) ak)
theorem tb {Q l ros k b} (e:Bool) (bW:abM) (ak:bk az b Q (an bW)) (h:∀c,e=c->∀P:abM->Prop,P bW->cm az (an l) ros none (λ_ s=>P (fH k s)):=by
 intro c aj P bB;cases c;all_goals
  (try simp only[List.length_replicate]at aj);simp only[X0.down,simprocAttr,aj,dg,eA,dd,d_];(try simp only[hP.down,simprocAttr,aj,dg,eA,dd,d_]at bB⊢);exact bB):bk az (.seq (.eK ros (some k)) b) Q (an l):=
 dm (cA bW (h e rfl) ak)
theorem Ls {Q l ros k b} (e:Bool) {F:Prop} (aY:F) (bW:abM) (ak:bk az b Q (an bW)) (h:F->∀c,e=c->∀P:abM->Prop,P bW->cm az (an l) ros none (λ_ s=>P (fH k s)):=by
 intro aY c aj P bB;cases c;all_goals
  (try simp only[List.length_replicate]at aj);simp only[X0.down,simprocAttr,aj,aY,dg,eA,dd,d_];(try simp only[hP.down,simprocAttr,aj,aY,dg,eA,dd,d_]at bB⊢);exact bB):bk az (.seq (.eK ros (some k)) b) Q (an l):=
 dm (cA bW (h aY e rfl) ak)
def lo:=PLift.up (aa @List.length_append.{0} (aa @List.length_cons.{0} (aa @List.length_nil.{0} (aa @List.length_map.{0,0} @List.length_replicate.{0}))))
def ou:=PLift.up (aa (@uo az 60 59 1 1 [.aJ] rfl rfl rfl (by kernel_rfl)) (aa @q1 (aa @q2 (aa @fj (aa @iY (aa @List.nil_append.{0} (aa @List.cons_append.{0} (aa (@jy az 60 60 59 rfl rfl) (aa @jz (aa @jA (aa @jx (aa @all_nil (@jw _ di 1 (λ_=>rfl))))))))))))))
def pD:=PLift.up (aa @iF (aa @iG (aa @iH (aa @e1 (aa (@c2 _ aC aC (λ_=>hn _)) (aa (@c2 _ cG cM (λ_=>rh _)) (aa (@c2 _ aC aC (λ_=>hn _)) (@c2 _ cG cM (λ_=>rh _)))))))))
def vq:=PLift.up (aa @List.cons_append.{0} (aa @List.nil_append.{0} (aa @List.length_append.{0} (aa @List.length_cons.{0} (aa @List.length_nil.{0} (aa @List.length_map.{0,0} @List.length_replicate.{0}))))))
def vr:=PLift.up (aa @Sc (aa @R9 (aa @e1 (aa @R8 (aa (@c2 _ ba ba (λ_=>pB _)) (aa (@c2 _ cV cV (λ_=>rf _)) (@c2 _ kJ kJ (λ_=>T1 _))))))))
def vt:=PLift.up (aa (@zr az 62 [(22,0),(59,1),(9,2),(60,3),(60,4)] [.aJ,.aJ,(.str []),.aJ,.aJ] rfl rfl (by kernel_rfl)) (aa @q1 (aa @q2 (aa @fj (aa @iY (aa @List.nil_append.{0} (aa @List.cons_append.{0} (aa (@uo az 27 62 1 5 [(.agg [.aJ,.aJ,(.str []),.aJ,.aJ])] rfl rfl rfl (by kernel_rfl)) (aa (@jy az 27 27 62 rfl rfl) (aa @jz (aa @jA (aa @jx (aa @all_nil (@jw _ cG 5 (λ_=>rfl)))))))))))))))
def vu:=PLift.up (aa @iF (aa @iG (aa @iH (aa @e1 (aa (@c2 _ aC aC (λ_=>hn _)) (@c2 _ aC aC (λ_=>hn _)))))))
def AD:=PLift.up (aa @sv (aa @p_ (aa @k9 (aa @iF (aa @iG (aa @iH (aa @e1 (aa @or_true (aa @true_or (@c2 _ aC aC (λ_=>hn _)))))))))))
def AE:=PLift.up (aa @iF (aa @iG (aa @iH (aa @e1 (@c2 _ aC aC (λ_=>hn _))))))
def E7:=PLift.up (aa @sv (aa @p_ (aa @k9 (aa @iF (aa @iG (aa @iH (aa @e1 (aa @or_true (aa @true_or (@c2 _ db db (λ_=>EU _)))))))))))
def E8:=PLift.up (aa @iF (aa @iG (aa @iH (aa @e1 (aa (@c2 _ aC aC (λ_=>hn _)) (@c2 _ cM cM (λ_=>vp _)))))))
def E9:=PLift.up (aa @iF (aa @iG (aa @iH (aa @e1 (aa (@c2 _ cV cV (λ_=>rf _)) (aa (@c2 _ aC aC (λ_=>hn _)) (aa (@c2 _ ba ba (λ_=>pB _)) (aa (@c2 _ cV cV (λ_=>rf _)) (@c2 _ cV cV (λ_=>rf _))))))))))
def E_:=PLift.up (aa @ni (aa @nj (aa @iF (aa @iG (aa @iH (aa @e1 (aa (@c2 _ aC aC (λ_=>hn _)) (@c2 _ cG cM (λ_=>rh _)))))))))
def Fa:=PLift.up (aa (@ju _ aC (λ_=>s_ _)) @Az)
def Lt:=PLift.up (aa (@uo az 60 59 1 1 [.aJ] rfl rfl rfl (by kernel_rfl)) (aa @q1 (aa @q2 (aa @fj (aa @iY (aa @List.nil_append.{0} (aa @List.cons_append.{0} (aa (@jy az 60 60 59 rfl rfl) (aa @jz (aa @jA (aa @jx (aa @all_nil (aa (@jw _ di 1 (λ_=>rfl)) (aa @iF (aa @iG (aa @iH (aa @e1 (@c2 _ ba ba (λ_=>pB _)))))))))))))))))))
def Lu:=PLift.up (aa (@uo az 27 62 1 5 [(.agg [.aJ,.aJ,(.str []),.aJ,.aJ])] rfl rfl rfl (by kernel_rfl)) (aa @q1 (aa @q2 (aa @fj (aa @iY (aa @List.nil_append.{0} (aa @List.cons_append.{0} (aa (@jy az 27 27 62 rfl rfl) (aa @jz (aa @jA (aa @jx (aa @all_nil (@jw _ cG 5 (λ_=>rfl))))))))))))))
def Lv:=PLift.up (aa @Kr (aa (λs x h=> @Kq az s 60 59 x rfl h) (aa @Sf (aa @Se (aa @Sg (aa @Sb (aa @List.map_replicate.{0,0} (aa (λs y q=>(Dm az s 60 y q).1) (aa (λs y q=>(Dm az s 60 y q).2.1) (aa (λs y q=>(Dm az s 60 y q).2.2) @Sh))))))))))
def Lw:=PLift.up (aa @sv (aa @p_ (aa @k9 (aa @iF (aa @iG (aa @iH (aa @e1 (aa @or_true (aa @true_or (aa (@c2 _ aC aC (λ_=>hn _)) (aa (@c2 _ cM cM (λ_=>vp _)) (@c2 _ aC aC (λ_=>hn _)))))))))))))
def Lx:=PLift.up (aa (@zr az 62 [(22,0),(59,1),(9,2),(60,3),(60,4)] [.aJ,.aJ,(.str []),.aJ,.aJ] rfl rfl (by kernel_rfl)) (aa @q1 (aa @q2 (aa @fj (aa @iY (aa @List.nil_append.{0} (aa @List.cons_append.{0} (aa (@uo az 27 62 1 5 [(.agg [.aJ,.aJ,(.str []),.aJ,.aJ])] rfl rfl rfl (by kernel_rfl)) (aa (@jy az 27 27 62 rfl rfl) (aa @jz (aa @jA (aa @jx (aa @all_nil (aa (@jw _ cG 5 (λ_=>rfl)) (aa @iF (aa @iG (aa @iH (aa @e1 (aa (@c2 _ aC aC (λ_=>hn _)) (aa (@c2 _ ba ba (λ_=>pB _)) (aa (@c2 _ cV cV (λ_=>rf _)) (@c2 _ cV cV (λ_=>rf _)))))))))))))))))))))))
def Ly:=PLift.up (aa @Lc (aa @T3 (aa (@uo az 60 59 1 1 [.aJ] rfl rfl rfl (by kernel_rfl)) (aa @q1 (aa @q2 (aa @fj (aa @iY (aa @List.nil_append.{0} (aa @List.cons_append.{0} (aa (@jy az 60 60 59 rfl rfl) (aa @jz (aa @jA (aa @jx (aa @all_nil (@jw _ di 1 (λ_=>rfl))))))))))))))))
def Lz:=PLift.up (aa @p_ (aa @k9 (aa @iF (aa @iG (aa @iH (aa @e1 (aa @or_true (aa @true_or (@c2 _ ba ba (λ_=>pB _))))))))))
def LA:=PLift.up (aa @p_ (aa @k9 (aa @iF (aa @iG (aa @iH (aa @e1 (aa @or_true (aa @true_or (@c2 _ di cV (λ_=>ET _))))))))))
def LB:=PLift.up (aa @sv (aa @p_ (aa @k9 (aa @iF (aa @iG (aa @iH (aa @e1 (aa @or_true (aa @true_or (aa (@c2 _ aC aC (λ_=>hn _)) (@c2 _ cG cM (λ_=>rh _))))))))))))
def LC:=PLift.up (aa @iF (aa @iG (aa @iH (aa @e1 (aa (@c2 _ aC aC (λ_=>hn _)) (@c2 _ cG cM (λ_=>rh _)))))))
theorem LD (a0 ab r) (h:xf a0 ab=some r):bx az 24 [.slice (a0.map aC),.int .i64 ab] (.int .i64 r) []:=by
 refine cv [0] [.tmp 4] Tryz.func24 EV λcn aE cl=>aI ?_;refine aI ?_;refine aR aE λ_ hF eZ _=>aI ?_;refine bo h (λdf h=>?_) λdf h=>?_
 .exact bw eZ [.int .i64 (-1)]
 .exact bn (hF _ (inl (bw aE [.int .i64 (i64.wrap (ab-(a0.length:Int)))])))
theorem LF (a0 ab r) (h:uy a0 ab=some r):bx az 104 [.slice (a0.map hE),.int .i64 ab] (.int .i64 r) []:=by
 refine cv [0] [.tmp 4] Tryz.func104 T4 λcn aE cl=>aI ?_;refine aI ?_;refine aR aE λ_ hF eZ _=>aI ?_;refine bo h (λdf h=>?_) λdf h=>?_
 .exact bw eZ [.int .i64 (-1)]
 .exact bn (hF _ (inl (bw aE [.int .i64 (i64.wrap (ab-(a0.length:Int)))])))
theorem LG (a0 ab r) (h:xg a0 ab=some r):bx az 105 [.slice (a0.map hg),.int .i64 ab] (.int .i64 r) []:=by
 refine cv [0] [.tmp 4] Tryz.func105 T5 λcn aE cl=>aI ?_;refine aI ?_;refine aR aE λ_ hF eZ _=>aI ?_;refine bo h (λdf h=>?_) λdf h=>?_
 .exact bw eZ [.int .i64 (-1)]
 .refine bn (hF _ (inl (aR aE λ_ eM ek _=>aI ?_)));refine bP ek λtc _ dI g4 _=>?_;show bk az (.loop ?ov) _ _;have ow:∀n i1 fz,DH a0 n i1 fz=some r->c_ az ?ov tc (an [(0,.slice (a0.map hg)),(1,.int .i64 i1),(5,.int .i64 fz)]):=by
   refine dy λ_ ox i1 fz h=>dx dI λ_ c5 dJ fA=>aR dJ λ_ ea _ lh=>aI ?_;refine bo h (λoy h=>?_) λoy h=>?_
   .refine bn (ea _ (inl (aR dJ λ_ gM gG _=>bP gG λ_ j2 nC _ _=>?_)));obtain⟨af,jD,h⟩:=aO h;obtain⟨aH,gg,h⟩:=aO h;refine hh jD (LF af i1 _ gg) _ ?_;refine aI ?_;refine bo h (λmD h=>?_) λmD h=>?_
    .exact bw nC [.int .i64 (-1)]
    .refine bn (j2 _ (gM _ (inl (eY ?_))));exact c5 _ (inr ⟨_,cr rfl,ox aH (i64.wrap (fz+1)) h⟩)
   .exact dq (lh 0 _ (fA 0 _ (g4 _ (eM _ (inl (bw aE [.int .i64 i1]))))))
  exact eL h λn h=>ow n (i64.wrap (ab-(a0.length:Int))) 0 h
theorem VZ (a0 ab r) (h:xh a0 ab=some r):bx az 52 [g3 a0,.int .i64 ab] (.int .i64 r) []:=by
 refine cv [0] [.tmp 4] Tryz.func52 T6 λcn aE cl=>aI ?_;obtain⟨af,a1,h⟩:=aO h;refine et (LD a0.bs ab _ a1) _ ?_;refine aR aE λ_ fX cy aT=>aI ?_;refine bo h (λe6 h=>?_) λe6 h=>?_
 .exact bw cy [.int .i64 (-1)]
 .refine bn (fX _ (inl ?_));obtain⟨aH,iC,h⟩:=aO h;refine et (LF a0.Guard af _ iC) _ ?_;refine aR aE λ_ c5 dJ _=>aI ?_;refine bo h (λhG h=>?_) λhG h=>?_
  .exact bw dJ [.int .i64 (-1)]
  .refine bn (c5 _ (inl (aI ?_)));refine aR aE λ_ j2 nC _=>aI ?_;refine bo h (λgv h=>?_) λgv h=>?_
   .exact bw nC [.int .i64 (-1)]
   .refine bn (j2 _ (inl ?_));obtain⟨aM,nD,h⟩:=aO h;refine et (LG a0.bl (i64.wrap (aH-(a0.Name.length:Int))) _ nD) _ ?_;refine aR aE λ_ oz mE _=>aI ?_;refine bo h (λkK h=>?_) λkK h=>?_
    .exact bw mE [.int .i64 (-1)]
    .refine bn (oz _ (inl ?_));obtain⟨aT,km,h⟩:=aO h;refine et (LG a0.Next aM _ km) _ ?_;refine aR aE λ_ td AF _=>aI ?_;refine bo h (λFb h=>?_) λFb h=>?_
     .exact bw AF [.int .i64 (-1)]
     .exact bn (td _ (inl (bw aE [.int .i64 aT])))
theorem V0 (a0 ab r) (h:zI a0 ab=some r):bx az 25 [.slice (a0.map g3),.int .i64 ab] (.int .i64 r) []:=by
 refine cv [0] [.tmp 4] Tryz.func25 EW λcn aE cl=>aI ?_;refine aI ?_;refine aR aE λ_ hF eZ _=>aI ?_;refine bo h (λdf h=>?_) λdf h=>?_
 .exact bw eZ [.int .i64 (-1)]
 .refine bn (hF _ (inl (aR aE λ_ eM ek _=>aI ?_)));refine bP ek λtc _ dI g4 _=>?_;show bk az (.loop ?ov) _ _;have ow:∀n i1 fz,DI a0 n i1 fz=some r->c_ az ?ov tc (an [(0,.slice (a0.map g3)),(1,.int .i64 i1),(5,.int .i64 fz)]):=by
   refine dy λ_ ox i1 fz h=>dx dI λ_ c5 dJ fA=>aR dJ λ_ ea _ lh=>aI ?_;refine bo h (λoy h=>?_) λoy h=>?_
   .refine bn (ea _ (inl (aR dJ λ_ gM gG _=>bP gG λ_ j2 nC _ _=>?_)));obtain⟨af,jD,h⟩:=aO h;obtain⟨aH,gg,h⟩:=aO h;refine hh jD (VZ af i1 _ gg) _ ?_;refine aI ?_;refine bo h (λmD h=>?_) λmD h=>?_
    .exact bw nC [.int .i64 (-1)]
    .refine bn (j2 _ (gM _ (inl (eY ?_))));exact c5 _ (inr ⟨_,cr rfl,ox aH (i64.wrap (fz+1)) h⟩)
   .exact dq (lh 0 _ (fA 0 _ (g4 _ (eM _ (inl (bw aE [.int .i64 i1]))))))
  exact eL h λn h=>ow n (i64.wrap (ab-(a0.length:Int))) 0 h
theorem V1 (a0 ab r) (h:zJ a0 ab=some r):bx az 6 [jh a0,.int .i64 ab] (.int .i64 r) []:=by
 refine cv [0] [.tmp 4] Tryz.func6 fV λcn aE cl=>aI ?_;obtain⟨af,a1,h⟩:=aO h;refine et (LD a0.Start ab _ a1) _ ?_;refine aR aE λ_ fX cy _=>aI ?_;refine bo h (λe6 h=>?_) λe6 h=>?_
 .exact bw cy [.int .i64 (-1)]
 .refine bn (fX _ (inl ?_));obtain⟨aH,iC,h⟩:=aO h;refine et (V0 a0.aW af _ iC) _ ?_;refine aR aE λ_ c5 dJ _=>aI ?_;refine bo h (λhG h=>?_) λhG h=>?_
  .exact bw dJ [.int .i64 (-1)]
  .exact bn (c5 _ (inl (bw aE [.int .i64 aH])))
theorem LH (a0 r) (h:xi a0=some r):bx az 30 [.slice (a0.map aC)] (.ad 1 (r.map aC)) []:=by
 refine cv [0] [.tmp 2] Tryz.func30 T7 λcn aE cl=>aI ?_;obtain⟨LI,a1,h⟩:=aO h;refine xX (aa (rE a1) @List.map_replicate.{0,0}) [(0,.slice (a0.map aC)),(3,.ad 1 ((List.replicate (Int.toNat (a0.length:Int)) 0).map aC))] ?_;refine aR aE λ_ fX cy _=>ws [(0,.slice (a0.map aC)),(3,.ad 1 ((List.replicate (Int.toNat (a0.length:Int)) 0).map aC)),(4,.int .i64 0)] ?_;refine bP cy λhQ _ dN e6 _=>?_;show bk az (.loop ?gE) _ _;have g5:∀n b9 cF,DJ a0 n b9 cF=some r->c_ az ?gE hQ (an [(0,.slice (a0.map aC)),(3,.ad 1 (b9.map aC)),(4,.int .i64 cF)]):=by
  refine dy λ_ gH b9 cF h=>dx dN λ_ eM ek b1=>aR ek λ_ gI _ dB=>aI ?_;refine bo h (λho h=>?_) λho h=>?_
  .refine bn (gI _ (inl (aR ek λ_ ea fO _=>bP fO λ_ g6 _ _ _=>?_)));obtain⟨af,fq,h⟩:=aO h;obtain⟨aH,fs,h⟩:=aO h;refine h3 (cA [(0,.slice (a0.map aC)),(3,.ad 1 ((List.set b9 (Int.toNat cF) af).map aC)),(4,.int .i64 cF)] (λP bB=>?_) ?_)
   .simp only[X0.down,simprocAttr,fq,fs,cD fs,fj,dg];exact cx (aa fq (aa fs (aa (cD fs) @fj)))
   refine g6 _ (ea _ (inl (wr [(0,.slice (a0.map aC)),(3,.ad 1 ((List.set b9 (Int.toNat cF) af).map aC)),(4,.int .i64 (i64.wrap (cF+1)))] ?_)));exact eM _ (inr ⟨_,cr rfl,gH (List.set b9 (Int.toNat cF) af) (i64.wrap (cF+1)) h⟩)
  .exact dq (dB 0 _ (b1 0 _ (e6 _ (fX _ (inl (bw aE [.ad 1 (b9.map aC)]))))))
 exact eL h λn h=>g5 n (List.replicate (Int.toNat (a0.length:Int)) 0) 0 h
theorem V2 (a0 r) (h:xj a0=some r):bx az 153 [hE a0] (ba r) []:=by
 refine cv [0] [.cell 2 102] Tryz.func153 T8 λcn aE cl=>aI ?_;refine aI ?_;refine aI ?_;refine aI ?_;exact bw aE [ba (aG.mk a0.Kind a0.Value)]
theorem LJ (a0 r) (h:uz a0=some r):bx az 112 [.slice (a0.map hE)] (.ad 2 (r.map ba)) []:=by
 refine cv [0] [.tmp 2] Tryz.func112 T9 λcn aE cl=>aI ?_;obtain⟨xY,a1,h⟩:=aO h;refine xX (aa (rE a1) @List.map_replicate.{0,0}) [(0,.slice (a0.map hE)),(3,.ad 2 ((List.replicate (Int.toNat (a0.length:Int)) (aG.mk 0 0)).map ba))] ?_;refine aR aE λ_ fX cy _=>ws [(0,.slice (a0.map hE)),(3,.ad 2 ((List.replicate (Int.toNat (a0.length:Int)) (aG.mk 0 0)).map ba)),(4,.int .i64 0)] ?_;refine bP cy λhQ _ dN e6 _=>?_;show bk az (.loop ?gE) _ _;have g5:∀n b9 cF,DK a0 n b9 cF=some r->c_ az ?gE hQ (an [(0,.slice (a0.map hE)),(3,.ad 2 (b9.map ba)),(4,.int .i64 cF)]):=by
  refine dy λ_ gH b9 cF h=>dx dN λ_ eM ek b1=>aR ek λ_ gI _ dB=>aI ?_;refine bo h (λho h=>?_) λho h=>?_
  .refine bn (gI _ (inl (aR ek λ_ ea fO _=>bP fO λ_ g6 _ _ _=>?_)));obtain⟨af,fq,h⟩:=aO h;obtain⟨aH,fs,h⟩:=aO h;obtain⟨aM,dt,h⟩:=aO h;refine h3 (cA [(0,.slice (a0.map hE)),(3,.ad 2 ((List.set b9 (Int.toNat cF) aH).map ba)),(4,.int .i64 cF)] (λP bB=>?_) ?_)
   ·(try simp only[X0.down,simprocAttr,fq,dt,cD dt,fj,dg]);refine dS (V2 af _ fs) (hK:= ?_);simp only[X0.down,simprocAttr,fq,dt,cD dt,fj,dg];exact cx (aa fq (aa dt (aa (cD dt) @fj)))
   refine g6 _ (ea _ (inl (wr [(0,.slice (a0.map hE)),(3,.ad 2 ((List.set b9 (Int.toNat cF) aH).map ba)),(4,.int .i64 (i64.wrap (cF+1)))] ?_)));exact eM _ (inr ⟨_,cr rfl,gH (List.set b9 (Int.toNat cF) aH) (i64.wrap (cF+1)) h⟩)
  .exact dq (dB 0 _ (b1 0 _ (e6 _ (fX _ (inl (bw aE [.ad 2 (b9.map ba)]))))))
 exact eL h λn h=>g5 n (List.replicate (Int.toNat (a0.length:Int)) (aG.mk 0 0)) 0 h
theorem LK (a0 r) (h:xk a0=some r):bx az 113 [.slice (a0.map hg)] (.ad 1 (r.map di)) []:=by
 refine cv [0] [.tmp 2] Tryz.func113 T_ λcn aE cl=>aI ?_;obtain⟨xY,a1,h⟩:=aO h;refine xX (aa (rE a1) @List.map_replicate.{0,0}) [(0,.slice (a0.map hg)),(3,.ad 1 (List.replicate (Int.toNat (a0.length:Int)) .aJ))] ?_;refine aR aE λ_ fX cy _=>ws [(0,.slice (a0.map hg)),(3,.ad 1 (List.replicate (Int.toNat (a0.length:Int)) .aJ)),(4,.int .i64 0)] ?_;refine bP cy λhQ _ dN e6 _=>?_;show bk az (.loop ?gE) _ _;have g5:∀n b9 cF,DL a0 n b9 cF=some r->c_ az ?gE hQ (an [(0,.slice (a0.map hg)),(3,.ad 1 (b9.map di)),(4,.int .i64 cF)]):=by
  refine dy λ_ gH b9 cF h=>dx dN λ_ eM ek b1=>aR ek λ_ gI _ dB=>aI ?_;refine bo h (λho h=>?_) λho h=>?_
  .refine bn (gI _ (inl (aR ek λ_ ea fO _=>bP fO λ_ g6 _ _ _=>?_)));obtain⟨af,fq,h⟩:=aO h;obtain⟨aH,fs,h⟩:=aO h;obtain⟨aM,dt,h⟩:=aO h;refine h3 (cA [(0,.slice (a0.map hg)),(3,.ad 1 ((List.set b9 (Int.toNat cF) aH).map di)),(4,.int .i64 cF)] (λP bB=>?_) ?_)
   ·(try simp only[X0.down,simprocAttr,fq,dt,cD dt,fj,dg]);refine dS (LJ af _ fs) (hK:= ?_);simp only[X0.down,simprocAttr,fq,dt,cD dt,fj,dg];exact cx (aa fq (aa dt (aa (cD dt) @fj)))
   refine g6 _ (ea _ (inl (wr [(0,.slice (a0.map hg)),(3,.ad 1 ((List.set b9 (Int.toNat cF) aH).map di)),(4,.int .i64 (i64.wrap (cF+1)))] ?_)));exact eM _ (inr ⟨_,cr rfl,gH (List.set b9 (Int.toNat cF) aH) (i64.wrap (cF+1)) h⟩)
  .exact dq (dB 0 _ (b1 0 _ (e6 _ (fX _ (inl (bw aE [.ad 1 (b9.map di)]))))))
 obtain⟨n,h⟩:=lB h;exact lN (inr ⟨_,kD [] rfl (dh (t:=0) (d:=.slice (a0.map hg)) rfl (jv (t:=3) (d:=.ad 1 (List.replicate (Int.toNat (a0.length:Int)) .aJ)) (bb:=.ad 1 ((List.replicate (Int.toNat (a0.length:Int)) []).map di)) rfl rfl (J2 (u:=di) (z:=[]) (.gL _) _) (by decide) (dh (t:=4) (d:=.int .i64 0) rfl (kE)))),g5 n (List.replicate (Int.toNat (a0.length:Int)) []) 0 h⟩)
theorem V3 (a0 r) (h:xl a0=some r):bx az 60 [g3 a0] (cG r) []:=by
 refine cv [0] [.cell 2 62] Tryz.func60 Ua λcn aE cl=>aI ?_;refine aI ?_;obtain⟨af,b6,h⟩:=aO h;refine et (LH a0.bs _ b6) _ ?_;obtain⟨aH,bT,h⟩:=aO h;refine et (LJ a0.Guard _ bT) _ ?_;refine aI ?_;obtain⟨aM,iC,h⟩:=aO h;refine et (LK a0.bl _ iC) _ ?_;obtain⟨aT,pW,h⟩:=aO h;refine et (LK a0.Next _ pW) _ ?_;exact bw aE [cG (bc.mk af aH a0.Name aM aT)]
theorem V4 (a0 r) (h:zK a0=some r):bx az 31 [.slice (a0.map g3)] (.ad 5 (r.map cG)) []:=by
 refine cv [0] [.tmp 2] Tryz.func31 Ub λcn aE cl=>aI ?_;obtain⟨xY,a1,h⟩:=aO h;refine xX (aa (rE a1) @List.map_replicate.{0,0}) [(0,.slice (a0.map g3)),(3,.ad 5 (List.replicate (Int.toNat (a0.length:Int)) (.agg [.aJ,.aJ,(.str []),.aJ,.aJ])))] ?_;refine aR aE λ_ fX cy _=>ws [(0,.slice (a0.map g3)),(3,.ad 5 (List.replicate (Int.toNat (a0.length:Int)) (.agg [.aJ,.aJ,(.str []),.aJ,.aJ]))),(4,.int .i64 0)] ?_;refine bP cy λhQ _ dN e6 _=>?_;show bk az (.loop ?gE) _ _;have g5:∀n b9 cF,DM a0 n b9 cF=some r->c_ az ?gE hQ (an [(0,.slice (a0.map g3)),(3,.ad 5 (b9.map cG)),(4,.int .i64 cF)]):=by
  refine dy λ_ gH b9 cF h=>dx dN λ_ eM ek b1=>aR ek λ_ gI _ dB=>aI ?_;refine bo h (λho h=>?_) λho h=>?_
  .refine bn (gI _ (inl (aR ek λ_ ea fO _=>bP fO λ_ g6 _ _ _=>?_)));obtain⟨af,fq,h⟩:=aO h;obtain⟨aH,fs,h⟩:=aO h;obtain⟨aM,dt,h⟩:=aO h;refine h3 (cA [(0,.slice (a0.map g3)),(3,.ad 5 ((List.set b9 (Int.toNat cF) aH).map cG)),(4,.int .i64 cF)] (λP bB=>?_) ?_)
   ·(try simp only[X0.down,simprocAttr,fq,dt,cD dt,fj,dg]);refine dS (V3 af _ fs) (hK:= ?_);simp only[X0.down,simprocAttr,fq,dt,cD dt,fj,dg];exact cx (aa fq (aa dt (aa (cD dt) @fj)))
   refine g6 _ (ea _ (inl (wr [(0,.slice (a0.map g3)),(3,.ad 5 ((List.set b9 (Int.toNat cF) aH).map cG)),(4,.int .i64 (i64.wrap (cF+1)))] ?_)));exact eM _ (inr ⟨_,cr rfl,gH (List.set b9 (Int.toNat cF) aH) (i64.wrap (cF+1)) h⟩)
  .exact dq (dB 0 _ (b1 0 _ (e6 _ (fX _ (inl (bw aE [.ad 5 (b9.map cG)]))))))
 obtain⟨n,h⟩:=lB h;exact lN (inr ⟨_,kD [] rfl (dh (t:=0) (d:=.slice (a0.map g3)) rfl (jv (t:=3) (d:=.ad 5 (List.replicate (Int.toNat (a0.length:Int)) (.agg [.aJ,.aJ,(.str []),.aJ,.aJ]))) (bb:=.ad 5 ((List.replicate (Int.toNat (a0.length:Int)) (bc.mk [] [] ([]:nq) [] [])).map cG)) rfl rfl (J2 (u:=cG) (z:=(bc.mk [] [] ([]:nq) [] [])) (.agg (.cons (.gL _) (.cons (.gL _) (.cons (.refl _) (.cons (.gL _) (.cons (.gL _) (.nil))))))) _) (by decide) (dh (t:=4) (d:=.int .i64 0) rfl (kE)))),g5 n (List.replicate (Int.toNat (a0.length:Int)) (bc.mk [] [] ([]:nq) [] [])) 0 h⟩)
theorem AG (a0 r) (h:sJ a0=some r):bx az 8 [jh a0] (eC r) []:=by
 refine cv [0] [.cell 2 29] Tryz.func8 gE λcn aE cl=>aI ?_;refine aI ?_;refine aI ?_;obtain⟨af,cH,h⟩:=aO h;refine et (LH a0.Start _ cH) _ ?_;obtain⟨aH,bK,h⟩:=aO h;refine et (V4 a0.aW _ bK) _ ?_;exact bw aE [eC (bj.mk a0.a8 af aH)]
theorem rj (a0 ab bF r) (h:oa a0 ab bF=some r):bx az 53 [.int .i64 a0,.int .i64 ab,.int .i64 bF] (.bool r) []:=by
 refine cv [0,1,2] [.tmp 6] Tryz.func53 Uc λcn aE cl=>aI ?_;refine tb (decide (ab<=a0)) [(6,.bool ((decide (ab<=a0))&&(decide (a0<=bF))))] ?_;exact ep aE [.bool ((decide (ab<=a0))&&(decide (a0<=bF)))]
theorem V5 (a0 r) (h:zL a0=some r):bx az 106 [.slice (a0.map aC)] (.bool r) []:=by
 refine cv [0] [.tmp 2] Tryz.func106 Ud λcn aE cl=>aI ?_;refine aR aE λ_ cz bL aH=>aI ?_;refine bP bL λg7 _ cy c1 _=>?_;show bk az (.loop ?fV) _ _;have g8:∀n pg,xm a0 n pg=some r->c_ az ?fV g7 (an [(0,.slice (a0.map aC)),(3,.int .i64 pg)]):=by
  refine dy λ_ gN pg h=>dx cy λ_ fP dn bf=>aR dn λ_ eS _ bY=>aI ?_;refine bo h (λdL h=>?_) λdL h=>?_
  .refine bn (eS _ (inl (aR dn λ_ dP dI _=>bP dI λ_ c5 dJ _ _=>?_)));obtain⟨af,ew,h⟩:=aO h;obtain⟨aH,fk,h⟩:=aO h;refine hh ew (rj af 0 63 _ fk) _ ?_;refine bo h (λir h=>?_) λir h=>?_
   .exact bw dJ [.bool false]
   .refine bn (c5 _ (dP _ (inl (eY ?_))));exact fP _ (inr ⟨_,cr rfl,gN (i64.wrap (pg+1)) h⟩)
  .exact dq (bY 0 _ (bf 0 _ (c1 _ (cz _ (inl (bw aE [.bool true]))))))
 exact eL h λn h=>g8 n 0 h
theorem LL (a0 ab r) (h:zM a0 ab=some r):bx az 54 [.slice (a0.map aC),.int .i64 ab] (.bool r) []:=by
 refine cv [0,1] [.tmp 4] Tryz.func54 Ue λcn aE cl=>aI ?_;rcases gi h with⟨i9,h⟩|⟨i9,h⟩
 .obtain⟨af,b6,h⟩:=aO h;refine hh i9 (V5 a0 _ b6) _ ?_;exact ep aE [.bool af]
 .refine dC i9 _ ?_;exact ep aE [.bool false]
theorem V6 (a0 r) (h:zN a0=some r):bx az 107 [.slice (a0.map aC)] (.int .i64 r) []:=by
 refine cv [0] [.tmp 2] Tryz.func107 Uf λcn aE cl=>aI ?_;refine aR aE λ_ cz bL aH=>aI ?_;refine bo h (λc1 h=>?_) λc1 h=>?_
 .exact bw bL [.int .i64 0]
 .refine bn (cz _ (inl (aI ?_)));refine aR aE λ_ eM ek _=>aI ?_;refine bP ek λtc _ dI g4 _=>?_;show bk az (.loop ?ov) _ _;have ow:∀n ob ph,uA a0 n ob ph=some r->c_ az ?ov tc (an [(0,.slice (a0.map aC)),(3,.int .i64 ob),(4,.int .i64 ph)]):=by
   refine dy λ_ ox ob ph h=>dx dI λ_ c5 dJ fA=>aR dJ λ_ ea _ lh=>aI ?_;refine bo h (λoy h=>?_) λoy h=>?_
   .refine bn (ea _ (inl (aR dJ λ_ gM gG _=>bP gG λ_ j2 nC _ _=>aR nC λ_ oA mF _=>?_)));obtain⟨af,gg,h⟩:=aO h;obtain⟨aH,hR,h⟩:=aO h;refine hh gg (rj af 1 7 _ hR) _ ?_;refine bo h (λmD h=>?_) λmD h=>?_
    .exact bw mF [.int .i64 0]
    .refine bn (oA _ (inl (ot gg _ ?_)));refine j2 _ (gM _ (inl (eY ?_)));exact c5 _ (inr ⟨_,cr rfl,ox (i64.wrap (ob*(i64.wrap (af+1)))) (i64.wrap (ph+1)) h⟩)
   .refine dq (lh 0 _ (fA 0 _ (g4 _ (eM _ (inl (aR aE λ_ qn qo _=>aI ?_))))));refine bo h (λte h=>?_) λte h=>?_
    .exact bw qo [.int .i64 0]
    .exact bn (qn _ (inl (bw aE [.int .i64 ob])))
  exact eL h λn h=>ow n 1 0 h
theorem V7 (a0 ab r) (h:zO a0 ab=some r):bx az 148 [.ref (ba a0),.int .i64 ab] (.bool r) []:=by
 refine cv [0,1] [.tmp 4] Tryz.func148 Ug λcn aE cl=>aI ?_;refine aR aE λ_ cz bL aH=>aI ?_;refine bP bL λ_ fX cy _ _=>aI ?_;refine bo h (λe6 h=>?_) λe6 h=>?_
 .obtain⟨af,hY,h⟩:=aO h;refine et (rj a0.Value 0 63 _ hY) _ ?_;exact ep cy [.bool af]
 .refine aI ?_;refine bo h (λho h=>?_) λho h=>?_
  .obtain⟨aH,ew,h⟩:=aO h;refine et (rj a0.Value 0 (i64.wrap (ab-1)) _ ew) _ ?_;exact ep cy [.bool aH]
  .refine aI ?_;refine bo h (λir h=>?_) λir h=>?_
   .obtain⟨aM,dt,h⟩:=aO h;refine et (rj a0.Value 0 8 _ dt) _ ?_;exact ep cy [.bool aM]
   .refine aI ?_;refine bo h (λlp h=>?_) λlp h=>?_
    .exact bw cy [.bool (a0.Value==0)]
    .exact bn (fX _ (cz _ (inl (bw aE [.bool false]))))
theorem V8 (a0 r) (h:DP a0=some r):bx az 149 [.ref (ba a0)] (.int .i64 r) []:=by
 refine cv [0] [.tmp 2] Tryz.func149 Uh λcn aE cl=>aI ?_;refine aR aE λ_ cz bL _=>aI ?_;refine bP bL λ_ fX cy _ _=>aI ?_;refine bo h (λe6 h=>?_) λe6 h=>?_
 .exact bw cy [.int .i64 2]
 .refine aI ?_;refine bo h (λg4 h=>?_) λg4 h=>?_
  .exact bw cy [.int .i64 1]
  .exact bn (fX _ (cz _ (inl (bw aE [.int .i64 0]))))
theorem Fe (a0 ab bF r) (h:xn a0 ab bF=some r):bx az 108 [.slice (a0.map ba),.int .i64 ab,.int .i64 bF] (.bool r) []:=by
 refine cv [0,1,2] [.tmp 6] Tryz.func108 Ui λcn aE cl=>aI ?_;refine aR aE λ_ cz bL aH=>aI ?_;refine bo h (λc1 h=>?_) λc1 h=>?_
 .exact bw bL [.bool false]
 .refine bn (cz _ (inl (aI ?_)));refine aR aE λ_ eM ek _=>aI ?_;refine bP ek λtc _ dI g4 _=>?_;show bk az (.loop ?ov) _ _;have ow:∀n il pj,uB a0 ab n il pj=some r->c_ az ?ov tc (an [(0,.slice (a0.map ba)),(1,.int .i64 ab),(7,.int .i64 il),(8,.int .i64 pj)]):=by
   refine dy λ_ ox il pj h=>dx dI λ_ c5 dJ fA=>aR dJ λ_ ea _ lh=>aI ?_;refine bo h (λoy h=>?_) λoy h=>?_
   .refine bn (ea _ (inl (aR dJ λ_ gM gG _=>bP gG λ_ j2 nC _ _=>aR nC λ_ oA mF _=>?_)));rcases gi h with⟨lp,h⟩|⟨lp,h⟩
    .refine dC lp _ ?_;refine jg rfl ?_;exact bw mF [.bool false]
    .obtain⟨af,nD,h⟩:=aO h;obtain⟨aH,hp,h⟩:=aO h;refine hh (aa lp nD) (V7 af ab _ hp) _ ?_;refine bo h (λqp h=>?_) λqp h=>?_
     .exact bw mF [.bool false]
     .refine bn (oA _ (inl ?_));obtain⟨aM,jE,h⟩:=aO h;refine VX nD (V8 af _ jE) _ ?_;refine j2 _ (gM _ (inl (eY ?_)));exact c5 _ (inr ⟨_,cr rfl,ox (i64.wrap (il+(i64.wrap (aM-1)))) (i64.wrap (pj+1)) h⟩)
   .exact dq (lh 0 _ (fA 0 _ (g4 _ (eM _ (inl (bw aE [.bool (il==0)]))))))
  exact eL h λn h=>ow n 1 0 h
theorem vv (a0 ab r) (h:sK a0 ab=some r):bx az 109 [.slice (a0.map cV),.int .i64 ab] (.bool r) []:=by
 refine cv [0,1] [.tmp 4] Tryz.func109 Uj λcn aE cl=>aI ?_;refine aR aE λ_ cz bL aH=>aI ?_;refine bP bL λg7 _ cy c1 _=>?_;show bk az (.loop ?fV) _ _;have g8:∀n bd,xo a0 ab n bd=some r->c_ az ?fV g7 (an [(0,.slice (a0.map cV)),(1,.int .i64 ab),(5,.int .i64 bd)]):=by
  refine dy λ_ gN bd h=>dx cy λ_ fP dn bf=>aR dn λ_ eS _ bY=>aI ?_;refine bo h (λdL h=>?_) λdL h=>?_
  .refine bn (eS _ (inl (aR dn λ_ dP dI _=>bP dI λ_ c5 dJ _ _=>?_)));obtain⟨af,ew,h⟩:=aO h;obtain⟨aH,fk,h⟩:=aO h;refine hh ew (Fe af ab 60 _ fk) _ ?_;refine bo h (λir h=>?_) λir h=>?_
   .exact bw dJ [.bool false]
   .refine bn (c5 _ (dP _ (inl (eY ?_))));exact fP _ (inr ⟨_,cr rfl,gN (i64.wrap (bd+1)) h⟩)
  .exact dq (bY 0 _ (bf 0 _ (c1 _ (cz _ (inl (bw aE [.bool true]))))))
 exact eL h λn h=>g8 n 0 h
theorem Ff (a0 r) (h:xp a0=some r):bx az 163 [.int .u8 (a0.toNat:Int)] (.bool r) []:=by
 refine cv [0] [.tmp 2] Tryz.func163 Uk λcn aE cl=>aI ?_;refine tb (decide (97<=(a0.toNat:Int))) [(2,.bool ((decide (97<=(a0.toNat:Int)))&&(decide ((a0.toNat:Int)<=122))))] ?_;exact ep aE [.bool ((decide (97<=(a0.toNat:Int)))&&(decide ((a0.toNat:Int)<=122)))]
theorem V9 (a0 r) (h:DS a0=some r):bx az 164 [.int .u8 (a0.toNat:Int)] (.bool r) []:=by
 refine cv [0] [.tmp 2] Tryz.func164 Ul λcn aE cl=>aI ?_;refine tb (decide (48<=(a0.toNat:Int))) [(2,.bool ((decide (48<=(a0.toNat:Int)))&&(decide ((a0.toNat:Int)<=57))))] ?_;exact ep aE [.bool ((decide (48<=(a0.toNat:Int)))&&(decide ((a0.toNat:Int)<=57)))]
theorem LM (a0 r) (h:zP a0=some r):bx az 127 [.str a0] (.bool r) []:=by
 refine cv [0] [.tmp 2] Tryz.func127 Um λcn aE cl=>aI ?_;refine aR aE λ_ cz bL aH=>?_;rcases gi h with⟨c1,h⟩|⟨c1,h⟩
 .refine dC c1 _ ?_;refine jg rfl ?_;exact bw bL [.bool false]
 .rcases gi h with⟨e6,h⟩|⟨e6,h⟩
  .refine dC (aa c1 e6) _ ?_;refine jg rfl ?_;exact bw bL [.bool false]
  .obtain⟨af,hY,h⟩:=aO h;obtain⟨aH,iC,h⟩:=aO h;refine hh (aa c1 (aa e6 hY)) (Ff af _ iC) _ ?_;refine bo h (λho h=>?_) λho h=>?_
   .exact bw bL [.bool false]
   .refine bn (cz _ (inl (aR aE λ_ g6 nE _=>aI ?_)));refine bP nE λV_ _ gG ir _=>?_;show bk az (.loop ?mC) _ _;have mG:∀n fp,xq a0 n fp=some r->c_ az ?mC V_ (an [(0,.str a0),(3,.int .i64 fp)]):=by
     refine dy λ_ l1 fp h=>dx gG λ_ j2 nC ql=>aR nC λ_ oA _ s9=>aI ?_;refine bo h (λlp h=>?_) λlp h=>?_
     .refine bn (oA _ (inl (aR nC λ_ mH tf _=>bP tf λ_ vw Fg _ _=>?_)));obtain⟨aM,hq,h⟩:=aO h;obtain⟨aT,mI,h⟩:=aO h;rcases gi h with⟨pE,h⟩|⟨pE,h⟩
      .obtain⟨bf,jE,h⟩:=aO h;refine dm (cA [(0,.str a0),(3,.int .i64 fp),(34,.bool (!bf))] (λP bB=>?_) ?_)
       ·(try simp only[X0.down,simprocAttr,hq,(h4 pE)]);refine dS (Ff aM _ mI) (hK:= ?_);simp only[X0.down,simprocAttr,hq,(h4 pE)];refine iE (V9 aM _ jE) (hK:= ?_);simp only[X0.down,simprocAttr,hq,(h4 pE)];exact cx (aa hq (h4 pE))
       refine bo h (λte h=>?_) λte h=>?_
       .exact bw Fg [.bool false]
       .refine bn (vw _ (mH _ (inl (eY ?_))));exact j2 _ (inr ⟨_,cr rfl,l1 (i64.wrap (fp+1)) h⟩)
      .refine hh (aa hq (da pE)) (Ff aM _ mI) _ ?_;refine o8 rfl ?_;refine bn (vw _ (mH _ (inl (eY ?_))));exact j2 _ (inr ⟨_,cr rfl,l1 (i64.wrap (fp+1)) h⟩)
     .exact dq (s9 0 _ (ql 0 _ (ir _ (g6 _ (inl (bw aE [.bool true]))))))
    exact eL h λn h=>mG n 0 h
theorem LN (a0 r) (h:zQ a0=some r):bx az 88 [.str a0] (.bool r) []:=by
 refine cv [0] [.tmp 2] Tryz.func88 Un λcn aE cl=>aI ?_;obtain⟨af,a1,h⟩:=aO h;refine dm (cA [(2,.bool (af&&(!(a0==([116,97,117]:nq)))))] (λP bB=>?_) ?_)
 .rcases Bool.eq_false_or_eq_true (af)with kv|kv
  ·(try simp only[X0.down,simprocAttr,kv]);refine dS (LM a0 _ a1) (hK:= ?_);simp only[X0.down,simprocAttr,kv];exact cx kv
  ·(try simp only[X0.down,simprocAttr,kv]);refine dS (LM a0 _ a1) (hK:= ?_);simp only[X0.down,simprocAttr,kv];exact cx kv
 exact ep aE [.bool (af&&(!(a0==([116,97,117]:nq))))]
theorem Wa (a0 ab r) (h:zR a0 ab=some r):bx az 55 [.ref (cM a0),.int .i64 ab] (.bool r) []:=by
 refine cv [0,1] [.tmp 4] Tryz.func55 Uq λcn aE cl=>aI ?_;refine aR aE λ_ cz bL aH=>?_;obtain⟨af,b6,h⟩:=aO h;refine et (V6 a0.bs _ b6) _ ?_;refine bo h (λdf h=>?_) λdf h=>?_
 .exact bw bL [.bool false]
 .refine bn (cz _ (inl (aI ?_)));refine aR aE λ_ gI i2 _=>?_;obtain⟨aH,ka,h⟩:=aO h;refine dm (cA [(0,.ref (cM a0)),(5,.int .i64 (i64.wrap (ab+(a0.bs.length:Int)))),(34,.bool ((!aH)||((a0.Next.length:Int) !=ab)))] (λP bB=>?_) ?_)
  .rcases Bool.eq_false_or_eq_true (aH)with tg|tg
   ·(try simp only[X0.down,simprocAttr,tg]);refine dS (Fe a0.Guard (i64.wrap (ab+(a0.bs.length:Int))) 60 _ ka) (hK:= ?_);simp only[X0.down,simprocAttr,tg];exact cx tg
   ·(try simp only[X0.down,simprocAttr,tg]);refine dS (Fe a0.Guard (i64.wrap (ab+(a0.bs.length:Int))) 60 _ ka) (hK:= ?_);simp only[X0.down,simprocAttr,tg];exact cx tg
  refine bo h (λhG h=>?_) λhG h=>?_
  .exact bw i2 [.bool false]
  .refine bn (gI _ (inl (aR aE λ_ gM gG _=>?_)));rcases gi h with⟨lq,h⟩|⟨lq,h⟩
   .rcases gi h with⟨gv,h⟩|⟨gv,h⟩
    .refine dC (aa lq gv) _ ?_;refine jg rfl ?_;exact bw gG [.bool false]
    .refine dC (aa lq gv) _ ?_;refine bo h (λgw h=>?_) λgw h=>?_
     .exact bw gG [.bool false]
     .refine bn (gM _ (inl ?_));obtain⟨aM,hq,h⟩:=aO h;rcases gi h with⟨kK,h⟩|⟨kK,h⟩
      .obtain⟨aT,Fh,h⟩:=aO h;refine dm (cA [(4,.bool aT)] (λP bB=>?_) ?_)
       ·(try simp only[X0.down,simprocAttr,kK]);refine dS (vv a0.bl (i64.wrap (ab+(a0.bs.length:Int))) _ hq) (hK:= ?_);simp only[X0.down,simprocAttr,kK];refine iE (vv a0.Next (i64.wrap (ab+(a0.bs.length:Int))) _ Fh) (hK:= ?_);simp only[X0.down,simprocAttr,kK];exact cx kK
       exact ep aE [.bool aT]
      .refine hh kK (vv a0.bl (i64.wrap (ab+(a0.bs.length:Int))) _ hq) _ ?_;exact ep aE [.bool false]
   .obtain⟨bf,jE,h⟩:=aO h;rcases gi h with⟨te,h⟩|⟨te,h⟩
    .refine hh (aa lq (h4 te)) (LN a0.Name _ jE) _ ?_;refine jg rfl ?_;exact bw gG [.bool false]
    .refine hh (aa lq (da te)) (LN a0.Name _ jE) _ ?_;refine bo h (λWb h=>?_) λWb h=>?_
     .exact bw gG [.bool false]
     .refine bn (gM _ (inl ?_));obtain⟨bY,jF,h⟩:=aO h;rcases gi h with⟨kL,h⟩|⟨kL,h⟩
      .obtain⟨b1,pF,h⟩:=aO h;refine dm (cA [(4,.bool b1)] (λP bB=>?_) ?_)
       ·(try simp only[X0.down,simprocAttr,kL]);refine dS (vv a0.bl (i64.wrap (ab+(a0.bs.length:Int))) _ jF) (hK:= ?_);simp only[X0.down,simprocAttr,kL];refine iE (vv a0.Next (i64.wrap (ab+(a0.bs.length:Int))) _ pF) (hK:= ?_);simp only[X0.down,simprocAttr,kL];exact cx kL
       exact ep aE [.bool b1]
      .refine hh kL (vv a0.bl (i64.wrap (ab+(a0.bs.length:Int))) _ jF) _ ?_;exact ep aE [.bool false]
theorem Wc (a0 r) (h:zS a0=some r):bx az 26 [.ref (ca a0)] (.bool r) []:=by
 refine cv [0] [.tmp 2] Tryz.func26 xW λcn aE cl=>aI ?_;refine aR aE λ_ cz bL aH=>?_;obtain⟨af,b6,h⟩:=aO h;rcases gi h with⟨df,h⟩|⟨df,h⟩
 .refine ri (h4 df) (rj a0.a8 0 21 _ b6) _ ?_;refine jg rfl ?_;exact bw bL [.bool false]
 .obtain⟨aH,bK,h⟩:=aO h;refine w8 rfl (o_ [(0,.ref (ca a0)),(29,.bool ((!aH)||(decide (60<(a0.aW.length:Int)))))] (λP bB=>?_) ?_)
  .rcases Bool.eq_false_or_eq_true (aH)with jG|jG
   ·(try simp only[fI.down,simprocAttr,(da df),jG]);refine k7 (rj a0.a8 0 21 _ b6) (hK:= ?_);simp only[fI.down,simprocAttr,(da df),jG];refine Db (LL a0.Start a0.a8 _ bK) (hK:= ?_);simp only[fI.down,simprocAttr,(da df),jG];refine⟨n9 (by kernel_rfl),?_⟩;exact cx (aa (da df) jG)
   ·(try simp only[fI.down,simprocAttr,(da df),jG]);refine k7 (rj a0.a8 0 21 _ b6) (hK:= ?_);simp only[fI.down,simprocAttr,(da df),jG];refine Db (LL a0.Start a0.a8 _ bK) (hK:= ?_);simp only[fI.down,simprocAttr,(da df),jG];refine⟨n9 (by kernel_rfl),?_⟩;exact cx (aa (da df) jG)
  refine bo h (λg4 h=>?_) λg4 h=>?_
  .exact bw bL [.bool false]
  .refine bn (cz _ (inl (aR aE λ_ ea fO _=>aI ?_)));refine bP fO λWd _ l3 oy _=>?_;show bk az (.loop ?mC) _ _;have mG:∀n fp,xr a0 n fp=some r->c_ az ?mC Wd (an [(0,.ref (ca a0)),(3,.int .i64 fp)]):=by
    refine dy λ_ l1 fp h=>dx l3 λ_ gM gG gA=>aR gG λ_ j2 _ ql=>aI ?_;refine bo h (λgv h=>?_) λgv h=>?_
    .refine bn (j2 _ (inl (aR gG λ_ xZ th _=>bP th λ_ mH tf _ _=>?_)));obtain⟨aM,hp,h⟩:=aO h;obtain⟨aT,hq,h⟩:=aO h;refine ri hp (Wa aM a0.a8 _ hq) _ ?_;refine bo h (λkK h=>?_) λkK h=>?_
     .exact bw tf [.bool false]
     .refine bn (mH _ (xZ _ (inl (eY ?_))));exact gM _ (inr ⟨_,cr rfl,l1 (i64.wrap (fp+1)) h⟩)
    .exact dq (ql 0 _ (gA 0 _ (oy _ (ea _ (inl (bw aE [.bool true]))))))
   exact eL h λn h=>mG n 0 h
theorem Fi (a0 ab r) (h:uE a0 ab=some r):bx az 99 [.slice (a0.map ba),.ad 1 (ab.map db)] (.tuple []) [.hole,.ad 1 (r.map db)]:=by
 refine cv [0,1] [] Tryz.func99 Ur λcn aE cl=>aI ?_;refine bP aE λCL _ bL gz aH=>?_;show bk az (.loop ?y5) _ _;have We:∀n kG lT,sL a0 n kG lT=some r->c_ az ?y5 CL (an [(0,.slice (a0.map ba)),(1,.ad 1 (kG.map db)),(4,.int .i64 lT)]):=by
  refine dy λgy Wf kG lT h=>dx bL λWg hF eZ aM=>aR eZ λ_ fX _ aT=>aI ?_;refine bo h (λe6 h=>?_) λe6 h=>?_
  .refine bn (fX _ (inl ?_));show bk az (.seq _ ?Wh) _ _;have LO:∀uC uD,zT (sL a0 gy) a0 uC uD=some r->bk az ?Wh Wg (an [(0,.slice (a0.map ba)),(1,.ad 1 (uC.map db)),(4,.int .i64 uD)]):=by
    intro uC uD h;refine eY ?_;exact hF _ (inr ⟨_,cr rfl,Wf uC (i64.wrap (uD+1)) h⟩)
   refine aR eZ λ_ eM ek _=>bP ek λ_ dP _ _ _=>?_;obtain⟨af,pW,h⟩:=aO h;refine Ls (af.Kind==1) pW [(0,.slice (a0.map ba)),(1,.ad 1 (kG.map db)),(4,.int .i64 lT),(26,.bool ((af.Kind==1)&&(decide (af.Value<(kG.length:Int)))))] ?_;refine bo h (λhG h=>?_) λhG h=>?_
   .obtain⟨aH,fq,h⟩:=aO h;refine h3 (cA [(0,.slice (a0.map ba)),(1,.ad 1 ((List.set kG (Int.toNat af.Value) true).map db)),(4,.int .i64 lT)] (λP bB=>?_) ?_)
    .simp only[X0.down,simprocAttr,pW,fq,cD fq,fj,dg];exact cx (aa pW (aa fq (aa (cD fq) @fj)))
    exact dP _ (eM _ (inr ⟨_,cr rfl,LO (List.set kG (Int.toNat af.Value) true) lT h⟩))
   .exact bn (dP _ (eM _ (inr ⟨_,cr rfl,LO kG lT h⟩)))
  .exact dq (aT 0 _ (aM 0 _ (gz _ (cl _ (inl (qY [] rfl (by cases j4 h;rfl) (by decide) (sw (q4 (sx (by cases j4 h;rfl) rfl rfl rfl (sy))))))))))
 exact eL h λn h=>We n ab 0 h
theorem Wi (a0 r) (h:zW a0=some r):bx az 50 [.ref (ca a0)] (.ad 1 (r.map db)) []:=by
 refine cv [0] [.tmp 2] Tryz.func50 EX λcn aE cl=>aI ?_;obtain⟨Wj,a1,h⟩:=aO h;refine xX (aa (rE a1) @List.map_replicate.{0,0}) [(0,.ref (ca a0)),(3,.ad 1 ((List.replicate (Int.toNat a0.a8) false).map db))] ?_;refine aR aE λ_ fX cy aT=>ws [(0,.ref (ca a0)),(3,.ad 1 ((List.replicate (Int.toNat a0.a8) false).map db)),(4,.int .i64 0)] ?_;refine bP cy λhQ _ dN e6 bY=>?_;show bk az (.loop ?gE) _ _;have g5:∀n b9 cF,sN a0 n b9 cF=some r->c_ az ?gE hQ (an [(0,.ref (ca a0)),(3,.ad 1 (b9.map db)),(4,.int .i64 cF)]):=by
  refine dy λhL gH b9 cF h=>dx dN λ_ eM ek b1=>aR ek λ_ gI _ dB=>aI ?_;refine bo h (λho h=>?_) λho h=>?_
  .refine bn (gI _ (inl (aR ek λ_ ea fO _=>bP fO λ_ g6 nE _ _=>?_)));obtain⟨af,fq,h⟩:=aO h;obtain⟨aH,fs,h⟩:=aO h;refine dm (cA [(0,.ref (ca a0)),(3,.ad 1 (aH.map db)),(4,.int .i64 cF)] (λP bB=>?_) ?_)
   ·(try simp only[X0.down,simprocAttr,fq]);refine k8 [⟨.slice (af.Guard.map ba),false,_,.hole⟩,⟨.h 3 [],true,_,_⟩] (Fi af.Guard b9 _ fs) rfl rfl rfl (by simp only[X0.down,simprocAttr,fq,E7.down]) rfl rfl (inl rfl) ?_;simp only[X0.down,simprocAttr,fq,jZ];exact cx fq
   refine aI ?_;refine bP nE λFj _ rk gv _=>?_;show bk az (.loop ?ta) _ _;have Wk:∀n pk nm j1,sM (sN a0 hL) a0 n pk nm j1=some r->c_ az ?ta Fj (an [(0,.ref (ca a0)),(3,.ad 1 (pk.map db)),(4,.int .i64 nm),(5,.int .i64 j1)]):=by
    refine dy λ_ Wl pk nm j1 h=>dx rk λ_ xZ th kl=>aR th λ_ mH _ vn=>?_;obtain⟨aM,hp,h⟩:=aO h;refine dC hp _ ?_;refine bo h (λqp h=>?_) λqp h=>?_
    .refine bn (mH _ (inl (aR th λ_ ti x0 _=>bP x0 λ_ qn _ _ _=>?_)));obtain⟨aT,km,h⟩:=aO h;obtain⟨bf,tj,h⟩:=aO h;refine h3 (cA [(0,.ref (ca a0)),(3,.ad 1 (bf.map db)),(4,.int .i64 nm),(5,.int .i64 j1)] (λP bB=>?_) ?_)
     ·(try simp only[X0.down,simprocAttr,hp,km]);refine k8 [⟨.slice (aT.map ba),false,_,.hole⟩,⟨.h 3 [],true,_,_⟩] (Fi aT pk _ tj) rfl rfl rfl (by simp only[X0.down,simprocAttr,hp,km,E7.down]) rfl rfl (inl rfl) ?_;simp only[X0.down,simprocAttr,hp,km,jZ];exact cx (aa hp km)
     refine qn _ (ti _ (inl (eY ?_)));exact xZ _ (inr ⟨_,cr rfl,Wl bf nm (i64.wrap (j1+1)) h⟩)
    .refine dq (vn 2 _ (kl 2 _ (gv _ (g6 _ (ea _ (inl (eY ?_)))))));exact eM _ (inr ⟨_,cr rfl,gH pk (i64.wrap (nm+1)) h⟩)
   exact eL h λn h=>Wk n aH cF 0 h
  .refine dq (dB 0 _ (b1 0 _ (e6 _ (fX _ (inl (aR aE λ_ n30 Fk _=>aI ?_))))));refine bP Fk λFl _ x1 kL _=>?_;show bk az (.loop ?AB) _ _;have Wm:∀n pr qg,ld a0 n pr qg=some r->c_ az ?AB Fl (an [(0,.ref (ca a0)),(3,.ad 1 (pr.map db)),(6,.int .i64 qg)]):=by
    refine dy λtk Wn pr qg h=>dx x1 λ_ n33 tl Fm=>aR tl λ_ n34 _ Fo=>aI ?_;refine bo h (λiL h=>?_) λiL h=>?_
    .refine bn (n34 _ (inl (aR tl λ_ n37 x2 _=>bP x2 λ_ n38 vx _ _=>aI ?_)));refine bP vx λFp _ x3 Fq _=>?_;show bk az (.loop ?EX) _ _;have Wo:∀n pn po qf,pq (ld a0 tk) a0 n pn po qf=some r->c_ az ?EX Fp (an [(0,.ref (ca a0)),(3,.ad 1 (pn.map db)),(6,.int .i64 po),(7,.int .i64 qf)]):=by
      refine dy λFs Wp pn po qf h=>dx x3 λ_ n41 x4 Ft=>aR x4 λ_ n42 _ Wq=>aI ?_;refine bo h (λFu h=>?_) λFu h=>?_
      .refine bn (n42 _ (inl (aR x4 λ_ n45 Fv _=>bP Fv λ_ n46 Wr _ _=>aI ?_)));refine bP Wr λWs _ Wt Wu _=>?_;show bk az (.loop ?E0) _ _;have Wv:∀n mo mq lV lW,q_ (ld a0 tk) (pq (ld a0 tk) a0 Fs) a0 n mo mq lV lW=some r->c_ az ?E0 Ws (an [(0,.ref (ca a0)),(3,.ad 1 (mo.map db)),(6,.int .i64 mq),(7,.int .i64 lV),(8,.int .i64 lW)]):=by
        refine dy λWw Wx mo mq lV lW h=>dx Wt λWy n49 LP Wz=>aR LP λ_ Fw _ WA=>aI ?_;refine bo h (λFx h=>?_) λFx h=>?_
        .refine bn (Fw _ (inl ?_));show bk az (.seq _ ?E1) _ _;have LQ:∀uF uG uH uI,zU (ld a0 tk) (pq (ld a0 tk) a0 Fs) (q_ (ld a0 tk) (pq (ld a0 tk) a0 Fs) a0 Ww) a0 uF uG uH uI=some r->bk az ?E1 Wy (an [(0,.ref (ca a0)),(3,.ad 1 (uF.map db)),(6,.int .i64 uG),(7,.int .i64 uH),(8,.int .i64 uI)]):=by
          intro uF uG uH uI h;refine eY ?_;exact n49 _ (inr ⟨_,cr rfl,Wx uF uG uH (i64.wrap (uI+1)) h⟩)
         refine aR LP λ_ n53 vy _=>bP vy λ_ LR _ _ _=>?_;obtain⟨bY,LS,h⟩:=aO h;refine dC (aa LS (cD LS)) _ ?_;refine bo h (λWB h=>?_) λWB h=>?_
         .obtain⟨b1,lr,h⟩:=aO h;obtain⟨dB,pG,h⟩:=aO h;obtain⟨dr,Fy,h⟩:=aO h;refine h3 (cA [(0,.ref (ca a0)),(3,.ad 1 (dr.map db)),(6,.int .i64 mq),(7,.int .i64 lV),(8,.int .i64 lW)] (λP bB=>?_) ?_)
          ·(try simp only[X0.down,simprocAttr,lr,pG]);refine k8 [⟨.slice (dB.map ba),false,_,.hole⟩,⟨.h 3 [],true,_,_⟩] (Fi dB mo _ Fy) rfl rfl rfl (by simp only[X0.down,simprocAttr,lr,pG,E7.down]) rfl rfl (inl rfl) ?_;simp only[X0.down,simprocAttr,lr,pG,jZ];exact cx (aa lr pG)
          exact LR _ (n53 _ (inr ⟨_,cr rfl,LQ dr mq lV lW h⟩))
         .exact bn (LR _ (n53 _ (inr ⟨_,cr rfl,LQ mo mq lV lW h⟩)))
        .refine dq (WA 8 _ (Wz 8 _ (Wu _ (n46 _ (n45 _ (inl (eY ?_)))))));exact n41 _ (inr ⟨_,cr rfl,Wp mo mq (i64.wrap (lV+1)) h⟩)
       exact eL h λn h=>Wv n pn po qf 0 h
      .refine dq (Wq 6 _ (Ft 6 _ (Fq _ (n38 _ (n37 _ (inl (eY ?_)))))));exact n33 _ (inr ⟨_,cr rfl,Wn pn (i64.wrap (po+1)) h⟩)
     exact eL h λn h=>Wo n pr qg 0 h
    .exact dq (Fo 4 _ (Fm 4 _ (kL _ (n30 _ (inl (bw aE [.ad 1 (pr.map db)]))))))
   exact eL h λn h=>Wm n b9 0 h
 exact eL h λn h=>g5 n (List.replicate (Int.toNat a0.a8) false) 0 h
theorem LU (a0 ab r) (h:pv a0 ab=some r):bx az 29 [.slice (a0.map db),.bool ab] (.ad 1 (r.map aC)) []:=by
 refine cv [0,1] [.tmp 4] Tryz.func29 EY λcn aE cl=>aI ?_;refine dC (show∀s,ef az s 22 0 []=some (.ad 1 [],s)from λs=>by kernel_rfl) _ ?_;refine aR aE λ_ hF eZ _=>aI ?_;refine bP eZ λoB _ dn df _=>?_;show bk az (.loop ?gE) _ _;have g5:∀n cw gF,pt a0 ab n cw gF=some r->c_ az ?gE oB (an [(0,.slice (a0.map db)),(1,.bool ab),(5,.ad 1 (cw.map aC)),(6,.int .i64 gF)]):=by
  refine dy λhL gH cw gF h=>dx dn λhQ eS dN bY=>aR dN λ_ eM _ b1=>aI ?_;refine bo h (λg4 h=>?_) λg4 h=>?_
  .refine bn (eM _ (inl ?_));show bk az (.seq _ ?ta) _ _;have tm:∀j1 uJ,xt (pt a0 ab hL) a0 ab j1 uJ=some r->bk az ?ta hQ (an [(0,.slice (a0.map db)),(1,.bool ab),(5,.ad 1 (j1.map aC)),(6,.int .i64 uJ)]):=by
    intro j1 uJ h;refine eY ?_;exact eS _ (inr ⟨_,cr rfl,gH j1 (i64.wrap (uJ+1)) h⟩)
   refine aR dN λ_ c5 dJ _=>bP dJ λ_ g6 _ _ _=>?_;obtain⟨af,fq,h⟩:=aO h;refine dC fq _ ?_;refine bo h (λkM h=>?_) λkM h=>?_
   .obtain⟨LI,jD,h⟩:=aO h;(try simp only[lo.down,Nat.zero_add,Nat.add_zero,reduceAdd]at jD);refine ot (aa (show∀s,ef az s 22 1 [(0,.int .i64 gF)]=some (.ad 1 [.int .i64 gF],s)from λs=>by kernel_rfl) (aa (@jy az 22 22 2 rfl rfl) (aa @jz (aa @jA (aa @iY (aa @jx (aa @all_nil (aa jD (@jw _ aC 1 λ_=>rfl))))))))) [(0,.slice (a0.map db)),(1,.bool ab),(5,.ad 1 ((cw++[gF]).map aC)),(6,.int .i64 gF)] ?_;exact g6 _ (c5 _ (inr ⟨_,cr rfl,tm (cw++[gF]) gF h⟩))
   .exact bn (g6 _ (c5 _ (inr ⟨_,cr rfl,tm cw gF h⟩)))
  .exact dq (b1 0 _ (bY 0 _ (df _ (hF _ (inl (bw aE [.ad 1 (cw.map aC)]))))))
 exact eL h λn h=>g5 n [] 0 h
theorem WC (a0 r) (h:zX a0=some r):bx az 57 [.slice (a0.map aC)] (.ad 1 (r.map aC)) []:=by
 refine cv [0] [.tmp 2] Tryz.func57 Us λcn aE cl=>aI ?_;obtain⟨HM,a1,h⟩:=aO h;(try simp only[lo.down,Nat.zero_add,Nat.add_zero,reduceAdd]at a1);refine dC (aa (show∀s,ef az s 22 0 []=some (.ad 1 [],s)from λs=>by kernel_rfl) (aa (@jy az 22 22 2 rfl rfl) (aa @jz (aa @jA (aa @iY (aa @jx (aa @all_nil (aa a1 (@jw _ aC 1 λ_=>rfl))))))))) _ ?_;exact ep aE [.ad 1 (a0.map aC)]
theorem LV (a0 r) (h:xv a0=some r):bx az 111 [.slice (a0.map ba)] (.ad 2 (r.map ba)) []:=by
 refine cv [0] [.tmp 2] Tryz.func111 Ut λcn aE cl=>aI ?_;obtain⟨HM,a1,h⟩:=aO h;(try simp only[lo.down,Nat.zero_add,Nat.add_zero,reduceAdd]at a1);refine dC (aa (show∀s,ef az s 59 0 []=some (.ad 2 [],s)from λs=>by kernel_rfl) (aa (@jy az 59 59 102 rfl rfl) (aa @jz (aa @jA (aa @iY (aa @jx (aa @all_nil (aa a1 (@jw _ ba 2 λ_=>rfl))))))))) _ ?_;exact ep aE [.ad 2 (a0.map ba)]
theorem Fz (a0 ab bF r) (h:sP a0 ab bF=some r):bx az 59 [.slice (a0.map ba),.slice (ab.map db),.slice (bF.map aC)] (.ad 2 (r.map ba)) []:=by
 refine cv [0,1,2] [.tmp 6] Tryz.func59 EZ λcn aE cl=>aI ?_;obtain⟨af,a1,h⟩:=aO h;refine et (LV a0 _ a1) _ ?_;refine aR aE λ_ fX cy aT=>aI ?_;refine bP cy λhQ _ dN e6 _=>?_;show bk az (.loop ?gE) _ _;have g5:∀n jB gf,sO ab bF n jB gf=some r->c_ az ?gE hQ (an [(1,.slice (ab.map db)),(2,.slice (bF.map aC)),(7,.ad 2 (jB.map ba)),(8,.int .i64 gf)]):=by
  refine dy λhL gH jB gf h=>dx dN λtn eM ek b1=>aR ek λ_ gI _ dB=>aI ?_;refine bo h (λho h=>?_) λho h=>?_
  .refine bn (gI _ (inl ?_));show bk az (.seq _ ?ta) _ _;have tm:∀uL uM,uK (sO ab bF hL) ab bF uL uM=some r->bk az ?ta tn (an [(1,.slice (ab.map db)),(2,.slice (bF.map aC)),(7,.ad 2 (uL.map ba)),(8,.int .i64 uM)]):=by
    intro uL uM h;refine eY ?_;exact eM _ (inr ⟨_,cr rfl,gH uL (i64.wrap (uM+1)) h⟩)
   refine aR ek λ_ ea fO _=>bP fO λ_ hr _ _ _=>?_;obtain⟨aM,dt,h⟩:=aO h;rcases gi h with⟨gv,h⟩|⟨gv,h⟩
   .rcases gi h with⟨lp,h⟩|⟨lp,h⟩
    .obtain⟨aT,hR,h⟩:=aO h;refine dC (aa dt (aa (cD dt) (aa gv (aa lp hR)))) _ ?_;refine bo h (λmD h=>?_) λmD h=>?_
     .obtain⟨bf,hq,h⟩:=aO h;refine h3 (cA [(1,.slice (ab.map db)),(2,.slice (bF.map aC)),(7,.ad 2 ((List.set jB (Int.toNat gf) (aG.mk 0 bf)).map ba)),(8,.int .i64 gf)] (λP bB=>?_) ?_)
      .simp only[X0.down,simprocAttr,dt,cD dt,hq,(show∀s,gm az s 102 [(0,.int .i64 0),(1,.int .i64 bf)]=some (.agg [.int .i64 0,.int .i64 bf],s)from λs=>by kernel_rfl),fj,dg];exact cx (aa dt (aa (cD dt) (aa hq (aa (show∀s,gm az s 102 [(0,.int .i64 0),(1,.int .i64 bf)]=some (.agg [.int .i64 0,.int .i64 bf],s)from λs=>by kernel_rfl) @fj))))
      exact hr _ (ea _ (inr ⟨_,cr rfl,tm (List.set jB (Int.toNat gf) (aG.mk 0 bf)) gf h⟩))
     .exact bn (hr _ (ea _ (inr ⟨_,cr rfl,tm jB gf h⟩)))
    .refine dC (aa dt (aa (cD dt) (aa gv lp))) _ ?_;refine o8 rfl ?_;exact bn (hr _ (ea _ (inr ⟨_,cr rfl,tm jB gf h⟩)))
   .refine dC (aa dt (aa (cD dt) gv)) _ ?_;refine o8 rfl ?_;exact bn (hr _ (ea _ (inr ⟨_,cr rfl,tm jB gf h⟩)))
  .exact dq (dB 0 _ (b1 0 _ (e6 _ (fX _ (inl (bw aE [.ad 2 (jB.map ba)]))))))
 exact eL h λn h=>g5 n af 0 h
theorem FA (a0 ab r) (h:sR a0 ab=some r):bx az 58 [.slice (a0.map ba),.slice (ab.map db)] (.ad 2 (r.map ba)) []:=by
 refine cv [0,1] [.tmp 4] Tryz.func58 Uu λcn aE cl=>aI ?_;obtain⟨af,a1,h⟩:=aO h;refine et (LV a0 _ a1) _ ?_;refine aR aE λ_ fX cy aT=>aI ?_;refine bP cy λhQ _ dN e6 _=>?_;show bk az (.loop ?gE) _ _;have g5:∀n cw gF,nn ab n cw gF=some r->c_ az ?gE hQ (an [(1,.slice (ab.map db)),(5,.ad 2 (cw.map ba)),(6,.int .i64 gF)]):=by
  refine dy λhL gH cw gF h=>dx dN λtn eM ek b1=>aR ek λ_ gI _ dB=>aI ?_;refine bo h (λho h=>?_) λho h=>?_
  .refine bn (gI _ (inl ?_));show bk az (.seq _ ?WD) _ _;have FB:∀uO uP,uN (nn ab hL) ab uO uP=some r->bk az ?WD tn (an [(1,.slice (ab.map db)),(5,.ad 2 (uO.map ba)),(6,.int .i64 uP)]):=by
    intro uO uP h;refine eY ?_;exact eM _ (inr ⟨_,cr rfl,gH uO (i64.wrap (uP+1)) h⟩)
   refine aR ek λ_ ea fO _=>bP fO λ_ hr l3 oy _=>aR l3 λ_ gM _ gA=>?_;obtain⟨aH,dt,h⟩:=aO h;refine dC (aa dt (cD dt)) _ ?_;refine bo h (λgv h=>?_) λgv h=>?_
   .exact dq (gA 1 _ (oy _ (ea _ (inr ⟨_,cr rfl,FB cw gF h⟩))))
   .refine bn (gM _ (inl (aI ?_)));refine aR l3 λ_ mH tf _=>aI ?_;refine bP tf λFC _ mE vz _=>?_;show bk az (.loop ?EY) _ _;have FD:∀n eX h6 kH mr,sQ (nn ab hL) ab n eX h6 kH mr=some r->c_ az ?EY FC (an [(1,.slice (ab.map db)),(5,.ad 2 (eX.map ba)),(6,.int .i64 h6),(7,.int .i64 kH),(8,.int .i64 mr)]):=by
     refine dy λFE FF eX h6 kH mr h=>dx mE λWE tp qq qm=>aR qq λ_ ti _ AH=>?_;rcases gi h with⟨x5,h⟩|⟨x5,h⟩
     .obtain⟨aM,km,h⟩:=aO h;refine dC (aa x5 (aa km (cD km))) _ ?_;refine bo h (λoC h=>?_) λoC h=>?_
      .refine bn (ti _ (inl ?_));show bk az (.seq _ ?WG) _ _;have LW:∀uQ uR uS uT,zY (nn ab hL) (sQ (nn ab hL) ab FE) ab uQ uR uS uT=some r->bk az ?WG WE (an [(1,.slice (ab.map db)),(5,.ad 2 (uQ.map ba)),(6,.int .i64 uR),(7,.int .i64 uS),(8,.int .i64 uT)]):=by
        intro uQ uR uS uT h;refine eY ?_;exact tp _ (inr ⟨_,cr rfl,FF uQ uR uS (i64.wrap (uT+1)) h⟩)
       refine aR qq λ_ vA x6 _=>bP x6 λ_ n30 _ _ _=>?_;obtain⟨aT,WH,h⟩:=aO h;refine dC WH _ ?_;refine bo h (λWI h=>?_) λWI h=>?_
       .refine eY ?_;exact n30 _ (vA _ (inr ⟨_,cr rfl,LW eX h6 (i64.wrap (kH+1)) mr h⟩))
       .exact bn (n30 _ (vA _ (inr ⟨_,cr rfl,LW eX h6 kH mr h⟩)))
      .refine dq (AH 2 _ (qm 2 _ (vz _ (mH _ (inl (h3 (cA [(1,.slice (ab.map db)),(5,.ad 2 ((List.set eX (Int.toNat h6) (aG.mk aM.Kind (i64.wrap (aM.Value-kH)))).map ba)),(6,.int .i64 h6)] (λP bB=>?_) ?_)))))))
       .simp only[X0.down,simprocAttr,km,cD km,fj,dg];exact cx (aa km (aa (cD km) @fj))
       exact hr _ (ea _ (inr ⟨_,cr rfl,FB (List.set eX (Int.toNat h6) (aG.mk aM.Kind (i64.wrap (aM.Value-kH)))) h6 h⟩))
     .refine dC x5 _ ?_;refine o8 rfl ?_;refine dq (AH 2 _ (qm 2 _ (vz _ (mH _ (inl ?_)))));obtain⟨bf,qs,h⟩:=aO h;refine h3 (cA [(1,.slice (ab.map db)),(5,.ad 2 ((List.set eX (Int.toNat h6) (aG.mk bf.Kind (i64.wrap (bf.Value-kH)))).map ba)),(6,.int .i64 h6)] (λP bB=>?_) ?_)
      .simp only[X0.down,simprocAttr,qs,cD qs,fj,dg];exact cx (aa qs (aa (cD qs) @fj))
      exact hr _ (ea _ (inr ⟨_,cr rfl,FB (List.set eX (Int.toNat h6) (aG.mk bf.Kind (i64.wrap (bf.Value-kH)))) h6 h⟩))
    exact eL h λn h=>FD n cw gF 0 0 h
  .exact dq (dB 0 _ (b1 0 _ (e6 _ (fX _ (inl (bw aE [.ad 2 (cw.map ba)]))))))
 exact eL h λn h=>g5 n af 0 h
theorem WJ (a0 ab r) (h:uX a0 ab=some r):bx az 28 [.ref (ca a0),.slice (ab.map db)] (eC r) []:=by
 refine cv [0,1] [.cell 4 29] Tryz.func28 Uv λcn aE cl=>aI ?_;obtain⟨af,a1,h⟩:=aO h;refine et (LU ab false _ a1) _ ?_;refine dC (show∀s,gm az s 29 [(0,.int .i64 (af.length:Int))]=some (.agg [.int .i64 (af.length:Int),.aJ,.aJ],s)from λs=>by kernel_rfl) _ ?_;refine aR aE λ_ fP dn bf=>aI ?_;refine bP dn λtn _ ek r1 b1=>?_;show bk az (.loop ?E2) _ _;have FG:∀n lk nw,uW a0 ab af n lk nw=some r->c_ az ?E2 tn (an [(0,.ref (ca a0)),(1,.slice (ab.map db)),(4,.aD (.agg [.int .i64 0,.aJ,.aJ])),(5,.ad 1 (af.map aC)),(6,.aD (.agg [.int .i64 (af.length:Int),.ad 1 (lk.map aC),.aJ])),(7,.int .i64 nw)]):=by
  refine dy λ_ FH lk nw h=>dx ek λ_ gI i2 dB=>aR i2 λ_ dP _ dr=>aI ?_;refine bo h (λkN h=>?_) λkN h=>?_
  .refine bn (dP _ (inl (aR i2 λ_ g6 nE oe=>bP nE λ_ hr _ _ e2=>?_)));obtain⟨aH,fs,h⟩:=aO h;obtain⟨aM,dt,h⟩:=aO h;obtain⟨xY,jD,h⟩:=aO h;(try simp only[lo.down,Nat.zero_add,Nat.add_zero,reduceAdd]at jD);refine Lr (aa fs (aa (cD fs) (aa dt (aa (show∀s,ef az s 22 1 [(0,.int .i64 aM)]=some (.ad 1 [.int .i64 aM],s)from λs=>by kernel_rfl) (aa (@jy az 22 22 2 rfl rfl) (aa @jz (aa @jA (aa @iY (aa @jx (aa @all_nil (aa jD (@jw _ aC 1 λ_=>rfl)))))))))))) [(0,.ref (ca a0)),(1,.slice (ab.map db)),(4,.aD (.agg [.int .i64 0,.aJ,.aJ])),(5,.ad 1 (af.map aC)),(6,.aD (.agg [.int .i64 (af.length:Int),.ad 1 ((lk++[aM]).map aC),.aJ])),(7,.int .i64 nw)] ?_;refine hr _ (g6 _ (inl (wr [(0,.ref (ca a0)),(1,.slice (ab.map db)),(4,.aD (.agg [.int .i64 0,.aJ,.aJ])),(5,.ad 1 (af.map aC)),(6,.aD (.agg [.int .i64 (af.length:Int),.ad 1 ((lk++[aM]).map aC),.aJ])),(7,.int .i64 (i64.wrap (nw+1)))] ?_)));exact gI _ (inr ⟨_,cr rfl,FH (lk++[aM]) (i64.wrap (nw+1)) h⟩)
  .refine dq (dr 0 _ (dB 0 _ (r1 _ (fP _ (inl (aR aE λ_ mH tf _=>aI ?_))))));refine bP tf λFC _ mE vz _=>?_;show bk az (.loop ?EW) _ _;have WK:∀n ns nt nu,nv a0 ab af n ns nt nu=some r->c_ az ?EW FC (an [(0,.ref (ca a0)),(1,.slice (ab.map db)),(4,.aD (.agg [.int .i64 0,.aJ,.aJ])),(5,.ad 1 (af.map aC)),(6,.aD (.agg [.int .i64 (af.length:Int),.ad 1 (ns.map aC),.ad 5 (nt.map cG)])),(8,.int .i64 nu)]):=by
    refine dy λLX WL ns nt nu h=>dx mE λ_ tp qq qm=>aR qq λ_ ti _ AH=>aI ?_;refine bo h (λx5 h=>?_) λx5 h=>?_
    .refine bn (ti _ (inl (aR qq λ_ x7 WM _=>bP WM λ_ td AF _ _=>?_)));obtain⟨aT,vB,h⟩:=aO h;refine dC vB _ ?_;obtain⟨bf,jF,h⟩:=aO h;refine ri (aa (@zr az 62 [(22,0),(59,1),(9,2),(60,3),(60,4)] [.aJ,.aJ,(.str []),.aJ,.aJ] rfl rfl (by kernel_rfl)) (aa @q1 (aa @q2 (aa @fj (aa @iY (aa @List.nil_append.{0} @List.cons_append.{0})))))) (WC aT.bs _ jF) _ ?_;obtain⟨bY,pF,h⟩:=aO h;obtain⟨b1,WN,h⟩:=aO h;refine w8 rfl (o_ [(0,.ref (ca a0)),(1,.slice (ab.map db)),(4,.aD (.agg [.int .i64 0,.aJ,.aJ])),(5,.ad 1 (af.map aC)),(6,.aD (.agg [.int .i64 (af.length:Int),.ad 1 (ns.map aC),.ad 5 (nt.map cG)])),(8,.int .i64 nu),(9,.ref (cM aT)),(10,.aD (.agg [.ad 1 (bf.map aC),.ad 2 (b1.map ba),.str aT.Name,.aJ,.aJ]))] (λP bB=>?_) ?_)
     ·(try simp only[fI.down,simprocAttr]);refine k7 (Fz aT.Guard ab a0.Start _ pF) (hK:= ?_);simp only[fI.down,simprocAttr];refine k7 (FA bY ab _ WN) rfl rfl (by simp only[fI.down,simprocAttr,iF,iG,iH,e1, @c2 _ ba ba (λ_=>pB _)]<;>rfl) rfl (inr (ju (λ_=>xU _) _)) ?_;simp only[fI.down,simprocAttr];refine⟨n9 (by kernel_rfl),?_⟩;exact cx trivial
     refine aR AF λ_ n35 FI _=>aI ?_;refine bP FI λWO _ x2 WQ _=>?_;show bk az (.loop ?WR) _ _;have WS:∀n mu mv mw lj nr,uV (nv a0 ab af LX) a0 ab af aT bf b1 n mu mv mw lj nr=some r->c_ az ?WR WO (an [(0,.ref (ca a0)),(1,.slice (ab.map db)),(4,.aD (.agg [.int .i64 0,.aJ,.aJ])),(5,.ad 1 (af.map aC)),(6,.aD (.agg [.int .i64 (af.length:Int),.ad 1 (mu.map aC),.ad 5 (mv.map cG)])),(8,.int .i64 mw),(9,.ref (cM aT)),(10,.aD (.agg [.ad 1 (bf.map aC),.ad 2 (b1.map ba),.str aT.Name,.ad 1 (lj.map di),.aJ])),(11,.int .i64 nr)]):=by
      refine dy λ_ WT mu mv mw lj nr h=>dx x2 λ_ n38 vx FJ=>aR vx λ_ n39 _ WU=>aI ?_;refine bo h (λWV h=>?_) λWV h=>?_
      .refine bn (n39 _ (inl (aR vx λ_ n42 WW _=>bP WW λ_ n43 _ _ _=>?_)));obtain⟨dB,pH,h⟩:=aO h;obtain⟨dr,AJ,h⟩:=aO h;obtain⟨fA,tq,h⟩:=aO h;obtain⟨abk,rl,h⟩:=aO h;(try simp only[vq.down,Nat.zero_add,Nat.add_zero,reduceAdd]at rl);refine w7 rfl (o_ [(0,.ref (ca a0)),(1,.slice (ab.map db)),(4,.aD (.agg [.int .i64 0,.aJ,.aJ])),(5,.ad 1 (af.map aC)),(6,.aD (.agg [.int .i64 (af.length:Int),.ad 1 (mu.map aC),.ad 5 (mv.map cG)])),(8,.int .i64 mw),(9,.ref (cM aT)),(10,.aD (.agg [.ad 1 (bf.map aC),.ad 2 (b1.map ba),.str aT.Name,.ad 1 ((lj++[fA]).map di),.aJ])),(11,.int .i64 nr)] (λP bB=>?_) ?_)
       ·(try simp only[fI.down,simprocAttr,pH,ou.down,hD,dd,rl]);refine k7 (Fz dB ab a0.Start _ AJ) (hK:= ?_);simp only[fI.down,simprocAttr,pH,ou.down,hD,dd,rl];refine k7 (FA dr ab _ tq) rfl rfl (by simp only[fI.down,simprocAttr,pH,Lt.down,hD,dd,rl]<;>rfl) rfl (inr (ju (λ_=>xU _) _)) ?_;simp only[fI.down,simprocAttr,pH,ou.down,hD,dd,rl];refine⟨n9 (by kernel_rfl),?_⟩;(try simp only[hP.down,simprocAttr,pH,ou.down,hD,dd,rl]at bB⊢);exact bB
       refine n43 _ (n42 _ (inl (wr [(0,.ref (ca a0)),(1,.slice (ab.map db)),(4,.aD (.agg [.int .i64 0,.aJ,.aJ])),(5,.ad 1 (af.map aC)),(6,.aD (.agg [.int .i64 (af.length:Int),.ad 1 (mu.map aC),.ad 5 (mv.map cG)])),(8,.int .i64 mw),(9,.ref (cM aT)),(10,.aD (.agg [.ad 1 (bf.map aC),.ad 2 (b1.map ba),.str aT.Name,.ad 1 ((lj++[fA]).map di),.aJ])),(11,.int .i64 (i64.wrap (nr+1)))] ?_)));exact n38 _ (inr ⟨_,cr rfl,WT mu mv mw (lj++[fA]) (i64.wrap (nr+1)) h⟩)
      .refine dq (WU 4 _ (FJ 4 _ (WQ _ (n35 _ (inl (aR AF λ_ Fw WX _=>aI ?_))))));refine bP WX λWY _ WZ Fx _=>?_;show bk az (.loop ?EZ) _ _;have W0:∀n lX lf lY lZ lg np,uU (nv a0 ab af LX) a0 ab af aT bf b1 n lX lf lY lZ lg np=some r->c_ az ?EZ WY (an [(0,.ref (ca a0)),(1,.slice (ab.map db)),(4,.aD (.agg [.int .i64 0,.aJ,.aJ])),(5,.ad 1 (af.map aC)),(6,.aD (.agg [.int .i64 (af.length:Int),.ad 1 (lX.map aC),.ad 5 (lf.map cG)])),(8,.int .i64 lY),(9,.ref (cM aT)),(10,.aD (.agg [.ad 1 (bf.map aC),.ad 2 (b1.map ba),.str aT.Name,.ad 1 (lZ.map di),.ad 1 (lg.map di)])),(12,.int .i64 np)]):=by
        refine dy λ_ W1 lX lf lY lZ lg np h=>dx WZ λ_ n53 vy W2=>aR vy λ_ n54 _ W3=>aI ?_;refine bo h (λW4 h=>?_) λW4 h=>?_
        .refine bn (n54 _ (inl (aR vy λ_ W5 W6 _=>bP W6 λ_ W7 _ _ _=>?_)));obtain⟨lh,lr,h⟩:=aO h;obtain⟨oe,pG,h⟩:=aO h;obtain⟨e2,Fy,h⟩:=aO h;obtain⟨gA,W8,h⟩:=aO h;obtain⟨Wj,vC,h⟩:=aO h;(try simp only[vq.down,Nat.zero_add,Nat.add_zero,reduceAdd]at vC);refine w7 rfl (o_ [(0,.ref (ca a0)),(1,.slice (ab.map db)),(4,.aD (.agg [.int .i64 0,.aJ,.aJ])),(5,.ad 1 (af.map aC)),(6,.aD (.agg [.int .i64 (af.length:Int),.ad 1 (lX.map aC),.ad 5 (lf.map cG)])),(8,.int .i64 lY),(9,.ref (cM aT)),(10,.aD (.agg [.ad 1 (bf.map aC),.ad 2 (b1.map ba),.str aT.Name,.ad 1 (lZ.map di),.ad 1 ((lg++[gA]).map di)])),(12,.int .i64 np)] (λP bB=>?_) ?_)
         ·(try simp only[fI.down,simprocAttr,lr,cD lr,pG,ou.down,hD,dd,vC]);refine k7 (Fz oe ab a0.Start _ Fy) (hK:= ?_);simp only[fI.down,simprocAttr,lr,cD lr,pG,ou.down,hD,dd,vC];refine k7 (FA e2 ab _ W8) rfl rfl (by simp only[fI.down,simprocAttr,lr,cD lr,pG,Lt.down,hD,dd,vC]<;>rfl) rfl (inr (ju (λ_=>xU _) _)) ?_;simp only[fI.down,simprocAttr,lr,cD lr,pG,ou.down,hD,dd,vC];refine⟨n9 (by kernel_rfl),?_⟩;(try simp only[hP.down,simprocAttr,lr,cD lr,pG,ou.down,hD,dd,vC]at bB⊢);exact bB
         refine W7 _ (W5 _ (inl (wr [(0,.ref (ca a0)),(1,.slice (ab.map db)),(4,.aD (.agg [.int .i64 0,.aJ,.aJ])),(5,.ad 1 (af.map aC)),(6,.aD (.agg [.int .i64 (af.length:Int),.ad 1 (lX.map aC),.ad 5 (lf.map cG)])),(8,.int .i64 lY),(9,.ref (cM aT)),(10,.aD (.agg [.ad 1 (bf.map aC),.ad 2 (b1.map ba),.str aT.Name,.ad 1 (lZ.map di),.ad 1 ((lg++[gA]).map di)])),(12,.int .i64 (i64.wrap (np+1)))] ?_)));exact n53 _ (inr ⟨_,cr rfl,W1 lX lf lY lZ (lg++[gA]) (i64.wrap (np+1)) h⟩)
        .refine dq (W3 6 _ (W2 6 _ (Fx _ (Fw _ (inl ?_)))));obtain⟨abl,FK,h⟩:=aO h;(try simp only[vq.down,Nat.zero_add,Nat.add_zero,reduceAdd]at FK);refine h3 (cA [(0,.ref (ca a0)),(1,.slice (ab.map db)),(4,.aD (.agg [.int .i64 0,.aJ,.aJ])),(5,.ad 1 (af.map aC)),(6,.aD (.agg [.int .i64 (af.length:Int),.ad 1 (lX.map aC),.ad 5 ((lf++[(bc.mk bf b1 aT.Name lZ lg)]).map cG)])),(8,.int .i64 lY)] (λP bB=>?_) ?_)
         .simp only[X0.down,simprocAttr,Lu.down,hD,dd,FK];(try simp only[hP.down,simprocAttr,Lu.down,hD,dd,FK]at bB⊢);exact bB
         refine td _ (x7 _ (inl (wr [(0,.ref (ca a0)),(1,.slice (ab.map db)),(4,.aD (.agg [.int .i64 0,.aJ,.aJ])),(5,.ad 1 (af.map aC)),(6,.aD (.agg [.int .i64 (af.length:Int),.ad 1 (lX.map aC),.ad 5 ((lf++[(bc.mk bf b1 aT.Name lZ lg)]).map cG)])),(8,.int .i64 (i64.wrap (lY+1)))] ?_)));exact tp _ (inr ⟨_,cr rfl,WL lX (lf++[(bc.mk bf b1 aT.Name lZ lg)]) (i64.wrap (lY+1)) h⟩)
       obtain⟨n,h⟩:=lB h;exact lN (inr ⟨_,kD [] rfl (dh (t:=0) (d:=.ref (ca a0)) rfl (dh (t:=1) (d:=.slice (ab.map db)) rfl (dh (t:=4) (d:=.aD (.agg [.int .i64 0,.aJ,.aJ])) rfl (dh (t:=5) (d:=.ad 1 (af.map aC)) rfl (dh (t:=6) (d:=.aD (.agg [.int .i64 (af.length:Int),.ad 1 (mu.map aC),.ad 5 (mv.map cG)])) rfl (dh (t:=8) (d:=.int .i64 mw) rfl (dh (t:=9) (d:=.ref (cM aT)) rfl (jv (t:=10) (d:=.aD (.agg [.ad 1 (bf.map aC),.ad 2 (b1.map ba),.str aT.Name,.ad 1 (lj.map di),.aJ])) (bb:=.aD (.agg [.ad 1 (bf.map aC),.ad 2 (b1.map ba),.str aT.Name,.ad 1 (lj.map di),.ad 1 []])) rfl rfl (.aD (.agg (.cons (.refl _) (.cons (.refl _) (.cons (.refl _) (.cons (.refl _) (.cons (.gL _) (.nil)))))))) (by decide) (dh (t:=12) (d:=.int .i64 0) rfl (kE)))))))))),W0 n mu mv mw lj [] 0 h⟩)
     obtain⟨n,h⟩:=lB h;exact lN (inr ⟨_,kD [] rfl (dh (t:=0) (d:=.ref (ca a0)) rfl (dh (t:=1) (d:=.slice (ab.map db)) rfl (dh (t:=4) (d:=.aD (.agg [.int .i64 0,.aJ,.aJ])) rfl (dh (t:=5) (d:=.ad 1 (af.map aC)) rfl (dh (t:=6) (d:=.aD (.agg [.int .i64 (af.length:Int),.ad 1 (ns.map aC),.ad 5 (nt.map cG)])) rfl (dh (t:=8) (d:=.int .i64 nu) rfl (dh (t:=9) (d:=.ref (cM aT)) rfl (jv (t:=10) (d:=.aD (.agg [.ad 1 (bf.map aC),.ad 2 (b1.map ba),.str aT.Name,.aJ,.aJ])) (bb:=.aD (.agg [.ad 1 (bf.map aC),.ad 2 (b1.map ba),.str aT.Name,.ad 1 [],.aJ])) rfl rfl (.aD (.agg (.cons (.refl _) (.cons (.refl _) (.cons (.refl _) (.cons (.gL _) (.cons (.refl _) (.nil)))))))) (by decide) (dh (t:=11) (d:=.int .i64 0) rfl (kE)))))))))),WS n ns nt nu [] 0 h⟩)
    .exact dq (AH 2 _ (qm 2 _ (vz _ (mH _ (inl (bw aE [eC (bj.mk (af.length:Int) ns nt)]))))))
   obtain⟨n,h⟩:=lB h;exact lN (inr ⟨_,kD [] rfl (dh (t:=0) (d:=.ref (ca a0)) rfl (dh (t:=1) (d:=.slice (ab.map db)) rfl (dh (t:=4) (d:=.aD (.agg [.int .i64 0,.aJ,.aJ])) rfl (dh (t:=5) (d:=.ad 1 (af.map aC)) rfl (jv (t:=6) (d:=.aD (.agg [.int .i64 (af.length:Int),.ad 1 (lk.map aC),.aJ])) (bb:=.aD (.agg [.int .i64 (af.length:Int),.ad 1 (lk.map aC),.ad 5 []])) rfl rfl (.aD (.agg (.cons (.refl _) (.cons (.refl _) (.cons (.gL _) (.nil)))))) (by decide) (dh (t:=8) (d:=.int .i64 0) rfl (kE))))))),WK n lk [] 0 h⟩)
 obtain⟨n,h⟩:=lB h;exact lN (inr ⟨_,kD [] rfl (dh (t:=0) (d:=.ref (ca a0)) rfl (dh (t:=1) (d:=.slice (ab.map db)) rfl (dh (t:=4) (d:=.aD (.agg [.int .i64 0,.aJ,.aJ])) rfl (dh (t:=5) (d:=.ad 1 (af.map aC)) rfl (jv (t:=6) (d:=.aD (.agg [.int .i64 (af.length:Int),.aJ,.aJ])) (bb:=.aD (.agg [.int .i64 (af.length:Int),.ad 1 [],.aJ])) rfl rfl (.aD (.agg (.cons (.refl _) (.cons (.gL _) (.cons (.refl _) (.nil)))))) (by decide) (dh (t:=7) (d:=.int .i64 0) rfl (kE))))))),FG n [] 0 h⟩)
theorem W9 (a0 r) (h:zZ a0=some r):bx az 22 [ca a0] (.tuple [eC r.1,.ad 1 (r.2.1.map aC),.int .i64 r.2.2]) []:=by
 refine cv [0] [.cell 2 29,.tmp 3,.tmp 4] Tryz.func22 ta λcn aE cl=>aI ?_;refine aR aE λ_ cz bL aH=>?_;obtain⟨af,b6,h⟩:=aO h;refine dm (cA [(1,.aD (ca a0)),(2,.aD (.agg [.int .i64 0,.aJ,.aJ])),(8,.bool (!af))] (λP bB=>?_) ?_)
 .refine dS (Wc a0 _ b6) rfl rfl (by simp only[X0.down,simprocAttr,E8.down]<;>rfl) rfl (inr (by rfl)) ?_;simp only[X0.down,simprocAttr];exact cx trivial
 refine bo h (λdf h=>?_) λdf h=>?_
 .refine dC (show∀s,gm az s 29 []=some (.agg [.int .i64 0,.aJ,.aJ],s)from λs=>by kernel_rfl) _ ?_;exact o9 (bL _ (inr ⟨[(2,.aD (eC (bj.mk 0 [] []))),(3,.ad 1 []),(4,.int .i64 1)],kD [] rfl (jv (t:=2) (d:=.aD (.agg [.int .i64 0,.aJ,.aJ])) rfl rfl (.aD (.agg (.cons (.refl _) (.cons (.gL _) (.cons (.gL _) (.nil)))))) (by decide) (jv (t:=3) (d:=.aJ) rfl rfl (.gL _) (by decide) (dh rfl (kE)))),zC [eC (bj.mk 0 [] []),.ad 1 [],.int .i64 1]⟩))
 .refine bn (cz _ (inl ?_));obtain⟨aH,hY,h⟩:=aO h;refine dm (cA [(1,.aD (ca a0)),(2,.aD (.agg [.int .i64 0,.aJ,.aJ])),(5,.ad 1 (aH.map db))] (λP bB=>?_) ?_)
  .refine dS (Wi a0 _ hY) rfl rfl (by simp only[X0.down,simprocAttr,E8.down]<;>rfl) rfl (inr (ju (λ_=>T2 _) _)) ?_;simp only[X0.down,simprocAttr];exact cx trivial
  refine aR aE λ_ dP dI _=>aI ?_;refine bP dI λx8 _ fO kN _=>?_;show bk az (.loop ?ov) _ _;have ow:∀n fz kI,sS a0 n fz kI=some r->c_ az ?ov x8 (an [(1,.aD (ca a0)),(2,.aD (.agg [.int .i64 0,.aJ,.aJ])),(5,.ad 1 (fz.map db)),(6,.int .i64 kI)]):=by
   refine dy λ_ ox fz kI h=>dx fO λ_ g6 nE oe=>aR nE λ_ hr _ e2=>aI ?_;refine bo h (λkM h=>?_) λkM h=>?_
   .refine bn (hr _ (inl (aR nE λ_ oA mF _=>bP mF λ_ x9 _ _ _=>?_)));obtain⟨aM,hR,h⟩:=aO h;refine h3 (cA [(1,.aD (ca a0)),(2,.aD (.agg [.int .i64 0,.aJ,.aJ])),(5,.ad 1 ((List.set fz (Int.toNat kI) (!aM)).map db)),(6,.int .i64 kI)] (λP bB=>?_) ?_)
    .simp only[X0.down,simprocAttr,hR,cD hR,fj,dg];exact cx (aa hR (aa (cD hR) @fj))
    refine x9 _ (oA _ (inl (wr [(1,.aD (ca a0)),(2,.aD (.agg [.int .i64 0,.aJ,.aJ])),(5,.ad 1 ((List.set fz (Int.toNat kI) (!aM)).map db)),(6,.int .i64 (i64.wrap (kI+1)))] ?_)));exact g6 _ (inr ⟨_,cr rfl,ox (List.set fz (Int.toNat kI) (!aM)) (i64.wrap (kI+1)) h⟩)
   .refine dq (e2 0 _ (oe 0 _ (kN _ (dP _ (inl ?_)))));obtain⟨aT,hq,h⟩:=aO h;obtain⟨bf,mI,h⟩:=aO h;refine dm (cA [(2,.aD (eC aT)),(3,.ad 1 (bf.map aC)),(4,.int .i64 0)] (λP bB=>?_) ?_)
    ·(try simp only[X0.down,simprocAttr]);refine dS (WJ a0 fz _ hq) rfl rfl (by simp only[X0.down,simprocAttr,iF,iG,iH,e1, @c2 _ aC aC (λ_=>hn _), @c2 _ cM cM (λ_=>vp _), @c2 _ db db (λ_=>EU _)]<;>rfl) rfl (inr (Az _)) ?_;simp only[X0.down,simprocAttr];refine dS (LU fz false _ mI) rfl rfl (by simp only[X0.down,simprocAttr,iF,iG,iH,e1, @c2 _ db db (λ_=>EU _)]<;>rfl) rfl (inr (ju (λ_=>s_ _) _)) ?_;simp only[X0.down,simprocAttr];exact cx trivial
    exact ep aE [eC aT,.ad 1 (bf.map aC),.int .i64 0]
  exact eL h λn h=>ow n aH 0 h
theorem mJ (a0 ab bF r) (h:mx a0 ab bF=some r):bx az 61 [.int .i64 a0,.int .i64 ab,.int .i64 bF] (.bool r) []:=by
 refine cv [0,1,2] [.tmp 6] Tryz.func61 Uw λcn aE cl=>aI ?_;refine tb (decide (ab<=a0)) [(6,.bool ((decide (ab<=a0))&&(decide (a0<=bF))))] ?_;exact ep aE [.bool ((decide (ab<=a0))&&(decide (a0<=bF)))]
theorem LY (a0 r) (h:z1 a0=some r):bx az 156 [.int .i64 a0] (.bool r) []:=by
 refine cv [0] [.tmp 2] Tryz.func156 Ux λcn aE cl=>aI ?_;obtain⟨af,a1,h⟩:=aO h;refine et (mJ a0 0 63 _ a1) _ ?_;exact ep aE [.bool af]
theorem W_ (a0 r) (h:D9 a0=some r):bx az 155 [.int .i64 a0] (.bool r) []:=by
 refine cv [0] [.tmp 2] Tryz.func155 Uy λcn aE cl=>aI ?_;obtain⟨af,a1,h⟩:=aO h;refine et (LY a0 _ a1) _ ?_;exact ep aE [.bool (!af)]
theorem Xa (a0 r) (h:D_ a0=some r):bx az 121 [.slice (a0.map aC),.fn 155 []] (.int .i64 r) []:=by
 refine cv [0,1] [.tmp 4] Tryz.func121 Uz λcn aE cl=>aI ?_;refine aR aE λ_ cz bL aH=>aI ?_;refine bP bL λg7 _ cy c1 _=>?_;show bk az (.loop ?fV) _ _;have g8:∀n eh,z2 a0 n eh=some r->c_ az ?fV g7 (an [(0,.slice (a0.map aC)),(1,.fn 155 []),(7,.int .i64 (a0.length:Int)),(8,.int .i64 eh)]):=by
  refine dy λ_ gN eh h=>dx cy λ_ fP dn bf=>aI ?_;refine aR dn λ_ eM _ b1=>bo h (λdL h=>?_) λdL h=>?_
  .refine bn (eM _ (inl (aR dn λ_ dP dI _=>bP dI λ_ c5 dJ _ _=>aI ?_)));obtain⟨af,fk,h⟩:=aO h;obtain⟨aH,fq,h⟩:=aO h;refine hh fk (W_ af _ fq) _ ?_;refine bo h (λkM h=>?_) λkM h=>?_
   .exact bw dJ [.int .i64 eh]
   .refine bn (c5 _ (dP _ (inl (eY ?_))));exact fP _ (inr ⟨_,cr rfl,gN (i64.wrap (eh+1)) h⟩)
  .exact dq (b1 0 _ (bf 0 _ (c1 _ (cz _ (inl (bw aE [.int .i64 (-1)]))))))
 exact eL h λn h=>g8 n 0 h
theorem Xb (a0 r) (h:Ea a0=some r):bx az 154 [.slice (a0.map aC),.fn 155 []] (.bool r) []:=by
 refine cv [0,1] [.tmp 4] Tryz.func154 UA λcn aE cl=>aI ?_;obtain⟨af,a1,h⟩:=aO h;refine et (Xa a0 _ a1) _ ?_;exact ep aE [.bool (decide (0<=af))]
theorem Xc (a0 r) (h:Eb a0=some r):bx az 114 [.slice (a0.map aC)] (.bool r) []:=by
 refine cv [0] [.tmp 2] Tryz.func114 UB λcn aE cl=>aI ?_;obtain⟨af,a1,h⟩:=aO h;refine et (Xb a0 _ a1) _ ?_;exact ep aE [.bool (!af)]
theorem LZ (a0 ab r) (h:z6 a0 ab=some r):bx az 62 [ca a0,.slice (ab.map aC)] (.bool r) []:=by
 refine cv [0,1] [.tmp 4] Tryz.func62 E0 λcn aE cl=>aI ?_;rcases gi h with⟨i9,h⟩|⟨i9,h⟩
 .obtain⟨af,b6,h⟩:=aO h;refine hh i9 (Xc ab _ b6) _ ?_;exact ep aE [.bool af]
 .refine dC i9 _ ?_;exact ep aE [.bool false]
theorem L0 (a0 r) (h:z7 a0=some r):bx az 116 [cM a0] (.bool r) []:=by
 refine cv [0] [.tmp 2] Tryz.func116 UC λcn aE cl=>aI ?_;refine aI ?_;refine aR aE λ_ hF eZ _=>aI ?_;refine bP eZ λoB _ dn df _=>?_;show bk az (.loop ?gE) _ _;have g5:∀n b9 pw,uY a0 n b9 pw=some r->c_ az ?gE oB (an [(1,.aD (cM a0)),(3,.int .i64 b9),(7,.slice (a0.bs.map aC)),(8,.int .i64 (a0.bs.length:Int)),(9,.int .i64 pw)]):=by
  refine dy λ_ gH b9 pw h=>dx dn λ_ eS dN bY=>aI ?_;refine aR dN λ_ gI _ dB=>bo h (λg4 h=>?_) λg4 h=>?_
  .refine bn (gI _ (inl (aR dN λ_ c5 dJ _=>bP dJ λ_ ea fO _ _=>?_)));obtain⟨af,fk,h⟩:=aO h;refine dC fk _ ?_;refine aR fO λ_ gM gG _=>?_;obtain⟨aH,dt,h⟩:=aO h;refine et (mJ af 1 7 _ dt) _ ?_;refine bo h (λgv h=>?_) λgv h=>?_
   .exact bw gG [.bool false]
   .refine bn (gM _ (inl (eY ?_)));refine ea _ (c5 _ (inl (eY ?_)));exact eS _ (inr ⟨_,cr rfl,gH (i64.wrap (b9*(i64.wrap (af+1)))) (i64.wrap (pw+1)) h⟩)
  .refine dq (dB 0 _ (bY 0 _ (df _ (hF _ (inl (tb (decide ((a0.bs.length:Int)<=8)) [(2,.bool ((decide ((a0.bs.length:Int)<=8))&&(decide (b9<=4096))))] ?_))))));exact ep aE [.bool ((decide ((a0.bs.length:Int)<=8))&&(decide (b9<=4096)))]
 exact eL h λn h=>g5 n 1 0 h
theorem Xd (a0 r) (h:Ed a0=some r):bx az 168 [.int .u8 (a0.toNat:Int)] (.bool r) []:=by
 refine cv [0] [.tmp 2] Tryz.func168 UD λcn aE cl=>aI ?_;refine tb (decide (48<=(a0.toNat:Int))) [(2,.bool ((decide (48<=(a0.toNat:Int)))&&(decide ((a0.toNat:Int)<=57))))] ?_;exact ep aE [.bool ((decide (48<=(a0.toNat:Int)))&&(decide ((a0.toNat:Int)<=57)))]
theorem L1 (a0 r) (h:z_ a0=some r):bx az 131 [.str a0] (.bool r) []:=by
 refine cv [0] [.tmp 2] Tryz.func131 UE λcn aE cl=>aI ?_;refine aR aE λ_ cz bL aH=>aI ?_;refine bP bL λg7 _ cy c1 _=>?_;show bk az (.loop ?fV) _ _;have g8:∀n ll,ra a0 n ll=some r->c_ az ?fV g7 (an [(0,.str a0),(6,.int .i64 (a0.length:Int)),(7,.int .i64 ll)]):=by
  refine dy λ_ gN ll h=>dx cy λ_ fP dn bf=>aI ?_;refine aR dn λ_ eM _ b1=>bo h (λdL h=>?_) λdL h=>?_
  .refine bn (eM _ (inl (aR dn λ_ dP dI _=>bP dI λ_ c5 dJ _ _=>aI ?_)));obtain⟨af,fk,h⟩:=aO h;refine Ls (decide (97<=(af.toNat:Int))) fk [(0,.str a0),(3,.int .i64 ll),(4,.bool ((decide (97<=(af.toNat:Int)))&&(decide ((af.toNat:Int)<=122)))),(6,.int .i64 (a0.length:Int)),(7,.int .i64 ll)] ?_;rcases gi h with⟨kM,h⟩|⟨kM,h⟩
   .rcases gi h with⟨lq,h⟩|⟨lq,h⟩
    .refine dC (aa kM lq) _ ?_;refine jg rfl ?_;exact bw dJ [.bool false]
    .obtain⟨aH,gg,h⟩:=aO h;refine hh (aa kM (aa lq fk)) (Xd af _ gg) _ ?_;refine bo h (λgw h=>?_) λgw h=>?_
     .exact bw dJ [.bool false]
     .refine bn (c5 _ (dP _ (inl (eY ?_))));exact fP _ (inr ⟨_,cr rfl,gN (i64.wrap (ll+1)) h⟩)
   .refine dC kM _ ?_;refine o8 rfl ?_;refine bn (c5 _ (dP _ (inl (eY ?_))));exact fP _ (inr ⟨_,cr rfl,gN (i64.wrap (ll+1)) h⟩)
  .refine dq (b1 0 _ (bf 0 _ (c1 _ (cz _ (inl (tb (decide (1<=(a0.length:Int))) [(2,.bool ((decide (1<=(a0.length:Int)))&&(decide ((a0.length:Int)<=10))))] ?_))))));exact ep aE [.bool ((decide (1<=(a0.length:Int)))&&(decide ((a0.length:Int)<=10)))]
 exact eL h λn h=>g8 n 0 h
theorem L2 (a0 r) (h:xw a0=some r):bx az 92 [.str a0] (.bool r) []:=by
 refine cv [0] [.tmp 2] Tryz.func92 UF λcn aE cl=>aI ?_;obtain⟨af,a1,h⟩:=aO h;refine dm (cA [(2,.bool (af&&(!(a0==([116,97,117]:nq)))))] (λP bB=>?_) ?_)
 .rcases Bool.eq_false_or_eq_true (af)with kv|kv
  ·(try simp only[X0.down,simprocAttr,kv]);refine dS (L1 a0 _ a1) (hK:= ?_);simp only[X0.down,simprocAttr,kv];exact cx kv
  ·(try simp only[X0.down,simprocAttr,kv]);refine dS (L1 a0 _ a1) (hK:= ?_);simp only[X0.down,simprocAttr,kv];exact cx kv
 exact ep aE [.bool (af&&(!(a0==([116,97,117]:nq))))]
theorem Xe (ab r) (h:Ab ab=some r):bx az 145 [.aJ,.int .i64 ab] (.ad 1 []) []:=by
 refine cv [] [.tmp 4] Tryz.func145 UG λcn aE cl=>aI ?_;have Xf:Ee ab=some r->bk az Lg cn (an [(0,.aJ),(1,.int .i64 ab),(6,.bool (decide (ab<0)))]):=by
  intro h;have L3:Aa=some r->bk az Lf cn (an [(0,.ad 1 [])]):=by
   intro h;exact bw aE [.ad 1 []]
  refine aR aE λ_ hF _ _=>dC (aa @Kr λs x h=> @Kq az s 60 59 x rfl h) _ ?_;refine aI ?_;refine bo h (λr1 h=>?_) λr1 h=>?_
  .obtain⟨abm,iC,h⟩:=aO h;refine h3 (cA [(0,.ad 1 [])] (λP bB=>?_) ?_)
   .simp only[X0.down,simprocAttr,Lv.down,rE iC,h_,-Int.reduceNatCast',q6];(try simp only[hP.down,simprocAttr,Lv.down,rE iC,h_,-Int.reduceNatCast',q6]at bB⊢);exact bB
   exact hF _ (inr ⟨_,cr rfl,L3 h⟩)
  .exact bn (hF _ (inr ⟨_,kD [] rfl (jv (t:=0) (d:=.aJ) (bb:=.ad 1 []) rfl rfl (.gL _) (by decide) (kE)),L3 h⟩))
 refine aR aE λ_ cz _ _=>aI ?_;refine bo h (λkN h=>?_) λkN h=>?_
 .cases h
 .exact bn (cz _ (inr ⟨_,cr rfl,Xf h⟩))
theorem L4 (a0 r) (h:xx a0=some r):bx az 102 [.slice (a0.map kJ)] (.ad 1 (r.map cV)) []:=by
 refine cv [0] [.tmp 2] Tryz.func102 UH λcn aE cl=>aI ?_;refine aI ?_;refine aR aE λ_ hF eZ aM=>aI ?_;refine bP eZ λoB _ dn df _=>?_;show bk az (.loop ?gE) _ _;have g5:∀n b9 eB,sU a0 n b9 eB=some r->c_ az ?gE oB (an [(0,.slice (a0.map kJ)),(3,.int .i64 b9),(9,.slice (a0.map kJ)),(10,.int .i64 (a0.length:Int)),(11,.int .i64 eB)]):=by
  refine dy λhL gH b9 eB h=>dx dn λhQ eS dN bY=>aI ?_;refine aR dN λ_ gI _ dB=>bo h (λg4 h=>?_) λg4 h=>?_
  .refine bn (gI _ (inl ?_));show bk az (.seq _ ?xW) _ _;have x_:∀uZ my Ac,Ef (sU a0 hL) a0 uZ my Ac=some r->bk az ?xW hQ (an [(0,.slice (a0.map kJ)),(3,.int .i64 uZ),(9,.slice (a0.map kJ)),(10,.int .i64 (a0.length:Int)),(11,.int .i64 my),(20,.bool Ac)]):=by
    intro uZ my Ac h;refine eY ?_;exact eS _ (inr ⟨_,cr rfl,gH uZ (i64.wrap (my+1)) h⟩)
   refine aR dN λ_ c5 dJ _=>bP dJ λ_ g6 _ _ _=>?_;obtain⟨af,fq,h⟩:=aO h;refine dC fq _ ?_;refine aI ?_;refine aI ?_;refine bo h (λgv h=>?_) λgv h=>?_
   .cases h
   .exact bn (g6 _ (c5 _ (inr ⟨_,cr rfl,x_ (i64.wrap (b9+(af.length:Int))) eB (decide ((i64.wrap (b9+(af.length:Int)))<0)) h⟩)))
  .refine dq (dB 0 _ (bY 0 _ (df _ (hF _ (inl ?_)))));obtain⟨aH,nD,h⟩:=aO h;refine et (Xe b9 _ nD) _ ?_;refine aR aE λ_ oz mE _=>aI ?_;refine bP mE λFL _ x0 kK _=>?_;show bk az (.loop ?tr) _ _;have Xg:∀n mz nx,sT a0 n mz nx=some r->c_ az ?tr FL (an [(6,.ad 1 (mz.map cV)),(25,.slice (a0.map kJ)),(26,.int .i64 (a0.length:Int)),(27,.int .i64 nx)]):=by
    refine dy λ_ Xh mz nx h=>dx x0 λ_ qn qo FM=>aI ?_;refine aR qo λ_ x7 _ FN=>bo h (λoC h=>?_) λoC h=>?_
    .refine bn (x7 _ (inl (aR qo λ_ vA x6 _=>bP x6 λ_ n29 _ _ _=>?_)));obtain⟨aM,jF,h⟩:=aO h;refine dC jF _ ?_;obtain⟨abn,pF,h⟩:=aO h;(try simp only[lo.down,Nat.zero_add,Nat.add_zero,reduceAdd]at pF);refine ot (aa (@jy az 60 60 59 rfl rfl) (aa @jz (aa @jA (aa @iY (aa @jx (aa @all_nil (aa pF (@jw _ cV 1 λ_=>rfl)))))))) [(6,.ad 1 ((mz++aM).map cV)),(25,.slice (a0.map kJ)),(26,.int .i64 (a0.length:Int)),(27,.int .i64 nx)] ?_;refine n29 _ (vA _ (inl (wr [(6,.ad 1 ((mz++aM).map cV)),(25,.slice (a0.map kJ)),(26,.int .i64 (a0.length:Int)),(27,.int .i64 (i64.wrap (nx+1)))] ?_)));exact qn _ (inr ⟨_,cr rfl,Xh (mz++aM) (i64.wrap (nx+1)) h⟩)
    .exact dq (FN 2 _ (FM 2 _ (kK _ (oz _ (inl (bw aE [.ad 1 (mz.map cV)]))))))
   exact eL h λn h=>Xg n [] 0 h
 exact eL h λn h=>g5 n 0 0 h
theorem FO (a0 r) (h:u0 a0=some r):bx az 118 [cM a0] (.ad 1 (r.map cV)) []:=by
 refine cv [0] [.tmp 2] Tryz.func118 UI λcn aE cl=>aI ?_;obtain⟨af,a1,h⟩:=aO h;refine dm (cA [(2,.ad 1 (af.map cV))] (λP bB=>?_) ?_)
 ·(try simp only[X0.down,simprocAttr,(show∀s,ef az s 60 1 [(0,.slice (a0.Guard.map ba))]=some (.ad 1 [.slice (a0.Guard.map ba)],s)from λs=>by kernel_rfl),vr.down,j.shares,(show∀s,ef az s 161 3 [(0,.slice [.slice (a0.Guard.map ba)]),(1,.slice (a0.bl.map cV)),(2,.slice (a0.Next.map cV))]=some (.ad 1 [.slice [.slice (a0.Guard.map ba)],.slice (a0.bl.map cV),.slice (a0.Next.map cV)],s)from λs=>by kernel_rfl)]);refine dS (L4 [[a0.Guard],a0.bl,a0.Next] _ a1) (hK:= ?_);simp only[X0.down,simprocAttr,(show∀s,ef az s 60 1 [(0,.slice (a0.Guard.map ba))]=some (.ad 1 [.slice (a0.Guard.map ba)],s)from λs=>by kernel_rfl),vr.down,j.shares,(show∀s,ef az s 161 3 [(0,.slice [.slice (a0.Guard.map ba)]),(1,.slice (a0.bl.map cV)),(2,.slice (a0.Next.map cV))]=some (.ad 1 [.slice [.slice (a0.Guard.map ba)],.slice (a0.bl.map cV),.slice (a0.Next.map cV)],s)from λs=>by kernel_rfl)];exact cx (aa (show∀s,ef az s 60 1 [(0,.slice (a0.Guard.map ba))]=some (.ad 1 [.slice (a0.Guard.map ba)],s)from λs=>by kernel_rfl) (aa vr.down (show∀s,ef az s 161 3 [(0,.slice [.slice (a0.Guard.map ba)]),(1,.slice (a0.bl.map cV)),(2,.slice (a0.Next.map cV))]=some (.ad 1 [.slice [.slice (a0.Guard.map ba)],.slice (a0.bl.map cV),.slice (a0.Next.map cV)],s)from λs=>by kernel_rfl)))
 exact ep aE [.ad 1 (af.map cV)]
theorem Xi (a0 ab r) (h:Ad a0 ab=some r):bx az 158 [ba a0,.int .i64 ab] (.bool r) []:=by
 refine cv [0,1] [.tmp 4] Tryz.func158 UJ λcn aE cl=>aI ?_;refine aR aE λ_ cz bL aH=>aI ?_;refine bP bL λ_ fX cy _ _=>aI ?_;refine bo h (λe6 h=>?_) λe6 h=>?_
 .obtain⟨af,hY,h⟩:=aO h;refine et (LY a0.Value _ hY) _ ?_;exact ep cy [.bool af]
 .refine aI ?_;refine bo h (λho h=>?_) λho h=>?_
  .obtain⟨aH,ew,h⟩:=aO h;refine et (mJ a0.Value 0 (i64.wrap (ab-1)) _ ew) _ ?_;exact ep cy [.bool aH]
  .refine aI ?_;refine bo h (λir h=>?_) λir h=>?_
   .obtain⟨aM,dt,h⟩:=aO h;refine et (mJ a0.Value 0 8 _ dt) _ ?_;exact ep cy [.bool aM]
   .refine aI ?_;refine bo h (λlp h=>?_) λlp h=>?_
    .exact bw cy [.bool (a0.Value==0)]
    .exact bn (fX _ (cz _ (inl (bw aE [.bool false]))))
theorem Xj (a0 r) (h:Ej a0=some r):bx az 159 [ba a0] (.int .i64 r) []:=by
 refine cv [0] [.tmp 2] Tryz.func159 UK λcn aE cl=>aI ?_;refine aR aE λ_ cz bL _=>aI ?_;refine bP bL λ_ fX cy _ _=>aI ?_;refine bo h (λe6 h=>?_) λe6 h=>?_
 .exact bw cy [.int .i64 2]
 .refine aI ?_;refine bo h (λg4 h=>?_) λg4 h=>?_
  .exact bw cy [.int .i64 1]
  .exact bn (fX _ (cz _ (inl (bw aE [.int .i64 0]))))
theorem Xk (a0 ab bF r) (h:Ae a0 ab bF=some r):bx az 120 [.slice (a0.map ba),.int .i64 ab,.int .i64 bF] (.bool r) []:=by
 refine cv [0,1,2] [.tmp 6] Tryz.func120 UL λcn aE cl=>aI ?_;refine aR aE λ_ cz bL aH=>?_;obtain⟨af,b6,h⟩:=aO h;rcases gi h with⟨df,h⟩|⟨df,h⟩
 .refine hh (h4 df) (mJ ab 0 29 _ b6) _ ?_;refine jg rfl ?_;exact bw bL [.bool false]
 .obtain⟨aH,bK,h⟩:=aO h;rcases gi h with⟨dL,h⟩|⟨dL,h⟩
  .refine dm (cA [(0,.slice (a0.map ba)),(1,.int .i64 ab),(24,.bool true)] (λP bB=>?_) ?_)
   ·(try simp only[X0.down,simprocAttr,(da df),(h4 dL)]);refine dS (mJ ab 0 29 _ b6) (hK:= ?_);simp only[X0.down,simprocAttr,(da df),(h4 dL)];refine iE (mJ bF 1 60 _ bK) (hK:= ?_);simp only[X0.down,simprocAttr,(da df),(h4 dL)];exact cx (aa (da df) (h4 dL))
   refine jg rfl ?_;exact bw bL [.bool false]
  .obtain⟨aM,ka,h⟩:=aO h;refine dm (cA [(0,.slice (a0.map ba)),(1,.int .i64 ab),(24,.bool (!aM))] (λP bB=>?_) ?_)
   ·(try simp only[X0.down,simprocAttr,(da df),(da dL)]);refine dS (mJ ab 0 29 _ b6) (hK:= ?_);simp only[X0.down,simprocAttr,(da df),(da dL)];refine iE (mJ bF 1 60 _ bK) (hK:= ?_);simp only[X0.down,simprocAttr,(da df),(da dL)];refine iE (mJ (a0.length:Int) 1 bF _ ka) (hK:= ?_);simp only[X0.down,simprocAttr,(da df),(da dL)];exact cx (aa (da df) (da dL))
   refine bo h (λkN h=>?_) λkN h=>?_
   .exact bw bL [.bool false]
   .refine bn (cz _ (inl (aI ?_)));refine aR aE λ_ gM gG _=>aI ?_;refine bP gG λXl _ mF lq _=>?_;show bk az (.loop ?ov) _ _;have ow:∀n il px,u1 a0 ab n il px=some r->c_ az ?ov Xl (an [(1,.int .i64 ab),(7,.int .i64 il),(25,.slice (a0.map ba)),(26,.int .i64 (a0.length:Int)),(27,.int .i64 px)]):=by
     refine dy λ_ ox il px h=>dx mF λ_ x9 rk xQ=>aI ?_;refine aR rk λ_ mH _ vn=>bo h (λmD h=>?_) λmD h=>?_
     .refine bn (mH _ (inl (aR rk λ_ oz mE _=>bP mE λ_ tp qq _ _=>?_)));obtain⟨aT,Fh,h⟩:=aO h;refine dC Fh _ ?_;refine aR qq λ_ FP AK _=>?_;rcases gi h with⟨oC,h⟩|⟨oC,h⟩
      .refine dC oC _ ?_;refine jg rfl ?_;exact bw AK [.bool false]
      .obtain⟨bf,vB,h⟩:=aO h;refine hh oC (Xi aT ab _ vB) _ ?_;refine bo h (λXm h=>?_) λXm h=>?_
       .exact bw AK [.bool false]
       .refine bn (FP _ (inl ?_));obtain⟨bY,pF,h⟩:=aO h;refine E6 (Xj aT _ pF) _ ?_;refine tp _ (oz _ (inl (eY ?_)));exact x9 _ (inr ⟨_,cr rfl,ox (i64.wrap (il+(i64.wrap (bY-1)))) (i64.wrap (px+1)) h⟩)
     .exact dq (vn 0 _ (xQ 0 _ (lq _ (gM _ (inl (bw aE [.bool (il==0)]))))))
    exact eL h λn h=>ow n 1 0 h
theorem Xn (a0 ab bF r) (h:Af a0 ab bF=some r):bx az 119 [.slice (a0.map ba),.ref (.int .i64 ab),.ref (cM bF)] (.bool r) []:=by
 refine cv [0,1,2] [.tmp 4] Tryz.func119 UM λcn aE cl=>aI ?_;obtain⟨af,a1,h⟩:=aO h;refine et (Xk a0 (i64.wrap (ab+(bF.bs.length:Int))) 60 _ a1) _ ?_;exact ep aE [.bool (!af)]
theorem Xo (a0 cj ct r) (h:El a0 cj ct=some r):bx az 157 [.slice (a0.map cV),.fn 119 [.ref (.int .i64 cj),.ref (cM ct)]] (.int .i64 r) []:=by
 refine cv [0,1] [.tmp 4] Tryz.func157 UN λcn aE cl=>aI ?_;refine aR aE λ_ cz bL aH=>aI ?_;refine bP bL λg7 _ cy c1 _=>?_;show bk az (.loop ?fV) _ _;have g8:∀n eh,Ag a0 cj ct n eh=some r->c_ az ?fV g7 (an [(0,.slice (a0.map cV)),(1,.fn 119 [.ref (.int .i64 cj),.ref (cM ct)]),(7,.int .i64 (a0.length:Int)),(8,.int .i64 eh)]):=by
  refine dy λ_ gN eh h=>dx cy λ_ fP dn bf=>aI ?_;refine aR dn λ_ eM _ b1=>bo h (λdL h=>?_) λdL h=>?_
  .refine bn (eM _ (inl (aR dn λ_ dP dI _=>bP dI λ_ c5 dJ _ _=>aI ?_)));obtain⟨af,fk,h⟩:=aO h;obtain⟨aH,fq,h⟩:=aO h;refine hh fk (Xn af cj ct _ fq) _ ?_;refine bo h (λkM h=>?_) λkM h=>?_
   .exact bw dJ [.int .i64 eh]
   .refine bn (c5 _ (dP _ (inl (eY ?_))));exact fP _ (inr ⟨_,cr rfl,gN (i64.wrap (eh+1)) h⟩)
  .exact dq (b1 0 _ (bf 0 _ (c1 _ (cz _ (inl (bw aE [.int .i64 (-1)]))))))
 exact eL h λn h=>g8 n 0 h
theorem FQ (a0 cj ct r) (h:sV a0 cj ct=some r):bx az 117 [.slice (a0.map cV),.fn 119 [.ref (.int .i64 cj),.ref (cM ct)]] (.bool r) []:=by
 refine cv [0,1] [.tmp 4] Tryz.func117 UO λcn aE cl=>aI ?_;obtain⟨af,a1,h⟩:=aO h;refine et (Xo a0 cj ct _ a1) _ ?_;exact ep aE [.bool (decide (0<=af))]
theorem Xp (a0 ab r) (h:Ah a0 ab=some r):bx az 65 [cM a0,.int .i64 ab] (.bool r) []:=by
 refine cv [0,1] [.tmp 4] Tryz.func65 UQ λcn aE cl=>aI ?_;refine aR aE λ_ cz bL aH=>?_;obtain⟨af,b6,h⟩:=aO h;refine dm (cA [(2,.aD (cM a0)),(3,.aD (.int .i64 ab)),(15,.bool ((!af)||((a0.Next.length:Int) !=ab)))] (λP bB=>?_) ?_)
 .rcases Bool.eq_false_or_eq_true (af)with ts|ts
  ·(try simp only[X0.down,simprocAttr,ts]);refine dS (L0 a0 _ b6) (hK:= ?_);simp only[X0.down,simprocAttr,ts];exact cx ts
  ·(try simp only[X0.down,simprocAttr,ts]);refine dS (L0 a0 _ b6) (hK:= ?_);simp only[X0.down,simprocAttr,ts];exact cx ts
 refine bo h (λe6 h=>?_) λe6 h=>?_
 .exact bw bL [.bool false]
 .refine bn (cz _ (inl (aR aE λ_ gI i2 dB=>aI ?_)));rcases gi h with⟨kN,h⟩|⟨kN,h⟩
  .rcases gi h with⟨hG,h⟩|⟨hG,h⟩
   .refine dC (aa kN hG) _ ?_;refine jg rfl ?_;exact bw i2 [.bool false]
   .rcases gi h with⟨ir,h⟩|⟨ir,h⟩
    .refine dC (aa kN (aa hG ir)) _ ?_;refine jg rfl ?_;exact bw i2 [.bool false]
    .obtain⟨aH,dt,h⟩:=aO h;refine hh (aa kN (aa hG ir)) (L2 a0.Name _ dt) _ ?_;refine bo h (λgv h=>?_) λgv h=>?_
     .exact bw i2 [.bool false]
     .refine bn (gI _ (inl ?_));obtain⟨aM,nD,h⟩:=aO h;obtain⟨aT,hp,h⟩:=aO h;refine dm (cA [(4,.bool (!aT))] (λP bB=>?_) ?_)
      ·(try simp only[X0.down,simprocAttr]);refine dS (FO a0 _ nD) (hK:= ?_);simp only[X0.down,simprocAttr];refine dS (FQ aM ab a0 _ hp) rfl rfl (by simp only[X0.down,simprocAttr,E9.down]<;>rfl) rfl (inr (by rfl)) ?_;simp only[X0.down,simprocAttr];exact cx trivial
      exact ep aE [.bool (!aT)]
  .rcases gi h with⟨qp,h⟩|⟨qp,h⟩
   .obtain⟨bf,mI,h⟩:=aO h;refine hh (aa kN qp) (L2 a0.Name _ mI) _ ?_;refine bo h (λpE h=>?_) λpE h=>?_
    .exact bw i2 [.bool false]
    .refine bn (gI _ (inl ?_));obtain⟨bY,tj,h⟩:=aO h;obtain⟨b1,FR,h⟩:=aO h;refine dm (cA [(4,.bool (!b1))] (λP bB=>?_) ?_)
     ·(try simp only[X0.down,simprocAttr]);refine dS (FO a0 _ tj) (hK:= ?_);simp only[X0.down,simprocAttr];refine dS (FQ bY ab a0 _ FR) rfl rfl (by simp only[X0.down,simprocAttr,E9.down]<;>rfl) rfl (inr (by rfl)) ?_;simp only[X0.down,simprocAttr];exact cx trivial
     exact ep aE [.bool (!b1)]
   .refine dC (aa kN qp) _ ?_;refine o8 rfl ?_;refine bn (gI _ (inl ?_));obtain⟨dB,Xq,h⟩:=aO h;obtain⟨dr,jF,h⟩:=aO h;refine dm (cA [(4,.bool (!dr))] (λP bB=>?_) ?_)
    ·(try simp only[X0.down,simprocAttr]);refine dS (FO a0 _ Xq) (hK:= ?_);simp only[X0.down,simprocAttr];refine dS (FQ dB ab a0 _ jF) rfl rfl (by simp only[X0.down,simprocAttr,E9.down]<;>rfl) rfl (inr (by rfl)) ?_;simp only[X0.down,simprocAttr];exact cx trivial
    exact ep aE [.bool (!dr)]
theorem Xr (a0 ab r) (h:Ai a0 ab=some r):bx az 64 [cM a0,.ref (ca ab)] (.bool r) []:=by
 refine cv [0,1] [.tmp 3] Tryz.func64 UR λcn aE cl=>aI ?_;obtain⟨af,a1,h⟩:=aO h;refine et (Xp a0 ab.a8 _ a1) _ ?_;exact ep aE [.bool (!af)]
theorem Xs (a0 ab r) (h:Em a0 ab=some r):bx az 115 [.slice (a0.map cM),.fn 64 [.ref (ca ab)]] (.int .i64 r) []:=by
 refine cv [0,1] [.tmp 4] Tryz.func115 US λcn aE cl=>aI ?_;refine aR aE λ_ cz bL aH=>aI ?_;refine bP bL λg7 _ cy c1 _=>?_;show bk az (.loop ?fV) _ _;have g8:∀n eh,Aj a0 ab n eh=some r->c_ az ?fV g7 (an [(0,.slice (a0.map cM)),(1,.fn 64 [.ref (ca ab)]),(7,.int .i64 (a0.length:Int)),(8,.int .i64 eh)]):=by
  refine dy λ_ gN eh h=>dx cy λ_ fP dn bf=>aI ?_;refine aR dn λ_ eM _ b1=>bo h (λdL h=>?_) λdL h=>?_
  .refine bn (eM _ (inl (aR dn λ_ dP dI _=>bP dI λ_ c5 dJ _ _=>aI ?_)));obtain⟨af,fk,h⟩:=aO h;obtain⟨aH,fq,h⟩:=aO h;refine hh fk (Xr af ab _ fq) _ ?_;refine bo h (λkM h=>?_) λkM h=>?_
   .exact bw dJ [.int .i64 eh]
   .refine bn (c5 _ (dP _ (inl (eY ?_))));exact fP _ (inr ⟨_,cr rfl,gN (i64.wrap (eh+1)) h⟩)
  .exact dq (b1 0 _ (bf 0 _ (c1 _ (cz _ (inl (bw aE [.int .i64 (-1)]))))))
 exact eL h λn h=>g8 n 0 h
theorem Xt (a0 ab r) (h:En a0 ab=some r):bx az 63 [.slice (a0.map cM),.fn 64 [.ref (ca ab)]] (.bool r) []:=by
 refine cv [0,1] [.tmp 4] Tryz.func63 UT λcn aE cl=>aI ?_;obtain⟨af,a1,h⟩:=aO h;refine et (Xs a0 ab _ a1) _ ?_;exact ep aE [.bool (decide (0<=af))]
theorem Xu (a0 r) (h:Ak a0=some r):bx az 32 [ca a0] (.bool r) []:=by
 refine cv [0] [.tmp 2] Tryz.func32 UU λcn aE cl=>aI ?_;refine aR aE λ_ cz bL aH=>?_;obtain⟨af,b6,h⟩:=aO h;rcases gi h with⟨df,h⟩|⟨df,h⟩
 .refine hh (h4 df) (mJ a0.a8 0 21 _ b6) _ ?_;refine jg rfl ?_;exact bw bL [.bool false]
 .obtain⟨aH,bK,h⟩:=aO h;refine dm (cA [(1,.aD (ca a0)),(19,.bool ((!aH)||(decide (60<(a0.aW.length:Int)))))] (λP bB=>?_) ?_)
  .rcases Bool.eq_false_or_eq_true (aH)with jG|jG
   ·(try simp only[X0.down,simprocAttr,(da df),jG]);refine dS (mJ a0.a8 0 21 _ b6) (hK:= ?_);simp only[X0.down,simprocAttr,(da df),jG];refine iE (LZ a0 a0.Start _ bK) (hK:= ?_);simp only[X0.down,simprocAttr,(da df),jG];exact cx (aa (da df) jG)
   ·(try simp only[X0.down,simprocAttr,(da df),jG]);refine dS (mJ a0.a8 0 21 _ b6) (hK:= ?_);simp only[X0.down,simprocAttr,(da df),jG];refine iE (LZ a0 a0.Start _ bK) (hK:= ?_);simp only[X0.down,simprocAttr,(da df),jG];exact cx (aa (da df) jG)
  refine bo h (λg4 h=>?_) λg4 h=>?_
  .exact bw bL [.bool false]
  .refine bn (cz _ (inl ?_));obtain⟨aM,ew,h⟩:=aO h;refine dm (cA [(2,.bool (!aM))] (λP bB=>?_) ?_)
   ·(try simp only[X0.down,simprocAttr]);refine dS (Xt a0.aW a0 _ ew) rfl rfl (by simp only[X0.down,simprocAttr,E8.down]<;>rfl) rfl (inr (by rfl)) ?_;simp only[X0.down,simprocAttr];exact cx trivial
   exact ep aE [.bool (!aM)]
theorem L5 (a0 r:abH) (h:rb a0=some r):bx az 103 [.ad 1 (a0.map aC)] (.tuple []) [.ad 1 (r.map aC)]:=VV a0 r h
theorem Xv (a0 r:abH) (h:Al a0=some r):bx az 144 [.ad 1 (a0.map aC)] (.ad 1 (r.map aC)) [.hole]:=VW a0 r h
theorem Xw (a0 r) (h:An a0=some r):bx az 101 [.slice (a0.map ba)] (.ad 1 (r.map aC)) []:=by
 refine cv [0] [.tmp 2] Tryz.func101 UW λcn aE cl=>aI ?_;refine aI ?_;refine aR aE λ_ hF eZ aM=>aI ?_;refine bP eZ λoB _ dn df _=>?_;show bk az (.loop ?gE) _ _;have g5:∀n b9 gf,sW a0 n b9 gf=some r->c_ az ?gE oB (an [(3,.ad 1 (b9.map aC)),(6,.slice (a0.map ba)),(7,.int .i64 (a0.length:Int)),(8,.int .i64 gf)]):=by
  refine dy λhL gH b9 gf h=>dx dn λhQ eS dN bY=>aI ?_;refine aR dN λ_ gI _ dB=>bo h (λg4 h=>?_) λg4 h=>?_
  .refine bn (gI _ (inl ?_));show bk az (.seq _ ?EV) _ _;have L6:∀ki u2,Am (sW a0 hL) a0 ki u2=some r->bk az ?EV hQ (an [(3,.ad 1 (ki.map aC)),(6,.slice (a0.map ba)),(7,.int .i64 (a0.length:Int)),(8,.int .i64 u2)]):=by
    intro ki u2 h;refine eY ?_;exact eS _ (inr ⟨_,cr rfl,gH ki (i64.wrap (u2+1)) h⟩)
   refine aR dN λ_ c5 dJ _=>bP dJ λ_ g6 _ _ _=>?_;obtain⟨af,fq,h⟩:=aO h;refine dC fq _ ?_;refine aI ?_;refine bo h (λlq h=>?_) λlq h=>?_
   .obtain⟨xY,gg,h⟩:=aO h;(try simp only[lo.down,Nat.zero_add,Nat.add_zero,reduceAdd]at gg);refine ot (aa (show∀s,ef az s 22 1 [(0,.int .i64 af.Value)]=some (.ad 1 [.int .i64 af.Value],s)from λs=>by kernel_rfl) (aa (@jy az 22 22 2 rfl rfl) (aa @jz (aa @jA (aa @iY (aa @jx (aa @all_nil (aa gg (@jw _ aC 1 λ_=>rfl))))))))) [(3,.ad 1 ((b9++[af.Value]).map aC)),(6,.slice (a0.map ba)),(7,.int .i64 (a0.length:Int)),(8,.int .i64 gf)] ?_;exact g6 _ (c5 _ (inr ⟨_,cr rfl,L6 (b9++[af.Value]) gf h⟩))
   .exact bn (g6 _ (c5 _ (inr ⟨_,cr rfl,L6 b9 gf h⟩)))
  .refine dq (dB 0 _ (bY 0 _ (df _ (hF _ (inl ?_)))));obtain⟨aH,nD,h⟩:=aO h;refine dm (cA [(3,.ad 1 (aH.map aC))] (λP bB=>?_) ?_)
   ·(try simp only[X0.down,simprocAttr]);refine k8 [⟨.h 3 [],true,_,_⟩] (L5 b9 _ nD) rfl rfl rfl (by simp only[X0.down,simprocAttr,AD.down]) rfl rfl (inl rfl) ?_;simp only[X0.down,simprocAttr,jZ];exact cx trivial
   obtain⟨aM,hq,h⟩:=aO h;refine dm (cA [(2,.ad 1 (aM.map aC))] (λP bB=>?_) ?_)
   ·(try simp only[X0.down,simprocAttr]);refine k8 [⟨.h 3 [],true,_,.hole⟩] (Xv aH _ hq) rfl rfl rfl (by simp only[X0.down,simprocAttr,AD.down]) rfl rfl (inl rfl) ?_;simp only[X0.down,simprocAttr,jZ];exact cx trivial
   exact ep aE [.ad 1 (aM.map aC)]
 obtain⟨n,h⟩:=lB h;exact lN (inr ⟨_,kD [] rfl (jv (t:=3) (d:=.aJ) (bb:=.ad 1 []) rfl rfl (.gL _) (by decide) (dh (t:=6) (d:=.slice (a0.map ba)) rfl (dh (t:=7) (d:=.int .i64 (a0.length:Int)) rfl (dh (t:=8) (d:=.int .i64 0) rfl (kE))))),g5 n [] 0 h⟩)
theorem L7 (a0 ab r) (h:u3 a0 ab=some r):bx az 82 [.slice (a0.map aC),.int .i64 ab] (.int .i64 r) []:=by
 refine cv [0,1] [.tmp 4] Tryz.func82 UX λcn aE cl=>aI ?_;refine aR aE λ_ cz bL _=>aI ?_;refine bP bL λg7 _ cy c1 _=>?_;show bk az (.loop ?fV) _ _;have g8:∀n eh,sX a0 ab n eh=some r->c_ az ?fV g7 (an [(0,.slice (a0.map aC)),(1,.int .i64 ab),(7,.int .i64 (a0.length:Int)),(8,.int .i64 eh)]):=by
  refine dy λ_ gN eh h=>dx cy λ_ fP dn bf=>aI ?_;refine aR dn λ_ eM _ b1=>bo h (λdL h=>?_) λdL h=>?_
  .refine bn (eM _ (inl (aR dn λ_ dP dI _=>bP dI λ_ c5 dJ _ _=>aI ?_)));obtain⟨af,fk,h⟩:=aO h;refine dC fk _ ?_;refine bo h (λir h=>?_) λir h=>?_
   .exact bw dJ [.int .i64 eh]
   .refine bn (c5 _ (dP _ (inl (eY ?_))));exact fP _ (inr ⟨_,cr rfl,gN (i64.wrap (eh+1)) h⟩)
  .exact dq (b1 0 _ (bf 0 _ (c1 _ (cz _ (inl (bw aE [.int .i64 (-1)]))))))
 exact eL h λn h=>g8 n 0 h
theorem Xx (a0 ab r) (h:Ao a0 ab=some r):bx az 74 [.slice (a0.map aC),.int .i64 ab] (.bool r) []:=by
 refine cv [0,1] [.tmp 4] Tryz.func74 UY λcn aE cl=>aI ?_;obtain⟨af,a1,h⟩:=aO h;refine et (L7 a0 ab _ a1) _ ?_;exact ep aE [.bool (decide (0<=af))]
theorem L8 (a0 ab bF r) (h:u6 a0 ab bF=some r):bx az 100 [.slice (a0.map ba),.ref (ca ab),.aD (.ad 1 (bF.map aC))] (.bool r.1) [.hole,.hole,.aD (.ad 1 (r.2.map aC))]:=by
 refine cv [0,1,2] [.tmp 4] Tryz.func100 UZ λcn aE cl=>aI ?_;refine aI ?_;refine aR aE λ_ hF eZ aM=>?_;obtain⟨af,cH,h⟩:=aO h;refine et (Xw a0 _ cH) _ ?_;refine bP eZ λhQ _ dN e6 _=>?_;show bk az (.loop ?gE) _ _;have g5:∀n jC cw eB,sY ab af n jC cw eB=some r->c_ az ?gE hQ (an [(1,.ref (ca ab)),(2,.aD (.ad 1 (jC.map aC))),(5,.bool cw),(9,.ad 1 (af.map aC)),(10,.int .i64 (af.length:Int)),(11,.int .i64 eB)]):=by
  refine dy λhL gH jC cw eB h=>dx dN λtn eM ek b1=>aI ?_;refine aR ek λ_ dP _ dr=>bo h (λho h=>?_) λho h=>?_
  .refine bn (dP _ (inl ?_));show bk az (.seq _ ?xW) _ _;have x_:∀u4 u5 my,xz (sY ab af hL) ab af u4 u5 my=some r->bk az ?xW tn (an [(1,.ref (ca ab)),(2,.aD (.ad 1 (u4.map aC))),(5,.bool u5),(9,.ad 1 (af.map aC)),(10,.int .i64 (af.length:Int)),(11,.int .i64 my)]):=by
    intro u4 u5 my h;refine eY ?_;exact eM _ (inr ⟨_,cr rfl,gH u4 u5 (i64.wrap (my+1)) h⟩)
   refine aR ek λ_ ea fO _=>bP fO λ_ hr _ _ _=>?_;obtain⟨aH,fs,h⟩:=aO h;refine dC (aa fs (cD fs)) _ ?_;rcases gi h with⟨gv,h⟩|⟨gv,h⟩
   .obtain⟨aM,gg,h⟩:=aO h;refine dm (cA [(1,.ref (ca ab)),(2,.aD (.ad 1 (jC.map aC))),(5,.bool cw),(7,.int .i64 aH),(9,.ad 1 (af.map aC)),(10,.int .i64 (af.length:Int)),(11,.int .i64 eB),(24,.bool (!aM))] (λP bB=>?_) ?_)
    ·(try simp only[X0.down,simprocAttr,gv]);refine iE (Xx jC aH _ gg) rfl rfl (by simp only[X0.down,simprocAttr,gv,AE.down]<;>rfl) rfl (inr (by rfl)) ?_;simp only[X0.down,simprocAttr,gv];exact cx gv
    refine bo h (λgw h=>?_) λgw h=>?_
    .obtain⟨Xy,hp,h⟩:=aO h;(try simp only[lo.down,Nat.zero_add,Nat.add_zero,reduceAdd]at hp);refine dC (aa (show∀s,ef az s 22 1 [(0,.int .i64 aH)]=some (.ad 1 [.int .i64 aH],s)from λs=>by kernel_rfl) (aa (@jy az 22 22 2 rfl rfl) (aa @jz (aa @jA (aa @iY (aa @jx (aa @all_nil (aa hp (@jw _ aC 1 λ_=>rfl))))))))) [(1,.ref (ca ab)),(2,.aD (.ad 1 ((jC++[aH]).map aC))),(9,.ad 1 (af.map aC)),(10,.int .i64 (af.length:Int)),(11,.int .i64 eB)] ?_;refine wr [(1,.ref (ca ab)),(2,.aD (.ad 1 ((jC++[aH]).map aC))),(5,.bool true),(9,.ad 1 (af.map aC)),(10,.int .i64 (af.length:Int)),(11,.int .i64 eB)] ?_;exact hr _ (ea _ (inr ⟨_,cr rfl,x_ (jC++[aH]) true eB h⟩))
    .exact bn (hr _ (ea _ (inr ⟨_,cr rfl,x_ jC cw eB h⟩)))
   .refine dC gv _ ?_;refine o8 rfl ?_;exact bn (hr _ (ea _ (inr ⟨_,cr rfl,x_ jC cw eB h⟩)))
  .refine dq (dr 0 _ (b1 0 _ (e6 _ (hF _ (inl (aI ?_))))));exact o9 (aE _ (inl (qY [.bool cw] rfl (by cases j4 h;rfl) (by decide) (sw (q4 (q4 (sx (by cases j4 h;rfl) rfl rfl rfl (sy))))))))
 exact eL h λn h=>g5 n bF false 0 h
theorem Xz (a0 r) (h:xA a0=some r):bx az 51 [ca a0] (.ad 1 (r.map aC)) []:=by
 refine cv [0] [.tmp 2] Tryz.func51 U0 λcn aE cl=>aI ?_;refine aI ?_;refine aI ?_;refine aR aE λ_ fX cy aT=>aI ?_;refine bP cy λhQ _ dN e6 bY=>?_;have FG:∀n oo oq,s3 a0 n oo oq=some r->c_ az Li hQ (an [(1,.aD (ca a0)),(3,.aD (.ad 1 (oo.map aC))),(4,.fn 100 [.h 1 [],.h 3 []]),(14,.slice (a0.aW.map cM)),(15,.int .i64 (a0.aW.length:Int)),(16,.int .i64 oq)]):=by
  refine dy λtR FH oo oq h=>dx dN λ_ eM ek b1=>aI ?_;refine aR ek λ_ dP _ dr=>bo h (λho h=>?_) λho h=>?_
  .refine bn (dP _ (inl (aR ek λ_ ea fO _=>bP fO λ_ g6 nE _ _=>?_)));obtain⟨af,fq,h⟩:=aO h;refine dC fq _ ?_;obtain⟨aH,dt,h⟩:=aO h;refine dm (cA [(1,.aD (ca a0)),(3,.aD (.ad 1 (oo.map aC))),(4,.fn 100 [.h 1 [],.h 3 []]),(14,.slice (a0.aW.map cM)),(15,.int .i64 (a0.aW.length:Int)),(16,.int .i64 oq),(26,.ad 1 (aH.map cV)),(27,.int .i64 (aH.length:Int)),(28,.int .i64 0)] (λP bB=>?_) ?_)
   ·(try simp only[X0.down,simprocAttr,(show∀s,ef az s 60 1 [(0,.slice (af.Guard.map ba))]=some (.ad 1 [.slice (af.Guard.map ba)],s)from λs=>by kernel_rfl),vr.down,j.shares,(show∀s,ef az s 161 2 [(0,.slice [.slice (af.Guard.map ba)]),(1,.slice (af.bl.map cV))]=some (.ad 1 [.slice [.slice (af.Guard.map ba)],.slice (af.bl.map cV)],s)from λs=>by kernel_rfl)]);refine dS (L4 [[af.Guard],af.bl] _ dt) (hK:= ?_);simp only[X0.down,simprocAttr,(show∀s,ef az s 60 1 [(0,.slice (af.Guard.map ba))]=some (.ad 1 [.slice (af.Guard.map ba)],s)from λs=>by kernel_rfl),vr.down,j.shares,(show∀s,ef az s 161 2 [(0,.slice [.slice (af.Guard.map ba)]),(1,.slice (af.bl.map cV))]=some (.ad 1 [.slice [.slice (af.Guard.map ba)],.slice (af.bl.map cV)],s)from λs=>by kernel_rfl)];exact cx (aa (show∀s,ef az s 60 1 [(0,.slice (af.Guard.map ba))]=some (.ad 1 [.slice (af.Guard.map ba)],s)from λs=>by kernel_rfl) (aa vr.down (show∀s,ef az s 161 2 [(0,.slice [.slice (af.Guard.map ba)]),(1,.slice (af.bl.map cV))]=some (.ad 1 [.slice [.slice (af.Guard.map ba)],.slice (af.bl.map cV)],s)from λs=>by kernel_rfl)))
   refine bP nE λFj _ rk gv _=>?_;have XA:∀n ki og py pz oh,sZ (s3 a0 tR) a0 n ki og py pz oh=some r->c_ az Lh Fj (an [(1,.aD (ca a0)),(3,.aD (.ad 1 (ki.map aC))),(4,.fn 100 [.h 1 [],.h 3 []]),(14,.slice (a0.aW.map cM)),(15,.int .i64 (a0.aW.length:Int)),(16,.int .i64 og),(26,.ad 1 (py.map cV)),(27,.int .i64 pz),(28,.int .i64 oh)]):=by
    refine dy λ_ XB ki og py pz oh h=>dx rk λ_ xZ th kl=>aI ?_;refine aR th λ_ vw _ vo=>bo h (λvz h=>?_) λvz h=>?_
    .refine bn (vw _ (inl (aR th λ_ tp qq _=>bP qq λ_ ti _ _ _=>?_)));obtain⟨aM,jE,h⟩:=aO h;refine dC (aa jE (cD jE)) _ ?_;obtain⟨aT,tj,h⟩:=aO h;refine h3 (cA [(1,.aD (ca a0)),(3,.aD (.ad 1 (aT.2.map aC))),(4,.fn 100 [.h 1 [],.h 3 []]),(14,.slice (a0.aW.map cM)),(15,.int .i64 (a0.aW.length:Int)),(16,.int .i64 og),(26,.ad 1 (py.map cV)),(27,.int .i64 pz),(28,.int .i64 oh)] (λP bB=>?_) ?_)
     ·(try simp only[X0.down,simprocAttr]);refine Kl [⟨.slice (aM.map ba),false,_,.hole⟩,⟨.h 1 [],false,_,.hole⟩,⟨.h 3 [],true,_,_⟩] (L8 aM a0 ki _ tj) rfl rfl rfl (by simp only[X0.down,simprocAttr,Lw.down]) rfl rfl ((inr (by simp only[pc,j.cL,j.hN,Bool.and_self, @ju _ aC (λ_=>s_ _)]))) (by simp only[X0.down,simprocAttr,uq,k9,w4,Bool.and_self,Bool.not_false,Bool.and_true]) ?_;simp only[X0.down,simprocAttr,jZ,uq,k9,eq_self,Bool.and_self];exact cx trivial
     refine ti _ (tp _ (inl (eY ?_)));exact xZ _ (inr ⟨_,cr rfl,XB aT.2 og py pz (i64.wrap (oh+1)) h⟩)
    .refine dq (vo 2 _ (kl 2 _ (gv _ (g6 _ (ea _ (inl (eY ?_)))))));exact eM _ (inr ⟨_,cr rfl,FH ki (i64.wrap (og+1)) h⟩)
   exact eL h λn h=>XA n oo oq aH (aH.length:Int) 0 h
  .refine dq (dr 0 _ (b1 0 _ (e6 _ (fX _ (inl (aR aE λ_ n30 Fk _=>aI ?_))))));refine bP Fk λFl _ x1 kL _=>?_;have XC:∀n om qh,pA a0 n om qh=some r->c_ az Lk Fl (an [(1,.aD (ca a0)),(3,.aD (.ad 1 (om.map aC))),(4,.fn 100 [.h 1 [],.h 3 []]),(9,.int .i64 qh)]):=by
    refine dy λXD XE om qh h=>dx x1 λ_ n33 tl Fm=>aR tl λ_ n34 _ Fo=>aI ?_;refine bo h (λiL h=>?_) λiL h=>?_
    .refine bn (n34 _ (inl (aR tl λ_ n37 x2 _=>bP x2 λ_ n38 vx _ _=>aI ?_)));refine bP vx λFp _ x3 Fq _=>?_;have XF:∀n oi ny oj,s0 (pA a0 XD) a0 n oi ny oj=some r->c_ az Lj Fp (an [(1,.aD (ca a0)),(3,.aD (.ad 1 (oi.map aC))),(4,.fn 100 [.h 1 [],.h 3 []]),(9,.int .i64 ny),(44,.slice (a0.aW.map cM)),(45,.int .i64 (a0.aW.length:Int)),(46,.int .i64 oj)]):=by
      refine dy λ_ XG oi ny oj h=>dx x3 λ_ n41 x4 Ft=>aI ?_;refine aR x4 λ_ n43 _ XH=>bo h (λFu h=>?_) λFu h=>?_
      .refine bn (n43 _ (inl (aR x4 λ_ n45 Fv _=>bP Fv λ_ n46 _ _ _=>?_)));obtain⟨bf,rl,h⟩:=aO h;refine dC rl _ ?_;obtain⟨bY,jH,h⟩:=aO h;obtain⟨b1,ya,h⟩:=aO h;obtain⟨dB,FT,h⟩:=aO h;refine w7 rfl (o_ [(1,.aD (ca a0)),(3,.aD (.ad 1 (dB.2.map aC))),(4,.fn 100 [.h 1 [],.h 3 []]),(9,.int .i64 ny),(44,.slice (a0.aW.map cM)),(45,.int .i64 (a0.aW.length:Int)),(46,.int .i64 oj)] (λP bB=>?_) ?_)
       ·(try simp only[fI.down,simprocAttr,jH,cD jH,ya]);refine R6 [⟨.slice (b1.map ba),false,_,.hole⟩,⟨.h 1 [],false,_,.hole⟩,⟨.h 3 [],true,_,_⟩] (L8 b1 a0 oi _ FT) rfl rfl rfl (by simp only[fI.down,simprocAttr,jH,cD jH,ya,Lw.down]) rfl rfl ((inr (by simp only[pc,j.cL,j.hN,Bool.and_self, @ju _ aC (λ_=>s_ _)]))) (by simp only[fI.down,simprocAttr,jH,cD jH,ya,uq,k9,w4,Bool.and_self,Bool.not_false,Bool.and_true]) ?_;simp only[fI.down,simprocAttr,jH,cD jH,ya,jZ,uq,k9,eq_self,Bool.and_self];refine⟨n9 (by kernel_rfl),?_⟩;exact cx (aa jH (aa (cD jH) ya))
       refine n46 _ (n45 _ (inl (eY ?_)));exact n41 _ (inr ⟨_,cr rfl,XG dB.2 ny (i64.wrap (oj+1)) h⟩)
      .refine dq (XH 6 _ (Ft 6 _ (Fq _ (n38 _ (n37 _ (inl (eY ?_)))))));exact n33 _ (inr ⟨_,cr rfl,XE oi (i64.wrap (ny+1)) h⟩)
     exact eL h λn h=>XF n om qh 0 h
    .refine dq (Fo 4 _ (Fm 4 _ (kL _ (n30 _ (inl ?_)))));obtain⟨dr,XI,h⟩:=aO h;refine dm (cA [(3,.aD (.ad 1 (dr.map aC)))] (λP bB=>?_) ?_)
     ·(try simp only[X0.down,simprocAttr]);refine k8 [⟨.h 3 [0],true,_,_⟩] (L5 om _ XI) rfl rfl rfl (by simp only[X0.down,simprocAttr,AD.down]) rfl rfl (inl rfl) ?_;simp only[X0.down,simprocAttr,jZ];exact cx trivial
     exact bw aE [.ad 1 (dr.map aC)]
   exact eL h λn h=>XC n oo 0 h
 obtain⟨n,h⟩:=lB h;exact lN (inr ⟨_,RK [1,3] [] rfl rfl (w_ (t:=1) (d:=.aD (ca a0)) rfl (RM (t:=3) (d:=.aD (.aJ)) (bb:=.aD (.ad 1 [])) rfl rfl (.aD (.gL _)) rfl rfl (by decide) (w_ (t:=4) (d:=.fn 100 [.h 1 [],.h 3 []]) rfl (w_ (t:=14) (d:=.slice (a0.aW.map cM)) rfl (w_ (t:=15) (d:=.int .i64 (a0.aW.length:Int)) rfl (w_ (t:=16) (d:=.int .i64 0) rfl (RL))))))),FG n [] 0 h⟩)
theorem L9 (a0 r) (h:xB a0=some r):bx az 68 [.slice (a0.map aC)] (.ad 1 (r.map aC)) []:=by
 refine cv [0] [.tmp 2] Tryz.func68 U1 λcn aE cl=>aI ?_;refine aR aE λ_ cz bL _=>?_;rcases gi h with⟨c1,h⟩|⟨c1,h⟩
 .refine dm (cA [(0,.slice (a0.map aC)),(4,.eF)] (λP bB=>?_) ?_)
  .simp only[X0.down,simprocAttr,pd,(Km c1),q5];exact cx (aa @pd (aa (Km c1) @q5))
  obtain⟨bt,h⟩:=GQ h;refine JR rfl ?_ ?_
  .replace h:=bt;refine aI ?_;exact o9 (bL _ (inr ⟨[(2,.ad 1 [])],kD [] rfl (jv (t:=2) (d:=.aJ) rfl rfl (.gL _) (by decide) (kE)),zC [.ad 1 []]⟩))
  .refine bn (cz _ (inl ?_));obtain⟨u8,hY,h⟩:=aO h;(try simp only[lo.down,Nat.zero_add,Nat.add_zero,reduceAdd]at hY);refine dC (aa (show∀s,ef az s 22 0 []=some (.ad 1 [],s)from λs=>by kernel_rfl) (aa (@jy az 22 22 2 rfl rfl) (aa @jz (aa @jA (aa @iY (aa @jx (aa @all_nil (aa hY (@jw _ aC 1 λ_=>rfl))))))))) _ ?_;exact ep aE [.ad 1 (a0.map aC)]
 .refine dm (cA [(0,.slice (a0.map aC)),(4,.bool false)] (λP bB=>?_) ?_)
  .simp only[X0.down,simprocAttr,pd,(Kn c1),q5];exact cx (aa @pd (aa (Kn c1) @q5))
  refine o8 rfl ?_;refine bn (cz _ (inl ?_));obtain⟨abo,ka,h⟩:=aO h;(try simp only[lo.down,Nat.zero_add,Nat.add_zero,reduceAdd]at ka);refine dC (aa (show∀s,ef az s 22 0 []=some (.ad 1 [],s)from λs=>by kernel_rfl) (aa (@jy az 22 22 2 rfl rfl) (aa @jz (aa @jA (aa @iY (aa @jx (aa @all_nil (aa ka (@jw _ aC 1 λ_=>rfl))))))))) _ ?_;exact ep aE [.ad 1 (a0.map aC)]
theorem L_ (a0 r) (h:xC a0=some r):bx az 81 [.int .i64 a0] (.ad 2 (r.map ba)) []:=by
 refine cv [0] [.tmp 2] Tryz.func81 U2 λcn aE cl=>aI ?_;refine dC (aa (show∀s,gm az s 102 [(0,.int .i64 1),(1,.int .i64 a0)]=some (.agg [.int .i64 1,.int .i64 a0],s)from λs=>by kernel_rfl) (show∀s,ef az s 59 1 [(0,.agg [.int .i64 1,.int .i64 a0])]=some (.ad 2 [.agg [.int .i64 1,.int .i64 a0]],s)from λs=>by kernel_rfl)) _ ?_;exact ep aE [.ad 2 ([(aG.mk 1 a0)].map ba)]
theorem Ma (a0 ab bF r) (h:Ev a0 ab bF=some r):bx az 80 [.int .i64 a0,.ref (ca ab),.ref (.slice (bF.map aC))] (Dk (λy=>.ad 2 (y.map ba)) r) []:=by
 refine cv [0,1,2] [.tmp 4] Tryz.func80 U3 λcn aE cl=>aI ?_;refine aR aE λ_ cz bL aH=>aI ?_;refine bo h (λc1 h=>?_) λc1 h=>?_
 .obtain⟨af,bT,h⟩:=aO h;refine et (L_ (i64.wrap ((i64.wrap (a0-ab.a8))+(bF.length:Int))) _ bT) _ ?_;exact ep bL [.ad 2 (af.map ba)]
 .refine bn (cz _ (inl (aR aE λ_ eM ek _=>?_)));obtain⟨aH,iC,h⟩:=aO h;refine et (L7 bF a0 _ iC) _ ?_;refine aI ?_;refine bo h (λkN h=>?_) λkN h=>?_
  .obtain⟨aM,fk,h⟩:=aO h;refine et (L_ aH _ fk) _ ?_;exact ep ek [.ad 2 (aM.map ba)]
  .exact bn (eM _ (inl (bw aE [.aJ])))
theorem XJ (a0 cj ct r) (h:Ex a0 cj ct=some r):bx az 76 [.slice (a0.map ba),.fn 80 [.ref (ca cj),.ref (.slice (ct.map aC))]] (.ad 2 (r.map ba)) []:=by
 refine cv [0,1] [.tmp 4] Tryz.func76 E1 λcn aE cl=>aI ?_;refine aI ?_;refine aR aE λ_ hF eZ aM=>aI ?_;refine bP eZ λoB _ dn df _=>?_;show bk az (.loop ?gE) _ _;have g5:∀n cw eB,qj a0 cj ct n cw eB=some r->c_ az ?gE oB (an [(1,.fn 80 [.ref (ca cj),.ref (.slice (ct.map aC))]),(5,.ad 2 (cw.map ba)),(9,.slice (a0.map ba)),(10,.int .i64 (a0.length:Int)),(11,.int .i64 eB)]):=by
  refine dy λhL gH cw eB h=>dx dn λ_ eS dN bY=>aI ?_;refine aR dN λ_ gI _ dB=>bo h (λg4 h=>?_) λg4 h=>?_
  .refine bn (gI _ (inl (aR dN λ_ c5 dJ _=>bP dJ λx8 ea fO _ _=>?_)));obtain⟨af,fk,h⟩:=aO h;refine dC fk _ ?_;refine aI ?_;refine aR fO λ_ j2 _ _=>aI ?_;refine bo h (λgv h=>?_) λgv h=>?_
   .obtain⟨aH,hR,h⟩:=aO h;rcases R7 h with⟨mD,h⟩|⟨aM,mD,h⟩
    .refine E6 (by have q:=(Ma af.Value cj ct _ hR);simp only[mD,Dk]at q;exact q) _ ?_;refine j2 _ (inl ?_);show bk az (.seq _ ?tr) _ _;have tt:∀im iq iK,qi (qj a0 cj ct hL) a0 cj ct im iq iK=some r->bk az ?tr x8 (an [(1,.fn 80 [.ref (ca cj),.ref (.slice (ct.map aC))]),(5,.ad 2 (im.map ba)),(8,.ad 2 (iq.map ba)),(9,.slice (a0.map ba)),(10,.int .i64 (a0.length:Int)),(11,.int .i64 iK)]):=by
      intro im iq iK h;obtain⟨abp,mI,h⟩:=aO h;(try simp only[lo.down,Nat.zero_add,Nat.add_zero,reduceAdd]at mI);refine ot (aa (@jy az 59 59 102 rfl rfl) (aa @jz (aa @jA (aa @iY (aa @jx (aa @all_nil (aa mI (@jw _ ba 2 λ_=>rfl)))))))) [(1,.fn 80 [.ref (ca cj),.ref (.slice (ct.map aC))]),(5,.ad 2 ((im++iq).map ba)),(9,.slice (a0.map ba)),(10,.int .i64 (a0.length:Int)),(11,.int .i64 iK)] ?_;refine ea _ (c5 _ (inl (wr [(1,.fn 80 [.ref (ca cj),.ref (.slice (ct.map aC))]),(5,.ad 2 ((im++iq).map ba)),(9,.slice (a0.map ba)),(10,.int .i64 (a0.length:Int)),(11,.int .i64 (i64.wrap (iK+1)))] ?_)));exact eS _ (inr ⟨_,cr rfl,gH (im++iq) (i64.wrap (iK+1)) h⟩)
     refine aR fO λ_ oz _ _=>dC @pd _ ?_;refine jg rfl ?_;refine ot (show∀s,ef az s 59 1 [(0,.agg [.int .i64 af.Kind,.int .i64 af.Value])]=some (.ad 2 [.agg [.int .i64 af.Kind,.int .i64 af.Value]],s)from λs=>by kernel_rfl) _ ?_;exact oz _ (inr ⟨_,cr rfl,tt cw [af] eB h⟩)
    .refine E6 (by have q:=(Ma af.Value cj ct _ hR);simp only[mD,Dk]at q;exact q) _ ?_;refine j2 _ (inl ?_);show bk az (.seq _ ?tr) _ _;have tt:∀im iq iK,qi (qj a0 cj ct hL) a0 cj ct im iq iK=some r->bk az ?tr x8 (an [(1,.fn 80 [.ref (ca cj),.ref (.slice (ct.map aC))]),(5,.ad 2 (im.map ba)),(8,.ad 2 (iq.map ba)),(9,.slice (a0.map ba)),(10,.int .i64 (a0.length:Int)),(11,.int .i64 iK)]):=by
      intro im iq iK h;obtain⟨abq,vB,h⟩:=aO h;(try simp only[lo.down,Nat.zero_add,Nat.add_zero,reduceAdd]at vB);refine ot (aa (@jy az 59 59 102 rfl rfl) (aa @jz (aa @jA (aa @iY (aa @jx (aa @all_nil (aa vB (@jw _ ba 2 λ_=>rfl)))))))) [(1,.fn 80 [.ref (ca cj),.ref (.slice (ct.map aC))]),(5,.ad 2 ((im++iq).map ba)),(9,.slice (a0.map ba)),(10,.int .i64 (a0.length:Int)),(11,.int .i64 iK)] ?_;refine ea _ (c5 _ (inl (wr [(1,.fn 80 [.ref (ca cj),.ref (.slice (ct.map aC))]),(5,.ad 2 ((im++iq).map ba)),(9,.slice (a0.map ba)),(10,.int .i64 (a0.length:Int)),(11,.int .i64 (i64.wrap (iK+1)))] ?_)));exact eS _ (inr ⟨_,cr rfl,gH (im++iq) (i64.wrap (iK+1)) h⟩)
     refine aR fO λ_ td _ _=>?_;rcases gi h with⟨kL,h⟩|⟨kL,h⟩
     .refine dm (cA [(1,.fn 80 [.ref (ca cj),.ref (.slice (ct.map aC))]),(5,.ad 2 (cw.map ba)),(7,.aD (ba af)),(8,.ad 2 (aM.map ba)),(9,.slice (a0.map ba)),(10,.int .i64 (a0.length:Int)),(11,.int .i64 eB),(23,.eF)] (λP bB=>?_) ?_)
      .simp only[X0.down,simprocAttr,pd,(Ko kL),q5];exact cx (aa @pd (aa (Ko kL) @q5))
      obtain⟨XK,h⟩:=GQ h;refine JR rfl ?_ ?_
      .replace h:=XK;refine ot (show∀s,ef az s 59 1 [(0,.agg [.int .i64 af.Kind,.int .i64 af.Value])]=some (.ad 2 [.agg [.int .i64 af.Kind,.int .i64 af.Value]],s)from λs=>by kernel_rfl) _ ?_;exact td _ (inr ⟨_,cr rfl,tt cw [af] eB h⟩)
      .exact bn (td _ (inr ⟨_,cr rfl,tt cw aM eB h⟩))
     .refine dm (cA [(1,.fn 80 [.ref (ca cj),.ref (.slice (ct.map aC))]),(5,.ad 2 (cw.map ba)),(7,.aD (ba af)),(8,.ad 2 (aM.map ba)),(9,.slice (a0.map ba)),(10,.int .i64 (a0.length:Int)),(11,.int .i64 eB),(23,.bool false)] (λP bB=>?_) ?_)
      .simp only[X0.down,simprocAttr,pd,(Kp kL),q5];exact cx (aa @pd (aa (Kp kL) @q5))
      refine o8 rfl ?_;exact bn (td _ (inr ⟨_,cr rfl,tt cw aM eB h⟩))
   .refine bn (j2 _ (inl ?_));show bk az (.seq _ ?tr) _ _;have tt:∀im iq iK,qi (qj a0 cj ct hL) a0 cj ct im iq iK=some r->bk az ?tr x8 (an [(1,.fn 80 [.ref (ca cj),.ref (.slice (ct.map aC))]),(5,.ad 2 (im.map ba)),(8,.ad 2 (iq.map ba)),(9,.slice (a0.map ba)),(10,.int .i64 (a0.length:Int)),(11,.int .i64 iK)]):=by
     intro im iq iK h;obtain⟨abr,qs,h⟩:=aO h;(try simp only[lo.down,Nat.zero_add,Nat.add_zero,reduceAdd]at qs);refine ot (aa (@jy az 59 59 102 rfl rfl) (aa @jz (aa @jA (aa @iY (aa @jx (aa @all_nil (aa qs (@jw _ ba 2 λ_=>rfl)))))))) [(1,.fn 80 [.ref (ca cj),.ref (.slice (ct.map aC))]),(5,.ad 2 ((im++iq).map ba)),(9,.slice (a0.map ba)),(10,.int .i64 (a0.length:Int)),(11,.int .i64 iK)] ?_;refine ea _ (c5 _ (inl (wr [(1,.fn 80 [.ref (ca cj),.ref (.slice (ct.map aC))]),(5,.ad 2 ((im++iq).map ba)),(9,.slice (a0.map ba)),(10,.int .i64 (a0.length:Int)),(11,.int .i64 (i64.wrap (iK+1)))] ?_)));exact eS _ (inr ⟨_,cr rfl,gH (im++iq) (i64.wrap (iK+1)) h⟩)
    refine aR fO λ_ n35 _ _=>dC @pd _ ?_;refine jg rfl ?_;refine ot (show∀s,ef az s 59 1 [(0,.agg [.int .i64 af.Kind,.int .i64 af.Value])]=some (.ad 2 [.agg [.int .i64 af.Kind,.int .i64 af.Value]],s)from λs=>by kernel_rfl) _ ?_;exact n35 _ (inr ⟨_,cr rfl,tt cw [af] eB h⟩)
  .exact dq (dB 0 _ (bY 0 _ (df _ (hF _ (inl (bw aE [.ad 2 (cw.map ba)]))))))
 obtain⟨n,h⟩:=lB h;exact lN (inr ⟨_,kD [] rfl (dh (t:=1) (d:=.fn 80 [.ref (ca cj),.ref (.slice (ct.map aC))]) rfl (jv (t:=5) (d:=.aJ) (bb:=.ad 2 []) rfl rfl (.gL _) (by decide) (dh (t:=9) (d:=.slice (a0.map ba)) rfl (dh (t:=10) (d:=.int .i64 (a0.length:Int)) rfl (dh (t:=11) (d:=.int .i64 0) rfl (kE)))))),g5 n [] 0 h⟩)
theorem Mb (a0 ab bF a3 r) (h:xD a0 ab bF a3=some r):bx az 79 [cM a0,.slice (ab.map ba),.ref (ca bF),.ref (.slice (a3.map aC))] (.ad 2 (r.map ba)) []:=by
 refine cv [0,1,2,3] [.tmp 6] Tryz.func79 U4 λcn aE cl=>aI ?_;obtain⟨af,a1,h⟩:=aO h;refine et (XJ ab bF a3 _ a1) _ ?_;exact ep aE [.ad 2 (af.map ba)]
theorem Mc (a0 cj ct bF r) (h:xE a0 cj ct bF=some r):bx az 75 [.slice (a0.map cV),.ref (.fn 79 [.ref (ca cj),.ref (.slice (ct.map aC))]),.ref (cM bF)] (.ad 1 (r.map di)) []:=by
 refine cv [0,1,2] [.tmp 4] Tryz.func75 U5 λcn aE cl=>aI ?_;refine aI ?_;refine aR aE λ_ hF eZ _=>aI ?_;refine bP eZ λoB _ dn df _=>?_;show bk az (.loop ?gE) _ _;have g5:∀n cw nz,u9 a0 bF cj ct n cw nz=some r->c_ az ?gE oB (an [(1,.ref (.fn 79 [.ref (ca cj),.ref (.slice (ct.map aC))])),(2,.ref (cM bF)),(5,.ad 1 (cw.map di)),(8,.slice (a0.map cV)),(9,.int .i64 (a0.length:Int)),(10,.int .i64 nz)]):=by
  refine dy λ_ gH cw nz h=>dx dn λ_ eS dN bY=>aI ?_;refine aR dN λ_ gI _ dB=>bo h (λg4 h=>?_) λg4 h=>?_
  .refine bn (gI _ (inl (aR dN λ_ c5 dJ _=>bP dJ λ_ ea _ _ _=>?_)));obtain⟨af,fk,h⟩:=aO h;refine dC fk _ ?_;obtain⟨aH,fs,h⟩:=aO h;obtain⟨LI,dt,h⟩:=aO h;(try simp only[vq.down,Nat.zero_add,Nat.add_zero,reduceAdd]at dt);refine h3 (cA [(1,.ref (.fn 79 [.ref (ca cj),.ref (.slice (ct.map aC))])),(2,.ref (cM bF)),(5,.ad 1 ((cw++[aH]).map di)),(8,.slice (a0.map cV)),(9,.int .i64 (a0.length:Int)),(10,.int .i64 nz)] (λP bB=>?_) ?_)
   ·(try simp only[X0.down,simprocAttr,ou.down,hD,dd,dt]);refine dS (Mb bF af cj ct _ fs) (hK:= ?_);simp only[X0.down,simprocAttr,ou.down,hD,dd,dt];(try simp only[hP.down,simprocAttr,ou.down,hD,dd,dt]at bB⊢);exact bB
   refine ea _ (c5 _ (inl (wr [(1,.ref (.fn 79 [.ref (ca cj),.ref (.slice (ct.map aC))])),(2,.ref (cM bF)),(5,.ad 1 ((cw++[aH]).map di)),(8,.slice (a0.map cV)),(9,.int .i64 (a0.length:Int)),(10,.int .i64 (i64.wrap (nz+1)))] ?_)));exact eS _ (inr ⟨_,cr rfl,gH (cw++[aH]) (i64.wrap (nz+1)) h⟩)
  .exact dq (dB 0 _ (bY 0 _ (df _ (hF _ (inl (bw aE [.ad 1 (cw.map di)]))))))
 obtain⟨n,h⟩:=lB h;exact lN (inr ⟨_,kD [] rfl (dh (t:=1) (d:=.ref (.fn 79 [.ref (ca cj),.ref (.slice (ct.map aC))])) rfl (dh (t:=2) (d:=.ref (cM bF)) rfl (jv (t:=5) (d:=.aJ) (bb:=.ad 1 []) rfl rfl (.gL _) (by decide) (dh (t:=8) (d:=.slice (a0.map cV)) rfl (dh (t:=9) (d:=.int .i64 (a0.length:Int)) rfl (dh (t:=10) (d:=.int .i64 0) rfl (kE))))))),g5 n [] 0 h⟩)
theorem XL (a0 cj ct r) (h:Ap a0 cj ct=some r):bx az 35 [ca a0,.fn 79 [.ref (ca cj),.ref (.slice (ct.map aC))]] (eC r) []:=by
 refine cv [0,1] [.cell 4 29] Tryz.func35 U7 λcn aE cl=>dC (aa @nk (show∀s,h0 s (.fn 79 [.ref (.agg [.int .i64 cj.a8,.slice (cj.Start.map aC),.slice (cj.aW.map cM)]),.ref (.slice (ct.map aC))])=some (.ref (.fn 79 [.ref (.agg [.int .i64 cj.a8,.slice (cj.Start.map aC),.slice (cj.aW.map cM)]),.ref (.slice (ct.map aC))]),s)from λs=>rfl)) _ ?_;obtain⟨af,a1,h⟩:=aO h;refine ri (aa (@zr az 29 [(2,0),(22,1),(27,2)] [(.int .i64 0),.aJ,.aJ] rfl rfl (by kernel_rfl)) (aa @q1 (aa @q2 (aa @fj (aa @iY (aa @List.nil_append.{0} @List.cons_append.{0})))))) (L9 a0.Start _ a1) _ ?_;refine aR aE λ_ fX cy aT=>aI ?_;refine bP cy λhQ _ dN e6 bY=>?_;have g5:∀n cw nA,u_ a0 cj ct af n cw nA=some r->c_ az Ll hQ (an [(3,.ref (.fn 79 [.ref (ca cj),.ref (.slice (ct.map aC))])),(4,.aD (.agg [.int .i64 0,.aJ,.aJ])),(5,.aD (.agg [.int .i64 a0.a8,.ad 1 (af.map aC),.ad 5 (cw.map cG)])),(16,.slice (a0.aW.map cM)),(17,.int .i64 (a0.aW.length:Int)),(18,.int .i64 nA)]):=by
  refine dy λ_ gH cw nA h=>dx dN λ_ eM ek b1=>aI ?_;refine aR ek λ_ dP _ dr=>bo h (λho h=>?_) λho h=>?_
  .refine bn (dP _ (inl (aR ek λ_ ea fO _=>bP fO λ_ g6 _ _ _=>?_)));obtain⟨aH,fq,h⟩:=aO h;refine dC fq _ ?_;refine aI ?_;obtain⟨aM,jD,h⟩:=aO h;obtain⟨aT,gg,h⟩:=aO h;obtain⟨bf,hR,h⟩:=aO h;obtain⟨bY,nD,h⟩:=aO h;obtain⟨Xy,hp,h⟩:=aO h;(try simp only[vq.down,Nat.zero_add,Nat.add_zero,reduceAdd]at hp);refine w7 rfl (o_ [(3,.ref (.fn 79 [.ref (ca cj),.ref (.slice (ct.map aC))])),(4,.aD (.agg [.int .i64 0,.aJ,.aJ])),(5,.aD (.agg [.int .i64 a0.a8,.ad 1 (af.map aC),.ad 5 ((cw++[(bc.mk aM aT aH.Name bf bY)]).map cG)])),(16,.slice (a0.aW.map cM)),(17,.int .i64 (a0.aW.length:Int)),(18,.int .i64 nA)] (λP bB=>?_) ?_)
   ·(try simp only[fI.down,simprocAttr,vt.down,eA,dd,hD,hp]);refine k7 (L9 aH.bs _ jD) (hK:= ?_);simp only[fI.down,simprocAttr,vt.down,eA,dd,hD,hp];refine k7 (Mb aH aH.Guard cj ct _ gg) (hK:= ?_);simp only[fI.down,simprocAttr,vt.down,eA,dd,hD,hp];refine k7 (Mc aH.bl cj ct aH _ hR) rfl rfl (by simp only[fI.down,simprocAttr,Lx.down,eA,dd,hD,hp]<;>rfl) rfl (inr (ju (λ_=>Aw _) _)) ?_;simp only[fI.down,simprocAttr,vt.down,eA,dd,hD,hp];refine k7 (Mc aH.Next cj ct aH _ nD) rfl rfl (by simp only[fI.down,simprocAttr,Lx.down,eA,dd,hD,hp]<;>rfl) rfl (inr (ju (λ_=>Aw _) _)) ?_;simp only[fI.down,simprocAttr,vt.down,eA,dd,hD,hp];refine⟨n9 (by kernel_rfl),?_⟩;(try simp only[hP.down,simprocAttr,vt.down,eA,dd,hD,hp]at bB⊢);exact bB
   refine g6 _ (ea _ (inl (wr [(3,.ref (.fn 79 [.ref (ca cj),.ref (.slice (ct.map aC))])),(4,.aD (.agg [.int .i64 0,.aJ,.aJ])),(5,.aD (.agg [.int .i64 a0.a8,.ad 1 (af.map aC),.ad 5 ((cw++[(bc.mk aM aT aH.Name bf bY)]).map cG)])),(16,.slice (a0.aW.map cM)),(17,.int .i64 (a0.aW.length:Int)),(18,.int .i64 (i64.wrap (nA+1)))] ?_)));exact eM _ (inr ⟨_,cr rfl,gH (cw++[(bc.mk aM aT aH.Name bf bY)]) (i64.wrap (nA+1)) h⟩)
  .exact dq (dr 0 _ (b1 0 _ (e6 _ (fX _ (inl (bw aE [eC (bj.mk a0.a8 af cw)]))))))
 obtain⟨n,h⟩:=lB h;exact lN (inr ⟨_,kD [] rfl (dh (t:=3) (d:=.ref (.fn 79 [.ref (ca cj),.ref (.slice (ct.map aC))])) rfl (dh (t:=4) (d:=.aD (.agg [.int .i64 0,.aJ,.aJ])) rfl (jv (t:=5) (d:=.aD (.agg [.int .i64 a0.a8,.ad 1 (af.map aC),.aJ])) (bb:=.aD (.agg [.int .i64 a0.a8,.ad 1 (af.map aC),.ad 5 []])) rfl rfl (.aD (.agg (.cons (.refl _) (.cons (.refl _) (.cons (.gL _) (.nil)))))) (by decide) (dh (t:=16) (d:=.slice (a0.aW.map cM)) rfl (dh (t:=17) (d:=.int .i64 (a0.aW.length:Int)) rfl (dh (t:=18) (d:=.int .i64 0) rfl (kE))))))),g5 n [] 0 h⟩)
theorem XM (a0 ab r) (h:Aq a0 ab=some r):bx az 38 [ca a0,.slice (ab.map aC)] (eC r) []:=by
 refine bx.Tg (fx:=[0,1]) K5 [.cell 4 29] [(0,ca a0),(1,.slice (ab.map aC))] Tryz.func38 rfl rfl Vv (le_of_ble_eq_true rfl) Vu rfl rfl λcn aE cl=>?_;refine aI ?_;obtain⟨af,a1,h⟩:=aO h;refine dm (cA [(2,.aD (ca a0)),(3,.aD (.slice (ab.map aC))),(4,.aD (.agg [.int .i64 0,.aJ,.aJ])),(5,.aD (eC af))] (λP bB=>?_) ?_)
 ·(try simp only[X0.down,simprocAttr]);refine dS (XL a0 a0 ab _ a1) rfl rfl (by simp only[X0.down,simprocAttr,iF,iG,iH,e1, @c2 _ aC aC (λ_=>hn _), @c2 _ cM cM (λ_=>vp _), @c2 _ aC aC (λ_=>hn _)]<;>rfl) rfl (inr (Az _)) ?_;simp only[X0.down,simprocAttr];exact cx trivial
 refine aI ?_;refine aI ?_;refine aR aE λ_ eS dN bY=>aI ?_;refine bP dN λoD _ i2 dL _=>?_;have XN:∀n mB nB,vb a0 ab af n mB nB=some r->c_ az Lm oD (an [(2,.aD (ca a0)),(3,.aD (.slice (ab.map aC))),(4,.aD (.agg [.int .i64 0,.aJ,.aJ])),(5,.aD (.agg [.int .i64 (ab.length:Int),.ad 1 (mB.map aC),.ad 5 (af.aW.map cG)])),(20,.slice (ab.map aC)),(21,.int .i64 (ab.length:Int)),(22,.int .i64 nB)]):=by
  refine dy λ_ XO mB nB h=>dx i2 λ_ dP dI dr=>aI ?_;refine aR dI λ_ ea _ lh=>bo h (λhG h=>?_) λhG h=>?_
  .refine bn (ea _ (inl (aR dI λ_ hr l3 _=>bP l3 λ_ gM _ _ _=>?_)));obtain⟨aH,dt,h⟩:=aO h;refine dC dt _ ?_;obtain⟨aM,gg,h⟩:=aO h;obtain⟨abt,hR,h⟩:=aO h;(try simp only[lo.down,Nat.zero_add,Nat.add_zero,reduceAdd]at hR);refine Lr (aa gg (aa (show∀s,ef az s 22 1 [(0,.int .i64 aM)]=some (.ad 1 [.int .i64 aM],s)from λs=>by kernel_rfl) (aa (@jy az 22 22 2 rfl rfl) (aa @jz (aa @jA (aa @iY (aa @jx (aa @all_nil (aa hR (@jw _ aC 1 λ_=>rfl)))))))))) [(2,.aD (ca a0)),(3,.aD (.slice (ab.map aC))),(4,.aD (.agg [.int .i64 0,.aJ,.aJ])),(5,.aD (.agg [.int .i64 (ab.length:Int),.ad 1 ((mB++[aM]).map aC),.ad 5 (af.aW.map cG)])),(20,.slice (ab.map aC)),(21,.int .i64 (ab.length:Int)),(22,.int .i64 nB)] ?_;refine gM _ (hr _ (inl (wr [(2,.aD (ca a0)),(3,.aD (.slice (ab.map aC))),(4,.aD (.agg [.int .i64 0,.aJ,.aJ])),(5,.aD (.agg [.int .i64 (ab.length:Int),.ad 1 ((mB++[aM]).map aC),.ad 5 (af.aW.map cG)])),(20,.slice (ab.map aC)),(21,.int .i64 (ab.length:Int)),(22,.int .i64 (i64.wrap (nB+1)))] ?_)));exact dP _ (inr ⟨_,cr rfl,XO (mB++[aM]) (i64.wrap (nB+1)) h⟩)
  .refine dq (lh 0 _ (dr 0 _ (dL _ (eS _ (inl (aR aE λ_ oz mE _=>aI ?_))))));refine bP mE λFL _ x0 kK _=>?_;have FD:∀n eX g2 er,qk ab af n eX g2 er=some r->c_ az Lo FL (an [(3,.aD (.slice (ab.map aC))),(4,.aD (.agg [.int .i64 0,.aJ,.aJ])),(5,.aD (.agg [.int .i64 (ab.length:Int),.ad 1 (eX.map aC),.ad 5 (g2.map cG)])),(38,.h 5 [0,2]),(39,.int .i64 (af.aW.length:Int)),(40,.int .i64 er)]):=by
    refine dy λFE FF eX g2 er h=>dx x0 λ_ qn qo FM=>aI ?_;refine aR qo λ_ x7 _ FN=>bo h (λoC h=>?_) λoC h=>?_
    .refine bn (x7 _ (inl (aR qo λ_ vA x6 _=>bP x6 λ_ n29 XP _ _=>?_)));obtain⟨aT,jF,h⟩:=aO h;refine Tj [(3,.aD (.slice (ab.map aC))),(4,.aD (.agg [.int .i64 0,.aJ,.aJ])),(5,.aD (.agg [.int .i64 (ab.length:Int),.ad 1 (eX.map aC),.ad 5 (List.set (List.map cG g2) (Int.toNat er) (.agg [.ad 1 (aT.bs.map aC),.ad 2 (aT.Guard.map ba),.str aT.Name,.ad 1 (aT.bl.map di),.hole]))])),(8,.int .i64 er),(9,.aD (.agg [.hole,.hole,.str aT.Name,.hole,.ad 1 (aT.Next.map di)])),(38,.h 5 [0,2]),(39,.int .i64 (af.aW.length:Int)),(40,.int .i64 er)] (λP bB=>?_) ?_
     ·(try simp only[X0.down,simprocAttr,jF,cD jF]);refine Tl (by simp only[X0.down,simprocAttr,jF,cD jF,Tk,fj,j.dF];rfl) ?_;simp only[X0.down,simprocAttr,jF,cD jF,I7];exact cx (aa jF (cD jF))
     refine ws [(3,.aD (.slice (ab.map aC))),(4,.aD (.agg [.int .i64 0,.aJ,.aJ])),(5,.aD (.agg [.int .i64 (ab.length:Int),.ad 1 (eX.map aC),.ad 5 (List.set (List.map cG g2) (Int.toNat er) (.agg [.ad 1 (aT.bs.map aC),.ad 2 (aT.Guard.map ba),.str aT.Name,.ad 1 (aT.bl.map di),.hole]))])),(8,.int .i64 er),(9,.aD (.agg [.hole,.hole,.str aT.Name,.hole,.ad 1 (aT.Next.map di)])),(10,.aJ),(38,.h 5 [0,2]),(39,.int .i64 (af.aW.length:Int)),(40,.int .i64 er)] ?_;refine aR XP λ_ n33 tl _=>ws [(3,.aD (.slice (ab.map aC))),(4,.aD (.agg [.int .i64 0,.aJ,.aJ])),(5,.aD (.agg [.int .i64 (ab.length:Int),.ad 1 (eX.map aC),.ad 5 (List.set (List.map cG g2) (Int.toNat er) (.agg [.ad 1 (aT.bs.map aC),.ad 2 (aT.Guard.map ba),.str aT.Name,.ad 1 (aT.bl.map di),.hole]))])),(8,.int .i64 er),(9,.aD (.agg [.hole,.hole,.str aT.Name,.hole,.ad 1 (aT.Next.map di)])),(10,.aJ),(38,.h 5 [0,2]),(39,.int .i64 (af.aW.length:Int)),(40,.int .i64 er),(45,.slice (ab.map aC)),(46,.int .i64 (ab.length:Int)),(47,.int .i64 0)] ?_;refine bP tl λXQ _ FI XR _=>?_;have XS:∀n mA kj ln,va (qk ab af FE) ab eX er g2 af aT n mA kj ln=some r->c_ az Ln XQ (an [(3,.aD (.slice (ab.map aC))),(4,.aD (.agg [.int .i64 0,.aJ,.aJ])),(5,.aD (.agg [.int .i64 (ab.length:Int),.ad 1 (eX.map aC),.ad 5 (List.set (List.map cG g2) (Int.toNat er) (.agg [.ad 1 (aT.bs.map aC),.ad 2 (aT.Guard.map ba),.str aT.Name,.ad 1 (aT.bl.map di),.hole]))])),(8,.int .i64 er),(9,.aD (.agg [.hole,.hole,.str aT.Name,.hole,.ad 1 (mA.map pC)])),(10,.ad 1 (kj.map di)),(38,.h 5 [0,2]),(39,.int .i64 (af.aW.length:Int)),(40,.int .i64 er),(45,.slice (ab.map aC)),(46,.int .i64 (ab.length:Int)),(47,.int .i64 ln)]):=by
      refine dy λ_ XT mA kj ln h=>dx FI λ_ n36 Md XU=>ws [(3,.aD (.slice (ab.map aC))),(4,.aD (.agg [.int .i64 0,.aJ,.aJ])),(5,.aD (.agg [.int .i64 (ab.length:Int),.ad 1 (eX.map aC),.ad 5 (List.set (List.map cG g2) (Int.toNat er) (.agg [.ad 1 (aT.bs.map aC),.ad 2 (aT.Guard.map ba),.str aT.Name,.ad 1 (aT.bl.map di),.hole]))])),(8,.int .i64 er),(9,.aD (.agg [.hole,.hole,.str aT.Name,.hole,.ad 1 (mA.map pC)])),(10,.ad 1 (kj.map di)),(38,.h 5 [0,2]),(39,.int .i64 (af.aW.length:Int)),(40,.int .i64 er),(45,.slice (ab.map aC)),(46,.int .i64 (ab.length:Int)),(47,.int .i64 ln),(48,.bool (decide (ln<(ab.length:Int))))] ?_;refine aR Md λ_ n38 _ FJ=>bo h (λi3 h=>?_) λi3 h=>?_
      .refine bn (n38 _ (inl (aR Md λ_ n40 x3 _=>bP x3 λ_ n41 _ _ _=>?_)));obtain⟨bf,XV,h⟩:=aO h;refine dC XV [(3,.aD (.slice (ab.map aC))),(4,.aD (.agg [.int .i64 0,.aJ,.aJ])),(5,.aD (.agg [.int .i64 (ab.length:Int),.ad 1 (eX.map aC),.ad 5 (List.set (List.map cG g2) (Int.toNat er) (.agg [.ad 1 (aT.bs.map aC),.ad 2 (aT.Guard.map ba),.str aT.Name,.ad 1 (aT.bl.map di),.hole]))])),(8,.int .i64 er),(9,.aD (.agg [.hole,.hole,.str aT.Name,.hole,.ad 1 (mA.map pC)])),(10,.ad 1 (kj.map di)),(12,.int .i64 bf),(38,.h 5 [0,2]),(39,.int .i64 (af.aW.length:Int)),(40,.int .i64 er),(45,.slice (ab.map aC)),(46,.int .i64 (ab.length:Int)),(47,.int .i64 ln)] ?_;obtain⟨bY,pH,h⟩:=aO h;obtain⟨XW,AJ,h⟩:=aO h;obtain⟨XW,tq,h⟩:=aO h;(try simp only[vq.down,Nat.zero_add,Nat.add_zero,reduceAdd]at tq);refine h3 (cA [(3,.aD (.slice (ab.map aC))),(4,.aD (.agg [.int .i64 0,.aJ,.aJ])),(5,.aD (.agg [.int .i64 (ab.length:Int),.ad 1 (eX.map aC),.ad 5 (List.set (List.map cG g2) (Int.toNat er) (.agg [.ad 1 (aT.bs.map aC),.ad 2 (aT.Guard.map ba),.str aT.Name,.ad 1 (aT.bl.map di),.hole]))])),(8,.int .i64 er),(9,.aD (.agg [.hole,.hole,.str aT.Name,.hole,.ad 1 ((List.set mA (Int.toNat bf) (true,bY.2)).map pC)])),(10,.ad 1 ((kj++[bY.2]).map di)),(38,.h 5 [0,2]),(39,.int .i64 (af.aW.length:Int)),(40,.int .i64 er),(45,.slice (ab.map aC)),(46,.int .i64 (ab.length:Int)),(47,.int .i64 ln)] (λP bB=>?_) ?_)
       .simp only[X0.down,simprocAttr,pH,cD pH,Ly.down,(Ld AJ),hD,dd,tq];(try simp only[hP.down,simprocAttr,pH,cD pH,Ly.down,(Ld AJ),hD,dd,tq]at bB⊢);exact bB
       refine n41 _ (n40 _ (inl (wr [(3,.aD (.slice (ab.map aC))),(4,.aD (.agg [.int .i64 0,.aJ,.aJ])),(5,.aD (.agg [.int .i64 (ab.length:Int),.ad 1 (eX.map aC),.ad 5 (List.set (List.map cG g2) (Int.toNat er) (.agg [.ad 1 (aT.bs.map aC),.ad 2 (aT.Guard.map ba),.str aT.Name,.ad 1 (aT.bl.map di),.hole]))])),(8,.int .i64 er),(9,.aD (.agg [.hole,.hole,.str aT.Name,.hole,.ad 1 ((List.set mA (Int.toNat bf) (true,bY.2)).map pC)])),(10,.ad 1 ((kj++[bY.2]).map di)),(38,.h 5 [0,2]),(39,.int .i64 (af.aW.length:Int)),(40,.int .i64 er),(45,.slice (ab.map aC)),(46,.int .i64 (ab.length:Int)),(47,.int .i64 (i64.wrap (ln+1)))] ?_)));exact n36 _ (inr ⟨_,cr rfl,XT (List.set mA (Int.toNat bf) (true,bY.2)) (kj++[bY.2]) (i64.wrap (ln+1)) h⟩)
      .refine dq (FJ 4 _ (XU 4 _ (XR _ (n33 _ (inl ?_)))));obtain⟨b1,jH,h⟩:=aO h;refine h3 (cA [(3,.aD (.slice (ab.map aC))),(4,.aD (.agg [.int .i64 0,.aJ,.aJ])),(5,.aD (.agg [.int .i64 (ab.length:Int),.ad 1 (eX.map aC),.ad 5 ((List.set g2 (Int.toNat er) (bc.mk aT.bs aT.Guard aT.Name aT.bl kj)).map cG)])),(38,.h 5 [0,2]),(39,.int .i64 (af.aW.length:Int)),(40,.int .i64 er)] (λP bB=>?_) ?_)
       .simp only[X0.down,simprocAttr,jH,cD jH,(sA (cD jH)),sB,(K4 jH),fj,dg,Ks,Kt];exact cx (aa jH (aa (cD jH) (aa (sA (cD jH)) (aa @sB (aa (K4 jH) (aa @fj (aa @Ks @Kt)))))))
       refine n29 _ (vA _ (inl (wr [(3,.aD (.slice (ab.map aC))),(4,.aD (.agg [.int .i64 0,.aJ,.aJ])),(5,.aD (.agg [.int .i64 (ab.length:Int),.ad 1 (eX.map aC),.ad 5 ((List.set g2 (Int.toNat er) (bc.mk aT.bs aT.Guard aT.Name aT.bl kj)).map cG)])),(38,.h 5 [0,2]),(39,.int .i64 (af.aW.length:Int)),(40,.int .i64 (i64.wrap (er+1)))] ?_)));exact qn _ (inr ⟨_,cr rfl,FF eX (List.set g2 (Int.toNat er) (bc.mk aT.bs aT.Guard aT.Name aT.bl kj)) (i64.wrap (er+1)) h⟩)
     obtain⟨n,h⟩:=lB h;exact lN (inr ⟨_,kD [5] rfl (dh (t:=3) (d:=.aD (.slice (ab.map aC))) rfl (dh (t:=4) (d:=.aD (.agg [.int .i64 0,.aJ,.aJ])) rfl (dh (t:=5) (d:=.aD (.agg [.int .i64 (ab.length:Int),.ad 1 (eX.map aC),.ad 5 (List.set (List.map cG g2) (Int.toNat er) (.agg [.ad 1 (aT.bs.map aC),.ad 2 (aT.Guard.map ba),.str aT.Name,.ad 1 (aT.bl.map di),.hole]))])) rfl (dh (t:=8) (d:=.int .i64 er) rfl (jv (t:=9) (d:=.aD (.agg [.hole,.hole,.str aT.Name,.hole,.ad 1 (aT.Next.map di)])) (bb:=.aD (.agg [.hole,.hole,.str aT.Name,.hole,.ad 1 ((List.map (λx=>(false,x)) aT.Next).map pC)])) rfl rfl (.aD (.agg (.cons (.refl _) (.cons (.refl _) (.cons (.refl _) (.cons (.refl _) (.cons (SR Lc _) (.nil)))))))) (by decide) (jv (t:=10) (d:=.aJ) (bb:=.ad 1 []) rfl rfl (.gL _) (by decide) (dh (t:=38) (d:=.h 5 [0,2]) rfl (dh (t:=39) (d:=.int .i64 (af.aW.length:Int)) rfl (dh (t:=40) (d:=.int .i64 er) rfl (dh (t:=45) (d:=.slice (ab.map aC)) rfl (dh (t:=46) (d:=.int .i64 (ab.length:Int)) rfl (dh (t:=47) (d:=.int .i64 0) rfl (kE))))))))))))),XS n (List.map (λx=>(false,x)) aT.Next) [] 0 h⟩)
    .exact dq (FN 2 _ (FM 2 _ (kK _ (oz _ (inl (bw aE [eC (bj.mk (ab.length:Int) eX g2)]))))))
   exact eL h λn h=>FD n mB af.aW 0 h
 obtain⟨n,h⟩:=lB h;exact lN (inr ⟨_,kD [] rfl (dh (t:=2) (d:=.aD (ca a0)) rfl (dh (t:=3) (d:=.aD (.slice (ab.map aC))) rfl (dh (t:=4) (d:=.aD (.agg [.int .i64 0,.aJ,.aJ])) rfl (jv (t:=5) (d:=.aD (.agg [.int .i64 (ab.length:Int),.aJ,.ad 5 (af.aW.map cG)])) (bb:=.aD (.agg [.int .i64 (ab.length:Int),.ad 1 [],.ad 5 (af.aW.map cG)])) rfl rfl (.aD (.agg (.cons (.refl _) (.cons (.gL _) (.cons (.refl _) (.nil)))))) (by decide) (dh (t:=20) (d:=.slice (ab.map aC)) rfl (dh (t:=21) (d:=.int .i64 (ab.length:Int)) rfl (dh (t:=22) (d:=.int .i64 0) rfl (kE)))))))),XN n [] 0 h⟩)
theorem Me (a0 r) (h:xF a0=some r):bx az 23 [ca a0] (.tuple [eC r.1,.ad 1 (r.2.1.map aC),.int .i64 r.2.2]) []:=by
 refine cv [0] [.cell 2 29,.tmp 3,.tmp 4] Tryz.func23 Vw λcn aE cl=>aI ?_;refine aR aE λ_ cz bL aH=>?_;obtain⟨af,b6,h⟩:=aO h;refine et (Xu a0 _ b6) _ ?_;refine bo h (λdf h=>?_) λdf h=>?_
 .refine dC (show∀s,gm az s 29 []=some (.agg [.int .i64 0,.aJ,.aJ],s)from λs=>by kernel_rfl) _ ?_;exact o9 (bL _ (inr ⟨[(2,.aD (eC (bj.mk 0 [] []))),(3,.ad 1 []),(4,.int .i64 1)],kD [] rfl (jv (t:=2) (d:=.aD (.agg [.int .i64 0,.aJ,.aJ])) rfl rfl (.aD (.agg (.cons (.refl _) (.cons (.gL _) (.cons (.gL _) (.nil)))))) (by decide) (jv (t:=3) (d:=.aJ) rfl rfl (.gL _) (by decide) (dh rfl (kE)))),zC [eC (bj.mk 0 [] []),.ad 1 [],.int .i64 1]⟩))
 .refine bn (cz _ (inl ?_));obtain⟨aH,hY,h⟩:=aO h;refine et (Xz a0 _ hY) _ ?_;obtain⟨aM,ka,h⟩:=aO h;refine dm (cA [(2,.aD (eC aM)),(3,.ad 1 (aH.map aC)),(4,.int .i64 0)] (λP bB=>?_) ?_)
  ·(try simp only[X0.down,simprocAttr]);refine dS (XM a0 aH _ ka) rfl rfl (by simp only[X0.down,simprocAttr,AE.down]<;>rfl) rfl (inr (Az _)) ?_;simp only[X0.down,simprocAttr];exact cx trivial
  exact ep aE [eC aM,.ad 1 (aH.map aC),.int .i64 0]
theorem rm (a0 ab r) (h:re a0 ab=some r):bx az 11 [.slice (a0.map aC),.slice (ab.map aC)] (.bool r) []:=by
 refine cv [0,1] [.tmp 4] Tryz.func11 Vx λcn aE cl=>aI ?_;refine aR aE λ_ cz bL aH=>aI ?_;refine bo h (λc1 h=>?_) λc1 h=>?_
 .exact bw bL [.bool false]
 .refine bn (cz _ (inl (aR aE λ_ eS dN _=>aI ?_)));refine bP dN λoD _ i2 dL _=>?_;show bk az (.loop ?mC) _ _;have mG:∀n eR,ED a0 ab n eR=some r->c_ az ?mC oD (an [(0,.slice (a0.map aC)),(1,.slice (ab.map aC)),(5,.int .i64 eR)]):=by
   refine dy λ_ l1 eR h=>dx i2 λ_ dP dI dr=>aR dI λ_ c5 _ fA=>aI ?_;refine bo h (λhG h=>?_) λhG h=>?_
   .refine bn (c5 _ (inl (aR dI λ_ hr l3 _=>bP l3 λ_ gM gG _ _=>?_)));obtain⟨af,dt,h⟩:=aO h;obtain⟨aH,jD,h⟩:=aO h;refine VY (aa dt jD) _ ?_;refine bo h (λlp h=>?_) λlp h=>?_
    .exact bw gG [.bool false]
    .refine bn (gM _ (hr _ (inl (eY ?_))));exact dP _ (inr ⟨_,cr rfl,l1 (i64.wrap (eR+1)) h⟩)
   .exact dq (fA 0 _ (dr 0 _ (dL _ (eS _ (inl (bw aE [.bool true]))))))
  exact eL h λn h=>mG n 0 h
theorem XX (a0 ab r) (h:xG a0 ab=some r):bx az 162 [ba a0,ba ab] (.bool r) []:=by
 refine cv [0,1] [.tmp 4] Tryz.func162 Vy λcn aE cl=>aI ?_;refine aR aE λ_ cz bL _=>aI ?_;refine bo h (λc1 h=>?_) λc1 h=>?_
 .exact bw bL [.bool false]
 .refine bn (cz _ (inl (aR aE λ_ eS dN _=>aI ?_)));refine bo h (λdL h=>?_) λdL h=>?_
  .exact bw dN [.bool false]
  .exact bn (eS _ (inl (bw aE [.bool true])))
theorem Mf (a0 ab r) (h:vc a0 ab=some r):bx az 125 [.slice (a0.map ba),.slice (ab.map ba)] (.bool r) []:=by
 refine cv [0,1] [.tmp 4] Tryz.func125 Vz λcn aE cl=>aI ?_;refine aR aE λ_ cz bL aH=>aI ?_;refine bo h (λc1 h=>?_) λc1 h=>?_
 .exact bw bL [.bool false]
 .refine bn (cz _ (inl (aR aE λ_ eS dN _=>aI ?_)));refine bP dN λoD _ i2 dL _=>?_;show bk az (.loop ?mC) _ _;have mG:∀n eR,EE a0 ab n eR=some r->c_ az ?mC oD (an [(0,.slice (a0.map ba)),(1,.slice (ab.map ba)),(5,.int .i64 eR)]):=by
   refine dy λ_ l1 eR h=>dx i2 λ_ dP dI dr=>aR dI λ_ c5 _ fA=>aI ?_;refine bo h (λhG h=>?_) λhG h=>?_
   .refine bn (c5 _ (inl (aR dI λ_ hr l3 _=>bP l3 λ_ gM gG _ _=>?_)));obtain⟨af,dt,h⟩:=aO h;obtain⟨aH,jD,h⟩:=aO h;obtain⟨aM,gg,h⟩:=aO h;refine ri (aa dt jD) (XX af aH _ gg) _ ?_;refine bo h (λgw h=>?_) λgw h=>?_
    .exact bw gG [.bool false]
    .refine bn (gM _ (hr _ (inl (eY ?_))));exact dP _ (inr ⟨_,cr rfl,l1 (i64.wrap (eR+1)) h⟩)
   .exact dq (fA 0 _ (dr 0 _ (dL _ (eS _ (inl (bw aE [.bool true]))))))
  exact eL h λn h=>mG n 0 h
theorem Mg (a0 ab r) (h:xH a0 ab=some r):bx az 126 [.slice (a0.map cV),.slice (ab.map cV)] (.bool r) []:=by
 refine cv [0,1] [.tmp 4] Tryz.func126 VA λcn aE cl=>aI ?_;refine aR aE λ_ cz bL aH=>aI ?_;refine bo h (λc1 h=>?_) λc1 h=>?_
 .exact bw bL [.bool false]
 .refine bn (cz _ (inl (aR aE λ_ eS dN _=>aI ?_)));refine bP dN λoD _ i2 dL _=>?_;show bk az (.loop ?mC) _ _;have mG:∀n eR,EF a0 ab n eR=some r->c_ az ?mC oD (an [(0,.slice (a0.map cV)),(1,.slice (ab.map cV)),(5,.int .i64 eR)]):=by
   refine dy λ_ l1 eR h=>dx i2 λ_ dP dI dr=>aR dI λ_ c5 _ fA=>aI ?_;refine bo h (λhG h=>?_) λhG h=>?_
   .refine bn (c5 _ (inl (aR dI λ_ hr l3 _=>bP l3 λ_ gM gG _ _=>?_)));obtain⟨af,dt,h⟩:=aO h;obtain⟨aH,jD,h⟩:=aO h;obtain⟨aM,gg,h⟩:=aO h;refine ri (aa dt jD) (Mf af aH _ gg) _ ?_;refine bo h (λgw h=>?_) λgw h=>?_
    .exact bw gG [.bool false]
    .refine bn (gM _ (hr _ (inl (eY ?_))));exact dP _ (inr ⟨_,cr rfl,l1 (i64.wrap (eR+1)) h⟩)
   .exact dq (fA 0 _ (dr 0 _ (dL _ (eS _ (inl (bw aE [.bool true]))))))
  exact eL h λn h=>mG n 0 h
theorem XY (a0 ab r) (h:xI a0 ab=some r):bx az 83 [cM a0,cM ab] (.bool r) []:=by
 refine cv [0,1] [.tmp 4] Tryz.func83 VB λcn aE cl=>aI ?_;refine aR aE λ_ cz bL aH=>?_;obtain⟨af,b6,h⟩:=aO h;refine et (rm a0.bs ab.bs _ b6) _ ?_;refine bo h (λdf h=>?_) λdf h=>?_
 .exact bw bL [.bool false]
 .refine bn (cz _ (inl (aR aE λ_ eM ek _=>?_)));obtain⟨aH,iC,h⟩:=aO h;refine et (Mf a0.Guard ab.Guard _ iC) _ ?_;refine bo h (λho h=>?_) λho h=>?_
  .exact bw ek [.bool false]
  .refine bn (eM _ (inl (aR aE λ_ g6 nE _=>aI ?_)));refine bo h (λir h=>?_) λir h=>?_
   .exact bw nE [.bool false]
   .refine bn (g6 _ (inl (aR aE λ_ oA mF _=>?_)));obtain⟨aM,gg,h⟩:=aO h;refine et (Mg a0.bl ab.bl _ gg) _ ?_;refine bo h (λgw h=>?_) λgw h=>?_
    .exact bw mF [.bool false]
    .refine bn (oA _ (inl (aR aE λ_ oz mE _=>?_)));obtain⟨aT,mI,h⟩:=aO h;refine et (Mg a0.Next ab.Next _ mI) _ ?_;refine bo h (λpE h=>?_) λpE h=>?_
     .exact bw mE [.bool false]
     .exact bn (oz _ (inl (bw aE [.bool true])))
theorem XZ (a0 ab r) (h:Ar a0 ab=some r):bx az 39 [.slice (a0.map cM),.slice (ab.map cM)] (.bool r) []:=by
 refine cv [0,1] [.tmp 4] Tryz.func39 VC λcn aE cl=>aI ?_;refine aR aE λ_ cz bL aH=>aI ?_;refine bo h (λc1 h=>?_) λc1 h=>?_
 .exact bw bL [.bool false]
 .refine bn (cz _ (inl (aR aE λ_ eS dN _=>aI ?_)));refine bP dN λoD _ i2 dL _=>?_;show bk az (.loop ?mC) _ _;have mG:∀n eR,EG a0 ab n eR=some r->c_ az ?mC oD (an [(0,.slice (a0.map cM)),(1,.slice (ab.map cM)),(5,.int .i64 eR)]):=by
   refine dy λ_ l1 eR h=>dx i2 λ_ dP dI dr=>aR dI λ_ c5 _ fA=>aI ?_;refine bo h (λhG h=>?_) λhG h=>?_
   .refine bn (c5 _ (inl (aR dI λ_ hr l3 _=>bP l3 λ_ gM gG _ _=>?_)));obtain⟨af,dt,h⟩:=aO h;obtain⟨aH,jD,h⟩:=aO h;obtain⟨aM,gg,h⟩:=aO h;refine ri (aa dt jD) (XY af aH _ gg) _ ?_;refine bo h (λgw h=>?_) λgw h=>?_
    .exact bw gG [.bool false]
    .refine bn (gM _ (hr _ (inl (eY ?_))));exact dP _ (inr ⟨_,cr rfl,l1 (i64.wrap (eR+1)) h⟩)
   .exact dq (fA 0 _ (dr 0 _ (dL _ (eS _ (inl (bw aE [.bool true]))))))
  exact eL h λn h=>mG n 0 h
theorem pI (a0 ab r) (h:s4 a0 ab=some r):bx az 10 [ca a0,ca ab] (.bool r) []:=by
 refine cv [0,1] [.tmp 4] Tryz.func10 E2 λcn aE cl=>aI ?_;refine aR aE λ_ cz bL aH=>aI ?_;refine bo h (λc1 h=>?_) λc1 h=>?_
 .exact bw bL [.bool false]
 .refine bn (cz _ (inl (aR aE λ_ eS dN _=>?_)));obtain⟨af,hY,h⟩:=aO h;refine et (rm a0.Start ab.Start _ hY) _ ?_;refine bo h (λg4 h=>?_) λg4 h=>?_
  .exact bw dN [.bool false]
  .refine bn (eS _ (inl (aR aE λ_ ea fO _=>?_)));obtain⟨aH,fk,h⟩:=aO h;refine et (XZ a0.aW ab.aW _ fk) _ ?_;refine bo h (λir h=>?_) λir h=>?_
   .exact bw fO [.bool false]
   .exact bn (ea _ (inl (bw aE [.bool true])))
theorem FU (a0 ab r) (h:ve a0 ab=some r):bx az 13 [.ad 1 (a0.map aC),.int .i64 ab] (.int .i64 r.1) [.ad 1 (r.2.map aC),.hole]:=by
 refine cv [0] [.tmp 4] Tryz.func13 VD λcn aE cl=>aI ?_;refine aR aE λ_ cz bL _=>aI ?_;refine bP bL λg7 _ cy c1 _=>?_;show bk az (.loop ?fV) _ _;have g8:∀n c7 bZ bd,vd n c7 bZ bd=some r->c_ az ?fV g7 (an [(0,.ad 1 (c7.map aC)),(1,.int .i64 bZ),(5,.int .i64 bd)]):=by
  refine dy λ_ gN c7 bZ bd h=>dx cy λ_ fP dn bf=>aR dn λ_ eS _ bY=>aI ?_;refine bo h (λdL h=>?_) λdL h=>?_
  .refine bn (eS _ (inl (aR dn λ_ dP dI _=>bP dI λ_ c5 _ _ _=>?_)));obtain⟨af,ew,h⟩:=aO h;refine dm (cA [(0,.ad 1 ((List.set c7 (Int.toNat bd) bZ).map aC)),(1,.int .i64 bZ),(5,.int .i64 bd)] (λP bB=>?_) ?_)
   .simp only[X0.down,simprocAttr,ew,cD ew,fj,dg];exact cx (aa ew (aa (cD ew) @fj))
   refine wr [(0,.ad 1 ((List.set c7 (Int.toNat bd) bZ).map aC)),(1,.int .i64 (i64.wrap (bZ+1))),(5,.int .i64 bd)] ?_;refine c5 _ (dP _ (inl (wr [(0,.ad 1 ((List.set c7 (Int.toNat bd) bZ).map aC)),(1,.int .i64 (i64.wrap (bZ+1))),(5,.int .i64 (i64.wrap (bd+1)))] ?_)));exact fP _ (inr ⟨_,cr rfl,gN (List.set c7 (Int.toNat bd) bZ) (i64.wrap (bZ+1)) (i64.wrap (bd+1)) h⟩)
  .refine dq (bY 0 _ (bf 0 _ (c1 _ (cz _ (inl (aI ?_))))));exact o9 (aE _ (inl (qY [.int .i64 bZ] rfl (by cases j4 h;rfl) (by decide) (sw (sx (by cases j4 h;rfl) rfl rfl rfl (q4 (sy)))))))
 exact eL h λn h=>g8 n a0 ab 0 h
theorem Mh (a0 ab r) (h:xJ a0 ab=some r):bx az 84 [.ad 2 (a0.map ba),.int .i64 ab] (.int .i64 r.1) [.ad 2 (r.2.map ba),.hole]:=by
 refine cv [0] [.tmp 4] Tryz.func84 VE λcn aE cl=>aI ?_;refine aR aE λ_ cz bL aH=>aI ?_;refine bP bL λg7 _ cy c1 _=>?_;show bk az (.loop ?fV) _ _;have g8:∀n c7 bZ bd,vf n c7 bZ bd=some r->c_ az ?fV g7 (an [(0,.ad 2 (c7.map ba)),(1,.int .i64 bZ),(5,.int .i64 bd)]):=by
  refine dy λ_ gN c7 bZ bd h=>dx cy λ_ fP dn bf=>aR dn λ_ eS _ bY=>aI ?_;refine bo h (λdL h=>?_) λdL h=>?_
  .refine bn (eS _ (inl (aR dn λ_ dP dI _=>bP dI λ_ c5 _ _ _=>?_)));obtain⟨af,ew,h⟩:=aO h;refine dm (cA [(0,.ad 2 ((List.set c7 (Int.toNat bd) (aG.mk bZ af.Value)).map ba)),(1,.int .i64 bZ),(5,.int .i64 bd)] (λP bB=>?_) ?_)
   .simp only[X0.down,simprocAttr,ew,cD ew,fj,dg];exact cx (aa ew (aa (cD ew) @fj))
   refine ws [(0,.ad 2 ((List.set c7 (Int.toNat bd) (aG.mk bZ af.Value)).map ba)),(1,.int .i64 (i64.wrap (bZ+1))),(5,.int .i64 bd)] ?_;obtain⟨aH,fs,h⟩:=aO h;refine dm (cA [(0,.ad 2 ((List.set (List.set c7 (Int.toNat bd) (aG.mk bZ af.Value)) (Int.toNat bd) (aG.mk aH.Kind (i64.wrap (bZ+1)))).map ba)),(1,.int .i64 (i64.wrap (bZ+1))),(5,.int .i64 bd)] (λP bB=>?_) ?_)
   .simp only[X0.down,simprocAttr,fs,cD fs,fj,dg];exact cx (aa fs (aa (cD fs) @fj))
   refine wr [(0,.ad 2 ((List.set (List.set c7 (Int.toNat bd) (aG.mk bZ af.Value)) (Int.toNat bd) (aG.mk aH.Kind (i64.wrap (bZ+1)))).map ba)),(1,.int .i64 (i64.wrap ((i64.wrap (bZ+1))+1))),(5,.int .i64 bd)] ?_;refine c5 _ (dP _ (inl (wr [(0,.ad 2 ((List.set (List.set c7 (Int.toNat bd) (aG.mk bZ af.Value)) (Int.toNat bd) (aG.mk aH.Kind (i64.wrap (bZ+1)))).map ba)),(1,.int .i64 (i64.wrap ((i64.wrap (bZ+1))+1))),(5,.int .i64 (i64.wrap (bd+1)))] ?_)));exact fP _ (inr ⟨_,cr rfl,gN (List.set (List.set c7 (Int.toNat bd) (aG.mk bZ af.Value)) (Int.toNat bd) (aG.mk aH.Kind (i64.wrap (bZ+1)))) (i64.wrap ((i64.wrap (bZ+1))+1)) (i64.wrap (bd+1)) h⟩)
  .refine dq (bY 0 _ (bf 0 _ (c1 _ (cz _ (inl (aI ?_))))));exact o9 (aE _ (inl (qY [.int .i64 bZ] rfl (by cases j4 h;rfl) (by decide) (sw (sx (by cases j4 h;rfl) rfl rfl rfl (q4 (sy)))))))
 exact eL h λn h=>g8 n a0 ab 0 h
theorem Mi (a0 r) (h:xK a0=some r):bx az 49 [.int .i64 a0] (.str r) []:=by
 refine cv [] [.tmp 2] Tryz.func49 VF λcn aE cl=>aI ?_;refine aR aE λ_ cz bL _=>aI ?_;refine bo h (λc1 h=>?_) λc1 h=>?_
 .exact bw bL [.str ([109,48]:nq)]
 .refine bn (cz _ (inl (aI ?_)));refine aR aE λ_ eM ek _=>bP ek λoD _ i2 dL _=>?_;have mG:∀n kk fp,s5 n kk fp=some r->c_ az Lp oD (an [(0,.int .i64 kk),(3,.str fp)]):=by
   refine dy λ_ l1 kk fp h=>dx i2 λ_ dP dI dr=>aR dI λ_ c5 _ fA=>aI ?_;refine bo h (λhG h=>?_) λhG h=>?_
   .refine bn (c5 _ (inl (bP dI λ_ hr _ _ _=>?_)));obtain⟨u16,fs,h⟩:=aO h;(try simp only[lo.down,Nat.zero_add,Nat.add_zero,reduceAdd]at fs);refine dC (aa (@RS .i64 10 (by decide)) (aa (@RN az 3 5 .u8 rfl rfl) (aa (show∀s,ef az s 129 1 [(0,.int .u8 (u8.wrap (i64.wrap (48+(Int.tmod kk 10)))))]=some (.ad 1 [.int .u8 (u8.wrap (i64.wrap (48+(Int.tmod kk 10))))],s)from λs=>by kernel_rfl) (aa ((@RO az 129 9 5 rfl rfl rfl).2.2) (aa @RQ (aa @RP (aa fs (aa @J6 @J7)))))))) [(0,.int .i64 kk),(3,.str ([(pO (i64.wrap (48+(Int.tmod kk 10))))]++fp))] ?_;refine ot (@RR .i64 10 (by decide)) [(0,.int .i64 (i64.wrap (Int.tdiv kk 10))),(3,.str ([(pO (i64.wrap (48+(Int.tmod kk 10))))]++fp))] ?_;exact hr _ (dP _ (inr ⟨_,cr rfl,l1 (i64.wrap (Int.tdiv kk 10)) ([(pO (i64.wrap (48+(Int.tmod kk 10))))]++fp) h⟩))
   .refine dq (fA 0 _ (dr 0 _ (dL _ (eM _ (inl ?_)))));obtain⟨xY,gg,h⟩:=aO h;(try simp only[lo.down,Nat.zero_add,Nat.add_zero,reduceAdd]at gg);refine dC (aa gg (aa @J6 @J7)) [(2,.str (([109]:nq)++fp))] ?_;exact ep aE [.str (([109]:nq)++fp)]
  exact eL h λn h=>mG n a0 ([]:nq) h
theorem Mj (a0 ab r) (h:xL a0 ab=some r):bx az 85 [.ad 1 (a0.map di),.int .i64 ab] (.int .i64 r.1) [.ad 1 (r.2.map di),.hole]:=by
 refine cv [0] [.tmp 4] Tryz.func85 VG λcn aE cl=>aI ?_;refine aR aE λ_ cz bL aH=>aI ?_;refine bP bL λg7 _ cy c1 _=>?_;show bk az (.loop ?fV) _ _;have g8:∀n c7 bZ bd,vg n c7 bZ bd=some r->c_ az ?fV g7 (an [(0,.ad 1 (c7.map di)),(1,.int .i64 bZ),(5,.int .i64 bd)]):=by
  refine dy λ_ gN c7 bZ bd h=>dx cy λ_ fP dn bf=>aR dn λ_ eS _ bY=>aI ?_;refine bo h (λdL h=>?_) λdL h=>?_
  .refine bn (eS _ (inl (aR dn λ_ dP dI _=>bP dI λ_ c5 _ _ _=>?_)));obtain⟨af,ew,h⟩:=aO h;obtain⟨aH,fk,h⟩:=aO h;refine h3 (cA [(0,.ad 1 ((List.set c7 (Int.toNat bd) aH.2).map di)),(1,.int .i64 aH.1),(5,.int .i64 bd)] (λP bB=>?_) ?_)
   ·(try simp only[X0.down,simprocAttr,ew,cD ew]);refine k8 [⟨.h 0 [Int.toNat bd],true,_,_⟩,⟨.int .i64 bZ,false,_,.hole⟩] (Mh af bZ _ fk) rfl rfl rfl (by simp only[X0.down,simprocAttr,ew,cD ew,Lz.down]) rfl rfl (inl rfl) ?_;simp only[X0.down,simprocAttr,ew,cD ew,jZ,(sA (cD ew)),sB];exact cx (aa ew (cD ew))
   refine c5 _ (dP _ (inl (wr [(0,.ad 1 ((List.set c7 (Int.toNat bd) aH.2).map di)),(1,.int .i64 aH.1),(5,.int .i64 (i64.wrap (bd+1)))] ?_)));exact fP _ (inr ⟨_,cr rfl,gN (List.set c7 (Int.toNat bd) aH.2) aH.1 (i64.wrap (bd+1)) h⟩)
  .refine dq (bY 0 _ (bf 0 _ (c1 _ (cz _ (inl (aI ?_))))));exact o9 (aE _ (inl (qY [.int .i64 bZ] rfl (by cases j4 h;rfl) (by decide) (sw (sx (by cases j4 h;rfl) rfl rfl rfl (q4 (sy)))))))
 exact eL h λn h=>g8 n a0 ab 0 h
theorem X1 (a0 ab r) (h:Au a0 ab=some r):bx az 40 [.ad 5 (a0.map cG),.int .i64 ab] (.int .i64 r.1) [.ad 5 (r.2.map cG),.hole]:=by
 refine cv [0] [.tmp 4] Tryz.func40 VH λcn aE cl=>aI ?_;refine aR aE λ_ cz bL aH=>aI ?_;refine bP bL λg7 _ cy c1 aT=>?_;show bk az (.loop ?fV) _ _;have g8:∀n c7 bZ bd,vh n c7 bZ bd=some r->c_ az ?fV g7 (an [(0,.ad 5 (c7.map cG)),(1,.int .i64 bZ),(5,.int .i64 bd)]):=by
  refine dy λ_ gN c7 bZ bd h=>dx cy λ_ fP dn bf=>aR dn λ_ eS _ bY=>aI ?_;refine bo h (λdL h=>?_) λdL h=>?_
  .refine bn (eS _ (inl (aR dn λ_ dP dI dr=>bP dI λ_ c5 _ _ fA=>?_)));obtain⟨af,ew,h⟩:=aO h;obtain⟨aH,fk,h⟩:=aO h;refine dm (cA [(0,.ad 5 ((List.set c7 (Int.toNat bd) (bc.mk aH.2 af.Guard af.Name af.bl af.Next)).map cG)),(1,.int .i64 aH.1),(5,.int .i64 bd)] (λP bB=>?_) ?_)
   ·(try simp only[X0.down,simprocAttr,ew,cD ew]);refine k8 [⟨.h 0 [Int.toNat bd,0],true,_,_⟩,⟨.int .i64 bZ,false,_,.hole⟩] (FU af.bs bZ _ fk) rfl rfl rfl (by simp only[X0.down,simprocAttr,ew,cD ew,p_,k9,iF,iG,iH,e1,or_true,true_or, @c2 _ aC aC (λ_=>hn _)]) rfl rfl (inl rfl) ?_;simp only[X0.down,simprocAttr,ew,cD ew,jZ,(sA (cD ew)),sB];exact cx (aa ew (cD ew))
   obtain⟨aM,fs,h⟩:=aO h;obtain⟨aT,dt,h⟩:=aO h;refine dm (cA [(0,.ad 5 ((List.set (List.set c7 (Int.toNat bd) (bc.mk aH.2 af.Guard af.Name af.bl af.Next)) (Int.toNat bd) (bc.mk aM.bs aT.2 aM.Name aM.bl aM.Next)).map cG)),(1,.int .i64 aT.1),(5,.int .i64 bd)] (λP bB=>?_) ?_)
   ·(try simp only[X0.down,simprocAttr,fs,cD fs]);refine k8 [⟨.h 0 [Int.toNat bd,1],true,_,_⟩,⟨.int .i64 aH.1,false,_,.hole⟩] (Mh aM.Guard aH.1 _ dt) rfl rfl rfl (by simp only[X0.down,simprocAttr,fs,cD fs,Lz.down]) rfl rfl (inl rfl) ?_;simp only[X0.down,simprocAttr,fs,cD fs,jZ,(sA (cD fs)),sB];exact cx (aa fs (cD fs))
   obtain⟨bf,gg,h⟩:=aO h;obtain⟨bY,hR,h⟩:=aO h;refine dm (cA [(0,.ad 5 ((List.set (List.set (List.set c7 (Int.toNat bd) (bc.mk aH.2 af.Guard af.Name af.bl af.Next)) (Int.toNat bd) (bc.mk aM.bs aT.2 aM.Name aM.bl aM.Next)) (Int.toNat bd) (bc.mk bY.bs bY.Guard bf bY.bl bY.Next)).map cG)),(1,.int .i64 aT.1),(5,.int .i64 bd)] (λP bB=>?_) ?_)
   ·(try simp only[X0.down,simprocAttr,hR,cD hR,fj,dg]);refine dS (Mi aT.1 _ gg) (hK:= ?_);simp only[X0.down,simprocAttr,hR,cD hR,fj,dg];exact cx (aa hR (aa (cD hR) @fj))
   refine ws [(0,.ad 5 ((List.set (List.set (List.set c7 (Int.toNat bd) (bc.mk aH.2 af.Guard af.Name af.bl af.Next)) (Int.toNat bd) (bc.mk aM.bs aT.2 aM.Name aM.bl aM.Next)) (Int.toNat bd) (bc.mk bY.bs bY.Guard bf bY.bl bY.Next)).map cG)),(1,.int .i64 (i64.wrap (aT.1+1))),(5,.int .i64 bd)] ?_;obtain⟨b1,hq,h⟩:=aO h;obtain⟨dB,mI,h⟩:=aO h;refine dm (cA [(0,.ad 5 ((List.set (List.set (List.set (List.set c7 (Int.toNat bd) (bc.mk aH.2 af.Guard af.Name af.bl af.Next)) (Int.toNat bd) (bc.mk aM.bs aT.2 aM.Name aM.bl aM.Next)) (Int.toNat bd) (bc.mk bY.bs bY.Guard bf bY.bl bY.Next)) (Int.toNat bd) (bc.mk b1.bs b1.Guard b1.Name dB.2 b1.Next)).map cG)),(1,.int .i64 dB.1),(5,.int .i64 bd)] (λP bB=>?_) ?_)
   ·(try simp only[X0.down,simprocAttr,hq,cD hq]);refine k8 [⟨.h 0 [Int.toNat bd,3],true,_,_⟩,⟨.int .i64 (i64.wrap (aT.1+1)),false,_,.hole⟩] (Mj b1.bl (i64.wrap (aT.1+1)) _ mI) rfl rfl rfl (by simp only[X0.down,simprocAttr,hq,cD hq,LA.down]) rfl rfl (inl rfl) ?_;simp only[X0.down,simprocAttr,hq,cD hq,jZ,(sA (cD hq)),sB];exact cx (aa hq (cD hq))
   obtain⟨dr,jE,h⟩:=aO h;obtain⟨fA,km,h⟩:=aO h;refine h3 (cA [(0,.ad 5 ((List.set (List.set (List.set (List.set (List.set c7 (Int.toNat bd) (bc.mk aH.2 af.Guard af.Name af.bl af.Next)) (Int.toNat bd) (bc.mk aM.bs aT.2 aM.Name aM.bl aM.Next)) (Int.toNat bd) (bc.mk bY.bs bY.Guard bf bY.bl bY.Next)) (Int.toNat bd) (bc.mk b1.bs b1.Guard b1.Name dB.2 b1.Next)) (Int.toNat bd) (bc.mk dr.bs dr.Guard dr.Name dr.bl fA.2)).map cG)),(1,.int .i64 fA.1),(5,.int .i64 bd)] (λP bB=>?_) ?_)
   ·(try simp only[X0.down,simprocAttr,jE,cD jE]);refine k8 [⟨.h 0 [Int.toNat bd,4],true,_,_⟩,⟨.int .i64 dB.1,false,_,.hole⟩] (Mj dr.Next dB.1 _ km) rfl rfl rfl (by simp only[X0.down,simprocAttr,jE,cD jE,LA.down]) rfl rfl (inl rfl) ?_;simp only[X0.down,simprocAttr,jE,cD jE,jZ,(sA (cD jE)),sB];exact cx (aa jE (cD jE))
   refine c5 _ (dP _ (inl (wr [(0,.ad 5 ((List.set (List.set (List.set (List.set (List.set c7 (Int.toNat bd) (bc.mk aH.2 af.Guard af.Name af.bl af.Next)) (Int.toNat bd) (bc.mk aM.bs aT.2 aM.Name aM.bl aM.Next)) (Int.toNat bd) (bc.mk bY.bs bY.Guard bf bY.bl bY.Next)) (Int.toNat bd) (bc.mk b1.bs b1.Guard b1.Name dB.2 b1.Next)) (Int.toNat bd) (bc.mk dr.bs dr.Guard dr.Name dr.bl fA.2)).map cG)),(1,.int .i64 fA.1),(5,.int .i64 (i64.wrap (bd+1)))] ?_)));exact fP _ (inr ⟨_,cr rfl,gN (List.set (List.set (List.set (List.set (List.set c7 (Int.toNat bd) (bc.mk aH.2 af.Guard af.Name af.bl af.Next)) (Int.toNat bd) (bc.mk aM.bs aT.2 aM.Name aM.bl aM.Next)) (Int.toNat bd) (bc.mk bY.bs bY.Guard bf bY.bl bY.Next)) (Int.toNat bd) (bc.mk b1.bs b1.Guard b1.Name dB.2 b1.Next)) (Int.toNat bd) (bc.mk dr.bs dr.Guard dr.Name dr.bl fA.2)) fA.1 (i64.wrap (bd+1)) h⟩)
  .refine dq (bY 0 _ (bf 0 _ (c1 _ (cz _ (inl (aI ?_))))));exact o9 (aE _ (inl (qY [.int .i64 bZ] rfl (by cases j4 h;rfl) (by decide) (sw (sx (by cases j4 h;rfl) rfl rfl rfl (q4 (sy)))))))
 exact eL h λn h=>g8 n a0 ab 0 h
theorem Mk (s6 vi s7 ab r) (h:xM s6 vi s7 ab=some r):bx az 12 [.agg [.int .i64 s6,.ad 1 (vi.map aC),.ad 5 (s7.map cG)],.int .i64 ab] (.int .i64 r.1) [.agg [.int .i64 r.2.1,.ad 1 (r.2.2.1.map aC),.ad 5 (r.2.2.2.map cG)],.hole]:=by
 refine cv [0] [.tmp 4] Tryz.func12 VI λcn aE cl=>dm (cA [(0,.agg [.int .i64 s6,.ad 1 (vi.map aC),.ad 5 (s7.map cG)]),(1,.int .i64 ab),(2,.J 0 0)] (λP bB=>?_) ?_)
 .simp only[X0.down,simprocAttr,nk,n8,j.dF,n7];exact cx (aa @nk (aa @n8 @n7))
 obtain⟨af,a1,h⟩:=aO h;refine dm (cA [(0,.agg [.int .i64 s6,.ad 1 (af.2.map aC),.ad 5 (s7.map cG)]),(1,.int .i64 af.1),(2,.J 0 0)] (λP bB=>?_) ?_)
 ·(try simp only[X0.down,simprocAttr,nk,n8,j.dF,n7]);refine Kl [⟨.h 0 [1],true,_,_⟩,⟨.int .i64 ab,false,_,.hole⟩] (FU vi ab _ a1) rfl rfl rfl (by simp only[X0.down,simprocAttr,nk,n8,j.dF,n7,sv,p_,k9,iF,iG,iH,e1,or_true,true_or, @c2 _ aC aC (λ_=>hn _)]) rfl rfl (inl rfl) (by simp only[X0.down,simprocAttr,nk,n8,j.dF,n7,uq,k9,w4,Bool.and_self,Bool.not_false,Bool.and_true]) ?_;simp only[X0.down,simprocAttr,nk,n8,j.dF,n7,jZ,uq,k9,eq_self,Bool.and_self];exact cx (aa @nk (aa @n8 @n7))
 obtain⟨aH,cH,h⟩:=aO h;refine dm (cA [(0,.agg [.int .i64 s6,.ad 1 (af.2.map aC),.ad 5 (aH.2.map cG)]),(1,.int .i64 aH.1)] (λP bB=>?_) ?_)
 ·(try simp only[X0.down,simprocAttr,nk,n8,j.dF,n7]);refine k8 [⟨.h 0 [2],true,_,_⟩,⟨.int .i64 af.1,false,_,.hole⟩] (X1 s7 af.1 _ cH) rfl rfl rfl (by simp only[X0.down,simprocAttr,nk,n8,j.dF,n7,sv,p_,k9,iF,iG,iH,e1,or_true,true_or, @c2 _ cG cM (λ_=>rh _)]) rfl rfl (inl rfl) ?_;simp only[X0.down,simprocAttr,nk,n8,j.dF,n7,jZ];exact cx (aa @nk (aa @n8 @n7))
 refine aI ?_;exact o9 (aE _ (inl (qY [.int .i64 aH.1] rfl (by cases j4 h;rfl) (by decide) (sw (sx (by cases j4 h;rfl) rfl rfl rfl (q4 (sy)))))))
theorem AL (a0 ab r) (h:s8 a0 ab=some r):bx az 15 [.slice (a0.map aC),.int .i64 ab] (.int .i64 r) []:=by
 refine cv [0] [.tmp 4] Tryz.func15 VJ λcn aE cl=>aI ?_;refine aR aE λ_ cz bL _=>aI ?_;refine bP bL λg7 _ cy c1 _=>?_;show bk az (.loop ?fV) _ _;have g8:∀n bZ bd,vj a0 n bZ bd=some r->c_ az ?fV g7 (an [(0,.slice (a0.map aC)),(1,.int .i64 bZ),(5,.int .i64 bd)]):=by
  refine dy λ_ gN bZ bd h=>dx cy λ_ fP dn bf=>aR dn λ_ eS _ bY=>aI ?_;refine bo h (λdL h=>?_) λdL h=>?_
  .refine bn (eS _ (inl (aR dn λ_ dP dI _=>bP dI λ_ c5 dJ _ _=>aR dJ λ_ ea fO _=>?_)));obtain⟨af,fk,h⟩:=aO h;refine dC fk _ ?_;refine bo h (λir h=>?_) λir h=>?_
   .exact bw fO [.int .i64 (-1)]
   .refine bn (ea _ (inl (eY ?_)));refine c5 _ (dP _ (inl (eY ?_)));exact fP _ (inr ⟨_,cr rfl,gN (i64.wrap (bZ+1)) (i64.wrap (bd+1)) h⟩)
  .exact dq (bY 0 _ (bf 0 _ (c1 _ (cz _ (inl (bw aE [.int .i64 bZ]))))))
 exact eL h λn h=>g8 n ab 0 h
theorem Ml (a0 ab r) (h:xN a0 ab=some r):bx az 86 [.slice (a0.map ba),.int .i64 ab] (.int .i64 r) []:=by
 refine cv [0] [.tmp 4] Tryz.func86 VK λcn aE cl=>aI ?_;refine aR aE λ_ cz bL _=>aI ?_;refine bP bL λg7 _ cy c1 _=>?_;show bk az (.loop ?fV) _ _;have g8:∀n bZ bd,vk a0 n bZ bd=some r->c_ az ?fV g7 (an [(0,.slice (a0.map ba)),(1,.int .i64 bZ),(5,.int .i64 bd)]):=by
  refine dy λ_ gN bZ bd h=>dx cy λ_ fP dn bf=>aR dn λ_ eS _ bY=>aI ?_;refine bo h (λdL h=>?_) λdL h=>?_
  .refine bn (eS _ (inl (aR dn λ_ dP dI _=>bP dI λ_ c5 dJ _ _=>aR dJ λ_ ea fO _=>?_)));obtain⟨af,fk,h⟩:=aO h;refine dC fk _ ?_;refine bo h (λir h=>?_) λir h=>?_
   .exact bw fO [.int .i64 (-1)]
   .refine bn (ea _ (inl (aI ?_)));refine aR dJ λ_ x9 rk _=>dC fk _ ?_;refine bo h (λgw h=>?_) λgw h=>?_
    .exact bw rk [.int .i64 (-1)]
    .refine bn (x9 _ (inl (eY ?_)));refine c5 _ (dP _ (inl (eY ?_)));exact fP _ (inr ⟨_,cr rfl,gN (i64.wrap ((i64.wrap (bZ+1))+1)) (i64.wrap (bd+1)) h⟩)
  .exact dq (bY 0 _ (bf 0 _ (c1 _ (cz _ (inl (bw aE [.int .i64 bZ]))))))
 exact eL h λn h=>g8 n ab 0 h
theorem Mm (a0 ab r) (h:xO a0 ab=some r):bx az 87 [.slice (a0.map cV),.int .i64 ab] (.int .i64 r) []:=by
 refine cv [0] [.tmp 4] Tryz.func87 VL λcn aE cl=>aI ?_;refine aR aE λ_ cz bL aH=>aI ?_;refine bP bL λg7 _ cy c1 _=>?_;show bk az (.loop ?fV) _ _;have g8:∀n bZ bd,vl a0 n bZ bd=some r->c_ az ?fV g7 (an [(0,.slice (a0.map cV)),(1,.int .i64 bZ),(5,.int .i64 bd)]):=by
  refine dy λ_ gN bZ bd h=>dx cy λ_ fP dn bf=>aR dn λ_ eS _ bY=>aI ?_;refine bo h (λdL h=>?_) λdL h=>?_
  .refine bn (eS _ (inl (aR dn λ_ dP dI _=>bP dI λ_ c5 dJ _ _=>?_)));obtain⟨af,ew,h⟩:=aO h;obtain⟨aH,fk,h⟩:=aO h;refine hh ew (Ml af bZ _ fk) _ ?_;refine aI ?_;refine bo h (λkM h=>?_) λkM h=>?_
   .exact bw dJ [.int .i64 (-1)]
   .refine bn (c5 _ (dP _ (inl (eY ?_))));exact fP _ (inr ⟨_,cr rfl,gN aH (i64.wrap (bd+1)) h⟩)
  .exact dq (bY 0 _ (bf 0 _ (c1 _ (cz _ (inl (bw aE [.int .i64 bZ]))))))
 exact eL h λn h=>g8 n ab 0 h
theorem X2 (a0 ab r) (h:Av a0 ab=some r):bx az 41 [.slice (a0.map cM),.int .i64 ab] (.int .i64 r) []:=by
 refine cv [0] [.tmp 4] Tryz.func41 VM λcn aE cl=>aI ?_;refine aR aE λ_ cz bL aH=>aI ?_;refine bP bL λg7 _ cy c1 aT=>?_;show bk az (.loop ?fV) _ _;have g8:∀n bZ bd,vm a0 n bZ bd=some r->c_ az ?fV g7 (an [(0,.slice (a0.map cM)),(1,.int .i64 bZ),(5,.int .i64 bd)]):=by
  refine dy λ_ gN bZ bd h=>dx cy λ_ fP dn bf=>aR dn λ_ eS _ bY=>aI ?_;refine bo h (λdL h=>?_) λdL h=>?_
  .refine bn (eS _ (inl (aR dn λ_ dP dI _=>bP dI λ_ c5 dJ _ _=>?_)));obtain⟨af,ew,h⟩:=aO h;obtain⟨aH,fk,h⟩:=aO h;refine hh ew (AL af.bs bZ _ fk) _ ?_;refine aR dJ λ_ gM gG _=>aI ?_;refine bo h (λlq h=>?_) λlq h=>?_
   .exact bw gG [.int .i64 (-1)]
   .refine bn (gM _ (inl ?_));obtain⟨aM,hR,h⟩:=aO h;refine hh ew (Ml af.Guard aH _ hR) _ ?_;refine aR dJ λ_ vw Fg _=>aI ?_;refine bo h (λqp h=>?_) λqp h=>?_
    .exact bw Fg [.int .i64 (-1)]
    .refine bn (vw _ (inl (aR dJ λ_ qn qo _=>?_)));obtain⟨aT,km,h⟩:=aO h;refine ri ew (Mi aM _ km) _ ?_;refine bo h (λoC h=>?_) λoC h=>?_
     .exact bw qo [.int .i64 (-1)]
     .refine bn (qn _ (inl (aI ?_)));obtain⟨bf,jF,h⟩:=aO h;refine hh ew (Mm af.bl (i64.wrap (aM+1)) _ jF) _ ?_;refine aR dJ λ_ n32 x1 _=>aI ?_;refine bo h (λX3 h=>?_) λX3 h=>?_
      .exact bw x1 [.int .i64 (-1)]
      .refine bn (n32 _ (inl ?_));obtain⟨bY,qs,h⟩:=aO h;refine hh ew (Mm af.Next bf _ qs) _ ?_;refine aI ?_;refine bo h (λi3 h=>?_) λi3 h=>?_
       .exact bw dJ [.int .i64 (-1)]
       .refine bn (c5 _ (dP _ (inl (eY ?_))));exact fP _ (inr ⟨_,cr rfl,gN bY (i64.wrap (bd+1)) h⟩)
  .exact dq (bY 0 _ (bf 0 _ (c1 _ (cz _ (inl (bw aE [.int .i64 bZ]))))))
 exact eL h λn h=>g8 n ab 0 h
theorem Mn (a0 ab r) (h:xP a0 ab=some r):bx az 14 [ca a0,.int .i64 ab] (.int .i64 r) []:=by
 refine cv [0] [.tmp 4] Tryz.func14 mC λcn aE cl=>aI ?_;obtain⟨af,a1,h⟩:=aO h;refine et (AL a0.Start ab _ a1) _ ?_;refine aR aE λ_ fX cy _=>aI ?_;refine bo h (λe6 h=>?_) λe6 h=>?_
 .exact bw cy [.int .i64 (-1)]
 .refine bn (fX _ (inl ?_));obtain⟨aH,iC,h⟩:=aO h;refine et (X2 a0.aW af _ iC) _ ?_;refine aR aE λ_ c5 dJ _=>aI ?_;refine bo h (λhG h=>?_) λhG h=>?_
  .exact bw dJ [.int .i64 (-1)]
  .exact bn (c5 _ (inl (bw aE [.int .i64 aH])))
theorem X4 (a0 r) (h:EP a0=some r):bx az 5 [jh a0] (.bool r) []:=by
 refine cv [0] [.tmp 2] Tryz.func5 o1 λcn aE cl=>aI ?_;refine aI ?_;obtain⟨af,b6,h⟩:=aO h;refine et (V1 a0 1048576 _ b6) _ ?_;refine aR aE λ_ fP dn bf=>aI ?_;refine bo h (λr1 h=>?_) λr1 h=>?_
 .exact bw dn [.bool true]
 .refine bn (fP _ (inl ?_));obtain⟨aH,ka,h⟩:=aO h;obtain⟨aM,pW,h⟩:=aO h;refine dm (cA [(1,.aD (jh a0)),(4,.aD (eC aM.1)),(5,.ad 1 (aM.2.1.map aC)),(6,.int .i64 aM.2.2)] (λP bB=>?_) ?_)
  ·(try simp only[X0.down,simprocAttr,ni,nj]);refine dS (AG a0 _ ka) (hK:= ?_);simp only[X0.down,simprocAttr,ni,nj];refine dS (W9 aH _ pW) rfl rfl (by simp only[X0.down,simprocAttr,E_.down]<;>rfl) rfl (inr (by simp only[j.cL,j.hN,Fa.down,Bool.and_self])) ?_;simp only[X0.down,simprocAttr,ni,nj];exact cx (aa @ni @nj)
  obtain⟨aT,fk,h⟩:=aO h;refine et (AG a0 _ fk) _ ?_;obtain⟨bf,fs,h⟩:=aO h;refine dm (cA [(1,.aD (jh a0)),(4,.aD (eC aM.1)),(5,.ad 1 (aM.2.1.map aC)),(6,.int .i64 aM.2.2),(7,.aD (eC aT)),(8,.aD (eC bf.1)),(9,.ad 1 (bf.2.1.map aC)),(10,.int .i64 bf.2.2)] (λP bB=>?_) ?_)
  ·(try simp only[X0.down,simprocAttr,ni,nj]);refine dS (Me aT _ fs) rfl rfl (by simp only[X0.down,simprocAttr,E_.down]<;>rfl) rfl (inr (by simp only[j.cL,j.hN,Fa.down,Bool.and_self])) ?_;simp only[X0.down,simprocAttr,ni,nj];exact cx (aa @ni @nj)
  refine aR aE λ_ oA mF s9=>?_;obtain⟨bY,gg,h⟩:=aO h;rcases gi h with⟨gw,h⟩|⟨gw,h⟩
  .refine dm (cA [(1,.aD (jh a0)),(4,.aD (eC aM.1)),(5,.ad 1 (aM.2.1.map aC)),(6,.int .i64 aM.2.2),(7,.aD (eC aT)),(8,.aD (eC bf.1)),(9,.ad 1 (bf.2.1.map aC)),(10,.int .i64 bf.2.2),(51,.bool true)] (λP bB=>?_) ?_)
   ·(try simp only[X0.down,simprocAttr,(h4 gw)]);refine dS (pI bf.1 aM.1 _ gg) rfl rfl (by simp only[X0.down,simprocAttr,(h4 gw),pD.down]<;>rfl) rfl (inr (by rfl)) ?_;simp only[X0.down,simprocAttr,(h4 gw)];exact cx (h4 gw)
   refine jg rfl ?_;exact bw mF [.bool false]
  .obtain⟨b1,hp,h⟩:=aO h;refine dm (cA [(1,.aD (jh a0)),(4,.aD (eC aM.1)),(5,.ad 1 (aM.2.1.map aC)),(6,.int .i64 aM.2.2),(7,.aD (eC aT)),(8,.aD (eC bf.1)),(9,.ad 1 (bf.2.1.map aC)),(10,.int .i64 bf.2.2),(51,.bool ((!b1)||(bf.2.2 !=aM.2.2)))] (λP bB=>?_) ?_)
   .rcases Bool.eq_false_or_eq_true (b1)with mK|mK
    ·(try simp only[X0.down,simprocAttr,(da gw),mK]);refine dS (pI bf.1 aM.1 _ gg) rfl rfl (by simp only[X0.down,simprocAttr,(da gw),mK,pD.down]<;>rfl) rfl (inr (by rfl)) ?_;simp only[X0.down,simprocAttr,(da gw),mK];refine iE (rm bf.2.1 aM.2.1 _ hp) rfl rfl (by simp only[X0.down,simprocAttr,(da gw),mK,vu.down]<;>rfl) rfl (inr (by rfl)) ?_;simp only[X0.down,simprocAttr,(da gw),mK];exact cx (aa (da gw) mK)
    ·(try simp only[X0.down,simprocAttr,(da gw),mK]);refine dS (pI bf.1 aM.1 _ gg) rfl rfl (by simp only[X0.down,simprocAttr,(da gw),mK,pD.down]<;>rfl) rfl (inr (by rfl)) ?_;simp only[X0.down,simprocAttr,(da gw),mK];refine iE (rm bf.2.1 aM.2.1 _ hp) rfl rfl (by simp only[X0.down,simprocAttr,(da gw),mK,vu.down]<;>rfl) rfl (inr (by rfl)) ?_;simp only[X0.down,simprocAttr,(da gw),mK];exact cx (aa (da gw) mK)
   refine bo h (λkK h=>?_) λkK h=>?_
   .exact bw mF [.bool false]
   .refine bn (oA _ (inl (aR aE λ_ FP AK _=>?_)));obtain⟨dB,tj,h⟩:=aO h;obtain⟨dr,FR,h⟩:=aO h;refine w8 rfl (o_ [(1,.aD (jh a0)),(4,.aD (eC aM.1)),(5,.ad 1 (aM.2.1.map aC)),(6,.int .i64 aM.2.2),(7,.aD (eC aT)),(8,.aD (eC bf.1)),(9,.ad 1 (bf.2.1.map aC)),(10,.int .i64 bf.2.2),(56,.bool (!dr))] (λP bB=>?_) ?_)
    ·(try simp only[fI.down,simprocAttr]);refine k7 (AG a0 _ tj) (hK:= ?_);simp only[fI.down,simprocAttr];refine k7 (pI aT dB _ FR) rfl rfl (by simp only[fI.down,simprocAttr,pD.down]<;>rfl) rfl (inr (by rfl)) ?_;simp only[fI.down,simprocAttr];refine⟨n9 (by kernel_rfl),?_⟩;exact cx trivial
    refine bo h (λFb h=>?_) λFb h=>?_
    .exact bw AK [.bool false]
    .refine bn (FP _ (inl (aI ?_)));obtain⟨fA,pF,h⟩:=aO h;refine dm (cA [(1,.aD (jh a0)),(4,.aD (eC aM.1)),(5,.ad 1 (aM.2.1.map aC)),(6,.int .i64 aM.2.2),(8,.aD (eC bf.1)),(9,.ad 1 (bf.2.1.map aC)),(10,.int .i64 bf.2.2),(11,.int .i64 fA.1)] (λP bB=>?_) ?_)
     ·(try simp only[X0.down,simprocAttr]);refine k8 [⟨.h 7 [0],true,_,_⟩,⟨.int .i64 1,false,_,.hole⟩] (Mk aT.a8 aT.Start aT.aW 1 _ pF) rfl rfl rfl (by simp only[X0.down,simprocAttr,LB.down]) rfl rfl (inl rfl) ?_;simp only[X0.down,simprocAttr,jZ];exact cx trivial
     refine aR aE λ_ n34 FV _=>?_;rcases gi h with⟨iL,h⟩|⟨iL,h⟩
     .refine dC iL _ ?_;refine jg rfl ?_;exact bw FV [.bool false]
     .obtain⟨lh,FW,h⟩:=aO h;rcases gi h with⟨i3,h⟩|⟨i3,h⟩
      .refine dm (cA [(1,.aD (jh a0)),(4,.aD (eC aM.1)),(5,.ad 1 (aM.2.1.map aC)),(6,.int .i64 aM.2.2),(8,.aD (eC bf.1)),(9,.ad 1 (bf.2.1.map aC)),(78,.bool true)] (λP bB=>?_) ?_)
       ·(try simp only[X0.down,simprocAttr,iL,(h4 i3)]);refine iE (pI bf.1 aM.1 _ FW) rfl rfl (by simp only[X0.down,simprocAttr,iL,(h4 i3),pD.down]<;>rfl) rfl (inr (by rfl)) ?_;simp only[X0.down,simprocAttr,iL,(h4 i3)];exact cx (aa iL (h4 i3))
       refine jg rfl ?_;exact bw FV [.bool false]
      .obtain⟨oe,Mo,h⟩:=aO h;refine dm (cA [(1,.aD (jh a0)),(4,.aD (eC aM.1)),(5,.ad 1 (aM.2.1.map aC)),(6,.int .i64 aM.2.2),(8,.aD (eC bf.1)),(9,.ad 1 (bf.2.1.map aC)),(78,.bool ((!oe)||(bf.2.2 !=aM.2.2)))] (λP bB=>?_) ?_)
       .rcases Bool.eq_false_or_eq_true (oe)with mL|mL
        ·(try simp only[X0.down,simprocAttr,iL,(da i3),mL]);refine iE (pI bf.1 aM.1 _ FW) rfl rfl (by simp only[X0.down,simprocAttr,iL,(da i3),mL,pD.down]<;>rfl) rfl (inr (by rfl)) ?_;simp only[X0.down,simprocAttr,iL,(da i3),mL];refine iE (rm bf.2.1 aM.2.1 _ Mo) rfl rfl (by simp only[X0.down,simprocAttr,iL,(da i3),mL,vu.down]<;>rfl) rfl (inr (by rfl)) ?_;simp only[X0.down,simprocAttr,iL,(da i3),mL];exact cx (aa iL (aa (da i3) mL))
        ·(try simp only[X0.down,simprocAttr,iL,(da i3),mL]);refine iE (pI bf.1 aM.1 _ FW) rfl rfl (by simp only[X0.down,simprocAttr,iL,(da i3),mL,pD.down]<;>rfl) rfl (inr (by rfl)) ?_;simp only[X0.down,simprocAttr,iL,(da i3),mL];refine iE (rm bf.2.1 aM.2.1 _ Mo) rfl rfl (by simp only[X0.down,simprocAttr,iL,(da i3),mL,vu.down]<;>rfl) rfl (inr (by rfl)) ?_;simp only[X0.down,simprocAttr,iL,(da i3),mL];exact cx (aa iL (aa (da i3) mL))
       refine bo h (λX5 h=>?_) λX5 h=>?_
       .exact bw FV [.bool false]
       .refine bn (n34 _ (inl (aI ?_)));obtain⟨e2,tq,h⟩:=aO h;refine dm (cA [(1,.aD (jh a0)),(4,.aD (eC aM.1)),(5,.ad 1 (aM.2.1.map aC)),(6,.int .i64 aM.2.2),(8,.aD (.agg [.int .i64 e2.2.1,.ad 1 (e2.2.2.1.map aC),.ad 5 (e2.2.2.2.map cG)])),(9,.ad 1 (bf.2.1.map aC)),(12,.int .i64 e2.1)] (λP bB=>?_) ?_)
        ·(try simp only[X0.down,simprocAttr]);refine k8 [⟨.h 8 [0],true,_,_⟩,⟨.int .i64 1,false,_,.hole⟩] (Mk bf.1.a8 bf.1.Start bf.1.aW 1 _ tq) rfl rfl rfl (by simp only[X0.down,simprocAttr,LB.down]) rfl rfl (inl rfl) ?_;simp only[X0.down,simprocAttr,jZ];exact cx trivial
        obtain⟨gA,X6,h⟩:=aO h;refine dm (cA [(1,.aD (jh a0)),(4,.aD (eC aM.1)),(5,.ad 1 (aM.2.1.map aC)),(6,.int .i64 aM.2.2),(8,.aD (.agg [.int .i64 e2.2.1,.ad 1 (e2.2.2.1.map aC),.ad 5 (e2.2.2.2.map cG)])),(9,.ad 1 (gA.2.map aC)),(12,.int .i64 gA.1)] (λP bB=>?_) ?_)
        ·(try simp only[X0.down,simprocAttr]);refine k8 [⟨.h 9 [],true,_,_⟩,⟨.int .i64 e2.1,false,_,.hole⟩] (FU bf.2.1 e2.1 _ X6) rfl rfl rfl (by simp only[X0.down,simprocAttr,AD.down]) rfl rfl (inl rfl) ?_;simp only[X0.down,simprocAttr,jZ];exact cx trivial
        refine aI ?_;obtain⟨ql,FT,h⟩:=aO h;refine dm (cA [(1,.aD (jh a0)),(4,.aD (eC aM.1)),(5,.ad 1 (aM.2.1.map aC)),(6,.int .i64 aM.2.2),(8,.aD (.agg [.int .i64 e2.2.1,.ad 1 (e2.2.2.1.map aC),.ad 5 (e2.2.2.2.map cG)])),(9,.ad 1 (gA.2.map aC)),(12,.int .i64 gA.1),(13,.int .i64 ql)] (λP bB=>?_) ?_)
        ·(try simp only[X0.down,simprocAttr]);refine dS (Mn (bj.mk e2.2.1 e2.2.2.1 e2.2.2.2) 1 _ FT) rfl rfl (by simp only[X0.down,simprocAttr,LC.down]<;>rfl) rfl (inr (by rfl)) ?_;simp only[X0.down,simprocAttr];exact cx trivial
        refine aR aE λ_ n53 vy _=>aI ?_;refine bo h (λX7 h=>?_) λX7 h=>?_
        .exact bw vy [.bool false]
        .refine bn (n53 _ (inl ?_));obtain⟨s9,X8,h⟩:=aO h;refine dm (cA [(1,.aD (jh a0)),(4,.aD (eC aM.1)),(5,.ad 1 (aM.2.1.map aC)),(6,.int .i64 aM.2.2),(8,.aD (.agg [.int .i64 e2.2.1,.ad 1 (e2.2.2.1.map aC),.ad 5 (e2.2.2.2.map cG)])),(9,.ad 1 (gA.2.map aC)),(12,.int .i64 gA.1),(13,.int .i64 s9)] (λP bB=>?_) ?_)
         ·(try simp only[X0.down,simprocAttr]);refine dS (AL gA.2 ql _ X8) rfl rfl (by simp only[X0.down,simprocAttr,AE.down]<;>rfl) rfl (inr (by rfl)) ?_;simp only[X0.down,simprocAttr];exact cx trivial
         refine aR aE λ_ n59 X9 _=>aI ?_;refine bo h (λX_ h=>?_) λX_ h=>?_
         .exact bw X9 [.bool false]
         .refine bn (n59 _ (inl (aR aE λ_ n63 Ya _=>aI ?_)));refine bo h (λYb h=>?_) λYb h=>?_
          .exact bw Ya [.bool false]
          .refine bn (n63 _ (inl ?_));obtain⟨xQ,Yc,h⟩:=aO h;obtain⟨kl,Yd,h⟩:=aO h;refine dm (cA [(4,.aD (eC aM.1)),(5,.ad 1 (aM.2.1.map aC)),(6,.int .i64 aM.2.2),(8,.aD (.agg [.int .i64 e2.2.1,.ad 1 (e2.2.2.1.map aC),.ad 5 (e2.2.2.2.map cG)])),(9,.ad 1 (gA.2.map aC)),(12,.int .i64 gA.1),(14,.aD (eC kl.1)),(15,.ad 1 (kl.2.1.map aC)),(16,.int .i64 kl.2.2)] (λP bB=>?_) ?_)
           ·(try simp only[X0.down,simprocAttr,ni,nj]);refine dS (AG a0 _ Yc) (hK:= ?_);simp only[X0.down,simprocAttr,ni,nj];refine dS (Me xQ _ Yd) rfl rfl (by simp only[X0.down,simprocAttr,E_.down]<;>rfl) rfl (inr (by simp only[j.cL,j.hN,Fa.down,Bool.and_self])) ?_;simp only[X0.down,simprocAttr,ni,nj];exact cx (aa @ni @nj)
           refine aR aE λ_ n70 Mp _=>?_;obtain⟨vn,FX,h⟩:=aO h;rcases gi h with⟨kn,h⟩|⟨kn,h⟩
           .refine dm (cA [(8,.aD (.agg [.int .i64 e2.2.1,.ad 1 (e2.2.2.1.map aC),.ad 5 (e2.2.2.2.map cG)])),(9,.ad 1 (gA.2.map aC)),(12,.int .i64 gA.1),(119,.bool true)] (λP bB=>?_) ?_)
            ·(try simp only[X0.down,simprocAttr,(h4 kn)]);refine dS (pI kl.1 aM.1 _ FX) rfl rfl (by simp only[X0.down,simprocAttr,(h4 kn),pD.down]<;>rfl) rfl (inr (by rfl)) ?_;simp only[X0.down,simprocAttr,(h4 kn)];exact cx (h4 kn)
            refine jg rfl ?_;exact bw Mp [.bool false]
           .obtain⟨vo,Mq,h⟩:=aO h;refine dm (cA [(8,.aD (.agg [.int .i64 e2.2.1,.ad 1 (e2.2.2.1.map aC),.ad 5 (e2.2.2.2.map cG)])),(9,.ad 1 (gA.2.map aC)),(12,.int .i64 gA.1),(119,.bool ((!vo)||(kl.2.2 !=aM.2.2)))] (λP bB=>?_) ?_)
            .rcases Bool.eq_false_or_eq_true (vo)with mM|mM
             ·(try simp only[X0.down,simprocAttr,(da kn),mM]);refine dS (pI kl.1 aM.1 _ FX) rfl rfl (by simp only[X0.down,simprocAttr,(da kn),mM,pD.down]<;>rfl) rfl (inr (by rfl)) ?_;simp only[X0.down,simprocAttr,(da kn),mM];refine iE (rm kl.2.1 aM.2.1 _ Mq) rfl rfl (by simp only[X0.down,simprocAttr,(da kn),mM,vu.down]<;>rfl) rfl (inr (by rfl)) ?_;simp only[X0.down,simprocAttr,(da kn),mM];exact cx (aa (da kn) mM)
             ·(try simp only[X0.down,simprocAttr,(da kn),mM]);refine dS (pI kl.1 aM.1 _ FX) rfl rfl (by simp only[X0.down,simprocAttr,(da kn),mM,pD.down]<;>rfl) rfl (inr (by rfl)) ?_;simp only[X0.down,simprocAttr,(da kn),mM];refine iE (rm kl.2.1 aM.2.1 _ Mq) rfl rfl (by simp only[X0.down,simprocAttr,(da kn),mM,vu.down]<;>rfl) rfl (inr (by rfl)) ?_;simp only[X0.down,simprocAttr,(da kn),mM];exact cx (aa (da kn) mM)
            refine bo h (λYe h=>?_) λYe h=>?_
            .exact bw Mp [.bool false]
            .refine bn (n70 _ (inl (aI ?_)));obtain⟨xR,Yf,h⟩:=aO h;refine dm (cA [(9,.ad 1 (gA.2.map aC)),(12,.int .i64 gA.1),(13,.int .i64 xR)] (λP bB=>?_) ?_)
             ·(try simp only[X0.down,simprocAttr]);refine dS (Mn (bj.mk e2.2.1 e2.2.2.1 e2.2.2.2) 1 _ Yf) rfl rfl (by simp only[X0.down,simprocAttr,LC.down]<;>rfl) rfl (inr (by rfl)) ?_;simp only[X0.down,simprocAttr];exact cx trivial
             refine aR aE λ_ n82 Yg _=>aI ?_;refine bo h (λYh h=>?_) λYh h=>?_
             .exact bw Yg [.bool false]
             .refine bn (n82 _ (inl ?_));obtain⟨qm,Yi,h⟩:=aO h;refine dm (cA [(12,.int .i64 gA.1),(13,.int .i64 qm)] (λP bB=>?_) ?_)
              ·(try simp only[X0.down,simprocAttr]);refine dS (AL gA.2 xR _ Yi) rfl rfl (by simp only[X0.down,simprocAttr,AE.down]<;>rfl) rfl (inr (by rfl)) ?_;simp only[X0.down,simprocAttr];exact cx trivial
              refine aR aE λ_ n88 Yj _=>aI ?_;refine bo h (λYk h=>?_) λYk h=>?_
              .exact bw Yj [.bool false]
              .refine bn (n88 _ (inl (aR aE λ_ n92 Yl _=>aI ?_)));refine bo h (λYm h=>?_) λYm h=>?_
               .exact bw Yl [.bool false]
               .exact bn (n92 _ (inl (bw aE [.bool true])))
end Go.Proofs.YtndfcecbamffaaaGreat
