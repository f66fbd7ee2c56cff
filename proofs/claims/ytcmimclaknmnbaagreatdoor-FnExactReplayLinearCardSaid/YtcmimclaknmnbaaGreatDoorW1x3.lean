/- Part of a proof that a law returns true for every input. No condition. -/
import Derived.Test.YtcmimclaknmnbaaGreatDoorSl
namespace Go.Proofs.YtcmimclaknmnbaaGreatDoor
open Option Go.IntKind Nat Or
open Go Go.cC Go.lT
set_option maxRecDepth 100000
set_option maxHeartbeats 3200000
set_option linter.unusedSimpArgs false
set_option linter.unusedVariables false
theorem b1 (fx:anU) (dY:List ResultVar) {f:FuncId} {fn:Func} {ins outs:anZ} {r:I} (bc:ao.P.funcs[f]? =some fn) (dM:aH)
 (HL:∀Q:Exit->an->Prop,(∀s,di (cC.Ends ao fx dY r outs) s->Q .ret s)->(∀s,di (cC.Ends ao fx dY r outs) s->Q .normal s)->bh ao dM Q (aj (num 0 ins))) (U:fh ⟨fn.ntmps,fx⟩ (fn.body.getD .skip)=some dM.strip:=by kernel_rfl) (R:fn.body=some (fn.body.getD .skip):=by rfl) (jV:(fn.name== "runtime.NumGoroutine")=false:=by rfl) (aN:ins.length<=fn.ntmps:=by exact le_of_ble_eq_true rfl) (eC:fn.results.toList=dY:=by rfl) (al:dM.plain=true:=by kernel_rfl):aY ao f ins r outs:=
 aY.QG yi dY (num 0 ins) bc R jV U aN eC rfl HL al
theorem dc {P:Nat->Prop} (s:∀m,P m->P (m+1)) (z:P 0:=by intros;rename_i h;cases(show none=some _ from h)):∀n,P n:=λn=>Nat.rec z s n
def KW:=PLift.up (ad @abC (ad @abD (ad @abE (ad @abF (ad @abG (ad @abH (ad @abI (ad @abJ (ad @abK (ad @abL (ad @abM (ad @abN (ad @abO (ad @abP (ad @abQ (ad @abR (ad @abS (ad @abT (ad @abU (ad @abV (ad @abW (ad @abX (ad @abY (ad @abZ (ad @ab0 (ad @ab1 (ad @ab2 (ad @ab3 (ad @hv.eq_1 (ad @aG.eq_1 (ad @ej.eq_1 (ad @wY.eq_1 (ad @dO.eq_1 (ad @bG.eq_1 (ad @KE (ad @l9.eq_1 (ad @h9.eq_1 (ad @i1.eq_1 (ad @hE.eq_1 (ad @cB.eq_1 (ad @cf.eq_1 (ad @ix.eq_1 (ad @nh.eq_1 (ad @b3.eq_1 (ad @KD (ad @qW.eq_1 (ad @dG.eq_1 (ad @gn.eq_1 (ad @acz (ad @i6.eq_1 (ad @cO.eq_1 @jo.eq_1)))))))))))))))))))))))))))))))))))))))))))))))))))
def aQ:=PLift.up (ad @rX (ad aam.down KW.down))
def gB:=PLift.up (ad @rX (ad aan.down KW.down))
def iy:=PLift.up (ad @rX (ad aao.down KW.down))
theorem cb {F A:Prop} (f:F) (h:F->A:=by intro a8;(try simp only[iy.down,simprocAttr,a8,dj,fi,d_,eL,I.dS,I.shares]at a_⊢);exact a_):A:=h f
theorem wr {Q l ros k} (bV:anY) (hk:Q .normal (aj bV)) (h:∀P:anY->Prop,P bV->cq ao (aj l) ros none (λ_ s=>P (fo k s)):=by
 intro P a_;simp only[aQ.down,simprocAttr,dj,fi,d_,eL];(try simp only[iy.down,simprocAttr,dj,fi,d_,eL]at a_⊢);exact a_):bh ao (.ew ros (some k)) Q (aj l):=
 iv (cr bV (h) hk)
theorem eE {Q l ros k} {bV:anY} (hk:Q .normal (aj bV)) (h:∀P:anY->Prop,P bV->cq ao (aj l) ros none (λ_ s=>P (fo k s)):=by
 intro P a_;simp only[aQ.down,simprocAttr,dj,fi,d_,eL];(try simp only[iy.down,simprocAttr,dj,fi,d_,eL]at a_⊢);exact a_):bh ao (.ew ros (some k)) Q (aj l):=
 iv (cr bV (h) hk)
theorem Su {Q l ros k g ds r} (ok:aY ao g ds r []) (bV:anY) (hk:Q .normal (aj bV)) (h:aY ao g ds r []->∀P:anY->Prop,P bV->cq ao (aj l) ros none (λ_ s=>P (fo k s)):=by
 intro oJ P a_;(try simp only[aQ.down,simprocAttr,dj,fi,d_,eL]);(first|refine dv oJ rfl rfl rfl rfl (inl (by rfl)) ?_|refine nG oJ rfl rfl rfl rfl (inl (by rfl)) ?_);simp only[aQ.down,simprocAttr,dj,fi,d_,eL];(try simp only[iy.down,simprocAttr,dj,fi,d_,eL]at a_⊢);exact a_):bh ao (.ew ros (some k)) Q (aj l):=
 iv (cr bV (h ok) hk)
theorem FB {Q l ros k g ds r} {F:Prop} (a8:F) (ok:aY ao g ds r []) (bV:anY) (hk:Q .normal (aj bV)) (h:aY ao g ds r []->F->∀P:anY->Prop,P bV->cq ao (aj l) ros none (λ_ s=>P (fo k s)):=by
 intro oJ a8 P a_;(try simp only[aQ.down,simprocAttr,a8,dj,fi,d_,eL]);(first|refine dv oJ rfl rfl rfl rfl (inl (by rfl)) ?_|refine nG oJ rfl rfl rfl rfl (inl (by rfl)) ?_);simp only[aQ.down,simprocAttr,a8,dj,fi,d_,eL];(try simp only[iy.down,simprocAttr,a8,dj,fi,d_,eL]at a_⊢);exact a_):bh ao (.ew ros (some k)) Q (aj l):=
 iv (cr bV (h ok a8) hk)
theorem Sv {Q l ros k e6} {F:Prop} (a8:F) (bV:anY) (hk:Q .normal (aj bV)) (h:F->∀P:anY->Prop,P bV->cq ao (aj l) ros (some []) (λacc s=>lO (rP e6) 0 [] (acc.getD []).reverse=true/\P (fo k s)):=by
 intro a8 P a_;simp only[gB.down,simprocAttr,a8,dj,fi,d_,eL];refine⟨pV (by kernel_rfl),?_⟩;(try simp only[iy.down,simprocAttr,a8,dj,fi,d_,eL]at a_⊢);exact a_) (hl:e6.length=ros.length:=by rfl):bh ao (.kp ros e6 (some k)) Q (aj l):=
 PD hl (qE bV (h a8) hk)
theorem oK {Q l ros k} {F:Prop} (a8:F) (bV:anY) (hk:Q .normal (aj bV)) (h:F->∀P:anY->Prop,P bV->cq ao (aj l) ros none (λ_ s=>P (fo k s)):=by
 intro a8 P a_;simp only[aQ.down,simprocAttr,a8,dj,fi,d_,eL];(try simp only[iy.down,simprocAttr,a8,dj,fi,d_,eL]at a_⊢);exact a_):bh ao (.ew ros (some k)) Q (aj l):=
 iv (cr bV (h a8) hk)
theorem ws {Q l ros k b} (bV:anY) (hk:bh ao b Q (aj bV)) (h:∀P:anY->Prop,P bV->cq ao (aj l) ros none (λ_ s=>P (fo k s)):=by
 intro P a_;simp only[aQ.down,simprocAttr,dj,fi,d_,eL];(try simp only[iy.down,simprocAttr,dj,fi,d_,eL]at a_⊢);exact a_):bh ao (.seq (.ew ros (some k)) b) Q (aj l):=
 dn (cr bV (h) hk)
theorem aB {Q l ros k b} {bV:anY} (hk:bh ao b Q (aj bV)) (h:∀P:anY->Prop,P bV->cq ao (aj l) ros none (λ_ s=>P (fo k s)):=by
 intro P a_;simp only[aQ.down,simprocAttr,dj,fi,d_,eL];(try simp only[iy.down,simprocAttr,dj,fi,d_,eL]at a_⊢);exact a_):bh ao (.seq (.ew ros (some k)) b) Q (aj l):=
 dn (cr bV (h) hk)
theorem bk {Q l ros k fx dY r} {bV:anY} (dC:∀s,di (cC.Ends ao fx dY r []) s->Q .ret s) (ds:anZ) (h:∀P:anY->Prop,P bV->cq ao (aj l) ros none (λ_ s=>P (fo k s)):=by
 intro P a_;simp only[aQ.down,simprocAttr,dj,fi,d_,eL];(try simp only[iy.down,simprocAttr,dj,fi,d_,eL]at a_⊢);exact a_) (ab:r=DH ds:=by cases gh (by assumption);rfl) (h1:dY.map (qB ao (aj bV))=ds.map some:=by rfl) (ay:(dY.map jE).Nodup:=by decide):bh ao (.seq (.ew ros (some k)) .ret) Q (aj l):=
 ws bV (cE dC ds ab h1 ay) h
theorem dp {Q l ros k b g ds r} (ok:aY ao g ds r []) (bV:anY) (hk:bh ao b Q (aj bV)) (h:aY ao g ds r []->∀P:anY->Prop,P bV->cq ao (aj l) ros none (λ_ s=>P (fo k s)):=by
 intro oJ P a_;(try simp only[aQ.down,simprocAttr,dj,fi,d_,eL]);(first|refine dv oJ rfl rfl rfl rfl (inl (by rfl)) ?_|refine nG oJ rfl rfl rfl rfl (inl (by rfl)) ?_);simp only[aQ.down,simprocAttr,dj,fi,d_,eL];(try simp only[iy.down,simprocAttr,dj,fi,d_,eL]at a_⊢);exact a_):bh ao (.seq (.ew ros (some k)) b) Q (aj l):=
 dn (cr bV (h ok) hk)
theorem eS {Q l ros k b g ds r} {F:Prop} (a8:F) (ok:aY ao g ds r []) (bV:anY) (hk:bh ao b Q (aj bV)) (h:aY ao g ds r []->F->∀P:anY->Prop,P bV->cq ao (aj l) ros none (λ_ s=>P (fo k s)):=by
 intro oJ a8 P a_;(try simp only[aQ.down,simprocAttr,a8,dj,fi,d_,eL]);(first|refine dv oJ rfl rfl rfl rfl (inl (by rfl)) ?_|refine nG oJ rfl rfl rfl rfl (inl (by rfl)) ?_);simp only[aQ.down,simprocAttr,a8,dj,fi,d_,eL];(try simp only[iy.down,simprocAttr,a8,dj,fi,d_,eL]at a_⊢);exact a_):bh ao (.seq (.ew ros (some k)) b) Q (aj l):=
 dn (cr bV (h ok a8) hk)
theorem w5 {Q l ros k b e6 g ds r} {F:Prop} (a8:F) (ok:aY ao g ds r []) (bV:anY) (hk:bh ao b Q (aj bV)) (h:aY ao g ds r []->F->∀P:anY->Prop,P bV->cq ao (aj l) ros (some []) (λacc s=>lO (rP e6) 0 [] (acc.getD []).reverse=true/\P (fo k s)):=by
 intro oJ a8 P a_;(try simp only[gB.down,simprocAttr,a8,dj,fi,d_,eL]);(first|refine o6 oJ rfl rfl rfl rfl (inl (by rfl)) ?_|refine AR oJ rfl rfl rfl rfl (inl (by rfl)) ?_);simp only[gB.down,simprocAttr,a8,dj,fi,d_,eL];refine⟨pV (by kernel_rfl),?_⟩;(try simp only[iy.down,simprocAttr,a8,dj,fi,d_,eL]at a_⊢);exact a_) (hl:e6.length=ros.length:=by rfl):bh ao (.seq (.kp ros e6 (some k)) b) Q (aj l):=
 sN hl (qE bV (h ok a8) hk)
theorem sd {Q l ros k b e6} {F:Prop} (a8:F) (bV:anY) (hk:bh ao b Q (aj bV)) (h:F->∀P:anY->Prop,P bV->cq ao (aj l) ros (some []) (λacc s=>lO (rP e6) 0 [] (acc.getD []).reverse=true/\P (fo k s)):=by
 intro a8 P a_;simp only[gB.down,simprocAttr,a8,dj,fi,d_,eL];refine⟨pV (by kernel_rfl),?_⟩;(try simp only[iy.down,simprocAttr,a8,dj,fi,d_,eL]at a_⊢);exact a_) (hl:e6.length=ros.length:=by rfl):bh ao (.seq (.kp ros e6 (some k)) b) Q (aj l):=
 sN hl (qE bV (h a8) hk)
theorem dd {Q l ros k b} {F:Prop} (a8:F) (bV:anY) (hk:bh ao b Q (aj bV)) (h:F->∀P:anY->Prop,P bV->cq ao (aj l) ros none (λ_ s=>P (fo k s)):=by
 intro a8 P a_;simp only[aQ.down,simprocAttr,a8,dj,fi,d_,eL];(try simp only[iy.down,simprocAttr,a8,dj,fi,d_,eL]at a_⊢);exact a_):bh ao (.seq (.ew ros (some k)) b) Q (aj l):=
 dn (cr bV (h a8) hk)
theorem tf {Q l ros k b} {F:Prop} (a8:F) (bV:anY) (hk:bh ao b Q (aj bV)) (h:F->∀P:anY->Prop,P bV->cq ao (aj l) ros none (λ_ s=>P (fo k s)):=by
 intro a8 P a_;simp only[aQ.down,simprocAttr,a8,dj,fi,d_,eL,-Int.reduceNatCast'];(try simp only[iy.down,simprocAttr,a8,dj,fi,d_,eL,-Int.reduceNatCast']at a_⊢);exact a_):bh ao (.seq (.ew ros (some k)) b) Q (aj l):=
 dn (cr bV (h a8) hk)
theorem q1 {Q l ros k b} (e:Bool) (bV:anY) (hk:bh ao b Q (aj bV)) (h:∀c,e=c->∀P:anY->Prop,P bV->cq ao (aj l) ros none (λ_ s=>P (fo k s)):=by
 intro c ai P a_;cases c;all_goals
  (try simp only[List.length_replicate]at ai);simp only[aQ.down,simprocAttr,ai,dj,fi,d_,eL];(try simp only[iy.down,simprocAttr,ai,dj,fi,d_,eL]at a_⊢);exact a_):bh ao (.seq (.ew ros (some k)) b) Q (aj l):=
 dn (cr bV (h e rfl) hk)
theorem afF {Q l ros k b} (e:Bool) {F:Prop} (a8:F) (bV:anY) (hk:bh ao b Q (aj bV)) (h:F->∀c,e=c->∀P:anY->Prop,P bV->cq ao (aj l) ros none (λ_ s=>P (fo k s)):=by
 intro a8 c ai P a_;cases c;all_goals
  (try simp only[List.length_replicate]at ai);simp only[aQ.down,simprocAttr,ai,a8,dj,fi,d_,eL];(try simp only[iy.down,simprocAttr,ai,a8,dj,fi,d_,eL]at a_⊢);exact a_):bh ao (.seq (.ew ros (some k)) b) Q (aj l):=
 dn (cr bV (h a8 e rfl) hk)
def h_:=PLift.up (ad @List.length_append.{0} (ad @List.length_cons.{0} (ad @List.length_nil.{0} (ad @List.length_map.{0,0} @List.length_replicate.{0}))))
def uP:=PLift.up (ad @xX (ad @xY @o8))
def w6:=PLift.up (ad @B3 @KC)
def zk:=PLift.up (ad (@AU ao 29 22 1 1 [.bd] rfl rfl rfl (by kernel_rfl)) (ad @t_ (ad @ua (ad @ey (ad @jF (ad @List.nil_append.{0} @List.cons_append.{0}))))))
def zl:=PLift.up (ad @hA (ad @hB (ad @hC (ad @dZ (ad (@cN _ cO cB (λ_=>zh _)) (@cN _ cB cB (λ_=>Rz _)))))))
def B8:=PLift.up (ad (@H8 ao 52 [(9,0),(22,1)] [(.str []),.bd] rfl rfl (by kernel_rfl)) (ad @t_ (ad @ua (ad @ey (ad @jF (ad @List.nil_append.{0} @List.cons_append.{0}))))))
def B9:=PLift.up (ad @List.cons_append.{0} (ad @List.nil_append.{0} (ad @List.length_append.{0} (ad @List.length_cons.{0} (ad @List.length_nil.{0} (ad @List.length_map.{0,0} @List.length_replicate.{0}))))))
def FC:=PLift.up (ad @hA (ad @hB (ad @hC (ad @dZ (@cN _ aG aG (λ_=>hn _))))))
def FD:=PLift.up (ad (@AU ao 49 52 1 2 [(.agg [(.str []),.bd])] rfl rfl rfl (by kernel_rfl)) (ad @t_ (ad @ua (ad @ey (ad @jF (ad @List.nil_append.{0} (ad @List.cons_append.{0} (ad (@kP ao 49 49 52 rfl rfl) (ad @kQ (ad @kR (ad @kO (ad @all_nil (@lP _ dG 2 (λ_=>rfl))))))))))))))
def FE:=PLift.up (ad (show∀s,ei ao s 29 1 [(0,.bd)]=some (.ah 1 [.bd],s)from λs=>by kernel_rfl) (ad (@kP ao 29 29 22 rfl rfl) (ad @kQ (ad @kR (ad @jF (ad @kO (ad @all_nil (@lP _ cB 1 (λ_=>rfl)))))))))
def KX:=PLift.up (ad (@kP ao 22 22 2 rfl rfl) (ad @kQ (ad @kR (ad @jF (ad @kO (ad @all_nil (@lP _ aG 1 (λ_=>rfl))))))))
def KY:=PLift.up (ad (@H8 ao 52 [(9,0),(22,1)] [(.str []),.bd] rfl rfl (by kernel_rfl)) (ad @t_ (ad @ua (ad @ey (ad @jF (ad @List.nil_append.{0} (ad @List.cons_append.{0} (ad @hA (ad @hB (ad @hC (ad @dZ (@cN _ aG aG (λ_=>hn _)))))))))))))
def KZ:=PLift.up (ad @Z0 (ad @ZX (ad @dZ (ad @ZW (ad (@cN _ bG bG (λ_=>qV _)) (ad (@cN _ cf cf (λ_=>uK _)) (@cN _ nh nh (λ_=>acv _))))))))
def K0:=PLift.up (ad @hA (ad @hB (ad @hC (ad @dZ (ad (@cN _ cf cf (λ_=>uK _)) (ad (@cN _ aG aG (λ_=>hn _)) (ad (@cN _ bG bG (λ_=>qV _)) (ad (@cN _ cf cf (λ_=>uK _)) (@cN _ cf cf (λ_=>uK _))))))))))
def K1:=PLift.up (ad @mU (ad @rX (ad @List.cons_append.{0} @List.nil_append.{0})))
def K2:=PLift.up (ad @qF (ad @pT (ad @nH (ad @hA (ad @hB (ad @hC (ad @dZ (ad @or_true (ad @true_or (@cN _ cO cB (λ_=>zh _)))))))))))
def K3:=PLift.up (ad @hA (ad @hB (ad @hC (ad @dZ (@cN _ cO cB (λ_=>zh _))))))
def Sw:=PLift.up (ad @qF (ad @nH (ad @hA (ad @hB (ad @hC (ad @dZ (ad @and_self (ad @and_true (ad @true_and (@cN _ aG aG (λ_=>hn _)))))))))))
def Sy:=PLift.up (ad @hA (ad @hB (ad @hC (ad @dZ (ad (@cN _ aG aG (λ_=>hn _)) (@cN _ dO dO (λ_=>Fp _)))))))
def Sz:=PLift.up (ad @B3 (ad @KC (ad (@AU ao 29 22 1 1 [.bd] rfl rfl rfl (by kernel_rfl)) (ad @t_ (ad @ua (ad @ey (ad @jF (ad @List.nil_append.{0} (ad @List.cons_append.{0} (ad (@kP ao 29 29 22 rfl rfl) (ad @kQ (ad @kR (ad @kO (ad @all_nil (@lP _ cO 1 (λ_=>rfl))))))))))))))))
def SA:=PLift.up (ad @DV (ad (λs x h=> @DU ao s 72 71 x rfl h) (ad @Qj (ad @Qi (ad @Qk (ad @Qd (ad @List.map_replicate.{0,0} (ad (λs y q=>(uc ao s 72 y q).1) (ad (λs y q=>(uc ao s 72 y q).2.1) (ad (λs y q=>(uc ao s 72 y q).2.2) @Ql))))))))))
def SB:=PLift.up (ad (λs y q=>(uc ao s 26 y q).1) (λs y q=>(uc ao s 26 y q).2.1))
def SC:=PLift.up (ad @hA (ad @hB (ad @hC (ad @dZ (@cN _ b3 b3 (λ_=>zg _))))))
def SD:=PLift.up (ad (@AU ao 174 148 1 1 [.dq] rfl rfl rfl (by kernel_rfl)) (ad @t_ (ad @ua (ad @ey (ad @jF (ad @List.nil_append.{0} (ad @List.cons_append.{0} (ad (@kP ao 174 174 148 rfl rfl) (ad @kQ (ad @kR (ad @kO (ad @all_nil (@lP _ i6 1 (λ_=>rfl))))))))))))))
def SE:=PLift.up (ad @DV (ad (λs x h=> @DU ao s 22 2 x rfl h) (ad @Qj (ad @Qi (ad @Qk (ad @Qd (ad @List.map_replicate.{0,0} (ad (λs y q=>(uc ao s 22 y q).1) (ad (λs y q=>(uc ao s 22 y q).2.1) (ad (λs y q=>(uc ao s 22 y q).2.2) @Ql))))))))))
def SF:=PLift.up (ad @qF (ad @pT (ad @nH (ad @hA (ad @hB (ad @hC (ad @dZ (ad @or_true (ad @true_or (ad @rX (ad @List.cons_append.{0} (ad @List.nil_append.{0} (@cN _ aG aG (λ_=>hn _))))))))))))))
def SG:=PLift.up (ad (@AU ao 29 22 1 1 [.bd] rfl rfl rfl (by kernel_rfl)) (ad @t_ (ad @ua (ad @ey (ad @jF (ad @List.nil_append.{0} (ad @List.cons_append.{0} (ad (@kP ao 29 29 22 rfl rfl) (ad @kQ (ad @kR (ad @kO (ad @all_nil (@lP _ cO 1 (λ_=>rfl))))))))))))))
def SH:=PLift.up (ad @pT (ad @nH (ad @hA (ad @hB (ad @hC (ad @dZ (ad @or_true (ad @true_or (@cN _ bG bG (λ_=>qV _))))))))))
def SI:=PLift.up (ad @pT (ad @nH (ad @hA (ad @hB (ad @hC (ad @dZ (ad @or_true (ad @true_or (@cN _ aG aG (λ_=>hn _))))))))))
def SJ:=PLift.up (ad @pT (ad @nH (ad @hA (ad @hB (ad @hC (ad @dZ (ad @or_true (ad @true_or (@cN _ jo cf (λ_=>Kz _))))))))))
def SK:=PLift.up (ad @hA (ad @hB (ad @hC (ad @dZ (ad (@cN _ aG aG (λ_=>hn _)) (ad (@cN _ gn dO (λ_=>wX _)) (@cN _ b3 b3 (λ_=>zg _))))))))
theorem SL (a0 J r) (h:Bh a0 J=some r):aY ao 17 [.slice (a0.map aG),.int .i64 J] (.int .i64 r) []:=by
 refine b1 [0] [.tmp 4] Tryz.func17 acB λbO az bQ=>aB ?_;refine aB ?_;refine aK az λ_ fS cz _=>aB ?_;refine aU h (λdt h=>?_) λdt h=>?_
 .exact bk cz [.int .i64 (-1)]
 .exact aZ (fS _ (inl (bk az [.int .i64 (i64.wrap (J-(a0.length:Int)))])))
theorem SM (a0 J r) (h:yj a0 J=some r):aY ao 64 [.slice (a0.map i1),.int .i64 J] (.int .i64 r) []:=by
 refine b1 [0] [.tmp 4] Tryz.func64 acC λbO az bQ=>aB ?_;refine aB ?_;refine aK az λ_ fS cz _=>aB ?_;refine aU h (λdt h=>?_) λdt h=>?_
 .exact bk cz [.int .i64 (-1)]
 .exact aZ (fS _ (inl (bk az [.int .i64 (i64.wrap (J-(a0.length:Int)))])))
theorem SN (a0 J r) (h:Bi a0 J=some r):aY ao 65 [.slice (a0.map ix),.int .i64 J] (.int .i64 r) []:=by
 refine b1 [0] [.tmp 4] Tryz.func65 acD λbO az bQ=>aB ?_;refine aB ?_;refine aK az λ_ fS cz _=>aB ?_;refine aU h (λdt h=>?_) λdt h=>?_
 .exact bk cz [.int .i64 (-1)]
 .refine aZ (fS _ (inl (aK az λ_ n7 fz _=>aB ?_)));refine bA fz λn1 _ cQ fc _=>?_;show bh ao (.loop ?pt) _ _;have n2:∀n hj hD,I3 a0 n hj hD=some r->cU ao ?pt n1 (aj [(0,.slice (a0.map ix)),(1,.int .i64 hj),(5,.int .i64 hD)]):=by
   refine dc λ_ n3 hj hD h=>db cQ λ_ n10 dx eQ=>aK dx λ_ n11 _ kx=>aB ?_;refine aU h (λiK h=>?_) λiK h=>?_
   .refine aZ (n11 _ (inl (aK dx λ_ n14 fe _=>bA fe λ_ n15 kc _ _=>?_)));obtain⟨af,e2,h⟩:=aE h;obtain⟨aw,gp,h⟩:=aE h;refine eS e2 (SM af hj _ gp) _ ?_;refine aB ?_;refine aU h (λn4 h=>?_) λn4 h=>?_
    .exact bk kc [.int .i64 (-1)]
    .refine aZ (n15 _ (n14 _ (inl (eE ?_))));exact n10 _ (inr ⟨_,b9 rfl,n3 aw (i64.wrap (hD+1)) h⟩)
   .exact cZ (kx 0 _ (eQ 0 _ (fc _ (n7 _ (inl (bk az [.int .i64 hj]))))))
  exact dH h λn h=>n2 n (i64.wrap (J-(a0.length:Int))) 0 h
theorem afG (a0 J r) (h:Bj a0 J=some r):aY ao 37 [h9 a0,.int .i64 J] (.int .i64 r) []:=by
 refine b1 [0] [.tmp 4] Tryz.func37 c37 λbO az bQ=>aB ?_;obtain⟨af,aP,h⟩:=aE h;refine dp (SL a0.a7 J _ aP) _ ?_;refine aK az λ_ fG b0 bu=>aB ?_;refine aU h (λeD h=>?_) λeD h=>?_
 .exact bk b0 [.int .i64 (-1)]
 .refine aZ (fG _ (inl ?_));obtain⟨aw,gi,h⟩:=aE h;refine dp (SM a0.Guard af _ gi) _ ?_;refine aK az λ_ n10 dx _=>aB ?_;refine aU h (λfT h=>?_) λfT h=>?_
  .exact bk dx [.int .i64 (-1)]
  .refine aZ (n10 _ (inl (aB ?_)));refine aK az λ_ n15 kc _=>aB ?_;refine aU h (λmK h=>?_) λmK h=>?_
   .exact bk kc [.int .i64 (-1)]
   .refine aZ (n15 _ (inl ?_));obtain⟨aS,hV,h⟩:=aE h;refine dp (SN a0.bU (i64.wrap (aw-(a0.Name.length:Int))) _ hV) _ ?_;refine aK az λ_ n21 lx _=>aB ?_;refine aU h (λkd h=>?_) λkd h=>?_
    .exact bk lx [.int .i64 (-1)]
    .refine aZ (n21 _ (inl ?_));obtain⟨bu,q2,h⟩:=aE h;refine dp (SN a0.Next aS _ q2) _ ?_;refine aK az λ_ n27 uQ _=>aB ?_;refine aU h (λtg h=>?_) λtg h=>?_
     .exact bk uQ [.int .i64 (-1)]
     .exact aZ (n27 _ (inl (bk az [.int .i64 bu])))
theorem afH (a0 J r) (h:Ed a0 J=some r):aY ao 18 [.slice (a0.map h9),.int .i64 J] (.int .i64 r) []:=by
 refine b1 [0] [.tmp 4] Tryz.func18 acE λbO az bQ=>aB ?_;refine aB ?_;refine aK az λ_ fS cz _=>aB ?_;refine aU h (λdt h=>?_) λdt h=>?_
 .exact bk cz [.int .i64 (-1)]
 .refine aZ (fS _ (inl (aK az λ_ n7 fz _=>aB ?_)));refine bA fz λn1 _ cQ fc _=>?_;show bh ao (.loop ?pt) _ _;have n2:∀n hj hD,I4 a0 n hj hD=some r->cU ao ?pt n1 (aj [(0,.slice (a0.map h9)),(1,.int .i64 hj),(5,.int .i64 hD)]):=by
   refine dc λ_ n3 hj hD h=>db cQ λ_ n10 dx eQ=>aK dx λ_ n11 _ kx=>aB ?_;refine aU h (λiK h=>?_) λiK h=>?_
   .refine aZ (n11 _ (inl (aK dx λ_ n14 fe _=>bA fe λ_ n15 kc _ _=>?_)));obtain⟨af,e2,h⟩:=aE h;obtain⟨aw,gp,h⟩:=aE h;refine eS e2 (afG af hj _ gp) _ ?_;refine aB ?_;refine aU h (λn4 h=>?_) λn4 h=>?_
    .exact bk kc [.int .i64 (-1)]
    .refine aZ (n15 _ (n14 _ (inl (eE ?_))));exact n10 _ (inr ⟨_,b9 rfl,n3 aw (i64.wrap (hD+1)) h⟩)
   .exact cZ (kx 0 _ (eQ 0 _ (fc _ (n7 _ (inl (bk az [.int .i64 hj]))))))
  exact dH h λn h=>n2 n (i64.wrap (J-(a0.length:Int))) 0 h
theorem afI (a0 J r) (h:Ee a0 J=some r):aY ao 4 [l9 a0,.int .i64 J] (.int .i64 r) []:=by
 refine b1 [0] [.tmp 4] Tryz.func4 c4 λbO az bQ=>aB ?_;obtain⟨af,aP,h⟩:=aE h;refine dp (SL a0.Start J _ aP) _ ?_;refine aK az λ_ fG b0 _=>aB ?_;refine aU h (λeD h=>?_) λeD h=>?_
 .exact bk b0 [.int .i64 (-1)]
 .refine aZ (fG _ (inl ?_));obtain⟨aw,gi,h⟩:=aE h;refine dp (afH a0.cG af _ gi) _ ?_;refine aK az λ_ n10 dx _=>aB ?_;refine aU h (λfT h=>?_) λfT h=>?_
  .exact bk dx [.int .i64 (-1)]
  .exact aZ (n10 _ (inl (bk az [.int .i64 aw])))
theorem afJ (a0 J r) (h:Ef a0 J=some r):aY ao 5 [.slice (a0.map b3),.int .i64 J] (.int .i64 r) []:=by
 refine b1 [0] [.tmp 4] Tryz.func5 c5 λbO az bQ=>aB ?_;refine aB ?_;refine aK az λ_ fS cz _=>aB ?_;refine aU h (λdt h=>?_) λdt h=>?_
 .exact bk cz [.int .i64 (-1)]
 .refine aZ (fS _ (inl (aK az λ_ n7 fz _=>aB ?_)));refine bA fz λn1 _ cQ fc _=>?_;show bh ao (.loop ?pt) _ _;have n2:∀n hj hD,I5 a0 n hj hD=some r->cU ao ?pt n1 (aj [(0,.slice (a0.map b3)),(1,.int .i64 hj),(5,.int .i64 hD)]):=by
   refine dc λ_ n3 hj hD h=>db cQ λ_ n10 dx eQ=>aK dx λ_ n11 _ kx=>aB ?_;refine aU h (λiK h=>?_) λiK h=>?_
   .refine aZ (n11 _ (inl (aK dx λ_ n14 fe _=>bA fe λ_ n15 kc _ _=>?_)));obtain⟨af,e2,h⟩:=aE h;refine dd e2 _ ?_;refine aB ?_;refine aU h (λky h=>?_) λky h=>?_
    .exact bk kc [.int .i64 (-1)]
    .refine aZ (n15 _ (n14 _ (inl (eE ?_))));exact n10 _ (inr ⟨_,b9 rfl,n3 (i64.wrap (hj-(af.length:Int))) (i64.wrap (hD+1)) h⟩)
   .exact cZ (kx 0 _ (eQ 0 _ (fc _ (n7 _ (inl (bk az [.int .i64 hj]))))))
  exact dH h λn h=>n2 n (i64.wrap (J-(a0.length:Int))) 0 h
theorem SO (a0 r) (h:Bk a0=some r):aY ao 25 [.slice (a0.map aG)] (.ah 1 (r.map aG)) []:=by
 refine b1 [0] [.tmp 2] Tryz.func25 acF λbO az bQ=>aB ?_;obtain⟨SP,aP,h⟩:=aE h;refine tf (ad (oS aP) @List.map_replicate.{0,0}) [(0,.slice (a0.map aG)),(3,.ah 1 ((List.replicate (Int.toNat (a0.length:Int)) 0).map aG))] ?_;refine aK az λ_ fG b0 _=>ws [(0,.slice (a0.map aG)),(3,.ah 1 ((List.replicate (Int.toNat (a0.length:Int)) 0).map aG)),(4,.int .i64 0)] ?_;refine bA b0 λly _ dT eD _=>?_;show bh ao (.loop ?h4) _ _;have iL:∀n cm cv,I6 a0 n cm cv=some r->cU ao ?h4 ly (aj [(0,.slice (a0.map aG)),(3,.ah 1 (cm.map aG)),(4,.int .i64 cv)]):=by
  refine dc λ_ iM cm cv h=>db dT λ_ n7 fz b8=>aK fz λ_ n8 _ cA=>aB ?_;refine aU h (λgx h=>?_) λgx h=>?_
  .refine aZ (n8 _ (inl (aK fz λ_ n11 gH _=>bA gH λ_ n12 _ _ _=>?_)));obtain⟨af,ft,h⟩:=aE h;obtain⟨aw,eO,h⟩:=aE h;refine iv (cr [(0,.slice (a0.map aG)),(3,.ah 1 ((List.set cm (Int.toNat cv) af).map aG)),(4,.int .i64 cv)] (λP a_=>?_) ?_)
   .simp only[aQ.down,simprocAttr,ft,eO,cn eO,ey,dj];exact cb (ad ft (ad eO (ad (cn eO) @ey)))
   refine n12 _ (n11 _ (inl (wr [(0,.slice (a0.map aG)),(3,.ah 1 ((List.set cm (Int.toNat cv) af).map aG)),(4,.int .i64 (i64.wrap (cv+1)))] ?_)));exact n7 _ (inr ⟨_,b9 rfl,iM (List.set cm (Int.toNat cv) af) (i64.wrap (cv+1)) h⟩)
  .exact cZ (cA 0 _ (b8 0 _ (eD _ (fG _ (inl (bk az [.ah 1 (cm.map aG)]))))))
 exact dH h λn h=>iL n (List.replicate (Int.toNat (a0.length:Int)) 0) 0 h
theorem afK (a0 r) (h:Bl a0=some r):aY ao 106 [i1 a0] (bG r) []:=by
 refine b1 [0] [.cell 2 125] Tryz.func106 acG λbO az bQ=>aB ?_;refine aB ?_;refine aB ?_;refine aB ?_;exact bk az [bG (aO.mk a0.Kind a0.Value)]
theorem SQ (a0 r) (h:yk a0=some r):aY ao 74 [.slice (a0.map i1)] (.ah 2 (r.map bG)) []:=by
 refine b1 [0] [.tmp 2] Tryz.func74 acH λbO az bQ=>aB ?_;obtain⟨K4,aP,h⟩:=aE h;refine tf (ad (oS aP) @List.map_replicate.{0,0}) [(0,.slice (a0.map i1)),(3,.ah 2 ((List.replicate (Int.toNat (a0.length:Int)) (aO.mk 0 0)).map bG))] ?_;refine aK az λ_ fG b0 _=>ws [(0,.slice (a0.map i1)),(3,.ah 2 ((List.replicate (Int.toNat (a0.length:Int)) (aO.mk 0 0)).map bG)),(4,.int .i64 0)] ?_;refine bA b0 λly _ dT eD _=>?_;show bh ao (.loop ?h4) _ _;have iL:∀n cm cv,I7 a0 n cm cv=some r->cU ao ?h4 ly (aj [(0,.slice (a0.map i1)),(3,.ah 2 (cm.map bG)),(4,.int .i64 cv)]):=by
  refine dc λ_ iM cm cv h=>db dT λ_ n7 fz b8=>aK fz λ_ n8 _ cA=>aB ?_;refine aU h (λgx h=>?_) λgx h=>?_
  .refine aZ (n8 _ (inl (aK fz λ_ n11 gH _=>bA gH λ_ n12 _ _ _=>?_)));obtain⟨af,ft,h⟩:=aE h;obtain⟨aw,eO,h⟩:=aE h;obtain⟨aS,ez,h⟩:=aE h;refine iv (cr [(0,.slice (a0.map i1)),(3,.ah 2 ((List.set cm (Int.toNat cv) aw).map bG)),(4,.int .i64 cv)] (λP a_=>?_) ?_)
   ·(try simp only[aQ.down,simprocAttr,ft,ez,cn ez,ey,dj]);refine dv (afK af _ eO) (hK:= ?_);simp only[aQ.down,simprocAttr,ft,ez,cn ez,ey,dj];exact cb (ad ft (ad ez (ad (cn ez) @ey)))
   refine n12 _ (n11 _ (inl (wr [(0,.slice (a0.map i1)),(3,.ah 2 ((List.set cm (Int.toNat cv) aw).map bG)),(4,.int .i64 (i64.wrap (cv+1)))] ?_)));exact n7 _ (inr ⟨_,b9 rfl,iM (List.set cm (Int.toNat cv) aw) (i64.wrap (cv+1)) h⟩)
  .exact cZ (cA 0 _ (b8 0 _ (eD _ (fG _ (inl (bk az [.ah 2 (cm.map bG)]))))))
 exact dH h λn h=>iL n (List.replicate (Int.toNat (a0.length:Int)) (aO.mk 0 0)) 0 h
theorem SR (a0 r) (h:Bm a0=some r):aY ao 75 [.slice (a0.map ix)] (.ah 1 (r.map jo)) []:=by
 refine b1 [0] [.tmp 2] Tryz.func75 c75 λbO az bQ=>aB ?_;obtain⟨K4,aP,h⟩:=aE h;refine tf (ad (oS aP) @List.map_replicate.{0,0}) [(0,.slice (a0.map ix)),(3,.ah 1 (List.replicate (Int.toNat (a0.length:Int)) .bd))] ?_;refine aK az λ_ fG b0 _=>ws [(0,.slice (a0.map ix)),(3,.ah 1 (List.replicate (Int.toNat (a0.length:Int)) .bd)),(4,.int .i64 0)] ?_;refine bA b0 λly _ dT eD _=>?_;show bh ao (.loop ?h4) _ _;have iL:∀n cm cv,I8 a0 n cm cv=some r->cU ao ?h4 ly (aj [(0,.slice (a0.map ix)),(3,.ah 1 (cm.map jo)),(4,.int .i64 cv)]):=by
  refine dc λ_ iM cm cv h=>db dT λ_ n7 fz b8=>aK fz λ_ n8 _ cA=>aB ?_;refine aU h (λgx h=>?_) λgx h=>?_
  .refine aZ (n8 _ (inl (aK fz λ_ n11 gH _=>bA gH λ_ n12 _ _ _=>?_)));obtain⟨af,ft,h⟩:=aE h;obtain⟨aw,eO,h⟩:=aE h;obtain⟨aS,ez,h⟩:=aE h;refine iv (cr [(0,.slice (a0.map ix)),(3,.ah 1 ((List.set cm (Int.toNat cv) aw).map jo)),(4,.int .i64 cv)] (λP a_=>?_) ?_)
   ·(try simp only[aQ.down,simprocAttr,ft,ez,cn ez,ey,dj]);refine dv (SQ af _ eO) (hK:= ?_);simp only[aQ.down,simprocAttr,ft,ez,cn ez,ey,dj];exact cb (ad ft (ad ez (ad (cn ez) @ey)))
   refine n12 _ (n11 _ (inl (wr [(0,.slice (a0.map ix)),(3,.ah 1 ((List.set cm (Int.toNat cv) aw).map jo)),(4,.int .i64 (i64.wrap (cv+1)))] ?_)));exact n7 _ (inr ⟨_,b9 rfl,iM (List.set cm (Int.toNat cv) aw) (i64.wrap (cv+1)) h⟩)
  .exact cZ (cA 0 _ (b8 0 _ (eD _ (fG _ (inl (bk az [.ah 1 (cm.map jo)]))))))
 obtain⟨n,h⟩:=oR h;exact rQ (inr ⟨_,hf [] rfl (dU (t:=0) (d:=.slice (a0.map ix)) rfl (gZ (t:=3) (d:=.ah 1 (List.replicate (Int.toNat (a0.length:Int)) .bd)) (bf:=.ah 1 ((List.replicate (Int.toNat (a0.length:Int)) []).map jo)) rfl rfl (PO (u:=jo) (z:=[]) (.gN _) _) (by decide) (dU (t:=4) (d:=.int .i64 0) rfl (hh)))),iL n (List.replicate (Int.toNat (a0.length:Int)) []) 0 h⟩)
theorem afL (a0 r) (h:Bn a0=some r):aY ao 47 [h9 a0] (gn r) []:=by
 refine b1 [0] [.cell 2 74] Tryz.func47 acI λbO az bQ=>aB ?_;refine aB ?_;obtain⟨af,bK,h⟩:=aE h;refine dp (SO a0.a7 _ bK) _ ?_;obtain⟨aw,bP,h⟩:=aE h;refine dp (SQ a0.Guard _ bP) _ ?_;refine aB ?_;obtain⟨aS,gi,h⟩:=aE h;refine dp (SR a0.bU _ gi) _ ?_;obtain⟨bu,ot,h⟩:=aE h;refine dp (SR a0.Next _ ot) _ ?_;exact bk az [gn (bS.mk af aw a0.Name aS bu)]
theorem afM (a0 r) (h:Eg a0=some r):aY ao 26 [.slice (a0.map h9)] (.ah 5 (r.map gn)) []:=by
 refine b1 [0] [.tmp 2] Tryz.func26 wZ λbO az bQ=>aB ?_;obtain⟨K4,aP,h⟩:=aE h;refine tf (ad (oS aP) @List.map_replicate.{0,0}) [(0,.slice (a0.map h9)),(3,.ah 5 (List.replicate (Int.toNat (a0.length:Int)) (.agg [.bd,.bd,(.str []),.bd,.bd])))] ?_;refine aK az λ_ fG b0 _=>ws [(0,.slice (a0.map h9)),(3,.ah 5 (List.replicate (Int.toNat (a0.length:Int)) (.agg [.bd,.bd,(.str []),.bd,.bd]))),(4,.int .i64 0)] ?_;refine bA b0 λly _ dT eD _=>?_;show bh ao (.loop ?h4) _ _;have iL:∀n cm cv,I9 a0 n cm cv=some r->cU ao ?h4 ly (aj [(0,.slice (a0.map h9)),(3,.ah 5 (cm.map gn)),(4,.int .i64 cv)]):=by
  refine dc λ_ iM cm cv h=>db dT λ_ n7 fz b8=>aK fz λ_ n8 _ cA=>aB ?_;refine aU h (λgx h=>?_) λgx h=>?_
  .refine aZ (n8 _ (inl (aK fz λ_ n11 gH _=>bA gH λ_ n12 _ _ _=>?_)));obtain⟨af,ft,h⟩:=aE h;obtain⟨aw,eO,h⟩:=aE h;obtain⟨aS,ez,h⟩:=aE h;refine iv (cr [(0,.slice (a0.map h9)),(3,.ah 5 ((List.set cm (Int.toNat cv) aw).map gn)),(4,.int .i64 cv)] (λP a_=>?_) ?_)
   ·(try simp only[aQ.down,simprocAttr,ft,ez,cn ez,ey,dj]);refine dv (afL af _ eO) (hK:= ?_);simp only[aQ.down,simprocAttr,ft,ez,cn ez,ey,dj];exact cb (ad ft (ad ez (ad (cn ez) @ey)))
   refine n12 _ (n11 _ (inl (wr [(0,.slice (a0.map h9)),(3,.ah 5 ((List.set cm (Int.toNat cv) aw).map gn)),(4,.int .i64 (i64.wrap (cv+1)))] ?_)));exact n7 _ (inr ⟨_,b9 rfl,iM (List.set cm (Int.toNat cv) aw) (i64.wrap (cv+1)) h⟩)
  .exact cZ (cA 0 _ (b8 0 _ (eD _ (fG _ (inl (bk az [.ah 5 (cm.map gn)]))))))
 obtain⟨n,h⟩:=oR h;exact rQ (inr ⟨_,hf [] rfl (dU (t:=0) (d:=.slice (a0.map h9)) rfl (gZ (t:=3) (d:=.ah 5 (List.replicate (Int.toNat (a0.length:Int)) (.agg [.bd,.bd,(.str []),.bd,.bd]))) (bf:=.ah 5 ((List.replicate (Int.toNat (a0.length:Int)) (bS.mk [] [] ([]:anR) [] [])).map gn)) rfl rfl (PO (u:=gn) (z:=(bS.mk [] [] ([]:anR) [] [])) (.agg (.cons (.gN _) (.cons (.gN _) (.cons (.refl _) (.cons (.gN _) (.cons (.gN _) (.nil))))))) _) (by decide) (dU (t:=4) (d:=.int .i64 0) rfl (hh)))),iL n (List.replicate (Int.toNat (a0.length:Int)) (bS.mk [] [] ([]:anR) [] [])) 0 h⟩)
theorem FF (a0 r) (h:we a0=some r):aY ao 7 [l9 a0] (qW r) []:=by
 refine b1 [0] [.cell 2 34] Tryz.func7 rI λbO az bQ=>aB ?_;refine aB ?_;refine aB ?_;obtain⟨af,cg,h⟩:=aE h;refine dp (SO a0.Start _ cg) _ ?_;obtain⟨aw,bL,h⟩:=aE h;refine dp (afM a0.cG _ bL) _ ?_;exact bk az [qW (dw.mk a0.eY af aw)]
theorem FG (a0 r) (h:wg a0=some r):aY ao 8 [.slice (a0.map b3)] (.ah 1 (r.map b3)) []:=by
 refine b1 [0] [.tmp 2] Tryz.func8 h4 λbO az bQ=>aB ?_;obtain⟨SP,aP,h⟩:=aE h;refine tf (ad (oS aP) @List.map_replicate.{0,0}) [(0,.slice (a0.map b3)),(3,.ah 1 ((List.replicate (Int.toNat (a0.length:Int)) ([]:anR)).map b3))] ?_;refine aK az λ_ fG b0 _=>ws [(0,.slice (a0.map b3)),(3,.ah 1 ((List.replicate (Int.toNat (a0.length:Int)) ([]:anR)).map b3)),(4,.int .i64 0)] ?_;refine bA b0 λly _ dT eD _=>?_;show bh ao (.loop ?h4) _ _;have iL:∀n cm cv,I_ a0 n cm cv=some r->cU ao ?h4 ly (aj [(0,.slice (a0.map b3)),(3,.ah 1 (cm.map b3)),(4,.int .i64 cv)]):=by
  refine dc λ_ iM cm cv h=>db dT λ_ n7 fz b8=>aK fz λ_ n8 _ cA=>aB ?_;refine aU h (λgx h=>?_) λgx h=>?_
  .refine aZ (n8 _ (inl (aK fz λ_ n11 gH _=>bA gH λ_ n12 _ _ _=>?_)));obtain⟨af,ft,h⟩:=aE h;obtain⟨aw,eO,h⟩:=aE h;refine iv (cr [(0,.slice (a0.map b3)),(3,.ah 1 ((List.set cm (Int.toNat cv) af).map b3)),(4,.int .i64 cv)] (λP a_=>?_) ?_)
   .simp only[aQ.down,simprocAttr,ft,eO,cn eO,ey,dj];exact cb (ad ft (ad eO (ad (cn eO) @ey)))
   refine n12 _ (n11 _ (inl (wr [(0,.slice (a0.map b3)),(3,.ah 1 ((List.set cm (Int.toNat cv) af).map b3)),(4,.int .i64 (i64.wrap (cv+1)))] ?_)));exact n7 _ (inr ⟨_,b9 rfl,iM (List.set cm (Int.toNat cv) af) (i64.wrap (cv+1)) h⟩)
  .exact cZ (cA 0 _ (b8 0 _ (eD _ (fG _ (inl (bk az [.ah 1 (cm.map b3)]))))))
 exact dH h λn h=>iL n (List.replicate (Int.toNat (a0.length:Int)) ([]:anR)) 0 h
theorem th (a0 J a2 r) (h:pd a0 J a2=some r):aY ao 38 [.int .i64 a0,.int .i64 J,.int .i64 a2] (.bool r) []:=by
 refine b1 [0,1,2] [.tmp 6] Tryz.func38 KG λbO az bQ=>aB ?_;refine q1 (decide (J<=a0)) [(6,.bool ((decide (J<=a0))&&(decide (a0<=a2))))] ?_;exact cE az [.bool ((decide (J<=a0))&&(decide (a0<=a2)))]
theorem afN (a0 r) (h:Eh a0=some r):aY ao 66 [.slice (a0.map aG)] (.bool r) []:=by
 refine b1 [0] [.tmp 2] Tryz.func66 acJ λbO az bQ=>aB ?_;refine aK az λ_ bY bl aw=>aB ?_;refine bA bl λgf _ b0 cw _=>?_;show bh ao (.loop ?eM) _ _;have gg:∀n ha,Bo a0 n ha=some r->cU ao ?eM gf (aj [(0,.slice (a0.map aG)),(3,.int .i64 ha)]):=by
  refine dc λ_ fU ha h=>db b0 λ_ e3 cL bw=>aK cL λ_ n6 _ bF=>aB ?_;refine aU h (λcS h=>?_) λcS h=>?_
  .refine aZ (n6 _ (inl (aK cL λ_ dP cQ _=>bA cQ λ_ n10 dx _ _=>?_)));obtain⟨af,dD,h⟩:=aE h;obtain⟨aw,dE,h⟩:=aE h;refine eS dD (th af 0 63 _ dE) _ ?_;refine aU h (λia h=>?_) λia h=>?_
   .exact bk dx [.bool false]
   .refine aZ (n10 _ (dP _ (inl (eE ?_))));exact e3 _ (inr ⟨_,b9 rfl,fU (i64.wrap (ha+1)) h⟩)
  .exact cZ (bF 0 _ (bw 0 _ (cw _ (bY _ (inl (bk az [.bool true]))))))
 exact dH h λn h=>gg n 0 h
theorem SS (a0 J r) (h:Ei a0 J=some r):aY ao 39 [.slice (a0.map aG),.int .i64 J] (.bool r) []:=by
 refine b1 [0,1] [.tmp 4] Tryz.func39 KH λbO az bQ=>aB ?_;rcases fH h with⟨iT,h⟩|⟨iT,h⟩
 .obtain⟨af,bK,h⟩:=aE h;refine eS iT (afN a0 _ bK) _ ?_;exact cE az [.bool af]
 .refine dd iT _ ?_;exact cE az [.bool false]
theorem afO (a0 r) (h:Ej a0=some r):aY ao 67 [.slice (a0.map aG)] (.int .i64 r) []:=by
 refine b1 [0] [.tmp 2] Tryz.func67 acK λbO az bQ=>aB ?_;refine aK az λ_ bY bl aw=>aB ?_;refine aU h (λcw h=>?_) λcw h=>?_
 .exact bk bl [.int .i64 0]
 .refine aZ (bY _ (inl (aB ?_)));refine aK az λ_ n7 fz _=>aB ?_;refine bA fz λn1 _ cQ fc _=>?_;show bh ao (.loop ?pt) _ _;have n2:∀n fM gb,yl a0 n fM gb=some r->cU ao ?pt n1 (aj [(0,.slice (a0.map aG)),(3,.int .i64 fM),(4,.int .i64 gb)]):=by
   refine dc λ_ n3 fM gb h=>db cQ λ_ n10 dx eQ=>aK dx λ_ n11 _ kx=>aB ?_;refine aU h (λiK h=>?_) λiK h=>?_
   .refine aZ (n11 _ (inl (aK dx λ_ n14 fe _=>bA fe λ_ n15 kc _ _=>aK kc λ_ n16 kY _=>?_)));obtain⟨af,gp,h⟩:=aE h;obtain⟨aw,hW,h⟩:=aE h;refine eS gp (th af 1 7 _ hW) _ ?_;refine aU h (λn4 h=>?_) λn4 h=>?_
    .exact bk kY [.int .i64 0]
    .refine aZ (n16 _ (inl (oK gp _ ?_)));refine n15 _ (n14 _ (inl (eE ?_)));exact n10 _ (inr ⟨_,b9 rfl,n3 (i64.wrap (fM*(i64.wrap (af+1)))) (i64.wrap (gb+1)) h⟩)
   .refine cZ (kx 0 _ (eQ 0 _ (fc _ (n7 _ (inl (aK az λ_ n24 pv _=>aB ?_))))));refine aU h (λti h=>?_) λti h=>?_
    .exact bk pv [.int .i64 0]
    .exact aZ (n24 _ (inl (bk az [.int .i64 fM])))
  exact dH h λn h=>n2 n 1 0 h
theorem afP (a0 J r) (h:Ek a0 J=some r):aY ao 96 [.ref (bG a0),.int .i64 J] (.bool r) []:=by
 refine b1 [0,1] [.tmp 4] Tryz.func96 acL λbO az bQ=>aB ?_;refine aK az λ_ bY bl aw=>aB ?_;refine bA bl λ_ fG b0 _ _=>aB ?_;refine aU h (λeD h=>?_) λeD h=>?_
 .obtain⟨af,hr,h⟩:=aE h;refine dp (th a0.Value 0 63 _ hr) _ ?_;exact cE b0 [.bool af]
 .refine aB ?_;refine aU h (λgx h=>?_) λgx h=>?_
  .obtain⟨aw,dD,h⟩:=aE h;refine dp (th a0.Value 0 (i64.wrap (J-1)) _ dD) _ ?_;exact cE b0 [.bool aw]
  .refine aB ?_;refine aU h (λia h=>?_) λia h=>?_
   .obtain⟨aS,ez,h⟩:=aE h;refine dp (th a0.Value 0 8 _ ez) _ ?_;exact cE b0 [.bool aS]
   .refine aB ?_;refine aU h (λkz h=>?_) λkz h=>?_
    .exact bk b0 [.bool (a0.Value==0)]
    .exact aZ (fG _ (bY _ (inl (bk az [.bool false]))))
theorem SU (a0 r) (h:El a0=some r):aY ao 97 [.ref (bG a0)] (.int .i64 r) []:=by
 refine b1 [0] [.tmp 2] Tryz.func97 acM λbO az bQ=>aB ?_;refine aK az λ_ bY bl _=>aB ?_;refine bA bl λ_ fG b0 _ _=>aB ?_;refine aU h (λeD h=>?_) λeD h=>?_
 .exact bk b0 [.int .i64 2]
 .refine aB ?_;refine aU h (λfc h=>?_) λfc h=>?_
  .exact bk b0 [.int .i64 1]
  .exact aZ (fG _ (bY _ (inl (bk az [.int .i64 0]))))
theorem K5 (a0 J a2 r) (h:Bp a0 J a2=some r):aY ao 68 [.slice (a0.map bG),.int .i64 J,.int .i64 a2] (.bool r) []:=by
 refine b1 [0,1,2] [.tmp 6] Tryz.func68 acN λbO az bQ=>aB ?_;refine aK az λ_ bY bl aw=>aB ?_;refine aU h (λcw h=>?_) λcw h=>?_
 .exact bk bl [.bool false]
 .refine aZ (bY _ (inl (aB ?_)));refine aK az λ_ n7 fz _=>aB ?_;refine bA fz λn1 _ cQ fc _=>?_;show bh ao (.loop ?pt) _ _;have n2:∀n j0 rZ,ym a0 J n j0 rZ=some r->cU ao ?pt n1 (aj [(0,.slice (a0.map bG)),(1,.int .i64 J),(7,.int .i64 j0),(8,.int .i64 rZ)]):=by
   refine dc λ_ n3 j0 rZ h=>db cQ λ_ n10 dx eQ=>aK dx λ_ n11 _ kx=>aB ?_;refine aU h (λiK h=>?_) λiK h=>?_
   .refine aZ (n11 _ (inl (aK dx λ_ n14 fe _=>bA fe λ_ n15 kc _ _=>aK kc λ_ n16 kY _=>?_)));rcases fH h with⟨kz,h⟩|⟨kz,h⟩
    .refine dd kz _ ?_;refine ka rfl ?_;exact bk kY [.bool false]
    .obtain⟨af,hV,h⟩:=aE h;obtain⟨aw,hX,h⟩:=aE h;refine eS (ad kz hV) (afP af J _ hX) _ ?_;refine aU h (λw7 h=>?_) λw7 h=>?_
     .exact bk kY [.bool false]
     .refine aZ (n16 _ (inl ?_));obtain⟨aS,iz,h⟩:=aE h;refine FB hV (SU af _ iz) _ ?_;refine n15 _ (n14 _ (inl (eE ?_)));exact n10 _ (inr ⟨_,b9 rfl,n3 (i64.wrap (j0+(i64.wrap (aS-1)))) (i64.wrap (rZ+1)) h⟩)
   .exact cZ (kx 0 _ (eQ 0 _ (fc _ (n7 _ (inl (bk az [.bool (j0==0)]))))))
  exact dH h λn h=>n2 n 1 0 h
theorem zm (a0 J r) (h:wh a0 J=some r):aY ao 70 [.slice (a0.map cf),.int .i64 J] (.bool r) []:=by
 refine b1 [0,1] [.tmp 4] Tryz.func70 c70 λbO az bQ=>aB ?_;refine aK az λ_ bY bl aw=>aB ?_;refine bA bl λgf _ b0 cw _=>?_;show bh ao (.loop ?eM) _ _;have gg:∀n aR,Bq a0 J n aR=some r->cU ao ?eM gf (aj [(0,.slice (a0.map cf)),(1,.int .i64 J),(5,.int .i64 aR)]):=by
  refine dc λ_ fU aR h=>db b0 λ_ e3 cL bw=>aK cL λ_ n6 _ bF=>aB ?_;refine aU h (λcS h=>?_) λcS h=>?_
  .refine aZ (n6 _ (inl (aK cL λ_ dP cQ _=>bA cQ λ_ n10 dx _ _=>?_)));obtain⟨af,dD,h⟩:=aE h;obtain⟨aw,dE,h⟩:=aE h;refine eS dD (K5 af J 60 _ dE) _ ?_;refine aU h (λia h=>?_) λia h=>?_
   .exact bk dx [.bool false]
   .refine aZ (n10 _ (dP _ (inl (eE ?_))));exact e3 _ (inr ⟨_,b9 rfl,fU (i64.wrap (aR+1)) h⟩)
  .exact cZ (bF 0 _ (bw 0 _ (cw _ (bY _ (inl (bk az [.bool true]))))))
 exact dH h λn h=>gg n 0 h
theorem K6 (a0 r) (h:Br a0=some r):aY ao 139 [.int .u8 (a0.toNat:Int)] (.bool r) []:=by
 refine b1 [0] [.tmp 2] Tryz.func139 c139 λbO az bQ=>aB ?_;refine q1 (decide (97<=(a0.toNat:Int))) [(2,.bool ((decide (97<=(a0.toNat:Int)))&&(decide ((a0.toNat:Int)<=122))))] ?_;exact cE az [.bool ((decide (97<=(a0.toNat:Int)))&&(decide ((a0.toNat:Int)<=122)))]
theorem K7 (a0 r) (h:yn a0=some r):aY ao 140 [.int .u8 (a0.toNat:Int)] (.bool r) []:=by
 refine b1 [0] [.tmp 2] Tryz.func140 acO λbO az bQ=>aB ?_;refine q1 (decide (48<=(a0.toNat:Int))) [(2,.bool ((decide (48<=(a0.toNat:Int)))&&(decide ((a0.toNat:Int)<=57))))] ?_;exact cE az [.bool ((decide (48<=(a0.toNat:Int)))&&(decide ((a0.toNat:Int)<=57)))]
theorem K8 (a0 r) (h:Bt a0=some r):aY ao 98 [.str a0] (.bool r) []:=by
 refine b1 [0] [.tmp 2] Tryz.func98 acP λbO az bQ=>aB ?_;refine aK az λ_ bY bl aw=>?_;rcases fH h with⟨cw,h⟩|⟨cw,h⟩
 .refine dd cw _ ?_;refine ka rfl ?_;exact bk bl [.bool false]
 .rcases fH h with⟨eD,h⟩|⟨eD,h⟩
  .refine dd (ad cw eD) _ ?_;refine ka rfl ?_;exact bk bl [.bool false]
  .obtain⟨af,hr,h⟩:=aE h;obtain⟨aw,gi,h⟩:=aE h;refine eS (ad cw (ad eD hr)) (K6 af _ gi) _ ?_;refine aU h (λgx h=>?_) λgx h=>?_
   .exact bk bl [.bool false]
   .refine aZ (bY _ (inl (aK az λ_ n12 B_ _=>aB ?_)));refine bA B_ λafQ _ fe ia _=>?_;show bh ao (.loop ?lv) _ _;have lz:∀n gm,Bs a0 n gm=some r->cU ao ?lv afQ (aj [(0,.str a0),(3,.int .i64 gm)]):=by
     refine dc λ_ kZ gm h=>db fe λ_ n15 kc uI=>aK kc λ_ n16 _ pj=>aB ?_;refine aU h (λkz h=>?_) λkz h=>?_
     .refine aZ (n16 _ (inl (aK kc λ_ n19 K9 _=>bA K9 λ_ n20 afR _ _=>?_)));obtain⟨aS,hY,h⟩:=aE h;obtain⟨bu,nk,h⟩:=aE h;rcases fH h with⟨qc,h⟩|⟨qc,h⟩
      .obtain⟨bw,iz,h⟩:=aE h;refine dn (cr [(0,.str a0),(3,.int .i64 gm),(34,.bool (!bw))] (λP a_=>?_) ?_)
       ·(try simp only[aQ.down,simprocAttr,hY,(nK qc)]);refine dv (K6 aS _ nk) (hK:= ?_);simp only[aQ.down,simprocAttr,hY,(nK qc)];refine nG (K7 aS _ iz) (hK:= ?_);simp only[aQ.down,simprocAttr,hY,(nK qc)];exact cb (ad hY (nK qc))
       refine aU h (λti h=>?_) λti h=>?_
       .exact bk afR [.bool false]
       .refine aZ (n20 _ (n19 _ (inl (eE ?_))));exact n15 _ (inr ⟨_,b9 rfl,kZ (i64.wrap (gm+1)) h⟩)
      .refine eS (ad hY (gu qc)) (K6 aS _ nk) _ ?_;refine sO rfl ?_;refine aZ (n20 _ (n19 _ (inl (eE ?_))));exact n15 _ (inr ⟨_,b9 rfl,kZ (i64.wrap (gm+1)) h⟩)
     .exact cZ (pj 0 _ (uI 0 _ (ia _ (n12 _ (inl (bk az [.bool true]))))))
    exact dH h λn h=>lz n 0 h
theorem FH (a0 r) (h:wi a0=some r):aY ao 69 [.str a0] (.bool r) []:=by
 refine b1 [0] [.tmp 2] Tryz.func69 acQ λbO az bQ=>aB ?_;obtain⟨af,aP,h⟩:=aE h;refine dn (cr [(2,.bool (af&&(!(a0==([116,97,117]:anR)))))] (λP a_=>?_) ?_)
 .rcases Bool.eq_false_or_eq_true (af)with mQ|mQ
  ·(try simp only[aQ.down,simprocAttr,mQ]);refine dv (K8 a0 _ aP) (hK:= ?_);simp only[aQ.down,simprocAttr,mQ];exact cb mQ
  ·(try simp only[aQ.down,simprocAttr,mQ]);refine dv (K8 a0 _ aP) (hK:= ?_);simp only[aQ.down,simprocAttr,mQ];exact cb mQ
 exact cE az [.bool (af&&(!(a0==([116,97,117]:anR))))]
theorem afS (a0 J r) (h:Em a0 J=some r):aY ao 40 [.ref (dO a0),.int .i64 J] (.bool r) []:=by
 refine b1 [0,1] [.tmp 4] Tryz.func40 c40 λbO az bQ=>aB ?_;refine aK az λ_ bY bl aw=>?_;obtain⟨af,bK,h⟩:=aE h;refine dp (afO a0.a7 _ bK) _ ?_;refine aU h (λdt h=>?_) λdt h=>?_
 .exact bk bl [.bool false]
 .refine aZ (bY _ (inl (aB ?_)));refine aK az λ_ n8 ke _=>?_;obtain⟨aw,jd,h⟩:=aE h;refine dn (cr [(0,.ref (dO a0)),(5,.int .i64 (i64.wrap (J+(a0.a7.length:Int)))),(34,.bool ((!aw)||((a0.Next.length:Int) !=J)))] (λP a_=>?_) ?_)
  .rcases Bool.eq_false_or_eq_true (aw)with tc|tc
   ·(try simp only[aQ.down,simprocAttr,tc]);refine dv (K5 a0.Guard (i64.wrap (J+(a0.a7.length:Int))) 60 _ jd) (hK:= ?_);simp only[aQ.down,simprocAttr,tc];exact cb tc
   ·(try simp only[aQ.down,simprocAttr,tc]);refine dv (K5 a0.Guard (i64.wrap (J+(a0.a7.length:Int))) 60 _ jd) (hK:= ?_);simp only[aQ.down,simprocAttr,tc];exact cb tc
  refine aU h (λfT h=>?_) λfT h=>?_
  .exact bk ke [.bool false]
  .refine aZ (n8 _ (inl (aK az λ_ n14 fe _=>?_)));rcases fH h with⟨iN,h⟩|⟨iN,h⟩
   .rcases fH h with⟨mK,h⟩|⟨mK,h⟩
    .refine dd (ad iN mK) _ ?_;refine ka rfl ?_;exact bk fe [.bool false]
    .refine dd (ad iN mK) _ ?_;refine aU h (λky h=>?_) λky h=>?_
     .exact bk fe [.bool false]
     .refine aZ (n14 _ (inl ?_));obtain⟨aS,hY,h⟩:=aE h;rcases fH h with⟨kd,h⟩|⟨kd,h⟩
      .obtain⟨bu,nm,h⟩:=aE h;refine dn (cr [(4,.bool bu)] (λP a_=>?_) ?_)
       ·(try simp only[aQ.down,simprocAttr,kd]);refine dv (zm a0.bU (i64.wrap (J+(a0.a7.length:Int))) _ hY) (hK:= ?_);simp only[aQ.down,simprocAttr,kd];refine nG (zm a0.Next (i64.wrap (J+(a0.a7.length:Int))) _ nm) (hK:= ?_);simp only[aQ.down,simprocAttr,kd];exact cb kd
       exact cE az [.bool bu]
      .refine eS kd (zm a0.bU (i64.wrap (J+(a0.a7.length:Int))) _ hY) _ ?_;exact cE az [.bool false]
   .obtain⟨bw,iz,h⟩:=aE h;rcases fH h with⟨ti,h⟩|⟨ti,h⟩
    .refine eS (ad iN (nK ti)) (FH a0.Name _ iz) _ ?_;refine ka rfl ?_;exact bk fe [.bool false]
    .refine eS (ad iN (gu ti)) (FH a0.Name _ iz) _ ?_;refine aU h (λtj h=>?_) λtj h=>?_
     .exact bk fe [.bool false]
     .refine aZ (n14 _ (inl ?_));obtain⟨bF,n5,h⟩:=aE h;rcases fH h with⟨se,h⟩|⟨se,h⟩
      .obtain⟨b8,k1,h⟩:=aE h;refine dn (cr [(4,.bool b8)] (λP a_=>?_) ?_)
       ·(try simp only[aQ.down,simprocAttr,se]);refine dv (zm a0.bU (i64.wrap (J+(a0.a7.length:Int))) _ n5) (hK:= ?_);simp only[aQ.down,simprocAttr,se];refine nG (zm a0.Next (i64.wrap (J+(a0.a7.length:Int))) _ k1) (hK:= ?_);simp only[aQ.down,simprocAttr,se];exact cb se
       exact cE az [.bool b8]
      .refine eS se (zm a0.bU (i64.wrap (J+(a0.a7.length:Int))) _ n5) _ ?_;exact cE az [.bool false]
theorem afT (a0 r) (h:En a0=some r):aY ao 19 [.ref (ej a0)] (.bool r) []:=by
 refine b1 [0] [.tmp 2] Tryz.func19 acT λbO az bQ=>aB ?_;refine aK az λ_ bY bl aw=>?_;obtain⟨af,bK,h⟩:=aE h;rcases fH h with⟨dt,h⟩|⟨dt,h⟩
 .refine w5 (nK dt) (th a0.eY 0 21 _ bK) _ ?_;refine ka rfl ?_;exact bk bl [.bool false]
 .obtain⟨aw,bL,h⟩:=aE h;refine sN rfl (qE [(0,.ref (ej a0)),(29,.bool ((!aw)||(decide (60<(a0.cG.length:Int)))))] (λP a_=>?_) ?_)
  .rcases Bool.eq_false_or_eq_true (aw)with lA|lA
   ·(try simp only[gB.down,simprocAttr,(gu dt),lA]);refine o6 (th a0.eY 0 21 _ bK) (hK:= ?_);simp only[gB.down,simprocAttr,(gu dt),lA];refine AR (SS a0.Start a0.eY _ bL) (hK:= ?_);simp only[gB.down,simprocAttr,(gu dt),lA];refine⟨pV (by kernel_rfl),?_⟩;exact cb (ad (gu dt) lA)
   ·(try simp only[gB.down,simprocAttr,(gu dt),lA]);refine o6 (th a0.eY 0 21 _ bK) (hK:= ?_);simp only[gB.down,simprocAttr,(gu dt),lA];refine AR (SS a0.Start a0.eY _ bL) (hK:= ?_);simp only[gB.down,simprocAttr,(gu dt),lA];refine⟨pV (by kernel_rfl),?_⟩;exact cb (ad (gu dt) lA)
  refine aU h (λfc h=>?_) λfc h=>?_
  .exact bk bl [.bool false]
  .refine aZ (bY _ (inl (aK az λ_ n11 gH _=>aB ?_)));refine bA gH λK_ _ k2 iK _=>?_;show bh ao (.loop ?lv) _ _;have lz:∀n gm,Bu a0 n gm=some r->cU ao ?lv K_ (aj [(0,.ref (ej a0)),(3,.int .i64 gm)]):=by
    refine dc λ_ kZ gm h=>db k2 λ_ n14 fe n0=>aK fe λ_ n15 _ uI=>aB ?_;refine aU h (λmK h=>?_) λmK h=>?_
    .refine aZ (n15 _ (inl (aK fe λ_ n18 uR _=>bA uR λ_ n19 K9 _ _=>?_)));obtain⟨aS,hX,h⟩:=aE h;obtain⟨bu,hY,h⟩:=aE h;refine w5 hX (afS aS a0.eY _ hY) _ ?_;refine aU h (λkd h=>?_) λkd h=>?_
     .exact bk K9 [.bool false]
     .refine aZ (n19 _ (n18 _ (inl (eE ?_))));exact n14 _ (inr ⟨_,b9 rfl,kZ (i64.wrap (gm+1)) h⟩)
    .exact cZ (uI 0 _ (n0 0 _ (iK _ (n11 _ (inl (bk az [.bool true]))))))
   exact dH h λn h=>lz n 0 h
theorem afU (a0 r) (h:yo a0=some r):aY ao 99 [.str a0] (.int .i64 r) []:=by
 refine b1 [0] [.tmp 2] Tryz.func99 acU λbO az bQ=>aB ?_;refine aK az λ_ bY bl _=>aB ?_;refine bA bl λgf _ b0 cw _=>?_;show bh ao (.loop ?eM) _ _;have gg:∀n ha,uo a0 n ha=some r->cU ao ?eM gf (aj [(0,.str a0),(3,.int .i64 ha)]):=by
  refine dc λ_ fU ha h=>db b0 λ_ e3 cL bw=>aK cL λ_ n6 _ bF=>aB ?_;refine aU h (λcS h=>?_) λcS h=>?_
  .refine aZ (n6 _ (inl (aK cL λ_ dP cQ _=>bA cQ λ_ n10 dx _ _=>?_)));obtain⟨af,dD,h⟩:=aE h;refine dd dD _ ?_;refine aU h (λiK h=>?_) λiK h=>?_
   .exact bk dx [.int .i64 ha]
   .refine aZ (n10 _ (dP _ (inl (eE ?_))));exact e3 _ (inr ⟨_,b9 rfl,fU (i64.wrap (ha+1)) h⟩)
  .exact cZ (bF 0 _ (bw 0 _ (cw _ (bY _ (inl (bk az [.int .i64 (a0.length:Int)]))))))
 exact dH h λn h=>gg n 0 h
theorem afV (a0 J r) (h:Ep a0 J=some r):aY ao 100 [.str a0,.int .u8 (J.toNat:Int)] (.ah 1 (r.map b3)) []:=by
 refine b1 [0,1] [.tmp 4] Tryz.func100 acV λbO az bQ=>aB ?_;refine dd (show∀s,ei ao s 26 0 []=some (.ah 1 [],s)from λs=>by kernel_rfl) _ ?_;refine aB ?_;refine aK az λ_ fG b0 _=>aB ?_;refine bA b0 λly _ dT eD _=>?_;show bh ao (.loop ?w1) _ _;have Ca:∀n gw lp lU,wj a0 J n gw lp lU=some r->cU ao ?w1 ly (aj [(0,.str a0),(1,.int .u8 (J.toNat:Int)),(5,.ah 1 (gw.map b3)),(6,.int .i64 lp),(7,.int .i64 lU)]):=by
  refine dc λm10 Cb gw lp lU h=>db dT λafW n7 fz b8=>aK fz λ_ n8 _ cA=>aB ?_;refine aU h (λgx h=>?_) λgx h=>?_
  .refine aZ (n8 _ (inl ?_));show bh ao (.seq _ ?wZ) _ _;have zn:∀yp yq yr,Eo (wj a0 J m10) a0 J yp yq yr=some r->bh ao ?wZ afW (aj [(0,.str a0),(1,.int .u8 (J.toNat:Int)),(5,.ah 1 (yp.map b3)),(6,.int .i64 yq),(7,.int .i64 yr)]):=by
    intro yp yq yr h;refine eE ?_;exact n7 _ (inr ⟨_,b9 rfl,Cb yp yq (i64.wrap (yr+1)) h⟩)
   refine aK fz λ_ n11 gH _=>bA gH λ_ n13 _ _ _=>?_;obtain⟨af,eO,h⟩:=aE h;refine dd eO _ ?_;refine aU h (λiN h=>?_) λiN h=>?_
   .obtain⟨aw,gp,h⟩:=aE h;obtain⟨SV,hW,h⟩:=aE h;(try simp only[h_.down,Nat.zero_add,Nat.add_zero,reduceAdd]at hW);refine dd (ad gp (ad (show∀s,ei ao s 26 1 [(0,.str aw)]=some (.ah 1 [.str aw],s)from λs=>by kernel_rfl) (ad (@kP ao 26 26 9 rfl rfl) (ad @kQ (ad @kR (ad @jF (ad @kO (ad @all_nil (ad hW (@lP _ b3 1 λ_=>rfl)))))))))) [(0,.str a0),(1,.int .u8 (J.toNat:Int)),(5,.ah 1 ((gw++[aw]).map b3)),(7,.int .i64 lU)] ?_;refine wr [(0,.str a0),(1,.int .u8 (J.toNat:Int)),(5,.ah 1 ((gw++[aw]).map b3)),(6,.int .i64 (i64.wrap (lU+1))),(7,.int .i64 lU)] ?_;exact n13 _ (n11 _ (inr ⟨_,b9 rfl,zn (gw++[aw]) (i64.wrap (lU+1)) lU h⟩))
   .exact aZ (n13 _ (n11 _ (inr ⟨_,b9 rfl,zn gw lp lU h⟩)))
  .refine cZ (cA 0 _ (b8 0 _ (eD _ (fG _ (inl ?_)))));obtain⟨aS,hY,h⟩:=aE h;obtain⟨ans,nk,h⟩:=aE h;(try simp only[h_.down,Nat.zero_add,Nat.add_zero,reduceAdd]at nk);refine dd (ad hY (ad (show∀s,ei ao s 26 1 [(0,.str aS)]=some (.ah 1 [.str aS],s)from λs=>by kernel_rfl) (ad (@kP ao 26 26 9 rfl rfl) (ad @kQ (ad @kR (ad @jF (ad @kO (ad @all_nil (ad nk (@lP _ b3 1 λ_=>rfl)))))))))) [(4,.ah 1 ((gw++[aS]).map b3))] ?_;exact cE az [.ah 1 ((gw++[aS]).map b3)]
 exact dH h λn h=>Ca n [] 0 0 h
theorem afX (a0 r) (h:Er a0=some r):aY ao 101 [.str a0] (.tuple [.int .i64 r.1,.bool r.2]) []:=by
 refine b1 [0] [.tmp 2,.tmp 3] Tryz.func101 acW λbO az bQ=>aB ?_;refine aB ?_;show bh ao (.seq _ ?w1) _ _;have zo:∀gP,yt a0 gP=some r->bh ao ?w1 bO (aj [(0,.str a0),(4,.int .i64 gP)]):=by
  intro gP h;refine aK az λ_ fG b0 bu=>?_;rcases fH h with⟨eD,h⟩|⟨eD,h⟩
  .refine dd eD _ ?_;refine ka rfl ?_;exact bk b0 [.int .i64 0,.bool false]
  .rcases fH h with⟨cS,h⟩|⟨cS,h⟩
   .refine dd (ad eD cS) _ ?_;refine ka rfl ?_;exact bk b0 [.int .i64 0,.bool false]
   .obtain⟨af,jd,h⟩:=aE h;rcases fH h with⟨ma,h⟩|⟨ma,h⟩
    .refine dd (ad eD (ad cS (ad jd ma))) _ ?_;refine aU h (λfT h=>?_) λfT h=>?_
     .exact bk b0 [.int .i64 0,.bool false]
     .refine aZ (fG _ (inl (aB ?_)));refine aK az λ_ n15 kc _=>aB ?_;refine bA kc λLa _ n9 mK _=>?_;show bh ao (.loop ?c24) _ _;have Cc:∀n lq nQ,sV a0 gP n lq nQ=some r->cU ao ?c24 La (aj [(0,.str a0),(4,.int .i64 gP),(5,.int .i64 lq),(6,.int .i64 nQ)]):=by
       refine dc λm24 Cd lq nQ h=>db n9 λ_ n18 uR nb=>aK uR λ_ n19 _ pk=>aB ?_;refine aU h (λzp h=>?_) λzp h=>?_
       .refine aZ (n19 _ (inl (aK uR λ_ n22 n_ _=>bA n_ λ_ n23 w8 _ _=>aK w8 λ_ n24 pv _=>?_)));obtain⟨aw,q2,h⟩:=aE h;obtain⟨aS,zq,h⟩:=aE h;refine eS q2 (K7 aw _ zq) _ ?_;refine aU h (λtj h=>?_) λtj h=>?_
        .exact bk pv [.int .i64 0,.bool false]
        .refine aZ (n24 _ (inl (oK (ad q2 (@DJ ao 5 2 .i64 rfl rfl)) _ ?_)));refine n23 _ (n22 _ (inl (eE ?_)));exact n18 _ (inr ⟨_,b9 rfl,Cd (i64.wrap ((i64.wrap (10*lq))+(i64.wrap (u8.wrap ((aw.toNat:Int)-48))))) (i64.wrap (nQ+1)) h⟩)
       .refine cZ (pk 0 _ (nb 0 _ (mK _ (n15 _ (inl ?_)))));show bh ao (.seq _ ?c49) _ _;have Ce:∀qJ,Bv qJ=some r->bh ao ?c49 bO (aj [(5,.int .i64 qJ)]):=by
         intro qJ h;exact bk az [.int .i64 qJ,.bool true]
        refine aK az λ_ n32 _ _=>aB ?_;refine aU h (λLb h=>?_) λLb h=>?_
        .refine eE ?_;exact n32 _ (inr ⟨_,b9 rfl,Ce (i64.wrap (0-lq)) h⟩)
        .exact aZ (n32 _ (inr ⟨_,b9 rfl,Ce lq h⟩))
      exact dH h λn h=>Cc n 0 gP h
    .refine dd (ad eD (ad cS (ad jd ma))) _ ?_;refine sO rfl ?_;refine aZ (fG _ (inl (aB ?_)));refine aK az λ_ n38 w9 _=>aB ?_;refine bA w9 λafY _ afZ af0 _=>?_;show bh ao (.loop ?c24) _ _;have Cc:∀n lq nQ,sV a0 gP n lq nQ=some r->cU ao ?c24 afY (aj [(0,.str a0),(4,.int .i64 gP),(5,.int .i64 lq),(6,.int .i64 nQ)]):=by
      refine dc λm24 Cd lq nQ h=>db afZ λ_ n41 SX af1=>aK SX λ_ n42 _ af2=>aB ?_;refine aU h (λFI h=>?_) λFI h=>?_
      .refine aZ (n42 _ (inl (aK SX λ_ n45 af3 _=>bA af3 λ_ n46 af4 _ _=>aK af4 λ_ n47 af5 _=>?_)));obtain⟨bu,q3,h⟩:=aE h;obtain⟨bw,af6,h⟩:=aE h;refine eS q3 (K7 bu _ af6) _ ?_;refine aU h (λaf7 h=>?_) λaf7 h=>?_
       .exact bk af5 [.int .i64 0,.bool false]
       .refine aZ (n47 _ (inl (oK (ad q3 (@DJ ao 5 2 .i64 rfl rfl)) _ ?_)));refine n46 _ (n45 _ (inl (eE ?_)));exact n41 _ (inr ⟨_,b9 rfl,Cd (i64.wrap ((i64.wrap (10*lq))+(i64.wrap (u8.wrap ((bu.toNat:Int)-48))))) (i64.wrap (nQ+1)) h⟩)
      .refine cZ (af2 0 _ (af1 0 _ (af0 _ (n38 _ (inl ?_)))));show bh ao (.seq _ ?c49) _ _;have Ce:∀qJ,Bv qJ=some r->bh ao ?c49 bO (aj [(5,.int .i64 qJ)]):=by
        intro qJ h;exact bk az [.int .i64 qJ,.bool true]
       refine aK az λ_ SY _ _=>aB ?_;refine aU h (λaf8 h=>?_) λaf8 h=>?_
       .refine eE ?_;exact SY _ (inr ⟨_,b9 rfl,Ce (i64.wrap (0-lq)) h⟩)
       .exact aZ (SY _ (inr ⟨_,b9 rfl,Ce lq h⟩))
     exact dH h λn h=>Cc n 0 gP h
 refine aK az λ_ fS _ aS=>?_;rcases fH h with⟨Lc,h⟩|⟨Lc,h⟩
 .obtain⟨bF,af9,h⟩:=aE h;refine dd (ad Lc af9) _ ?_;refine aU h (λaf_ h=>?_) λaf_ h=>?_
  .refine eE ?_;exact fS _ (inr ⟨_,b9 rfl,zo 1 h⟩)
  .exact aZ (fS _ (inr ⟨_,b9 rfl,zo 0 h⟩))
 .refine dd Lc _ ?_;refine sO rfl ?_;exact aZ (fS _ (inr ⟨_,b9 rfl,zo 0 h⟩))
theorem aga (a0 r) (h:Bw a0=some r):aY ao 71 [.str a0] (.tuple [.ah 1 (r.1.map aG),.bool r.2]) []:=by
 refine b1 [0] [.tmp 2,.tmp 3] Tryz.func71 acX λbO az bQ=>aB ?_;obtain⟨af,aP,h⟩:=aE h;refine dp (afU a0 _ aP) _ ?_;refine aK az λ_ fG b0 bu=>aB ?_;refine aU h (λeD h=>?_) λeD h=>?_
 .obtain⟨aw,hr,h⟩:=aE h;refine eS (show∀s,ei ao s 22 0 []=some (.ah 1 [],s)from λs=>by kernel_rfl) (K8 a0 _ hr) _ ?_;exact cE b0 [.ah 1 [],.bool aw]
 .refine aZ (fG _ (inl (aK az λ_ dP cQ df=>?_)));obtain⟨aS,ot,h⟩:=aE h;obtain⟨bu,dD,h⟩:=aE h;rcases fH h with⟨iK,h⟩|⟨iK,h⟩
  .refine eS (ad ot (nK iK)) (FH aS _ dD) _ ?_;refine ka rfl ?_;refine aB ?_;exact hT (cQ _ (inr ⟨[(2,.ah 1 []),(3,.bool false)],hf [] rfl (gZ (t:=2) (d:=.bd) rfl rfl (.gN _) (by decide) (dU rfl (hh))),lS [.ah 1 [],.bool false]⟩))
  .obtain⟨bw,eO,h⟩:=aE h;refine eS (ad ot (ad (gu iK) eO)) (FH aS _ dD) _ ?_;refine aU h (λiN h=>?_) λiN h=>?_
   .refine aB ?_;exact hT (cQ _ (inr ⟨[(2,.ah 1 []),(3,.bool false)],hf [] rfl (gZ (t:=2) (d:=.bd) rfl rfl (.gN _) (by decide) (dU rfl (hh))),lS [.ah 1 [],.bool false]⟩))
   .refine aZ (dP _ (inl ?_));obtain⟨bF,hW,h⟩:=aE h;obtain⟨b8,hV,h⟩:=aE h;refine eS hW (afV bF (44:UInt8) _ hV) _ ?_;refine dd (show∀s,ei ao s 22 0 []=some (.ah 1 [],s)from λs=>by kernel_rfl) _ ?_;refine aK az λ_ n22 n_ _=>aB ?_;refine bA n_ λagb _ pv qc _=>?_;show bh ao (.loop ?c28) _ _;have agc:∀n nR pY,wk b8 n nR pY=some r->cU ao ?c28 agb (aj [(5,.ah 1 (b8.map b3)),(6,.ah 1 (nR.map aG)),(7,.int .i64 pY)]):=by
     refine dc λ_ agd nR pY h=>db pv λ_ n25 tk age=>aK tk λ_ n26 _ w_=>aB ?_;refine aU h (λtj h=>?_) λtj h=>?_
     .refine aZ (n26 _ (inl (aK tk λ_ n29 FJ _=>bA FJ λ_ n30 agf _ _=>?_)));obtain⟨cA,FK,h⟩:=aE h;obtain⟨df,k1,h⟩:=aE h;refine eS (ad FK (cn FK)) (afX cA _ k1) _ ?_;refine aK agf λ_ n34 SZ _=>?_;rcases fH h with⟨Ld,h⟩|⟨Ld,h⟩
      .refine dd (nK Ld) _ ?_;refine ka rfl ?_;refine aB ?_;exact hT (SZ _ (inr ⟨[(2,.ah 1 []),(3,.bool false)],hf [] rfl (gZ (t:=2) (d:=.bd) rfl rfl (.gN _) (by decide) (dU rfl (hh))),lS [.ah 1 [],.bool false]⟩))
      .obtain⟨eQ,Cf,h⟩:=aE h;refine eS (gu Ld) (th df.1 0 63 _ Cf) _ ?_;refine aU h (λLe h=>?_) λLe h=>?_
       .refine aB ?_;exact hT (SZ _ (inr ⟨[(2,.ah 1 []),(3,.bool false)],hf [] rfl (gZ (t:=2) (d:=.bd) rfl rfl (.gN _) (by decide) (dU rfl (hh))),lS [.ah 1 [],.bool false]⟩))
       .refine aZ (n34 _ (inl ?_));obtain⟨agh,S0,h⟩:=aE h;(try simp only[h_.down,Nat.zero_add,Nat.add_zero,reduceAdd]at S0);refine oK (ad (show∀s,ei ao s 22 1 [(0,.int .i64 df.1)]=some (.ah 1 [.int .i64 df.1],s)from λs=>by kernel_rfl) (ad (@kP ao 22 22 2 rfl rfl) (ad @kQ (ad @kR (ad @jF (ad @kO (ad @all_nil (ad S0 (@lP _ aG 1 λ_=>rfl))))))))) [(5,.ah 1 (b8.map b3)),(6,.ah 1 ((nR++[df.1]).map aG)),(7,.int .i64 pY)] ?_;refine n30 _ (n29 _ (inl (wr [(5,.ah 1 (b8.map b3)),(6,.ah 1 ((nR++[df.1]).map aG)),(7,.int .i64 (i64.wrap (pY+1)))] ?_)));exact n25 _ (inr ⟨_,b9 rfl,agd (nR++[df.1]) (i64.wrap (pY+1)) h⟩)
     .exact cZ (w_ 0 _ (age 0 _ (qc _ (n22 _ (inl (bk az [.ah 1 (nR.map aG),.bool (decide ((nR.length:Int)<=2))]))))))
    exact dH h λn h=>agc n [] 0 h
theorem agi (a0 r) (h:r0 a0=some r):aY ao 41 [.str a0] (.bool r) []:=by
 refine b1 [0] [.tmp 2] Tryz.func41 acY λbO az bQ=>aB ?_;obtain⟨af,aP,h⟩:=aE h;refine dp (aga a0 _ aP) _ ?_;exact bk az [.bool af.2]
theorem agj (a0 r) (h:Es a0=some r):aY ao 20 [.slice (a0.map b3)] (.bool r) []:=by
 refine b1 [0] [.tmp 2] Tryz.func20 c20 λbO az bQ=>aB ?_;refine aK az λ_ bY bl aw=>aB ?_;refine bA bl λgf _ b0 cw _=>?_;show bh ao (.loop ?eM) _ _;have gg:∀n ha,yu a0 n ha=some r->cU ao ?eM gf (aj [(0,.slice (a0.map b3)),(3,.int .i64 ha)]):=by
  refine dc λ_ fU ha h=>db b0 λ_ e3 cL bw=>aK cL λ_ n6 _ bF=>aB ?_;refine aU h (λcS h=>?_) λcS h=>?_
  .refine aZ (n6 _ (inl (aK cL λ_ dP cQ _=>bA cQ λ_ n10 dx _ _=>?_)));obtain⟨af,dD,h⟩:=aE h;obtain⟨aw,dE,h⟩:=aE h;refine eS dD (agi af _ dE) _ ?_;refine aU h (λia h=>?_) λia h=>?_
   .exact bk dx [.bool false]
   .refine aZ (n10 _ (dP _ (inl (eE ?_))));exact e3 _ (inr ⟨_,b9 rfl,fU (i64.wrap (ha+1)) h⟩)
  .exact cZ (bF 0 _ (bw 0 _ (cw _ (bY _ (inl (bk az [.bool true]))))))
 exact dH h λn h=>gg n 0 h
theorem S1 (a0 r) (h:Bx a0=some r):aY ao 21 [.slice (a0.map aG)] (.ah 1 (r.map aG)) []:=by
 refine b1 [0] [.tmp 2] Tryz.func21 c21 λbO az bQ=>aB ?_;obtain⟨Xa,aP,h⟩:=aE h;(try simp only[h_.down,Nat.zero_add,Nat.add_zero,reduceAdd]at aP);refine dd (ad (show∀s,ei ao s 22 0 []=some (.ah 1 [],s)from λs=>by kernel_rfl) (ad (@kP ao 22 22 2 rfl rfl) (ad @kQ (ad @kR (ad @jF (ad @kO (ad @all_nil (ad aP (@lP _ aG 1 λ_=>rfl))))))))) _ ?_;exact cE az [.ah 1 (a0.map aG)]
theorem tl (a0 r) (h:pZ a0=some r):aY ao 102 [.bool a0] (.int .i64 r) []:=by
 refine b1 [0] [.tmp 2] Tryz.func102 acZ λbO az bQ=>aB ?_;refine aK az λ_ bY bl _=>aB ?_;refine aU h (λcw h=>?_) λcw h=>?_
 .exact bk bl [.int .i64 1]
 .exact aZ (bY _ (inl (bk az [.int .i64 0])))
theorem agk (a0 J r) (h:Et a0 J=some r):aY ao 103 [.slice (a0.map bG),.int .i64 J] (.int .i64 r) []:=by
 refine b1 [0] [.tmp 4] Tryz.func103 ac0 λbO az bQ=>aB ?_;refine aB ?_;refine aK az λ_ fS cz _=>bA cz λgf _ b0 cw _=>?_;show bh ao (.loop ?eM) _ _;have gg:∀n bW aR,yv a0 n bW aR=some r->cU ao ?eM gf (aj [(0,.slice (a0.map bG)),(1,.int .i64 bW),(5,.int .i64 aR)]):=by
  refine dc λ_ fU bW aR h=>db b0 λ_ e3 cL bw=>aK cL λ_ n6 _ bF=>aB ?_;refine aU h (λcS h=>?_) λcS h=>?_
  .refine aZ (n6 _ (inl (bA cL λ_ dP _ _ _=>?_)));obtain⟨af,ot,h⟩:=aE h;obtain⟨aw,dD,h⟩:=aE h;refine eS ot (SU af _ dD) _ ?_;refine eE ?_;exact dP _ (e3 _ (inr ⟨_,b9 rfl,fU (i64.wrap (bW+1)) (i64.wrap (aR+(i64.wrap (aw-1)))) h⟩))
  .exact cZ (bF 0 _ (bw 0 _ (cw _ (fS _ (inl (bk az [.int .i64 bW]))))))
 exact dH h λn h=>gg n J 1 h
theorem agl (a0 J a2 r) (h:Eu a0 J a2=some r):aY ao 104 [.int .i64 a0,.int .i64 J,.int .i64 a2] (.int .i64 r) []:=by
 refine b1 [0,1,2] [.tmp 6] Tryz.func104 ac1 λbO az bQ=>aB ?_;refine aK az λ_ bY bl aw=>aB ?_;refine bA bl λ_ fG b0 _ bu=>aB ?_;refine aU h (λeD h=>?_) λeD h=>?_
 .refine dd (@tZ .i64 64 (by decide)) _ ?_;exact cE b0 [.int .i64 (Int.tmod (i64.wrap (J+a2)) 64)]
 .refine aB ?_;refine aU h (λfc h=>?_) λfc h=>?_
  .refine dd (@tZ .i64 64 (by decide)) _ ?_;exact cE b0 [.int .i64 (Int.tmod (i64.wrap ((i64.wrap (J-a2))+64)) 64)]
  .refine aB ?_;refine aU h (λfT h=>?_) λfT h=>?_
   .refine dd (@tZ .i64 64 (by decide)) _ ?_;exact cE b0 [.int .i64 (Int.tmod (i64.wrap (J*a2)) 64)]
   .refine aB ?_;refine aU h (λjM h=>?_) λjM h=>?_
    .obtain⟨af,e2,h⟩:=aE h;refine dp (tl (J==a2) _ e2) _ ?_;exact cE b0 [.int .i64 af]
    .refine aB ?_;refine aU h (λky h=>?_) λky h=>?_
     .obtain⟨aw,hX,h⟩:=aE h;refine dp (tl (J !=a2) _ hX) _ ?_;exact cE b0 [.int .i64 aw]
     .refine aB ?_;refine aU h (λkd h=>?_) λkd h=>?_
      .obtain⟨aS,iz,h⟩:=aE h;refine dp (tl (decide (J<a2)) _ iz) _ ?_;exact cE b0 [.int .i64 aS]
      .refine aB ?_;refine aU h (λpw h=>?_) λpw h=>?_
       .obtain⟨bu,Cg,h⟩:=aE h;refine dp (tl (decide (J<=a2)) _ Cg) _ ?_;exact cE b0 [.int .i64 bu]
       .refine aB ?_;refine aU h (λCh h=>?_) λCh h=>?_
        .rcases fH h with⟨xa,h⟩|⟨xa,h⟩
         .obtain⟨bw,lB,h⟩:=aE h;refine eS xa (tl (a2 !=0) _ lB) _ ?_;exact cE b0 [.int .i64 bw]
         .obtain⟨bF,xb,h⟩:=aE h;refine eS xa (tl false _ xb) _ ?_;exact cE b0 [.int .i64 bF]
        .refine aZ (fG _ (bY _ (inl ?_)));rcases fH h with⟨q4,h⟩|⟨q4,h⟩
         .obtain⟨b8,Cf,h⟩:=aE h;refine eS q4 (tl true _ Cf) _ ?_;exact cE az [.int .i64 b8]
         .obtain⟨cA,Ci,h⟩:=aE h;refine eS q4 (tl (a2 !=0) _ Ci) _ ?_;exact cE az [.int .i64 cA]
theorem agm (yw:aoe->anT->Int->anW) (Lf:∀a0 J a2 r,yw a0 J a2=some r->aY ao 72 [.slice (a0.map bG),.slice (J.map aG),.int .i64 a2] (.int .i64 r) []) (a0 J a2 r) (h:Jm yw a0 J a2=some r):aY ao 72 [.slice (a0.map bG),.slice (J.map aG),.int .i64 a2] (.int .i64 r) []:=by
 refine b1 [0,1,2] [.tmp 6] Tryz.func72 c72 λbO az bQ=>aB ?_;refine aK az λ_ bY bl aw=>?_;obtain⟨af,bK,h⟩:=aE h;refine dd bK _ ?_;refine bA bl λ_ e3 cL _ bw=>aB ?_;refine aU h (λsD h=>?_) λsD h=>?_
 .refine dd bK _ ?_;exact cE cL [.int .i64 af.Value]
 .refine aB ?_;refine aU h (λgx h=>?_) λgx h=>?_
  .obtain⟨aw,dD,h⟩:=aE h;refine dd (ad bK dD) _ ?_;exact cE cL [.int .i64 aw]
  .refine aB ?_;refine aU h (λia h=>?_) λia h=>?_
   .obtain⟨aS,ez,h⟩:=aE h;obtain⟨bu,e2,h⟩:=aE h;refine dn (cr [(6,.int .i64 bu)] (λP a_=>?_) ?_)
    ·(try simp only[aQ.down,simprocAttr]);refine dv (Lf a0 J (i64.wrap (a2+1)) _ ez) (hK:= ?_);simp only[aQ.down,simprocAttr];refine dv (tl (aS==0) _ e2) (hK:= ?_);simp only[aQ.down,simprocAttr];exact cb trivial
    exact cE cL [.int .i64 bu]
   .refine aZ (e3 _ (bY _ (inl ?_)));obtain⟨bw,hW,h⟩:=aE h;refine dp (Lf a0 J (i64.wrap (a2+1)) _ hW) _ ?_;obtain⟨bF,hX,h⟩:=aE h;obtain⟨b8,hY,h⟩:=aE h;refine dn (cr [(0,.slice (a0.map bG)),(2,.int .i64 a2),(7,.int .i64 bw),(8,.int .i64 b8)] (λP a_=>?_) ?_)
    ·(try simp only[aQ.down,simprocAttr]);refine dv (agk a0 (i64.wrap (a2+1)) _ hX) (hK:= ?_);simp only[aQ.down,simprocAttr];refine dv (Lf a0 J bF _ hY) (hK:= ?_);simp only[aQ.down,simprocAttr];exact cb trivial
    obtain⟨cA,nm,h⟩:=aE h;refine eS bK (agl af.Value bw b8 _ nm) _ ?_;exact cE az [.int .i64 cA]
theorem agn:∀n a0 J a2 r,wm n a0 J a2=some r->aY ao 72 [.slice (a0.map bG),.slice (J.map aG),.int .i64 a2] (.int .i64 r) []:=by
 intro n;induction n with
 |zero=>intro a0 J a2 r h;cases(show none=some r from h)
 |succ n ih=>intro a0 J a2 r h;exact agm (wm n) ih a0 J a2 r h
theorem ago (a0 J a2 r) (h:Jn a0 J a2=some r):aY ao 72 [.slice (a0.map bG),.slice (J.map aG),.int .i64 a2] (.int .i64 r) []:=by
 obtain⟨n,h⟩:=oR h;exact agn n a0 J a2 r h
theorem S2 (a0 J r) (h:wo a0 J=some r):aY ao 42 [.slice (a0.map bG),.slice (J.map aG)] (.int .i64 r) []:=by
 refine b1 [0,1] [.tmp 4] Tryz.func42 ac2 λbO az bQ=>aB ?_;obtain⟨af,aP,h⟩:=aE h;refine dp (ago a0 J 0 _ aP) _ ?_;exact cE az [.int .i64 af]
theorem S3 (a0 J r) (h:wq a0 J=some r):aY ao 44 [.slice (a0.map cf),.slice (J.map aG)] (.ah 1 (r.map aG)) []:=by
 refine b1 [0,1] [.tmp 4] Tryz.func44 ac3 λbO az bQ=>aB ?_;refine dd (show∀s,ei ao s 22 0 []=some (.ah 1 [],s)from λs=>by kernel_rfl) _ ?_;refine aK az λ_ fS cz _=>aB ?_;refine bA cz λoa _ cL dt _=>?_;show bh ao (.loop ?h4) _ _;have iL:∀n eR jI,yx a0 J n eR jI=some r->cU ao ?h4 oa (aj [(0,.slice (a0.map cf)),(1,.slice (J.map aG)),(5,.ah 1 (eR.map aG)),(6,.int .i64 jI)]):=by
  refine dc λ_ iM eR jI h=>db cL λ_ n6 dT bF=>aK dT λ_ n7 _ b8=>aB ?_;refine aU h (λfc h=>?_) λfc h=>?_
  .refine aZ (n7 _ (inl (aK dT λ_ n10 dx _=>bA dx λ_ n11 _ _ _=>?_)));obtain⟨af,dE,h⟩:=aE h;obtain⟨aw,ft,h⟩:=aE h;obtain⟨u16,eO,h⟩:=aE h;(try simp only[h_.down,Nat.zero_add,Nat.add_zero,reduceAdd]at eO);refine FB (ad dE (ad (show∀s,ei ao s 22 1 [(0,.int .i64 aw)]=some (.ah 1 [.int .i64 aw],s)from λs=>by kernel_rfl) (ad (@kP ao 22 22 2 rfl rfl) (ad @kQ (ad @kR (ad @jF (ad @kO (ad @all_nil (ad eO (@lP _ aG 1 λ_=>rfl)))))))))) (S2 af J _ ft) [(0,.slice (a0.map cf)),(1,.slice (J.map aG)),(5,.ah 1 ((eR++[aw]).map aG)),(6,.int .i64 jI)] ?_;refine n11 _ (n10 _ (inl (wr [(0,.slice (a0.map cf)),(1,.slice (J.map aG)),(5,.ah 1 ((eR++[aw]).map aG)),(6,.int .i64 (i64.wrap (jI+1)))] ?_)));exact n6 _ (inr ⟨_,b9 rfl,iM (eR++[aw]) (i64.wrap (jI+1)) h⟩)
  .exact cZ (b8 0 _ (bF 0 _ (dt _ (fS _ (inl (bk az [.ah 1 (eR.map aG)]))))))
 exact dH h λn h=>iL n [] 0 h
theorem agp (a0 r) (h:Bz a0=some r):aY ao 105 [.int .i64 a0] (.str r) []:=by
 refine b1 [0] [.tmp 2] Tryz.func105 c105 λbO az bQ=>aB ?_;refine aK az λ_ bY bl _=>aB ?_;refine aU h (λcw h=>?_) λcw h=>?_
 .exact bk bl [.str ([48]:anR)]
 .refine aZ (bY _ (inl (dd (show∀s,ei ao s 92 0 []=some (.ah 1 [],s)from λs=>by kernel_rfl) _ ?_)));refine aK az λ_ n7 fz _=>aB ?_;refine bA fz λn1 _ cQ fc _=>?_;have n2:∀n fM gb,sX a0 n fM gb=some r->cU ao RM n1 (aj [(0,.int .i64 a0),(3,.ah 1 (fM.map hv)),(4,.int .i64 gb)]):=by
   refine dc λm16 n3 fM gb h=>db cQ λ_ n10 dx eQ=>aK dx λ_ n11 _ kx=>aB ?_;refine aU h (λiK h=>?_) λiK h=>?_
   .refine aZ (n11 _ (inl (aK dx λ_ n14 fe _=>bA fe λLg n15 kc _ _=>dd (@tZ .i64 10 (by decide)) _ ?_)));have S4:∀sW uq r1,Ev (sX a0 m16) a0 sW uq r1=some r->bh ao RL Lg (aj [(0,.int .i64 a0),(3,.ah 1 (sW.map hv)),(4,.int .i64 uq),(5,.int .i64 r1)]):=by
     intro sW uq r1 h;obtain⟨SV,hW,h⟩:=aE h;(try simp only[h_.down,Nat.zero_add,Nat.add_zero,reduceAdd]at hW);refine oK (ad (@DJ ao 2 5 .u8 rfl rfl) (ad (show∀s,ei ao s 92 1 [(0,.int .u8 (u8.wrap (i64.wrap (48+r1))))]=some (.ah 1 [.int .u8 (u8.wrap (i64.wrap (48+r1)))],s)from λs=>by kernel_rfl) (ad (@kP ao 92 92 5 rfl rfl) (ad @kQ (ad @kR (ad @jF (ad @kO (ad @all_nil (ad hW @H4))))))))) [(0,.int .i64 a0),(3,.ah 1 ((sW++[(ns (i64.wrap (48+r1)))]).map hv)),(4,.int .i64 uq)] ?_;refine n15 _ (n14 _ (inl (oK (@PV .i64 10 (by decide)) [(0,.int .i64 a0),(3,.ah 1 ((sW++[(ns (i64.wrap (48+r1)))]).map hv)),(4,.int .i64 (i64.wrap (Int.tdiv uq 10)))] ?_)));exact n10 _ (inr ⟨_,b9 rfl,n3 (sW++[(ns (i64.wrap (48+r1)))]) (i64.wrap (Int.tdiv uq 10)) h⟩)
    refine aK kc λ_ n17 _ _=>aB ?_;refine aU h (λw7 h=>?_) λw7 h=>?_
    .refine eE ?_;exact n17 _ (inr ⟨_,b9 rfl,S4 fM gb (i64.wrap (0-(Int.tmod gb 10))) h⟩)
    .exact aZ (n17 _ (inr ⟨_,b9 rfl,S4 fM gb (Int.tmod gb 10) h⟩))
   .refine cZ (kx 0 _ (eQ 0 _ (fc _ (n7 _ (inl ?_)))));have S5:∀na,ur na=some r->bh ao RO bO (aj [(3,.ah 1 (na.map hv))]):=by
     intro na h;refine dd (show∀s,ei ao s 92 0 []=some (.ah 1 [],s)from λs=>by kernel_rfl) _ ?_;refine aK az λ_ n26 Cj _=>aB ?_;refine bA Cj λagq _ Ck tj _=>?_;have agr:∀n pe p0,Jp na n pe p0=some r->cU ao RN agq (aj [(3,.ah 1 (na.map hv)),(6,.ah 1 (pe.map hv)),(7,.int .i64 p0)]):=by
      refine dc λ_ ags pe p0 h=>db Ck λ_ n29 FJ Lh=>aK FJ λ_ n30 _ agt=>aB ?_;refine aU h (λse h=>?_) λse h=>?_
      .refine aZ (n30 _ (inl (aK FJ λ_ n33 agu _=>bA agu λ_ n34 _ _ _=>?_)));obtain⟨af,FL,h⟩:=aE h;obtain⟨ant,S6,h⟩:=aE h;(try simp only[h_.down,Nat.zero_add,Nat.add_zero,reduceAdd]at S6);refine oK (ad FL (ad (cn FL) (ad (show∀s,ei ao s 92 1 [(0,.int .u8 (af.toNat:Int))]=some (.ah 1 [.int .u8 (af.toNat:Int)],s)from λs=>by kernel_rfl) (ad (@kP ao 92 92 5 rfl rfl) (ad @kQ (ad @kR (ad @jF (ad @kO (ad @all_nil (ad S6 @H4)))))))))) [(3,.ah 1 (na.map hv)),(6,.ah 1 ((pe++[af]).map hv)),(7,.int .i64 p0)] ?_;refine n34 _ (n33 _ (inl (wr [(3,.ah 1 (na.map hv)),(6,.ah 1 ((pe++[af]).map hv)),(7,.int .i64 (i64.wrap (p0-1)))] ?_)));exact n29 _ (inr ⟨_,b9 rfl,ags (pe++[af]) (i64.wrap (p0-1)) h⟩)
      .refine cZ (agt 2 _ (Lh 2 _ (tj _ (n26 _ (inl (dd (ad ((@PR ao 92 9 5 rfl rfl rfl).2.2) (ad @PU @PS)) _ ?_))))));exact cE az [.str pe]
     exact dH h λn h=>agr n [] (i64.wrap ((na.length:Int)-1)) h
    refine aK az λ_ n24 _ _=>aB ?_;refine aU h (λxc h=>?_) λxc h=>?_
    .obtain⟨agh,S7,h⟩:=aE h;(try simp only[h_.down,Nat.zero_add,Nat.add_zero,reduceAdd]at S7);refine oK (ad (show∀s,ei ao s 92 1 [(0,.int .u8 45)]=some (.ah 1 [.int .u8 45],s)from λs=>by kernel_rfl) (ad (@kP ao 92 92 5 rfl rfl) (ad @kQ (ad @kR (ad @jF (ad @kO (ad @all_nil (ad S7 @H4)))))))) [(3,.ah 1 ((fM++[(45:UInt8)]).map hv))] ?_;exact n24 _ (inr ⟨_,b9 rfl,S5 (fM++[(45:UInt8)]) h⟩)
    .exact aZ (n24 _ (inr ⟨_,b9 rfl,S5 fM h⟩))
  exact dH h λn h=>n2 n [] a0 h
theorem agv (a0 r) (h:Ex a0=some r):aY ao 73 [.slice (a0.map aG)] (.str r) []:=by
 refine b1 [0] [.tmp 2] Tryz.func73 ac4 λbO az bQ=>aB ?_;refine aK az λ_ bY bl aw=>aB ?_;refine aU h (λcw h=>?_) λcw h=>?_
 .exact bk bl [.str ([45]:anR)]
 .refine aZ (bY _ (inl (aB ?_)));refine aK az λ_ n7 fz _=>aB ?_;refine bA fz λn1 _ cQ fc _=>?_;have n2:∀n fM gb,wt a0 n fM gb=some r->cU ao RQ n1 (aj [(0,.slice (a0.map aG)),(3,.str fM),(4,.int .i64 gb)]):=by
   refine dc λm16 n3 fM gb h=>db cQ λ_ n10 dx eQ=>aK dx λ_ n11 _ kx=>aB ?_;refine aU h (λiK h=>?_) λiK h=>?_
   .refine aZ (n11 _ (inl (aK dx λ_ n14 fe _=>bA fe λLg n15 kc _ _=>?_)));have S8:∀sY sZ,Ew (wt a0 m16) a0 sY sZ=some r->bh ao RP Lg (aj [(0,.slice (a0.map aG)),(3,.str sY),(4,.int .i64 sZ)]):=by
     intro sY sZ h;obtain⟨af,gp,h⟩:=aE h;obtain⟨aw,hW,h⟩:=aE h;obtain⟨agw,hV,h⟩:=aE h;(try simp only[h_.down,Nat.zero_add,Nat.add_zero,reduceAdd]at hV);refine FB (ad gp (ad hV (ad @rR @rS))) (agp af _ hW) [(0,.slice (a0.map aG)),(3,.str (sY++aw)),(4,.int .i64 sZ)] ?_;refine n15 _ (n14 _ (inl (wr [(0,.slice (a0.map aG)),(3,.str (sY++aw)),(4,.int .i64 (i64.wrap (sZ+1)))] ?_)));exact n10 _ (inr ⟨_,b9 rfl,n3 (sY++aw) (i64.wrap (sZ+1)) h⟩)
    refine aK kc λ_ n16 _ _=>aB ?_;refine aU h (λkd h=>?_) λkd h=>?_
    .obtain⟨anu,iz,h⟩:=aE h;(try simp only[h_.down,Nat.zero_add,Nat.add_zero,reduceAdd]at iz);refine oK (ad iz (ad @rR @rS)) [(0,.slice (a0.map aG)),(3,.str (fM++([44]:anR))),(4,.int .i64 gb)] ?_;exact n16 _ (inr ⟨_,b9 rfl,S8 (fM++([44]:anR)) gb h⟩)
    .exact aZ (n16 _ (inr ⟨_,b9 rfl,S8 fM gb h⟩))
   .exact cZ (kx 0 _ (eQ 0 _ (fc _ (n7 _ (inl (bk az [.str fM]))))))
  exact dH h λn h=>n2 n ([]:anR) 0 h
theorem agx (a0 J r) (h:BA a0 J=some r):aY ao 43 [.str a0,.slice (J.map aG)] (.str r) []:=by
 refine b1 [0,1] [.tmp 4] Tryz.func43 ac5 λbO az bQ=>aB ?_;refine aK az λ_ bY bl _=>aB ?_;refine aU h (λcw h=>?_) λcw h=>?_
 .exact bk bl [.str a0]
 .refine aZ (bY _ (inl ?_));obtain⟨Li,bL,h⟩:=aE h;(try simp only[h_.down,Nat.zero_add,Nat.add_zero,reduceAdd]at bL);obtain⟨af,hr,h⟩:=aE h;obtain⟨Li,gi,h⟩:=aE h;(try simp only[h_.down,Nat.zero_add,Nat.add_zero,reduceAdd]at gi);obtain⟨Li,jd,h⟩:=aE h;(try simp only[h_.down,Nat.zero_add,Nat.add_zero,reduceAdd]at jd);refine eS (ad bL (ad @rR (ad @rS (ad gi jd)))) (agv J _ hr) [(4,.str (((a0++([40]:anR))++af)++([41]:anR)))] ?_;exact cE az [.str (((a0++([40]:anR))++af)++([41]:anR))]
theorem agy (a0 J r) (h:Ey a0 J=some r):aY ao 46 [.ah 1 (a0.map aG),.slice (J.map aG)] (.bool r.1) [.ah 1 (r.2.map aG),.hole]:=by
 refine b1 [0,1] [.tmp 4] Tryz.func46 c46 λbO az bQ=>aB ?_;refine aK az λ_ bY bl aw=>aB ?_;refine bA bl λgf _ b0 cw _=>?_;show bh ao (.loop ?eM) _ _;have gg:∀n cd aR,yy J n cd aR=some r->cU ao ?eM gf (aj [(0,.ah 1 (cd.map aG)),(1,.slice (J.map aG)),(5,.int .i64 aR)]):=by
  refine dc λ_ fU cd aR h=>db b0 λ_ e3 cL bw=>aK cL λ_ n6 _ bF=>aB ?_;refine aU h (λcS h=>?_) λcS h=>?_
  .refine aZ (n6 _ (inl (aK cL λ_ dP cQ _=>bA cQ λ_ n10 dx _ _=>aK dx λ_ n11 gH _=>?_)));obtain⟨af,dE,h⟩:=aE h;obtain⟨aw,ft,h⟩:=aE h;refine sd (ad dE (ad (cn dE) ft)) _ ?_;refine aU h (λjM h=>?_) λjM h=>?_
   .refine dn (cr [(0,.ah 1 ((List.set cd (Int.toNat aR) (i64.wrap (af+1))).map aG))] (λP a_=>?_) ?_)
    .simp only[aQ.down,simprocAttr,dE,cn dE,ey,dj];exact cb (ad dE (ad (cn dE) @ey))
    refine ws [(0,.ah 1 ((List.set cd (Int.toNat aR) (i64.wrap (af+1))).map aG)),(4,.bool true)] ?_;exact hT (gH _ (inl (mw [.bool true] rfl (by cases gh h;rfl) (by decide) (mV (ll (by cases gh h;rfl) rfl rfl rfl (kS (mW)))))))
   .refine aZ (n11 _ (inl (iv (cr [(0,.ah 1 ((List.set cd (Int.toNat aR) 0).map aG)),(1,.slice (J.map aG)),(5,.int .i64 aR)] (λP a_=>?_) ?_))))
    .simp only[aQ.down,simprocAttr,dE,cn dE,ey,dj];exact cb (ad dE (ad (cn dE) @ey))
    refine n10 _ (dP _ (inl (wr [(0,.ah 1 ((List.set cd (Int.toNat aR) 0).map aG)),(1,.slice (J.map aG)),(5,.int .i64 (i64.wrap (aR-1)))] ?_)));exact e3 _ (inr ⟨_,b9 rfl,fU (List.set cd (Int.toNat aR) 0) (i64.wrap (aR-1)) h⟩)
  .refine cZ (bF 0 _ (bw 0 _ (cw _ (bY _ (inl (aB ?_))))));exact hT (az _ (inl (mw [.bool false] rfl (by cases gh h;rfl) (by decide) (mV (ll (by cases gh h;rfl) rfl rfl rfl (kS (mW)))))))
 exact dH h λn h=>gg n a0 (i64.wrap ((a0.length:Int)-1)) h
theorem S9 (a0 J r) (h:BB a0 J=some r):aY ao 45 [.slice (a0.map aG),.slice (J.map aG)] (.bool r) []:=by
 refine b1 [0,1] [.tmp 4] Tryz.func45 ac6 λbO az bQ=>aB ?_;refine aK az λ_ bY bl aw=>aB ?_;refine aU h (λcw h=>?_) λcw h=>?_
 .exact bk bl [.bool false]
 .refine aZ (bY _ (inl (aK az λ_ n6 dT _=>aB ?_)));refine bA dT λob _ ke cS _=>?_;show bh ao (.loop ?lv) _ _;have lz:∀n cW,yz a0 J n cW=some r->cU ao ?lv ob (aj [(0,.slice (a0.map aG)),(1,.slice (J.map aG)),(5,.int .i64 cW)]):=by
   refine dc λ_ kZ cW h=>db ke λ_ dP cQ df=>aK cQ λ_ n10 _ eQ=>aB ?_;refine aU h (λfT h=>?_) λfT h=>?_
   .refine aZ (n10 _ (inl (aK cQ λ_ n13 k2 _=>bA k2 λ_ n14 fe _ _=>?_)));obtain⟨af,ez,h⟩:=aE h;obtain⟨aw,e2,h⟩:=aE h;refine sd (ad ez e2) _ ?_;refine aU h (λkz h=>?_) λkz h=>?_
    .exact bk fe [.bool false]
    .refine aZ (n14 _ (n13 _ (inl (eE ?_))));exact dP _ (inr ⟨_,b9 rfl,kZ (i64.wrap (cW+1)) h⟩)
   .exact cZ (eQ 0 _ (df 0 _ (cS _ (n6 _ (inl (bk az [.bool true]))))))
  exact dH h λn h=>lz n 0 h
theorem agz (a0 J r) (h:wv a0 J=some r):aY ao 22 [.ref (ej a0),.slice (J.map aG)] (.ah 2 (r.map dG)) []:=by
 refine aY.aa5 (fx:=[0,1]) yi [.tmp 4] [(0,.ref (ej a0)),(1,.slice (J.map aG))] Tryz.func22 rfl rfl adv (le_of_ble_eq_true rfl) adu rfl rfl λbO az bQ=>?_;refine aB ?_;refine dd (show∀s,ei ao s 49 0 []=some (.ah 2 [],s)from λs=>by kernel_rfl) _ ?_;refine aK az λ_ fS cz aS=>aB ?_;refine bA cz λoa _ cL dt bw=>?_;have iL:∀n eR jI,qL a0 J n eR jI=some r->cU ao RU oa (aj [(0,.ref (ej a0)),(1,.slice (J.map aG)),(5,.ah 2 (eR.map dG)),(6,.int .i64 jI)]):=by
  refine dc λm8 iM eR jI h=>db cL λ_ n6 dT bF=>aK dT λ_ n7 _ b8=>aB ?_;refine aU h (λfc h=>?_) λfc h=>?_
  .refine aZ (n7 _ (inl (aK dT λ_ n10 dx _=>bA dx λ_ n11 gH _ _=>?_)));obtain⟨af,dE,h⟩:=aE h;refine dd dE _ ?_;obtain⟨S_,eO,h⟩:=aE h;refine tf (ad (oS eO) @List.map_replicate.{0,0}) [(0,.ref (ej a0)),(1,.slice (J.map aG)),(5,.ah 2 (eR.map dG)),(6,.int .i64 jI),(7,.ref (dO af)),(8,.ah 1 ((List.replicate (Int.toNat (af.a7.length:Int)) 0).map aG))] ?_;refine bA gH λtm _ kY iN _=>?_;have Lj:∀n pf pg gT,qK (qL a0 J m8) a0 J af n pf pg gT=some r->cU ao RT tm (aj [(0,.ref (ej a0)),(1,.slice (J.map aG)),(5,.ah 2 (pf.map dG)),(6,.int .i64 pg),(7,.ref (dO af)),(8,.ah 1 (gT.map aG))]):=by
    refine dc λm22 Lk pf pg gT h=>db kY λ_ n17 n9 iw=>bA n9 λagA n18 uR _ nb=>?_;obtain⟨aw,hV,h⟩:=aE h;obtain⟨S_,hX,h⟩:=aE h;(try simp only[h_.down,Nat.zero_add,Nat.add_zero,reduceAdd]at hX);refine Q7 [(0,.ref (ej a0)),(1,.slice (J.map aG)),(5,.ah 2 (pf.map dG)),(6,.int .i64 pg),(7,.ref (dO af)),(8,.ah 1 (gT.map aG)),(9,.ah 1 ((aw++gT).map aG))] [(1,.slice (J.map aG)),(8,.slice (gT.map aG))] (.ah 1 ((aw++gT).map aG)) rfl (by simp only[I.ch,I.gM,Bool.and_self, @jY _ aG (λ_=>r_ _)]) ?_ (λP a_=>?_) (λP a_=>?_) ?_
    .simp only[aQ.down,simprocAttr,sU,Sw.down]
    ·(try simp only[aQ.down,simprocAttr,KX.down,hX]);refine dv (S1 J _ hV) (hK:= ?_);simp only[aQ.down,simprocAttr,KX.down,hX];exact cb (ad KX.down hX)
    .exact a_
    have zr:∀s3 s4 yA,s0 (qL a0 J m8) (qK (qL a0 J m8) a0 J af m22) a0 J af s3 s4 yA=some r->bh ao RS agA (aj [(0,.ref (ej a0)),(1,.slice (J.map aG)),(5,.ah 2 (s3.map dG)),(6,.int .i64 s4),(7,.ref (dO af)),(8,.ah 1 (yA.map aG))]):=by
     intro s3 s4 yA h;obtain⟨aS,nm,h⟩:=aE h;refine dn (cr [(0,.ref (ej a0)),(1,.slice (J.map aG)),(5,.ah 2 (s3.map dG)),(6,.int .i64 s4),(7,.ref (dO af)),(8,.ah 1 (aS.2.map aG)),(103,.bool (!aS.1))] (λP a_=>?_) ?_)
     ·(try simp only[aQ.down,simprocAttr]);refine o7 [⟨.h 8 [],true,_,_⟩,⟨.slice (af.a7.map aG),false,_,.hole⟩] (agy yA af.a7 _ nm) rfl rfl rfl (by simp only[aQ.down,simprocAttr,qF,pT,nH,hA,hB,hC,dZ,or_true,true_or, @cN _ aG aG (λ_=>hn _)]) rfl rfl (inl rfl) ?_;simp only[aQ.down,simprocAttr,mU];exact cb trivial
     refine aU h (λCl h=>?_) λCl h=>?_
     .refine cZ (nb 2 _ (by decide) (iw 2 _ (iN _ (n11 _ (n10 _ (inl (eE ?_)))))));exact n6 _ (inr ⟨_,b9 rfl,iM s3 (i64.wrap (s4+1)) h⟩)
     .exact aZ (n18 _ (n17 _ (inr ⟨_,b9 rfl,Lk s3 s4 aS.2 h⟩)))
    refine aK uR λ_ n22 n_ _=>?_;obtain⟨bu,Cm,h⟩:=aE h;refine dn (cr [(0,.ref (ej a0)),(1,.slice (J.map aG)),(5,.ah 2 (pf.map dG)),(6,.int .i64 pg),(7,.ref (dO af)),(8,.ah 1 (gT.map aG)),(9,.ah 1 ((aw++gT).map aG)),(45,.bool (bu !=0))] (λP a_=>?_) ?_)
    ·(try simp only[aQ.down,simprocAttr]);refine dv (S2 af.Guard (aw++gT) _ Cm) rfl rfl (by simp only[aQ.down,simprocAttr,FC.down]<;>rfl) rfl (inr (by rfl)) ?_;simp only[aQ.down,simprocAttr];exact cb trivial
    refine aU h (λtg h=>?_) λtg h=>?_
    .obtain⟨bw,n5,h⟩:=aE h;obtain⟨bF,FK,h⟩:=aE h;obtain⟨b8,k1,h⟩:=aE h;refine sN rfl (qE [(0,.ref (ej a0)),(1,.slice (J.map aG)),(5,.ah 2 (pf.map dG)),(6,.int .i64 pg),(7,.ref (dO af)),(8,.ah 1 (gT.map aG)),(10,.aV (.agg [.str bF,.ah 1 (b8.map aG)]))] (λP a_=>?_) ?_)
     ·(try simp only[gB.down,simprocAttr,B8.down,fi,d_]);refine o6 (S3 af.bU (aw++gT) _ n5) rfl rfl (by simp only[gB.down,simprocAttr,KY.down,fi,d_]<;>rfl) rfl (inr (jY (λ_=>r_ _) _)) ?_;simp only[gB.down,simprocAttr,B8.down,fi,d_];refine o6 (agx af.Name bw _ FK) rfl rfl (by simp only[gB.down,simprocAttr,KY.down,fi,d_]<;>rfl) rfl (inr (by rfl)) ?_;simp only[gB.down,simprocAttr,B8.down,fi,d_];refine o6 (S3 af.Next (aw++gT) _ k1) rfl rfl (by simp only[gB.down,simprocAttr,KY.down,fi,d_]<;>rfl) rfl (inr (jY (λ_=>r_ _) _)) ?_;simp only[gB.down,simprocAttr,B8.down,fi,d_];refine⟨pV (by kernel_rfl),?_⟩;exact cb B8.down
     refine aB ?_;refine aK n_ λ_ n35 agB _=>aB ?_;refine bA agB λLl _ Cn q4 _=>?_;have agC:∀n ku lV lW mC lX uu nS,wu (qL a0 J m8) (qK (qL a0 J m8) a0 J af m22) a0 J af n ku lV lW mC lX uu nS=some r->cU ao RR Ll (aj [(0,.ref (ej a0)),(1,.slice (J.map aG)),(5,.ah 2 (ku.map dG)),(6,.int .i64 lV),(7,.ref (dO af)),(8,.ah 1 (lW.map aG)),(10,.aV (.agg [.str mC,.ah 1 (lX.map aG)])),(11,.bool uu),(12,.int .i64 nS)]):=by
      refine dc λ_ Lm ku lV lW mC lX uu nS h=>db Cn λ_ n38 w9 Ln=>aK w9 λ_ n39 _ Lo=>aB ?_;refine aU h (λxc h=>?_) λxc h=>?_
      .refine aZ (n39 _ (inl (aK w9 λ_ n42 Lp _=>bA Lp λ_ n43 _ _ _=>?_)));rcases fH h with⟨xd,h⟩|⟨xd,h⟩
       .refine Sv xd _ ?_;refine n43 _ (n42 _ (inl (eE ?_)));exact n38 _ (inr ⟨_,b9 rfl,Lm ku lV lW mC lX true (i64.wrap (nS+1)) h⟩)
       .obtain⟨cA,ib,h⟩:=aE h;rcases fH h with⟨zs,h⟩|⟨zs,h⟩
        .obtain⟨df,q3,h⟩:=aE h;refine PD rfl (qE [(0,.ref (ej a0)),(1,.slice (J.map aG)),(5,.ah 2 (ku.map dG)),(6,.int .i64 lV),(7,.ref (dO af)),(8,.ah 1 (lW.map aG)),(10,.aV (.agg [.str mC,.ah 1 (lX.map aG)])),(11,.bool df),(12,.int .i64 nS)] (λP a_=>?_) ?_)
         ·(try simp only[gB.down,simprocAttr,xd,ib,cn ib,zs]);refine AR (S9 cA.Next lX _ q3) rfl rfl (by simp only[gB.down,simprocAttr,xd,ib,cn ib,zs,hA,hB,hC,dZ, @cN _ aG aG (λ_=>hn _), @cN _ aG aG (λ_=>hn _)]<;>rfl) rfl (inr (by rfl)) ?_;simp only[gB.down,simprocAttr,xd,ib,cn ib,zs];refine⟨pV (by kernel_rfl),?_⟩;exact cb (ad xd (ad ib (ad (cn ib) zs)))
         refine n43 _ (n42 _ (inl (eE ?_)));exact n38 _ (inr ⟨_,b9 rfl,Lm ku lV lW mC lX df (i64.wrap (nS+1)) h⟩)
        .refine Sv (ad xd (ad ib (ad (cn ib) zs))) _ ?_;refine n43 _ (n42 _ (inl (eE ?_)));exact n38 _ (inr ⟨_,b9 rfl,Lm ku lV lW mC lX false (i64.wrap (nS+1)) h⟩)
      .refine cZ (Lo 4 _ (Ln 4 _ (q4 _ (n35 _ (inl (aB ?_))))));refine aU h (λagD h=>?_) λagD h=>?_
       .obtain⟨S_,Lq,h⟩:=aE h;(try simp only[B9.down,Nat.zero_add,Nat.add_zero,reduceAdd]at Lq);refine iv (cr [(0,.ref (ej a0)),(1,.slice (J.map aG)),(5,.ah 2 ((ku++[(bB.mk mC lX)]).map dG)),(6,.int .i64 lV),(7,.ref (dO af)),(8,.ah 1 (lW.map aG))] (λP a_=>?_) ?_)
        .simp only[aQ.down,simprocAttr,FD.down,mx,d_,Lq];(try simp only[iy.down,simprocAttr,FD.down,mx,d_,Lq]at a_⊢);exact a_
        exact n22 _ (inr ⟨_,b9 rfl,zr (ku++[(bB.mk mC lX)]) lV lW h⟩)
       .exact aZ (n22 _ (inr ⟨_,b9 rfl,zr ku lV lW h⟩))
     exact dH h λn h=>agC n pf pg gT bF b8 false 0 h
    .exact aZ (n22 _ (inr ⟨_,b9 rfl,zr pf pg gT h⟩))
   exact dH h λn h=>Lj n eR jI (List.replicate (Int.toNat (af.a7.length:Int)) 0) h
  .exact cZ (b8 0 _ (bF 0 _ (dt _ (fS _ (inl (bk az [.ah 2 (eR.map dG)]))))))
 exact dH h λn h=>iL n [] 0 h
theorem agE (a0 J r) (h:EA a0 J=some r):aY ao 23 [.slice (a0.map cB),.slice (J.map aG)] (.int .i64 r) []:=by
 refine b1 [0,1] [.tmp 4] Tryz.func23 KI λbO az bQ=>aB ?_;refine aK az λ_ bY bl aw=>aB ?_;refine bA bl λgf _ b0 cw _=>?_;show bh ao (.loop ?eM) _ _;have gg:∀n aR,wx a0 J n aR=some r->cU ao ?eM gf (aj [(0,.slice (a0.map cB)),(1,.slice (J.map aG)),(5,.int .i64 aR)]):=by
  refine dc λ_ fU aR h=>db b0 λ_ e3 cL bw=>aK cL λ_ n6 _ bF=>aB ?_;refine aU h (λcS h=>?_) λcS h=>?_
  .refine aZ (n6 _ (inl (aK cL λ_ dP cQ _=>bA cQ λ_ n10 dx _ _=>?_)));obtain⟨af,dD,h⟩:=aE h;obtain⟨aw,dE,h⟩:=aE h;refine eS dD (S9 af J _ dE) _ ?_;refine aU h (λia h=>?_) λia h=>?_
   .exact bk dx [.int .i64 aR]
   .refine aZ (n10 _ (dP _ (inl (eE ?_))));exact e3 _ (inr ⟨_,b9 rfl,fU (i64.wrap (aR+1)) h⟩)
  .exact cZ (bF 0 _ (bw 0 _ (cw _ (bY _ (inl (bk az [.int .i64 (-1)]))))))
 exact dH h λn h=>gg n 0 h
theorem agF (a0 J r) (h:EB a0 J=some r):aY ao 24 [.slice (a0.map aG),.slice (J.map aG)] (.int .i64 r) []:=by
 refine b1 [0,1] [.tmp 4] Tryz.func24 c24 λbO az bQ=>aB ?_;refine aK az λ_ bY bl aw=>aB ?_;refine bA bl λgf _ b0 cw _=>?_;show bh ao (.loop ?eM) _ _;have gg:∀n aR,yB a0 J n aR=some r->cU ao ?eM gf (aj [(0,.slice (a0.map aG)),(1,.slice (J.map aG)),(5,.int .i64 aR)]):=by
  refine dc λ_ fU aR h=>db b0 λ_ e3 cL bw=>aK cL λ_ n6 _ bF=>q1 (decide (aR<(a0.length:Int))) [(0,.slice (a0.map aG)),(1,.slice (J.map aG)),(5,.int .i64 aR),(15,.bool ((decide (aR<(a0.length:Int)))&&(decide (aR<(J.length:Int)))))] ?_;refine aU h (λcS h=>?_) λcS h=>?_
  .refine aZ (n6 _ (inl (aK cL λ_ dP cQ _=>bA cQ λ_ n10 dx _ _=>aK dx λ_ n11 gH _=>?_)));obtain⟨af,dE,h⟩:=aE h;obtain⟨aw,ft,h⟩:=aE h;refine sd (ad dE ft) _ ?_;refine aU h (λjM h=>?_) λjM h=>?_
   .exact bk gH [.int .i64 (-1)]
   .refine aZ (n11 _ (inl (sd (ad dE ft) _ ?_)));refine aU h (λkz h=>?_) λkz h=>?_
    .exact bk dx [.int .i64 1]
    .refine aZ (n10 _ (dP _ (inl (eE ?_))));exact e3 _ (inr ⟨_,b9 rfl,fU (i64.wrap (aR+1)) h⟩)
  .refine cZ (bF 0 _ (bw 0 _ (cw _ (bY _ (inl (aK az λ_ n21 lx _=>aB ?_))))));refine aU h (λkd h=>?_) λkd h=>?_
   .exact bk lx [.int .i64 (-1)]
   .refine aZ (n21 _ (inl (aK az λ_ n25 tk _=>aB ?_)));refine aU h (λpw h=>?_) λpw h=>?_
    .exact bk tk [.int .i64 1]
    .exact aZ (n25 _ (inl (bk az [.int .i64 0])))
 exact dH h λn h=>gg n 0 h
theorem agG (a0 J r) (h:ED a0 J=some r):aY ao 6 [ej a0,.slice (J.map b3)] (.tuple [.ah 1 (r.1.map cB),.int .i64 r.2]) []:=by
 refine b1 [0,1] [.tmp 4,.tmp 5] Tryz.func6 eM λbO az bQ=>aB ?_;refine aK az λ_ bY bl aw=>?_;obtain⟨af,bK,h⟩:=aE h;refine dn (cr [(1,.slice (J.map b3)),(2,.aV (ej a0)),(17,.bool (!af))] (λP a_=>?_) ?_)
 .refine dv (afT a0 _ bK) rfl rfl (by simp only[aQ.down,simprocAttr,Sy.down]<;>rfl) rfl (inr (by rfl)) ?_;simp only[aQ.down,simprocAttr];exact cb trivial
 refine aU h (λdt h=>?_) λdt h=>?_
 .refine aB ?_;exact hT (bl _ (inr ⟨[(4,.ah 1 []),(5,.int .i64 1)],hf [] rfl (gZ (t:=4) (d:=.bd) rfl rfl (.gN _) (by decide) (dU rfl (hh))),lS [.ah 1 [],.int .i64 1]⟩))
 .refine aZ (bY _ (inl (aK az λ_ n7 fz b8=>?_)));obtain⟨aw,gi,h⟩:=aE h;refine dp (agj J _ gi) _ ?_;refine aU h (λgx h=>?_) λgx h=>?_
  .refine aB ?_;exact hT (fz _ (inr ⟨[(4,.ah 1 []),(5,.int .i64 2)],hf [] rfl (gZ (t:=4) (d:=.bd) rfl rfl (.gN _) (by decide) (dU rfl (hh))),lS [.ah 1 [],.int .i64 2]⟩))
  .refine aZ (n7 _ (inl ?_));obtain⟨aS,dE,h⟩:=aE h;refine dn (cr [(1,.slice (J.map b3)),(2,.aV (ej a0)),(6,.ah 1 ([aS].map cO))] (λP a_=>?_) ?_)
   ·(try simp only[aQ.down,simprocAttr,zk.down,mx,d_]);refine dv (S1 a0.Start _ dE) (hK:= ?_);simp only[aQ.down,simprocAttr,zk.down,mx,d_];(try simp only[iy.down,simprocAttr,zk.down,mx,d_]at a_⊢);exact a_
   refine aK az λ_ n14 fe n0=>aB ?_;refine bA fe λtm _ kY iN pj=>?_;show bh ao (.loop ?c24) _ _;have Cc:∀n nc p7,mG a0 J n nc p7=some r->cU ao ?c24 tm (aj [(1,.slice (J.map b3)),(2,.aV (ej a0)),(6,.ah 1 (nc.map cO)),(7,.int .i64 p7)]):=by
    refine dc λm24 Cd nc p7 h=>db kY λ_ n17 n9 iw=>aK n9 λ_ n18 _ nb=>q1 (decide (p7<(J.length:Int))) [(1,.slice (J.map b3)),(2,.aV (ej a0)),(6,.ah 1 (nc.map cO)),(7,.int .i64 p7),(33,.bool ((decide (p7<(J.length:Int)))&&(decide (0<(nc.length:Int)))))] ?_;refine aU h (λn4 h=>?_) λn4 h=>?_
    .refine aZ (n18 _ (inl (aK n9 λ_ n21 lx _=>bA lx λ_ n22 n_ _ _=>dd (show∀s,ei ao s 29 0 []=some (.ah 1 [],s)from λs=>by kernel_rfl) _ ?_)));refine aK n_ λ_ n24 pv _=>aB ?_;refine bA pv λagH _ Cj ti _=>?_;show bh ao (.loop ?KH) _ _;have agI:∀n p1 p2 p3 p4,p5 (mG a0 J m24) a0 J n p1 p2 p3 p4=some r->cU ao ?KH agH (aj [(1,.slice (J.map b3)),(2,.aV (ej a0)),(6,.ah 1 (p1.map cO)),(7,.int .i64 p2),(8,.ah 1 (p3.map cO)),(9,.int .i64 p4)]):=by
      refine dc λLr agJ p1 p2 p3 p4 h=>db Cj λ_ n27 uQ agK=>aK uQ λ_ n28 _ agL=>aB ?_;refine aU h (λLs h=>?_) λLs h=>?_
      .refine aZ (n28 _ (inl (aK uQ λ_ n31 Lt _=>bA Lt λ_ n32 agM _ _=>?_)));obtain⟨bu,lB,h⟩:=aE h;obtain⟨bw,xb,h⟩:=aE h;refine dn (cr [(1,.slice (J.map b3)),(2,.aV (ej a0)),(6,.ah 1 (p1.map cO)),(7,.int .i64 p2),(8,.ah 1 (p3.map cO)),(9,.int .i64 p4),(10,.ah 2 (bw.map dG))] (λP a_=>?_) ?_)
       ·(try simp only[aQ.down,simprocAttr,lB,cn lB]);refine dv (agz a0 bu _ xb) rfl rfl (by simp only[aQ.down,simprocAttr,lB,cn lB,hA,hB,hC,dZ, @cN _ aG aG (λ_=>hn _), @cN _ dO dO (λ_=>Fp _), @cN _ aG aG (λ_=>hn _)]<;>rfl) rfl (inr (jY (λ_=>KB _) _)) ?_;simp only[aQ.down,simprocAttr,lB,cn lB];exact cb (ad lB (cn lB))
       refine aB ?_;refine bA agM λLl _ Cn q4 _=>?_;show bh ao (.loop ?c53) _ _;have agN:∀n mD lY kv mE mF kW,wy (mG a0 J m24) (p5 (mG a0 J m24) a0 J Lr) a0 J n mD lY kv mE mF kW=some r->cU ao ?c53 Ll (aj [(1,.slice (J.map b3)),(2,.aV (ej a0)),(6,.ah 1 (mD.map cO)),(7,.int .i64 lY),(8,.ah 1 (kv.map cO)),(9,.int .i64 mE),(10,.ah 2 (mF.map ni)),(11,.int .i64 kW)]):=by
        refine dc λagO agP mD lY kv mE mF kW h=>db Cn λagQ n38 w9 Ln=>aK w9 λ_ n39 _ Lo=>aB ?_;refine aU h (λxc h=>?_) λxc h=>?_
        .refine aZ (n39 _ (inl ?_));show bh ao (.seq _ ?KK) _ _;have Lu:∀yC yD yE yF yG yH,BC (mG a0 J m24) (p5 (mG a0 J m24) a0 J Lr) (wy (mG a0 J m24) (p5 (mG a0 J m24) a0 J Lr) a0 J agO) a0 J yC yD yE yF yG yH=some r->bh ao ?KK agQ (aj [(1,.slice (J.map b3)),(2,.aV (ej a0)),(6,.ah 1 (yC.map cO)),(7,.int .i64 yD),(8,.ah 1 (yE.map cO)),(9,.int .i64 yF),(10,.ah 2 (yG.map ni)),(11,.int .i64 yH)]):=by
          intro yC yD yE yF yG yH h;refine eE ?_;exact n38 _ (inr ⟨_,b9 rfl,agP yC yD yE yF yG (i64.wrap (yH+1)) h⟩)
         refine aK w9 λ_ n42 Lp _=>bA Lp λ_ n44 Ta FI _=>aK Ta λ_ n45 _ Tb=>?_;obtain⟨bF,ib,h⟩:=aE h;obtain⟨agR,uS,h⟩:=aE h;obtain⟨b8,q3,h⟩:=aE h;rcases fH h with⟨mb,h⟩|⟨mb,h⟩
         .refine sN rfl (qE [(1,.slice (J.map b3)),(2,.aV (ej a0)),(6,.ah 1 (mD.map cO)),(7,.int .i64 lY),(8,.ah 1 (kv.map cO)),(9,.int .i64 mE),(10,.ah 2 (mF.map ni)),(11,.int .i64 kW),(73,.bool true)] (λP a_=>?_) ?_)
          .simp only[gB.down,simprocAttr,ib,cn ib,w6.down,(sa uS),q3,mb];refine⟨pV (by kernel_rfl),?_⟩;exact cb (ad ib (ad (cn ib) (ad w6.down (ad (sa uS) (ad q3 mb)))))
          refine ka rfl ?_;exact cZ (Tb 5 _ (FI _ (n42 _ (inr ⟨_,b9 rfl,Lu mD lY kv mE mF kW h⟩))))
         .obtain⟨cA,agS,h⟩:=aE h;refine sN rfl (qE [(1,.slice (J.map b3)),(2,.aV (ej a0)),(6,.ah 1 (mD.map cO)),(7,.int .i64 lY),(8,.ah 1 (kv.map cO)),(9,.int .i64 mE),(10,.ah 2 (mF.map ni)),(11,.int .i64 kW),(73,.bool (decide (0<=cA)))] (λP a_=>?_) ?_)
          ·(try simp only[gB.down,simprocAttr,ib,cn ib,w6.down,(sa uS),q3,mb]);refine AR (agE kv bF.2.Next _ agS) rfl rfl (by simp only[gB.down,simprocAttr,ib,cn ib,B3,KC,(sa uS),q3,mb,hA,hB,hC,dZ, @cN _ cO cB (λ_=>zh _), @cN _ aG aG (λ_=>hn _)]<;>rfl) rfl (inr (by rfl)) ?_;simp only[gB.down,simprocAttr,ib,cn ib,w6.down,(sa uS),q3,mb];refine⟨pV (by kernel_rfl),?_⟩;exact cb (ad ib (ad (cn ib) (ad w6.down (ad (sa uS) (ad q3 mb)))))
          refine aU h (λagT h=>?_) λagT h=>?_
          .exact cZ (Tb 5 _ (FI _ (n42 _ (inr ⟨_,b9 rfl,Lu mD lY kv mE mF kW h⟩))))
          .refine aZ (n45 _ (inl (aK Ta λ_ agU agV _=>aB ?_)));refine aU h (λagW h=>?_) λagW h=>?_
           .refine aB ?_;exact hT (agV _ (inr ⟨[(4,.ah 1 []),(5,.int .i64 5)],hf [] rfl (gZ (t:=4) (d:=.bd) rfl rfl (.gN _) (by decide) (dU rfl (hh))),lS [.ah 1 [],.int .i64 5]⟩))
           .refine aZ (agU _ (inl ?_));obtain⟨agR,Co,h⟩:=aE h;(try simp only[B9.down,Nat.zero_add,Nat.add_zero,reduceAdd]at Co);refine iv (cr [(1,.slice (J.map b3)),(2,.aV (ej a0)),(6,.ah 1 (mD.map cO)),(7,.int .i64 lY),(8,.ah 1 ((kv++[bF.2.Next]).map cO)),(9,.int .i64 mE),(10,.ah 2 ((List.set mF (Int.toNat kW) (true,bF.2)).map ni)),(11,.int .i64 kW)] (λP a_=>?_) ?_)
            .simp only[aQ.down,simprocAttr,ib,cn ib,Sz.down,(sa uS),mx,d_,Co];(try simp only[iy.down,simprocAttr,ib,cn ib,Sz.down,(sa uS),mx,d_,Co]at a_⊢);exact a_
            exact n44 _ (n42 _ (inr ⟨_,b9 rfl,Lu mD lY (kv++[bF.2.Next]) mE (List.set mF (Int.toNat kW) (true,bF.2)) kW h⟩))
        .refine cZ (Lo 4 _ (Ln 4 _ (q4 _ (n32 _ (n31 _ (inl (eE ?_)))))));exact n27 _ (inr ⟨_,b9 rfl,agJ mD lY kv (i64.wrap (mE+1)) h⟩)
       obtain⟨n,h⟩:=oR h;exact rQ (inr ⟨_,hf [] rfl (dU (t:=1) (d:=.slice (J.map b3)) rfl (dU (t:=2) (d:=.aV (ej a0)) rfl (dU (t:=6) (d:=.ah 1 (p1.map cO)) rfl (dU (t:=7) (d:=.int .i64 p2) rfl (dU (t:=8) (d:=.ah 1 (p3.map cO)) rfl (dU (t:=9) (d:=.int .i64 p4) rfl (gZ (t:=10) (d:=.ah 2 (bw.map dG)) (bf:=.ah 2 ((List.map (λx=>(false,x)) bw).map ni)) rfl rfl (QH B3 _) (by decide) (dU (t:=11) (d:=.int .i64 0) rfl (hh))))))))),agN n p1 p2 p3 p4 (List.map (λx=>(false,x)) bw) 0 h⟩)
      .refine cZ (agL 2 _ (agK 2 _ (ti _ (n24 _ (inl (eE ?_))))));refine n22 _ (n21 _ (inl (eE ?_)));exact n17 _ (inr ⟨_,b9 rfl,Cd p3 (i64.wrap (p2+1)) h⟩)
     exact dH h λn h=>agI n nc p7 [] 0 h
    .refine cZ (nb 0 _ (iw 0 _ (iN _ (n14 _ (inl (aK az λ_ n62 Lv _=>aB ?_))))));refine aU h (λLw h=>?_) λLw h=>?_
     .refine aB ?_;exact hT (Lv _ (inr ⟨[(4,.ah 1 []),(5,.int .i64 3)],hf [] rfl (gZ (t:=4) (d:=.bd) rfl rfl (.gN _) (by decide) (dU rfl (hh))),lS [.ah 1 [],.int .i64 3]⟩))
     .refine aZ (n62 _ (inl (dd (show∀s,ei ao s 29 0 []=some (.ah 1 [],s)from λs=>by kernel_rfl) _ ?_)));refine aK az λ_ agX agY _=>aB ?_;refine bA agY λagZ _ ag0 ag1 _=>?_;show bh ao (.loop ?KM) _ _;have ag2:∀n s6 p6 s7,qM n s6 p6 s7=some r->cU ao ?KM agZ (aj [(6,.slice (s6.map cB)),(12,.ah 1 (p6.map cB)),(13,.int .i64 s7)]):=by
       refine dc λLx Tc s6 p6 s7 h=>db ag0 λ_ Td Te ag3=>aK Te λ_ ag4 _ ag5=>aB ?_;refine aU h (λag6 h=>?_) λag6 h=>?_
       .refine aZ (ag4 _ (inl (aK Te λ_ FM Ly _=>bA Ly λ_ Tf Lz _ _=>aB ?_)));refine aK Lz λ_ Tg ag7 _=>bA ag7 λag8 _ ag9 FN _=>?_;show bh ao (.loop ?KJ) _ _;have ag_:∀n lr hR lu kX,wz (qM Lx) n lr hR lu kX=some r->cU ao ?KJ ag8 (aj [(6,.slice (lr.map cB)),(12,.ah 1 (hR.map cB)),(13,.int .i64 lu),(14,.int .i64 kX)]):=by
         refine dc λ_ aha lr hR lu kX h=>db ag9 λ_ ahb Th Ti=>aK Th λ_ ahc _ Tj=>?_;rcases fH h with⟨LA,h⟩|⟨LA,h⟩
         .obtain⟨df,ahd,h⟩:=aE h;obtain⟨eQ,Tk,h⟩:=aE h;obtain⟨kx,ahe,h⟩:=aE h;refine w5 (ad LA (ad ahd (ad Tk (cn Tk)))) (agF df eQ _ ahe) _ ?_;refine aU h (λahf h=>?_) λahf h=>?_
          .refine aZ (ahc _ (inl (bA Th λ_ LB _ _ _=>eE ?_)));exact LB _ (ahb _ (inr ⟨_,b9 rfl,aha lr hR lu (i64.wrap (kX-1)) h⟩))
          .refine cZ (Tj 8 _ (Ti 8 _ (FN _ (Tg _ (inl ?_)))));obtain⟨anv,LC,h⟩:=aE h;(try simp only[h_.down,Nat.zero_add,Nat.add_zero,reduceAdd]at LC);refine DM (cr (K:=di _) [(6,.slice (lr.map cB)),(12,.ah 1 (List.map cB hR++[.bd])),(13,.int .i64 lu),(14,.int .i64 kX)] (λP a_=>?_) (DN [(6,.slice (lr.map cB)),(12,.ah 1 ((hR++[[]]).map cB)),(13,.int .i64 lu),(14,.int .i64 kX)] (hf [] rfl (dU rfl (gZ (t:=12) (d:=.ah 1 (List.map cB hR++[.bd])) (bf:=.ah 1 ((hR++[[]]).map cB)) rfl rfl (.ah (Ie (e:=cB) (ys:=[[]]) (.cons (.tQ) (.nil)) _)) (by decide) (dU rfl (dU rfl (hh)))))) ?_))
           .simp only[aQ.down,simprocAttr,FE.down,LC];exact cb (ad FE.down LC)
           refine aK Lz λ_ ahg ahh _=>ws [(6,.slice (lr.map cB)),(12,.ah 1 ((hR++[[]]).map cB)),(13,.int .i64 lu),(14,.int .i64 kX),(15,.int .i64 (i64.wrap (((hR++[[]]).length:Int)-1)))] ?_;refine bA ahh λahi _ ahj ahk _=>?_;show bh ao (.loop ?B5) _ _;have LD:∀n jk iG jl iY iH,s5 (qM Lx) n jk iG jl iY iH=some r->cU ao ?B5 ahi (aj [(6,.slice (jk.map cB)),(12,.ah 1 (iG.map cB)),(13,.int .i64 jl),(14,.int .i64 iY),(15,.int .i64 iH)]):=by
            refine dc λahl LF jk iG jl iY iH h=>db ahj λ_ ahm Tl ahn=>aK Tl λ_ aho _ ahp=>aB ?_;refine aU h (λahq h=>?_) λahq h=>?_
            .refine aZ (aho _ (inl (aK Tl λ_ ahr ahs _=>bA ahs λ_ n99 _ _ _=>?_)));obtain⟨tb,FO,h⟩:=aE h;obtain⟨wV,FP,h⟩:=aE h;refine iv (cr [(6,.slice (jk.map cB)),(12,.ah 1 ((List.set iG (Int.toNat iH) tb).map cB)),(13,.int .i64 jl),(14,.int .i64 iY),(15,.int .i64 iH)] (λP a_=>?_) ?_)
             .simp only[aQ.down,simprocAttr,FO,cn FO,FP,cn FP,ey,dj];exact cb (ad FO (ad (cn FO) (ad FP (ad (cn FP) @ey))))
             refine n99 _ (ahr _ (inl (wr [(6,.slice (jk.map cB)),(12,.ah 1 ((List.set iG (Int.toNat iH) tb).map cB)),(13,.int .i64 jl),(14,.int .i64 iY),(15,.int .i64 (i64.wrap (iH-1)))] ?_)));exact ahm _ (inr ⟨_,b9 rfl,LF jk (List.set iG (Int.toNat iH) tb) jl iY (i64.wrap (iH-1)) h⟩)
            .refine cZ (ahp 10 _ (ahn 10 _ (ahk _ (ahg _ (inl ?_)))));obtain⟨n0,Tm,h⟩:=aE h;obtain⟨uI,FQ,h⟩:=aE h;refine iv (cr [(6,.slice (jk.map cB)),(12,.ah 1 ((List.set iG (Int.toNat iY) n0).map cB)),(13,.int .i64 jl)] (λP a_=>?_) ?_)
             .simp only[aQ.down,simprocAttr,Tm,FQ,cn FQ,ey,dj];exact cb (ad Tm (ad FQ (ad (cn FQ) @ey)))
             refine Tf _ (FM _ (inl (wr [(6,.slice (jk.map cB)),(12,.ah 1 ((List.set iG (Int.toNat iY) n0).map cB)),(13,.int .i64 (i64.wrap (jl+1)))] ?_)));exact Td _ (inr ⟨_,b9 rfl,Tc jk (List.set iG (Int.toNat iY) n0) (i64.wrap (jl+1)) h⟩)
           exact dH h λn h=>LD n lr (hR++[[]]) lu kX (i64.wrap (((hR++[[]]).length:Int)-1)) h
         .refine sd LA _ ?_;refine sO rfl ?_;refine cZ (Tj 8 _ (Ti 8 _ (FN _ (Tg _ (inl ?_)))));obtain⟨anw,LG,h⟩:=aE h;(try simp only[h_.down,Nat.zero_add,Nat.add_zero,reduceAdd]at LG);refine DM (cr (K:=di _) [(6,.slice (lr.map cB)),(12,.ah 1 (List.map cB hR++[.bd])),(13,.int .i64 lu),(14,.int .i64 kX)] (λP a_=>?_) (DN [(6,.slice (lr.map cB)),(12,.ah 1 ((hR++[[]]).map cB)),(13,.int .i64 lu),(14,.int .i64 kX)] (hf [] rfl (dU rfl (gZ (t:=12) (d:=.ah 1 (List.map cB hR++[.bd])) (bf:=.ah 1 ((hR++[[]]).map cB)) rfl rfl (.ah (Ie (e:=cB) (ys:=[[]]) (.cons (.tQ) (.nil)) _)) (by decide) (dU rfl (dU rfl (hh)))))) ?_))
          .simp only[aQ.down,simprocAttr,FE.down,LG];exact cb (ad FE.down LG)
          refine aK Lz λ_ n110 aht _=>ws [(6,.slice (lr.map cB)),(12,.ah 1 ((hR++[[]]).map cB)),(13,.int .i64 lu),(14,.int .i64 kX),(15,.int .i64 (i64.wrap (((hR++[[]]).length:Int)-1)))] ?_;refine bA aht λahu _ ahv ahw _=>?_;show bh ao (.loop ?B5) _ _;have LD:∀n jk iG jl iY iH,s5 (qM Lx) n jk iG jl iY iH=some r->cU ao ?B5 ahu (aj [(6,.slice (jk.map cB)),(12,.ah 1 (iG.map cB)),(13,.int .i64 jl),(14,.int .i64 iY),(15,.int .i64 iH)]):=by
           refine dc λahl LF jk iG jl iY iH h=>db ahv λ_ n113 Tn ahx=>aK Tn λ_ n114 _ ahy=>aB ?_;refine aU h (λahz h=>?_) λahz h=>?_
           .refine aZ (n114 _ (inl (aK Tn λ_ n117 ahA _=>bA ahA λ_ n118 _ _ _=>?_)));obtain⟨pj,FR,h⟩:=aE h;obtain⟨iw,FT,h⟩:=aE h;refine iv (cr [(6,.slice (jk.map cB)),(12,.ah 1 ((List.set iG (Int.toNat iH) pj).map cB)),(13,.int .i64 jl),(14,.int .i64 iY),(15,.int .i64 iH)] (λP a_=>?_) ?_)
            .simp only[aQ.down,simprocAttr,FR,cn FR,FT,cn FT,ey,dj];exact cb (ad FR (ad (cn FR) (ad FT (ad (cn FT) @ey))))
            refine n118 _ (n117 _ (inl (wr [(6,.slice (jk.map cB)),(12,.ah 1 ((List.set iG (Int.toNat iH) pj).map cB)),(13,.int .i64 jl),(14,.int .i64 iY),(15,.int .i64 (i64.wrap (iH-1)))] ?_)));exact n113 _ (inr ⟨_,b9 rfl,LF jk (List.set iG (Int.toNat iH) pj) jl iY (i64.wrap (iH-1)) h⟩)
           .refine cZ (ahy 10 _ (ahx 10 _ (ahw _ (n110 _ (inl ?_)))));obtain⟨nb,To,h⟩:=aE h;obtain⟨pk,FU,h⟩:=aE h;refine iv (cr [(6,.slice (jk.map cB)),(12,.ah 1 ((List.set iG (Int.toNat iY) nb).map cB)),(13,.int .i64 jl)] (λP a_=>?_) ?_)
            .simp only[aQ.down,simprocAttr,To,FU,cn FU,ey,dj];exact cb (ad To (ad FU (ad (cn FU) @ey)))
            refine Tf _ (FM _ (inl (wr [(6,.slice (jk.map cB)),(12,.ah 1 ((List.set iG (Int.toNat iY) nb).map cB)),(13,.int .i64 (i64.wrap (jl+1)))] ?_)));exact Td _ (inr ⟨_,b9 rfl,Tc jk (List.set iG (Int.toNat iY) nb) (i64.wrap (jl+1)) h⟩)
          exact dH h λn h=>LD n lr (hR++[[]]) lu kX (i64.wrap (((hR++[[]]).length:Int)-1)) h
        exact dH h λn h=>ag_ n s6 p6 s7 (p6.length:Int) h
       .exact cZ (ag5 6 _ (ag3 6 _ (ag1 _ (agX _ (inl (bk az [.ah 1 (p6.map cB),.int .i64 0]))))))
      obtain⟨n,h⟩:=oR h;exact rQ (inr ⟨_,hf [] rfl (gZ (t:=6) (d:=.ah 1 (nc.map cO)) (bf:=.slice (nc.map cB)) rfl rfl (ZC rfl rfl (congrArg I.slice (cN (λ_=>zh _) _))) (by decide) (dU (t:=12) (d:=.ah 1 []) rfl (dU (t:=13) (d:=.int .i64 0) rfl (hh)))),ag2 n nc [] 0 h⟩)
   exact dH h λn h=>Cc n [aS] 0 h
theorem px (a0 J a2 r) (h:oF a0 J a2=some r):aY ao 48 [.int .i64 a0,.int .i64 J,.int .i64 a2] (.bool r) []:=by
 refine b1 [0,1,2] [.tmp 6] Tryz.func48 adw λbO az bQ=>aB ?_;refine q1 (decide (J<=a0)) [(6,.bool ((decide (J<=a0))&&(decide (a0<=a2))))] ?_;exact cE az [.bool ((decide (J<=a0))&&(decide (a0<=a2)))]
theorem Tp (a0 r) (h:BE a0=some r):aY ao 109 [.int .i64 a0] (.bool r) []:=by
 refine b1 [0] [.tmp 2] Tryz.func109 c109 λbO az bQ=>aB ?_;obtain⟨af,aP,h⟩:=aE h;refine dp (px a0 0 63 _ aP) _ ?_;exact cE az [.bool af]
theorem ahB (a0 r) (h:BF a0=some r):aY ao 108 [.int .i64 a0] (.bool r) []:=by
 refine b1 [0] [.tmp 2] Tryz.func108 KJ λbO az bQ=>aB ?_;obtain⟨af,aP,h⟩:=aE h;refine dp (Tp a0 _ aP) _ ?_;exact cE az [.bool (!af)]
theorem ahC (a0 r) (h:BH a0=some r):aY ao 141 [.slice (a0.map aG),.fn 108 []] (.int .i64 r) []:=by
 refine b1 [0,1] [.tmp 4] Tryz.func141 c141 λbO az bQ=>aB ?_;refine aK az λ_ bY bl aw=>aB ?_;refine bA bl λgf _ b0 cw _=>?_;show bh ao (.loop ?eM) _ _;have gg:∀n e1,uv a0 n e1=some r->cU ao ?eM gf (aj [(0,.slice (a0.map aG)),(1,.fn 108 []),(7,.int .i64 (a0.length:Int)),(8,.int .i64 e1)]):=by
  refine dc λ_ fU e1 h=>db b0 λ_ e3 cL bw=>aB ?_;refine aK cL λ_ n7 _ b8=>aU h (λcS h=>?_) λcS h=>?_
  .refine aZ (n7 _ (inl (aK cL λ_ dP cQ _=>bA cQ λ_ n10 dx _ _=>aB ?_)));obtain⟨af,dE,h⟩:=aE h;obtain⟨aw,ft,h⟩:=aE h;refine eS dE (ahB af _ ft) _ ?_;refine aU h (λjM h=>?_) λjM h=>?_
   .exact bk dx [.int .i64 e1]
   .refine aZ (n10 _ (dP _ (inl (eE ?_))));exact e3 _ (inr ⟨_,b9 rfl,fU (i64.wrap (e1+1)) h⟩)
  .exact cZ (b8 0 _ (bw 0 _ (cw _ (bY _ (inl (bk az [.int .i64 (-1)]))))))
 exact dH h λn h=>gg n 0 h
theorem ahD (a0 r) (h:BI a0=some r):aY ao 107 [.slice (a0.map aG),.fn 108 []] (.bool r) []:=by
 refine b1 [0,1] [.tmp 4] Tryz.func107 c107 λbO az bQ=>aB ?_;obtain⟨af,aP,h⟩:=aE h;refine dp (ahC a0 _ aP) _ ?_;exact cE az [.bool (decide (0<=af))]
theorem Tq (a0 r) (h:uw a0=some r):aY ao 76 [.slice (a0.map aG)] (.bool r) []:=by
 refine b1 [0] [.tmp 2] Tryz.func76 c76 λbO az bQ=>aB ?_;obtain⟨af,aP,h⟩:=aE h;refine dp (ahD a0 _ aP) _ ?_;exact cE az [.bool (!af)]
theorem Tr (a0 J r) (h:EE a0 J=some r):aY ao 49 [ej a0,.slice (J.map aG)] (.bool r) []:=by
 refine b1 [0,1] [.tmp 4] Tryz.func49 c49 λbO az bQ=>aB ?_;rcases fH h with⟨iT,h⟩|⟨iT,h⟩
 .obtain⟨af,bK,h⟩:=aE h;refine eS iT (Tq J _ bK) _ ?_;exact cE az [.bool af]
 .refine dd iT _ ?_;exact cE az [.bool false]
theorem Ts (a0 r) (h:EF a0=some r):aY ao 78 [dO a0] (.bool r) []:=by
 refine b1 [0] [.tmp 2] Tryz.func78 adx λbO az bQ=>aB ?_;refine aB ?_;refine aK az λ_ fS cz _=>aB ?_;refine bA cz λoa _ cL dt _=>?_;show bh ao (.loop ?h4) _ _;have iL:∀n cm r2,yI a0 n cm r2=some r->cU ao ?h4 oa (aj [(1,.aV (dO a0)),(3,.int .i64 cm),(7,.slice (a0.a7.map aG)),(8,.int .i64 (a0.a7.length:Int)),(9,.int .i64 r2)]):=by
  refine dc λ_ iM cm r2 h=>db cL λ_ n6 dT bF=>aB ?_;refine aK dT λ_ n8 _ cA=>aU h (λfc h=>?_) λfc h=>?_
  .refine aZ (n8 _ (inl (aK dT λ_ n10 dx _=>bA dx λ_ n11 gH _ _=>?_)));obtain⟨af,dE,h⟩:=aE h;refine dd dE _ ?_;refine aK gH λ_ n14 fe _=>?_;obtain⟨aw,ez,h⟩:=aE h;refine dp (px af 1 7 _ ez) _ ?_;refine aU h (λmK h=>?_) λmK h=>?_
   .exact bk fe [.bool false]
   .refine aZ (n14 _ (inl (eE ?_)));refine n11 _ (n10 _ (inl (eE ?_)));exact n6 _ (inr ⟨_,b9 rfl,iM (i64.wrap (cm*(i64.wrap (af+1)))) (i64.wrap (r2+1)) h⟩)
  .refine cZ (cA 0 _ (bF 0 _ (dt _ (fS _ (inl (q1 (decide ((a0.a7.length:Int)<=8)) [(2,.bool ((decide ((a0.a7.length:Int)<=8))&&(decide (cm<=4096))))] ?_))))));exact cE az [.bool ((decide ((a0.a7.length:Int)<=8))&&(decide (cm<=4096)))]
 exact dH h λn h=>iL n 1 0 h
theorem ahE (a0 r) (h:JF a0=some r):aY ao 142 [.int .u8 (a0.toNat:Int)] (.bool r) []:=by
 refine b1 [0] [.tmp 2] Tryz.func142 ady λbO az bQ=>aB ?_;refine q1 (decide (48<=(a0.toNat:Int))) [(2,.bool ((decide (48<=(a0.toNat:Int)))&&(decide ((a0.toNat:Int)<=57))))] ?_;exact cE az [.bool ((decide (48<=(a0.toNat:Int)))&&(decide ((a0.toNat:Int)<=57)))]
theorem Tt (a0 r) (h:EH a0=some r):aY ao 110 [.str a0] (.bool r) []:=by
 refine b1 [0] [.tmp 2] Tryz.func110 adz λbO az bQ=>aB ?_;refine aK az λ_ bY bl aw=>aB ?_;refine bA bl λgf _ b0 cw _=>?_;show bh ao (.loop ?eM) _ _;have gg:∀n nT,ux a0 n nT=some r->cU ao ?eM gf (aj [(0,.str a0),(6,.int .i64 (a0.length:Int)),(7,.int .i64 nT)]):=by
  refine dc λ_ fU nT h=>db b0 λ_ e3 cL bw=>aB ?_;refine aK cL λ_ n7 _ b8=>aU h (λcS h=>?_) λcS h=>?_
  .refine aZ (n7 _ (inl (aK cL λ_ dP cQ _=>bA cQ λ_ n10 dx _ _=>aB ?_)));obtain⟨af,dE,h⟩:=aE h;refine afF (decide (97<=(af.toNat:Int))) dE [(0,.str a0),(3,.int .i64 nT),(4,.bool ((decide (97<=(af.toNat:Int)))&&(decide ((af.toNat:Int)<=122)))),(6,.int .i64 (a0.length:Int)),(7,.int .i64 nT)] ?_;rcases fH h with⟨jM,h⟩|⟨jM,h⟩
   .rcases fH h with⟨iN,h⟩|⟨iN,h⟩
    .refine dd (ad jM iN) _ ?_;refine ka rfl ?_;exact bk dx [.bool false]
    .obtain⟨aw,gp,h⟩:=aE h;refine eS (ad jM (ad iN dE)) (ahE af _ gp) _ ?_;refine aU h (λky h=>?_) λky h=>?_
     .exact bk dx [.bool false]
     .refine aZ (n10 _ (dP _ (inl (eE ?_))));exact e3 _ (inr ⟨_,b9 rfl,fU (i64.wrap (nT+1)) h⟩)
   .refine dd jM _ ?_;refine sO rfl ?_;refine aZ (n10 _ (dP _ (inl (eE ?_))));exact e3 _ (inr ⟨_,b9 rfl,fU (i64.wrap (nT+1)) h⟩)
  .refine cZ (b8 0 _ (bw 0 _ (cw _ (bY _ (inl (q1 (decide (1<=(a0.length:Int))) [(2,.bool ((decide (1<=(a0.length:Int)))&&(decide ((a0.length:Int)<=10))))] ?_))))));exact cE az [.bool ((decide (1<=(a0.length:Int)))&&(decide ((a0.length:Int)<=10)))]
 exact dH h λn h=>gg n 0 h
theorem Cp (a0 r) (h:uy a0=some r):aY ao 79 [.str a0] (.bool r) []:=by
 refine b1 [0] [.tmp 2] Tryz.func79 adA λbO az bQ=>aB ?_;obtain⟨af,aP,h⟩:=aE h;refine dn (cr [(2,.bool (af&&(!(a0==([116,97,117]:anR)))))] (λP a_=>?_) ?_)
 .rcases Bool.eq_false_or_eq_true (af)with mQ|mQ
  ·(try simp only[aQ.down,simprocAttr,mQ]);refine dv (Tt a0 _ aP) (hK:= ?_);simp only[aQ.down,simprocAttr,mQ];exact cb mQ
  ·(try simp only[aQ.down,simprocAttr,mQ]);refine dv (Tt a0 _ aP) (hK:= ?_);simp only[aQ.down,simprocAttr,mQ];exact cb mQ
 exact cE az [.bool (af&&(!(a0==([116,97,117]:anR))))]
theorem ahF (J r) (h:EJ J=some r):aY ao 143 [.bd,.int .i64 J] (.ah 1 []) []:=by
 refine b1 [] [.tmp 4] Tryz.func143 c143 λbO az bQ=>aB ?_;have LH:JG J=some r->bh ao RW bO (aj [(0,.bd),(1,.int .i64 J),(6,.bool (decide (J<0)))]):=by
  intro h;have Cq:EI=some r->bh ao RV bO (aj [(0,.ah 1 [])]):=by
   intro h;exact bk az [.ah 1 []]
  refine aK az λ_ fS _ _=>dd (ad @DV λs x h=> @DU ao s 72 71 x rfl h) _ ?_;refine aB ?_;refine aU h (λsD h=>?_) λsD h=>?_
  .obtain⟨ahG,gi,h⟩:=aE h;refine iv (cr [(0,.ah 1 [])] (λP a_=>?_) ?_)
   .simp only[aQ.down,simprocAttr,SA.down,oS gi,iV,-Int.reduceNatCast',pU];(try simp only[iy.down,simprocAttr,SA.down,oS gi,iV,-Int.reduceNatCast',pU]at a_⊢);exact a_
   exact fS _ (inr ⟨_,b9 rfl,Cq h⟩)
  .exact aZ (fS _ (inr ⟨_,hf [] rfl (gZ (t:=0) (d:=.bd) (bf:=.ah 1 []) rfl rfl (.gN _) (by decide) (hh)),Cq h⟩))
 refine aK az λ_ bY _ _=>aB ?_;refine aU h (λma h=>?_) λma h=>?_
 .cases h
 .exact aZ (bY _ (inr ⟨_,b9 rfl,LH h⟩))
theorem ahH (a0 r) (h:EK a0=some r):aY ao 112 [.slice (a0.map nh)] (.ah 1 (r.map cf)) []:=by
 refine b1 [0] [.tmp 2] Tryz.func112 adB λbO az bQ=>aB ?_;refine aB ?_;refine aK az λ_ fS cz aS=>aB ?_;refine bA cz λoa _ cL dt _=>?_;show bh ao (.loop ?h4) _ _;have iL:∀n cm hb,wC a0 n cm hb=some r->cU ao ?h4 oa (aj [(0,.slice (a0.map nh)),(3,.int .i64 cm),(9,.slice (a0.map nh)),(10,.int .i64 (a0.length:Int)),(11,.int .i64 hb)]):=by
  refine dc λm8 iM cm hb h=>db cL λly n6 dT bF=>aB ?_;refine aK dT λ_ n8 _ cA=>aU h (λfc h=>?_) λfc h=>?_
  .refine aZ (n8 _ (inl ?_));show bh ao (.seq _ ?wZ) _ _;have zn:∀pn po s8,JH (wC a0 m8) a0 pn po s8=some r->bh ao ?wZ ly (aj [(0,.slice (a0.map nh)),(3,.int .i64 pn),(9,.slice (a0.map nh)),(10,.int .i64 (a0.length:Int)),(11,.int .i64 po),(20,.bool s8)]):=by
    intro pn po s8 h;refine eE ?_;exact n6 _ (inr ⟨_,b9 rfl,iM pn (i64.wrap (po+1)) h⟩)
   refine aK dT λ_ n10 dx _=>bA dx λ_ n12 _ _ _=>?_;obtain⟨af,ft,h⟩:=aE h;refine dd ft _ ?_;refine aB ?_;refine aB ?_;refine aU h (λmK h=>?_) λmK h=>?_
   .cases h
   .exact aZ (n12 _ (n10 _ (inr ⟨_,b9 rfl,zn (i64.wrap (cm+(af.length:Int))) hb (decide ((i64.wrap (cm+(af.length:Int)))<0)) h⟩)))
  .refine cZ (cA 0 _ (bF 0 _ (dt _ (fS _ (inl ?_)))));obtain⟨aw,hV,h⟩:=aE h;refine dp (ahF cm _ hV) _ ?_;refine aK az λ_ n21 lx _=>aB ?_;refine bA lx λLI _ w8 kd _=>?_;show bh ao (.loop ?B6) _ _;have LJ:∀n iI jm,wB a0 n iI jm=some r->cU ao ?B6 LI (aj [(6,.ah 1 (iI.map cf)),(25,.slice (a0.map nh)),(26,.int .i64 (a0.length:Int)),(27,.int .i64 jm)]):=by
    refine dc λ_ LK iI jm h=>db w8 λ_ n24 pv LL=>aB ?_;refine aK pv λ_ n26 _ w_=>aU h (λpw h=>?_) λpw h=>?_
    .refine aZ (n26 _ (inl (aK pv λ_ n28 Ck _=>bA Ck λ_ n29 _ _ _=>?_)));obtain⟨aS,n5,h⟩:=aE h;refine dd n5 _ ?_;obtain⟨ahI,k1,h⟩:=aE h;(try simp only[h_.down,Nat.zero_add,Nat.add_zero,reduceAdd]at k1);refine oK (ad (@kP ao 72 72 71 rfl rfl) (ad @kQ (ad @kR (ad @jF (ad @kO (ad @all_nil (ad k1 (@lP _ cf 1 λ_=>rfl)))))))) [(6,.ah 1 ((iI++aS).map cf)),(25,.slice (a0.map nh)),(26,.int .i64 (a0.length:Int)),(27,.int .i64 jm)] ?_;refine n29 _ (n28 _ (inl (wr [(6,.ah 1 ((iI++aS).map cf)),(25,.slice (a0.map nh)),(26,.int .i64 (a0.length:Int)),(27,.int .i64 (i64.wrap (jm+1)))] ?_)));exact n24 _ (inr ⟨_,b9 rfl,LK (iI++aS) (i64.wrap (jm+1)) h⟩)
    .exact cZ (w_ 2 _ (LL 2 _ (kd _ (n21 _ (inl (bk az [.ah 1 (iI.map cf)]))))))
   exact dH h λn h=>LJ n [] 0 h
 exact dH h λn h=>iL n 0 0 h
theorem LM (a0 r) (h:yJ a0=some r):aY ao 81 [dO a0] (.ah 1 (r.map cf)) []:=by
 refine b1 [0] [.tmp 2] Tryz.func81 adC λbO az bQ=>aB ?_;obtain⟨af,aP,h⟩:=aE h;refine dn (cr [(2,.ah 1 (af.map cf))] (λP a_=>?_) ?_)
 ·(try simp only[aQ.down,simprocAttr,(show∀s,ei ao s 72 1 [(0,.slice (a0.Guard.map bG))]=some (.ah 1 [.slice (a0.Guard.map bG)],s)from λs=>by kernel_rfl),KZ.down,I.shares,(show∀s,ei ao s 168 3 [(0,.slice [.slice (a0.Guard.map bG)]),(1,.slice (a0.bU.map cf)),(2,.slice (a0.Next.map cf))]=some (.ah 1 [.slice [.slice (a0.Guard.map bG)],.slice (a0.bU.map cf),.slice (a0.Next.map cf)],s)from λs=>by kernel_rfl)]);refine dv (ahH [[a0.Guard],a0.bU,a0.Next] _ aP) (hK:= ?_);simp only[aQ.down,simprocAttr,(show∀s,ei ao s 72 1 [(0,.slice (a0.Guard.map bG))]=some (.ah 1 [.slice (a0.Guard.map bG)],s)from λs=>by kernel_rfl),KZ.down,I.shares,(show∀s,ei ao s 168 3 [(0,.slice [.slice (a0.Guard.map bG)]),(1,.slice (a0.bU.map cf)),(2,.slice (a0.Next.map cf))]=some (.ah 1 [.slice [.slice (a0.Guard.map bG)],.slice (a0.bU.map cf),.slice (a0.Next.map cf)],s)from λs=>by kernel_rfl)];exact cb (ad (show∀s,ei ao s 72 1 [(0,.slice (a0.Guard.map bG))]=some (.ah 1 [.slice (a0.Guard.map bG)],s)from λs=>by kernel_rfl) (ad KZ.down (show∀s,ei ao s 168 3 [(0,.slice [.slice (a0.Guard.map bG)]),(1,.slice (a0.bU.map cf)),(2,.slice (a0.Next.map cf))]=some (.ah 1 [.slice [.slice (a0.Guard.map bG)],.slice (a0.bU.map cf),.slice (a0.Next.map cf)],s)from λs=>by kernel_rfl)))
 exact cE az [.ah 1 (af.map cf)]
theorem ahJ (a0 J r) (h:EL a0 J=some r):aY ao 113 [bG a0,.int .i64 J] (.bool r) []:=by
 refine b1 [0,1] [.tmp 4] Tryz.func113 adD λbO az bQ=>aB ?_;refine aK az λ_ bY bl aw=>aB ?_;refine bA bl λ_ fG b0 _ _=>aB ?_;refine aU h (λeD h=>?_) λeD h=>?_
 .obtain⟨af,hr,h⟩:=aE h;refine dp (Tp a0.Value _ hr) _ ?_;exact cE b0 [.bool af]
 .refine aB ?_;refine aU h (λgx h=>?_) λgx h=>?_
  .obtain⟨aw,dD,h⟩:=aE h;refine dp (px a0.Value 0 (i64.wrap (J-1)) _ dD) _ ?_;exact cE b0 [.bool aw]
  .refine aB ?_;refine aU h (λia h=>?_) λia h=>?_
   .obtain⟨aS,ez,h⟩:=aE h;refine dp (px a0.Value 0 8 _ ez) _ ?_;exact cE b0 [.bool aS]
   .refine aB ?_;refine aU h (λkz h=>?_) λkz h=>?_
    .exact bk b0 [.bool (a0.Value==0)]
    .exact aZ (fG _ (bY _ (inl (bk az [.bool false]))))
theorem Tu (a0 r) (h:EM a0=some r):aY ao 114 [bG a0] (.int .i64 r) []:=by
 refine b1 [0] [.tmp 2] Tryz.func114 adE λbO az bQ=>aB ?_;refine aK az λ_ bY bl _=>aB ?_;refine bA bl λ_ fG b0 _ _=>aB ?_;refine aU h (λeD h=>?_) λeD h=>?_
 .exact bk b0 [.int .i64 2]
 .refine aB ?_;refine aU h (λfc h=>?_) λfc h=>?_
  .exact bk b0 [.int .i64 1]
  .exact aZ (fG _ (bY _ (inl (bk az [.int .i64 0]))))
theorem ahK (a0 J a2 r) (h:EN a0 J a2=some r):aY ao 83 [.slice (a0.map bG),.int .i64 J,.int .i64 a2] (.bool r) []:=by
 refine b1 [0,1,2] [.tmp 6] Tryz.func83 adF λbO az bQ=>aB ?_;refine aK az λ_ bY bl aw=>?_;obtain⟨af,bK,h⟩:=aE h;rcases fH h with⟨dt,h⟩|⟨dt,h⟩
 .refine eS (nK dt) (px J 0 29 _ bK) _ ?_;refine ka rfl ?_;exact bk bl [.bool false]
 .obtain⟨aw,bL,h⟩:=aE h;rcases fH h with⟨cS,h⟩|⟨cS,h⟩
  .refine dn (cr [(0,.slice (a0.map bG)),(1,.int .i64 J),(24,.bool true)] (λP a_=>?_) ?_)
   ·(try simp only[aQ.down,simprocAttr,(gu dt),(nK cS)]);refine dv (px J 0 29 _ bK) (hK:= ?_);simp only[aQ.down,simprocAttr,(gu dt),(nK cS)];refine nG (px a2 1 60 _ bL) (hK:= ?_);simp only[aQ.down,simprocAttr,(gu dt),(nK cS)];exact cb (ad (gu dt) (nK cS))
   refine ka rfl ?_;exact bk bl [.bool false]
  .obtain⟨aS,jd,h⟩:=aE h;refine dn (cr [(0,.slice (a0.map bG)),(1,.int .i64 J),(24,.bool (!aS))] (λP a_=>?_) ?_)
   ·(try simp only[aQ.down,simprocAttr,(gu dt),(gu cS)]);refine dv (px J 0 29 _ bK) (hK:= ?_);simp only[aQ.down,simprocAttr,(gu dt),(gu cS)];refine nG (px a2 1 60 _ bL) (hK:= ?_);simp only[aQ.down,simprocAttr,(gu dt),(gu cS)];refine nG (px (a0.length:Int) 1 a2 _ jd) (hK:= ?_);simp only[aQ.down,simprocAttr,(gu dt),(gu cS)];exact cb (ad (gu dt) (gu cS))
   refine aU h (λma h=>?_) λma h=>?_
   .exact bk bl [.bool false]
   .refine aZ (bY _ (inl (aB ?_)));refine aK az λ_ n14 fe _=>aB ?_;refine bA fe λtm _ kY iN _=>?_;show bh ao (.loop ?pt) _ _;have n2:∀n j0 r3,yK a0 J n j0 r3=some r->cU ao ?pt tm (aj [(1,.int .i64 J),(7,.int .i64 j0),(25,.slice (a0.map bG)),(26,.int .i64 (a0.length:Int)),(27,.int .i64 r3)]):=by
     refine dc λ_ n3 j0 r3 h=>db kY λ_ n17 n9 iw=>aB ?_;refine aK n9 λ_ n19 _ pk=>aU h (λn4 h=>?_) λn4 h=>?_
     .refine aZ (n19 _ (inl (aK n9 λ_ n21 lx _=>bA lx λ_ n22 n_ _ _=>?_)));obtain⟨bu,nm,h⟩:=aE h;refine dd nm _ ?_;refine aK n_ λ_ n25 tk _=>?_;rcases fH h with⟨pw,h⟩|⟨pw,h⟩
      .refine dd pw _ ?_;refine ka rfl ?_;exact bk tk [.bool false]
      .obtain⟨bw,Cg,h⟩:=aE h;refine eS pw (ahJ bu J _ Cg) _ ?_;refine aU h (λLs h=>?_) λLs h=>?_
       .exact bk tk [.bool false]
       .refine aZ (n25 _ (inl ?_));obtain⟨bF,k1,h⟩:=aE h;refine Su (Tu bu _ k1) _ ?_;refine n22 _ (n21 _ (inl (eE ?_)));exact n17 _ (inr ⟨_,b9 rfl,n3 (i64.wrap (j0+(i64.wrap (bF-1)))) (i64.wrap (r3+1)) h⟩)
     .exact cZ (pk 0 _ (iw 0 _ (iN _ (n14 _ (inl (bk az [.bool (j0==0)]))))))
    exact dH h λn h=>n2 n 1 0 h
theorem ahL (a0 J a2 r) (h:EO a0 J a2=some r):aY ao 82 [.slice (a0.map bG),.ref (.int .i64 J),.ref (dO a2)] (.bool r) []:=by
 refine b1 [0,1,2] [.tmp 4] Tryz.func82 adG λbO az bQ=>aB ?_;obtain⟨af,aP,h⟩:=aE h;refine dp (ahK a0 (i64.wrap (J+(a2.a7.length:Int))) 60 _ aP) _ ?_;exact cE az [.bool (!af)]
theorem ahM (a0 eN et r) (h:JL a0 eN et=some r):aY ao 111 [.slice (a0.map cf),.fn 82 [.ref (.int .i64 eN),.ref (dO et)]] (.int .i64 r) []:=by
 refine b1 [0,1] [.tmp 4] Tryz.func111 adH λbO az bQ=>aB ?_;refine aK az λ_ bY bl aw=>aB ?_;refine bA bl λgf _ b0 cw _=>?_;show bh ao (.loop ?eM) _ _;have gg:∀n e1,EP a0 eN et n e1=some r->cU ao ?eM gf (aj [(0,.slice (a0.map cf)),(1,.fn 82 [.ref (.int .i64 eN),.ref (dO et)]),(7,.int .i64 (a0.length:Int)),(8,.int .i64 e1)]):=by
  refine dc λ_ fU e1 h=>db b0 λ_ e3 cL bw=>aB ?_;refine aK cL λ_ n7 _ b8=>aU h (λcS h=>?_) λcS h=>?_
  .refine aZ (n7 _ (inl (aK cL λ_ dP cQ _=>bA cQ λ_ n10 dx _ _=>aB ?_)));obtain⟨af,dE,h⟩:=aE h;obtain⟨aw,ft,h⟩:=aE h;refine eS dE (ahL af eN et _ ft) _ ?_;refine aU h (λjM h=>?_) λjM h=>?_
   .exact bk dx [.int .i64 e1]
   .refine aZ (n10 _ (dP _ (inl (eE ?_))));exact e3 _ (inr ⟨_,b9 rfl,fU (i64.wrap (e1+1)) h⟩)
  .exact cZ (b8 0 _ (bw 0 _ (cw _ (bY _ (inl (bk az [.int .i64 (-1)]))))))
 exact dH h λn h=>gg n 0 h
theorem LN (a0 eN et r) (h:wD a0 eN et=some r):aY ao 80 [.slice (a0.map cf),.fn 82 [.ref (.int .i64 eN),.ref (dO et)]] (.bool r) []:=by
 refine b1 [0,1] [.tmp 4] Tryz.func80 c80 λbO az bQ=>aB ?_;obtain⟨af,aP,h⟩:=aE h;refine dp (ahM a0 eN et _ aP) _ ?_;exact cE az [.bool (decide (0<=af))]
theorem ahN (a0 J r) (h:ER a0 J=some r):aY ao 52 [dO a0,.int .i64 J] (.bool r) []:=by
 refine b1 [0,1] [.tmp 4] Tryz.func52 adJ λbO az bQ=>aB ?_;refine aK az λ_ bY bl aw=>?_;obtain⟨af,bK,h⟩:=aE h;refine dn (cr [(2,.aV (dO a0)),(3,.aV (.int .i64 J)),(15,.bool ((!af)||((a0.Next.length:Int) !=J)))] (λP a_=>?_) ?_)
 .rcases Bool.eq_false_or_eq_true (af)with pX|pX
  ·(try simp only[aQ.down,simprocAttr,pX]);refine dv (Ts a0 _ bK) (hK:= ?_);simp only[aQ.down,simprocAttr,pX];exact cb pX
  ·(try simp only[aQ.down,simprocAttr,pX]);refine dv (Ts a0 _ bK) (hK:= ?_);simp only[aQ.down,simprocAttr,pX];exact cb pX
 refine aU h (λeD h=>?_) λeD h=>?_
 .exact bk bl [.bool false]
 .refine aZ (bY _ (inl (aK az λ_ n8 ke cA=>aB ?_)));rcases fH h with⟨ma,h⟩|⟨ma,h⟩
  .rcases fH h with⟨fT,h⟩|⟨fT,h⟩
   .refine dd (ad ma fT) _ ?_;refine ka rfl ?_;exact bk ke [.bool false]
   .rcases fH h with⟨ia,h⟩|⟨ia,h⟩
    .refine dd (ad ma (ad fT ia)) _ ?_;refine ka rfl ?_;exact bk ke [.bool false]
    .obtain⟨aw,ez,h⟩:=aE h;refine eS (ad ma (ad fT ia)) (Cp a0.Name _ ez) _ ?_;refine aU h (λmK h=>?_) λmK h=>?_
     .exact bk ke [.bool false]
     .refine aZ (n8 _ (inl ?_));obtain⟨aS,hV,h⟩:=aE h;obtain⟨bu,hX,h⟩:=aE h;refine dn (cr [(4,.bool (!bu))] (λP a_=>?_) ?_)
      ·(try simp only[aQ.down,simprocAttr]);refine dv (LM a0 _ hV) (hK:= ?_);simp only[aQ.down,simprocAttr];refine dv (LN aS J a0 _ hX) rfl rfl (by simp only[aQ.down,simprocAttr,K0.down]<;>rfl) rfl (inr (by rfl)) ?_;simp only[aQ.down,simprocAttr];exact cb trivial
      exact cE az [.bool (!bu)]
  .rcases fH h with⟨w7,h⟩|⟨w7,h⟩
   .obtain⟨bw,nk,h⟩:=aE h;refine eS (ad ma w7) (Cp a0.Name _ nk) _ ?_;refine aU h (λqc h=>?_) λqc h=>?_
    .exact bk ke [.bool false]
    .refine aZ (n8 _ (inl ?_));obtain⟨bF,zq,h⟩:=aE h;obtain⟨b8,Cm,h⟩:=aE h;refine dn (cr [(4,.bool (!b8))] (λP a_=>?_) ?_)
     ·(try simp only[aQ.down,simprocAttr]);refine dv (LM a0 _ zq) (hK:= ?_);simp only[aQ.down,simprocAttr];refine dv (LN bF J a0 _ Cm) rfl rfl (by simp only[aQ.down,simprocAttr,K0.down]<;>rfl) rfl (inr (by rfl)) ?_;simp only[aQ.down,simprocAttr];exact cb trivial
     exact cE az [.bool (!b8)]
   .refine dd (ad ma w7) _ ?_;refine sO rfl ?_;refine aZ (n8 _ (inl ?_));obtain⟨cA,Cr,h⟩:=aE h;obtain⟨df,n5,h⟩:=aE h;refine dn (cr [(4,.bool (!df))] (λP a_=>?_) ?_)
    ·(try simp only[aQ.down,simprocAttr]);refine dv (LM a0 _ Cr) (hK:= ?_);simp only[aQ.down,simprocAttr];refine dv (LN cA J a0 _ n5) rfl rfl (by simp only[aQ.down,simprocAttr,K0.down]<;>rfl) rfl (inr (by rfl)) ?_;simp only[aQ.down,simprocAttr];exact cb trivial
    exact cE az [.bool (!df)]
theorem ahO (a0 J r) (h:ES a0 J=some r):aY ao 51 [dO a0,.ref (ej J)] (.bool r) []:=by
 refine b1 [0,1] [.tmp 3] Tryz.func51 c51 λbO az bQ=>aB ?_;obtain⟨af,aP,h⟩:=aE h;refine dp (ahN a0 J.eY _ aP) _ ?_;exact cE az [.bool (!af)]
theorem ahP (a0 J r) (h:JM a0 J=some r):aY ao 77 [.slice (a0.map dO),.fn 51 [.ref (ej J)]] (.int .i64 r) []:=by
 refine b1 [0,1] [.tmp 4] Tryz.func77 KK λbO az bQ=>aB ?_;refine aK az λ_ bY bl aw=>aB ?_;refine bA bl λgf _ b0 cw _=>?_;show bh ao (.loop ?eM) _ _;have gg:∀n e1,ET a0 J n e1=some r->cU ao ?eM gf (aj [(0,.slice (a0.map dO)),(1,.fn 51 [.ref (ej J)]),(7,.int .i64 (a0.length:Int)),(8,.int .i64 e1)]):=by
  refine dc λ_ fU e1 h=>db b0 λ_ e3 cL bw=>aB ?_;refine aK cL λ_ n7 _ b8=>aU h (λcS h=>?_) λcS h=>?_
  .refine aZ (n7 _ (inl (aK cL λ_ dP cQ _=>bA cQ λ_ n10 dx _ _=>aB ?_)));obtain⟨af,dE,h⟩:=aE h;obtain⟨aw,ft,h⟩:=aE h;refine eS dE (ahO af J _ ft) _ ?_;refine aU h (λjM h=>?_) λjM h=>?_
   .exact bk dx [.int .i64 e1]
   .refine aZ (n10 _ (dP _ (inl (eE ?_))));exact e3 _ (inr ⟨_,b9 rfl,fU (i64.wrap (e1+1)) h⟩)
  .exact cZ (b8 0 _ (bw 0 _ (cw _ (bY _ (inl (bk az [.int .i64 (-1)]))))))
 exact dH h λn h=>gg n 0 h
theorem ahQ (a0 J r) (h:JN a0 J=some r):aY ao 50 [.slice (a0.map dO),.fn 51 [.ref (ej J)]] (.bool r) []:=by
 refine b1 [0,1] [.tmp 4] Tryz.func50 adK λbO az bQ=>aB ?_;obtain⟨af,aP,h⟩:=aE h;refine dp (ahP a0 J _ aP) _ ?_;exact cE az [.bool (decide (0<=af))]
theorem ahR (a0 r) (h:EU a0=some r):aY ao 27 [ej a0] (.bool r) []:=by
 refine b1 [0] [.tmp 2] Tryz.func27 adL λbO az bQ=>aB ?_;refine aK az λ_ bY bl aw=>?_;obtain⟨af,bK,h⟩:=aE h;rcases fH h with⟨dt,h⟩|⟨dt,h⟩
 .refine eS (nK dt) (px a0.eY 0 21 _ bK) _ ?_;refine ka rfl ?_;exact bk bl [.bool false]
 .obtain⟨aw,bL,h⟩:=aE h;refine dn (cr [(1,.aV (ej a0)),(19,.bool ((!aw)||(decide (60<(a0.cG.length:Int)))))] (λP a_=>?_) ?_)
  .rcases Bool.eq_false_or_eq_true (aw)with lA|lA
   ·(try simp only[aQ.down,simprocAttr,(gu dt),lA]);refine dv (px a0.eY 0 21 _ bK) (hK:= ?_);simp only[aQ.down,simprocAttr,(gu dt),lA];refine nG (Tr a0 a0.Start _ bL) (hK:= ?_);simp only[aQ.down,simprocAttr,(gu dt),lA];exact cb (ad (gu dt) lA)
   ·(try simp only[aQ.down,simprocAttr,(gu dt),lA]);refine dv (px a0.eY 0 21 _ bK) (hK:= ?_);simp only[aQ.down,simprocAttr,(gu dt),lA];refine nG (Tr a0 a0.Start _ bL) (hK:= ?_);simp only[aQ.down,simprocAttr,(gu dt),lA];exact cb (ad (gu dt) lA)
  refine aU h (λfc h=>?_) λfc h=>?_
  .exact bk bl [.bool false]
  .refine aZ (bY _ (inl ?_));obtain⟨aS,dD,h⟩:=aE h;refine dn (cr [(2,.bool (!aS))] (λP a_=>?_) ?_)
   ·(try simp only[aQ.down,simprocAttr]);refine dv (ahQ a0.cG a0 _ dD) rfl rfl (by simp only[aQ.down,simprocAttr,Sy.down]<;>rfl) rfl (inr (by rfl)) ?_;simp only[aQ.down,simprocAttr];exact cb trivial
   exact cE az [.bool (!aS)]
theorem Tv:∀a c,qN a c=Lib.indexByte a c
 |[],_=>rfl
 |a::x,c=>by simp only[qN,Lib.indexByte,Tv x c]
theorem ahS (a0:anR) (J:UInt8) (r:Int) (h:JO a0 J=some r):aY ao 188 [.str a0,.int .u8 J.toNat] (.int .i64 r) []:=by
 rw[show r=Lib.indexByte a0 J from(gh h).trans (Tv _ _)];exact P_ Tryz.func188 (by kernel_rfl) (by kernel_rfl) (by kernel_rfl) (E:=Extern.BytealgIndexByte.indexByte) (by kernel_rfl) a0 J _ λw=>by
  rw[Lib.run_indexByteString,show((J.toNat:Int).toNat).toUInt8=J from by simp]
theorem ahT (a0 J r) (h:JP a0 J=some r):aY ao 172 [.str a0,.int .u8 (J.toNat:Int)] (.int .i64 r) []:=by
 refine b1 [0,1] [.tmp 4] Tryz.func172 adM λbO az bQ=>aB ?_;obtain⟨af,aP,h⟩:=aE h;refine dp (ahS a0 J _ aP) _ ?_;exact cE az [.int .i64 af]
theorem Tw (a0 J r) (h:s9 a0 J=some r):aY ao 161 [.str a0,.str J] (.int .i64 r) []:=by
 refine b1 [0,1] [.tmp 4] Tryz.func161 adN λbO az bQ=>aB ?_;refine aB ?_;refine aK az λ_ _ cz _=>bA cz λ_ _ b0 _ _=>q1 ((J.length:Int)==0) [(0,.str a0),(1,.str J),(5,.int .i64 (J.length:Int)),(16,.bool (((J.length:Int)==0)||(J==a0)))] ?_;refine aU h (λeD h=>?_) λeD h=>?_
 .exact bk b0 [.int .i64 0]
 .refine aB ?_;refine aU h (λfc h=>?_) λfc h=>?_
  .obtain⟨af,ot,h⟩:=aE h;obtain⟨aw,dD,h⟩:=aE h;refine eS ot (ahT a0 af _ dD) _ ?_;exact cE b0 [.int .i64 aw]
  .refine aB ?_;refine aU h (λia h=>?_) λia h=>?_
   .exact bk b0 [.int .i64 (-1)]
   .cases h
theorem ahU (a0 J r) (h:EV a0 J=some r):aY ao 144 [.str a0,.str J] (.tuple [.str r.1,.str r.2.1,.bool r.2.2]) []:=by
 refine b1 [0,1] [.tmp 4,.tmp 5,.tmp 6] Tryz.func144 adO λbO az bQ=>aB ?_;refine aK az λ_ bY bl aw=>?_;obtain⟨af,bK,h⟩:=aE h;refine dp (Tw a0 J _ bK) _ ?_;refine aB ?_;refine aU h (λeD h=>?_) λeD h=>?_
 .obtain⟨aw,hr,h⟩:=aE h;obtain⟨aS,gi,h⟩:=aE h;refine sd (ad hr gi) _ ?_;exact cE bl [.str aw,.str aS,.bool true]
 .exact aZ (bY _ (inl (bk az [.str a0,.str ([]:anR),.bool false])))
theorem ahV (a0 J r) (h:yL a0 J=some r):aY ao 115 [.str a0,.str J] (.tuple [.str r.1,.str r.2.1,.bool r.2.2]) []:=by
 refine b1 [0,1] [.tmp 4,.tmp 5,.tmp 6] Tryz.func115 adP λbO az bQ=>aB ?_;obtain⟨af,aP,h⟩:=aE h;refine dp (ahU a0 J _ aP) _ ?_;exact cE az [.str af.1,.str af.2.1,.bool af.2.2]
theorem ahW (a0 J r) (h:EW a0 J=some r):aY ao 167 [.str a0,.str J] (.bool r) []:=by
 refine b1 [0,1] [.tmp 4] Tryz.func167 c167 λbO az bQ=>aB ?_;rcases fH h with⟨iT,h⟩|⟨iT,h⟩
 .obtain⟨af,bK,h⟩:=aE h;refine dd (ad iT bK) _ ?_;exact cE az [.bool (af==J)]
 .refine dd iT _ ?_;exact cE az [.bool false]
theorem ahX (a0 J r) (h:EX a0 J=some r):aY ao 147 [.str a0,.str J] (.str r) []:=by
 refine b1 [0,1] [.tmp 4] Tryz.func147 adQ λbO az bQ=>aB ?_;refine aK az λ_ bY bl aw=>?_;obtain⟨af,bK,h⟩:=aE h;refine dp (ahW a0 J _ bK) _ ?_;refine aU h (λdt h=>?_) λdt h=>?_
 .obtain⟨aw,bL,h⟩:=aE h;refine dd bL _ ?_;exact cE bl [.str aw]
 .exact aZ (bY _ (inl (bk az [.str a0])))
theorem ahY (a0 J r) (h:strings_TrimSuffix a0 J=some r):aY ao 118 [.str a0,.str J] (.str r) []:=by
 refine b1 [0,1] [.tmp 4] Tryz.func118 adR λbO az bQ=>aB ?_;obtain⟨af,aP,h⟩:=aE h;refine dp (ahX a0 J _ aP) _ ?_;exact cE az [.str af]
theorem ahZ (a0:anR) (J:UInt8) (r:Int) (h:JQ a0 J=some r):aY ao 181 [.str a0,.int .u8 J.toNat] (.int .i64 r) []:=by
 rw[show r=((Lib.countByte a0 J:Nat):Int)from gh h];exact P_ Tryz.func181 (by kernel_rfl) (by kernel_rfl) (by kernel_rfl) (E:=Extern.BytealgCount.count) (by kernel_rfl) a0 J _ λw=>by
  rw[Lib.run_countString,show((J.toNat:Int).toNat).toUInt8=J from by simp]
theorem Tx (a0 J r) (h:BJ a0 J=some r):aY ao 166 [.str a0,.str J] (.int .i64 r) []:=by
 refine b1 [0,1] [.tmp 4] Tryz.func166 adS λbO az bQ=>aB ?_;obtain⟨af,aP,h⟩:=aE h;refine dp (Tw a0 J _ aP) _ ?_;exact cE az [.int .i64 af]
theorem ah0 (a0 J r) (h:JS a0 J=some r):aY ao 165 [.str a0,.str J] (.int .i64 r) []:=by
 refine b1 [1] [.tmp 4] Tryz.func165 adT λbO az bQ=>aB ?_;refine aK az λ_ bY _ aw=>aB ?_;refine aU h (λcw h=>?_) λcw h=>?_
 .cases h
 .refine aZ (bY _ (inl (aK az λ_ n6 dT _=>aB ?_)));refine aU h (λcS h=>?_) λcS h=>?_
  .obtain⟨af,jd,h⟩:=aE h;obtain⟨aw,ot,h⟩:=aE h;refine eS jd (ahZ a0 af _ ot) _ ?_;exact cE dT [.int .i64 aw]
  .refine aZ (n6 _ (inl (aB ?_)));refine bA az λK_ _ k2 _ _=>?_;show bh ao (.loop ?c21) _ _;have ah1:∀n r4 r5,JR J n r4 r5=some r->cU ao ?c21 K_ (aj [(0,.str r4),(1,.str J),(5,.int .i64 r5)]):=by
    refine dc λ_ ah2 r4 r5 h=>db k2 λ_ n14 fe _=>bA fe λ_ n15 kc _ _=>?_;obtain⟨aS,e2,h⟩:=aE h;refine dp (Tx r4 J _ e2) _ ?_;refine aK kc λ_ n18 uR _=>aB ?_;refine aU h (λn4 h=>?_) λn4 h=>?_
    .exact bk uR [.int .i64 r5]
    .refine aZ (n18 _ (inl (aB ?_)));obtain⟨bu,nm,h⟩:=aE h;refine oK nm _ ?_;exact n15 _ (n14 _ (inr ⟨_,b9 rfl,ah2 bu (i64.wrap (r5+1)) h⟩))
   exact dH h λn h=>ah1 n a0 0 h
theorem ah3 (a0 J a2 a3 r) (h:JU a0 J a2 a3=some r):aY ao 146 [.str a0,.str J,.int .i64 a2,.int .i64 a3] (.ah 1 (r.map b3)) []:=by
 refine b1 [1,2] [.tmp 8] Tryz.func146 c146 λbO az bQ=>aB ?_;refine aK az λ_ bY bl aw=>aB ?_;refine aU h (λcw h=>?_) λcw h=>?_
 .refine aB ?_;exact hT (bl _ (inr ⟨[(8,.ah 1 [])],hf [] rfl (gZ (t:=8) (d:=.bd) rfl rfl (.gN _) (by decide) (hh)),lS [.ah 1 []]⟩))
 .refine aZ (bY _ (inl (aK az λ_ n6 _ bF=>aB ?_)));refine aU h (λcS h=>?_) λcS h=>?_
  .cases h
  .refine aZ (n6 _ (inl ?_));show bh ao (.seq _ ?c24) _ _;have Ty:∀h8,EY a0 J a2 h8=some r->bh ao ?c24 bO (aj [(0,.str a0),(1,.str J),(2,.int .i64 a2),(3,.int .i64 h8)]):=by
    intro h8 h;refine dd (ad @Z4 @Z5) _ ?_;obtain⟨anx,dE,h⟩:=aE h;refine tf (ad (oS dE) @List.map_replicate.{0,0}) [(0,.str a0),(1,.str J),(2,.int .i64 a2),(3,.int .i64 (i_ false h8 (i64.wrap ((a0.length:Int)+1)))),(9,.ah 1 ((List.replicate (Int.toNat (i_ false h8 (i64.wrap ((a0.length:Int)+1)))) ([]:anR)).map b3))] ?_;refine ws [(0,.str a0),(1,.str J),(2,.int .i64 a2),(3,.int .i64 (i64.wrap ((i_ false h8 (i64.wrap ((a0.length:Int)+1)))-1))),(9,.ah 1 ((List.replicate (Int.toNat (i_ false h8 (i64.wrap ((a0.length:Int)+1)))) ([]:anR)).map b3))] ?_;refine ws [(0,.str a0),(1,.str J),(2,.int .i64 a2),(3,.int .i64 (i64.wrap ((i_ false h8 (i64.wrap ((a0.length:Int)+1)))-1))),(9,.ah 1 ((List.replicate (Int.toNat (i_ false h8 (i64.wrap ((a0.length:Int)+1)))) ([]:anR)).map b3)),(10,.int .i64 0)] ?_;show bh ao (.seq _ ?KL) _ _;have zr:∀yM wE s_,BK a0 J a2 h8 yM wE s_=some r->bh ao ?KL bO (aj [(0,.str yM),(1,.str J),(2,.int .i64 a2),(3,.int .i64 (i64.wrap ((i_ false h8 (i64.wrap ((a0.length:Int)+1)))-1))),(9,.ah 1 (wE.map b3)),(10,.int .i64 s_)]):=by
     intro yM wE s_ h;obtain⟨af,gp,h⟩:=aE h;refine dn (cr [(9,.ah 1 ((List.set wE (Int.toNat s_) yM).map b3)),(10,.int .i64 s_)] (λP a_=>?_) ?_)
     .simp only[aQ.down,simprocAttr,gp,cn gp,ey,dj];exact cb (ad gp (ad (cn gp) @ey))
     obtain⟨aw,hV,h⟩:=aE h;refine dn (cr [(8,.ah 1 (aw.map b3))] (λP a_=>?_) ?_)
     .simp only[aQ.down,simprocAttr,hV,SB.down,pU];(try simp only[iy.down,simprocAttr,hV,SB.down,pU]at a_⊢);exact a_
     exact cE az [.ah 1 (aw.map b3)]
    refine aK az λ_ n16 kY _=>bA kY λah4 _ lx zp _=>?_;show bh ao (.loop ?KN) _ _;have ah5:∀n nd lZ jL,wF a0 J a2 h8 n nd lZ jL=some r->cU ao ?KN ah4 (aj [(0,.str nd),(1,.str J),(2,.int .i64 a2),(3,.int .i64 (i64.wrap ((i_ false h8 (i64.wrap ((a0.length:Int)+1)))-1))),(9,.ah 1 (lZ.map b3)),(10,.int .i64 jL)]):=by
     refine dc λ_ ah6 nd lZ jL h=>db lx λ_ n22 n_ wW=>aK n_ λ_ n23 _ zf=>aB ?_;refine aU h (λCl h=>?_) λCl h=>?_
     .refine aZ (n23 _ (inl (bA n_ λ_ n26 Cj _ w_=>?_)));obtain⟨aS,Cm,h⟩:=aE h;refine dp (Tx nd J _ Cm) _ ?_;refine aK Cj λ_ n29 _ Lh=>aB ?_;refine aU h (λCh h=>?_) λCh h=>?_
      .exact cZ (Lh 0 _ (w_ 0 _ (by decide) (wW 0 _ (zp _ (n16 _ (inr ⟨_,b9 rfl,zr nd lZ jL h⟩))))))
      .refine aZ (n29 _ (inl ?_));obtain⟨bu,k1,h⟩:=aE h;obtain⟨bw,lB,h⟩:=aE h;refine dn (cr [(0,.str nd),(1,.str J),(2,.int .i64 a2),(3,.int .i64 (i64.wrap ((i_ false h8 (i64.wrap ((a0.length:Int)+1)))-1))),(9,.ah 1 ((List.set lZ (Int.toNat jL) bu).map b3)),(10,.int .i64 jL),(11,.int .i64 aS)] (λP a_=>?_) ?_)
       .simp only[aQ.down,simprocAttr,k1,lB,cn lB,ey,dj,(show(List.map b3 lZ).set (Int.toNat jL) (.str bu)=List.map b3 (List.set lZ (Int.toNat jL) bu)from(List.map_set ..).symm)];exact cb (ad k1 (ad lB (ad (cn lB) @ey)))
       obtain⟨bF,FL,h⟩:=aE h;refine dd FL [(0,.str bF),(1,.str J),(2,.int .i64 a2),(3,.int .i64 (i64.wrap ((i_ false h8 (i64.wrap ((a0.length:Int)+1)))-1))),(9,.ah 1 ((List.set lZ (Int.toNat jL) bu).map b3)),(10,.int .i64 jL)] ?_;refine wr [(0,.str bF),(1,.str J),(2,.int .i64 a2),(3,.int .i64 (i64.wrap ((i_ false h8 (i64.wrap ((a0.length:Int)+1)))-1))),(9,.ah 1 ((List.set lZ (Int.toNat jL) bu).map b3)),(10,.int .i64 (i64.wrap (jL+1)))] ?_;exact n26 _ (n22 _ (inr ⟨_,b9 rfl,ah6 bF (List.set lZ (Int.toNat jL) bu) (i64.wrap (jL+1)) h⟩))
     .exact cZ (zf 0 _ (wW 0 _ (zp _ (n16 _ (inr ⟨_,b9 rfl,zr nd lZ jL h⟩)))))
    exact dH h λn h=>ah5 n a0 (List.replicate (Int.toNat (i_ false h8 (i64.wrap ((a0.length:Int)+1)))) ([]:anR)) 0 h
   refine aK az λ_ n10 _ _=>aB ?_;refine aU h (λLe h=>?_) λLe h=>?_
   .obtain⟨b8,ah7,h⟩:=aE h;refine Su (ah0 a0 J _ ah7) _ ?_;exact n10 _ (inr ⟨_,b9 rfl,Ty (i64.wrap (b8+1)) h⟩)
   .exact aZ (n10 _ (inr ⟨_,b9 rfl,Ty a3 h⟩))
theorem ah8 (a0 J r) (h:EZ a0 J=some r):aY ao 117 [.str a0,.str J] (.ah 1 (r.map b3)) []:=by
 refine b1 [0,1] [.tmp 4] Tryz.func117 c117 λbO az bQ=>aB ?_;obtain⟨af,aP,h⟩:=aE h;refine dp (ah3 a0 J 0 (-1) _ aP) _ ?_;exact cE az [.ah 1 (af.map b3)]
theorem ah9 (a0:anR) (r:Int×Bool) (h:E0 a0=some r):aY ao 145 [.str a0] (.tuple [.int .i64 r.1,.bool r.2]) []:=aff a0 r h
theorem ah_ (a0 r) (h:E1 a0=some r):aY ao 116 [.slice (a0.map b3)] (.tuple [.ah 1 (r.1.map aG),.bool r.2]) []:=by
 refine b1 [0] [.tmp 2,.tmp 3] Tryz.func116 c116 λbO az bQ=>aB ?_;refine aB ?_;refine aK az λ_ fS cz _=>aB ?_;refine bA cz λoa _ cL dt _=>?_;show bh ao (.loop ?h4) _ _;have iL:∀n cv hb,yN a0 n cv hb=some r->cU ao ?h4 oa (aj [(4,.ah 1 (cv.map aG)),(9,.slice (a0.map b3)),(10,.int .i64 (a0.length:Int)),(11,.int .i64 hb)]):=by
  refine dc λ_ iM cv hb h=>db cL λ_ n6 dT bF=>aB ?_;refine aK dT λ_ n8 _ cA=>aU h (λfc h=>?_) λfc h=>?_
  .refine aZ (n8 _ (inl (aK dT λ_ n10 dx _=>bA dx λ_ n11 gH _ _=>?_)));obtain⟨af,dE,h⟩:=aE h;refine dd dE _ ?_;obtain⟨aw,eO,h⟩:=aE h;refine dp (ah9 af _ eO) _ ?_;refine aK gH λ_ n16 kY _=>aB ?_;refine aU h (λkz h=>?_) λkz h=>?_
   .refine aB ?_;exact hT (kY _ (inr ⟨[(2,.ah 1 []),(3,.bool false)],hf [] rfl (gZ (t:=2) (d:=.bd) rfl rfl (.gN _) (by decide) (dU rfl (hh))),lS [.ah 1 [],.bool false]⟩))
   .refine aZ (n16 _ (inl ?_));obtain⟨anz,hX,h⟩:=aE h;(try simp only[h_.down,Nat.zero_add,Nat.add_zero,reduceAdd]at hX);refine oK (ad (show∀s,ei ao s 22 1 [(0,.int .i64 aw.1)]=some (.ah 1 [.int .i64 aw.1],s)from λs=>by kernel_rfl) (ad (@kP ao 22 22 2 rfl rfl) (ad @kQ (ad @kR (ad @jF (ad @kO (ad @all_nil (ad hX (@lP _ aG 1 λ_=>rfl))))))))) [(4,.ah 1 ((cv++[aw.1]).map aG)),(9,.slice (a0.map b3)),(10,.int .i64 (a0.length:Int)),(11,.int .i64 hb)] ?_;refine n11 _ (n10 _ (inl (wr [(4,.ah 1 ((cv++[aw.1]).map aG)),(9,.slice (a0.map b3)),(10,.int .i64 (a0.length:Int)),(11,.int .i64 (i64.wrap (hb+1)))] ?_)));exact n6 _ (inr ⟨_,b9 rfl,iM (cv++[aw.1]) (i64.wrap (hb+1)) h⟩)
  .exact cZ (cA 0 _ (bF 0 _ (dt _ (fS _ (inl (bk az [.ah 1 (cv.map aG),.bool true]))))))
 obtain⟨n,h⟩:=oR h;exact rQ (inr ⟨_,hf [] rfl (gZ (t:=4) (d:=.bd) (bf:=.ah 1 []) rfl rfl (.gN _) (by decide) (dU (t:=9) (d:=.slice (a0.map b3)) rfl (dU (t:=10) (d:=.int .i64 (a0.length:Int)) rfl (dU (t:=11) (d:=.int .i64 0) rfl (hh))))),iL n [] 0 h⟩)
theorem aia (a0 J:Int) (r:anR) (h:BL a0 J=some r):aY ao 152 [.int .i64 a0,.int .i64 J] (.str r) []:=ae4 a0 J r h
theorem aib (a0 r) (h:BM a0=some r):aY ao 125 [.int .i64 a0] (.str r) []:=by
 refine b1 [0] [.tmp 2] Tryz.func125 adU λbO az bQ=>aB ?_;obtain⟨af,aP,h⟩:=aE h;refine dp (aia a0 10 _ aP) _ ?_;exact cE az [.str af]
theorem aic (a0:anQ) (J:anR) (r:anR) (h:strings_Join a0 J=some r):aY ao 126 [.slice (a0.map b3),.str J] (.str r) []:=ae5 a0 J r h
theorem Tz (a0 J r) (h:yP a0 J=some r):aY ao 90 [.slice (a0.map aG),.str J] (.str r) []:=by
 refine b1 [0,1] [.tmp 4] Tryz.func90 adV λbO az bQ=>aB ?_;obtain⟨SV,aP,h⟩:=aE h;refine tf (ad (oS aP) @List.map_replicate.{0,0}) [(0,.slice (a0.map aG)),(1,.str J),(5,.ah 1 ((List.replicate (Int.toNat (a0.length:Int)) ([]:anR)).map b3))] ?_;refine aK az λ_ fG b0 bu=>ws [(1,.str J),(5,.ah 1 ((List.replicate (Int.toNat (a0.length:Int)) ([]:anR)).map b3)),(11,.slice (a0.map aG)),(12,.int .i64 (a0.length:Int)),(13,.int .i64 0)] ?_;refine bA b0 λly _ dT eD _=>?_;show bh ao (.loop ?h4) _ _;have iL:∀n eR mH,yO a0 J n eR mH=some r->cU ao ?h4 ly (aj [(1,.str J),(5,.ah 1 (eR.map b3)),(11,.slice (a0.map aG)),(12,.int .i64 (a0.length:Int)),(13,.int .i64 mH)]):=by
  refine dc λ_ iM eR mH h=>db dT λ_ n7 fz b8=>aB ?_;refine aK fz λ_ dP _ df=>aU h (λgx h=>?_) λgx h=>?_
  .refine aZ (dP _ (inl (aK fz λ_ n11 gH _=>bA gH λ_ n12 _ _ _=>?_)));obtain⟨af,ft,h⟩:=aE h;refine dd ft _ ?_;obtain⟨aw,ez,h⟩:=aE h;obtain⟨aS,e2,h⟩:=aE h;refine iv (cr [(1,.str J),(5,.ah 1 ((List.set eR (Int.toNat mH) aw).map b3)),(11,.slice (a0.map aG)),(12,.int .i64 (a0.length:Int)),(13,.int .i64 mH)] (λP a_=>?_) ?_)
   ·(try simp only[aQ.down,simprocAttr,e2,cn e2,ey,dj]);refine dv (aib af _ ez) (hK:= ?_);simp only[aQ.down,simprocAttr,e2,cn e2,ey,dj];exact cb (ad e2 (ad (cn e2) @ey))
   refine n12 _ (n11 _ (inl (wr [(1,.str J),(5,.ah 1 ((List.set eR (Int.toNat mH) aw).map b3)),(11,.slice (a0.map aG)),(12,.int .i64 (a0.length:Int)),(13,.int .i64 (i64.wrap (mH+1)))] ?_)));exact n7 _ (inr ⟨_,b9 rfl,iM (List.set eR (Int.toNat mH) aw) (i64.wrap (mH+1)) h⟩)
  .refine cZ (df 0 _ (b8 0 _ (eD _ (fG _ (inl ?_)))));obtain⟨bu,hV,h⟩:=aE h;refine dn (cr [(4,.str bu)] (λP a_=>?_) ?_)
   ·(try simp only[aQ.down,simprocAttr]);refine dv (aic eR J _ hV) rfl rfl (by simp only[aQ.down,simprocAttr,SC.down]<;>rfl) rfl (inr (by rfl)) ?_;simp only[aQ.down,simprocAttr];exact cb trivial
   exact cE az [.str bu]
 exact dH h λn h=>iL n (List.replicate (Int.toNat (a0.length:Int)) ([]:anR)) 0 h
theorem TA (a0 J r) (h:wH a0 J=some r):aY ao 88 [.str a0,.slice (J.map aG)] (.tuple [.str r.1,.bool r.2]) []:=by
 refine b1 [0,1] [.tmp 4,.tmp 5] Tryz.func88 adX λbO az bQ=>aB ?_;refine aK az λ_ bY bl aw=>bA bl λ_ fS cz _ aS=>aB ?_;refine aU h (λdt h=>?_) λdt h=>?_
 .exact bk cz [.str ([116,97,117]:anR),.bool ((J.length:Int)==0)]
 .obtain⟨aw,gi,h⟩:=aE h;rcases fH h with⟨gx,h⟩|⟨gx,h⟩
  .refine eS (nK gx) (Cp a0 _ gi) _ ?_;refine ka rfl ?_;exact bk cz [.str ([]:anR),.bool false]
  .rcases fH h with⟨fT,h⟩|⟨fT,h⟩
   .refine eS (ad (gu gx) fT) (Cp a0 _ gi) _ ?_;refine ka rfl ?_;exact bk cz [.str ([]:anR),.bool false]
   .obtain⟨aS,ft,h⟩:=aE h;refine dn (cr [(0,.str a0),(1,.slice (J.map aG)),(12,.bool (!aS))] (λP a_=>?_) ?_)
    ·(try simp only[aQ.down,simprocAttr,(gu gx),fT]);refine dv (Cp a0 _ gi) (hK:= ?_);simp only[aQ.down,simprocAttr,(gu gx),fT];refine nG (Tq J _ ft) (hK:= ?_);simp only[aQ.down,simprocAttr,(gu gx),fT];exact cb (ad (gu gx) fT)
    refine aU h (λjM h=>?_) λjM h=>?_
    .exact bk cz [.str ([]:anR),.bool false]
    .refine aB ?_;refine aU h (λkz h=>?_) λkz h=>?_
     .exact bk cz [.str a0,.bool true]
     .refine aZ (fS _ (bY _ (inl ?_)));obtain⟨TB,hX,h⟩:=aE h;(try simp only[h_.down,Nat.zero_add,Nat.add_zero,reduceAdd]at hX);obtain⟨bu,hY,h⟩:=aE h;obtain⟨TB,nk,h⟩:=aE h;(try simp only[h_.down,Nat.zero_add,Nat.add_zero,reduceAdd]at nk);obtain⟨TB,nm,h⟩:=aE h;(try simp only[h_.down,Nat.zero_add,Nat.add_zero,reduceAdd]at nm);refine eS (ad hX (ad @rR (ad @rS (ad nk nm)))) (Tz J ([44]:anR) _ hY) [(4,.str (((a0++([40]:anR))++bu)++([41]:anR))),(5,.bool true)] ?_;exact cE az [.str (((a0++([40]:anR))++bu)++([41]:anR)),.bool true]
theorem aid (a0 r) (h:E3 a0=some r):aY ao 85 [.str a0] (.tuple [.str r.1,.ah 1 (r.2.1.map aG),.bool r.2.2]) []:=by
 refine b1 [0] [.tmp 2,.tmp 3,.tmp 4] Tryz.func85 c85 λbO az bQ=>aB ?_;obtain⟨af,aP,h⟩:=aE h;refine dp (ahV a0 ([40]:anR) _ aP) _ ?_;refine aB ?_;have TC:∀gT,BN a0 af gT=some r->bh ao RX bO (aj [(0,.str a0),(5,.str af.1),(8,.ah 1 (gT.map aG))]):=by
  intro gT h;refine aK az λ_ n6 dT _=>?_;obtain⟨aw,hr,h⟩:=aE h;refine dn (cr [(0,.str a0),(5,.str af.1),(8,.ah 1 (gT.map aG)),(10,.str aw.1),(11,.bool aw.2)] (λP a_=>?_) ?_)
  ·(try simp only[aQ.down,simprocAttr]);refine dv (TA af.1 gT _ hr) rfl rfl (by simp only[aQ.down,simprocAttr,FC.down]<;>rfl) rfl (inr (by rfl)) ?_;simp only[aQ.down,simprocAttr];exact cb trivial
  refine q1 (aw.2) [(5,.str af.1),(8,.ah 1 (gT.map aG)),(40,.bool ((!aw.2)||(!(aw.1==a0))))] ?_;refine aU h (λgx h=>?_) λgx h=>?_
  .refine aB ?_;exact hT (dT _ (inr ⟨[(2,.str ([]:anR)),(3,.ah 1 []),(4,.bool false)],hf [] rfl (dU rfl (gZ (t:=3) (d:=.bd) rfl rfl (.gN _) (by decide) (dU rfl (hh)))),lS [.str ([]:anR),.ah 1 [],.bool false]⟩))
  .exact aZ (n6 _ (inl (bk az [.str af.1,.ah 1 (gT.map aG),.bool true])))
 refine aK az λ_ e3 cL bw=>aB ?_;refine aU h (λia h=>?_) λia h=>?_
 .refine aB ?_;obtain⟨aS,e2,h⟩:=aE h;obtain⟨bu,gp,h⟩:=aE h;obtain⟨bw,hW,h⟩:=aE h;refine dn (cr [(0,.str a0),(5,.str af.1),(8,.ah 1 (bw.1.map aG)),(9,.bool bw.2)] (λP a_=>?_) ?_)
  ·(try simp only[aQ.down,simprocAttr]);refine dv (ahY af.2.1 ([41]:anR) _ e2) (hK:= ?_);simp only[aQ.down,simprocAttr];refine dv (ah8 aS ([44]:anR) _ gp) (hK:= ?_);simp only[aQ.down,simprocAttr];refine dv (ah_ bu _ hW) rfl rfl (by simp only[aQ.down,simprocAttr,SC.down]<;>rfl) rfl (inr (by simp only[I.ch,I.gM, @jY _ aG (λ_=>r_ _),Bool.and_self])) ?_;simp only[aQ.down,simprocAttr];exact cb trivial
  refine aB ?_;refine aU h (λzp h=>?_) λzp h=>?_
  .refine aB ?_;exact hT (cL _ (inr ⟨[(2,.str ([]:anR)),(3,.ah 1 []),(4,.bool false)],hf [] rfl (dU rfl (gZ (t:=3) (d:=.bd) rfl rfl (.gN _) (by decide) (dU rfl (hh)))),lS [.str ([]:anR),.ah 1 [],.bool false]⟩))
  .exact aZ (e3 _ (inr ⟨_,b9 rfl,TC bw.1 h⟩))
 .exact aZ (e3 _ (inr ⟨_,hf [] rfl (dU (t:=0) (d:=.str a0) rfl (dU (t:=5) (d:=.str af.1) rfl (gZ (t:=8) (d:=.bd) (bf:=.ah 1 []) rfl rfl (.gN _) (by decide) (hh)))),TC [] h⟩))
theorem aie (a0 r) (h:wI a0=some r):aY ao 55 [.str a0] (.bool r) []:=by
 refine b1 [0] [.tmp 2] Tryz.func55 KL λbO az bQ=>aB ?_;obtain⟨af,aP,h⟩:=aE h;refine dp (aid a0 _ aP) _ ?_;exact bk az [.bool af.2.2]
theorem aif (a0 r) (h:JX a0=some r):aY ao 54 [.str a0] (.bool r) []:=by
 refine b1 [0] [.tmp 2] Tryz.func54 adZ λbO az bQ=>aB ?_;obtain⟨af,aP,h⟩:=aE h;refine dp (aie a0 _ aP) _ ?_;exact cE az [.bool (!af)]
theorem aih (a0 r) (h:JZ a0=some r):aY ao 84 [.slice (a0.map b3),.fn 54 []] (.int .i64 r) []:=by
 refine b1 [0,1] [.tmp 4] Tryz.func84 ad0 λbO az bQ=>aB ?_;refine aK az λ_ bY bl aw=>aB ?_;refine bA bl λgf _ b0 cw _=>?_;show bh ao (.loop ?eM) _ _;have gg:∀n e1,yQ a0 n e1=some r->cU ao ?eM gf (aj [(0,.slice (a0.map b3)),(1,.fn 54 []),(7,.int .i64 (a0.length:Int)),(8,.int .i64 e1)]):=by
  refine dc λ_ fU e1 h=>db b0 λ_ e3 cL bw=>aB ?_;refine aK cL λ_ n7 _ b8=>aU h (λcS h=>?_) λcS h=>?_
  .refine aZ (n7 _ (inl (aK cL λ_ dP cQ _=>bA cQ λ_ n10 dx _ _=>aB ?_)));obtain⟨af,dE,h⟩:=aE h;obtain⟨aw,ft,h⟩:=aE h;refine eS dE (aif af _ ft) _ ?_;refine aU h (λjM h=>?_) λjM h=>?_
   .exact bk dx [.int .i64 e1]
   .refine aZ (n10 _ (dP _ (inl (eE ?_))));exact e3 _ (inr ⟨_,b9 rfl,fU (i64.wrap (e1+1)) h⟩)
  .exact cZ (b8 0 _ (bw 0 _ (cw _ (bY _ (inl (bk az [.int .i64 (-1)]))))))
 exact dH h λn h=>gg n 0 h
theorem aii (a0 r) (h:J0 a0=some r):aY ao 53 [.slice (a0.map b3),.fn 54 []] (.bool r) []:=by
 refine b1 [0,1] [.tmp 4] Tryz.func53 c53 λbO az bQ=>aB ?_;obtain⟨af,aP,h⟩:=aE h;refine dp (aih a0 _ aP) _ ?_;exact cE az [.bool (decide (0<=af))]
theorem aij (a0 r) (h:E4 a0=some r):aY ao 28 [.slice (a0.map b3)] (.bool r) []:=by
 refine b1 [0] [.tmp 2] Tryz.func28 c28 λbO az bQ=>aB ?_;obtain⟨af,aP,h⟩:=aE h;refine dp (aii a0 _ aP) _ ?_;exact cE az [.bool (!af)]
theorem aik (a0 r) (h:E5 a0=some r):aY ao 29 [.slice (a0.map aG)] (.ah 1 (r.map aG)) []:=by
 refine b1 [0] [.tmp 2] Tryz.func29 ad1 λbO az bQ=>aB ?_;refine aK az λ_ bY bl _=>?_;rcases fH h with⟨cw,h⟩|⟨cw,h⟩
 .refine dn (cr [(0,.slice (a0.map aG)),(4,.fj)] (λP a_=>?_) ?_)
  .simp only[aQ.down,simprocAttr,DP,(Qb cw),DQ];exact cb (ad @DP (ad (Qb cw) @DQ))
  obtain⟨bp,h⟩:=VX h;refine Zx rfl ?_ ?_
  .replace h:=bp;refine aB ?_;exact hT (bl _ (inr ⟨[(2,.ah 1 [])],hf [] rfl (gZ (t:=2) (d:=.bd) rfl rfl (.gN _) (by decide) (hh)),lS [.ah 1 []]⟩))
  .refine aZ (bY _ (inl ?_));obtain⟨u8,hr,h⟩:=aE h;(try simp only[h_.down,Nat.zero_add,Nat.add_zero,reduceAdd]at hr);refine dd (ad (show∀s,ei ao s 22 0 []=some (.ah 1 [],s)from λs=>by kernel_rfl) (ad (@kP ao 22 22 2 rfl rfl) (ad @kQ (ad @kR (ad @jF (ad @kO (ad @all_nil (ad hr (@lP _ aG 1 λ_=>rfl))))))))) _ ?_;exact cE az [.ah 1 (a0.map aG)]
 .refine dn (cr [(0,.slice (a0.map aG)),(4,.bool false)] (λP a_=>?_) ?_)
  .simp only[aQ.down,simprocAttr,DP,(Qc cw),DQ];exact cb (ad @DP (ad (Qc cw) @DQ))
  refine sO rfl ?_;refine aZ (bY _ (inl ?_));obtain⟨Li,jd,h⟩:=aE h;(try simp only[h_.down,Nat.zero_add,Nat.add_zero,reduceAdd]at jd);refine dd (ad (show∀s,ei ao s 22 0 []=some (.ah 1 [],s)from λs=>by kernel_rfl) (ad (@kP ao 22 22 2 rfl rfl) (ad @kQ (ad @kR (ad @jF (ad @kO (ad @all_nil (ad jd (@lP _ aG 1 λ_=>rfl))))))))) _ ?_;exact cE az [.ah 1 (a0.map aG)]
theorem ail (r6:aoe->Option (aO×(List b7)×aoe)) (aim:∀a0 r,r6 a0=some r->aY ao 148 [.slice (a0.map bG)] (.tuple [.aV (.agg [bG r.1,.ah 1 (r.2.1.map i6)]),.slice (r.2.2.map bG)]) []) (a0 r) (h:J2 r6 a0=some r):aY ao 148 [.slice (a0.map bG)] (.tuple [.aV (.agg [bG r.1,.ah 1 (r.2.1.map i6)]),.slice (r.2.2.map bG)]) []:=by
 refine b1 [0] [.tmp 2,.tmp 3] Tryz.func148 c148 λbO az bQ=>aB ?_;obtain⟨af,aP,h⟩:=aE h;refine dd (ad aP (show∀s,ij ao s 176 [(0,.agg [.int .i64 af.Kind,.int .i64 af.Value])]=some (.agg [.agg [.int .i64 af.Kind,.int .i64 af.Value],.bd],s)from λs=>by kernel_rfl)) _ ?_;obtain⟨aw,cg,h⟩:=aE h;refine dd (ad cg (@lP _ bG 2 λ_=>rfl)) _ ?_;refine aK az λ_ n6 dT _=>?_;obtain⟨aS,hr,h⟩:=aE h;refine eS aP (Tu af _ hr) _ ?_;refine bA dT λn1 _ cQ fc _=>?_;show bh ao (.loop ?w1) _ _;have Ca:∀n gP gw qO,wJ r6 af aS n gP gw qO=some r->cU ao ?w1 n1 (aj [(4,.aV (.agg [bG af,.ah 1 (gP.map i6)])),(5,.slice (gw.map bG)),(17,.int .i64 aS),(18,.int .i64 qO)]):=by
  refine dc λ_ Cb gP gw qO h=>db cQ λ_ n10 dx eQ=>aB ?_;refine aK dx λ_ n12 _ tb=>aU h (λiK h=>?_) λiK h=>?_
  .refine aZ (n12 _ (inl (aK dx λ_ n14 fe _=>bA fe λ_ n15 _ _ _=>aB ?_)));obtain⟨bu,gp,h⟩:=aE h;refine dp (aim gw _ gp) _ ?_;obtain⟨agw,hV,h⟩:=aE h;(try simp only[B9.down,Nat.zero_add,Nat.add_zero,reduceAdd]at hV);refine iv (cr [(4,.aV (.agg [bG af,.ah 1 ((gP++[(b7.mk bu.1 bu.2.1)]).map i6)])),(5,.slice (bu.2.2.map bG)),(17,.int .i64 aS),(18,.int .i64 qO)] (λP a_=>?_) ?_)
   .simp only[aQ.down,simprocAttr,SD.down,mx,d_,hV];(try simp only[iy.down,simprocAttr,SD.down,mx,d_,hV]at a_⊢);exact a_
   refine n15 _ (n14 _ (inl (wr [(4,.aV (.agg [bG af,.ah 1 ((gP++[(b7.mk bu.1 bu.2.1)]).map i6)])),(5,.slice (bu.2.2.map bG)),(17,.int .i64 aS),(18,.int .i64 (i64.wrap (qO+1)))] ?_)));exact n10 _ (inr ⟨_,b9 rfl,Cb (gP++[(b7.mk bu.1 bu.2.1)]) bu.2.2 (i64.wrap (qO+1)) h⟩)
  .exact cZ (tb 0 _ (eQ 0 _ (fc _ (n6 _ (inl (bk az [.aV (.agg [bG af,.ah 1 (gP.map i6)]),.slice (gw.map bG)]))))))
 obtain⟨n,h⟩:=oR h;exact rQ (inr ⟨_,hf [] rfl (gZ (t:=4) (d:=.aV (.agg [bG af,.bd])) (bf:=.aV (.agg [bG af,.ah 1 []])) rfl rfl (.aV (.agg (.cons (.refl _) (.cons (.gN _) (.nil))))) (by decide) (dU (t:=5) (d:=.slice (aw.map bG)) rfl (dU (t:=17) (d:=.int .i64 aS) rfl (dU (t:=18) (d:=.int .i64 0) rfl (hh))))),Ca n [] aw 0 h⟩)
theorem ain:∀n a0 r,yR n a0=some r->aY ao 148 [.slice (a0.map bG)] (.tuple [.aV (.agg [bG r.1,.ah 1 (r.2.1.map i6)]),.slice (r.2.2.map bG)]) []:=by
 intro n;induction n with
 |zero=>intro a0 r h;cases(show none=some r from h)
 |succ n ih=>intro a0 r h;exact ail (yR n) ih a0 r h
theorem aio (a0 r) (h:J3 a0=some r):aY ao 148 [.slice (a0.map bG)] (.tuple [.aV (.agg [bG r.1,.ah 1 (r.2.1.map i6)]),.slice (r.2.2.map bG)]) []:=by
 obtain⟨n,h⟩:=oR h;exact ain n a0 r h
theorem TD (a0 r) (h:yS a0=some r):aY ao 119 [.slice (a0.map bG)] (.aV (.agg [bG r.1,.ah 1 (r.2.map i6)])) []:=by
 refine b1 [0] [.tmp 2] Tryz.func119 c119 λbO az bQ=>aB ?_;obtain⟨af,aP,h⟩:=aE h;refine dp (aio a0 _ aP) _ ?_;exact bk az [.aV (.agg [bG af.1,.ah 1 (af.2.1.map i6)])]
theorem aip (J r) (h:E7 J=some r):aY ao 149 [.bd,.int .i64 J] (.ah 1 (r.map aG)) []:=by
 refine b1 [] [.tmp 4] Tryz.func149 ad2 λbO az bQ=>aB ?_;have LH:J4 J=some r->bh ao RZ bO (aj [(0,.bd),(1,.int .i64 J),(6,.bool (decide (J<0)))]):=by
  intro h;have Cq:E6=some r->bh ao RY bO (aj [(0,.ah 1 [])]):=by
   intro h;exact bk az [.ah 1 []]
  refine aK az λ_ fS _ _=>dd (ad @DV λs x h=> @DU ao s 22 2 x rfl h) _ ?_;refine aB ?_;refine aU h (λsD h=>?_) λsD h=>?_
  .obtain⟨ahG,gi,h⟩:=aE h;refine iv (cr [(0,.ah 1 [])] (λP a_=>?_) ?_)
   .simp only[aQ.down,simprocAttr,SE.down,oS gi,iV,-Int.reduceNatCast',pU];(try simp only[iy.down,simprocAttr,SE.down,oS gi,iV,-Int.reduceNatCast',pU]at a_⊢);exact a_
   exact fS _ (inr ⟨_,b9 rfl,Cq h⟩)
  .exact aZ (fS _ (inr ⟨_,hf [] rfl (gZ (t:=0) (d:=.bd) (bf:=.ah 1 []) rfl rfl (.gN _) (by decide) (hh)),Cq h⟩))
 refine aK az λ_ bY _ _=>aB ?_;refine aU h (λma h=>?_) λma h=>?_
 .cases h
 .exact aZ (bY _ (inr ⟨_,b9 rfl,LH h⟩))
theorem aiq (a0 r) (h:BO a0=some r):aY ao 122 [.slice (a0.map cB)] (.ah 1 (r.map aG)) []:=by
 refine b1 [0] [.tmp 2] Tryz.func122 ad3 λbO az bQ=>aB ?_;refine aB ?_;refine aK az λ_ fS cz aS=>aB ?_;refine bA cz λoa _ cL dt _=>?_;show bh ao (.loop ?h4) _ _;have iL:∀n cm hb,wL a0 n cm hb=some r->cU ao ?h4 oa (aj [(0,.slice (a0.map cB)),(3,.int .i64 cm),(9,.slice (a0.map cB)),(10,.int .i64 (a0.length:Int)),(11,.int .i64 hb)]):=by
  refine dc λm8 iM cm hb h=>db cL λly n6 dT bF=>aB ?_;refine aK dT λ_ n8 _ cA=>aU h (λfc h=>?_) λfc h=>?_
  .refine aZ (n8 _ (inl ?_));show bh ao (.seq _ ?wZ) _ _;have zn:∀pn po s8,J5 (wL a0 m8) a0 pn po s8=some r->bh ao ?wZ ly (aj [(0,.slice (a0.map cB)),(3,.int .i64 pn),(9,.slice (a0.map cB)),(10,.int .i64 (a0.length:Int)),(11,.int .i64 po),(20,.bool s8)]):=by
    intro pn po s8 h;refine eE ?_;exact n6 _ (inr ⟨_,b9 rfl,iM pn (i64.wrap (po+1)) h⟩)
   refine aK dT λ_ n10 dx _=>bA dx λ_ n12 _ _ _=>?_;obtain⟨af,ft,h⟩:=aE h;refine dd ft _ ?_;refine aB ?_;refine aB ?_;refine aU h (λmK h=>?_) λmK h=>?_
   .cases h
   .exact aZ (n12 _ (n10 _ (inr ⟨_,b9 rfl,zn (i64.wrap (cm+(af.length:Int))) hb (decide ((i64.wrap (cm+(af.length:Int)))<0)) h⟩)))
  .refine cZ (cA 0 _ (bF 0 _ (dt _ (fS _ (inl ?_)))));obtain⟨aw,hV,h⟩:=aE h;refine dp (aip cm _ hV) _ ?_;refine aK az λ_ n21 lx _=>aB ?_;refine bA lx λLI _ w8 kd _=>?_;show bh ao (.loop ?B6) _ _;have LJ:∀n iI jm,wK a0 n iI jm=some r->cU ao ?B6 LI (aj [(6,.ah 1 (iI.map aG)),(25,.slice (a0.map cB)),(26,.int .i64 (a0.length:Int)),(27,.int .i64 jm)]):=by
    refine dc λ_ LK iI jm h=>db w8 λ_ n24 pv LL=>aB ?_;refine aK pv λ_ n26 _ w_=>aU h (λpw h=>?_) λpw h=>?_
    .refine aZ (n26 _ (inl (aK pv λ_ n28 Ck _=>bA Ck λ_ n29 _ _ _=>?_)));obtain⟨aS,n5,h⟩:=aE h;refine dd n5 _ ?_;obtain⟨ahI,k1,h⟩:=aE h;(try simp only[h_.down,Nat.zero_add,Nat.add_zero,reduceAdd]at k1);refine oK (ad (@kP ao 22 22 2 rfl rfl) (ad @kQ (ad @kR (ad @jF (ad @kO (ad @all_nil (ad k1 (@lP _ aG 1 λ_=>rfl)))))))) [(6,.ah 1 ((iI++aS).map aG)),(25,.slice (a0.map cB)),(26,.int .i64 (a0.length:Int)),(27,.int .i64 jm)] ?_;refine n29 _ (n28 _ (inl (wr [(6,.ah 1 ((iI++aS).map aG)),(25,.slice (a0.map cB)),(26,.int .i64 (a0.length:Int)),(27,.int .i64 (i64.wrap (jm+1)))] ?_)));exact n24 _ (inr ⟨_,b9 rfl,LK (iI++aS) (i64.wrap (jm+1)) h⟩)
    .exact cZ (w_ 2 _ (LL 2 _ (kd _ (n21 _ (inl (bk az [.ah 1 (iI.map aG)]))))))
   exact dH h λn h=>LJ n aw 0 h
 exact dH h λn h=>iL n 0 0 h
theorem tn (a0 r) (h:p8 a0=some r):aY ao 150 [.bool a0] (.int .i64 r) []:=by
 refine b1 [0] [.tmp 2] Tryz.func150 ad4 λbO az bQ=>aB ?_;refine aK az λ_ bY bl _=>aB ?_;refine aU h (λcw h=>?_) λcw h=>?_
 .exact bk bl [.int .i64 1]
 .exact aZ (bY _ (inl (bk az [.int .i64 0])))
theorem air (a0 J a2 r) (h:E8 a0 J a2=some r):aY ao 151 [.int .i64 a0,.int .i64 J,.int .i64 a2] (.int .i64 r) []:=by
 refine b1 [0,1,2] [.tmp 6] Tryz.func151 ad5 λbO az bQ=>aB ?_;refine aK az λ_ bY bl aw=>aB ?_;refine bA bl λ_ fG b0 _ bu=>aB ?_;refine aU h (λeD h=>?_) λeD h=>?_
 .refine dd (@tZ .i64 64 (by decide)) _ ?_;exact cE b0 [.int .i64 (Int.tmod (i64.wrap (J+a2)) 64)]
 .refine aB ?_;refine aU h (λfc h=>?_) λfc h=>?_
  .refine dd (@tZ .i64 64 (by decide)) _ ?_;exact cE b0 [.int .i64 (Int.tmod (i64.wrap ((i64.wrap (J-a2))+64)) 64)]
  .refine aB ?_;refine aU h (λfT h=>?_) λfT h=>?_
   .refine dd (@tZ .i64 64 (by decide)) _ ?_;exact cE b0 [.int .i64 (Int.tmod (i64.wrap (J*a2)) 64)]
   .refine aB ?_;refine aU h (λjM h=>?_) λjM h=>?_
    .obtain⟨af,e2,h⟩:=aE h;refine dp (tn (J==a2) _ e2) _ ?_;exact cE b0 [.int .i64 af]
    .refine aB ?_;refine aU h (λky h=>?_) λky h=>?_
     .obtain⟨aw,hX,h⟩:=aE h;refine dp (tn (J !=a2) _ hX) _ ?_;exact cE b0 [.int .i64 aw]
     .refine aB ?_;refine aU h (λkd h=>?_) λkd h=>?_
      .obtain⟨aS,iz,h⟩:=aE h;refine dp (tn (decide (J<a2)) _ iz) _ ?_;exact cE b0 [.int .i64 aS]
      .refine aB ?_;refine aU h (λpw h=>?_) λpw h=>?_
       .obtain⟨bu,Cg,h⟩:=aE h;refine dp (tn (decide (J<=a2)) _ Cg) _ ?_;exact cE b0 [.int .i64 bu]
       .refine aB ?_;refine aU h (λCh h=>?_) λCh h=>?_
        .rcases fH h with⟨xa,h⟩|⟨xa,h⟩
         .obtain⟨bw,lB,h⟩:=aE h;refine eS xa (tn (a2 !=0) _ lB) _ ?_;exact cE b0 [.int .i64 bw]
         .obtain⟨bF,xb,h⟩:=aE h;refine eS xa (tn false _ xb) _ ?_;exact cE b0 [.int .i64 bF]
        .refine aZ (fG _ (bY _ (inl ?_)));rcases fH h with⟨q4,h⟩|⟨q4,h⟩
         .obtain⟨b8,Cf,h⟩:=aE h;refine eS q4 (tn true _ Cf) _ ?_;exact cE az [.int .i64 b8]
         .obtain⟨cA,Ci,h⟩:=aE h;refine eS q4 (tn (a2 !=0) _ Ci) _ ?_;exact cE az [.int .i64 cA]
theorem ais (yT:b7->anT->anW) (LO:∀a0 J r,yT a0 J=some r->aY ao 123 [.ref (l_ a0),.slice (J.map aG)] (.int .i64 r) []) (a0 J r) (h:J8 yT a0 J=some r):aY ao 123 [.ref (l_ a0),.slice (J.map aG)] (.int .i64 r) []:=by
 refine b1 [0,1] [.tmp 4] Tryz.func123 B5 λbO az bQ=>ws [(0,.ref (l_ a0)),(1,.slice (J.map aG))] ?_;refine aK az λ_ bY bl aw=>ws [(0,.ref (l_ a0)),(1,.slice (J.map aG)),(9,.int .i64 a0.term.Kind)] ?_;refine bA bl λ_ fG b0 _ bu=>ws [(0,.ref (l_ a0)),(1,.slice (J.map aG)),(9,.int .i64 a0.term.Kind),(10,.bool (a0.term.Kind==0))] ?_;refine aU h (λeD h=>?_) λeD h=>?_
 .exact bk b0 [.int .i64 a0.term.Value]
 .refine ws [(0,.ref (l_ a0)),(1,.slice (J.map aG)),(9,.int .i64 a0.term.Kind),(17,.bool (a0.term.Kind==1))] ?_;refine aU h (λfc h=>?_) λfc h=>?_
  .obtain⟨af,ot,h⟩:=aE h;refine dd ot _ ?_;exact cE b0 [.int .i64 af]
  .refine ws [(0,.ref (l_ a0)),(1,.slice (J.map aG)),(27,.bool (a0.term.Kind==3))] ?_;refine aU h (λiK h=>?_) λiK h=>?_
   .obtain⟨aw,eO,h⟩:=aE h;obtain⟨aS,ez,h⟩:=aE h;obtain⟨bu,e2,h⟩:=aE h;refine dn (cr [(4,.int .i64 bu)] (λP a_=>?_) ?_)
    ·(try simp only[aQ.down,simprocAttr,eO]);refine dv (LO aw J _ ez) rfl rfl (by simp only[aQ.down,simprocAttr,eO,hA,hB,hC,dZ]<;>rfl) rfl (inl (by rfl)) ?_;simp only[aQ.down,simprocAttr,eO];refine dv (tn (aS==0) _ e2) (hK:= ?_);simp only[aQ.down,simprocAttr,eO];exact cb eO
    exact cE b0 [.int .i64 bu]
   .refine aZ (fG _ (bY _ (inl ?_)));obtain⟨bw,hW,h⟩:=aE h;obtain⟨bF,hV,h⟩:=aE h;obtain⟨b8,hX,h⟩:=aE h;obtain⟨cA,hY,h⟩:=aE h;obtain⟨df,nk,h⟩:=aE h;refine sN rfl (qE [(4,.int .i64 df)] (λP a_=>?_) ?_)
    ·(try simp only[gB.down,simprocAttr,hW,hX]);refine o6 (LO bw J _ hV) rfl rfl (by simp only[gB.down,simprocAttr,hW,hX,hA,hB,hC,dZ]<;>rfl) rfl (inl (by rfl)) ?_;simp only[gB.down,simprocAttr,hW,hX];refine o6 (LO b8 J _ hY) rfl rfl (by simp only[gB.down,simprocAttr,hW,hX,hA,hB,hC,dZ]<;>rfl) rfl (inl (by rfl)) ?_;simp only[gB.down,simprocAttr,hW,hX];refine o6 (air a0.term.Value bF cA _ nk) (hK:= ?_);simp only[gB.down,simprocAttr,hW,hX];refine⟨pV (by kernel_rfl),?_⟩;exact cb (ad hW hX)
    exact cE az [.int .i64 df]
theorem ait:∀n a0 J r,wM n a0 J=some r->aY ao 123 [.ref (l_ a0),.slice (J.map aG)] (.int .i64 r) []:=by
 intro n;induction n with
 |zero=>intro a0 J r h;cases(show none=some r from h)
 |succ n ih=>intro a0 J r h;exact ais (wM n) ih a0 J r h
theorem TE (a0 J r) (h:BP a0 J=some r):aY ao 123 [.ref (l_ a0),.slice (J.map aG)] (.int .i64 r) []:=by
 obtain⟨n,h⟩:=oR h;exact ait n a0 J r h
theorem aiu (a0 J r) (h:yU a0 J=some r):aY ao 124 [.slice (a0.map bG),.slice (J.map aG)] (.int .i64 r) []:=by
 refine b1 [0,1] [.tmp 4] Tryz.func124 c124 λbO az bQ=>aB ?_;obtain⟨af,aP,h⟩:=aE h;obtain⟨aw,bK,h⟩:=aE h;refine dn (cr [(4,.int .i64 aw)] (λP a_=>?_) ?_)
 ·(try simp only[aQ.down,simprocAttr]);refine dv (TD a0 _ aP) (hK:= ?_);simp only[aQ.down,simprocAttr];refine dv (TE (b7.mk af.1 af.2) J _ bK) rfl rfl (by simp only[aQ.down,simprocAttr,hA,hB,hC,dZ, @cN _ i6 hE (λ_=>KF _)]<;>rfl) rfl (inr (by rfl)) ?_;simp only[aQ.down,simprocAttr];exact cb trivial
 exact cE az [.int .i64 aw]
theorem TF (a0 J r) (h:BQ a0 J=some r):aY ao 89 [.slice (a0.map cf),.slice (J.map aG)] (.ah 1 (r.map aG)) []:=by
 refine b1 [0,1] [.tmp 4] Tryz.func89 ad6 λbO az bQ=>aB ?_;refine aB ?_;refine aK az λ_ fS cz _=>aB ?_;refine bA cz λoa _ cL dt _=>?_;show bh ao (.loop ?h4) _ _;have iL:∀n eR p9,yV a0 J n eR p9=some r->cU ao ?h4 oa (aj [(1,.slice (J.map aG)),(5,.ah 1 (eR.map aG)),(8,.slice (a0.map cf)),(9,.int .i64 (a0.length:Int)),(10,.int .i64 p9)]):=by
  refine dc λ_ iM eR p9 h=>db cL λ_ n6 dT bF=>aB ?_;refine aK dT λ_ n8 _ cA=>aU h (λfc h=>?_) λfc h=>?_
  .refine aZ (n8 _ (inl (aK dT λ_ n10 dx _=>bA dx λ_ n11 _ _ _=>?_)));obtain⟨af,dE,h⟩:=aE h;refine dd dE _ ?_;obtain⟨aw,eO,h⟩:=aE h;obtain⟨SP,ez,h⟩:=aE h;(try simp only[h_.down,Nat.zero_add,Nat.add_zero,reduceAdd]at ez);refine FB (ad (show∀s,ei ao s 22 1 [(0,.int .i64 aw)]=some (.ah 1 [.int .i64 aw],s)from λs=>by kernel_rfl) (ad (@kP ao 22 22 2 rfl rfl) (ad @kQ (ad @kR (ad @jF (ad @kO (ad @all_nil (ad ez (@lP _ aG 1 λ_=>rfl))))))))) (aiu af J _ eO) [(1,.slice (J.map aG)),(5,.ah 1 ((eR++[aw]).map aG)),(8,.slice (a0.map cf)),(9,.int .i64 (a0.length:Int)),(10,.int .i64 p9)] ?_;refine n11 _ (n10 _ (inl (wr [(1,.slice (J.map aG)),(5,.ah 1 ((eR++[aw]).map aG)),(8,.slice (a0.map cf)),(9,.int .i64 (a0.length:Int)),(10,.int .i64 (i64.wrap (p9+1)))] ?_)));exact n6 _ (inr ⟨_,b9 rfl,iM (eR++[aw]) (i64.wrap (p9+1)) h⟩)
  .exact cZ (cA 0 _ (bF 0 _ (dt _ (fS _ (inl (bk az [.ah 1 (eR.map aG)]))))))
 obtain⟨n,h⟩:=oR h;exact rQ (inr ⟨_,hf [] rfl (dU (t:=1) (d:=.slice (J.map aG)) rfl (gZ (t:=5) (d:=.bd) (bf:=.ah 1 []) rfl rfl (.gN _) (by decide) (dU (t:=8) (d:=.slice (a0.map cf)) rfl (dU (t:=9) (d:=.int .i64 (a0.length:Int)) rfl (dU (t:=10) (d:=.int .i64 0) rfl (hh)))))),iL n [] 0 h⟩)
theorem aiv (a0 eN et gG oG oH a2 a3 r) (h:E9 a0 eN et gG oG oH a2 a3=some r):aY ao 87 [.slice (a0.map aG),.ref (.agg [.slice (eN.map aG),.slice (et.map bG),.str gG,.slice (oG.map cf),.slice (oH.map cf)]),.aV (.cc (.mp a2)),.aV (.ah 2 (a3.map dG))] (.tuple []) [.hole,.hole,.aV (.cc (.mp r.1)),.aV (.ah 2 (r.2.map dG))]:=by
 refine b1 [0,1,2,3] [] Tryz.func87 c87 λbO az bQ=>?_;obtain⟨af,aM,h⟩:=aE h;obtain⟨aw,aP,h⟩:=aE h;refine sN rfl (qE [(0,.slice (a0.map aG)),(1,.ref (.agg [.slice (eN.map aG),.slice (et.map bG),.str gG,.slice (oG.map cf),.slice (oH.map cf)])),(2,.aV (.cc (.mp a2))),(3,.aV (.ah 2 (a3.map dG))),(5,.str aw.1)] (λP a_=>?_) ?_)
 ·(try simp only[gB.down,simprocAttr]);refine o6 (TF oG a0 _ aM) (hK:= ?_);simp only[gB.down,simprocAttr];refine o6 (TA gG af _ aP) rfl rfl (by simp only[gB.down,simprocAttr,FC.down]<;>rfl) rfl (inr (by rfl)) ?_;simp only[gB.down,simprocAttr];refine⟨pV (by kernel_rfl),?_⟩;exact cb trivial
 obtain⟨aS,cg,h⟩:=aE h;refine eS (ad (@H8 ao 52 [(9,0),(22,1)] [(.str []),.bd] rfl rfl (by kernel_rfl)) (ad @t_ (ad @ua (ad @ey (ad @jF (ad @List.nil_append.{0} @List.cons_append.{0})))))) (TF oH a0 _ cg) _ ?_;obtain⟨TG,bL,h⟩:=aE h;(try simp only[h_.down,Nat.zero_add,Nat.add_zero,reduceAdd]at bL);obtain⟨bu,hr,h⟩:=aE h;obtain⟨TG,gi,h⟩:=aE h;(try simp only[h_.down,Nat.zero_add,Nat.add_zero,reduceAdd]at gi);refine dn (cr [(2,.aV (.cc (.mp a2))),(3,.aV (.ah 2 (a3.map dG))),(7,.aV (.agg [.str aw.1,.ah 1 (aS.map aG)])),(8,.str ((aw.1++([32]:anR))++bu))] (λP a_=>?_) ?_)
 ·(try simp only[aQ.down,simprocAttr,bL,rR,rS,gi]);refine dv (Tz aS ([44]:anR) _ hr) rfl rfl (by simp only[aQ.down,simprocAttr,bL,rR,rS,gi,hA,hB,hC,dZ, @cN _ aG aG (λ_=>hn _)]<;>rfl) rfl (inr (by rfl)) ?_;simp only[aQ.down,simprocAttr,bL,rR,rS,gi];exact cb (ad bL (ad @rR (ad @rS gi)))
 refine dd (ad @Z2 (ad @Qh (show tK ao 112=true from by kernel_rfl))) [(2,.aV (.cc (.mp a2))),(3,.aV (.ah 2 (a3.map dG))),(7,.aV (.agg [.str aw.1,.ah 1 (aS.map aG)])),(8,.str ((aw.1++([32]:anR))++bu)),(34,.bool (!(kE ((aw.1++([32]:anR))++bu) a2)))] ?_;refine aU h (λma h=>?_) λma h=>?_
 .refine dd (ad @Z3 (ad @Qh (show tK ao 112=true from by kernel_rfl))) [(2,.aV (.cc (.mp (kF ((aw.1++([32]:anR))++bu) true a2)))),(3,.aV (.ah 2 (a3.map dG))),(7,.aV (.agg [.str aw.1,.ah 1 (aS.map aG)]))] ?_;obtain⟨TG,ft,h⟩:=aE h;(try simp only[B9.down,Nat.zero_add,Nat.add_zero,reduceAdd]at ft);refine iv (cr [(2,.aV (.cc (.mp (kF ((aw.1++([32]:anR))++bu) true a2)))),(3,.aV (.ah 2 ((a3++[(bB.mk aw.1 aS)]).map dG)))] (λP a_=>?_) ?_)
  .simp only[aQ.down,simprocAttr,FD.down,mx,d_,ft];(try simp only[iy.down,simprocAttr,FD.down,mx,d_,ft]at a_⊢);exact a_
  exact bQ _ (inl (mw [] rfl (by cases gh h;rfl) (by decide) (mV (kS (kS (ll (by cases gh h;rfl) rfl rfl rfl (ll (by cases gh h;rfl) rfl rfl rfl (mW))))))))
 .exact aZ (bQ _ (inl (mw [] rfl (by cases gh h;rfl) (by decide) (mV (kS (kS (ll (by cases gh h;rfl) rfl rfl rfl (ll (by cases gh h;rfl) rfl rfl rfl (mW)))))))))
theorem aiw (a0 J jn a201 mI nU nV nW nX nY r7 r8 r) (h:E_ a0 J jn a201 mI nU nV nW nX nY r7 r8=some r):aY ao 121 [.ah 1 (a0.map aG),.ref (.slice (J.map aG)),.ref (.ref (.agg [.agg [.int .i64 jn,.int .i64 a201],.slice (mI.map hE)])),.cX (.bm 87 [.ref (.agg [.slice (nU.map aG),.slice (nV.map bG),.str nW,.slice (nX.map cf),.slice (nY.map cf)]),.aV (.cc (.mp r7)),.aV (.ah 2 (r8.map dG))])] (.bool r.1) [.ah 1 (a0.map aG),.hole,.hole,.cX (.bm 87 [.ref (.agg [.slice (r.2.1.map aG),.slice (r.2.2.1.map bG),.str r.2.2.2.1,.slice (r.2.2.2.2.1.map cf),.slice (r.2.2.2.2.2.1.map cf)]),.aV (.cc (.mp r.2.2.2.2.2.2.1)),.aV (.ah 2 (r.2.2.2.2.2.2.2.map dG))])]:=by
 refine aY.abA (fx:=[0,1,2,3]) yi [.tmp 5] [(0,.ah 1 (a0.map aG)),(1,.ref (.slice (J.map aG))),(2,.ref (.ref (.agg [.agg [.int .i64 jn,.int .i64 a201],.slice (mI.map hE)]))),(3,.cX (.bm 87 [.ref (.agg [.slice (nU.map aG),.slice (nV.map bG),.str nW,.slice (nX.map cf),.slice (nY.map cf)]),.aV (.cc (.mp r7)),.aV (.ah 2 (r8.map dG))]))] Tryz.func121 rfl rfl aec (le_of_ble_eq_true rfl) aeb rfl rfl λbO az bQ=>?_;refine aB ?_;obtain⟨af,aP,h⟩:=aE h;refine Q7 [(0,.ah 1 (a0.map aG)),(2,.ref (.ref (.agg [.agg [.int .i64 jn,.int .i64 a201],.slice (mI.map hE)]))),(3,.cX (.bm 87 [.ref (.agg [.slice (nU.map aG),.slice (nV.map bG),.str nW,.slice (nX.map cf),.slice (nY.map cf)]),.aV (.cc (.mp r7)),.aV (.ah 2 (r8.map dG))])),(6,.ah 1 (af.map aG))] [(0,.slice (a0.map aG)),(1,.ref (.slice (J.map aG)))] (.ah 1 (af.map aG)) rfl (by simp only[I.ch,I.gM,Bool.and_self, @jY _ aG (λ_=>r_ _)]) ?_ (λP a_=>?_) (λP a_=>?_) ?_
 .simp only[aQ.down,simprocAttr,sU,Sw.down]
 ·(try simp only[aQ.down,simprocAttr,(show∀s,ei ao s 29 2 [(0,.slice (J.map aG)),(1,.slice (a0.map aG))]=some (.ah 1 [.slice (J.map aG),.slice (a0.map aG)],s)from λs=>by kernel_rfl)]);refine dv (aiq [J,a0] _ aP) rfl rfl (by simp only[aQ.down,simprocAttr,(show∀s,ei ao s 29 2 [(0,.slice (J.map aG)),(1,.slice (a0.map aG))]=some (.ah 1 [.slice (J.map aG),.slice (a0.map aG)],s)from λs=>by kernel_rfl),hA,hB,hC,dZ, @cN _ aG aG (λ_=>hn _), @cN _ aG aG (λ_=>hn _),I.shares, @cN _ cB cB (λ_=>Rz _)]<;>rfl) rfl (inr (jY (λ_=>r_ _) _)) ?_;simp only[aQ.down,simprocAttr,(show∀s,ei ao s 29 2 [(0,.slice (J.map aG)),(1,.slice (a0.map aG))]=some (.ah 1 [.slice (J.map aG),.slice (a0.map aG)],s)from λs=>by kernel_rfl)];exact cb (show∀s,ei ao s 29 2 [(0,.slice (J.map aG)),(1,.slice (a0.map aG))]=some (.ah 1 [.slice (J.map aG),.slice (a0.map aG)],s)from λs=>by kernel_rfl)
 .exact a_
 have zo:∀BR BS,J_ a0 nU nV nW nX nY BR BS=some r->bh ao R0 bO (aj [(0,.ah 1 (a0.map aG)),(3,.cX (.bm 87 [.ref (.agg [.slice (nU.map aG),.slice (nV.map bG),.str nW,.slice (nX.map cf),.slice (nY.map cf)]),.aV (.cc (.mp BR)),.aV (.ah 2 (BS.map dG))]))]):=by
  intro BR BS h;refine aB ?_;exact hT (az _ (inl (mw [.bool true] rfl (by cases gh h;rfl) (by decide) (mV (ll (by cases gh h;rfl) rfl rfl rfl (kS (kS (ll (by cases gh h;rfl) rfl rfl rfl (mW)))))))))
 refine aK az λ_ fG _ _=>?_;obtain⟨aw,bL,h⟩:=aE h;refine dn (cr [(0,.ah 1 (a0.map aG)),(3,.cX (.bm 87 [.ref (.agg [.slice (nU.map aG),.slice (nV.map bG),.str nW,.slice (nX.map cf),.slice (nY.map cf)]),.aV (.cc (.mp r7)),.aV (.ah 2 (r8.map dG))])),(6,.ah 1 (af.map aG)),(14,.bool (aw !=0))] (λP a_=>?_) ?_)
 ·(try simp only[aQ.down,simprocAttr]);refine dv (TE (b7.mk (aO.mk jn a201) mI) af _ bL) rfl rfl (by simp only[aQ.down,simprocAttr,FC.down]<;>rfl) rfl (inr (by rfl)) ?_;simp only[aQ.down,simprocAttr];exact cb trivial
 refine aU h (λcS h=>?_) λcS h=>?_
 .obtain⟨aS,jd,h⟩:=aE h;refine abz [(0,.ah 1 (a0.map aG)),(3,.cX (.bm 87 [.ref (.agg [.slice (nU.map aG),.slice (nV.map bG),.str nW,.slice (nX.map cf),.slice (nY.map cf)]),.aV (.cc (.mp aS.1)),.aV (.ah 2 (aS.2.map dG))]))] (λP a_=>?_) ?_
  .refine⟨_,_,rfl,?_⟩;simp only[wc,vF,rL,rX,Rt,aG,bG,cf,dG];(try simp only[aQ.down,simprocAttr]);refine Q0 [⟨.h 6 [],false,_,.hole⟩] [.hole,.aV (.cc (.mp aS.1)),.aV (.ah 2 (aS.2.map dG))] (aiv af nU nV nW nX nY r7 r8 _ jd) rfl rfl rfl (by simp only[aQ.down,simprocAttr,SF.down]) rfl rfl rfl rfl ((inr (by simp only[uh,I.ch,I.gM,Bool.and_self,R9.down,Bool.true_or,Bool.false_or, @jY _ dG (λ_=>KB _)]))) ?_;simp only[aQ.down,simprocAttr,K1.down];refine⟨_,_,rfl,?_⟩;simp only[clz,vF,rL,rX,Rt];exact cb trivial
  exact fG _ (inr ⟨_,b9 rfl,zo aS.1 aS.2 h⟩)
 .exact aZ (fG _ (inr ⟨_,b9 rfl,zo r7 r8 h⟩))
theorem aix (a0 eN et gG oG oH a105 wO a107 wP a109 r) (h:Fa a0 eN et gG oG oH a105 wO a107 wP a109=some r):aY ao 120 [.slice (a0.map aG),.bm 121 [.ref (.slice (eN.map aG)),.ref (.ref (.agg [bG et,.slice (gG.map hE)])),.cX (.bm 87 [.ref (.agg [.slice (oG.map aG),.slice (oH.map bG),.str a105,.slice (wO.map cf),.slice (a107.map cf)]),.aV (.cc (.mp wP)),.aV (.ah 2 (a109.map dG))])]] (.tuple []) [.hole,.bm 121 [.ref (.slice (r.1.map aG)),.ref (.ref (.agg [.agg [.int .i64 r.2.1,.int .i64 r.2.2.1],.slice (r.2.2.2.1.map hE)])),.cX (.bm 87 [.ref (.agg [.slice (r.2.2.2.2.1.map aG),.slice (r.2.2.2.2.2.1.map bG),.str r.2.2.2.2.2.2.1,.slice (r.2.2.2.2.2.2.2.1.map cf),.slice (r.2.2.2.2.2.2.2.2.1.map cf)]),.aV (.cc (.mp r.2.2.2.2.2.2.2.2.2.1)),.aV (.ah 2 (r.2.2.2.2.2.2.2.2.2.2.map dG))])]]:=by
 refine aY.IE (fx:=[0,1]) yi [] [(0,.slice (a0.map aG)),(1,.bm 121 [.ref (.slice (eN.map aG)),.ref (.ref (.agg [bG et,.slice (gG.map hE)])),.cX (.bm 87 [.ref (.agg [.slice (oG.map aG),.slice (oH.map bG),.str a105,.slice (wO.map cf),.slice (a107.map cf)]),.aV (.cc (.mp wP)),.aV (.ah 2 (a109.map dG))])])] Tryz.func120 rfl rfl aeo (le_of_ble_eq_true rfl) aen rfl rfl λbO az bQ=>?_;obtain⟨anA,aM,h⟩:=aE h;refine tf (ad (oS aM) @List.map_replicate.{0,0}) [(0,.slice (a0.map aG)),(1,.bm 121 [.ref (.slice (eN.map aG)),.ref (.ref (.agg [bG et,.slice (gG.map hE)])),.cX (.bm 87 [.ref (.agg [.slice (oG.map aG),.slice (oH.map bG),.str a105,.slice (wO.map cf),.slice (a107.map cf)]),.aV (.cc (.mp wP)),.aV (.ah 2 (a109.map dG))])]),(4,.ah 1 ((List.replicate (Int.toNat (a0.length:Int)) 0).map aG))] ?_;refine bA az λaiy _ cz iT aS=>?_;have aiz:∀n uz uA uB uC uD uE uF pq,ta a0 eN et gG n uz uA uB uC uD uE uF pq=some r->cU ao R3 aiy (aj [(0,.slice (a0.map aG)),(1,.bm 121 [.ref (.slice (eN.map aG)),.ref (.ref (.agg [bG et,.slice (gG.map hE)])),.cX (.bm 87 [.ref (.agg [.slice (uz.map aG),.slice (uA.map bG),.str uB,.slice (uC.map cf),.slice (uD.map cf)]),.aV (.cc (.mp uE)),.aV (.ah 2 (uF.map dG))])]),(4,.ah 1 (pq.map aG))]):=by
  refine dc λm3 TH uz uA uB uC uD uE uF pq h=>db cz λ_ fG b0 bu=>aK b0 λ_ e3 _ bw=>?_;obtain⟨af,bL,h⟩:=aE h;refine aaV [(0,.slice (a0.map aG)),(1,.bm 121 [.ref (.slice (eN.map aG)),.ref (.ref (.agg [bG et,.slice (gG.map hE)])),.cX (.bm 87 [.ref (.agg [.slice (af.2.1.map aG),.slice (af.2.2.1.map bG),.str af.2.2.2.1,.slice (af.2.2.2.2.1.map cf),.slice (af.2.2.2.2.2.1.map cf)]),.aV (.cc (.mp af.2.2.2.2.2.2.1)),.aV (.ah 2 (af.2.2.2.2.2.2.2.map dG))])]),(4,.ah 1 (pq.map aG)),(11,.bool af.1)] (λP a_=>?_) ?_
  ·(try simp only[aQ.down,simprocAttr]);refine Q0 [⟨.h 4 [],true,_,_⟩] [.hole,.hole,.cX (.bm 87 [.ref (.agg [.slice (af.2.1.map aG),.slice (af.2.2.1.map bG),.str af.2.2.2.1,.slice (af.2.2.2.2.1.map cf),.slice (af.2.2.2.2.2.1.map cf)]),.aV (.cc (.mp af.2.2.2.2.2.2.1)),.aV (.ah 2 (af.2.2.2.2.2.2.2.map dG))])] (aiw pq eN et.Kind et.Value gG uz uA uB uC uD uE uF _ bL) rfl rfl rfl (by simp only[aQ.down,simprocAttr,SF.down]) rfl rfl rfl rfl (inl rfl) ?_;simp only[aQ.down,simprocAttr,K1.down];exact cb trivial
  refine aU h (λcS h=>?_) λcS h=>?_
  .refine aZ (e3 _ (inl (bA b0 λ_ dP cQ _ _=>aB ?_)));refine aK cQ λ_ n11 gH _=>bA gH λaiA _ B_ fT _=>?_;have aiB:∀n l0 l1 l3 l4 l5 l6 l7 l8 iZ,wN (ta a0 eN et gG m3) a0 eN et gG n l0 l1 l3 l4 l5 l6 l7 l8 iZ=some r->cU ao R2 aiA (aj [(0,.slice (a0.map aG)),(1,.bm 121 [.ref (.slice (eN.map aG)),.ref (.ref (.agg [bG et,.slice (gG.map hE)])),.cX (.bm 87 [.ref (.agg [.slice (l0.map aG),.slice (l1.map bG),.str l3,.slice (l4.map cf),.slice (l5.map cf)]),.aV (.cc (.mp l6)),.aV (.ah 2 (l7.map dG))])]),(4,.ah 1 (l8.map aG)),(5,.int .i64 iZ)]):=by
    refine dc λ_ aiC l0 l1 l3 l4 l5 l6 l7 l8 iZ h=>db B_ λ_ n13 k2 wV=>aK k2 λ_ n14 _ n0=>?_;rcases fH h with⟨iN,h⟩|⟨iN,h⟩
    .obtain⟨aw,e2,h⟩:=aE h;obtain⟨aS,gp,h⟩:=aE h;refine sd (ad iN (ad e2 (ad (cn e2) gp))) _ ?_;refine aU h (λky h=>?_) λky h=>?_
     .refine aZ (n14 _ (inl (bA k2 λ_ n20 _ _ _=>dn (cr [(0,.slice (a0.map aG)),(1,.bm 121 [.ref (.slice (eN.map aG)),.ref (.ref (.agg [bG et,.slice (gG.map hE)])),.cX (.bm 87 [.ref (.agg [.slice (l0.map aG),.slice (l1.map bG),.str l3,.slice (l4.map cf),.slice (l5.map cf)]),.aV (.cc (.mp l6)),.aV (.ah 2 (l7.map dG))])]),(4,.ah 1 ((List.set l8 (Int.toNat iZ) 0).map aG)),(5,.int .i64 iZ)] (λP a_=>?_) ?_))))
      .simp only[aQ.down,simprocAttr,e2,cn e2,ey,dj];exact cb (ad e2 (ad (cn e2) @ey))
      refine wr [(0,.slice (a0.map aG)),(1,.bm 121 [.ref (.slice (eN.map aG)),.ref (.ref (.agg [bG et,.slice (gG.map hE)])),.cX (.bm 87 [.ref (.agg [.slice (l0.map aG),.slice (l1.map bG),.str l3,.slice (l4.map cf),.slice (l5.map cf)]),.aV (.cc (.mp l6)),.aV (.ah 2 (l7.map dG))])]),(4,.ah 1 ((List.set l8 (Int.toNat iZ) 0).map aG)),(5,.int .i64 (i64.wrap (iZ-1)))] ?_;exact n20 _ (n13 _ (inr ⟨_,b9 rfl,aiC l0 l1 l3 l4 l5 l6 l7 (List.set l8 (Int.toNat iZ) 0) (i64.wrap (iZ-1)) h⟩))
     .refine cZ (n0 2 _ (wV 2 _ (fT _ (n11 _ (inl (aK cQ λ_ n23 w8 _=>aB ?_))))));refine aU h (λCl h=>?_) λCl h=>?_
      .exact hT (w8 _ (inl (mw [] rfl (by cases gh h;rfl) (by decide) (mV (kS (ll (by cases gh h;rfl) rfl rfl rfl (mW)))))))
      .refine aZ (n23 _ (inl (iv (cr [(0,.slice (a0.map aG)),(1,.bm 121 [.ref (.slice (eN.map aG)),.ref (.ref (.agg [bG et,.slice (gG.map hE)])),.cX (.bm 87 [.ref (.agg [.slice (l0.map aG),.slice (l1.map bG),.str l3,.slice (l4.map cf),.slice (l5.map cf)]),.aV (.cc (.mp l6)),.aV (.ah 2 (l7.map dG))])]),(4,.ah 1 ((List.set l8 (Int.toNat iZ) (i64.wrap (aw+1))).map aG))] (λP a_=>?_) ?_))))
       .simp only[aQ.down,simprocAttr,e2,cn e2,ey,dj];exact cb (ad e2 (ad (cn e2) @ey))
       exact dP _ (fG _ (inr ⟨_,b9 rfl,TH l0 l1 l3 l4 l5 l6 l7 (List.set l8 (Int.toNat iZ) (i64.wrap (aw+1))) h⟩))
    .refine sd iN _ ?_;refine sO rfl ?_;refine cZ (n0 2 _ (wV 2 _ (fT _ (n11 _ (inl (aK cQ λ_ n27 uQ _=>aB ?_))))));refine aU h (λtg h=>?_) λtg h=>?_
     .exact hT (uQ _ (inl (mw [] rfl (by cases gh h;rfl) (by decide) (mV (kS (ll (by cases gh h;rfl) rfl rfl rfl (mW)))))))
     .refine aZ (n27 _ (inl ?_));obtain⟨bu,n5,h⟩:=aE h;refine iv (cr [(0,.slice (a0.map aG)),(1,.bm 121 [.ref (.slice (eN.map aG)),.ref (.ref (.agg [bG et,.slice (gG.map hE)])),.cX (.bm 87 [.ref (.agg [.slice (l0.map aG),.slice (l1.map bG),.str l3,.slice (l4.map cf),.slice (l5.map cf)]),.aV (.cc (.mp l6)),.aV (.ah 2 (l7.map dG))])]),(4,.ah 1 ((List.set l8 (Int.toNat iZ) (i64.wrap (bu+1))).map aG))] (λP a_=>?_) ?_)
      .simp only[aQ.down,simprocAttr,n5,cn n5,ey,dj];exact cb (ad n5 (ad (cn n5) @ey))
      exact dP _ (fG _ (inr ⟨_,b9 rfl,TH l0 l1 l3 l4 l5 l6 l7 (List.set l8 (Int.toNat iZ) (i64.wrap (bu+1))) h⟩))
   exact dH h λn h=>aiB n af.2.1 af.2.2.1 af.2.2.2.1 af.2.2.2.2.1 af.2.2.2.2.2.1 af.2.2.2.2.2.2.1 af.2.2.2.2.2.2.2 pq (i64.wrap ((pq.length:Int)-1)) h
  .exact cZ (bw 0 _ (bu 0 _ (iT _ (bQ _ (inl (mw [] rfl (by cases gh h;rfl) (by decide) (mV (kS (ll (by cases gh h;rfl) rfl rfl rfl (mW))))))))))
 exact dH h λn h=>aiz n oG oH a105 wO a107 wP a109 (List.replicate (Int.toNat (a0.length:Int)) 0) h
theorem aiD (a0 J jn a201 mI r) (h:Kc a0 J jn a201 mI=some r):aY ao 86 [dO a0,.slice (J.map aG),.bm 87 [.ref (dO jn),.aV (.cc (.mp a201)),.aV (.ah 2 (mI.map dG))]] (.tuple []) [.hole,.hole,.bm 87 [.ref (.agg [.slice (r.1.map aG),.slice (r.2.1.map bG),.str r.2.2.1,.slice (r.2.2.2.1.map cf),.slice (r.2.2.2.2.1.map cf)]),.aV (.cc (.mp r.2.2.2.2.2.1)),.aV (.ah 2 (r.2.2.2.2.2.2.map dG))]]:=by
 refine aY.IE (fx:=[0,1,2]) yi [] [(0,dO a0),(1,.slice (J.map aG)),(2,.bm 87 [.ref (dO jn),.aV (.cc (.mp a201)),.aV (.ah 2 (mI.map dG))])] Tryz.func86 rfl rfl aes (le_of_ble_eq_true rfl) aer rfl rfl λbO az bQ=>?_;refine dn (cr [(2,.bm 87 [.ref (dO jn),.aV (.cc (.mp a201)),.aV (.ah 2 (mI.map dG))]),(3,.aV (dO a0)),(4,.aV (.slice (J.map aG))),(5,.R 2 0)] (λP a_=>?_) ?_)
 .simp only[aQ.down,simprocAttr,uP.down,I.dS];exact cb uP.down
 obtain⟨af,aP,h⟩:=aE h;refine DM (cr (K:=di _) [(2,.bm 87 [.ref (dO jn),.aV (.cc (.mp a201)),.aV (.ah 2 (mI.map dG))]),(3,.aV (dO a0)),(4,.aV (.slice (J.map aG))),(5,.R 2 0),(6,.aV (.aV (.agg [bG af.1,.ah 1 (af.2.map i6)])))] (λP a_=>?_) (DN [(2,.bm 87 [.ref (dO jn),.aV (.cc (.mp a201)),.aV (.ah 2 (mI.map dG))]),(3,.aV (dO a0)),(4,.ref (.slice (J.map aG))),(5,.R 2 0),(6,.ref (.ref (.agg [bG af.1,.slice (af.2.map hE)])))] (hf [2] rfl (dU rfl (dU rfl (gZ (t:=4) (d:=.aV (.slice (J.map aG))) (bf:=.ref (.slice (J.map aG))) rfl rfl (DO rfl rfl (by simp only[dZ,I.share,I.shares, @cN _ aG aG (λ_=>hn _),KE,KD]<;>rfl)) (by decide) (dU rfl (gZ (t:=6) (d:=.aV (.aV (.agg [bG af.1,.ah 1 (af.2.map i6)]))) (bf:=.ref (.ref (.agg [bG af.1,.slice (af.2.map hE)]))) rfl rfl (DO rfl rfl (by simp only[dZ,I.share,I.shares,qV, @cN _ i6 hE (λ_=>KF _),KE,KD]<;>rfl)) (by decide) (hh))))))) ?_))
 ·(try simp only[aQ.down,simprocAttr,o8]);refine dv (TD a0.Guard _ aP) (hK:= ?_);simp only[aQ.down,simprocAttr,o8];exact cb @o8
 obtain⟨aw,cg,h⟩:=aE h;refine QZ [(2,.bm 87 [.ref (.agg [.slice (aw.2.2.2.2.1.map aG),.slice (aw.2.2.2.2.2.1.map bG),.str aw.2.2.2.2.2.2.1,.slice (aw.2.2.2.2.2.2.2.1.map cf),.slice (aw.2.2.2.2.2.2.2.2.1.map cf)]),.aV (.cc (.mp aw.2.2.2.2.2.2.2.2.2.1)),.aV (.ah 2 (aw.2.2.2.2.2.2.2.2.2.2.map dG))])] (λP a_=>?_) ?_
 ·(try simp only[aQ.down,simprocAttr,o8]);refine aaX [false,false,false,true] [⟨.slice (a0.a7.map aG),false,_,.hole⟩,⟨.ref (.slice (J.map aG)),false,_,_⟩,⟨.ref (.ref (.agg [bG af.1,.slice (af.2.map hE)])),false,_,_⟩,⟨.h 2 [],true,_,_⟩] (aix a0.a7 J af.1 af.2 jn.a7 jn.Guard jn.Name jn.bU jn.Next a201 mI _ cg) rfl rfl rfl (by rfl) (by simp only[aQ.down,simprocAttr,o8,qF,pT,nH,hA,hB,hC,dZ,or_true,true_or,rX,List.cons_append,List.nil_append]) rfl rfl rfl rfl (by rfl) rfl (inl rfl) ?_;simp only[aQ.down,simprocAttr,o8,mU,rX,List.cons_append,List.nil_append];exact cb @o8
 exact bQ _ (inl (mw [] rfl (by cases gh h;rfl) (by decide) (mV (kS (kS (ll (by cases gh h;rfl) rfl rfl rfl (mW)))))))
theorem aiE (a0 J r) (h:yX a0 J=some r):aY ao 56 [ej a0,.slice (J.map aG)] (.ah 2 (r.map dG)) []:=by
 refine aY.IE (fx:=[0,1]) yi [.tmp 4] [(0,ej a0),(1,.slice (J.map aG))] Tryz.func56 rfl rfl aeD (le_of_ble_eq_true rfl) aeC rfl rfl λbO az bQ=>?_;refine aB ?_;refine DM (cr (K:=di _) [(1,.slice (J.map aG)),(2,.aV (ej a0)),(5,.aV (.bd))] (λP a_=>?_) (DN [(1,.slice (J.map aG)),(2,.aV (ej a0)),(5,.aV (.ah 2 []))] (hf [] rfl (dU rfl (dU rfl (gZ (t:=5) (d:=.aV (.bd)) (bf:=.aV (.ah 2 [])) rfl rfl (.aV (.gN _)) (by decide) (hh))))) ?_))
 .simp only[aQ.down,simprocAttr];exact cb trivial
 refine dd @Z1 _ ?_;refine aK az λ_ fG b0 _=>aB ?_;refine bA b0 λly _ dT eD _=>?_;have Ca:∀n gw lp qP,yW a0 J n gw lp qP=some r->cU ao R6 ly (aj [(1,.slice (J.map aG)),(5,.aV (.ah 2 (gw.map dG))),(6,.aV (.cc (.mp lp))),(11,.slice (a0.cG.map dO)),(12,.int .i64 (a0.cG.length:Int)),(13,.int .i64 qP)]):=by
  refine dc λ_ Cb gw lp qP h=>db dT λ_ n7 fz b8=>aB ?_;refine aK fz λ_ dP _ df=>aU h (λgx h=>?_) λgx h=>?_
  .refine aZ (dP _ (inl (aK fz λ_ n11 gH _=>bA gH λ_ n12 _ _ _=>?_)));obtain⟨af,ft,h⟩:=aE h;refine dd ft _ ?_;obtain⟨aw,ez,h⟩:=aE h;refine QZ [(1,.slice (J.map aG)),(5,.aV (.ah 2 (aw.2.2.2.2.2.2.map dG))),(6,.aV (.cc (.mp aw.2.2.2.2.2.1))),(11,.slice (a0.cG.map dO)),(12,.int .i64 (a0.cG.length:Int)),(13,.int .i64 qP)] (λP a_=>?_) ?_
   ·(try simp only[aQ.down,simprocAttr]);refine aaW [⟨dO af,false,_,.hole⟩,⟨.slice (J.map aG),false,_,.hole⟩,⟨.h 8 [],false,_,_⟩,⟨.h 6 [],true,_,_⟩,⟨.h 5 [],true,_,_⟩] (aiD af J af lp gw _ ez) rfl rfl rfl (by simp only[aQ.down,simprocAttr,qF,pT,nH,hA,hB,hC,dZ,or_true,true_or,rX,List.cons_append,List.nil_append, @cN _ aG aG (λ_=>hn _), @cN _ bG bG (λ_=>qV _), @cN _ cf cf (λ_=>uK _), @cN _ cf cf (λ_=>uK _), @cN _ dG wY (λ_=>acx _)]) rfl rfl rfl rfl rfl rfl ((inr (by simp only[uh,I.ch,I.gM,Bool.and_self,R9.down,Bool.true_or,Bool.false_or, @jY _ dG (λ_=>KB _)]))) ?_;simp only[aQ.down,simprocAttr,K1.down];exact cb trivial
   refine n12 _ (n11 _ (inl (eE ?_)));exact n7 _ (inr ⟨_,b9 rfl,Cb aw.2.2.2.2.2.2 aw.2.2.2.2.2.1 (i64.wrap (qP+1)) h⟩)
  .exact cZ (df 0 _ (b8 0 _ (eD _ (fG _ (inl (bk az [.ah 2 (gw.map dG)]))))))
 exact dH h λn h=>Ca n [] [] 0 h
theorem aiF (a0 r:List anT) (h:yY a0=some r):aY ao 57 [.ah 1 (a0.map cO),.fn 58 []] (.tuple []) [.ah 1 (r.map cO),.hole]:=afn a0 r h
theorem aiG (a0 r:List anT) (h:yZ a0=some r):aY ao 59 [.ah 1 (a0.map cO),.fn 60 []] (.ah 1 (r.map cO)) [.hole,.hole]:=afE a0 r h
theorem aiH (a0 J a2 r) (h:Fe a0 J a2=some r):aY ao 30 [ej a0,.slice (J.map cB),.str a2] (.ah 1 (r.map cO)) []:=by
 refine b1 [0,1,2] [.tmp 6] Tryz.func30 aeE λbO az bQ=>aB ?_;refine aB ?_;refine aK az λ_ fS cz aS=>aB ?_;refine bA cz λoa _ cL dt bw=>?_;show bh ao (.loop ?h4) _ _;have iL:∀n qR qS,qT a0 J a2 n qR qS=some r->cU ao ?h4 oa (aj [(2,.str a2),(3,.aV (ej a0)),(7,.ah 1 (qR.map cO)),(12,.slice (J.map cB)),(13,.int .i64 (J.length:Int)),(14,.int .i64 qS)]):=by
  refine dc λm8 iM qR qS h=>db cL λ_ n6 dT bF=>aB ?_;refine aK dT λ_ n8 _ cA=>aU h (λfc h=>?_) λfc h=>?_
  .refine aZ (n8 _ (inl (aK dT λ_ n10 dx _=>bA dx λ_ n11 gH _ _=>?_)));obtain⟨af,dE,h⟩:=aE h;refine dd dE _ ?_;obtain⟨aw,eO,h⟩:=aE h;refine dp (aiE a0 af _ eO) _ ?_;refine bA gH λtm _ kY iN _=>?_;show bh ao (.loop ?Fw) _ _;have Lj:∀n ng nZ oI kb,wQ (qT a0 J a2 m8) a0 J a2 aw n ng nZ oI kb=some r->cU ao ?Fw tm (aj [(2,.str a2),(3,.aV (ej a0)),(7,.ah 1 (ng.map cO)),(12,.slice (J.map cB)),(13,.int .i64 (J.length:Int)),(14,.int .i64 nZ),(20,.ah 2 (oI.map ni)),(21,.int .i64 (aw.length:Int)),(22,.int .i64 kb)]):=by
    refine dc λm22 Lk ng nZ oI kb h=>db kY λLa n17 n9 iw=>aB ?_;refine aK n9 λ_ n19 _ pk=>aU h (λn4 h=>?_) λn4 h=>?_
    .refine aZ (n19 _ (inl ?_));show bh ao (.seq _ ?KG) _ _;have TI:∀y0 y1 y2 y3,Fb (qT a0 J a2 m8) (wQ (qT a0 J a2 m8) a0 J a2 aw m22) a0 J a2 aw y0 y1 y2 y3=some r->bh ao ?KG La (aj [(2,.str a2),(3,.aV (ej a0)),(7,.ah 1 (y0.map cO)),(12,.slice (J.map cB)),(13,.int .i64 (J.length:Int)),(14,.int .i64 y1),(20,.ah 2 (y2.map ni)),(21,.int .i64 (aw.length:Int)),(22,.int .i64 y3)]):=by
      intro y0 y1 y2 y3 h;refine eE ?_;exact n17 _ (inr ⟨_,b9 rfl,Lk y0 y1 y2 (i64.wrap (y3+1)) h⟩)
     refine aK n9 λ_ n21 lx _=>bA lx λ_ n23 _ _ _=>?_;obtain⟨aS,iz,h⟩:=aE h;obtain⟨aiI,q2,h⟩:=aE h;refine dn (cr [(2,.str a2),(3,.aV (ej a0)),(7,.ah 1 (ng.map cO)),(11,.aV (dG aS.2)),(12,.slice (J.map cB)),(13,.int .i64 (J.length:Int)),(14,.int .i64 nZ),(20,.ah 2 ((List.set oI (Int.toNat kb) (true,aS.2)).map ni)),(21,.int .i64 (aw.length:Int)),(22,.int .i64 kb)] (λP a_=>?_) ?_)
     .simp only[aQ.down,simprocAttr,iz,cn iz,w6.down,(sa q2)];exact cb (ad iz (ad (cn iz) (ad w6.down (sa q2))))
     refine ws [(2,.str a2),(3,.aV (ej a0)),(7,.ah 1 (ng.map cO)),(11,.aV (dG aS.2)),(12,.slice (J.map cB)),(13,.int .i64 (J.length:Int)),(14,.int .i64 nZ),(20,.ah 2 ((List.set oI (Int.toNat kb) (true,aS.2)).map ni)),(21,.int .i64 (aw.length:Int)),(22,.int .i64 kb),(29,.bool (aS.2.Label==a2))] ?_;refine aU h (λtj h=>?_) λtj h=>?_
     .obtain⟨aiI,Cr,h⟩:=aE h;(try simp only[B9.down,Nat.zero_add,Nat.add_zero,reduceAdd]at Cr);refine iv (cr [(2,.str a2),(3,.aV (ej a0)),(7,.ah 1 ((ng++[aS.2.Next]).map cO)),(12,.slice (J.map cB)),(13,.int .i64 (J.length:Int)),(14,.int .i64 nZ),(20,.ah 2 ((List.set oI (Int.toNat kb) (true,aS.2)).map ni)),(21,.int .i64 (aw.length:Int)),(22,.int .i64 kb)] (λP a_=>?_) ?_)
      .simp only[aQ.down,simprocAttr,SG.down,mx,d_,Cr];(try simp only[iy.down,simprocAttr,SG.down,mx,d_,Cr]at a_⊢);exact a_
      exact n23 _ (n21 _ (inr ⟨_,b9 rfl,TI (ng++[aS.2.Next]) nZ (List.set oI (Int.toNat kb) (true,aS.2)) kb h⟩))
     .exact aZ (n23 _ (n21 _ (inr ⟨_,b9 rfl,TI ng nZ (List.set oI (Int.toNat kb) (true,aS.2)) kb h⟩)))
    .refine cZ (pk 2 _ (iw 2 _ (iN _ (n11 _ (n10 _ (inl (eE ?_)))))));exact n6 _ (inr ⟨_,b9 rfl,iM ng (i64.wrap (nZ+1)) h⟩)
   obtain⟨n,h⟩:=oR h;exact rQ (inr ⟨_,hf [] rfl (dU (t:=2) (d:=.str a2) rfl (dU (t:=3) (d:=.aV (ej a0)) rfl (dU (t:=7) (d:=.ah 1 (qR.map cO)) rfl (dU (t:=12) (d:=.slice (J.map cB)) rfl (dU (t:=13) (d:=.int .i64 (J.length:Int)) rfl (dU (t:=14) (d:=.int .i64 qS) rfl (gZ (t:=20) (d:=.ah 2 (aw.map dG)) (bf:=.ah 2 ((List.map (λx=>(false,x)) aw).map ni)) rfl rfl (QH B3 _) (by decide) (dU (t:=21) (d:=.int .i64 (aw.length:Int)) rfl (dU (t:=22) (d:=.int .i64 0) rfl (hh)))))))))),Lj n qR qS (List.map (λx=>(false,x)) aw) 0 h⟩)
  .refine cZ (cA 0 _ (bF 0 _ (dt _ (fS _ (inl ?_)))));obtain⟨bu,k1,h⟩:=aE h;refine dn (cr [(7,.ah 1 (bu.map cO))] (λP a_=>?_) ?_)
   ·(try simp only[aQ.down,simprocAttr]);refine o7 [⟨.h 7 [],true,_,_⟩,⟨.fn 58 [],false,_,.hole⟩] (aiF qR _ k1) rfl rfl rfl (by simp only[aQ.down,simprocAttr,K2.down]) rfl rfl (inl rfl) ?_;simp only[aQ.down,simprocAttr,mU];exact cb trivial
   obtain⟨bw,xb,h⟩:=aE h;refine dn (cr [(6,.ah 1 (bw.map cO))] (λP a_=>?_) ?_)
   ·(try simp only[aQ.down,simprocAttr]);refine o7 [⟨.h 7 [],true,_,.hole⟩,⟨.fn 60 [],false,_,.hole⟩] (aiG bu _ xb) rfl rfl rfl (by simp only[aQ.down,simprocAttr,K2.down]) rfl rfl (inl rfl) ?_;simp only[aQ.down,simprocAttr,mU];exact cb trivial
   exact cE az [.ah 1 (bw.map cO)]
 obtain⟨n,h⟩:=oR h;exact rQ (inr ⟨_,hf [] rfl (dU (t:=2) (d:=.str a2) rfl (dU (t:=3) (d:=.aV (ej a0)) rfl (gZ (t:=7) (d:=.bd) (bf:=.ah 1 []) rfl rfl (.gN _) (by decide) (dU (t:=12) (d:=.slice (J.map cB)) rfl (dU (t:=13) (d:=.int .i64 (J.length:Int)) rfl (dU (t:=14) (d:=.int .i64 0) rfl (hh))))))),iL n [] 0 h⟩)
theorem TJ (a0 J r) (h:BT a0 J=some r):aY ao 9 [ej a0,.slice (J.map b3)] (.tuple [.ah 1 (r.1.map cO),.int .i64 r.2]) []:=by
 refine b1 [0,1] [.tmp 4,.tmp 5] Tryz.func9 c9 λbO az bQ=>aB ?_;refine aK az λ_ bY bl aw=>bA bl λ_ fS cz _ aS=>?_;obtain⟨af,cg,h⟩:=aE h;refine dp (ahR a0 _ cg) _ ?_;refine aU h (λeD h=>?_) λeD h=>?_
 .refine aB ?_;exact hT (cz _ (inr ⟨[(4,.ah 1 []),(5,.int .i64 1)],hf [] rfl (gZ (t:=4) (d:=.bd) rfl rfl (.gN _) (by decide) (dU rfl (hh))),lS [.ah 1 [],.int .i64 1]⟩))
 .obtain⟨aw,gi,h⟩:=aE h;refine dp (aij J _ gi) _ ?_;refine aU h (λgx h=>?_) λgx h=>?_
  .refine aB ?_;exact hT (cz _ (inr ⟨[(4,.ah 1 []),(5,.int .i64 2)],hf [] rfl (gZ (t:=4) (d:=.bd) rfl rfl (.gN _) (by decide) (dU rfl (hh))),lS [.ah 1 [],.int .i64 2]⟩))
  .refine aZ (fS _ (bY _ (inl ?_)));obtain⟨aS,dE,h⟩:=aE h;refine dn (cr [(1,.slice (J.map b3)),(2,.aV (ej a0)),(6,.ah 1 ([aS].map cO))] (λP a_=>?_) ?_)
   ·(try simp only[aQ.down,simprocAttr,zk.down,mx,d_]);refine dv (aik a0.Start _ dE) (hK:= ?_);simp only[aQ.down,simprocAttr,zk.down,mx,d_];(try simp only[iy.down,simprocAttr,zk.down,mx,d_]at a_⊢);exact a_
   refine aK az λ_ n14 fe _=>aB ?_;refine bA fe λtm _ kY iN _=>?_;show bh ao (.loop ?KI) _ _;have aiJ:∀n r9 qU,uH a0 J n r9 qU=some r->cU ao ?KI tm (aj [(2,.aV (ej a0)),(6,.ah 1 (r9.map cO)),(21,.slice (J.map b3)),(22,.int .i64 (J.length:Int)),(23,.int .i64 qU)]):=by
    refine dc λ_ aiK r9 qU h=>db kY λ_ n17 n9 iw=>aB ?_;refine aK n9 λ_ n19 _ pk=>aU h (λn4 h=>?_) λn4 h=>?_
    .refine aZ (n19 _ (inl (aK n9 λ_ n21 lx _=>bA lx λ_ n22 n_ _ _=>?_)));obtain⟨bu,nm,h⟩:=aE h;refine dd nm _ ?_;obtain⟨bw,q2,h⟩:=aE h;refine dn (cr [(2,.aV (ej a0)),(6,.ah 1 (bw.map cO)),(21,.slice (J.map b3)),(22,.int .i64 (J.length:Int)),(23,.int .i64 qU)] (λP a_=>?_) ?_)
     ·(try simp only[aQ.down,simprocAttr]);refine dv (aiH a0 r9 bu _ q2) rfl rfl (by simp only[aQ.down,simprocAttr,K3.down]<;>rfl) rfl (inr (jY (λ_=>KA _) _)) ?_;simp only[aQ.down,simprocAttr];exact cb trivial
     refine aK n_ λ_ n27 uQ _=>aB ?_;refine aU h (λtg h=>?_) λtg h=>?_
     .refine aB ?_;exact hT (uQ _ (inr ⟨[(4,.ah 1 []),(5,.int .i64 5)],hf [] rfl (gZ (t:=4) (d:=.bd) rfl rfl (.gN _) (by decide) (dU rfl (hh))),lS [.ah 1 [],.int .i64 5]⟩))
     .refine aZ (n27 _ (inl (aB ?_)));refine aU h (λse h=>?_) λse h=>?_
      .refine aB ?_;exact hT (n_ _ (inr ⟨[(4,.ah 1 []),(5,.int .i64 3)],hf [] rfl (gZ (t:=4) (d:=.bd) rfl rfl (.gN _) (by decide) (dU rfl (hh))),lS [.ah 1 [],.int .i64 3]⟩))
      .refine aZ (n22 _ (n21 _ (inl (eE ?_))));exact n17 _ (inr ⟨_,b9 rfl,aiK bw (i64.wrap (qU+1)) h⟩)
    .exact cZ (pk 1 _ (iw 1 _ (iN _ (n14 _ (inl (bk az [.ah 1 (r9.map cO),.int .i64 0]))))))
   exact dH h λn h=>aiJ n [aS] 0 h
end Go.Proofs.YtcmimclaknmnbaaGreatDoor
