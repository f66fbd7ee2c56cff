/- Part of a proof that a law returns true for every input. No condition. -/
import Derived.Test.YtmaepbgkcmjcjafGreatDoorSl
namespace Go.Proofs.YtmaepbgkcmjcjafGreatDoor
open Option Go.IntKind Nat
open Go Go.eg Go.kX
set_option maxRecDepth 100000
set_option maxHeartbeats 8800000
set_option linter.unusedSimpArgs false
set_option linter.unusedVariables false
theorem bw (fx:ayf) (fQ:List ResultVar) {f:FuncId} {fn:Func} {ins outs:ayk} {r:I} (bD:ah.P.funcs[f]? =some fn) (ee:aC)
 (Nl:∀Q:Exit->ak->Prop,(∀s,eS (eg.Ends ah fx fQ r outs) s->Q .ret s)->(∀s,eS (eg.Ends ah fx fQ r outs) s->Q .normal s)->bn ah ee Q (aq (num 0 ins))) (ab:fW ⟨fn.ntmps,fx⟩ (fn.body.getD .skip)=some ee.strip:=by kernel_rfl) (aa:fn.body=some (fn.body.getD .skip):=by rfl) (mu:(fn.name== "runtime.NumGoroutine")=false:=by rfl) (aV:ins.length<=fn.ntmps:=by exact le_of_ble_eq_true rfl) (h6:fn.results.toList=fQ:=by rfl) (ax:ee.plain=true:=by kernel_rfl):aW ah f ins r outs:=
 aW.Of Oj fQ (num 0 ins) bD aa mu ab aV h6 rfl Nl ax
theorem cS {P:Nat->Prop} (s:∀m,P m->P (m+1)) (z:P 0:=by intros;rename_i h;cases(show none=some _ from h)):∀n,P n:=λn=>Nat.rec z s n
def Q6:=PLift.up (U @ahD (U @ahE (U @ahF (U @ahG (U @ahH (U @ahI (U @ahJ (U @ahK (U @ahL (U @ahM (U @ahN (U @ahO (U @ahP (U @ahQ (U @ahR (U @ahS (U @ahT (U @ahU (U @ahV (U @ahW (U @ahX (U @ahY (U @ahZ (U @ah0 (U @ah1 (U @ah2 (U @ah3 (U @ah4 (U @ah5 (U @ah6 (U @ah7 (U @ah8 (U @ah9 (U @ah_ (U @aia (U @aib (U @aic (U @aid (U @aie (U @aif (U @aih (U @aii (U @aij (U @aik (U @ail (U @aim (U @ain (U @aio (U @aip (U @i_.eq_1 (U @a8.eq_1 (U @eV.eq_1 (U @bx.eq_1 (U @b3.eq_1 (U @eW.eq_1 (U @ep.eq_1 (U @bB.eq_1 (U @cZ.eq_1 (U @dQ.eq_1 (U @dR.eq_1 (U @ajb (U @fv.eq_1 (U @jW.eq_1 (U @jU.eq_1 (U @jA.eq_1 (U @ky.eq_1 (U @jB.eq_1 (U @nN.eq_1 (U @mW.eq_1 (U @p2.eq_1 (U @gv.eq_1 (U @iX.eq_1 (U @ly.eq_1 (U @bm.eq_1 (U @aja (U @hC.eq_1 (U @hn.eq_1 (U @en.eq_1 (U @je.eq_1 (U @ea.eq_1 (U @hK.eq_1 (U @sZ.eq_1 (U @ajd (U @lQ.eq_1 (U @GN.eq_1 @lz.eq_1)))))))))))))))))))))))))))))))))))))))))))))))))))))))))))))))))))))))))))))))))))))
def aK:=PLift.up (U ahi.down Q6.down)
def c_:=PLift.up (U ahj.down Q6.down)
def j_:=PLift.up (U ahk.down Q6.down)
theorem bR {F A:Prop} (f:F) (h:F->A:=by intro bE;(try simp only[j_.down,simprocAttr,bE,db,eA,dX,fF,I.e5,I.shares]at bl⊢);exact bl):A:=h f
theorem wr {Q l ros k} (c6:ayj) (au:Q .normal (aq c6)) (h:∀P:ayj->Prop,P c6->dJ ah (aq l) ros none (λ_ s=>P (hs k s)):=by
 intro P bl;simp only[aK.down,simprocAttr,db,eA,dX,fF];(try simp only[j_.down,simprocAttr,db,eA,dX,fF]at bl⊢);exact bl):bn ah (.ez ros (some k)) Q (aq l):=
 h9 (b6 c6 (h) au)
theorem YH {Q l ros k g ds r} (ok:aW ah g ds r []) (c6:ayj) (au:Q .normal (aq c6)) (h:aW ah g ds r []->∀P:ayj->Prop,P c6->dJ ah (aq l) ros none (λ_ s=>P (hs k s)):=by
 intro mX P bl;(try simp only[aK.down,simprocAttr,db,eA,dX,fF]);(first|refine dD mX rfl rfl rfl rfl (.inl (by rfl)) ?_|refine iF mX rfl rfl rfl rfl (.inl (by rfl)) ?_);simp only[aK.down,simprocAttr,db,eA,dX,fF];(try simp only[j_.down,simprocAttr,db,eA,dX,fF]at bl⊢);exact bl):bn ah (.ez ros (some k)) Q (aq l):=
 h9 (b6 c6 (h ok) au)
theorem zL {Q l ros k g ds r} {F:Prop} (bE:F) (ok:aW ah g ds r []) (c6:ayj) (au:Q .normal (aq c6)) (h:aW ah g ds r []->F->∀P:ayj->Prop,P c6->dJ ah (aq l) ros none (λ_ s=>P (hs k s)):=by
 intro mX bE P bl;(try simp only[aK.down,simprocAttr,bE,db,eA,dX,fF]);(first|refine dD mX rfl rfl rfl rfl (.inl (by rfl)) ?_|refine iF mX rfl rfl rfl rfl (.inl (by rfl)) ?_);simp only[aK.down,simprocAttr,bE,db,eA,dX,fF];(try simp only[j_.down,simprocAttr,bE,db,eA,dX,fF]at bl⊢);exact bl):bn ah (.ez ros (some k)) Q (aq l):=
 h9 (b6 c6 (h ok bE) au)
theorem YI {Q l ros k cY g ds r} {F:Prop} (bE:F) (ok:aW ah g ds r []) (c6:ayj) (au:Q .normal (aq c6)) (h:aW ah g ds r []->F->∀P:ayj->Prop,P c6->dJ ah (aq l) ros (some []) (λacc s=>kp (nq cY) 0 [] (acc.getD []).reverse=true/\P (hs k s)):=by
 intro mX bE P bl;(try simp only[c_.down,simprocAttr,bE,db,eA,dX,fF]);(first|refine h_ mX rfl rfl rfl rfl (.inl (by rfl)) ?_|refine lN mX rfl rfl rfl rfl (.inl (by rfl)) ?_);simp only[c_.down,simprocAttr,bE,db,eA,dX,fF];refine⟨hY (by kernel_rfl),?_⟩;(try simp only[j_.down,simprocAttr,bE,db,eA,dX,fF]at bl⊢);exact bl) (hl:cY.length=ros.length:=by rfl):bn ah (.jM ros cY (some k)) Q (aq l):=
 NK hl (iU c6 (h ok bE) au)
theorem rH {Q l ros k} {F:Prop} (bE:F) (c6:ayj) (au:Q .normal (aq c6)) (h:F->∀P:ayj->Prop,P c6->dJ ah (aq l) ros none (λ_ s=>P (hs k s)):=by
 intro bE P bl;simp only[aK.down,simprocAttr,bE,db,eA,dX,fF];(try simp only[j_.down,simprocAttr,bE,db,eA,dX,fF]at bl⊢);exact bl):bn ah (.ez ros (some k)) Q (aq l):=
 h9 (b6 c6 (h bE) au)
theorem ws {Q l ros k b} (c6:ayj) (au:bn ah b Q (aq c6)) (h:∀P:ayj->Prop,P c6->dJ ah (aq l) ros none (λ_ s=>P (hs k s)):=by
 intro P bl;simp only[aK.down,simprocAttr,db,eA,dX,fF];(try simp only[j_.down,simprocAttr,db,eA,dX,fF]at bl⊢);exact bl):bn ah (.seq (.ez ros (some k)) b) Q (aq l):=
 dC (b6 c6 (h) au)
theorem cH {Q l ros k b g ds r} (ok:aW ah g ds r []) (c6:ayj) (au:bn ah b Q (aq c6)) (h:aW ah g ds r []->∀P:ayj->Prop,P c6->dJ ah (aq l) ros none (λ_ s=>P (hs k s)):=by
 intro mX P bl;(try simp only[aK.down,simprocAttr,db,eA,dX,fF]);(first|refine dD mX rfl rfl rfl rfl (.inl (by rfl)) ?_|refine iF mX rfl rfl rfl rfl (.inl (by rfl)) ?_);simp only[aK.down,simprocAttr,db,eA,dX,fF];(try simp only[j_.down,simprocAttr,db,eA,dX,fF]at bl⊢);exact bl):bn ah (.seq (.ez ros (some k)) b) Q (aq l):=
 dC (b6 c6 (h ok) au)
theorem eO {Q l ros k b g ds r} {F:Prop} (bE:F) (ok:aW ah g ds r []) (c6:ayj) (au:bn ah b Q (aq c6)) (h:aW ah g ds r []->F->∀P:ayj->Prop,P c6->dJ ah (aq l) ros none (λ_ s=>P (hs k s)):=by
 intro mX bE P bl;(try simp only[aK.down,simprocAttr,bE,db,eA,dX,fF]);(first|refine dD mX rfl rfl rfl rfl (.inl (by rfl)) ?_|refine iF mX rfl rfl rfl rfl (.inl (by rfl)) ?_);simp only[aK.down,simprocAttr,bE,db,eA,dX,fF];(try simp only[j_.down,simprocAttr,bE,db,eA,dX,fF]at bl⊢);exact bl):bn ah (.seq (.ez ros (some k)) b) Q (aq l):=
 dC (b6 c6 (h ok bE) au)
theorem axO {Q l ros k b cY} (c6:ayj) (au:bn ah b Q (aq c6)) (h:∀P:ayj->Prop,P c6->dJ ah (aq l) ros (some []) (λacc s=>kp (nq cY) 0 [] (acc.getD []).reverse=true/\P (hs k s)):=by
 intro P bl;simp only[c_.down,simprocAttr,db,eA,dX,fF];refine⟨hY (by kernel_rfl),?_⟩;(try simp only[j_.down,simprocAttr,db,eA,dX,fF]at bl⊢);exact bl) (hl:cY.length=ros.length:=by rfl):bn ah (.seq (.jM ros cY (some k)) b) Q (aq l):=
 jz hl (iU c6 (h) au)
theorem amC {Q l ros k b cY g ds r} (ok:aW ah g ds r []) (c6:ayj) (au:bn ah b Q (aq c6)) (h:aW ah g ds r []->∀P:ayj->Prop,P c6->dJ ah (aq l) ros (some []) (λacc s=>kp (nq cY) 0 [] (acc.getD []).reverse=true/\P (hs k s)):=by
 intro mX P bl;(try simp only[c_.down,simprocAttr,db,eA,dX,fF]);(first|refine h_ mX rfl rfl rfl rfl (.inl (by rfl)) ?_|refine lN mX rfl rfl rfl rfl (.inl (by rfl)) ?_);simp only[c_.down,simprocAttr,db,eA,dX,fF];refine⟨hY (by kernel_rfl),?_⟩;(try simp only[j_.down,simprocAttr,db,eA,dX,fF]at bl⊢);exact bl) (hl:cY.length=ros.length:=by rfl):bn ah (.seq (.jM ros cY (some k)) b) Q (aq l):=
 jz hl (iU c6 (h ok) au)
theorem lA {Q l ros k b cY g ds r} {F:Prop} (bE:F) (ok:aW ah g ds r []) (c6:ayj) (au:bn ah b Q (aq c6)) (h:aW ah g ds r []->F->∀P:ayj->Prop,P c6->dJ ah (aq l) ros (some []) (λacc s=>kp (nq cY) 0 [] (acc.getD []).reverse=true/\P (hs k s)):=by
 intro mX bE P bl;(try simp only[c_.down,simprocAttr,bE,db,eA,dX,fF]);(first|refine h_ mX rfl rfl rfl rfl (.inl (by rfl)) ?_|refine lN mX rfl rfl rfl rfl (.inl (by rfl)) ?_);simp only[c_.down,simprocAttr,bE,db,eA,dX,fF];refine⟨hY (by kernel_rfl),?_⟩;(try simp only[j_.down,simprocAttr,bE,db,eA,dX,fF]at bl⊢);exact bl) (hl:cY.length=ros.length:=by rfl):bn ah (.seq (.jM ros cY (some k)) b) Q (aq l):=
 jz hl (iU c6 (h ok bE) au)
theorem oT {Q l ros k b cY} {F:Prop} (bE:F) (c6:ayj) (au:bn ah b Q (aq c6)) (h:F->∀P:ayj->Prop,P c6->dJ ah (aq l) ros (some []) (λacc s=>kp (nq cY) 0 [] (acc.getD []).reverse=true/\P (hs k s)):=by
 intro bE P bl;simp only[c_.down,simprocAttr,bE,db,eA,dX,fF];refine⟨hY (by kernel_rfl),?_⟩;(try simp only[j_.down,simprocAttr,bE,db,eA,dX,fF]at bl⊢);exact bl) (hl:cY.length=ros.length:=by rfl):bn ah (.seq (.jM ros cY (some k)) b) Q (aq l):=
 jz hl (iU c6 (h bE) au)
theorem YJ {Q l ros k b cY} (e:Bool) {F:Prop} (bE:F) (c6:ayj) (au:bn ah b Q (aq c6)) (h:F->∀c,e=c->∀P:ayj->Prop,P c6->dJ ah (aq l) ros (some []) (λacc s=>kp (nq cY) 0 [] (acc.getD []).reverse=true/\P (hs k s)):=by
 intro bE c ar P bl;cases c;all_goals
  (try simp only[List.length_replicate]at ar);simp only[c_.down,simprocAttr,ar,bE,db,eA,dX,fF];refine⟨hY (by kernel_rfl),?_⟩;(try simp only[j_.down,simprocAttr,ar,bE,db,eA,dX,fF]at bl⊢);exact bl) (hl:cY.length=ros.length:=by rfl):bn ah (.seq (.jM ros cY (some k)) b) Q (aq l):=
 jz hl (iU c6 (h bE e rfl) au)
theorem cU {Q l ros k b} {F:Prop} (bE:F) (c6:ayj) (au:bn ah b Q (aq c6)) (h:F->∀P:ayj->Prop,P c6->dJ ah (aq l) ros none (λ_ s=>P (hs k s)):=by
 intro bE P bl;simp only[aK.down,simprocAttr,bE,db,eA,dX,fF];(try simp only[j_.down,simprocAttr,bE,db,eA,dX,fF]at bl⊢);exact bl):bn ah (.seq (.ez ros (some k)) b) Q (aq l):=
 dC (b6 c6 (h bE) au)
theorem rI {Q l ros k b} {F:Prop} (bE:F) (c6:ayj) (au:bn ah b Q (aq c6)) (h:F->∀P:ayj->Prop,P c6->dJ ah (aq l) ros none (λ_ s=>P (hs k s)):=by
 intro bE P bl;simp only[aK.down,simprocAttr,bE,db,eA,dX,fF,-Int.reduceNatCast'];(try simp only[j_.down,simprocAttr,bE,db,eA,dX,fF,-Int.reduceNatCast']at bl⊢);exact bl):bn ah (.seq (.ez ros (some k)) b) Q (aq l):=
 dC (b6 c6 (h bE) au)
theorem nP {Q l ros k b} (e:Bool) (c6:ayj) (au:bn ah b Q (aq c6)) (h:∀c,e=c->∀P:ayj->Prop,P c6->dJ ah (aq l) ros none (λ_ s=>P (hs k s)):=by
 intro c ar P bl;cases c;all_goals
  (try simp only[List.length_replicate]at ar);simp only[aK.down,simprocAttr,ar,db,eA,dX,fF];(try simp only[j_.down,simprocAttr,ar,db,eA,dX,fF]at bl⊢);exact bl):bn ah (.seq (.ez ros (some k)) b) Q (aq l):=
 dC (b6 c6 (h e rfl) au)
theorem KN {Q l ros k b} (e:Bool) {F:Prop} (bE:F) (c6:ayj) (au:bn ah b Q (aq c6)) (h:F->∀c,e=c->∀P:ayj->Prop,P c6->dJ ah (aq l) ros none (λ_ s=>P (hs k s)):=by
 intro bE c ar P bl;cases c;all_goals
  (try simp only[List.length_replicate]at ar);simp only[aK.down,simprocAttr,ar,bE,db,eA,dX,fF];(try simp only[j_.down,simprocAttr,ar,bE,db,eA,dX,fF]at bl⊢);exact bl):bn ah (.seq (.ez ros (some k)) b) Q (aq l):=
 dC (b6 c6 (h bE e rfl) au)
def fN:=PLift.up (U @List.length_append.{0} (U @List.length_cons.{0} (U @List.length_nil.{0} (U @List.length_map.{0,0} @List.length_replicate.{0}))))
def mz:=PLift.up (U @vr @vt)
def rJ:=PLift.up (U (@nr ah 71 [(9,0),(2,1),(2,2),(40,3)] [(.str []),(.int .i64 0),(.int .i64 0),.bg] rfl rfl (by kernel_rfl)) (U @l6 (U @l7 (U @cO (U @gO (U @List.nil_append.{0} (U @List.cons_append.{0} (U @oK (U @oJ (U @cG (U @oI (@bV _ ea bB (λ_=>nO _)))))))))))))
def rK:=PLift.up (U @xz (U @xB @xA))
def x0:=PLift.up (U @gN (U @gP (U @gQ @cG)))
def C5:=PLift.up (U (@kr ah 54 54 2 rfl rfl) (U @ks (U @kt (U @gO (U @all_cons (U @all_nil (U (@jO _ a8 1 (λ_=>rfl)) (U @oK (U @oJ (U @cG (U @oI (@bV _ a8 a8 (λ_=>jV _)))))))))))))
def C6:=PLift.up (U @gN (U @gP (U @gQ (U @cG (U (@bV _ en eW (λ_=>GQ _)) (@bV _ eW eW (λ_=>XM _)))))))
def KO:=PLift.up (U (@nr ah 100 [(9,0),(65,1)] [(.str []),(.agg [(.int .i64 0),(.int .i64 0),.bg])] rfl rfl (by kernel_rfl)) (U @l6 (U @l7 (U @cO (U @gO (U @List.nil_append.{0} (U @List.cons_append.{0} (U @oK (U @oJ (U @cG (U @oI (@bV _ a8 a8 (λ_=>jV _)))))))))))))
def KP:=PLift.up (U @gN (U @gP (U @gQ (U @cG (@bV _ a8 a8 (λ_=>jV _))))))
def KQ:=PLift.up (U (@ER ah 95 100 1 4 [(.agg [(.str []),(.agg [(.int .i64 0),(.int .i64 0),.bg])])] rfl rfl rfl (by kernel_rfl)) (U @l6 (U @l7 (U @cO (U @gO (U @List.nil_append.{0} (U @List.cons_append.{0} (U (@kr ah 95 95 100 rfl rfl) (U @ks (U @kt (U @all_cons (U @all_nil (@jO _ hK 4 (λ_=>rfl))))))))))))))
def KR:=PLift.up (U (@nr ah 71 [(9,0),(2,1),(2,2),(40,3)] [(.str []),(.int .i64 0),(.int .i64 0),.bg] rfl rfl (by kernel_rfl)) (U @l6 (U @l7 (U @cO (U @gO (U @List.nil_append.{0} (U @List.cons_append.{0} (U (@ER ah 31 71 1 4 [(.agg [(.str []),(.int .i64 0),(.int .i64 0),.bg])] rfl rfl rfl (by kernel_rfl)) (U (@kr ah 31 31 71 rfl rfl) (U @ks (U @kt (U @all_cons (U @all_nil (@jO _ en 4 (λ_=>rfl)))))))))))))))
def KS:=PLift.up (U @oK (U @oJ (U @cG (U @oI (U (@bV _ a8 a8 (λ_=>jV _)) (@bV _ bB bB (λ_=>vX _)))))))
def KT:=PLift.up (U @xz (U @xB (U @xA (U @WA (U @ku @NC)))))
def KU:=PLift.up (U @xz (U @xB (U @xA (U @j5 (U @WA @ku)))))
def Q7:=PLift.up (U @mw (U @kW (U @ku (U @gN (U @gP (U @gQ (U @cG (U @or_true (U @true_or (@bV _ cZ cZ (λ_=>C4 _)))))))))))
def Q8:=PLift.up (U (@nr ah 65 [(2,0),(2,1),(54,2)] [(.int .i64 0),(.int .i64 0),.bg] rfl rfl (by kernel_rfl)) (U @l6 (U @l7 (U @cO (U @gO (U @List.nil_append.{0} (U @List.cons_append.{0} (U (@ER ah 40 65 1 3 [(.agg [(.int .i64 0),(.int .i64 0),.bg])] rfl rfl rfl (by kernel_rfl)) (U (@kr ah 40 40 65 rfl rfl) (U @ks (U @kt (U @all_cons (U @all_nil (@jO _ ea 3 (λ_=>rfl)))))))))))))))
def Q9:=PLift.up (U (@nr ah 71 [(9,0),(2,1),(2,2),(40,3)] [(.str []),(.int .i64 0),(.int .i64 0),.bg] rfl rfl (by kernel_rfl)) (U @l6 (U @l7 (U @cO (U @gO (U @List.nil_append.{0} (U @List.cons_append.{0} (U @oK (U @oJ (U @cG (U @oI (U (@bV _ ea bB (λ_=>nO _)) (U @gN (U @gP (U @gQ (U @cG (@bV _ bB bB (λ_=>vX _))))))))))))))))))
def Q_:=PLift.up (U (@nr ah 71 [(9,0),(2,1),(2,2),(40,3)] [(.str []),(.int .i64 0),(.int .i64 0),.bg] rfl rfl (by kernel_rfl)) (U @l6 (U @l7 (U @cO (U @gO (U @List.nil_append.{0} (U @List.cons_append.{0} (U @oK (U @oJ (U @cG (U @oI (U (@bV _ ea bB (λ_=>nO _)) (U @mw (U @kW (U @ku (U @gN (U @gP (U @gQ (U @cG (U @or_true (U @true_or (@bV _ eW eW (λ_=>XM _)))))))))))))))))))))))
def Ra:=PLift.up (U (@nr ah 71 [(9,0),(2,1),(2,2),(40,3)] [(.str []),(.int .i64 0),(.int .i64 0),.bg] rfl rfl (by kernel_rfl)) (U @l6 (U @l7 (U @cO (U @gO (U @List.nil_append.{0} (U @List.cons_append.{0} (U @oK (U @oJ (U @cG (U @oI (U (@bV _ ea bB (λ_=>nO _)) @j5))))))))))))
def Rb:=PLift.up (U @gN (U @gP (U @gQ (U @cG (@bV _ bm bm (λ_=>k5 _))))))
def Rc:=PLift.up (U @mw (U @kW (U @ku (U @gN (U @gP (U @gQ (U @cG (U @or_true (U @true_or (U (@bV _ bx bx (λ_=>uR _)) (@bV _ hK cZ (λ_=>GM _))))))))))))
def Rd:=PLift.up (U (@ER ah 40 65 1 3 [(.agg [(.int .i64 0),(.int .i64 0),.bg])] rfl rfl rfl (by kernel_rfl)) (U @l6 (U @l7 (U @cO (U @gO (U @List.nil_append.{0} (U @List.cons_append.{0} (U (@kr ah 40 40 65 rfl rfl) (U @ks (U @kt (U @all_cons (U @all_nil (@jO _ ea 3 (λ_=>rfl))))))))))))))
def YK:=PLift.up (U @gN (U @gP (U @gQ (U @cG (@bV _ ep ep (λ_=>KC _))))))
def YL:=PLift.up (U @gN (U @gP (U @gQ (U @cG (U (@bV _ a8 a8 (λ_=>jV _)) (@bV _ a8 a8 (λ_=>jV _)))))))
def YM:=PLift.up (U (@kr ah 54 54 2 rfl rfl) (U @ks (U @kt (U @gO (U @all_cons (U @all_nil (U (@jO _ a8 1 (λ_=>rfl)) (U @oK (U @oJ (U @cG (U @oI (U (@bV _ a8 a8 (λ_=>jV _)) (U @List.map_append.{0,0} (U @List.map_set.{0,0} (U @List.map_cons.{0,0} @List.map_nil.{0,0})))))))))))))))
def YN:=PLift.up (U (@kr ah 54 54 2 rfl rfl) (U @ks (U @kt (U @gO (U @all_cons (U @all_nil (U (@jO _ a8 1 (λ_=>rfl)) (U @oK (U @oJ (U @cG (U @oI (U (@bV _ a8 a8 (λ_=>jV _)) @j5))))))))))))
def YO:=PLift.up (U @gN (U @gP (U @gQ (U @cG (U (@bV _ bx bx (λ_=>uR _)) (U (@bV _ eV eV (λ_=>C2 _)) (U (@bV _ b3 b3 (λ_=>qH _)) (U (@bV _ bm bm (λ_=>k5 _)) (@bV _ bm bm (λ_=>k5 _))))))))))
def YP:=PLift.up (U (@ER ah 264 229 1 1 [.er] rfl rfl rfl (by kernel_rfl)) (U @l6 (U @l7 (U @cO (U @gO (U @List.nil_append.{0} (U @List.cons_append.{0} (U (@kr ah 264 264 229 rfl rfl) (U @ks (U @kt (U @all_cons (U @all_nil (@jO _ lQ 1 (λ_=>rfl))))))))))))))
def YQ:=PLift.up (U (@nr ah 100 [(9,0),(65,1)] [(.str []),(.agg [(.int .i64 0),(.int .i64 0),.bg])] rfl rfl (by kernel_rfl)) (U @l6 (U @l7 (U @cO (U @gO (U @List.nil_append.{0} @List.cons_append.{0}))))))
def YR:=PLift.up (U (λs y q=>(WD ah s 25 y q).1) (λs y q=>(WD ah s 25 y q).2.1))
def YS:=PLift.up (U @vr (U @vt (U @gN (U @gP (U @gQ (U @cG (@bV _ ea bB (λ_=>nO _))))))))
def YT:=PLift.up (U @oK (U @oJ (U @cG (U @oI (U (@bV _ a8 a8 (λ_=>jV _)) (U (@bV _ bB bB (λ_=>vX _)) (U @mw (U @kW (U @ku (U @gN (U @gP (U @gQ (U @cG (U @or_true (U @true_or (U (@bV _ bx bx (λ_=>uR _)) (U (@bV _ eV eV (λ_=>C2 _)) (U (@bV _ b3 b3 (λ_=>qH _)) (U (@bV _ bm bm (λ_=>k5 _)) (U (@bV _ bm bm (λ_=>k5 _)) (U (@bV _ bB bB (λ_=>vX _)) (@bV _ en eW (λ_=>GQ _)))))))))))))))))))))))
def YU:=PLift.up (U @oK (U @oJ (U @cG (U @oI (U (@bV _ a8 a8 (λ_=>jV _)) (U (@bV _ bB bB (λ_=>vX _)) @j5))))))
def YV:=PLift.up (U @kW (U @ku (U @gN (U @gP (U @gQ (U @cG (U @or_true (U @true_or (@bV _ a8 a8 (λ_=>jV _))))))))))
def YW:=PLift.up (U @xz (U @xB (U @xA (U @mw (U @kW (U @ku (U @gN (U @gP (U @gQ (U @cG (U @or_true (U @true_or (@bV _ bm bm (λ_=>k5 _))))))))))))))
def YX:=PLift.up (U @mw (U @kW (U @ku (U @gN (U @gP (U @gQ (U @cG (U @or_true (U @true_or (@bV _ ea bB (λ_=>nO _)))))))))))
def YY:=PLift.up (U @gN (U @gP (U @gQ (U @cG (U (@bV _ hn bx (λ_=>zI _)) (U (@bV _ hC eV (λ_=>zJ _)) (U (@bV _ b3 b3 (λ_=>qH _)) (U (@bV _ bm bm (λ_=>k5 _)) (U (@bV _ bm bm (λ_=>k5 _)) (@bV _ ea bB (λ_=>nO _)))))))))))
def YZ:=PLift.up (U @gN (U @gP (U @gQ (U @cG (@bV _ en eW (λ_=>GQ _))))))
theorem amD (a0 J r) (h:E8 a0 J=some r):aW ah 190 [.slice (a0.map mW),.int .i64 J] (.int .i64 r) []:=by
 refine bw [0] [.tmp 4] Tryz.func190 ajf (λbq ai bo=>?_);refine ws _ ?_;refine ws _ ?_;refine ay ai (λ_ fg dm _=>?_);refine ws _ ?_;refine aE h (λcV h=>?_) (λcV h=>?_)
 .refine ws _ ?_;exact aw (dm _ (.inl (az [.int .i64 (-1)])))
 .refine aL (fg _ (.inl ?_));refine ws _ ?_;exact aw (ai _ (.inl (az [.int .i64 (i64.wrap (J-(a0.length:Int)))])))
theorem amE (a0 J r) (h:I4 a0 J=some r):aW ah 157 [.slice (a0.map ly),.int .i64 J] (.int .i64 r) []:=by
 refine bw [0] [.tmp 4] Tryz.func157 c157 (λbq ai bo=>?_);refine ws _ ?_;refine ws _ ?_;refine ay ai (λ_ fg dm _=>?_);refine ws _ ?_;refine aE h (λcV h=>?_) (λcV h=>?_)
 .refine ws _ ?_;exact aw (dm _ (.inl (az [.int .i64 (-1)])))
 .refine aL (fg _ (.inl ?_));refine ay ai (λ_ dK eK _=>?_);refine ws _ ?_;refine bj eK (λjX _ bW e7 _=>?_);show bn ah (.loop ?kz) _ _;have k6:∀n eB ej,Ok a0 n eB ej=some r->cD ah ?kz jX (aq [(0,.slice (a0.map ly)),(1,.int .i64 eB),(5,.int .i64 ej)]):=by
   refine cS (λ_ k7 eB ej h=>cR bW (λ_ bT cw dI=>?_));refine ay cw (λ_ eE _ e6=>?_);refine ws _ ?_;refine aE h (λfh h=>?_) (λfh h=>?_)
   .refine aL (eE _ (.inl ?_));refine ay cw (λ_ eH ef _=>?_);refine bj ef (λ_ gi gS _ _=>?_);obtain⟨R,dL,h⟩:=al h;obtain⟨ae,eu,h⟩:=al h;refine eO dL (amD R eB _ eu) _ ?_;refine ws _ ?_;refine aE h (λfY h=>?_) (λfY h=>?_)
    .refine ws _ ?_;exact aw (gS _ (.inl (az [.int .i64 (-1)])))
    .refine aL (gi _ (eH _ (.inl ?_)));refine wr _ ?_;exact bT _ (.inr ⟨_,aZ rfl,k7 ae (i64.wrap (ej+1)) h⟩)
   .refine cK (e6 0 _ (dI 0 _ (e7 _ (dK _ (.inl ?_)))));refine ws _ ?_;exact aw (ai _ (.inl (az [.int .i64 eB])))
  obtain⟨n,h⟩:=cC h;exact cQ (.inr ⟨_,aZ rfl,k6 n (i64.wrap (J-(a0.length:Int))) 0 h⟩)
theorem amF (a0 J r) (h:E9 a0 J=some r):aW ah 107 [ky a0,.int .i64 J] (.int .i64 r) []:=by
 refine bw [0] [.tmp 4] Tryz.func107 c107 (λbq ai bo=>?_);refine ws _ ?_;refine ws _ ?_;refine ay ai (λ_ fg dm _=>?_);refine ws _ ?_;refine aE h (λcV h=>?_) (λcV h=>?_)
 .refine ws _ ?_;exact aw (dm _ (.inl (az [.int .i64 (-1)])))
 .refine aL (fg _ (.inl ?_));obtain⟨R,fJ,h⟩:=al h;refine cH (amE a0.cd (i64.wrap (J-(a0.Name.length:Int))) _ fJ) _ ?_;refine ay ai (λ_ cq bW _=>?_);refine ws _ ?_;refine aE h (λoq h=>?_) (λoq h=>?_)
  .refine ws _ ?_;exact aw (bW _ (.inl (az [.int .i64 (-1)])))
  .refine aL (cq _ (.inl ?_));refine ws _ ?_;exact aw (ai _ (.inl (az [.int .i64 R])))
theorem amG (a0 J r) (h:I5 a0 J=some r):aW ah 75 [.slice (a0.map ky),.int .i64 J] (.int .i64 r) []:=by
 refine bw [0] [.tmp 4] Tryz.func75 c75 (λbq ai bo=>?_);refine ws _ ?_;refine ws _ ?_;refine ay ai (λ_ fg dm _=>?_);refine ws _ ?_;refine aE h (λcV h=>?_) (λcV h=>?_)
 .refine ws _ ?_;exact aw (dm _ (.inl (az [.int .i64 (-1)])))
 .refine aL (fg _ (.inl ?_));refine ay ai (λ_ dK eK _=>?_);refine ws _ ?_;refine bj eK (λjX _ bW e7 _=>?_);show bn ah (.loop ?kz) _ _;have k6:∀n eB ej,Ol a0 n eB ej=some r->cD ah ?kz jX (aq [(0,.slice (a0.map ky)),(1,.int .i64 eB),(5,.int .i64 ej)]):=by
   refine cS (λ_ k7 eB ej h=>cR bW (λ_ bT cw dI=>?_));refine ay cw (λ_ eE _ e6=>?_);refine ws _ ?_;refine aE h (λfh h=>?_) (λfh h=>?_)
   .refine aL (eE _ (.inl ?_));refine ay cw (λ_ eH ef _=>?_);refine bj ef (λ_ gi gS _ _=>?_);obtain⟨R,dL,h⟩:=al h;obtain⟨ae,eu,h⟩:=al h;refine eO dL (amF R eB _ eu) _ ?_;refine ws _ ?_;refine aE h (λfY h=>?_) (λfY h=>?_)
    .refine ws _ ?_;exact aw (gS _ (.inl (az [.int .i64 (-1)])))
    .refine aL (gi _ (eH _ (.inl ?_)));refine wr _ ?_;exact bT _ (.inr ⟨_,aZ rfl,k7 ae (i64.wrap (ej+1)) h⟩)
   .refine cK (e6 0 _ (dI 0 _ (e7 _ (dK _ (.inl ?_)))));refine ws _ ?_;exact aw (ai _ (.inl (az [.int .i64 eB])))
  obtain⟨n,h⟩:=cC h;exact cQ (.inr ⟨_,aZ rfl,k6 n (i64.wrap (J-(a0.length:Int))) 0 h⟩)
theorem amH (a0 J r) (h:E_ a0 J=some r):aW ah 44 [jU a0,.int .i64 J] (.int .i64 r) []:=by
 refine bw [0] [.tmp 4] Tryz.func44 GR (λbq ai bo=>?_);refine ws _ ?_;refine ws _ ?_;refine ay ai (λ_ fg dm _=>?_);refine ws _ ?_;refine aE h (λcV h=>?_) (λcV h=>?_)
 .refine ws _ ?_;exact aw (dm _ (.inl (az [.int .i64 (-1)])))
 .refine aL (fg _ (.inl ?_));obtain⟨R,fJ,h⟩:=al h;refine cH (amG a0.Body (i64.wrap (J-(a0.Name.length:Int))) _ fJ) _ ?_;refine ay ai (λ_ cq bW _=>?_);refine ws _ ?_;refine aE h (λoq h=>?_) (λoq h=>?_)
  .refine ws _ ?_;exact aw (bW _ (.inl (az [.int .i64 (-1)])))
  .refine aL (cq _ (.inl ?_));refine ws _ ?_;exact aw (ai _ (.inl (az [.int .i64 R])))
theorem amI (a0 J r) (h:I6 a0 J=some r):aW ah 17 [.slice (a0.map jU),.int .i64 J] (.int .i64 r) []:=by
 refine bw [0] [.tmp 4] Tryz.func17 ajg (λbq ai bo=>?_);refine ws _ ?_;refine ws _ ?_;refine ay ai (λ_ fg dm _=>?_);refine ws _ ?_;refine aE h (λcV h=>?_) (λcV h=>?_)
 .refine ws _ ?_;exact aw (dm _ (.inl (az [.int .i64 (-1)])))
 .refine aL (fg _ (.inl ?_));refine ay ai (λ_ dK eK _=>?_);refine ws _ ?_;refine bj eK (λjX _ bW e7 _=>?_);show bn ah (.loop ?kz) _ _;have k6:∀n eB ej,Om a0 n eB ej=some r->cD ah ?kz jX (aq [(0,.slice (a0.map jU)),(1,.int .i64 eB),(5,.int .i64 ej)]):=by
   refine cS (λ_ k7 eB ej h=>cR bW (λ_ bT cw dI=>?_));refine ay cw (λ_ eE _ e6=>?_);refine ws _ ?_;refine aE h (λfh h=>?_) (λfh h=>?_)
   .refine aL (eE _ (.inl ?_));refine ay cw (λ_ eH ef _=>?_);refine bj ef (λ_ gi gS _ _=>?_);obtain⟨R,dL,h⟩:=al h;obtain⟨ae,eu,h⟩:=al h;refine eO dL (amH R eB _ eu) _ ?_;refine ws _ ?_;refine aE h (λfY h=>?_) (λfY h=>?_)
    .refine ws _ ?_;exact aw (gS _ (.inl (az [.int .i64 (-1)])))
    .refine aL (gi _ (eH _ (.inl ?_)));refine wr _ ?_;exact bT _ (.inr ⟨_,aZ rfl,k7 ae (i64.wrap (ej+1)) h⟩)
   .refine cK (e6 0 _ (dI 0 _ (e7 _ (dK _ (.inl ?_)))));refine ws _ ?_;exact aw (ai _ (.inl (az [.int .i64 eB])))
  obtain⟨n,h⟩:=cC h;exact cQ (.inr ⟨_,aZ rfl,k6 n (i64.wrap (J-(a0.length:Int))) 0 h⟩)
theorem Y0 (a0 J r) (h:Fa a0 J=some r):aW ah 47 [.slice (a0.map a8),.int .i64 J] (.int .i64 r) []:=by
 refine bw [0] [.tmp 4] Tryz.func47 ajh (λbq ai bo=>?_);refine ws _ ?_;refine ws _ ?_;refine ay ai (λ_ fg dm _=>?_);refine ws _ ?_;refine aE h (λcV h=>?_) (λcV h=>?_)
 .refine ws _ ?_;exact aw (dm _ (.inl (az [.int .i64 (-1)])))
 .refine aL (fg _ (.inl ?_));refine ws _ ?_;exact aw (ai _ (.inl (az [.int .i64 (i64.wrap (J-(a0.length:Int)))])))
theorem amJ (a0 J r) (h:Fb a0 J=some r):aW ah 45 [jW a0,.int .i64 J] (.int .i64 r) []:=by
 refine bw [0] [.tmp 4] Tryz.func45 aji (λbq ai bo=>?_);refine ws _ ?_;obtain⟨R,aU,h⟩:=al h;refine cH (Y0 a0.bH J _ aU) _ ?_;refine ay ai (λ_ fa bG _=>?_);refine ws _ ?_;refine aE h (λdA h=>?_) (λdA h=>?_)
 .refine ws _ ?_;exact aw (bG _ (.inl (az [.int .i64 (-1)])))
 .refine aL (fa _ (.inl ?_));refine ws _ ?_;exact aw (ai _ (.inl (az [.int .i64 R])))
theorem amK (a0 J r) (h:I7 a0 J=some r):aW ah 18 [.slice (a0.map jW),.int .i64 J] (.int .i64 r) []:=by
 refine bw [0] [.tmp 4] Tryz.func18 ajj (λbq ai bo=>?_);refine ws _ ?_;refine ws _ ?_;refine ay ai (λ_ fg dm _=>?_);refine ws _ ?_;refine aE h (λcV h=>?_) (λcV h=>?_)
 .refine ws _ ?_;exact aw (dm _ (.inl (az [.int .i64 (-1)])))
 .refine aL (fg _ (.inl ?_));refine ay ai (λ_ dK eK _=>?_);refine ws _ ?_;refine bj eK (λjX _ bW e7 _=>?_);show bn ah (.loop ?kz) _ _;have k6:∀n eB ej,On a0 n eB ej=some r->cD ah ?kz jX (aq [(0,.slice (a0.map jW)),(1,.int .i64 eB),(5,.int .i64 ej)]):=by
   refine cS (λ_ k7 eB ej h=>cR bW (λ_ bT cw dI=>?_));refine ay cw (λ_ eE _ e6=>?_);refine ws _ ?_;refine aE h (λfh h=>?_) (λfh h=>?_)
   .refine aL (eE _ (.inl ?_));refine ay cw (λ_ eH ef _=>?_);refine bj ef (λ_ gi gS _ _=>?_);obtain⟨R,dL,h⟩:=al h;obtain⟨ae,eu,h⟩:=al h;refine eO dL (amJ R eB _ eu) _ ?_;refine ws _ ?_;refine aE h (λfY h=>?_) (λfY h=>?_)
    .refine ws _ ?_;exact aw (gS _ (.inl (az [.int .i64 (-1)])))
    .refine aL (gi _ (eH _ (.inl ?_)));refine wr _ ?_;exact bT _ (.inr ⟨_,aZ rfl,k7 ae (i64.wrap (ej+1)) h⟩)
   .refine cK (e6 0 _ (dI 0 _ (e7 _ (dK _ (.inl ?_)))));refine ws _ ?_;exact aw (ai _ (.inl (az [.int .i64 eB])))
  obtain⟨n,h⟩:=cC h;exact cQ (.inr ⟨_,aZ rfl,k6 n (i64.wrap (J-(a0.length:Int))) 0 h⟩)
theorem amL (a0 J r) (h:Fe a0 J=some r):aW ah 46 [jA a0,.int .i64 J] (.int .i64 r) []:=by
 refine bw [0] [.tmp 4] Tryz.func46 c46 (λbq ai bo=>?_);refine ws _ ?_;refine ws _ ?_;refine ay ai (λ_ fg dm _=>?_);refine ws _ ?_;refine aE h (λcV h=>?_) (λcV h=>?_)
 .refine ws _ ?_;exact aw (dm _ (.inl (az [.int .i64 (-1)])))
 .refine aL (fg _ (.inl ?_));refine ws _ ?_;refine ay ai (λ_ iY hL _=>?_);refine ws _ ?_;refine aE h (λfl h=>?_) (λfl h=>?_)
  .refine ws _ ?_;exact aw (hL _ (.inl (az [.int .i64 (-1)])))
  .refine aL (iY _ (.inl ?_));refine ws _ ?_;refine ay ai (λ_ fE fB _=>?_);refine ws _ ?_;refine aE h (λe0 h=>?_) (λe0 h=>?_)
   .refine ws _ ?_;exact aw (fB _ (.inl (az [.int .i64 (-1)])))
   .refine aL (fE _ (.inl ?_));refine ws _ ?_;exact aw (ai _ (.inl (az [.int .i64 (i64.wrap ((i64.wrap ((i64.wrap (J-(a0.Left.length:Int)))-(a0.cx.length:Int)))-(a0.Result.length:Int)))])))
theorem amM (a0 J r) (h:I8 a0 J=some r):aW ah 19 [.slice (a0.map jA),.int .i64 J] (.int .i64 r) []:=by
 refine bw [0] [.tmp 4] Tryz.func19 ajk (λbq ai bo=>?_);refine ws _ ?_;refine ws _ ?_;refine ay ai (λ_ fg dm _=>?_);refine ws _ ?_;refine aE h (λcV h=>?_) (λcV h=>?_)
 .refine ws _ ?_;exact aw (dm _ (.inl (az [.int .i64 (-1)])))
 .refine aL (fg _ (.inl ?_));refine ay ai (λ_ dK eK _=>?_);refine ws _ ?_;refine bj eK (λjX _ bW e7 _=>?_);show bn ah (.loop ?kz) _ _;have k6:∀n eB ej,Oo a0 n eB ej=some r->cD ah ?kz jX (aq [(0,.slice (a0.map jA)),(1,.int .i64 eB),(5,.int .i64 ej)]):=by
   refine cS (λ_ k7 eB ej h=>cR bW (λ_ bT cw dI=>?_));refine ay cw (λ_ eE _ e6=>?_);refine ws _ ?_;refine aE h (λfh h=>?_) (λfh h=>?_)
   .refine aL (eE _ (.inl ?_));refine ay cw (λ_ eH ef _=>?_);refine bj ef (λ_ gi gS _ _=>?_);obtain⟨R,dL,h⟩:=al h;obtain⟨ae,eu,h⟩:=al h;refine eO dL (amL R eB _ eu) _ ?_;refine ws _ ?_;refine aE h (λfY h=>?_) (λfY h=>?_)
    .refine ws _ ?_;exact aw (gS _ (.inl (az [.int .i64 (-1)])))
    .refine aL (gi _ (eH _ (.inl ?_)));refine wr _ ?_;exact bT _ (.inr ⟨_,aZ rfl,k7 ae (i64.wrap (ej+1)) h⟩)
   .refine cK (e6 0 _ (dI 0 _ (e7 _ (dK _ (.inl ?_)))));refine ws _ ?_;exact aw (ai _ (.inl (az [.int .i64 eB])))
  obtain⟨n,h⟩:=cC h;exact cQ (.inr ⟨_,aZ rfl,k6 n (i64.wrap (J-(a0.length:Int))) 0 h⟩)
theorem Y1 (a0 J r) (h:Ff a0 J=some r):aW ah 20 [.slice (a0.map bm),.int .i64 J] (.int .i64 r) []:=by
 refine bw [0] [.tmp 4] Tryz.func20 c20 (λbq ai bo=>?_);refine ws _ ?_;refine ws _ ?_;refine ay ai (λ_ fg dm _=>?_);refine ws _ ?_;refine aE h (λcV h=>?_) (λcV h=>?_)
 .refine ws _ ?_;exact aw (dm _ (.inl (az [.int .i64 (-1)])))
 .refine aL (fg _ (.inl ?_));refine ay ai (λ_ dK eK _=>?_);refine ws _ ?_;refine bj eK (λjX _ bW e7 _=>?_);show bn ah (.loop ?kz) _ _;have k6:∀n eB ej,Oq a0 n eB ej=some r->cD ah ?kz jX (aq [(0,.slice (a0.map bm)),(1,.int .i64 eB),(5,.int .i64 ej)]):=by
   refine cS (λ_ k7 eB ej h=>cR bW (λ_ bT cw dI=>?_));refine ay cw (λ_ eE _ e6=>?_);refine ws _ ?_;refine aE h (λfh h=>?_) (λfh h=>?_)
   .refine aL (eE _ (.inl ?_));refine ay cw (λ_ eH ef _=>?_);refine bj ef (λ_ gi gS _ _=>?_);obtain⟨R,dL,h⟩:=al h;refine cU dL _ ?_;refine ws _ ?_;refine aE h (λfO h=>?_) (λfO h=>?_)
    .refine ws _ ?_;exact aw (gS _ (.inl (az [.int .i64 (-1)])))
    .refine aL (gi _ (eH _ (.inl ?_)));refine wr _ ?_;exact bT _ (.inr ⟨_,aZ rfl,k7 (i64.wrap (eB-(R.length:Int))) (i64.wrap (ej+1)) h⟩)
   .refine cK (e6 0 _ (dI 0 _ (e7 _ (dK _ (.inl ?_)))));refine ws _ ?_;exact aw (ai _ (.inl (az [.int .i64 eB])))
  obtain⟨n,h⟩:=cC h;exact cQ (.inr ⟨_,aZ rfl,k6 n (i64.wrap (J-(a0.length:Int))) 0 h⟩)
theorem amN (a0 J r) (h:Fg a0 J=some r):aW ah 4 [nN a0,.int .i64 J] (.int .i64 r) []:=by
 refine bw [0] [.tmp 4] Tryz.func4 c4 (λbq ai bo=>?_);refine ws _ ?_;obtain⟨R,aU,h⟩:=al h;refine cH (amI a0.c8 J _ aU) _ ?_;refine ay ai (λ_ fa bG aX=>?_);refine ws _ ?_;refine aE h (λdA h=>?_) (λdA h=>?_)
 .refine ws _ ?_;exact aw (bG _ (.inl (az [.int .i64 (-1)])))
 .refine aL (fa _ (.inl ?_));obtain⟨ae,jl,h⟩:=al h;refine cH (amK a0.cL R _ jl) _ ?_;refine ay ai (λ_ bT cw _=>?_);refine ws _ ?_;refine aE h (λe1 h=>?_) (λe1 h=>?_)
  .refine ws _ ?_;exact aw (cw _ (.inl (az [.int .i64 (-1)])))
  .refine aL (bT _ (.inl ?_));obtain⟨aD,dZ,h⟩:=al h;refine cH (amM a0.cz ae _ dZ) _ ?_;refine ay ai (λ_ lB nQ _=>?_);refine ws _ ?_;refine aE h (λh0 h=>?_) (λh0 h=>?_)
   .refine ws _ ?_;exact aw (nQ _ (.inl (az [.int .i64 (-1)])))
   .refine aL (lB _ (.inl ?_));obtain⟨aX,gW,h⟩:=al h;refine cH (Y1 a0.dj aD _ gW) _ ?_;refine ay ai (λ_ ot nR _=>?_);refine ws _ ?_;refine aE h (λic h=>?_) (λic h=>?_)
    .refine ws _ ?_;exact aw (nR _ (.inl (az [.int .i64 (-1)])))
    .refine aL (ot _ (.inl ?_));obtain⟨aT,rL,h⟩:=al h;refine cH (Y1 a0.dk aX _ rL) _ ?_;refine ay ai (λ_ amO GV _=>?_);refine ws _ ?_;refine aE h (λpx h=>?_) (λpx h=>?_)
     .refine ws _ ?_;exact aw (GV _ (.inl (az [.int .i64 (-1)])))
     .refine aL (amO _ (.inl ?_));refine ws _ ?_;exact aw (ai _ (.inl (az [.int .i64 aT])))
theorem amP (a0 J r) (h:Fh a0 J=some r):aW ah 21 [jB a0,.int .i64 J] (.int .i64 r) []:=by
 refine bw [0] [.tmp 4] Tryz.func21 c21 (λbq ai bo=>?_);refine ws _ ?_;obtain⟨R,aU,h⟩:=al h;refine cH (Y0 a0.bH J _ aU) _ ?_;refine ay ai (λ_ fa bG _=>?_);refine ws _ ?_;refine aE h (λdA h=>?_) (λdA h=>?_)
 .refine ws _ ?_;exact aw (bG _ (.inl (az [.int .i64 (-1)])))
 .refine aL (fa _ (.inl ?_));refine ws _ ?_;exact aw (ai _ (.inl (az [.int .i64 R])))
theorem amQ (a0 J r) (h:I9 a0 J=some r):aW ah 5 [.slice (a0.map jB),.int .i64 J] (.int .i64 r) []:=by
 refine bw [0] [.tmp 4] Tryz.func5 c5 (λbq ai bo=>?_);refine ws _ ?_;refine ws _ ?_;refine ay ai (λ_ fg dm _=>?_);refine ws _ ?_;refine aE h (λcV h=>?_) (λcV h=>?_)
 .refine ws _ ?_;exact aw (dm _ (.inl (az [.int .i64 (-1)])))
 .refine aL (fg _ (.inl ?_));refine ay ai (λ_ dK eK _=>?_);refine ws _ ?_;refine bj eK (λjX _ bW e7 _=>?_);show bn ah (.loop ?kz) _ _;have k6:∀n eB ej,Ot a0 n eB ej=some r->cD ah ?kz jX (aq [(0,.slice (a0.map jB)),(1,.int .i64 eB),(5,.int .i64 ej)]):=by
   refine cS (λ_ k7 eB ej h=>cR bW (λ_ bT cw dI=>?_));refine ay cw (λ_ eE _ e6=>?_);refine ws _ ?_;refine aE h (λfh h=>?_) (λfh h=>?_)
   .refine aL (eE _ (.inl ?_));refine ay cw (λ_ eH ef _=>?_);refine bj ef (λ_ gi gS _ _=>?_);obtain⟨R,dL,h⟩:=al h;obtain⟨ae,eu,h⟩:=al h;refine eO dL (amP R eB _ eu) _ ?_;refine ws _ ?_;refine aE h (λfY h=>?_) (λfY h=>?_)
    .refine ws _ ?_;exact aw (gS _ (.inl (az [.int .i64 (-1)])))
    .refine aL (gi _ (eH _ (.inl ?_)));refine wr _ ?_;exact bT _ (.inr ⟨_,aZ rfl,k7 ae (i64.wrap (ej+1)) h⟩)
   .refine cK (e6 0 _ (dI 0 _ (e7 _ (dK _ (.inl ?_)))));refine ws _ ?_;exact aw (ai _ (.inl (az [.int .i64 eB])))
  obtain⟨n,h⟩:=cC h;exact cQ (.inr ⟨_,aZ rfl,k6 n (i64.wrap (J-(a0.length:Int))) 0 h⟩)
theorem amR (a0 r) (h:Fi a0=some r):aW ah 228 [mW a0] (dR r) []:=by
 refine bw [0] [.cell 2 248] Tryz.func228 c228 (λbq ai bo=>?_);refine ws _ ?_;refine ws _ ?_;refine ws _ ?_;refine ws _ ?_;refine ws _ ?_;exact aw (ai _ (.inl (az [dR (bQ.mk a0.Kind a0.Value)])))
theorem amS (a0 r) (h:Fj a0=some r):aW ah 196 [.slice (a0.map mW)] (.ag 2 (r.map dR)) []:=by
 refine bw [0] [.tmp 2] Tryz.func196 c196 (λbq ai bo=>?_);refine ws _ ?_;obtain⟨zM,aU,h⟩:=al h;refine rI (U (qT aU) @List.map_replicate.{0,0}) [(0,.slice (a0.map mW)),(3,.ag 2 ((List.replicate (Int.toNat (a0.length:Int)) (bQ.mk 0 0)).map dR))] ?_;refine ay ai (λ_ fa bG _=>?_);refine ws [(0,.slice (a0.map mW)),(3,.ag 2 ((List.replicate (Int.toNat (a0.length:Int)) (bQ.mk 0 0)).map dR)),(4,.int .i64 0)] ?_;refine bj bG (λjY _ cW dA _=>?_);show bn ah (.loop ?il) _ _;have iZ:∀n bY bN,Ou a0 n bY bN=some r->cD ah ?il jY (aq [(0,.slice (a0.map mW)),(3,.ag 2 (bY.map dR)),(4,.int .i64 bN)]):=by
  refine cS (λ_ i1 bY bN h=>cR cW (λ_ dK eK bs=>?_));refine ay eK (λ_ iY _ cv=>?_);refine ws _ ?_;refine aE h (λfl h=>?_) (λfl h=>?_)
  .refine aL (iY _ (.inl ?_));refine ay eK (λ_ eE hM _=>?_);refine bj hM (λ_ hv _ _ _=>?_);obtain⟨R,dO,h⟩:=al h;obtain⟨ae,dZ,h⟩:=al h;obtain⟨aD,ck,h⟩:=al h;refine h9 (b6 [(0,.slice (a0.map mW)),(3,.ag 2 ((List.set bY (Int.toNat bN) ae).map dR)),(4,.int .i64 bN)] (λP bl=>?_) ?_)
   ·(try simp only[aK.down,simprocAttr,dO,ck,b2 ck,cO,db]);refine dD (amR R _ dZ) rfl rfl rfl rfl (.inl (by rfl)) ?_;simp only[aK.down,simprocAttr,dO,ck,b2 ck,cO,db];exact bR (U dO (U ck (U (b2 ck) @cO)))
   refine hv _ (eE _ (.inl ?_));refine wr [(0,.slice (a0.map mW)),(3,.ag 2 ((List.set bY (Int.toNat bN) ae).map dR)),(4,.int .i64 (i64.wrap (bN+1)))] ?_;exact dK _ (.inr ⟨_,aZ rfl,i1 (List.set bY (Int.toNat bN) ae) (i64.wrap (bN+1)) h⟩)
  .refine cK (cv 0 _ (bs 0 _ (dA _ (fa _ (.inl ?_)))));refine ws _ ?_;exact aw (ai _ (.inl (az [.ag 2 (bY.map dR)])))
 obtain⟨n,h⟩:=cC h;exact cQ (.inr ⟨_,aZ rfl,iZ n (List.replicate (Int.toNat (a0.length:Int)) (bQ.mk 0 0)) 0 h⟩)
theorem amT (a0 r) (h:I_ a0=some r):aW ah 165 [.slice (a0.map ly)] (.ag 1 (r.map lz)) []:=by
 refine bw [0] [.tmp 2] Tryz.func165 ajl (λbq ai bo=>?_);refine ws _ ?_;obtain⟨zM,aU,h⟩:=al h;refine rI (U (qT aU) @List.map_replicate.{0,0}) [(0,.slice (a0.map ly)),(3,.ag 1 (List.replicate (Int.toNat (a0.length:Int)) .bg))] ?_;refine ay ai (λ_ fa bG _=>?_);refine ws [(0,.slice (a0.map ly)),(3,.ag 1 (List.replicate (Int.toNat (a0.length:Int)) .bg)),(4,.int .i64 0)] ?_;refine bj bG (λjY _ cW dA _=>?_);show bn ah (.loop ?il) _ _;have iZ:∀n bY bN,Ov a0 n bY bN=some r->cD ah ?il jY (aq [(0,.slice (a0.map ly)),(3,.ag 1 (bY.map lz)),(4,.int .i64 bN)]):=by
  refine cS (λ_ i1 bY bN h=>cR cW (λ_ dK eK bs=>?_));refine ay eK (λ_ iY _ cv=>?_);refine ws _ ?_;refine aE h (λfl h=>?_) (λfl h=>?_)
  .refine aL (iY _ (.inl ?_));refine ay eK (λ_ eE hM _=>?_);refine bj hM (λ_ hv _ _ _=>?_);obtain⟨R,dO,h⟩:=al h;obtain⟨ae,dZ,h⟩:=al h;obtain⟨aD,ck,h⟩:=al h;refine h9 (b6 [(0,.slice (a0.map ly)),(3,.ag 1 ((List.set bY (Int.toNat bN) ae).map lz)),(4,.int .i64 bN)] (λP bl=>?_) ?_)
   ·(try simp only[aK.down,simprocAttr,dO,ck,b2 ck,cO,db]);refine dD (amS R _ dZ) rfl rfl rfl rfl (.inl (by rfl)) ?_;simp only[aK.down,simprocAttr,dO,ck,b2 ck,cO,db];exact bR (U dO (U ck (U (b2 ck) @cO)))
   refine hv _ (eE _ (.inl ?_));refine wr [(0,.slice (a0.map ly)),(3,.ag 1 ((List.set bY (Int.toNat bN) ae).map lz)),(4,.int .i64 (i64.wrap (bN+1)))] ?_;exact dK _ (.inr ⟨_,aZ rfl,i1 (List.set bY (Int.toNat bN) ae) (i64.wrap (bN+1)) h⟩)
  .refine cK (cv 0 _ (bs 0 _ (dA _ (fa _ (.inl ?_)))));refine ws _ ?_;exact aw (ai _ (.inl (az [.ag 1 (bY.map lz)])))
 obtain⟨n,h⟩:=cC h;exact cQ (.inr ⟨_,hW [] rfl (cF (t:=0) (d:=.slice (a0.map ly)) rfl (hJ (t:=3) (d:=.ag 1 (List.replicate (Int.toNat (a0.length:Int)) .bg)) (bJ:=.ag 1 ((List.replicate (Int.toNat (a0.length:Int)) []).map lz)) rfl rfl (EP (u:=lz) (z:=[]) (.iq _) _) (by decide) (cF (t:=4) (d:=.int .i64 0) rfl (hX)))),iZ n (List.replicate (Int.toNat (a0.length:Int)) []) 0 h⟩)
theorem amU (a0 r) (h:Fk a0=some r):aW ah 125 [ky a0] (je r) []:=by
 refine bw [0] [.cell 2 150] Tryz.func125 ajm (λbq ai bo=>?_);refine ws _ ?_;refine ws _ ?_;refine ws _ ?_;refine ws _ ?_;refine ws _ ?_;obtain⟨R,b9,h⟩:=al h;refine cH (amT a0.cd _ b9) _ ?_;refine ws _ ?_;exact aw (ai _ (.inl (az [je (b1.mk a0.Kind a0.Number a0.Name R)])))
theorem amV (a0 r) (h:Ja a0=some r):aW ah 86 [.slice (a0.map ky)] (.ag 4 (r.map je)) []:=by
 refine bw [0] [.tmp 2] Tryz.func86 ajn (λbq ai bo=>?_);refine ws _ ?_;obtain⟨zM,aU,h⟩:=al h;refine rI (U (qT aU) @List.map_replicate.{0,0}) [(0,.slice (a0.map ky)),(3,.ag 4 (List.replicate (Int.toNat (a0.length:Int)) (.agg [(.int .i64 0),(.int .i64 0),(.str []),.bg])))] ?_;refine ay ai (λ_ fa bG _=>?_);refine ws [(0,.slice (a0.map ky)),(3,.ag 4 (List.replicate (Int.toNat (a0.length:Int)) (.agg [(.int .i64 0),(.int .i64 0),(.str []),.bg]))),(4,.int .i64 0)] ?_;refine bj bG (λjY _ cW dA _=>?_);show bn ah (.loop ?il) _ _;have iZ:∀n bY bN,Ow a0 n bY bN=some r->cD ah ?il jY (aq [(0,.slice (a0.map ky)),(3,.ag 4 (bY.map je)),(4,.int .i64 bN)]):=by
  refine cS (λ_ i1 bY bN h=>cR cW (λ_ dK eK bs=>?_));refine ay eK (λ_ iY _ cv=>?_);refine ws _ ?_;refine aE h (λfl h=>?_) (λfl h=>?_)
  .refine aL (iY _ (.inl ?_));refine ay eK (λ_ eE hM _=>?_);refine bj hM (λ_ hv _ _ _=>?_);obtain⟨R,dO,h⟩:=al h;obtain⟨ae,dZ,h⟩:=al h;obtain⟨aD,ck,h⟩:=al h;refine h9 (b6 [(0,.slice (a0.map ky)),(3,.ag 4 ((List.set bY (Int.toNat bN) ae).map je)),(4,.int .i64 bN)] (λP bl=>?_) ?_)
   ·(try simp only[aK.down,simprocAttr,dO,ck,b2 ck,cO,db]);refine dD (amU R _ dZ) rfl rfl rfl rfl (.inl (by rfl)) ?_;simp only[aK.down,simprocAttr,dO,ck,b2 ck,cO,db];exact bR (U dO (U ck (U (b2 ck) @cO)))
   refine hv _ (eE _ (.inl ?_));refine wr [(0,.slice (a0.map ky)),(3,.ag 4 ((List.set bY (Int.toNat bN) ae).map je)),(4,.int .i64 (i64.wrap (bN+1)))] ?_;exact dK _ (.inr ⟨_,aZ rfl,i1 (List.set bY (Int.toNat bN) ae) (i64.wrap (bN+1)) h⟩)
  .refine cK (cv 0 _ (bs 0 _ (dA _ (fa _ (.inl ?_)))));refine ws _ ?_;exact aw (ai _ (.inl (az [.ag 4 (bY.map je)])))
 obtain⟨n,h⟩:=cC h;exact cQ (.inr ⟨_,hW [] rfl (cF (t:=0) (d:=.slice (a0.map ky)) rfl (hJ (t:=3) (d:=.ag 4 (List.replicate (Int.toNat (a0.length:Int)) (.agg [(.int .i64 0),(.int .i64 0),(.str []),.bg]))) (bJ:=.ag 4 ((List.replicate (Int.toNat (a0.length:Int)) (b1.mk 0 0 ([]:ayc) [])).map je)) rfl rfl (EP (u:=je) (z:=(b1.mk 0 0 ([]:ayc) [])) (.agg (.cons (.refl _) (.cons (.refl _) (.cons (.refl _) (.cons (.iq _) (.nil)))))) _) (by decide) (cF (t:=4) (d:=.int .i64 0) rfl (hX)))),iZ n (List.replicate (Int.toNat (a0.length:Int)) (b1.mk 0 0 ([]:ayc) [])) 0 h⟩)
theorem amW (a0 r) (h:Fl a0=some r):aW ah 57 [jU a0] (hn r) []:=by
 refine bw [0] [.cell 2 109] Tryz.func57 ajo (λbq ai bo=>?_);refine ws _ ?_;refine ws _ ?_;refine ws _ ?_;refine ws _ ?_;obtain⟨R,cl,h⟩:=al h;refine cH (amV a0.Body _ cl) _ ?_;refine ws _ ?_;exact aw (ai _ (.inl (az [hn (bb.mk a0.Name a0.dP R)])))
theorem amX (a0 r) (h:Jb a0=some r):aW ah 24 [.slice (a0.map jU)] (.ag 3 (r.map hn)) []:=by
 refine bw [0] [.tmp 2] Tryz.func24 c24 (λbq ai bo=>?_);refine ws _ ?_;obtain⟨zM,aU,h⟩:=al h;refine rI (U (qT aU) @List.map_replicate.{0,0}) [(0,.slice (a0.map jU)),(3,.ag 3 (List.replicate (Int.toNat (a0.length:Int)) (.agg [(.str []),(.int .i64 0),.bg])))] ?_;refine ay ai (λ_ fa bG _=>?_);refine ws [(0,.slice (a0.map jU)),(3,.ag 3 (List.replicate (Int.toNat (a0.length:Int)) (.agg [(.str []),(.int .i64 0),.bg]))),(4,.int .i64 0)] ?_;refine bj bG (λjY _ cW dA _=>?_);show bn ah (.loop ?il) _ _;have iZ:∀n bY bN,Ox a0 n bY bN=some r->cD ah ?il jY (aq [(0,.slice (a0.map jU)),(3,.ag 3 (bY.map hn)),(4,.int .i64 bN)]):=by
  refine cS (λ_ i1 bY bN h=>cR cW (λ_ dK eK bs=>?_));refine ay eK (λ_ iY _ cv=>?_);refine ws _ ?_;refine aE h (λfl h=>?_) (λfl h=>?_)
  .refine aL (iY _ (.inl ?_));refine ay eK (λ_ eE hM _=>?_);refine bj hM (λ_ hv _ _ _=>?_);obtain⟨R,dO,h⟩:=al h;obtain⟨ae,dZ,h⟩:=al h;obtain⟨aD,ck,h⟩:=al h;refine h9 (b6 [(0,.slice (a0.map jU)),(3,.ag 3 ((List.set bY (Int.toNat bN) ae).map hn)),(4,.int .i64 bN)] (λP bl=>?_) ?_)
   ·(try simp only[aK.down,simprocAttr,dO,ck,b2 ck,cO,db]);refine dD (amW R _ dZ) rfl rfl rfl rfl (.inl (by rfl)) ?_;simp only[aK.down,simprocAttr,dO,ck,b2 ck,cO,db];exact bR (U dO (U ck (U (b2 ck) @cO)))
   refine hv _ (eE _ (.inl ?_));refine wr [(0,.slice (a0.map jU)),(3,.ag 3 ((List.set bY (Int.toNat bN) ae).map hn)),(4,.int .i64 (i64.wrap (bN+1)))] ?_;exact dK _ (.inr ⟨_,aZ rfl,i1 (List.set bY (Int.toNat bN) ae) (i64.wrap (bN+1)) h⟩)
  .refine cK (cv 0 _ (bs 0 _ (dA _ (fa _ (.inl ?_)))));refine ws _ ?_;exact aw (ai _ (.inl (az [.ag 3 (bY.map hn)])))
 obtain⟨n,h⟩:=cC h;exact cQ (.inr ⟨_,hW [] rfl (cF (t:=0) (d:=.slice (a0.map jU)) rfl (hJ (t:=3) (d:=.ag 3 (List.replicate (Int.toNat (a0.length:Int)) (.agg [(.str []),(.int .i64 0),.bg]))) (bJ:=.ag 3 ((List.replicate (Int.toNat (a0.length:Int)) (bb.mk ([]:ayc) 0 [])).map hn)) rfl rfl (EP (u:=hn) (z:=(bb.mk ([]:ayc) 0 [])) (.agg (.cons (.refl _) (.cons (.refl _) (.cons (.iq _) (.nil))))) _) (by decide) (cF (t:=4) (d:=.int .i64 0) rfl (hX)))),iZ n (List.replicate (Int.toNat (a0.length:Int)) (bb.mk ([]:ayc) 0 [])) 0 h⟩)
theorem Y2 (a0 r) (h:Fm a0=some r):aW ah 60 [.slice (a0.map a8)] (.ag 1 (r.map a8)) []:=by
 refine bw [0] [.tmp 2] Tryz.func60 ajp (λbq ai bo=>?_);refine ws _ ?_;obtain⟨KV,aU,h⟩:=al h;refine rI (U (qT aU) @List.map_replicate.{0,0}) [(0,.slice (a0.map a8)),(3,.ag 1 ((List.replicate (Int.toNat (a0.length:Int)) 0).map a8))] ?_;refine ay ai (λ_ fa bG _=>?_);refine ws [(0,.slice (a0.map a8)),(3,.ag 1 ((List.replicate (Int.toNat (a0.length:Int)) 0).map a8)),(4,.int .i64 0)] ?_;refine bj bG (λjY _ cW dA _=>?_);show bn ah (.loop ?il) _ _;have iZ:∀n bY bN,Oy a0 n bY bN=some r->cD ah ?il jY (aq [(0,.slice (a0.map a8)),(3,.ag 1 (bY.map a8)),(4,.int .i64 bN)]):=by
  refine cS (λ_ i1 bY bN h=>cR cW (λ_ dK eK bs=>?_));refine ay eK (λ_ iY _ cv=>?_);refine ws _ ?_;refine aE h (λfl h=>?_) (λfl h=>?_)
  .refine aL (iY _ (.inl ?_));refine ay eK (λ_ eE hM _=>?_);refine bj hM (λ_ hv _ _ _=>?_);obtain⟨R,dO,h⟩:=al h;obtain⟨ae,dZ,h⟩:=al h;refine h9 (b6 [(0,.slice (a0.map a8)),(3,.ag 1 ((List.set bY (Int.toNat bN) R).map a8)),(4,.int .i64 bN)] (λP bl=>?_) ?_)
   .simp only[aK.down,simprocAttr,dO,dZ,b2 dZ,cO,db];exact bR (U dO (U dZ (U (b2 dZ) @cO)))
   refine hv _ (eE _ (.inl ?_));refine wr [(0,.slice (a0.map a8)),(3,.ag 1 ((List.set bY (Int.toNat bN) R).map a8)),(4,.int .i64 (i64.wrap (bN+1)))] ?_;exact dK _ (.inr ⟨_,aZ rfl,i1 (List.set bY (Int.toNat bN) R) (i64.wrap (bN+1)) h⟩)
  .refine cK (cv 0 _ (bs 0 _ (dA _ (fa _ (.inl ?_)))));refine ws _ ?_;exact aw (ai _ (.inl (az [.ag 1 (bY.map a8)])))
 obtain⟨n,h⟩:=cC h;exact cQ (.inr ⟨_,aZ rfl,iZ n (List.replicate (Int.toNat (a0.length:Int)) 0) 0 h⟩)
theorem amY (a0 r) (h:Fo a0=some r):aW ah 58 [jW a0] (hC r) []:=by
 refine bw [0] [.cell 2 111] Tryz.func58 ajq (λbq ai bo=>?_);refine ws _ ?_;refine ws _ ?_;refine ws _ ?_;obtain⟨R,cM,h⟩:=al h;refine cH (Y2 a0.bH _ cM) _ ?_;refine ws _ ?_;exact aw (ai _ (.inl (az [hC (df.mk a0.cp R)])))
theorem amZ (a0 r) (h:Jc a0=some r):aW ah 25 [.slice (a0.map jW)] (.ag 2 (r.map hC)) []:=by
 refine bw [0] [.tmp 2] Tryz.func25 ajr (λbq ai bo=>?_);refine ws _ ?_;obtain⟨zM,aU,h⟩:=al h;refine rI (U (qT aU) @List.map_replicate.{0,0}) [(0,.slice (a0.map jW)),(3,.ag 2 (List.replicate (Int.toNat (a0.length:Int)) (.agg [(.int .i64 0),.bg])))] ?_;refine ay ai (λ_ fa bG _=>?_);refine ws [(0,.slice (a0.map jW)),(3,.ag 2 (List.replicate (Int.toNat (a0.length:Int)) (.agg [(.int .i64 0),.bg]))),(4,.int .i64 0)] ?_;refine bj bG (λjY _ cW dA _=>?_);show bn ah (.loop ?il) _ _;have iZ:∀n bY bN,Oz a0 n bY bN=some r->cD ah ?il jY (aq [(0,.slice (a0.map jW)),(3,.ag 2 (bY.map hC)),(4,.int .i64 bN)]):=by
  refine cS (λ_ i1 bY bN h=>cR cW (λ_ dK eK bs=>?_));refine ay eK (λ_ iY _ cv=>?_);refine ws _ ?_;refine aE h (λfl h=>?_) (λfl h=>?_)
  .refine aL (iY _ (.inl ?_));refine ay eK (λ_ eE hM _=>?_);refine bj hM (λ_ hv _ _ _=>?_);obtain⟨R,dO,h⟩:=al h;obtain⟨ae,dZ,h⟩:=al h;obtain⟨aD,ck,h⟩:=al h;refine h9 (b6 [(0,.slice (a0.map jW)),(3,.ag 2 ((List.set bY (Int.toNat bN) ae).map hC)),(4,.int .i64 bN)] (λP bl=>?_) ?_)
   ·(try simp only[aK.down,simprocAttr,dO,ck,b2 ck,cO,db]);refine dD (amY R _ dZ) rfl rfl rfl rfl (.inl (by rfl)) ?_;simp only[aK.down,simprocAttr,dO,ck,b2 ck,cO,db];exact bR (U dO (U ck (U (b2 ck) @cO)))
   refine hv _ (eE _ (.inl ?_));refine wr [(0,.slice (a0.map jW)),(3,.ag 2 ((List.set bY (Int.toNat bN) ae).map hC)),(4,.int .i64 (i64.wrap (bN+1)))] ?_;exact dK _ (.inr ⟨_,aZ rfl,i1 (List.set bY (Int.toNat bN) ae) (i64.wrap (bN+1)) h⟩)
  .refine cK (cv 0 _ (bs 0 _ (dA _ (fa _ (.inl ?_)))));refine ws _ ?_;exact aw (ai _ (.inl (az [.ag 2 (bY.map hC)])))
 obtain⟨n,h⟩:=cC h;exact cQ (.inr ⟨_,hW [] rfl (cF (t:=0) (d:=.slice (a0.map jW)) rfl (hJ (t:=3) (d:=.ag 2 (List.replicate (Int.toNat (a0.length:Int)) (.agg [(.int .i64 0),.bg]))) (bJ:=.ag 2 ((List.replicate (Int.toNat (a0.length:Int)) (df.mk 0 [])).map hC)) rfl rfl (EP (u:=hC) (z:=(df.mk 0 [])) (.agg (.cons (.refl _) (.cons (.iq _) (.nil)))) _) (by decide) (cF (t:=4) (d:=.int .i64 0) rfl (hX)))),iZ n (List.replicate (Int.toNat (a0.length:Int)) (df.mk 0 [])) 0 h⟩)
theorem am0 (a0 r) (h:Fp a0=some r):aW ah 59 [jA a0] (b3 r) []:=by
 refine bw [0] [.cell 2 113] Tryz.func59 c59 (λbq ai bo=>?_);refine ws _ ?_;refine ws _ ?_;refine ws _ ?_;refine ws _ ?_;refine ws _ ?_;refine ws _ ?_;exact aw (ai _ (.inl (az [b3 (b0.mk a0.Left a0.cx a0.Result)])))
theorem am1 (a0 r) (h:Jd a0=some r):aW ah 26 [.slice (a0.map jA)] (.ag 3 (r.map b3)) []:=by
 refine bw [0] [.tmp 2] Tryz.func26 QW (λbq ai bo=>?_);refine ws _ ?_;obtain⟨zM,aU,h⟩:=al h;refine rI (U (qT aU) @List.map_replicate.{0,0}) [(0,.slice (a0.map jA)),(3,.ag 3 ((List.replicate (Int.toNat (a0.length:Int)) (b0.mk ([]:ayc) ([]:ayc) ([]:ayc))).map b3))] ?_;refine ay ai (λ_ fa bG _=>?_);refine ws [(0,.slice (a0.map jA)),(3,.ag 3 ((List.replicate (Int.toNat (a0.length:Int)) (b0.mk ([]:ayc) ([]:ayc) ([]:ayc))).map b3)),(4,.int .i64 0)] ?_;refine bj bG (λjY _ cW dA _=>?_);show bn ah (.loop ?il) _ _;have iZ:∀n bY bN,OA a0 n bY bN=some r->cD ah ?il jY (aq [(0,.slice (a0.map jA)),(3,.ag 3 (bY.map b3)),(4,.int .i64 bN)]):=by
  refine cS (λ_ i1 bY bN h=>cR cW (λ_ dK eK bs=>?_));refine ay eK (λ_ iY _ cv=>?_);refine ws _ ?_;refine aE h (λfl h=>?_) (λfl h=>?_)
  .refine aL (iY _ (.inl ?_));refine ay eK (λ_ eE hM _=>?_);refine bj hM (λ_ hv _ _ _=>?_);obtain⟨R,dO,h⟩:=al h;obtain⟨ae,dZ,h⟩:=al h;obtain⟨aD,ck,h⟩:=al h;refine h9 (b6 [(0,.slice (a0.map jA)),(3,.ag 3 ((List.set bY (Int.toNat bN) ae).map b3)),(4,.int .i64 bN)] (λP bl=>?_) ?_)
   ·(try simp only[aK.down,simprocAttr,dO,ck,b2 ck,cO,db]);refine dD (am0 R _ dZ) rfl rfl rfl rfl (.inl (by rfl)) ?_;simp only[aK.down,simprocAttr,dO,ck,b2 ck,cO,db];exact bR (U dO (U ck (U (b2 ck) @cO)))
   refine hv _ (eE _ (.inl ?_));refine wr [(0,.slice (a0.map jA)),(3,.ag 3 ((List.set bY (Int.toNat bN) ae).map b3)),(4,.int .i64 (i64.wrap (bN+1)))] ?_;exact dK _ (.inr ⟨_,aZ rfl,i1 (List.set bY (Int.toNat bN) ae) (i64.wrap (bN+1)) h⟩)
  .refine cK (cv 0 _ (bs 0 _ (dA _ (fa _ (.inl ?_)))));refine ws _ ?_;exact aw (ai _ (.inl (az [.ag 3 (bY.map b3)])))
 obtain⟨n,h⟩:=cC h;exact cQ (.inr ⟨_,aZ rfl,iZ n (List.replicate (Int.toNat (a0.length:Int)) (b0.mk ([]:ayc) ([]:ayc) ([]:ayc))) 0 h⟩)
theorem Y3 (a0 r) (h:Fq a0=some r):aW ah 27 [.slice (a0.map bm)] (.ag 1 (r.map bm)) []:=by
 refine bw [0] [.tmp 2] Tryz.func27 ajs (λbq ai bo=>?_);refine ws _ ?_;obtain⟨KV,aU,h⟩:=al h;refine rI (U (qT aU) @List.map_replicate.{0,0}) [(0,.slice (a0.map bm)),(3,.ag 1 ((List.replicate (Int.toNat (a0.length:Int)) ([]:ayc)).map bm))] ?_;refine ay ai (λ_ fa bG _=>?_);refine ws [(0,.slice (a0.map bm)),(3,.ag 1 ((List.replicate (Int.toNat (a0.length:Int)) ([]:ayc)).map bm)),(4,.int .i64 0)] ?_;refine bj bG (λjY _ cW dA _=>?_);show bn ah (.loop ?il) _ _;have iZ:∀n bY bN,OB a0 n bY bN=some r->cD ah ?il jY (aq [(0,.slice (a0.map bm)),(3,.ag 1 (bY.map bm)),(4,.int .i64 bN)]):=by
  refine cS (λ_ i1 bY bN h=>cR cW (λ_ dK eK bs=>?_));refine ay eK (λ_ iY _ cv=>?_);refine ws _ ?_;refine aE h (λfl h=>?_) (λfl h=>?_)
  .refine aL (iY _ (.inl ?_));refine ay eK (λ_ eE hM _=>?_);refine bj hM (λ_ hv _ _ _=>?_);obtain⟨R,dO,h⟩:=al h;obtain⟨ae,dZ,h⟩:=al h;refine h9 (b6 [(0,.slice (a0.map bm)),(3,.ag 1 ((List.set bY (Int.toNat bN) R).map bm)),(4,.int .i64 bN)] (λP bl=>?_) ?_)
   .simp only[aK.down,simprocAttr,dO,dZ,b2 dZ,cO,db];exact bR (U dO (U dZ (U (b2 dZ) @cO)))
   refine hv _ (eE _ (.inl ?_));refine wr [(0,.slice (a0.map bm)),(3,.ag 1 ((List.set bY (Int.toNat bN) R).map bm)),(4,.int .i64 (i64.wrap (bN+1)))] ?_;exact dK _ (.inr ⟨_,aZ rfl,i1 (List.set bY (Int.toNat bN) R) (i64.wrap (bN+1)) h⟩)
  .refine cK (cv 0 _ (bs 0 _ (dA _ (fa _ (.inl ?_)))));refine ws _ ?_;exact aw (ai _ (.inl (az [.ag 1 (bY.map bm)])))
 obtain⟨n,h⟩:=cC h;exact cQ (.inr ⟨_,aZ rfl,iZ n (List.replicate (Int.toNat (a0.length:Int)) ([]:ayc)) 0 h⟩)
theorem KW (a0 r) (h:xH a0=some r):aW ah 7 [nN a0] (sZ r) []:=by
 refine bw [0] [.cell 2 38] Tryz.func7 M1 (λbq ai bo=>?_);refine ws _ ?_;refine ws _ ?_;obtain⟨R,b4,h⟩:=al h;refine cH (amX a0.c8 _ b4) _ ?_;obtain⟨ae,cl,h⟩:=al h;refine cH (amZ a0.cL _ cl) _ ?_;obtain⟨aD,fJ,h⟩:=al h;refine cH (am1 a0.cz _ fJ) _ ?_;obtain⟨aX,iD,h⟩:=al h;refine cH (Y3 a0.dj _ iD) _ ?_;obtain⟨aT,dd,h⟩:=al h;refine cH (Y3 a0.dk _ dd) _ ?_;refine ws _ ?_;exact aw (ai _ (.inl (az [sZ (cE.mk R ae aD aX aT)])))
theorem am2 (a0 r) (h:Fs a0=some r):aW ah 28 [jB a0] (ea r) []:=by
 refine bw [0] [.cell 2 65] Tryz.func28 c28 (λbq ai bo=>?_);refine ws _ ?_;refine ws _ ?_;refine ws _ ?_;refine ws _ ?_;obtain⟨R,cl,h⟩:=al h;refine cH (Y2 a0.bH _ cl) _ ?_;refine ws _ ?_;exact aw (ai _ (.inl (az [ea (bd.mk a0.cp a0.Part R)])))
theorem KX (a0 r) (h:za a0=some r):aW ah 8 [.slice (a0.map jB)] (.ag 3 (r.map ea)) []:=by
 refine bw [0] [.tmp 2] Tryz.func8 il (λbq ai bo=>?_);refine ws _ ?_;obtain⟨zM,aU,h⟩:=al h;refine rI (U (qT aU) @List.map_replicate.{0,0}) [(0,.slice (a0.map jB)),(3,.ag 3 (List.replicate (Int.toNat (a0.length:Int)) (.agg [(.int .i64 0),(.int .i64 0),.bg])))] ?_;refine ay ai (λ_ fa bG _=>?_);refine ws [(0,.slice (a0.map jB)),(3,.ag 3 (List.replicate (Int.toNat (a0.length:Int)) (.agg [(.int .i64 0),(.int .i64 0),.bg]))),(4,.int .i64 0)] ?_;refine bj bG (λjY _ cW dA _=>?_);show bn ah (.loop ?il) _ _;have iZ:∀n bY bN,OC a0 n bY bN=some r->cD ah ?il jY (aq [(0,.slice (a0.map jB)),(3,.ag 3 (bY.map ea)),(4,.int .i64 bN)]):=by
  refine cS (λ_ i1 bY bN h=>cR cW (λ_ dK eK bs=>?_));refine ay eK (λ_ iY _ cv=>?_);refine ws _ ?_;refine aE h (λfl h=>?_) (λfl h=>?_)
  .refine aL (iY _ (.inl ?_));refine ay eK (λ_ eE hM _=>?_);refine bj hM (λ_ hv _ _ _=>?_);obtain⟨R,dO,h⟩:=al h;obtain⟨ae,dZ,h⟩:=al h;obtain⟨aD,ck,h⟩:=al h;refine h9 (b6 [(0,.slice (a0.map jB)),(3,.ag 3 ((List.set bY (Int.toNat bN) ae).map ea)),(4,.int .i64 bN)] (λP bl=>?_) ?_)
   ·(try simp only[aK.down,simprocAttr,dO,ck,b2 ck,cO,db]);refine dD (am2 R _ dZ) rfl rfl rfl rfl (.inl (by rfl)) ?_;simp only[aK.down,simprocAttr,dO,ck,b2 ck,cO,db];exact bR (U dO (U ck (U (b2 ck) @cO)))
   refine hv _ (eE _ (.inl ?_));refine wr [(0,.slice (a0.map jB)),(3,.ag 3 ((List.set bY (Int.toNat bN) ae).map ea)),(4,.int .i64 (i64.wrap (bN+1)))] ?_;exact dK _ (.inr ⟨_,aZ rfl,i1 (List.set bY (Int.toNat bN) ae) (i64.wrap (bN+1)) h⟩)
  .refine cK (cv 0 _ (bs 0 _ (dA _ (fa _ (.inl ?_)))));refine ws _ ?_;exact aw (ai _ (.inl (az [.ag 3 (bY.map ea)])))
 obtain⟨n,h⟩:=cC h;exact cQ (.inr ⟨_,hW [] rfl (cF (t:=0) (d:=.slice (a0.map jB)) rfl (hJ (t:=3) (d:=.ag 3 (List.replicate (Int.toNat (a0.length:Int)) (.agg [(.int .i64 0),(.int .i64 0),.bg]))) (bJ:=.ag 3 ((List.replicate (Int.toNat (a0.length:Int)) (bd.mk 0 0 [])).map ea)) rfl rfl (EP (u:=ea) (z:=(bd.mk 0 0 [])) (.agg (.cons (.refl _) (.cons (.refl _) (.cons (.iq _) (.nil))))) _) (by decide) (cF (t:=4) (d:=.int .i64 0) rfl (hX)))),iZ n (List.replicate (Int.toNat (a0.length:Int)) (bd.mk 0 0 [])) 0 h⟩)
theorem Re (a0 r) (h:Ft a0=some r):aW ah 162 [.int .u8 (a0.toNat:Int)] (.bool r) []:=by
 refine bw [0] [.tmp 2] Tryz.func162 c162 (λbq ai bo=>?_);refine ws _ ?_;refine nP (decide (97<=(a0.toNat:Int))) [(2,.bool ((decide (97<=(a0.toNat:Int)))&&(decide ((a0.toNat:Int)<=122))))] ?_;exact aw (ai _ (.inl (az [.bool ((decide (97<=(a0.toNat:Int)))&&(decide ((a0.toNat:Int)<=122)))])))
theorem Rf (a0 r) (h:Bt a0=some r):aW ah 163 [.int .u8 (a0.toNat:Int)] (.bool r) []:=by
 refine bw [0] [.tmp 2] Tryz.func163 ajt (λbq ai bo=>?_);refine ws _ ?_;refine nP (decide (48<=(a0.toNat:Int))) [(2,.bool ((decide (48<=(a0.toNat:Int)))&&(decide ((a0.toNat:Int)<=57))))] ?_;exact aw (ai _ (.inl (az [.bool ((decide (48<=(a0.toNat:Int)))&&(decide ((a0.toNat:Int)<=57)))])))
theorem C7 (a0 r) (h:xI a0=some r):aW ah 120 [.str a0] (.bool r) []:=by
 refine bw [0] [.tmp 2] Tryz.func120 aju (λbq ai bo=>?_);refine ws _ ?_;refine ay ai (λ_ bA bc ae=>?_);rcases dH h with⟨bM,h⟩|⟨bM,h⟩
 .refine cU bM _ ?_;refine iT rfl ?_;refine ws _ ?_;exact aw (bc _ (.inl (az [.bool false])))
 .rcases dH h with⟨dA,h⟩|⟨dA,h⟩
  .refine cU (U bM dA) _ ?_;refine iT rfl ?_;refine ws _ ?_;exact aw (bc _ (.inl (az [.bool false])))
  .obtain⟨R,fJ,h⟩:=al h;obtain⟨ae,jl,h⟩:=al h;refine eO (U bM (U dA fJ)) (Re R _ jl) _ ?_;refine aE h (λfl h=>?_) (λfl h=>?_)
   .refine ws _ ?_;exact aw (bc _ (.inl (az [.bool false])))
   .refine aL (bA _ (.inl ?_));refine ay ai (λ_ hv mA _=>?_);refine ws _ ?_;refine bj mA (λGW _ ef gX _=>?_);show bn ah (.loop ?gJ) _ _;have gK:∀n ek,Fu a0 n ek=some r->cD ah ?gJ GW (aq [(0,.str a0),(3,.int .i64 ek)]):=by
     refine cS (λ_ gw ek h=>cR ef (λ_ gi gS hk=>?_));refine ay gS (λ_ lB _ jd=>?_);refine ws _ ?_;refine aE h (λh0 h=>?_) (λh0 h=>?_)
     .refine aL (lB _ (.inl ?_));refine ay gS (λ_ rM GX _=>?_);refine bj GX (λ_ KY Rg _ _=>?_);obtain⟨aD,e8,h⟩:=al h;obtain⟨aX,ie,h⟩:=al h;rcases dH h with⟨ic,h⟩|⟨ic,h⟩
      .obtain⟨aT,iI,h⟩:=al h;refine dC (b6 [(0,.str a0),(3,.int .i64 ek),(34,.bool (!aT))] (λP bl=>?_) ?_)
       ·(try simp only[aK.down,simprocAttr,e8,(hj ic)]);refine dD (Re aD _ ie) rfl rfl rfl rfl (.inl (by rfl)) ?_;simp only[aK.down,simprocAttr,e8,(hj ic)];refine iF (Rf aD _ iI) rfl rfl rfl rfl (.inl (by rfl)) ?_;simp only[aK.down,simprocAttr,e8,(hj ic)];exact bR (U e8 (hj ic))
       refine aE h (λka h=>?_) (λka h=>?_)
       .refine ws _ ?_;exact aw (Rg _ (.inl (az [.bool false])))
       .refine aL (KY _ (rM _ (.inl ?_)));refine wr _ ?_;exact gi _ (.inr ⟨_,aZ rfl,gw (i64.wrap (ek+1)) h⟩)
      .refine eO (U e8 (b_ ic)) (Re aD _ ie) _ ?_;refine n8 rfl ?_;refine aL (KY _ (rM _ (.inl ?_)));refine wr _ ?_;exact gi _ (.inr ⟨_,aZ rfl,gw (i64.wrap (ek+1)) h⟩)
     .refine cK (jd 0 _ (hk 0 _ (gX _ (hv _ (.inl ?_)))));refine ws _ ?_;exact aw (ai _ (.inl (az [.bool true])))
    obtain⟨n,h⟩:=cC h;exact cQ (.inr ⟨_,aZ rfl,gK n 0 h⟩)
theorem py (a0 J a2 r) (h:l_ a0 J a2=some r):aW ah 112 [.int .i64 a0,.int .i64 J,.int .i64 a2] (.bool r) []:=by
 refine bw [0,1,2] [.tmp 6] Tryz.func112 ajv (λbq ai bo=>?_);refine ws _ ?_;refine nP (decide (J<=a0)) [(6,.bool ((decide (J<=a0))&&(decide (a0<=a2))))] ?_;exact aw (ai _ (.inl (az [.bool ((decide (J<=a0))&&(decide (a0<=a2)))])))
theorem Y4 (a0 r) (h:Fw a0=some r):aW ah 160 [.ref (ep a0)] (.int .i64 r) []:=by
 refine bw [0] [.tmp 2] Tryz.func160 c160 (λbq ai bo=>?_);refine ws _ ?_;refine ay ai (λ_ bA bc _=>?_);refine ws _ ?_;refine bj bc (λeC fa bG _ _=>?_);show bn ah (.seq _ ?kz) _ _;have zN:∀jR,Fv a0 jR=some r->bn ah ?kz eC (aq [(6,.int .i64 a0.Kind),(7,.bool jR)]):=by
  intro jR h;refine aE h (λdA h=>?_) (λdA h=>?_)
  .refine ws _ ?_;exact aw (bG _ (.inl (az [.int .i64 1])))
  .refine ws _ ?_;refine aE h (λe7 h=>?_) (λe7 h=>?_)
   .refine ws _ ?_;exact aw (bG _ (.inl (az [.int .i64 2])))
   .refine aL (fa _ (bA _ (.inl ?_)));refine ws _ ?_;exact aw (ai _ (.inl (az [.int .i64 0])))
 refine ay bG (λ_ dw _ _=>?_);refine ws _ ?_;refine aE h (λfh h=>?_) (λfh h=>?_)
 .simp only[fh,GU.down];exact aL (dw _ (.inr ⟨_,aZ rfl,zN true h⟩))
 .refine ws _ ?_;refine aE h (λe0 h=>?_) (λe0 h=>?_)
  .simp only[e0,GU.down];exact aL (dw _ (.inr ⟨_,aZ rfl,zN true h⟩))
  .refine wr _ ?_;exact dw _ (.inr ⟨_,aZ rfl,zN (a0.Kind==4) h⟩)
theorem am3 (a0 r) (h:Je a0=some r):aW ah 191 [.slice (a0.map ep)] (.bool r) []:=by
 refine bw [0] [.tmp 2] Tryz.func191 ajw (λbq ai bo=>?_);refine ws _ ?_;refine ay ai (λ_ bA bc ae=>?_);refine nP ((a0.length:Int)==0) [(0,.slice (a0.map ep)),(12,.bool (((a0.length:Int)==0)||(decide (20<(a0.length:Int)))))] ?_;refine aE h (λbM h=>?_) (λbM h=>?_)
 .refine ws _ ?_;exact aw (bc _ (.inl (az [.bool false])))
 .refine aL (bA _ (.inl ?_));refine ws _ ?_;refine ay ai (λ_ dK eK _=>?_);refine ws _ ?_;refine bj eK (λjX _ bW e7 _=>?_);show bn ah (.loop ?kz) _ _;have k6:∀n gV ht,Bu a0 n gV ht=some r->cD ah ?kz jX (aq [(0,.slice (a0.map ep)),(3,.int .i64 gV),(4,.int .i64 ht)]):=by
   refine cS (λ_ k7 gV ht h=>cR bW (λ_ bT cw dI=>?_));refine ay cw (λ_ eE _ e6=>?_);refine ws _ ?_;refine aE h (λfh h=>?_) (λfh h=>?_)
   .refine aL (eE _ (.inl ?_));refine ay cw (λ_ eH ef _=>?_);refine bj ef (λ_ gi gS _ _=>?_);refine ay gS (λ_ lB nQ _=>?_);refine ws _ ?_;refine aE h (λh0 h=>?_) (λh0 h=>?_)
    .refine ws _ ?_;exact aw (nQ _ (.inl (az [.bool false])))
    .refine aL (lB _ (.inl ?_));obtain⟨R,gW,h⟩:=al h;obtain⟨ae,e8,h⟩:=al h;refine zL gW (Y4 R _ e8) _ ?_;refine gi _ (eH _ (.inl ?_));refine wr _ ?_;exact bT _ (.inr ⟨_,aZ rfl,k7 (i64.wrap (gV+(i64.wrap (ae-1)))) (i64.wrap (ht+1)) h⟩)
   .refine cK (e6 0 _ (dI 0 _ (e7 _ (dK _ (.inl ?_)))));refine ws _ ?_;exact aw (ai _ (.inl (az [.bool (gV==0)])))
  obtain⟨n,h⟩:=cC h;exact cQ (.inr ⟨_,aZ rfl,k6 n 1 0 h⟩)
theorem am4 (a0 r) (h:OG a0=some r):aW ah 225 [.ref (ep a0)] (.bool r) []:=by
 refine bw [0] [.tmp 2] Tryz.func225 ajx (λbq ai bo=>?_);refine ws _ ?_;refine ay ai (λ_ bA bc _=>?_);refine ws _ ?_;refine bj bc (λeC fa bG _ _=>?_);show bn ah (.seq _ ?c12) _ _;have rN:∀Fx,Jf a0 Fx=some r->bn ah ?c12 eC (aq [(0,.ref (ep a0)),(6,.int .i64 a0.Kind),(7,.bool Fx)]):=by
  intro Fx h;refine aE h (λdA h=>?_) (λdA h=>?_)
  .refine dC (b6 [(2,.bool (((a0.Number==0)&&(a0.Name==([]:ayc)))&&((a0.cd.length:Int)==0)))] (λP bl=>?_) ?_)
   ·(rcases Bool.eq_false_or_eq_true (a0.Number==0)with x1|x1)<;>(rcases Bool.eq_false_or_eq_true (a0.Name==([]:ayc))with rO|rO)<;>
     (simp only[aK.down,simprocAttr,x1,rO]
      exact bR (U x1 rO))
   exact aw (bG _ (.inl (az [.bool (((a0.Number==0)&&(a0.Name==([]:ayc)))&&((a0.cd.length:Int)==0))])))
  .refine ws _ ?_;refine aE h (λoq h=>?_) (λoq h=>?_)
   .refine ws _ ?_;exact aw (bG _ (.inl (az [.bool (a0.Number==0)])))
   .refine ws _ ?_;refine aE h (λgX h=>?_) (λgX h=>?_)
    .refine nP (a0.Number==0) [(2,.bool ((a0.Number==0)&&(a0.Name==([]:ayc))))] ?_;exact aw (bG _ (.inl (az [.bool ((a0.Number==0)&&(a0.Name==([]:ayc)))])))
    .refine ws _ ?_;refine aE h (λkb h=>?_) (λkb h=>?_)
     .refine nP (a0.Name==([]:ayc)) [(2,.bool ((a0.Name==([]:ayc))&&((a0.cd.length:Int)==0)))] ?_;exact aw (bG _ (.inl (az [.bool ((a0.Name==([]:ayc))&&((a0.cd.length:Int)==0))])))
     .refine ws _ ?_;refine aE h (λfY h=>?_) (λfY h=>?_)
      .refine ws _ ?_;exact aw (bG _ (.inl (az [.bool (a0.Name==([]:ayc))])))
      .refine aL (fa _ (bA _ (.inl ?_)));refine ws _ ?_;exact aw (ai _ (.inl (az [.bool false])))
 refine ay bG (λ_ dw _ _=>?_);refine ws _ ?_;refine aE h (λic h=>?_) (λic h=>?_)
 .simp only[ic,GU.down];exact aL (dw _ (.inr ⟨_,aZ rfl,rN true h⟩))
 .refine wr _ ?_;exact dw _ (.inr ⟨_,aZ rfl,rN (a0.Kind==2) h⟩)
theorem Y5 (a0 J r) (h:Fy a0 J=some r):aW ah 117 [.slice (a0.map ep),.int .i64 J] (.int .i64 r) []:=by
 refine bw [0] [.tmp 4] Tryz.func117 c117 (λbq ai bo=>?_);refine ws _ ?_;refine ws _ ?_;refine ay ai (λ_ fg dm _=>?_);refine bj dm (λeC _ bG bM _=>?_);show bn ah (.loop ?eG) _ _;have eT:∀n aR aA,Bv a0 n aR aA=some r->cD ah ?eG eC (aq [(0,.slice (a0.map ep)),(1,.int .i64 aR),(5,.int .i64 aA)]):=by
  refine cS (λ_ ev aR aA h=>cR bG (λ_ dw cn aT=>?_));refine ay cn (λ_ cB _ bp=>?_);refine ws _ ?_;refine aE h (λb7 h=>?_) (λb7 h=>?_)
  .refine aL (cB _ (.inl ?_));refine bj cn (λ_ cq _ _ _=>?_);obtain⟨R,kn,h⟩:=al h;obtain⟨ae,dd,h⟩:=al h;refine eO kn (Y4 R _ dd) _ ?_;refine wr _ ?_;exact cq _ (dw _ (.inr ⟨_,aZ rfl,ev (i64.wrap (aR+1)) (i64.wrap (aA+(i64.wrap (ae-1)))) h⟩))
  .refine cK (bp 0 _ (aT 0 _ (bM _ (fg _ (.inl ?_)))));refine ws _ ?_;exact aw (ai _ (.inl (az [.int .i64 aR])))
 obtain⟨n,h⟩:=cC h;exact cQ (.inr ⟨_,aZ rfl,eT n J 1 h⟩)
theorem Rh (a0 J r) (h:vy a0 J=some r):aW ah 113 [.ref (bx a0),.int .i64 J] (.int .i64 r) []:=by
 refine bw [0,1] [.tmp 4] Tryz.func113 ajy (λbq ai bo=>?_);refine ws _ ?_;refine ws _ ?_;refine ay ai (λ_ fg dm _=>?_);refine ws _ ?_;refine bj dm (λqJ _ cn cV _=>?_);show bn ah (.loop ?il) _ _;have iZ:∀n fC jS,zb a0 J n fC jS=some r->cD ah ?il qJ (aq [(0,.ref (bx a0)),(1,.int .i64 J),(5,.int .i64 fC),(6,.int .i64 jS)]):=by
  refine cS (λm8 i1 fC jS h=>cR cn (λjY cB cW bp=>?_));refine ay cW (λ_ dK _ bs=>?_);refine ws _ ?_;refine aE h (λe7 h=>?_) (λe7 h=>?_)
  .refine aL (dK _ (.inl ?_));show bn ah (.seq _ ?QX) _ _;have vY:∀Bw Bx,Fz (zb a0 J m8) a0 J Bw Bx=some r->bn ah ?QX jY (aq [(0,.ref (bx a0)),(1,.int .i64 J),(5,.int .i64 Bw),(6,.int .i64 Bx)]):=by
    intro Bw Bx h;refine wr _ ?_;exact cB _ (.inr ⟨_,aZ rfl,i1 Bw (i64.wrap (Bx+1)) h⟩)
   refine ay cW (λ_ bT cw _=>?_);refine bj cw (λ_ hv _ _ _=>?_);obtain⟨R,dO,h⟩:=al h;rcases dH h with⟨e0,h⟩|⟨e0,h⟩
   .obtain⟨ae,ck,h⟩:=al h;refine eO (U dO e0) (Y5 a0.Body jS _ ck) _ ?_;refine aE h (λkb h=>?_) (λkb h=>?_)
    .refine wr _ ?_;exact hv _ (bT _ (.inr ⟨_,aZ rfl,vY (i64.wrap (fC+1)) jS h⟩))
    .exact aL (hv _ (bT _ (.inr ⟨_,aZ rfl,vY fC jS h⟩)))
   .refine cU (U dO e0) _ ?_;refine n8 rfl ?_;exact aL (hv _ (bT _ (.inr ⟨_,aZ rfl,vY fC jS h⟩)))
  .refine cK (bs 0 _ (bp 0 _ (cV _ (fg _ (.inl ?_)))));refine ws _ ?_;exact aw (ai _ (.inl (az [.int .i64 fC])))
 obtain⟨n,h⟩:=cC h;exact cQ (.inr ⟨_,aZ rfl,iZ n a0.dP 0 h⟩)
theorem am5 (a0 J r) (h:Jg a0 J=some r):aW ah 254 [.ref (dR a0),.int .i64 J] (.bool r) []:=by
 refine bw [0,1] [.tmp 4] Tryz.func254 ajz (λbq ai bo=>?_);refine ws _ ?_;refine ay ai (λ_ bA bc ae=>?_);refine ws _ ?_;refine bj bc (λ_ fa bG _ _=>?_);refine ws _ ?_;refine aE h (λdA h=>?_) (λdA h=>?_)
 .obtain⟨R,fJ,h⟩:=al h;refine cH (py a0.Value 0 63 _ fJ) _ ?_;exact aw (bG _ (.inl (az [.bool R])))
 .refine ws _ ?_;refine aE h (λfl h=>?_) (λfl h=>?_)
  .obtain⟨ae,dd,h⟩:=al h;refine cH (py a0.Value 0 (i64.wrap (J-1)) _ dd) _ ?_;exact aw (bG _ (.inl (az [.bool ae])))
  .refine ws _ ?_;refine aE h (λgX h=>?_) (λgX h=>?_)
   .obtain⟨aD,ck,h⟩:=al h;refine cH (py a0.Value 0 8 _ ck) _ ?_;exact aw (bG _ (.inl (az [.bool aD])))
   .refine ws _ ?_;refine aE h (λh0 h=>?_) (λh0 h=>?_)
    .refine ws _ ?_;exact aw (bG _ (.inl (az [.bool (a0.Value==0)])))
    .refine aL (fa _ (bA _ (.inl ?_)));refine ws _ ?_;exact aw (ai _ (.inl (az [.bool false])))
theorem Y6 (a0 r) (h:Jh a0=some r):aW ah 227 [.ref (dR a0)] (.int .i64 r) []:=by
 refine bw [0] [.tmp 2] Tryz.func227 c227 (λbq ai bo=>?_);refine ws _ ?_;refine ay ai (λ_ bA bc _=>?_);refine ws _ ?_;refine bj bc (λ_ fa bG _ _=>?_);refine ws _ ?_;refine aE h (λdA h=>?_) (λdA h=>?_)
 .refine ws _ ?_;exact aw (bG _ (.inl (az [.int .i64 2])))
 .refine ws _ ?_;refine aE h (λe7 h=>?_) (λe7 h=>?_)
  .refine ws _ ?_;exact aw (bG _ (.inl (az [.int .i64 1])))
  .refine aL (fa _ (bA _ (.inl ?_)));refine ws _ ?_;exact aw (ai _ (.inl (az [.int .i64 0])))
theorem am6 (a0 J a2 r) (h:Ji a0 J a2=some r):aW ah 226 [.slice (a0.map dR),.int .i64 J,.int .i64 a2] (.bool r) []:=by
 refine bw [0,1,2] [.tmp 6] Tryz.func226 c226 (λbq ai bo=>?_);refine ws _ ?_;refine ay ai (λ_ bA bc ae=>?_);refine ws _ ?_;refine aE h (λbM h=>?_) (λbM h=>?_)
 .refine ws _ ?_;exact aw (bc _ (.inl (az [.bool false])))
 .refine aL (bA _ (.inl ?_));refine ws _ ?_;refine ay ai (λ_ dK eK _=>?_);refine ws _ ?_;refine bj eK (λjX _ bW e7 _=>?_);show bn ah (.loop ?kz) _ _;have k6:∀n jR tZ,Bz a0 J n jR tZ=some r->cD ah ?kz jX (aq [(0,.slice (a0.map dR)),(1,.int .i64 J),(7,.int .i64 jR),(8,.int .i64 tZ)]):=by
   refine cS (λ_ k7 jR tZ h=>cR bW (λ_ bT cw dI=>?_));refine ay cw (λ_ eE _ e6=>?_);refine ws _ ?_;refine aE h (λfh h=>?_) (λfh h=>?_)
   .refine aL (eE _ (.inl ?_));refine ay cw (λ_ eH ef _=>?_);refine bj ef (λ_ gi gS _ _=>?_);refine ay gS (λ_ lB nQ _=>?_);rcases dH h with⟨h0,h⟩|⟨h0,h⟩
    .refine cU h0 _ ?_;refine iT rfl ?_;refine ws _ ?_;exact aw (nQ _ (.inl (az [.bool false])))
    .obtain⟨R,gj,h⟩:=al h;obtain⟨ae,gW,h⟩:=al h;refine eO (U h0 gj) (am5 R J _ gW) _ ?_;refine aE h (λzO h=>?_) (λzO h=>?_)
     .refine ws _ ?_;exact aw (nQ _ (.inl (az [.bool false])))
     .refine aL (lB _ (.inl ?_));obtain⟨aD,iI,h⟩:=al h;refine zL gj (Y6 R _ iI) _ ?_;refine gi _ (eH _ (.inl ?_));refine wr _ ?_;exact bT _ (.inr ⟨_,aZ rfl,k7 (i64.wrap (jR+(i64.wrap (aD-1)))) (i64.wrap (tZ+1)) h⟩)
   .refine cK (e6 0 _ (dI 0 _ (e7 _ (dK _ (.inl ?_)))));refine ws _ ?_;exact aw (ai _ (.inl (az [.bool (jR==0)])))
  obtain⟨n,h⟩:=cC h;exact cQ (.inr ⟨_,aZ rfl,k6 n 1 0 h⟩)
theorem am7 (a0 J a2 r) (h:sF a0 J a2=some r):aW ah 192 [.slice (a0.map bx),.ref (bx J),.int .i64 a2] (.int .i64 r) []:=by
 refine bw [0,1,2] [.tmp 6] Tryz.func192 ajD (λbq ai bo=>?_);refine ws _ ?_;obtain⟨R,aU,h⟩:=al h;refine cU aU _ ?_;refine ay ai (λ_ fa bG aX=>?_);obtain⟨ae,cl,h⟩:=al h;refine dC (b6 [(0,.slice (a0.map bx)),(1,.ref (bx J)),(2,.int .i64 a2),(7,.aS (ep R)),(19,.bool (!ae))] (λP bl=>?_) ?_)
 .refine dD (am4 R _ cl) rfl rfl (by simp only[aK.down,simprocAttr,gN,gP,gQ,cG, @bV _ iX iX (λ_=>QT _)]<;>rfl) rfl (.inr (by rfl)) ?_;simp only[aK.down,simprocAttr];exact bR trivial
 refine aE h (λqj h=>?_) (λqj h=>?_)
 .refine ws _ ?_;exact aw (bG _ (.inl (az [.int .i64 2])))
 .refine aL (fa _ (.inl ?_));refine ay ai (λjX cq bW dE=>?_);have Y7:∀FC,BA a0 J a2 R FC=some r->bn ah XY jX (aq [(0,.slice (a0.map bx)),(1,.ref (bx J)),(2,.int .i64 a2),(7,.aS (ep R)),(28,.bool FC)]):=by
   intro FC h;refine aE h (λfl h=>?_) (λfl h=>?_)
   .refine ws _ ?_;exact aw (bW _ (.inl (az [.int .i64 3])))
   .refine aL (cq _ (.inl ?_));refine ay ai (λGY hv mA _=>?_);have GZ:∀FB,ub a0 J a2 R FB=some r->bn ah XZ GY (aq [(0,.slice (a0.map bx)),(1,.ref (bx J)),(2,.int .i64 a2),(7,.aS (ep R)),(51,.bool FB)]):=by
     intro FB h;refine aE h (λfh h=>?_) (λfh h=>?_)
     .refine ws _ ?_;exact aw (mA _ (.inl (az [.int .i64 4])))
     .refine aL (hv _ (.inl ?_));refine ws _ ?_;have KZ:vz J a2 R=some r->bn ah X2 bq (aq [(1,.ref (bx J)),(2,.int .i64 a2),(7,.aS (ep R)),(8,.int .i64 (R.cd.length:Int))]):=by
       intro h;refine ay ai (λRi kc kP _=>?_);have zP:∀FA,sE J a2 R FA=some r->bn ah X0 Ri (aq [(1,.ref (bx J)),(2,.int .i64 a2),(7,.aS (ep R)),(8,.int .i64 (R.cd.length:Int)),(102,.bool FA)]):=by
        intro FA h;refine aE h (λh0 h=>?_) (λh0 h=>?_)
        .refine ws _ ?_;exact aw (kP _ (.inl (az [.int .i64 6])))
        .refine aL (kc _ (.inl ?_));obtain⟨aD,gW,h⟩:=al h;refine cH (Rh J a2 _ gW) _ ?_;refine ay ai (λ_ ot nR _=>?_);refine nP (R.Kind==4) [(7,.aS (ep R)),(8,.int .i64 (R.cd.length:Int)),(9,.int .i64 aD),(112,.bool ((R.Kind==4)&&(decide (6<=aD))))] ?_;refine aE h (λic h=>?_) (λic h=>?_)
         .refine ws _ ?_;exact aw (nR _ (.inl (az [.int .i64 7])))
         .refine aL (ot _ (.inl ?_));refine ay ai (λ_ s3 s4 _=>?_);refine ws _ ?_;refine bj s4 (λRj _ GV kd _=>?_);have Rk:∀n t_ ua,xJ R n t_ ua=some r->cD ah X1 Rj (aq [(7,.aS (ep R)),(8,.int .i64 (R.cd.length:Int)),(9,.int .i64 t_),(10,.int .i64 ua)]):=by
           refine cS (λ_ Rl t_ ua h=>cR GV (λ_ rP s5 G0=>?_));refine ay s5 (λ_ s6 _ Rm=>?_);refine ws _ ?_;refine aE h (λG1 h=>?_) (λG1 h=>?_)
           .refine aL (s6 _ (.inl ?_));refine ay s5 (λ_ Rn G2 _=>?_);refine bj G2 (λ_ zQ zR _ _=>?_);obtain⟨aX,pz,h⟩:=al h;obtain⟨aT,s7,h⟩:=al h;refine eO pz (am6 aX t_ 15 _ s7) _ ?_;refine aE h (λG3 h=>?_) (λG3 h=>?_)
            .refine ws _ ?_;exact aw (zR _ (.inl (az [.int .i64 8])))
            .refine aL (zQ _ (Rn _ (.inl ?_)));refine wr _ ?_;exact rP _ (.inr ⟨_,aZ rfl,Rl t_ (i64.wrap (ua+1)) h⟩)
           .refine cK (Rm 1 _ (G0 1 _ (kd _ (s3 _ (.inl ?_)))));refine ws _ ?_;exact aw (ai _ (.inl (az [.int .i64 0])))
          obtain⟨n,h⟩:=cC h;exact cQ (.inr ⟨_,aZ rfl,Rk n aD 0 h⟩)
       rcases dH h with⟨zS,h⟩|⟨zS,h⟩
       .rcases dH h with⟨vZ,h⟩|⟨vZ,h⟩
        .refine l9 (b6 (K:=eS _) [(1,.ref (bx J)),(2,.int .i64 a2),(7,.aS (ep R)),(8,.int .i64 (R.cd.length:Int)),(102,.bool true)] (λP bl=>?_) ?_)
         .simp only[aK.down,simprocAttr,zS,vZ];exact bR (U zS vZ)
         exact .inr ⟨_,aZ rfl,zP true h⟩
        .obtain⟨bp,x2,h⟩:=al h;refine l9 (b6 (K:=eS _) [(1,.ref (bx J)),(2,.int .i64 a2),(7,.aS (ep R)),(8,.int .i64 (R.cd.length:Int)),(102,.bool (bp.Kind !=1))] (λP bl=>?_) ?_)
         .simp only[aK.down,simprocAttr,zS,vZ,x2];exact bR (U zS (U vZ x2))
         exact .inr ⟨_,aZ rfl,zP (bp.Kind !=1) h⟩
       .refine l9 (b6 (K:=eS _) [(1,.ref (bx J)),(2,.int .i64 a2),(7,.aS (ep R)),(8,.int .i64 (R.cd.length:Int)),(102,.bool false)] (λP bl=>?_) ?_)
        .simp only[aK.down,simprocAttr,zS];exact bR zS
        exact .inr ⟨_,aZ rfl,zP false h⟩
      refine ay ai (λ_ lB nQ _=>?_);refine ws _ ?_;refine bj nQ (λ_ p3 rQ _ _=>?_);refine ws _ ?_;refine aE h (λRo h=>?_) (λRo h=>?_)
      .refine dC (b6 [(1,.ref (bx J)),(2,.int .i64 a2),(7,.aS (ep R)),(8,.int .i64 (R.cd.length:Int)),(69,.bool ((decide (2<(R.cd.length:Int)))||((decide (0<(R.cd.length:Int)))&&(R.Name==([116,97,117]:ayc)))))] (λP bl=>?_) ?_)
       ·(rcases Bool.eq_false_or_eq_true (decide (2<(R.cd.length:Int)))with Rp|Rp)<;>(rcases Bool.eq_false_or_eq_true (decide (0<(R.cd.length:Int)))with Rq|Rq)<;>
         (simp only[aK.down,simprocAttr,Rp,Rq]
          exact bR (U Rp Rq))
       refine aE h (λam8 h=>?_) (λam8 h=>?_)
       .refine ws _ ?_;exact aw (rQ _ (.inl (az [.int .i64 5])))
       .exact aL (p3 _ (lB _ (.inr ⟨_,aZ rfl,KZ h⟩)))
      .refine ws _ ?_;refine aE h (λRr h=>?_) (λRr h=>?_)
       .refine ws _ ?_;refine aE h (λRs h=>?_) (λRs h=>?_)
        .refine ws _ ?_;exact aw (rQ _ (.inl (az [.int .i64 5])))
        .exact aL (p3 _ (lB _ (.inr ⟨_,aZ rfl,KZ h⟩)))
       .refine ws _ ?_;refine aE h (λzT h=>?_) (λzT h=>?_)
        .obtain⟨bs,Rt,h⟩:=al h;refine cU Rt _ ?_;refine aE h (λRu h=>?_) (λRu h=>?_)
         .refine ws _ ?_;exact aw (rQ _ (.inl (az [.int .i64 5])))
         .exact aL (p3 _ (lB _ (.inr ⟨_,aZ rfl,KZ h⟩)))
        .exact aL (p3 _ (lB _ (.inr ⟨_,aZ rfl,KZ h⟩)))
    rcases dH h with⟨nS,h⟩|⟨nS,h⟩
    .obtain⟨cv,Rv,h⟩:=al h;rcases dH h with⟨qK,h⟩|⟨qK,h⟩
     .refine l9 (b6 (K:=eS _) [(0,.slice (a0.map bx)),(1,.ref (bx J)),(2,.int .i64 a2),(7,.aS (ep R)),(51,.bool true)] (λP bl=>?_) ?_)
      ·(try simp only[aK.down,simprocAttr,nS,(hj qK)]);refine iF (py R.Number 1 7 _ Rv) rfl rfl rfl rfl (.inl (by rfl)) ?_;simp only[aK.down,simprocAttr,nS,(hj qK)];exact bR (U nS (hj qK))
      exact .inr ⟨_,aZ rfl,GZ true h⟩
     .rcases dH h with⟨x3,h⟩|⟨x3,h⟩
      .obtain⟨dE,uT,h⟩:=al h;refine l9 (b6 (K:=eS _) [(0,.slice (a0.map bx)),(1,.ref (bx J)),(2,.int .i64 a2),(7,.aS (ep R)),(51,.bool (!dE))] (λP bl=>?_) ?_)
       ·(try simp only[aK.down,simprocAttr,nS,(b_ qK),x3]);refine iF (py R.Number 1 7 _ Rv) rfl rfl rfl rfl (.inl (by rfl)) ?_;simp only[aK.down,simprocAttr,nS,(b_ qK),x3];refine iF (py R.Number 0 (i64.wrap ((a0.length:Int)-1)) _ uT) rfl rfl rfl rfl (.inl (by rfl)) ?_;simp only[aK.down,simprocAttr,nS,(b_ qK),x3];exact bR (U nS (U (b_ qK) x3))
       exact .inr ⟨_,aZ rfl,GZ (!dE) h⟩
      .refine l9 (b6 (K:=eS _) [(0,.slice (a0.map bx)),(1,.ref (bx J)),(2,.int .i64 a2),(7,.aS (ep R)),(51,.bool false)] (λP bl=>?_) ?_)
       ·(try simp only[aK.down,simprocAttr,nS,(b_ qK),x3]);refine iF (py R.Number 1 7 _ Rv) rfl rfl rfl rfl (.inl (by rfl)) ?_;simp only[aK.down,simprocAttr,nS,(b_ qK),x3];exact bR (U nS (U (b_ qK) x3))
       exact .inr ⟨_,aZ rfl,GZ false h⟩
    .rcases dH h with⟨C8,h⟩|⟨C8,h⟩
     .obtain⟨dI,G4,h⟩:=al h;refine l9 (b6 (K:=eS _) [(0,.slice (a0.map bx)),(1,.ref (bx J)),(2,.int .i64 a2),(7,.aS (ep R)),(51,.bool (!dI))] (λP bl=>?_) ?_)
      ·(try simp only[aK.down,simprocAttr,nS,C8]);refine iF (py R.Number 0 (i64.wrap ((a0.length:Int)-1)) _ G4) rfl rfl rfl rfl (.inl (by rfl)) ?_;simp only[aK.down,simprocAttr,nS,C8];exact bR (U nS C8)
      exact .inr ⟨_,aZ rfl,GZ (!dI) h⟩
     .refine l9 (b6 (K:=eS _) [(0,.slice (a0.map bx)),(1,.ref (bx J)),(2,.int .i64 a2),(7,.aS (ep R)),(51,.bool false)] (λP bl=>?_) ?_)
      .simp only[aK.down,simprocAttr,nS,C8];exact bR (U nS C8)
      exact .inr ⟨_,aZ rfl,GZ false h⟩
  rcases dH h with⟨C9,h⟩|⟨C9,h⟩
  .obtain⟨e6,K0,h⟩:=al h;refine l9 (b6 (K:=eS _) [(0,.slice (a0.map bx)),(1,.ref (bx J)),(2,.int .i64 a2),(7,.aS (ep R)),(28,.bool (!e6))] (λP bl=>?_) ?_)
   ·(try simp only[aK.down,simprocAttr,C9]);refine iF (C7 R.Name _ K0) rfl rfl rfl rfl (.inl (by rfl)) ?_;simp only[aK.down,simprocAttr,C9];exact bR C9
   exact .inr ⟨_,aZ rfl,Y7 (!e6) h⟩
  .refine l9 (b6 (K:=eS _) [(0,.slice (a0.map bx)),(1,.ref (bx J)),(2,.int .i64 a2),(7,.aS (ep R)),(28,.bool false)] (λP bl=>?_) ?_)
   .simp only[aK.down,simprocAttr,C9];exact bR C9
   exact .inr ⟨_,aZ rfl,Y7 false h⟩
theorem am9 (a0 J r) (h:vB a0 J=some r):aW ah 158 [.slice (a0.map bx),.ref (bx J)] (.tuple [.int .i64 r.1,.int .i64 r.2]) []:=by
 refine bw [0,1] [.tmp 4,.tmp 5] Tryz.func158 ajE (λbq ai bo=>?_);refine ws _ ?_;refine ay ai (λ_ bA bc ae=>?_);obtain⟨R,b4,h⟩:=al h;refine cH (am3 J.Body _ b4) _ ?_;refine aE h (λcV h=>?_) (λcV h=>?_)
 .refine ws _ ?_;exact aw (bc _ (.inl (az [.int .i64 0,.int .i64 1])))
 .refine aL (bA _ (.inl ?_));refine ay ai (λ_ dK eK _=>?_);refine ws _ ?_;refine bj eK (λjX _ bW e7 _=>?_);show bn ah (.loop ?gJ) _ _;have gK:∀n qt,vA a0 J n qt=some r->cD ah ?gJ jX (aq [(0,.slice (a0.map bx)),(1,.ref (bx J)),(6,.int .i64 qt)]):=by
   refine cS (λ_ gw qt h=>cR bW (λ_ bT cw dI=>?_));refine ay cw (λ_ eE _ e6=>?_);refine ws _ ?_;refine aE h (λfh h=>?_) (λfh h=>?_)
   .refine aL (eE _ (.inl ?_));refine ay cw (λ_ eH ef _=>?_);refine bj ef (λ_ gi gS _ _=>?_);obtain⟨ae,dL,h⟩:=al h;refine cH (am7 a0 J qt _ dL) _ ?_;refine ws _ ?_;refine aE h (λfO h=>?_) (λfO h=>?_)
    .refine ws _ ?_;exact aw (gS _ (.inl (az [.int .i64 qt,.int .i64 ae])))
    .refine aL (gi _ (eH _ (.inl ?_)));refine wr _ ?_;exact bT _ (.inr ⟨_,aZ rfl,gw (i64.wrap (qt+1)) h⟩)
   .refine cK (e6 0 _ (dI 0 _ (e7 _ (dK _ (.inl ?_)))));refine ws _ ?_;exact aw (ai _ (.inl (az [.int .i64 0,.int .i64 0])))
  obtain⟨n,h⟩:=cC h;exact cQ (.inr ⟨_,aZ rfl,gK n 0 h⟩)
theorem am_ (a0 r) (h:Jj a0=some r):aW ah 108 [.slice (a0.map bx)] (.bool r) []:=by
 refine bw [0] [.tmp 2] Tryz.func108 ajF (λbq ai bo=>?_);refine ws _ ?_;refine ay ai (λ_ bA bc ae=>?_);refine nP ((a0.length:Int)==0) [(0,.slice (a0.map bx)),(15,.bool (((a0.length:Int)==0)||(decide (4<(a0.length:Int)))))] ?_;refine aE h (λbM h=>?_) (λbM h=>?_)
 .refine ws _ ?_;exact aw (bc _ (.inl (az [.bool false])))
 .refine aL (bA _ (.inl ?_));refine ay ai (λ_ cB cW bp=>?_);refine ws _ ?_;refine bj cW (λix _ hL b7 _=>?_);show bn ah (.loop ?gJ) _ _;have gK:∀n ek,vC a0 n ek=some r->cD ah ?gJ ix (aq [(0,.slice (a0.map bx)),(3,.int .i64 ek)]):=by
   refine cS (λm14 gw ek h=>cR hL (λ_ cq bW dE=>?_));refine ay bW (λ_ bT _ dI=>?_);refine ws _ ?_;refine aE h (λe1 h=>?_) (λe1 h=>?_)
   .refine aL (bT _ (.inl ?_));refine ay bW (λ_ fE fB _=>?_);refine bj fB (λ_ eH ef _ _=>?_);refine ay ef (λ_ gi gS _=>?_);obtain⟨R,dL,h⟩:=al h;obtain⟨ae,eu,h⟩:=al h;rcases dH h with⟨fO,h⟩|⟨fO,h⟩
    .refine eO (U dL (hj fO)) (C7 R.Name _ eu) _ ?_;refine iT rfl ?_;refine ws _ ?_;exact aw (gS _ (.inl (az [.bool false])))
    .obtain⟨aD,gW,h⟩:=al h;refine dC (b6 [(0,.slice (a0.map bx)),(3,.int .i64 ek),(37,.bool (!aD))] (λP bl=>?_) ?_)
     ·(try simp only[aK.down,simprocAttr,dL,(b_ fO)]);refine dD (C7 R.Name _ eu) rfl rfl rfl rfl (.inl (by rfl)) ?_;simp only[aK.down,simprocAttr,dL,(b_ fO)];refine iF (py R.dP 0 3 _ gW) rfl rfl rfl rfl (.inl (by rfl)) ?_;simp only[aK.down,simprocAttr,dL,(b_ fO)];exact bR (U dL (b_ fO))
     refine aE h (λzO h=>?_) (λzO h=>?_)
     .refine ws _ ?_;exact aw (gS _ (.inl (az [.bool false])))
     .refine aL (gi _ (.inl ?_));refine ws _ ?_;refine bj ef (λRw _ oU ou _=>?_);show bn ah (.loop ?GS) _ _;have Rx:∀n rh uc,BB (vC a0 m14) a0 n rh uc=some r->cD ah ?GS Rw (aq [(0,.slice (a0.map bx)),(3,.int .i64 rh),(4,.int .i64 uc)]):=by
       refine cS (λ_ Ry rh uc h=>cR oU (λ_ s3 s4 rm=>?_));refine ay s4 (λ_ G5 _ uj=>?_);refine ws _ ?_;refine aE h (λh1 h=>?_) (λh1 h=>?_)
       .refine aL (G5 _ (.inl ?_));refine ay s4 (λ_ s6 G6 _=>?_);refine bj G6 (λ_ G7 G8 _ _=>?_);obtain⟨aX,oV,h⟩:=al h;obtain⟨aT,js,h⟩:=al h;refine oT (U oV js) _ ?_;refine aE h (λv7 h=>?_) (λv7 h=>?_)
        .refine ws _ ?_;exact aw (G8 _ (.inl (az [.bool false])))
        .refine aL (G7 _ (s6 _ (.inl ?_)));refine wr _ ?_;exact s3 _ (.inr ⟨_,aZ rfl,Ry rh (i64.wrap (uc+1)) h⟩)
       .refine cK (uj 2 _ (rm 2 _ (ou _ (eH _ (fE _ (.inl ?_))))));refine wr _ ?_;exact cq _ (.inr ⟨_,aZ rfl,gw (i64.wrap (rh+1)) h⟩)
      obtain⟨n,h⟩:=cC h;exact cQ (.inr ⟨_,aZ rfl,Rx n ek 0 h⟩)
   .refine cK (dI 0 _ (dE 0 _ (b7 _ (cB _ (.inl ?_)))));refine ay ai (λ_ v8 x4 _=>?_);refine ws _ ?_;refine bj x4 (λG9 _ uU s8 _=>?_);show bn ah (.loop ?QZ) _ _;have G_:∀n ud,zc a0 n ud=some r->cD ah ?QZ G9 (aq [(0,.slice (a0.map bx)),(5,.int .i64 ud)]):=by
     refine cS (λ_ Ha ud h=>cR uU (λ_ zU x5 zV=>?_));refine ay x5 (λ_ Rz _ ana=>?_);refine ws _ ?_;refine aE h (λzW h=>?_) (λzW h=>?_)
     .refine aL (Rz _ (.inl ?_));refine ay x5 (λ_ zX v_ _=>?_);refine bj v_ (λ_ p3 rQ _ _=>?_);obtain⟨bp,s9,h⟩:=al h;obtain⟨bs,Hb,h⟩:=al h;refine eO s9 (am9 a0 bp _ Hb) _ ?_;refine ws _ ?_;refine aE h (λRA h=>?_) (λRA h=>?_)
      .refine ws _ ?_;exact aw (rQ _ (.inl (az [.bool false])))
      .refine aL (p3 _ (zX _ (.inl ?_)));refine wr _ ?_;exact zU _ (.inr ⟨_,aZ rfl,Ha (i64.wrap (ud+1)) h⟩)
     .refine cK (ana 4 _ (zV 4 _ (s8 _ (v8 _ (.inl ?_)))));refine ws _ ?_;exact aw (ai _ (.inl (az [.bool true])))
    obtain⟨n,h⟩:=cC h;exact cQ (.inr ⟨_,aZ rfl,G_ n 0 h⟩)
  obtain⟨n,h⟩:=cC h;exact cQ (.inr ⟨_,aZ rfl,gK n 0 h⟩)
theorem Y8 (a0 r) (h:FE a0=some r):aW ah 114 [.slice (a0.map a8)] (.bool r) []:=by
 refine bw [0] [.tmp 2] Tryz.func114 ajG (λbq ai bo=>?_);refine ws _ ?_;refine ay ai (λ_ bA bc ae=>?_);refine ws _ ?_;refine bj bc (λeC _ bG bM _=>?_);show bn ah (.loop ?eG) _ _;have eT:∀n iG,BC a0 n iG=some r->cD ah ?eG eC (aq [(0,.slice (a0.map a8)),(3,.int .i64 iG)]):=by
  refine cS (λ_ ev iG h=>cR bG (λ_ dw cn aT=>?_));refine ay cn (λ_ cB _ bp=>?_);refine ws _ ?_;refine aE h (λb7 h=>?_) (λb7 h=>?_)
  .refine aL (cB _ (.inl ?_));refine ay cn (λ_ cq bW _=>?_);refine bj bW (λ_ bT cw _ _=>?_);obtain⟨R,dd,h⟩:=al h;obtain⟨ae,dz,h⟩:=al h;refine eO dd (py R 0 63 _ dz) _ ?_;refine aE h (λgX h=>?_) (λgX h=>?_)
   .refine ws _ ?_;exact aw (cw _ (.inl (az [.bool false])))
   .refine aL (bT _ (cq _ (.inl ?_)));refine wr _ ?_;exact dw _ (.inr ⟨_,aZ rfl,ev (i64.wrap (iG+1)) h⟩)
  .refine cK (bp 0 _ (aT 0 _ (bM _ (bA _ (.inl ?_)))));refine ws _ ?_;exact aw (ai _ (.inl (az [.bool true])))
 obtain⟨n,h⟩:=cC h;exact cQ (.inr ⟨_,aZ rfl,eT n 0 h⟩)
theorem anb (a0 r) (h:Jk a0=some r):aW ah 109 [.ref (dQ a0)] (.bool r) []:=by
 refine bw [0] [.tmp 2] Tryz.func109 c109 (λbq ai bo=>?_);refine ws _ ?_;refine ay ai (λ_ bA bc ae=>?_);refine nP ((a0.cL.length:Int)==0) [(0,.ref (dQ a0)),(18,.bool (((a0.cL.length:Int)==0)||(decide (3<(a0.cL.length:Int)))))] ?_;refine aE h (λbM h=>?_) (λbM h=>?_)
 .refine ws _ ?_;exact aw (bc _ (.inl (az [.bool false])))
 .refine aL (bA _ (.inl ?_));refine ay ai (λ_ cB cW _=>?_);refine ws _ ?_;refine bj cW (λix _ hL b7 _=>?_);show bn ah (.loop ?gJ) _ _;have gK:∀n ek,BD a0 n ek=some r->cD ah ?gJ ix (aq [(0,.ref (dQ a0)),(3,.int .i64 ek)]):=by
   refine cS (λ_ gw ek h=>cR hL (λ_ cq bW dE=>?_));refine ay bW (λ_ bT _ dI=>?_);refine ws _ ?_;refine aE h (λe1 h=>?_) (λe1 h=>?_)
   .refine aL (bT _ (.inl ?_));refine ay bW (λ_ fE fB _=>?_);refine bj fB (λ_ eH ef _ _=>?_);obtain⟨R,ck,h⟩:=al h;refine cU ck _ ?_;refine ay ef (λ_ kc kP _=>?_);obtain⟨ae,eX,h⟩:=al h;refine amC (py R.cp 0 (i64.wrap ((a0.c8.length:Int)-1)) _ eX) _ ?_;refine aE h (λfY h=>?_) (λfY h=>?_)
    .refine ws _ ?_;exact aw (kP _ (.inl (az [.bool false])))
    .refine aL (kc _ (.inl ?_));obtain⟨aD,ie,h⟩:=al h;rcases dH h with⟨ic,h⟩|⟨ic,h⟩
     .refine oT (U ie ic) _ ?_;refine iT rfl ?_;refine ws _ ?_;exact aw (ef _ (.inl (az [.bool false])))
     .obtain⟨aX,s_,h⟩:=al h;refine lA (U ie ic) (Y8 R.bH _ s_) _ ?_;refine aE h (λov h=>?_) (λov h=>?_)
      .refine ws _ ?_;exact aw (ef _ (.inl (az [.bool false])))
      .refine aL (eH _ (fE _ (.inl ?_)));refine wr _ ?_;exact cq _ (.inr ⟨_,aZ rfl,gw (i64.wrap (ek+1)) h⟩)
   .refine cK (dI 0 _ (dE 0 _ (b7 _ (cB _ (.inl ?_)))));refine ws _ ?_;exact aw (ai _ (.inl (az [.bool true])))
  obtain⟨n,h⟩:=cC h;exact cQ (.inr ⟨_,aZ rfl,gK n 0 h⟩)
theorem rR (a0 r) (h:ue a0=some r):aW ah 121 [.str a0] (.bool r) []:=by
 refine bw [0] [.tmp 2] Tryz.func121 ajH (λbq ai bo=>?_);refine ws _ ?_;obtain⟨R,aU,h⟩:=al h;refine dC (b6 [(2,.bool (R&&(!(a0==([116,97,117]:ayc)))))] (λP bl=>?_) ?_)
 .rcases Bool.eq_false_or_eq_true (R)with mN|mN
  ·(try simp only[aK.down,simprocAttr,mN]);refine dD (C7 a0 _ aU) rfl rfl rfl rfl (.inl (by rfl)) ?_;simp only[aK.down,simprocAttr,mN];exact bR mN
  ·(try simp only[aK.down,simprocAttr,mN]);refine dD (C7 a0 _ aU) rfl rfl rfl rfl (.inl (by rfl)) ?_;simp only[aK.down,simprocAttr,mN];exact bR mN
 exact aw (ai _ (.inl (az [.bool (R&&(!(a0==([116,97,117]:ayc))))])))
theorem anc (a0 r) (h:Jl a0=some r):aW ah 110 [.slice (a0.map b3)] (.bool r) []:=by
 refine bw [0] [.tmp 2] Tryz.func110 ajI (λbq ai bo=>?_);refine ws _ ?_;refine ay ai (λ_ bA bc ae=>?_);refine ws _ ?_;refine aE h (λbM h=>?_) (λbM h=>?_)
 .refine ws _ ?_;exact aw (bc _ (.inl (az [.bool false])))
 .refine aL (bA _ (.inl ?_));refine ay ai (λ_ cB cW bp=>?_);refine ws _ ?_;refine bj cW (λix _ hL b7 _=>?_);show bn ah (.loop ?gJ) _ _;have gK:∀n ek,sG a0 n ek=some r->cD ah ?gJ ix (aq [(0,.slice (a0.map b3)),(3,.int .i64 ek)]):=by
   refine cS (λm14 gw ek h=>cR hL (λ_ cq bW dE=>?_));refine ay bW (λ_ bT _ dI=>?_);refine ws _ ?_;refine aE h (λe1 h=>?_) (λe1 h=>?_)
   .refine aL (bT _ (.inl ?_));refine ay bW (λ_ fE fB _=>?_);refine bj fB (λ_ eH ef _ _=>?_);obtain⟨R,ck,h⟩:=al h;refine cU ck _ ?_;refine ay ef (λ_ kc kP _=>?_);obtain⟨ae,eX,h⟩:=al h;rcases dH h with⟨fY,h⟩|⟨fY,h⟩
    .refine eO (hj fY) (rR R.Left _ eX) _ ?_;refine iT rfl ?_;refine ws _ ?_;exact aw (kP _ (.inl (az [.bool false])))
    .obtain⟨aD,e8,h⟩:=al h;rcases dH h with⟨gk,h⟩|⟨gk,h⟩
     .refine dC (b6 [(0,.slice (a0.map b3)),(3,.int .i64 ek),(4,.aS (b3 R)),(41,.bool true)] (λP bl=>?_) ?_)
      ·(try simp only[aK.down,simprocAttr,(b_ fY),(hj gk)]);refine dD (rR R.Left _ eX) rfl rfl rfl rfl (.inl (by rfl)) ?_;simp only[aK.down,simprocAttr,(b_ fY),(hj gk)];refine iF (rR R.cx _ e8) rfl rfl rfl rfl (.inl (by rfl)) ?_;simp only[aK.down,simprocAttr,(b_ fY),(hj gk)];exact bR (U (b_ fY) (hj gk))
      refine iT rfl ?_;refine ws _ ?_;exact aw (kP _ (.inl (az [.bool false])))
     .obtain⟨aX,iI,h⟩:=al h;refine dC (b6 [(0,.slice (a0.map b3)),(3,.int .i64 ek),(4,.aS (b3 R)),(41,.bool ((!aX)||(!(Op.bytesLess R.Left R.cx||R.Left==R.cx))))] (λP bl=>?_) ?_)
      .rcases Bool.eq_false_or_eq_true (aX)with ta|ta
       ·(try simp only[aK.down,simprocAttr,(b_ fY),(b_ gk),ta]);refine dD (rR R.Left _ eX) rfl rfl rfl rfl (.inl (by rfl)) ?_;simp only[aK.down,simprocAttr,(b_ fY),(b_ gk),ta];refine iF (rR R.cx _ e8) rfl rfl rfl rfl (.inl (by rfl)) ?_;simp only[aK.down,simprocAttr,(b_ fY),(b_ gk),ta];refine iF (rR R.Result _ iI) rfl rfl rfl rfl (.inl (by rfl)) ?_;simp only[aK.down,simprocAttr,(b_ fY),(b_ gk),ta];exact bR (U (b_ fY) (U (b_ gk) ta))
       ·(try simp only[aK.down,simprocAttr,(b_ fY),(b_ gk),ta]);refine dD (rR R.Left _ eX) rfl rfl rfl rfl (.inl (by rfl)) ?_;simp only[aK.down,simprocAttr,(b_ fY),(b_ gk),ta];refine iF (rR R.cx _ e8) rfl rfl rfl rfl (.inl (by rfl)) ?_;simp only[aK.down,simprocAttr,(b_ fY),(b_ gk),ta];refine iF (rR R.Result _ iI) rfl rfl rfl rfl (.inl (by rfl)) ?_;simp only[aK.down,simprocAttr,(b_ fY),(b_ gk),ta];exact bR (U (b_ fY) (U (b_ gk) ta))
      refine aE h (λov h=>?_) (λov h=>?_)
      .refine ws _ ?_;exact aw (kP _ (.inl (az [.bool false])))
      .refine aL (kc _ (.inl ?_));refine ay ef (λ_ rP s5 _=>?_);rcases dH h with⟨gY,h⟩|⟨gY,h⟩
       .obtain⟨aT,wa,h⟩:=al h;refine jz rfl (iU [(0,.slice (a0.map b3)),(3,.int .i64 ek),(4,.aS (b3 R)),(76,.bool ((!(Op.bytesLess aT.Left R.Left||aT.Left==R.Left))||((aT.Left==R.Left)&&(!(Op.bytesLess aT.cx R.cx)))))] (λP bl=>?_) ?_)
        ·(rcases Bool.eq_false_or_eq_true (Op.bytesLess aT.Left R.Left)with RB|RB)<;>(rcases Bool.eq_false_or_eq_true (aT.Left==R.Left)with RC|RC)<;>
          (simp only[c_.down,simprocAttr,gY,wa,RB,RC]
           refine⟨hY (by kernel_rfl),?_⟩;exact bR (U gY (U wa (U RB RC))))
        refine aE h (λv7 h=>?_) (λv7 h=>?_)
        .refine ws _ ?_;exact aw (s5 _ (.inl (az [.bool false])))
        .refine aL (rP _ (.inl ?_));refine ws _ ?_;refine bj ef (λane _ RD G3 _=>?_);show bn ah (.loop ?GR) _ _;have RE:∀n nJ ob,vD (sG a0 m14) a0 R n nJ ob=some r->cD ah ?GR ane (aq [(0,.slice (a0.map b3)),(3,.int .i64 nJ),(4,.aS (b3 R)),(5,.int .i64 ob)]):=by
          refine cS (λanf RF nJ ob h=>cR RD (λ_ v8 x4 ang=>?_));refine ay x4 (λ_ anh _ ani=>?_);refine ws _ ?_;refine aE h (λanj h=>?_) (λanj h=>?_)
          .refine aL (anh _ (.inl ?_));refine ay x4 (λ_ Rz ank _=>?_);refine bj ank (λ_ x6 anl _ _=>?_);obtain⟨bp,anm,h⟩:=al h;refine YJ (bp.Left==R.Result) anm [(0,.slice (a0.map b3)),(3,.int .i64 nJ),(4,.aS (b3 R)),(5,.int .i64 ob),(100,.bool ((bp.Left==R.Result)||(bp.cx==R.Result)))] ?_;refine aE h (λann h=>?_) (λann h=>?_)
           .refine ws _ ?_;exact aw (anl _ (.inl (az [.bool false])))
           .refine aL (x6 _ (Rz _ (.inl ?_)));refine wr _ ?_;exact v8 _ (.inr ⟨_,aZ rfl,RF nJ (i64.wrap (ob+1)) h⟩)
          .refine cK (ani 2 _ (ang 2 _ (G3 _ (eH _ (fE _ (.inl ?_))))));refine wr _ ?_;exact cq _ (.inr ⟨_,aZ rfl,gw (i64.wrap (nJ+1)) h⟩)
         obtain⟨n,h⟩:=cC h;exact cQ (.inr ⟨_,aZ rfl,RE n ek 0 h⟩)
       .refine oT gY _ ?_;refine n8 rfl ?_;refine aL (rP _ (.inl ?_));refine ws _ ?_;refine bj ef (λano _ anp RA _=>?_);show bn ah (.loop ?GR) _ _;have RE:∀n nJ ob,vD (sG a0 m14) a0 R n nJ ob=some r->cD ah ?GR ano (aq [(0,.slice (a0.map b3)),(3,.int .i64 nJ),(4,.aS (b3 R)),(5,.int .i64 ob)]):=by
         refine cS (λanf RF nJ ob h=>cR anp (λ_ anq Y9 anr=>?_));refine ay Y9 (λ_ ans _ ant=>?_);refine ws _ ?_;refine aE h (λRr h=>?_) (λRr h=>?_)
         .refine aL (ans _ (.inl ?_));refine ay Y9 (λ_ anu anv _=>?_);refine bj anv (λ_ anw anx _ _=>?_);obtain⟨bs,tb,h⟩:=al h;refine YJ (bs.Left==R.Result) tb [(0,.slice (a0.map b3)),(3,.int .i64 nJ),(4,.aS (b3 R)),(5,.int .i64 ob),(100,.bool ((bs.Left==R.Result)||(bs.cx==R.Result)))] ?_;refine aE h (λzT h=>?_) (λzT h=>?_)
          .refine ws _ ?_;exact aw (anx _ (.inl (az [.bool false])))
          .refine aL (anw _ (anu _ (.inl ?_)));refine wr _ ?_;exact anq _ (.inr ⟨_,aZ rfl,RF nJ (i64.wrap (ob+1)) h⟩)
         .refine cK (ant 2 _ (anr 2 _ (RA _ (eH _ (fE _ (.inl ?_))))));refine wr _ ?_;exact cq _ (.inr ⟨_,aZ rfl,gw (i64.wrap (nJ+1)) h⟩)
        obtain⟨n,h⟩:=cC h;exact cQ (.inr ⟨_,aZ rfl,RE n ek 0 h⟩)
   .refine cK (dI 0 _ (dE 0 _ (b7 _ (cB _ (.inl ?_)))));refine ws _ ?_;exact aw (ai _ (.inl (az [.bool true])))
  obtain⟨n,h⟩:=cC h;exact cQ (.inr ⟨_,aZ rfl,gK n 0 h⟩)
theorem anz (a0 r) (h:Jm a0=some r):aW ah 159 [.slice (a0.map bm)] (.bool r) []:=by
 refine bw [0] [.tmp 2] Tryz.func159 c159 (λbq ai bo=>?_);refine ws _ ?_;refine ay ai (λ_ bA bc ae=>?_);refine ws _ ?_;refine bj bc (λeC _ bG bM _=>?_);show bn ah (.loop ?eG) _ _;have eT:∀n iG,BE a0 n iG=some r->cD ah ?eG eC (aq [(0,.slice (a0.map bm)),(3,.int .i64 iG)]):=by
  refine cS (λ_ ev iG h=>cR bG (λ_ dw cn aT=>?_));refine ay cn (λ_ cB _ bp=>?_);refine ws _ ?_;refine aE h (λb7 h=>?_) (λb7 h=>?_)
  .refine aL (cB _ (.inl ?_));refine ay cn (λ_ cq bW _=>?_);refine bj bW (λ_ bT cw _ _=>?_);obtain⟨R,dd,h⟩:=al h;obtain⟨ae,dz,h⟩:=al h;refine eO dd (rR R _ dz) _ ?_;refine aE h (λgX h=>?_) (λgX h=>?_)
   .refine ws _ ?_;exact aw (cw _ (.inl (az [.bool false])))
   .refine aL (bT _ (cq _ (.inl ?_)));refine wr _ ?_;exact dw _ (.inr ⟨_,aZ rfl,ev (i64.wrap (iG+1)) h⟩)
  .refine cK (bp 0 _ (aT 0 _ (bM _ (bA _ (.inl ?_)))));refine ws _ ?_;exact aw (ai _ (.inl (az [.bool true])))
 obtain⟨n,h⟩:=cC h;exact cQ (.inr ⟨_,aZ rfl,eT n 0 h⟩)
theorem Y_ (a0 r) (h:FF a0=some r):aW ah 111 [.slice (a0.map bm)] (.bool r) []:=by
 refine bw [0] [.tmp 2] Tryz.func111 ajJ (λbq ai bo=>?_);refine ws _ ?_;refine ay ai (λ_ bA bc ae=>?_);rcases dH h with⟨bM,h⟩|⟨bM,h⟩
 .refine cU bM _ ?_;refine iT rfl ?_;refine ws _ ?_;exact aw (bc _ (.inl (az [.bool false])))
 .obtain⟨R,cl,h⟩:=al h;refine eO bM (anz a0 _ cl) _ ?_;refine aE h (λqj h=>?_) (λqj h=>?_)
  .refine ws _ ?_;exact aw (bc _ (.inl (az [.bool false])))
  .refine aL (bA _ (.inl ?_));refine ay ai (λ_ cq bW _=>?_);refine ws _ ?_;refine bj bW (λanA _ hM oq _=>?_);show bn ah (.loop ?gJ) _ _;have gK:∀n ek,ri a0 n ek=some r->cD ah ?gJ anA (aq [(0,.slice (a0.map bm)),(3,.int .i64 ek)]):=by
    refine cS (λ_ gw ek h=>cR hM (λ_ hv mA kv=>?_));refine ay mA (λ_ fE _ my=>?_);refine ws _ ?_;refine aE h (λe0 h=>?_) (λe0 h=>?_)
    .refine aL (fE _ (.inl ?_));refine ay mA (λ_ lB nQ _=>?_);refine bj nQ (λ_ kc kP _ _=>?_);obtain⟨ae,eX,h⟩:=al h;obtain⟨aD,gj,h⟩:=al h;refine oT (U eX gj) _ ?_;refine aE h (λuV h=>?_) (λuV h=>?_)
     .refine ws _ ?_;exact aw (kP _ (.inl (az [.bool false])))
     .refine aL (kc _ (lB _ (.inl ?_)));refine wr _ ?_;exact hv _ (.inr ⟨_,aZ rfl,gw (i64.wrap (ek+1)) h⟩)
    .refine cK (my 0 _ (kv 0 _ (oq _ (cq _ (.inl ?_)))));refine ws _ ?_;exact aw (ai _ (.inl (az [.bool true])))
   obtain⟨n,h⟩:=cC h;exact cQ (.inr ⟨_,aZ rfl,gK n 1 h⟩)
theorem anB (a0 r) (h:Jo a0=some r):aW ah 76 [.ref (dQ a0)] (.int .i64 r) []:=by
 refine bw [0] [.tmp 2] Tryz.func76 c76 (λbq ai bo=>?_);refine ws _ ?_;refine ay ai (λ_ bA bc ae=>?_);obtain⟨R,b4,h⟩:=al h;refine cH (am_ a0.c8 _ b4) _ ?_;refine aE h (λcV h=>?_) (λcV h=>?_)
 .refine ws _ ?_;exact aw (bc _ (.inl (az [.int .i64 1])))
 .refine aL (bA _ (.inl ?_));refine ay ai (λ_ dK eK _=>?_);obtain⟨ae,jl,h⟩:=al h;refine cH (anb a0 _ jl) _ ?_;refine aE h (λfl h=>?_) (λfl h=>?_)
  .refine ws _ ?_;exact aw (eK _ (.inl (az [.int .i64 2])))
  .refine aL (dK _ (.inl ?_));refine ay ai (λ_ hv mA _=>?_);obtain⟨aD,dO,h⟩:=al h;refine cH (anc a0.cz _ dO) _ ?_;refine aE h (λe0 h=>?_) (λe0 h=>?_)
   .refine ws _ ?_;exact aw (mA _ (.inl (az [.int .i64 3])))
   .refine aL (hv _ (.inl ?_));refine ay ai (λ_ kc kP _=>?_);obtain⟨aX,eX,h⟩:=al h;refine cH (Y_ a0.dj _ eX) _ ?_;refine aE h (λfY h=>?_) (λfY h=>?_)
    .refine ws _ ?_;exact aw (kP _ (.inl (az [.int .i64 4])))
    .refine aL (kc _ (.inl ?_));refine ay ai (λ_ ot nR _=>?_);obtain⟨aT,lC,h⟩:=al h;refine cH (Y_ a0.dk _ lC) _ ?_;refine aE h (λou h=>?_) (λou h=>?_)
     .refine ws _ ?_;exact aw (nR _ (.inl (az [.int .i64 5])))
     .refine aL (ot _ (.inl ?_));refine ws _ ?_;exact aw (ai _ (.inl (az [.int .i64 0])))
theorem Za (a0 r) (h:Jp a0=some r):aW ah 48 [.ref (dQ a0)] (.bool r) []:=by
 refine bw [0] [.tmp 2] Tryz.func48 ajK (λbq ai bo=>?_);refine ws _ ?_;obtain⟨R,aU,h⟩:=al h;refine cH (anB a0 _ aU) _ ?_;exact aw (ai _ (.inl (az [.bool (R==0)])))
theorem anC (a0 J r) (h:sH a0 J=some r):aW ah 77 [.slice (a0.map bx),.ref (bB J)] (.bool r) []:=by
 refine bw [0,1] [.tmp 4] Tryz.func77 ajL (λbq ai bo=>?_);refine ws _ ?_;refine ay ai (λ_ bA bc ae=>?_);obtain⟨R,b4,h⟩:=al h;refine cH (py J.cp 0 (i64.wrap ((a0.length:Int)-1)) _ b4) _ ?_;refine aE h (λcV h=>?_) (λcV h=>?_)
 .refine ws _ ?_;exact aw (bc _ (.inl (az [.bool false])))
 .refine aL (bA _ (.inl ?_));obtain⟨ae,fJ,h⟩:=al h;refine cU fJ _ ?_;refine ay ai (λ_ cq bW _=>?_);obtain⟨aD,kn,h⟩:=al h;rcases dH h with⟨e1,h⟩|⟨e1,h⟩
  .refine lA (hj e1) (py J.Part 0 (i64.wrap ((ae.Body.length:Int)-1)) _ kn) _ ?_;refine iT rfl ?_;refine ws _ ?_;exact aw (bW _ (.inl (az [.bool false])))
  .obtain⟨aX,dO,h⟩:=al h;refine lA (U (b_ e1) dO) (py J.Part 0 (i64.wrap ((ae.Body.length:Int)-1)) _ kn) _ ?_;refine aE h (λe0 h=>?_) (λe0 h=>?_)
   .refine ws _ ?_;exact aw (bW _ (.inl (az [.bool false])))
   .refine aL (cq _ (.inl ?_));obtain⟨aT,eu,h⟩:=al h;rcases dH h with⟨fO,h⟩|⟨fO,h⟩
    .obtain⟨bp,gj,h⟩:=al h;refine jz rfl (iU [(4,.bool bp)] (λP bl=>?_) ?_)
     ·(try simp only[c_.down,simprocAttr,fO]);refine h_ (Rh ae J.Part _ eu) rfl rfl (by simp only[c_.down,simprocAttr,fO,YK.down]<;>rfl) rfl (.inr (by rfl)) ?_;simp only[c_.down,simprocAttr,fO];refine lN (Y8 J.bH _ gj) rfl rfl rfl rfl (.inl (by rfl)) ?_;simp only[c_.down,simprocAttr,fO];refine⟨hY (by kernel_rfl),?_⟩;exact bR fO
     exact aw (ai _ (.inl (az [.bool bp])))
    .refine jz rfl (iU [(4,.bool false)] (λP bl=>?_) ?_)
     ·(try simp only[c_.down,simprocAttr,fO]);refine h_ (Rh ae J.Part _ eu) rfl rfl (by simp only[c_.down,simprocAttr,fO,YK.down]<;>rfl) rfl (.inr (by rfl)) ?_;simp only[c_.down,simprocAttr,fO];refine⟨hY (by kernel_rfl),?_⟩;exact bR fO
     exact aw (ai _ (.inl (az [.bool false])))
theorem anD (a0 J r) (h:Jq a0 J=some r):aW ah 49 [.ref (dQ a0),.slice (J.map bB)] (.bool r) []:=by
 refine bw [0,1] [.tmp 4] Tryz.func49 c49 (λbq ai bo=>?_);refine ws _ ?_;refine ay ai (λ_ bA bc ae=>?_);refine ws _ ?_;refine aE h (λbM h=>?_) (λbM h=>?_)
 .refine ws _ ?_;exact aw (bc _ (.inl (az [.bool false])))
 .refine aL (bA _ (.inl ?_));refine ay ai (λ_ cB cW _=>?_);refine ws _ ?_;refine bj cW (λix _ hL b7 _=>?_);show bn ah (.loop ?gJ) _ _;have gK:∀n ca,BF a0 J n ca=some r->cD ah ?gJ ix (aq [(0,.ref (dQ a0)),(1,.slice (J.map bB)),(5,.int .i64 ca)]):=by
   refine cS (λ_ gw ca h=>cR hL (λ_ cq bW dE=>?_));refine ay bW (λ_ bT _ dI=>?_);refine ws _ ?_;refine aE h (λe1 h=>?_) (λe1 h=>?_)
   .refine aL (bT _ (.inl ?_));refine ay bW (λ_ fE fB _=>?_);refine bj fB (λ_ eH ef _ _=>?_);obtain⟨R,ck,h⟩:=al h;obtain⟨ae,dL,h⟩:=al h;refine lA ck (anC a0.c8 R _ dL) _ ?_;refine aE h (λh0 h=>?_) (λh0 h=>?_)
    .refine ws _ ?_;exact aw (ef _ (.inl (az [.bool false])))
    .refine aL (eH _ (fE _ (.inl ?_)));refine wr _ ?_;exact cq _ (.inr ⟨_,aZ rfl,gw (i64.wrap (ca+1)) h⟩)
   .refine cK (dI 0 _ (dE 0 _ (b7 _ (cB _ (.inl ?_)))));refine ws _ ?_;exact aw (ai _ (.inl (az [.bool true])))
  obtain⟨n,h⟩:=cC h;exact cQ (.inr ⟨_,aZ rfl,gK n 0 h⟩)
theorem anE (a0 J r) (h:Jr a0 J=some r):aW ah 22 [.ref (dQ a0),.slice (J.map bB)] (.int .i64 r) []:=by
 refine bw [0,1] [.tmp 4] Tryz.func22 QX (λbq ai bo=>?_);refine ws _ ?_;refine ay ai (λ_ bA bc ae=>?_);obtain⟨R,b4,h⟩:=al h;rcases dH h with⟨cV,h⟩|⟨cV,h⟩
 .refine eO (hj cV) (Za a0 _ b4) _ ?_;refine iT rfl ?_;refine ws _ ?_;exact aw (bc _ (.inl (az [.int .i64 1])))
 .obtain⟨ae,b9,h⟩:=al h;refine dC (b6 [(13,.bool (!ae))] (λP bl=>?_) ?_)
  ·(try simp only[aK.down,simprocAttr,(b_ cV)]);refine dD (Za a0 _ b4) rfl rfl rfl rfl (.inl (by rfl)) ?_;simp only[aK.down,simprocAttr,(b_ cV)];refine iF (anD a0 J _ b9) rfl rfl rfl rfl (.inl (by rfl)) ?_;simp only[aK.down,simprocAttr,(b_ cV)];exact bR (b_ cV)
  refine aE h (λb7 h=>?_) (λb7 h=>?_)
  .refine ws _ ?_;exact aw (bc _ (.inl (az [.int .i64 1])))
  .refine aL (bA _ (.inl ?_));refine ws _ ?_;exact aw (ai _ (.inl (az [.int .i64 0])))
theorem RG (a0 r) (h:BG a0=some r):aW ah 80 [.slice (a0.map a8)] (.ag 1 (r.map a8)) []:=by
 refine bw [0] [.tmp 2] Tryz.func80 c80 (λbq ai bo=>?_);refine ws _ ?_;obtain⟨N6,aU,h⟩:=al h;(try simp only[fN.down,Nat.zero_add,Nat.add_zero,reduceAdd]at aU);refine cU (U (show∀s,dW ah s 54 0 []=some (.ag 1 [],s)from λs=>by kernel_rfl) (U (@kr ah 54 54 2 rfl rfl) (U @ks (U @kt (U @gO (U @all_cons (U @all_nil (U aU (@jO _ a8 1 (λ_=>rfl)))))))))) _ ?_;exact aw (ai _ (.inl (az [.ag 1 (a0.map a8)])))
theorem wb (a0 r) (h:rj a0=some r):aW ah 193 [.bool a0] (.int .i64 r) []:=by
 refine bw [0] [.tmp 2] Tryz.func193 c193 (λbq ai bo=>?_);refine ws _ ?_;refine ay ai (λ_ bA bc _=>?_);refine ws _ ?_;refine aE h (λbM h=>?_) (λbM h=>?_)
 .refine ws _ ?_;exact aw (bc _ (.inl (az [.int .i64 1])))
 .refine aL (bA _ (.inl ?_));refine ws _ ?_;exact aw (ai _ (.inl (az [.int .i64 0])))
theorem anF (a0 J r) (h:Js a0 J=some r):aW ah 194 [.slice (a0.map dR),.int .i64 J] (.int .i64 r) []:=by
 refine bw [0] [.tmp 4] Tryz.func194 c194 (λbq ai bo=>?_);refine ws _ ?_;refine ws _ ?_;refine ay ai (λ_ fg dm _=>?_);refine bj dm (λeC _ bG bM _=>?_);show bn ah (.loop ?eG) _ _;have eT:∀n aR aA,BH a0 n aR aA=some r->cD ah ?eG eC (aq [(0,.slice (a0.map dR)),(1,.int .i64 aR),(5,.int .i64 aA)]):=by
  refine cS (λ_ ev aR aA h=>cR bG (λ_ dw cn aT=>?_));refine ay cn (λ_ cB _ bp=>?_);refine ws _ ?_;refine aE h (λb7 h=>?_) (λb7 h=>?_)
  .refine aL (cB _ (.inl ?_));refine bj cn (λ_ cq _ _ _=>?_);obtain⟨R,kn,h⟩:=al h;obtain⟨ae,dd,h⟩:=al h;refine eO kn (Y6 R _ dd) _ ?_;refine wr _ ?_;exact cq _ (dw _ (.inr ⟨_,aZ rfl,ev (i64.wrap (aR+1)) (i64.wrap (aA+(i64.wrap (ae-1)))) h⟩))
  .refine cK (bp 0 _ (aT 0 _ (bM _ (fg _ (.inl ?_)))));refine ws _ ?_;exact aw (ai _ (.inl (az [.int .i64 aR])))
 obtain⟨n,h⟩:=cC h;exact cQ (.inr ⟨_,aZ rfl,eT n J 1 h⟩)
theorem anG (a0 J a2 r) (h:Jt a0 J a2=some r):aW ah 195 [.int .i64 a0,.int .i64 J,.int .i64 a2] (.int .i64 r) []:=by
 refine bw [0,1,2] [.tmp 6] Tryz.func195 ajM (λbq ai bo=>?_);refine ws _ ?_;refine ay ai (λ_ bA bc ae=>?_);refine ws _ ?_;refine bj bc (λ_ fa bG _ aX=>?_);refine ws _ ?_;refine aE h (λdA h=>?_) (λdA h=>?_)
 .refine cU (@xw .i64 64 (by decide)) _ ?_;exact aw (bG _ (.inl (az [.int .i64 (Int.tmod (i64.wrap (J+a2)) 64)])))
 .refine ws _ ?_;refine aE h (λe7 h=>?_) (λe7 h=>?_)
  .refine cU (@xw .i64 64 (by decide)) _ ?_;exact aw (bG _ (.inl (az [.int .i64 (Int.tmod (i64.wrap ((i64.wrap (J-a2))+64)) 64)])))
  .refine ws _ ?_;refine aE h (λe1 h=>?_) (λe1 h=>?_)
   .refine cU (@xw .i64 64 (by decide)) _ ?_;exact aw (bG _ (.inl (az [.int .i64 (Int.tmod (i64.wrap (J*a2)) 64)])))
   .refine ws _ ?_;refine aE h (λe0 h=>?_) (λe0 h=>?_)
    .obtain⟨R,dL,h⟩:=al h;refine cH (wb (J==a2) _ dL) _ ?_;exact aw (bG _ (.inl (az [.int .i64 R])))
    .refine ws _ ?_;refine aE h (λfO h=>?_) (λfO h=>?_)
     .obtain⟨ae,gW,h⟩:=al h;refine cH (wb (J !=a2) _ gW) _ ?_;exact aw (bG _ (.inl (az [.int .i64 ae])))
     .refine ws _ ?_;refine aE h (λgk h=>?_) (λgk h=>?_)
      .obtain⟨aD,iI,h⟩:=al h;refine cH (wb (decide (J<a2)) _ iI) _ ?_;exact aw (bG _ (.inl (az [.int .i64 aD])))
      .refine ws _ ?_;refine aE h (λov h=>?_) (λov h=>?_)
       .obtain⟨aX,qL,h⟩:=al h;refine cH (wb (decide (J<=a2)) _ qL) _ ?_;exact aw (bG _ (.inl (az [.int .i64 aX])))
       .refine ws _ ?_;refine aE h (λgY h=>?_) (λgY h=>?_)
        .rcases dH h with⟨jt,h⟩|⟨jt,h⟩
         .obtain⟨aT,js,h⟩:=al h;refine eO jt (wb (a2 !=0) _ js) _ ?_;exact aw (bG _ (.inl (az [.int .i64 aT])))
         .obtain⟨bp,zY,h⟩:=al h;refine eO jt (wb false _ zY) _ ?_;exact aw (bG _ (.inl (az [.int .i64 bp])))
        .refine aL (fa _ (bA _ (.inl ?_)));rcases dH h with⟨p4,h⟩|⟨p4,h⟩
         .obtain⟨bs,tc,h⟩:=al h;refine eO p4 (wb true _ tc) _ ?_;exact aw (ai _ (.inl (az [.int .i64 bs])))
         .obtain⟨cv,wc,h⟩:=al h;refine eO p4 (wb (a2 !=0) _ wc) _ ?_;exact aw (ai _ (.inl (az [.int .i64 cv])))
theorem anH (BI:ayu->aye->Int->ayh) (RH:∀a0 J a2 r,BI a0 J a2=some r->aW ah 161 [.slice (a0.map dR),.slice (J.map a8),.int .i64 a2] (.int .i64 r) []) (a0 J a2 r) (h:OW BI a0 J a2=some r):aW ah 161 [.slice (a0.map dR),.slice (J.map a8),.int .i64 a2] (.int .i64 r) []:=by
 refine bw [0,1,2] [.tmp 6] Tryz.func161 ajN (λbq ai bo=>?_);refine ws _ ?_;refine ay ai (λ_ bA bc ae=>?_);obtain⟨R,b4,h⟩:=al h;refine cU b4 _ ?_;refine bj bc (λ_ dw cn _ aT=>?_);refine ws _ ?_;refine aE h (λqj h=>?_) (λqj h=>?_)
 .refine cU b4 _ ?_;exact aw (cn _ (.inl (az [.int .i64 R.Value])))
 .refine ws _ ?_;refine aE h (λfl h=>?_) (λfl h=>?_)
  .obtain⟨ae,dd,h⟩:=al h;refine cU (U b4 dd) _ ?_;exact aw (cn _ (.inl (az [.int .i64 ae])))
  .refine ws _ ?_;refine aE h (λgX h=>?_) (λgX h=>?_)
   .obtain⟨aD,ck,h⟩:=al h;obtain⟨aX,dL,h⟩:=al h;refine dC (b6 [(6,.int .i64 aX)] (λP bl=>?_) ?_)
    ·(try simp only[aK.down,simprocAttr]);refine dD (RH a0 J (i64.wrap (a2+1)) _ ck) rfl rfl rfl rfl (.inl (by rfl)) ?_;simp only[aK.down,simprocAttr];refine dD (wb (aD==0) _ dL) rfl rfl rfl rfl (.inl (by rfl)) ?_;simp only[aK.down,simprocAttr];exact bR trivial
    exact aw (cn _ (.inl (az [.int .i64 aX])))
   .refine aL (dw _ (bA _ (.inl ?_)));obtain⟨aT,eX,h⟩:=al h;refine cH (RH a0 J (i64.wrap (a2+1)) _ eX) _ ?_;obtain⟨bp,gW,h⟩:=al h;obtain⟨bs,e8,h⟩:=al h;refine dC (b6 [(0,.slice (a0.map dR)),(2,.int .i64 a2),(7,.int .i64 aT),(8,.int .i64 bs)] (λP bl=>?_) ?_)
    ·(try simp only[aK.down,simprocAttr]);refine dD (anF a0 (i64.wrap (a2+1)) _ gW) rfl rfl rfl rfl (.inl (by rfl)) ?_;simp only[aK.down,simprocAttr];refine dD (RH a0 J bp _ e8) rfl rfl rfl rfl (.inl (by rfl)) ?_;simp only[aK.down,simprocAttr];exact bR trivial
    obtain⟨cv,lC,h⟩:=al h;refine eO b4 (anG R.Value aT bs _ lC) _ ?_;exact aw (ai _ (.inl (az [.int .i64 cv])))
theorem anI:∀n a0 J a2 r,zd n a0 J a2=some r->aW ah 161 [.slice (a0.map dR),.slice (J.map a8),.int .i64 a2] (.int .i64 r) []:=by
 intro n;induction n with
 |zero=>intro a0 J a2 r h;cases(show none=some r from h)
 |succ n ih=>intro a0 J a2 r h;exact anH (zd n) ih a0 J a2 r h
theorem anJ (a0 J a2 r) (h:OX a0 J a2=some r):aW ah 161 [.slice (a0.map dR),.slice (J.map a8),.int .i64 a2] (.int .i64 r) []:=by
 obtain⟨n,h⟩:=cC h;exact anI n a0 J a2 r h
theorem Zb (a0 J r) (h:ze a0 J=some r):aW ah 118 [.slice (a0.map dR),.slice (J.map a8)] (.int .i64 r) []:=by
 refine bw [0,1] [.tmp 4] Tryz.func118 ajO (λbq ai bo=>?_);refine ws _ ?_;obtain⟨R,aU,h⟩:=al h;refine cH (anJ a0 J 0 _ aU) _ ?_;exact aw (ai _ (.inl (az [.int .i64 R])))
theorem Zc (a0 J r) (h:FG a0 J=some r):aW ah 115 [.slice (a0.map iX),.slice (J.map a8)] (.ag 1 (r.map a8)) []:=by
 refine bw [0,1] [.tmp 4] Tryz.func115 ajP (λbq ai bo=>?_);refine ws _ ?_;refine cU (show∀s,dW ah s 54 0 []=some (.ag 1 [],s)from λs=>by kernel_rfl) _ ?_;refine ay ai (λ_ fg dm _=>?_);refine ws _ ?_;refine bj dm (λqJ _ cn cV _=>?_);show bn ah (.loop ?il) _ _;have iZ:∀n fC jS,BJ a0 J n fC jS=some r->cD ah ?il qJ (aq [(0,.slice (a0.map iX)),(1,.slice (J.map a8)),(5,.ag 1 (fC.map a8)),(6,.int .i64 jS)]):=by
  refine cS (λ_ i1 fC jS h=>cR cn (λ_ cB cW bp=>?_));refine ay cW (λ_ dK _ bs=>?_);refine ws _ ?_;refine aE h (λe7 h=>?_) (λe7 h=>?_)
  .refine aL (dK _ (.inl ?_));refine ay cW (λ_ bT cw _=>?_);refine bj cw (λ_ eE _ _ _=>?_);obtain⟨R,dz,h⟩:=al h;obtain⟨ae,dO,h⟩:=al h;obtain⟨u16,dZ,h⟩:=al h;(try simp only[fN.down,Nat.zero_add,Nat.add_zero,reduceAdd]at dZ);refine zL (U dz (U (show∀s,dW ah s 54 1 [(0,.int .i64 ae)]=some (.ag 1 [.int .i64 ae],s)from λs=>by kernel_rfl) (U (@kr ah 54 54 2 rfl rfl) (U @ks (U @kt (U @gO (U @all_cons (U @all_nil (U dZ (@jO _ a8 1 (λ_=>rfl))))))))))) (Zb R J _ dO) [(0,.slice (a0.map iX)),(1,.slice (J.map a8)),(5,.ag 1 ((fC++[ae]).map a8)),(6,.int .i64 jS)] ?_;refine eE _ (bT _ (.inl ?_));refine wr [(0,.slice (a0.map iX)),(1,.slice (J.map a8)),(5,.ag 1 ((fC++[ae]).map a8)),(6,.int .i64 (i64.wrap (jS+1)))] ?_;exact cB _ (.inr ⟨_,aZ rfl,i1 (fC++[ae]) (i64.wrap (jS+1)) h⟩)
  .refine cK (bs 0 _ (bp 0 _ (cV _ (fg _ (.inl ?_)))));refine ws _ ?_;exact aw (ai _ (.inl (az [.ag 1 (fC.map a8)])))
 obtain⟨n,h⟩:=cC h;exact cQ (.inr ⟨_,aZ rfl,iZ n [] 0 h⟩)
theorem anK (a0 r) (h:FH a0=some r):aW ah 164 [.int .i64 a0] (.str r) []:=by
 refine bw [0] [.tmp 2] Tryz.func164 c164 (λbq ai bo=>?_);refine ws _ ?_;refine ay ai (λ_ bA bc _=>?_);refine ws _ ?_;refine aE h (λbM h=>?_) (λbM h=>?_)
 .refine ws _ ?_;exact aw (bc _ (.inl (az [.str ([48]:ayc)])))
 .refine aL (bA _ (.inl ?_));refine cU (show∀s,dW ah s 134 0 []=some (.ag 1 [],s)from λs=>by kernel_rfl) _ ?_;refine ay ai (λ_ dK eK _=>?_);refine ws _ ?_;refine bj eK (λjX _ bW e7 _=>?_);have k6:∀n gV ht,vF a0 n gV ht=some r->cD ah X4 jX (aq [(0,.int .i64 a0),(3,.ag 1 (gV.map i_)),(4,.int .i64 ht)]):=by
   refine cS (λm16 k7 gV ht h=>cR bW (λ_ bT cw dI=>?_));refine ay cw (λ_ eE _ e6=>?_);refine ws _ ?_;refine aE h (λfh h=>?_) (λfh h=>?_)
   .refine aL (eE _ (.inl ?_));refine ay cw (λ_ eH ef _=>?_);refine bj ef (λHc gi gS _ _=>?_);refine cU (@xw .i64 10 (by decide)) _ ?_;have Zd:∀vE xK uf,Ju (vF a0 m16) a0 vE xK uf=some r->bn ah X3 Hc (aq [(0,.int .i64 a0),(3,.ag 1 (vE.map i_)),(4,.int .i64 xK),(5,.int .i64 uf)]):=by
     intro vE xK uf h;obtain⟨RI,eX,h⟩:=al h;(try simp only[fN.down,Nat.zero_add,Nat.add_zero,reduceAdd]at eX);refine rH (U (@ID ah 2 5 .u8 rfl rfl) (U (show∀s,dW ah s 134 1 [(0,.int .u8 (u8.wrap (i64.wrap (48+uf))))]=some (.ag 1 [.int .u8 (u8.wrap (i64.wrap (48+uf)))],s)from λs=>by kernel_rfl) (U (@kr ah 134 134 5 rfl rfl) (U @ks (U @kt (U @gO (U @all_cons (U @all_nil (U eX @NI))))))))) [(0,.int .i64 a0),(3,.ag 1 ((vE++[(o3 (i64.wrap (48+uf)))]).map i_)),(4,.int .i64 xK)] ?_;refine gi _ (eH _ (.inl ?_));refine rH (@Wk .i64 10 (by decide)) [(0,.int .i64 a0),(3,.ag 1 ((vE++[(o3 (i64.wrap (48+uf)))]).map i_)),(4,.int .i64 (i64.wrap (Int.tdiv xK 10)))] ?_;exact bT _ (.inr ⟨_,aZ rfl,k7 (vE++[(o3 (i64.wrap (48+uf)))]) (i64.wrap (Int.tdiv xK 10)) h⟩)
    refine ay gS (λ_ kc _ _=>?_);refine ws _ ?_;refine aE h (λzO h=>?_) (λzO h=>?_)
    .refine wr _ ?_;exact kc _ (.inr ⟨_,aZ rfl,Zd gV ht (i64.wrap (0-(Int.tmod ht 10))) h⟩)
    .exact aL (kc _ (.inr ⟨_,aZ rfl,Zd gV ht (Int.tmod ht 10) h⟩))
   .refine cK (e6 0 _ (dI 0 _ (e7 _ (dK _ (.inl ?_)))));have Ze:∀oO,xL oO=some r->bn ah X6 bq (aq [(3,.ag 1 (oO.map i_))]):=by
     intro oO h;refine cU (show∀s,dW ah s 134 0 []=some (.ag 1 [],s)from λs=>by kernel_rfl) _ ?_;refine ay ai (λ_ s3 s4 _=>?_);refine ws _ ?_;refine bj s4 (λRj _ GV kd _=>?_);have RJ:∀n ir hZ,OZ oO n ir hZ=some r->cD ah X5 Rj (aq [(3,.ag 1 (oO.map i_)),(6,.ag 1 (ir.map i_)),(7,.int .i64 hZ)]):=by
      refine cS (λ_ RK ir hZ h=>cR GV (λ_ rP s5 G0=>?_));refine ay s5 (λ_ s6 _ Rm=>?_);refine ws _ ?_;refine aE h (λG1 h=>?_) (λG1 h=>?_)
      .refine aL (s6 _ (.inl ?_));refine ay s5 (λ_ Rn G2 _=>?_);refine bj G2 (λ_ zQ _ _ _=>?_);obtain⟨R,pz,h⟩:=al h;obtain⟨anL,s7,h⟩:=al h;(try simp only[fN.down,Nat.zero_add,Nat.add_zero,reduceAdd]at s7);refine rH (U pz (U (b2 pz) (U (show∀s,dW ah s 134 1 [(0,.int .u8 (R.toNat:Int))]=some (.ag 1 [.int .u8 (R.toNat:Int)],s)from λs=>by kernel_rfl) (U (@kr ah 134 134 5 rfl rfl) (U @ks (U @kt (U @gO (U @all_cons (U @all_nil (U s7 @NI)))))))))) [(3,.ag 1 (oO.map i_)),(6,.ag 1 ((ir++[R]).map i_)),(7,.int .i64 hZ)] ?_;refine zQ _ (Rn _ (.inl ?_));refine wr [(3,.ag 1 (oO.map i_)),(6,.ag 1 ((ir++[R]).map i_)),(7,.int .i64 (i64.wrap (hZ-1)))] ?_;exact rP _ (.inr ⟨_,aZ rfl,RK (ir++[R]) (i64.wrap (hZ-1)) h⟩)
      .refine cK (Rm 2 _ (G0 2 _ (kd _ (s3 _ (.inl ?_)))));refine cU (U ((@Wg ah 134 9 5 rfl rfl rfl).2.2) (U @Wj @Wh)) _ ?_;exact aw (ai _ (.inl (az [.str ir])))
     obtain⟨n,h⟩:=cC h;exact cQ (.inr ⟨_,aZ rfl,RJ n [] (i64.wrap ((oO.length:Int)-1)) h⟩)
    refine ay ai (λ_ K1 _ _=>?_);refine ws _ ?_;refine aE h (λs8 h=>?_) (λs8 h=>?_)
    .obtain⟨anM,C_,h⟩:=al h;(try simp only[fN.down,Nat.zero_add,Nat.add_zero,reduceAdd]at C_);refine rH (U (show∀s,dW ah s 134 1 [(0,.int .u8 45)]=some (.ag 1 [.int .u8 45],s)from λs=>by kernel_rfl) (U (@kr ah 134 134 5 rfl rfl) (U @ks (U @kt (U @gO (U @all_cons (U @all_nil (U C_ @NI)))))))) [(3,.ag 1 ((gV++[(45:UInt8)]).map i_))] ?_;exact K1 _ (.inr ⟨_,aZ rfl,Ze (gV++[(45:UInt8)]) h⟩)
    .exact aL (K1 _ (.inr ⟨_,aZ rfl,Ze gV h⟩))
  obtain⟨n,h⟩:=cC h;exact cQ (.inr ⟨_,aZ rfl,k6 n [] a0 h⟩)
theorem anN (a0 r) (h:Jw a0=some r):aW ah 124 [.slice (a0.map a8)] (.str r) []:=by
 refine bw [0] [.tmp 2] Tryz.func124 c124 (λbq ai bo=>?_);refine ws _ ?_;refine ay ai (λ_ bA bc ae=>?_);refine ws _ ?_;refine aE h (λbM h=>?_) (λbM h=>?_)
 .refine ws _ ?_;exact aw (bc _ (.inl (az [.str ([45]:ayc)])))
 .refine aL (bA _ (.inl ?_));refine ws _ ?_;refine ay ai (λ_ dK eK _=>?_);refine ws _ ?_;refine bj eK (λjX _ bW e7 _=>?_);have k6:∀n gV ht,zg a0 n gV ht=some r->cD ah X8 jX (aq [(0,.slice (a0.map a8)),(3,.str gV),(4,.int .i64 ht)]):=by
   refine cS (λm16 k7 gV ht h=>cR bW (λ_ bT cw dI=>?_));refine ay cw (λ_ eE _ e6=>?_);refine ws _ ?_;refine aE h (λfh h=>?_) (λfh h=>?_)
   .refine aL (eE _ (.inl ?_));refine ay cw (λ_ eH ef _=>?_);refine bj ef (λHc gi gS _ _=>?_);have Zf:∀vG vH,Jv (zg a0 m16) a0 vG vH=some r->bn ah X7 Hc (aq [(0,.slice (a0.map a8)),(3,.str vG),(4,.int .i64 vH)]):=by
     intro vG vH h;obtain⟨R,eu,h⟩:=al h;obtain⟨ae,eX,h⟩:=al h;obtain⟨anO,gj,h⟩:=al h;(try simp only[fN.down,Nat.zero_add,Nat.add_zero,reduceAdd]at gj);refine zL (U eu (U gj (U @vr @vt))) (anK R _ eX) [(0,.slice (a0.map a8)),(3,.str (vG++ae)),(4,.int .i64 vH)] ?_;refine gi _ (eH _ (.inl ?_));refine wr [(0,.slice (a0.map a8)),(3,.str (vG++ae)),(4,.int .i64 (i64.wrap (vH+1)))] ?_;exact bT _ (.inr ⟨_,aZ rfl,k7 (vG++ae) (i64.wrap (vH+1)) h⟩)
    refine ay gS (λ_ lB _ _=>?_);refine ws _ ?_;refine aE h (λgk h=>?_) (λgk h=>?_)
    .obtain⟨anP,iI,h⟩:=al h;(try simp only[fN.down,Nat.zero_add,Nat.add_zero,reduceAdd]at iI);refine rH (U iI (U @vr @vt)) [(0,.slice (a0.map a8)),(3,.str (gV++([44]:ayc))),(4,.int .i64 ht)] ?_;exact lB _ (.inr ⟨_,aZ rfl,Zf (gV++([44]:ayc)) ht h⟩)
    .exact aL (lB _ (.inr ⟨_,aZ rfl,Zf gV ht h⟩))
   .refine cK (e6 0 _ (dI 0 _ (e7 _ (dK _ (.inl ?_)))));refine ws _ ?_;exact aw (ai _ (.inl (az [.str gV])))
  obtain⟨n,h⟩:=cC h;exact cQ (.inr ⟨_,aZ rfl,k6 n ([]:ayc) 0 h⟩)
theorem Zg (a0 J r) (h:FI a0 J=some r):aW ah 85 [.str a0,.slice (J.map a8)] (.str r) []:=by
 refine bw [0,1] [.tmp 4] Tryz.func85 c85 (λbq ai bo=>?_);refine ws _ ?_;refine ay ai (λ_ bA bc _=>?_);refine ws _ ?_;refine aE h (λbM h=>?_) (λbM h=>?_)
 .refine ws _ ?_;exact aw (bc _ (.inl (az [.str a0])))
 .refine aL (bA _ (.inl ?_));obtain⟨Da,b9,h⟩:=al h;(try simp only[fN.down,Nat.zero_add,Nat.add_zero,reduceAdd]at b9);obtain⟨R,fJ,h⟩:=al h;obtain⟨Da,jl,h⟩:=al h;(try simp only[fN.down,Nat.zero_add,Nat.add_zero,reduceAdd]at jl);obtain⟨Da,iD,h⟩:=al h;(try simp only[fN.down,Nat.zero_add,Nat.add_zero,reduceAdd]at iD);refine eO (U b9 (U @vr (U @vt (U jl iD)))) (anN J _ fJ) [(4,.str (((a0++([40]:ayc))++R)++([41]:ayc)))] ?_;exact aw (ai _ (.inl (az [.str (((a0++([40]:ayc))++R)++([41]:ayc))])))
theorem Zh (a0 J r) (h:FJ a0 J=some r):aW ah 83 [.slice (a0.map a8),.slice (J.map a8)] (.bool r) []:=by
 refine bw [0,1] [.tmp 4] Tryz.func83 ajQ (λbq ai bo=>?_);refine ws _ ?_;refine ay ai (λ_ bA bc ae=>?_);refine ws _ ?_;refine aE h (λbM h=>?_) (λbM h=>?_)
 .refine ws _ ?_;exact aw (bc _ (.inl (az [.bool false])))
 .refine aL (bA _ (.inl ?_));refine ay ai (λ_ cB cW _=>?_);refine ws _ ?_;refine bj cW (λix _ hL b7 _=>?_);show bn ah (.loop ?gJ) _ _;have gK:∀n ca,BK a0 J n ca=some r->cD ah ?gJ ix (aq [(0,.slice (a0.map a8)),(1,.slice (J.map a8)),(5,.int .i64 ca)]):=by
   refine cS (λ_ gw ca h=>cR hL (λ_ cq bW dE=>?_));refine ay bW (λ_ bT _ dI=>?_);refine ws _ ?_;refine aE h (λe1 h=>?_) (λe1 h=>?_)
   .refine aL (bT _ (.inl ?_));refine ay bW (λ_ fE fB _=>?_);refine bj fB (λ_ eH ef _ _=>?_);obtain⟨R,ck,h⟩:=al h;obtain⟨ae,dL,h⟩:=al h;refine oT (U ck dL) _ ?_;refine aE h (λh0 h=>?_) (λh0 h=>?_)
    .refine ws _ ?_;exact aw (ef _ (.inl (az [.bool false])))
    .refine aL (eH _ (fE _ (.inl ?_)));refine wr _ ?_;exact cq _ (.inr ⟨_,aZ rfl,gw (i64.wrap (ca+1)) h⟩)
   .refine cK (dI 0 _ (dE 0 _ (b7 _ (cB _ (.inl ?_)))));refine ws _ ?_;exact aw (ai _ (.inl (az [.bool true])))
  obtain⟨n,h⟩:=cC h;exact cQ (.inr ⟨_,aZ rfl,gK n 0 h⟩)
theorem Zi (a0 J r) (h:BL a0 J=some r):aW ah 119 [.ref (bB a0),.ref (bB J)] (.bool r) []:=by
 refine bw [0,1] [.tmp 4] Tryz.func119 c119 (λbq ai bo=>?_);refine ws _ ?_;rcases dH h with⟨gd,h⟩|⟨gd,h⟩
 .rcases dH h with⟨bM,h⟩|⟨bM,h⟩
  .obtain⟨R,cM,h⟩:=al h;refine lA (U gd bM) (Zh a0.bH J.bH _ cM) _ ?_;exact aw (ai _ (.inl (az [.bool R])))
  .refine oT (U gd bM) _ ?_;exact aw (ai _ (.inl (az [.bool false])))
 .refine oT gd _ ?_;exact aw (ai _ (.inl (az [.bool false])))
theorem anQ (a0 J r) (h:Jx a0 J=some r):aW ah 116 [.ag 4 (a0.map cZ),cZ J] (.ag 4 (r.map cZ)) [.hole,.hole]:=by
 refine bw [0,1] [.tmp 4] Tryz.func116 c116 (λbq ai bo=>?_);refine ws _ ?_;refine ay ai (λ_ bA bc ae=>?_);refine ws _ ?_;refine bj bc (λeC _ bG bM _=>?_);show bn ah (.loop ?eG) _ _;have eT:∀n aA,BM a0 J n aA=some r->cD ah ?eG eC (aq [(0,.ag 4 (a0.map cZ)),(3,.aS (cZ J)),(5,.int .i64 aA)]):=by
  refine cS (λ_ ev aA h=>cR bG (λ_ dw cn aT=>?_));refine ay cn (λ_ cB _ bp=>?_);refine ws _ ?_;refine aE h (λb7 h=>?_) (λb7 h=>?_)
  .refine aL (cB _ (.inl ?_));refine ay cn (λ_ cq bW _=>?_);refine bj bW (λ_ bT cw _ _=>?_);obtain⟨R,dd,h⟩:=al h;rcases dH h with⟨fh,h⟩|⟨fh,h⟩
   .obtain⟨ae,dO,h⟩:=al h;refine jz rfl (iU [(0,.ag 4 (a0.map cZ)),(3,.aS (cZ J)),(5,.int .i64 aA),(27,.bool ae)] (λP bl=>?_) ?_)
    ·(try simp only[c_.down,simprocAttr,dd,b2 dd,fh]);refine lN (Zi R.Next J.Next _ dO) rfl rfl (by simp only[c_.down,simprocAttr,dd,b2 dd,fh,YL.down]<;>rfl) rfl (.inr (by rfl)) ?_;simp only[c_.down,simprocAttr,dd,b2 dd,fh];refine⟨hY (by kernel_rfl),?_⟩;exact bR (U dd (U (b2 dd) fh))
    refine aE h (λe0 h=>?_) (λe0 h=>?_)
    .refine ws _ ?_;exact aw (cw _ (.inl (hI [.ag 4 (a0.map cZ)] rfl (by cases eZ h;rfl) (by decide) (hP (dn (dn (hQ)))))))
    .refine aL (bT _ (cq _ (.inl ?_)));refine wr _ ?_;exact dw _ (.inr ⟨_,aZ rfl,ev (i64.wrap (aA+1)) h⟩)
   .refine oT (U dd (U (b2 dd) fh)) _ ?_;refine n8 rfl ?_;refine aL (bT _ (cq _ (.inl ?_)));refine wr _ ?_;exact dw _ (.inr ⟨_,aZ rfl,ev (i64.wrap (aA+1)) h⟩)
  .refine cK (bp 0 _ (aT 0 _ (bM _ (bA _ (.inl ?_)))));obtain⟨RI,gj,h⟩:=al h;(try simp only[fN.down,Nat.zero_add,Nat.add_zero,reduceAdd]at gj);refine cU (U (show∀s,dW ah s 95 1 [(0,.agg [.str J.Label,.agg [.int .i64 J.Next.cp,.int .i64 J.Next.Part,.slice (J.Next.bH.map a8)]])]=some (.ag 4 [.agg [.str J.Label,.agg [.int .i64 J.Next.cp,.int .i64 J.Next.Part,.slice (J.Next.bH.map a8)]]],s)from λs=>by kernel_rfl) (U (@kr ah 95 95 100 rfl rfl) (U @ks (U @kt (U @gO (U @all_cons (U @all_nil (U gj (@jO _ cZ 4 (λ_=>rfl)))))))))) [(4,.ag 4 ((a0++[J]).map cZ))] ?_;exact aw (ai _ (.inl (hI [.ag 4 ((a0++[J]).map cZ)] rfl (by cases eZ h;rfl) (by decide) (hP (dn (dn (hQ)))))))
 obtain⟨n,h⟩:=cC h;exact cQ (.inr ⟨_,aZ rfl,eT n 0 h⟩)
theorem anR (ma:ayw->Int->Int->aye->ayB->Option ayB) (K2:∀a0 J a2 a3 a4 r,ma a0 J a2 a3 a4=some r->aW ah 78 [.slice (a0.map bx),.int .i64 J,.int .i64 a2,.slice (a3.map a8),.ag 4 (a4.map cZ)] (.ag 4 (r.map cZ)) [.hole,.hole,.hole,.hole,.hole]) (a0 J a2 a3 a4 r) (h:xM ma a0 J a2 a3 a4=some r):aW ah 78 [.slice (a0.map bx),.int .i64 J,.int .i64 a2,.slice (a3.map a8),.ag 4 (a4.map cZ)] (.ag 4 (r.map cZ)) [.hole,.hole,.hole,.hole,.hole]:=by
 refine bw [0,1,2,3] [.tmp 10] Tryz.func78 ajV (λbq ai bo=>?_);refine ws _ ?_;obtain⟨R,aU,h⟩:=al h;refine cU aU _ ?_;obtain⟨ae,cM,h⟩:=al h;refine cU cM _ ?_;refine ay ai (λ_ cB cW bp=>?_);refine ws _ ?_;refine aE h (λb7 h=>?_) (λb7 h=>?_)
 .refine ws _ ?_;exact aw (cW _ (.inl (hI [.ag 4 (a4.map cZ)] rfl (by cases eZ h;rfl) (by decide) (hP (dn (dn (dn (dn (dn (hQ))))))))))
 .refine aL (cB _ (.inl ?_));have zP:∀BN,zh ma a0 J a2 a3 BN=some r->bn ah Ya bq (aq [(0,.slice (a0.map bx)),(1,.int .i64 J),(2,.int .i64 a2),(3,.slice (a3.map a8)),(4,.ag 4 (BN.map cZ))]):=by
   intro BN h;refine ws _ ?_;exact aw (ai _ (.inl (hI [.ag 4 (BN.map cZ)] rfl (by cases eZ h;rfl) (by decide) (hP (dn (dn (dn (dn (dn (hQ))))))))))
  refine ay ai (λ_ bT cw dI=>?_);refine ws _ ?_;refine bj cw (λRL fE fB _ my=>?_);refine ws _ ?_;refine aE h (λe0 h=>?_) (λe0 h=>?_)
  .obtain⟨aD,dL,h⟩:=al h;refine eO (U (@nr ah 65 [(2,0),(2,1),(54,2)] [(.int .i64 0),(.int .i64 0),.bg] rfl rfl (by kernel_rfl)) (U @l6 (U @l7 (U @cO (U @gO (U @List.nil_append.{0} @List.cons_append.{0})))))) (RG a3 _ dL) _ ?_;have Zj:∀zi zj zk,FK ma a3 a4 ae zi zj zk=some r->bn ah X9 RL (aq [(3,.slice (a3.map a8)),(4,.ag 4 (a4.map cZ)),(12,.aS (ep ae)),(13,.aS (.agg [.int .i64 zi,.int .i64 zj,.ag 1 (zk.map a8)]))]):=by
    intro zi zj zk h;obtain⟨aX,gj,h⟩:=al h;obtain⟨aT,gW,h⟩:=al h;obtain⟨bp,e8,h⟩:=al h;refine jz rfl (iU [(10,.ag 4 (bp.map cZ))] (λP bl=>?_) ?_)
    ·(try simp only[c_.down,simprocAttr,KO.down,eA,dX,I.shares]);refine h_ (Zc ae.cd a3 _ gj) rfl rfl rfl rfl (.inl (by rfl)) ?_;simp only[c_.down,simprocAttr,KO.down,eA,dX,I.shares];refine h_ (Zg ae.Name aX _ gW) rfl rfl (by simp only[c_.down,simprocAttr, @nr ah 100 [(9,0),(65,1)] [(.str []),(.agg [(.int .i64 0),(.int .i64 0),.bg])] rfl rfl (by kernel_rfl),eA,l6,dX,l7,cO,gO,List.nil_append,List.cons_append,oK,oJ,I.shares,cG,oI, @bV _ a8 a8 (λ_=>jV _),gN,gP,gQ,cG, @bV _ a8 a8 (λ_=>jV _)]<;>rfl) rfl (.inr (by rfl)) ?_;simp only[c_.down,simprocAttr,KO.down,eA,dX,I.shares];refine NS [⟨.h 4 [],true,_,.hole⟩,⟨.agg [.str aT,.agg [.int .i64 zi,.int .i64 zj,.slice (zk.map a8)]],false,_,.hole⟩] (anQ a4 (bk.mk aT (bd.mk zi zj zk)) _ e8) rfl rfl rfl (by simp only[c_.down,simprocAttr, @nr ah 100 [(9,0),(65,1)] [(.str []),(.agg [(.int .i64 0),(.int .i64 0),.bg])] rfl rfl (by kernel_rfl),eA,l6,dX,l7,cO,gO,List.nil_append,List.cons_append,oK,oJ,I.shares,cG,oI, @bV _ a8 a8 (λ_=>jV _),mw,kW,ku,gN,gP,gQ,cG,or_true,true_or, @bV _ cZ cZ (λ_=>C4 _)]) rfl rfl (.inl rfl) ?_;simp only[c_.down,simprocAttr, @nr ah 100 [(9,0),(65,1)] [(.str []),(.agg [(.int .i64 0),(.int .i64 0),.bg])] rfl rfl (by kernel_rfl),eA,l6,dX,l7,cO,gO,List.nil_append,List.cons_append,oK,oJ,I.shares,cG,oI, @bV _ a8 a8 (λ_=>jV _),j5];refine⟨hY (by kernel_rfl),?_⟩;exact bR KO.down
    exact aw (fB _ (.inl (hI [.ag 4 (bp.map cZ)] rfl (by cases eZ h;rfl) (by decide) (hP (dn (dn (dn (dn (dn (hQ))))))))))
   refine ay fB (λ_ p5 _ _=>?_);obtain⟨bs,lC,h⟩:=al h;refine cU lC _ ?_;refine aE h (λou h=>?_) (λou h=>?_)
   .obtain⟨cv,rL,h⟩:=al h;refine YI (U lC (U (@nr ah 65 [(2,0),(2,1),(54,2)] [(.int .i64 0),(.int .i64 0),.bg] rfl rfl (by kernel_rfl)) (U @l6 (U @l7 (U @cO (U @gO (U @List.nil_append.{0} @List.cons_append.{0}))))))) (Zc bs.cd a3 _ rL) _ ?_;exact p5 _ (.inr ⟨_,aZ rfl,Zj bs.Number 0 cv h⟩)
   .exact aL (p5 _ (.inr ⟨_,aZ rfl,Zj J (i64.wrap (a2+1)) aD h⟩))
  .refine ws _ ?_;refine aE h (λh1 h=>?_) (λh1 h=>?_)
   .obtain⟨dE,RM,h⟩:=al h;refine dC (b6 [(0,.slice (a0.map bx)),(1,.int .i64 J),(2,.int .i64 a2),(3,.slice (a3.map a8)),(4,.ag 4 (dE.map cZ)),(11,.slice (R.Body.map ep))] (λP bl=>?_) ?_)
    ·(try simp only[aK.down,simprocAttr]);refine kL [⟨.slice (a0.map bx),false,_,.hole⟩,⟨.int .i64 J,false,_,.hole⟩,⟨.int .i64 (i64.wrap (a2+1)),false,_,.hole⟩,⟨.slice (a3.map a8),false,_,.hole⟩,⟨.h 4 [],true,_,.hole⟩] (K2 a0 J (i64.wrap (a2+1)) a3 a4 _ RM) rfl rfl rfl (by simp only[aK.down,simprocAttr,Q7.down]) rfl rfl (.inl rfl) ?_;simp only[aK.down,simprocAttr,j5];exact bR trivial
    obtain⟨dI,oV,h⟩:=al h;obtain⟨e6,js,h⟩:=al h;refine dC (b6 [(10,.ag 4 (e6.map cZ))] (λP bl=>?_) ?_)
    ·(try simp only[aK.down,simprocAttr]);refine dD (Y5 R.Body (i64.wrap (a2+1)) _ oV) rfl rfl rfl rfl (.inl (by rfl)) ?_;simp only[aK.down,simprocAttr];refine kL [⟨.slice (a0.map bx),false,_,.hole⟩,⟨.int .i64 J,false,_,.hole⟩,⟨.int .i64 dI,false,_,.hole⟩,⟨.slice (a3.map a8),false,_,.hole⟩,⟨.h 4 [],true,_,.hole⟩] (K2 a0 J dI a3 dE _ js) rfl rfl rfl (by simp only[aK.down,simprocAttr,Q7.down]) rfl rfl (.inl rfl) ?_;simp only[aK.down,simprocAttr,j5];exact bR trivial
    exact aw (fB _ (.inl (hI [.ag 4 (e6.map cZ)] rfl (by cases eZ h;rfl) (by decide) (hP (dn (dn (dn (dn (dn (hQ))))))))))
   .refine ws _ ?_;refine aE h (λoW h=>?_) (λoW h=>?_)
    .obtain⟨kv,tc,h⟩:=al h;obtain⟨my,wc,h⟩:=al h;refine eO tc (Zb kv a3 _ wc) _ ?_;refine aE h (λHd h=>?_) (λHd h=>?_)
     .obtain⟨iW,K3,h⟩:=al h;refine dC (b6 [(10,.ag 4 (iW.map cZ))] (λP bl=>?_) ?_)
      ·(try simp only[aK.down,simprocAttr]);refine kL [⟨.slice (a0.map bx),false,_,.hole⟩,⟨.int .i64 J,false,_,.hole⟩,⟨.int .i64 (i64.wrap (a2+1)),false,_,.hole⟩,⟨.slice (a3.map a8),false,_,.hole⟩,⟨.h 4 [],true,_,.hole⟩] (K2 a0 J (i64.wrap (a2+1)) a3 a4 _ K3) rfl rfl rfl (by simp only[aK.down,simprocAttr,Q7.down]) rfl rfl (.inl rfl) ?_;simp only[aK.down,simprocAttr,j5];exact bR trivial
      exact aw (fB _ (.inl (hI [.ag 4 (iW.map cZ)] rfl (by cases eZ h;rfl) (by decide) (hP (dn (dn (dn (dn (dn (hQ))))))))))
     .exact aL (fE _ (bT _ (.inr ⟨_,aZ rfl,zP a4 h⟩)))
    .refine ws _ ?_;refine aE h (λvZ h=>?_) (λvZ h=>?_)
     .refine ws _ ?_;refine bj fB (λanS _ v_ x7 _=>?_);have G_:∀n ug kZ,BO ma a0 J a2 a3 ae n ug kZ=some r->cD ah X_ anS (aq [(0,.slice (a0.map bx)),(1,.int .i64 J),(2,.int .i64 a2),(3,.slice (a3.map a8)),(4,.ag 4 (ug.map cZ)),(12,.aS (ep ae)),(14,.int .i64 kZ)]):=by
       refine cS (λ_ Ha ug kZ h=>cR v_ (λ_ p3 rQ anT=>?_));refine ay rQ (λ_ RN _ anU=>?_);refine ws _ ?_;refine aE h (λp6 h=>?_) (λp6 h=>?_)
       .refine aL (RN _ (.inl ?_));refine ay rQ (λ_ RO K4 _=>?_);refine bj K4 (λ_ RP _ _ _=>?_);obtain⟨hk,we,h⟩:=al h;obtain⟨axP,ow,h⟩:=al h;(try simp only[fN.down,Nat.zero_add,Nat.add_zero,reduceAdd]at ow);obtain⟨jd,He,h⟩:=al h;refine h9 (b6 [(0,.slice (a0.map bx)),(1,.int .i64 J),(2,.int .i64 a2),(3,.slice (a3.map a8)),(4,.ag 4 (jd.map cZ)),(12,.aS (ep ae)),(14,.int .i64 kZ)] (λP bl=>?_) ?_)
        ·(try simp only[aK.down,simprocAttr,(show∀s,dW ah s 54 1 [(0,.int .i64 kZ)]=some (.ag 1 [.int .i64 kZ],s)from λs=>by kernel_rfl),C5.down,ow,I.shares]);refine dD (RG a3 _ we) rfl rfl rfl rfl (.inl (by rfl)) ?_;simp only[aK.down,simprocAttr,(show∀s,dW ah s 54 1 [(0,.int .i64 kZ)]=some (.ag 1 [.int .i64 kZ],s)from λs=>by kernel_rfl),C5.down,ow,I.shares];refine kL [⟨.slice (a0.map bx),false,_,.hole⟩,⟨.int .i64 J,false,_,.hole⟩,⟨.int .i64 (i64.wrap (a2+1)),false,_,.hole⟩,⟨.slice ((hk++[kZ]).map a8),false,_,.hole⟩,⟨.h 4 [],true,_,.hole⟩] (K2 a0 J (i64.wrap (a2+1)) (hk++[kZ]) ug _ He) rfl rfl (by simp only[aK.down,simprocAttr,(show∀s,dW ah s 54 1 [(0,.int .i64 kZ)]=some (.ag 1 [.int .i64 kZ],s)from λs=>by kernel_rfl),YM.down,ow,I.shares]) (by simp only[aK.down,simprocAttr,(show∀s,dW ah s 54 1 [(0,.int .i64 kZ)]=some (.ag 1 [.int .i64 kZ],s)from λs=>by kernel_rfl), @kr ah 54 54 2 rfl rfl,ks,kt,gO,all_cons,all_nil,ow, @jO _ a8 1 (λ_=>rfl),oK,oJ,I.shares,cG,oI, @bV _ a8 a8 (λ_=>jV _),mw,kW,ku,gN,gP,gQ,cG,or_true,true_or, @bV _ cZ cZ (λ_=>C4 _)]) rfl rfl (.inl rfl) ?_;simp only[aK.down,simprocAttr,(show∀s,dW ah s 54 1 [(0,.int .i64 kZ)]=some (.ag 1 [.int .i64 kZ],s)from λs=>by kernel_rfl),YN.down,ow,I.shares];exact bR (U (show∀s,dW ah s 54 1 [(0,.int .i64 kZ)]=some (.ag 1 [.int .i64 kZ],s)from λs=>by kernel_rfl) (U C5.down ow))
        refine RP _ (RO _ (.inl ?_));refine wr _ ?_;exact p3 _ (.inr ⟨_,aZ rfl,Ha jd (i64.wrap (kZ+1)) h⟩)
       .exact cK (anU 1 _ (anT 1 _ (x7 _ (fE _ (bT _ (.inr ⟨_,aZ rfl,zP ug h⟩))))))
      obtain⟨n,h⟩:=cC h;exact cQ (.inr ⟨_,aZ rfl,G_ n a4 0 h⟩)
     .exact aL (fE _ (bT _ (.inr ⟨_,aZ rfl,zP a4 h⟩)))
theorem anV:∀n a0 J a2 a3 a4 r,rk n a0 J a2 a3 a4=some r->aW ah 78 [.slice (a0.map bx),.int .i64 J,.int .i64 a2,.slice (a3.map a8),.ag 4 (a4.map cZ)] (.ag 4 (r.map cZ)) [.hole,.hole,.hole,.hole,.hole]:=by
 intro n;induction n with
 |zero=>intro a0 J a2 a3 a4 r h;cases(show none=some r from h)
 |succ n ih=>intro a0 J a2 a3 a4 r h;exact anR (rk n) ih a0 J a2 a3 a4 r h
theorem anW (a0 J a2 a3 a4 r) (h:Jy a0 J a2 a3 a4=some r):aW ah 78 [.slice (a0.map bx),.int .i64 J,.int .i64 a2,.slice (a3.map a8),.ag 4 (a4.map cZ)] (.ag 4 (r.map cZ)) [.hole,.hole,.hole,.hole,.hole]:=by
 obtain⟨n,h⟩:=cC h;exact anV n a0 J a2 a3 a4 r h
theorem Zk (a0 J r) (h:uh a0 J=some r):aW ah 50 [.slice (a0.map bx),.ref (bB J)] (.tuple [.ag 4 (r.1.map cZ),.bool r.2]) []:=by
 refine bw [0,1] [.tmp 4,.tmp 5] Tryz.func50 ajW (λbq ai bo=>?_);refine ws _ ?_;obtain⟨R,aU,h⟩:=al h;refine jz rfl (iU [(6,.ag 4 (R.map cZ))] (λP bl=>?_) ?_)
 ·(try simp only[c_.down,simprocAttr,(show∀s,dW ah s 95 0 []=some (.ag 4 [],s)from λs=>by kernel_rfl)]);refine NS [⟨.slice (a0.map bx),false,_,.hole⟩,⟨.int .i64 J.cp,false,_,.hole⟩,⟨.int .i64 J.Part,false,_,.hole⟩,⟨.slice (J.bH.map a8),false,_,.hole⟩,⟨.h 20 [],true,_,.hole⟩] (anW a0 J.cp J.Part J.bH [] _ aU) rfl rfl rfl (by simp only[c_.down,simprocAttr,(show∀s,dW ah s 95 0 []=some (.ag 4 [],s)from λs=>by kernel_rfl),mw,kW,ku,gN,gP,gQ,cG,or_true,true_or, @bV _ cZ cZ (λ_=>C4 _)]) rfl rfl (.inl rfl) ?_;simp only[c_.down,simprocAttr,(show∀s,dW ah s 95 0 []=some (.ag 4 [],s)from λs=>by kernel_rfl),j5];refine⟨hY (by kernel_rfl),?_⟩;exact bR (show∀s,dW ah s 95 0 []=some (.ag 4 [],s)from λs=>by kernel_rfl)
 refine ws _ ?_;exact aw (ai _ (.inl (az [.ag 4 (R.map cZ),.bool (decide ((R.length:Int)<=200))])))
theorem Zl (a0 r) (h:zl a0=some r):aW ah 79 [.str a0] (.int .i64 r) []:=by
 refine bw [0] [.tmp 2] Tryz.func79 ajX (λbq ai bo=>?_);refine ws _ ?_;refine ay ai (λ_ bA bc _=>?_);refine ws _ ?_;refine bj bc (λeC _ bG bM _=>?_);show bn ah (.loop ?eG) _ _;have eT:∀n iG,xN a0 n iG=some r->cD ah ?eG eC (aq [(0,.str a0),(3,.int .i64 iG)]):=by
  refine cS (λ_ ev iG h=>cR bG (λ_ dw cn aT=>?_));refine ay cn (λ_ cB _ bp=>?_);refine ws _ ?_;refine aE h (λb7 h=>?_) (λb7 h=>?_)
  .refine aL (cB _ (.inl ?_));refine ay cn (λ_ cq bW _=>?_);refine bj bW (λ_ bT cw _ _=>?_);obtain⟨R,dd,h⟩:=al h;refine cU dd _ ?_;refine aE h (λfh h=>?_) (λfh h=>?_)
   .refine ws _ ?_;exact aw (cw _ (.inl (az [.int .i64 iG])))
   .refine aL (bT _ (cq _ (.inl ?_)));refine wr _ ?_;exact dw _ (.inr ⟨_,aZ rfl,ev (i64.wrap (iG+1)) h⟩)
  .refine cK (bp 0 _ (aT 0 _ (bM _ (bA _ (.inl ?_)))));refine ws _ ?_;exact aw (ai _ (.inl (az [.int .i64 (a0.length:Int)])))
 obtain⟨n,h⟩:=cC h;exact cQ (.inr ⟨_,aZ rfl,eT n 0 h⟩)
theorem K5 (a0 r) (h:sI a0=some r):aW ah 52 [.str a0] (.str r) []:=by
 refine bw [0] [.tmp 2] Tryz.func52 ajY (λbq ai bo=>?_);refine ws _ ?_;obtain⟨R,aU,h⟩:=al h;obtain⟨ae,b4,h⟩:=al h;refine eO b4 (Zl a0 _ aU) _ ?_;exact aw (ai _ (.inl (az [.str ae])))
theorem RQ (a0 J r) (h:BQ a0 J=some r):aW ah 51 [.slice (a0.map bm),.str J] (.int .i64 r) []:=by
 refine bw [0,1] [.tmp 4] Tryz.func51 c51 (λbq ai bo=>?_);refine ws _ ?_;refine ay ai (λ_ bA bc _=>?_);refine ws _ ?_;refine bj bc (λeC _ bG bM _=>?_);show bn ah (.loop ?eG) _ _;have eT:∀n aA,BP a0 J n aA=some r->cD ah ?eG eC (aq [(0,.slice (a0.map bm)),(1,.str J),(5,.int .i64 aA)]):=by
  refine cS (λ_ ev aA h=>cR bG (λ_ dw cn aT=>?_));refine ay cn (λ_ cB _ bp=>?_);refine ws _ ?_;refine aE h (λb7 h=>?_) (λb7 h=>?_)
  .refine aL (cB _ (.inl ?_));refine ay cn (λ_ cq bW _=>?_);refine bj bW (λ_ bT cw _ _=>?_);obtain⟨R,dd,h⟩:=al h;refine cU dd _ ?_;refine aE h (λfh h=>?_) (λfh h=>?_)
   .refine ws _ ?_;exact aw (cw _ (.inl (az [.int .i64 aA])))
   .refine aL (bT _ (cq _ (.inl ?_)));refine wr _ ?_;exact dw _ (.inr ⟨_,aZ rfl,ev (i64.wrap (aA+1)) h⟩)
  .refine cK (bp 0 _ (aT 0 _ (bM _ (bA _ (.inl ?_)))));refine ws _ ?_;exact aw (ai _ (.inl (az [.int .i64 (-1)])))
 obtain⟨n,h⟩:=cC h;exact cQ (.inr ⟨_,aZ rfl,eT n 0 h⟩)
theorem Db (a0 r) (h:vI a0=some r):aW ah 53 [.slice (a0.map bB)] (.ag 3 (r.map ea)) []:=by
 refine bw [0] [.tmp 2] Tryz.func53 c53 (λbq ai bo=>?_);refine ws _ ?_;refine cU (show∀s,dW ah s 40 0 []=some (.ag 3 [],s)from λs=>by kernel_rfl) _ ?_;refine ay ai (λ_ fg dm _=>?_);refine ws _ ?_;refine bj dm (λqJ _ cn cV _=>?_);show bn ah (.loop ?il) _ _;have iZ:∀n bY bN,BR a0 n bY bN=some r->cD ah ?il qJ (aq [(0,.slice (a0.map bB)),(3,.ag 3 (bY.map ea)),(4,.int .i64 bN)]):=by
  refine cS (λ_ i1 bY bN h=>cR cn (λ_ cB cW bp=>?_));refine ay cW (λ_ dK _ bs=>?_);refine ws _ ?_;refine aE h (λe7 h=>?_) (λe7 h=>?_)
  .refine aL (dK _ (.inl ?_));refine ay cW (λ_ bT cw _=>?_);refine bj cw (λ_ eE _ _ _=>?_);obtain⟨R,dz,h⟩:=al h;obtain⟨ae,dO,h⟩:=al h;obtain⟨u16,dZ,h⟩:=al h;(try simp only[fN.down,Nat.zero_add,Nat.add_zero,reduceAdd]at dZ);refine NK rfl (iU [(0,.slice (a0.map bB)),(3,.ag 3 ((bY++[(bd.mk R.cp R.Part ae)]).map ea)),(4,.int .i64 bN)] (λP bl=>?_) ?_)
   ·(try simp only[c_.down,simprocAttr,dz,Q8.down,eA,dX,n9,dZ]);refine h_ (RG R.bH _ dO) rfl rfl rfl rfl (.inl (by rfl)) ?_;simp only[c_.down,simprocAttr,dz,Q8.down,eA,dX,n9,dZ];refine⟨hY (by kernel_rfl),?_⟩;(try simp only[j_.down,simprocAttr,dz,Q8.down,eA,dX,n9,dZ]at bl⊢);exact bl
   refine eE _ (bT _ (.inl ?_));refine wr [(0,.slice (a0.map bB)),(3,.ag 3 ((bY++[(bd.mk R.cp R.Part ae)]).map ea)),(4,.int .i64 (i64.wrap (bN+1)))] ?_;exact cB _ (.inr ⟨_,aZ rfl,i1 (bY++[(bd.mk R.cp R.Part ae)]) (i64.wrap (bN+1)) h⟩)
  .refine cK (bs 0 _ (bp 0 _ (cV _ (fg _ (.inl ?_)))));refine ws _ ?_;exact aw (ai _ (.inl (az [.ag 3 (bY.map ea)])))
 obtain⟨n,h⟩:=cC h;exact cQ (.inr ⟨_,aZ rfl,iZ n [] 0 h⟩)
theorem RR (a0 J r) (h:BS a0 J=some r):aW ah 55 [.ref (dQ a0),.str J] (.str r) []:=by
 refine bw [0,1] [.tmp 4] Tryz.func55 QY (λbq ai bo=>?_);refine ws _ ?_;refine ay ai (λ_ bA bc ae=>?_);obtain⟨R,b4,h⟩:=al h;obtain⟨ae,cM,h⟩:=al h;refine jz rfl (iU [(1,.str J),(12,.bool (decide (0<=ae)))] (λP bl=>?_) ?_)
 ·(try simp only[c_.down,simprocAttr]);refine h_ (K5 J _ b4) rfl rfl rfl rfl (.inl (by rfl)) ?_;simp only[c_.down,simprocAttr];refine h_ (RQ a0.dk R _ cM) rfl rfl rfl rfl (.inl (by rfl)) ?_;simp only[c_.down,simprocAttr];refine⟨hY (by kernel_rfl),?_⟩;exact bR trivial
 refine aE h (λdA h=>?_) (λdA h=>?_)
 .refine ws _ ?_;exact aw (bc _ (.inl (az [.str ([116,97,117]:ayc)])))
 .refine aL (bA _ (.inl ?_));refine ws _ ?_;exact aw (ai _ (.inl (az [.str J])))
theorem anX (a0 J r) (h:Jz a0 J=some r):aW ah 81 [.slice (a0.map bB),.slice (J.map bB)] (.bool r) []:=by
 refine bw [0,1] [.tmp 4] Tryz.func81 ajZ (λbq ai bo=>?_);refine ws _ ?_;refine ay ai (λ_ bA bc ae=>?_);refine ws _ ?_;refine aE h (λbM h=>?_) (λbM h=>?_)
 .refine ws _ ?_;exact aw (bc _ (.inl (az [.bool false])))
 .refine aL (bA _ (.inl ?_));refine ay ai (λ_ cB cW _=>?_);refine ws _ ?_;refine bj cW (λix _ hL b7 _=>?_);show bn ah (.loop ?gJ) _ _;have gK:∀n ca,BT a0 J n ca=some r->cD ah ?gJ ix (aq [(0,.slice (a0.map bB)),(1,.slice (J.map bB)),(5,.int .i64 ca)]):=by
   refine cS (λ_ gw ca h=>cR hL (λ_ cq bW dE=>?_));refine ay bW (λ_ bT _ dI=>?_);refine ws _ ?_;refine aE h (λe1 h=>?_) (λe1 h=>?_)
   .refine aL (bT _ (.inl ?_));refine ay bW (λ_ fE fB _=>?_);refine bj fB (λ_ eH ef _ _=>?_);obtain⟨R,ck,h⟩:=al h;obtain⟨ae,dL,h⟩:=al h;obtain⟨aD,eu,h⟩:=al h;refine lA (U ck dL) (Zi R ae _ eu) _ ?_;refine aE h (λfO h=>?_) (λfO h=>?_)
    .refine ws _ ?_;exact aw (ef _ (.inl (az [.bool false])))
    .refine aL (eH _ (fE _ (.inl ?_)));refine wr _ ?_;exact cq _ (.inr ⟨_,aZ rfl,gw (i64.wrap (ca+1)) h⟩)
   .refine cK (dI 0 _ (dE 0 _ (b7 _ (cB _ (.inl ?_)))));refine ws _ ?_;exact aw (ai _ (.inl (az [.bool true])))
  obtain⟨n,h⟩:=cC h;exact cQ (.inr ⟨_,aZ rfl,gK n 0 h⟩)
theorem RS (a0 J r) (h:zm a0 J=some r):aW ah 54 [.ag 4 (a0.map eW),eW J] (.ag 4 (r.map eW)) [.hole,.hole]:=by
 refine bw [0,1] [.tmp 4] Tryz.func54 aj0 (λbq ai bo=>?_);refine ws _ ?_;refine ay ai (λ_ bA bc ae=>?_);refine ws _ ?_;refine bj bc (λeC _ bG bM _=>?_);show bn ah (.loop ?eG) _ _;have eT:∀n aA,BU a0 J n aA=some r->cD ah ?eG eC (aq [(0,.ag 4 (a0.map eW)),(3,.aS (eW J)),(5,.int .i64 aA)]):=by
  refine cS (λ_ ev aA h=>cR bG (λ_ dw cn aT=>?_));refine ay cn (λ_ cB _ bp=>?_);refine ws _ ?_;refine aE h (λb7 h=>?_) (λb7 h=>?_)
  .refine aL (cB _ (.inl ?_));refine ay cn (λ_ cq bW _=>?_);refine bj bW (λ_ bT cw _ _=>?_);obtain⟨R,dd,h⟩:=al h;refine cU (U dd (b2 dd)) _ ?_;rcases dH h with⟨gX,h⟩|⟨gX,h⟩
   .rcases dH h with⟨e0,h⟩|⟨e0,h⟩
    .rcases dH h with⟨nw,h⟩|⟨nw,h⟩
     .obtain⟨ae,dL,h⟩:=al h;refine eO (U gX (U e0 nw)) (anX R.State J.State _ dL) _ ?_;refine aE h (λh0 h=>?_) (λh0 h=>?_)
      .refine ws _ ?_;exact aw (cw _ (.inl (hI [.ag 4 (a0.map eW)] rfl (by cases eZ h;rfl) (by decide) (hP (dn (dn (hQ)))))))
      .refine aL (bT _ (cq _ (.inl ?_)));refine wr _ ?_;exact dw _ (.inr ⟨_,aZ rfl,ev (i64.wrap (aA+1)) h⟩)
     .refine cU (U gX (U e0 nw)) _ ?_;refine n8 rfl ?_;refine aL (bT _ (cq _ (.inl ?_)));refine wr _ ?_;exact dw _ (.inr ⟨_,aZ rfl,ev (i64.wrap (aA+1)) h⟩)
    .refine cU (U gX e0) _ ?_;refine n8 rfl ?_;refine aL (bT _ (cq _ (.inl ?_)));refine wr _ ?_;exact dw _ (.inr ⟨_,aZ rfl,ev (i64.wrap (aA+1)) h⟩)
   .refine cU gX _ ?_;refine n8 rfl ?_;refine aL (bT _ (cq _ (.inl ?_)));refine wr _ ?_;exact dw _ (.inr ⟨_,aZ rfl,ev (i64.wrap (aA+1)) h⟩)
  .refine cK (bp 0 _ (aT 0 _ (bM _ (bA _ (.inl ?_)))));obtain⟨anP,iI,h⟩:=al h;(try simp only[fN.down,Nat.zero_add,Nat.add_zero,reduceAdd]at iI);refine cU (U (show∀s,dW ah s 31 1 [(0,.agg [.str J.Label,.int .i64 J.gH,.int .i64 J.Second,.slice (J.State.map bB)])]=some (.ag 4 [.agg [.str J.Label,.int .i64 J.gH,.int .i64 J.Second,.slice (J.State.map bB)]],s)from λs=>by kernel_rfl) (U (@kr ah 31 31 71 rfl rfl) (U @ks (U @kt (U @gO (U @all_cons (U @all_nil (U iI (@jO _ eW 4 (λ_=>rfl)))))))))) [(4,.ag 4 ((a0++[J]).map eW))] ?_;exact aw (ai _ (.inl (hI [.ag 4 ((a0++[J]).map eW)] rfl (by cases eZ h;rfl) (by decide) (hP (dn (dn (hQ)))))))
 obtain⟨n,h⟩:=cC h;exact cQ (.inr ⟨_,aZ rfl,eT n 0 h⟩)
theorem anY (a0 J r) (h:JB a0 J=some r):aW ah 122 [.str a0,.int .u8 (J.toNat:Int)] (.ag 1 (r.map bm)) []:=by
 refine bw [0,1] [.tmp 4] Tryz.func122 aj1 (λbq ai bo=>?_);refine ws _ ?_;refine cU (show∀s,dW ah s 25 0 []=some (.ag 1 [],s)from λs=>by kernel_rfl) _ ?_;refine ws _ ?_;refine ay ai (λ_ fa bG _=>?_);refine ws _ ?_;refine bj bG (λjY _ cW dA _=>?_);show bn ah (.loop ?zK) _ _;have zZ:∀n j7 lq gh,zn a0 J n j7 lq gh=some r->cD ah ?zK jY (aq [(0,.str a0),(1,.int .u8 (J.toNat:Int)),(5,.ag 1 (j7.map bm)),(6,.int .i64 lq),(7,.int .i64 gh)]):=by
  refine cS (λm10 z1 j7 lq gh h=>cR cW (λanZ dK eK bs=>?_));refine ay eK (λ_ iY _ cv=>?_);refine ws _ ?_;refine aE h (λfl h=>?_) (λfl h=>?_)
  .refine aL (iY _ (.inl ?_));show bn ah (.seq _ ?QW) _ _;have Zm:∀BV BW BX,JA (zn a0 J m10) a0 J BV BW BX=some r->bn ah ?QW anZ (aq [(0,.str a0),(1,.int .u8 (J.toNat:Int)),(5,.ag 1 (BV.map bm)),(6,.int .i64 BW),(7,.int .i64 BX)]):=by
    intro BV BW BX h;refine wr _ ?_;exact dK _ (.inr ⟨_,aZ rfl,z1 BV BW (i64.wrap (BX+1)) h⟩)
   refine ay eK (λ_ eE hM _=>?_);refine bj hM (λ_ fE _ _ _=>?_);obtain⟨R,dZ,h⟩:=al h;refine cU dZ _ ?_;refine aE h (λnw h=>?_) (λnw h=>?_)
   .obtain⟨ae,eu,h⟩:=al h;obtain⟨RI,eX,h⟩:=al h;(try simp only[fN.down,Nat.zero_add,Nat.add_zero,reduceAdd]at eX);refine cU (U eu (U (show∀s,dW ah s 25 1 [(0,.str ae)]=some (.ag 1 [.str ae],s)from λs=>by kernel_rfl) (U (@kr ah 25 25 9 rfl rfl) (U @ks (U @kt (U @gO (U @all_cons (U @all_nil (U eX (@jO _ bm 1 (λ_=>rfl))))))))))) [(0,.str a0),(1,.int .u8 (J.toNat:Int)),(5,.ag 1 ((j7++[ae]).map bm)),(7,.int .i64 gh)] ?_;refine wr [(0,.str a0),(1,.int .u8 (J.toNat:Int)),(5,.ag 1 ((j7++[ae]).map bm)),(6,.int .i64 (i64.wrap (gh+1))),(7,.int .i64 gh)] ?_;exact fE _ (eE _ (.inr ⟨_,aZ rfl,Zm (j7++[ae]) (i64.wrap (gh+1)) gh h⟩))
   .exact aL (fE _ (eE _ (.inr ⟨_,aZ rfl,Zm j7 lq gh h⟩)))
  .refine cK (cv 0 _ (bs 0 _ (dA _ (fa _ (.inl ?_)))));obtain⟨aD,e8,h⟩:=al h;obtain⟨axQ,ie,h⟩:=al h;(try simp only[fN.down,Nat.zero_add,Nat.add_zero,reduceAdd]at ie);refine cU (U e8 (U (show∀s,dW ah s 25 1 [(0,.str aD)]=some (.ag 1 [.str aD],s)from λs=>by kernel_rfl) (U (@kr ah 25 25 9 rfl rfl) (U @ks (U @kt (U @gO (U @all_cons (U @all_nil (U ie (@jO _ bm 1 (λ_=>rfl))))))))))) [(4,.ag 1 ((j7++[aD]).map bm))] ?_;exact aw (ai _ (.inl (az [.ag 1 ((j7++[aD]).map bm)])))
 obtain⟨n,h⟩:=cC h;exact cQ (.inr ⟨_,aZ rfl,zZ n [] 0 0 h⟩)
theorem an0 (a0 r) (h:JC a0=some r):aW ah 123 [.str a0] (.tuple [.int .i64 r.1,.bool r.2]) []:=by
 refine bw [0] [.tmp 2,.tmp 3] Tryz.func123 aj2 (λbq ai bo=>?_);refine ws _ ?_;refine ws _ ?_;show bn ah (.seq _ ?zK) _ _;have RT:∀ib,BZ a0 ib=some r->bn ah ?zK bq (aq [(0,.str a0),(4,.int .i64 ib)]):=by
  intro ib h;refine ay ai (λ_ fa bG aX=>?_);rcases dH h with⟨dA,h⟩|⟨dA,h⟩
  .refine cU dA _ ?_;refine iT rfl ?_;refine ws _ ?_;exact aw (bG _ (.inl (az [.int .i64 0,.bool false])))
  .rcases dH h with⟨b7,h⟩|⟨b7,h⟩
   .refine cU (U dA b7) _ ?_;refine iT rfl ?_;refine ws _ ?_;exact aw (bG _ (.inl (az [.int .i64 0,.bool false])))
   .obtain⟨R,iD,h⟩:=al h;rcases dH h with⟨oq,h⟩|⟨oq,h⟩
    .refine cU (U dA (U b7 (U iD oq))) _ ?_;refine aE h (λe1 h=>?_) (λe1 h=>?_)
     .refine ws _ ?_;exact aw (bG _ (.inl (az [.int .i64 0,.bool false])))
     .refine aL (fa _ (.inl ?_));refine ws _ ?_;refine ay ai (λ_ gi gS _=>?_);refine ws _ ?_;refine bj gS (λRi _ kP kb _=>?_);show bn ah (.loop ?c24) _ _;have RU:∀n nt pq,vJ a0 ib n nt pq=some r->cD ah ?c24 Ri (aq [(0,.str a0),(4,.int .i64 ib),(5,.int .i64 nt),(6,.int .i64 pq)]):=by
       refine cS (λm24 RV nt pq h=>cR kP (λ_ p5 td pU=>?_));refine ay td (λ_ rM _ lr=>?_);refine ws _ ?_;refine aE h (λuV h=>?_) (λuV h=>?_)
       .refine aL (rM _ (.inl ?_));refine ay td (λ_ ot nR _=>?_);refine bj nR (λ_ z6 Hf _ _=>?_);refine ay Hf (λ_ K1 Hg _=>?_);obtain⟨ae,s_,h⟩:=al h;obtain⟨aD,rL,h⟩:=al h;refine eO s_ (Rf ae _ rL) _ ?_;refine aE h (λkd h=>?_) (λkd h=>?_)
        .refine ws _ ?_;exact aw (Hg _ (.inl (az [.int .i64 0,.bool false])))
        .refine aL (K1 _ (.inl ?_));refine rH (U s_ (@ID ah 5 2 .i64 rfl rfl)) _ ?_;refine z6 _ (ot _ (.inl ?_));refine wr _ ?_;exact p5 _ (.inr ⟨_,aZ rfl,RV (i64.wrap ((i64.wrap (10*nt))+(i64.wrap (u8.wrap ((ae.toNat:Int)-48))))) (i64.wrap (pq+1)) h⟩)
       .refine cK (lr 0 _ (pU 0 _ (kb _ (gi _ (.inl ?_)))));show bn ah (.seq _ ?c49) _ _;have Hh:∀sJ,FL sJ=some r->bn ah ?c49 bq (aq [(5,.int .i64 sJ)]):=by
         intro sJ h;refine ws _ ?_;exact aw (ai _ (.inl (az [.int .i64 sJ,.bool true])))
        refine ay ai (λ_ Hi _ _=>?_);refine ws _ ?_;refine aE h (λv7 h=>?_) (λv7 h=>?_)
        .refine wr _ ?_;exact Hi _ (.inr ⟨_,aZ rfl,Hh (i64.wrap (0-nt)) h⟩)
        .exact aL (Hi _ (.inr ⟨_,aZ rfl,Hh nt h⟩))
      obtain⟨n,h⟩:=cC h;exact cQ (.inr ⟨_,aZ rfl,RU n 0 ib h⟩)
    .refine cU (U dA (U b7 (U iD oq))) _ ?_;refine n8 rfl ?_;refine aL (fa _ (.inl ?_));refine ws _ ?_;refine ay ai (λ_ an1 RD _=>?_);refine ws _ ?_;refine bj RD (λan2 _ an3 Hd _=>?_);show bn ah (.loop ?c24) _ _;have RU:∀n nt pq,vJ a0 ib n nt pq=some r->cD ah ?c24 an2 (aq [(0,.str a0),(4,.int .i64 ib),(5,.int .i64 nt),(6,.int .i64 pq)]):=by
      refine cS (λm24 RV nt pq h=>cR an3 (λ_ z7 uU an4=>?_));refine ay uU (λ_ zU _ zV=>?_);refine ws _ ?_;refine aE h (λvZ h=>?_) (λvZ h=>?_)
      .refine aL (zU _ (.inl ?_));refine ay uU (λ_ RW an5 _=>?_);refine bj an5 (λ_ zX v_ _ _=>?_);refine ay v_ (λ_ p3 rQ _=>?_);obtain⟨aX,s9,h⟩:=al h;obtain⟨aT,Hb,h⟩:=al h;refine eO s9 (Rf aX _ Hb) _ ?_;refine aE h (λan6 h=>?_) (λan6 h=>?_)
       .refine ws _ ?_;exact aw (rQ _ (.inl (az [.int .i64 0,.bool false])))
       .refine aL (p3 _ (.inl ?_));refine rH (U s9 (@ID ah 5 2 .i64 rfl rfl)) _ ?_;refine zX _ (RW _ (.inl ?_));refine wr _ ?_;exact z7 _ (.inr ⟨_,aZ rfl,RV (i64.wrap ((i64.wrap (10*nt))+(i64.wrap (u8.wrap ((aX.toNat:Int)-48))))) (i64.wrap (pq+1)) h⟩)
      .refine cK (zV 0 _ (an4 0 _ (Hd _ (an1 _ (.inl ?_)))));show bn ah (.seq _ ?c49) _ _;have Hh:∀sJ,FL sJ=some r->bn ah ?c49 bq (aq [(5,.int .i64 sJ)]):=by
        intro sJ h;refine ws _ ?_;exact aw (ai _ (.inl (az [.int .i64 sJ,.bool true])))
       refine ay ai (λ_ K6 _ _=>?_);refine ws _ ?_;refine aE h (λRs h=>?_) (λRs h=>?_)
       .refine wr _ ?_;exact K6 _ (.inr ⟨_,aZ rfl,Hh (i64.wrap (0-nt)) h⟩)
       .exact aL (K6 _ (.inr ⟨_,aZ rfl,Hh nt h⟩))
     obtain⟨n,h⟩:=cC h;exact cQ (.inr ⟨_,aZ rfl,RU n 0 ib h⟩)
 refine ay ai (λ_ fg _ aD=>?_);rcases dH h with⟨zT,h⟩|⟨zT,h⟩
 .obtain⟨bp,an7,h⟩:=al h;refine cU (U zT an7) _ ?_;refine aE h (λan8 h=>?_) (λan8 h=>?_)
  .refine wr _ ?_;exact fg _ (.inr ⟨_,aZ rfl,RT 1 h⟩)
  .exact aL (fg _ (.inr ⟨_,aZ rfl,RT 0 h⟩))
 .refine cU zT _ ?_;refine n8 rfl ?_;exact aL (fg _ (.inr ⟨_,aZ rfl,RT 0 h⟩))
theorem Zn (a0 r) (h:zp a0=some r):aW ah 82 [.str a0] (.tuple [.ag 1 (r.1.map a8),.bool r.2]) []:=by
 refine bw [0] [.tmp 2,.tmp 3] Tryz.func82 aj3 (λbq ai bo=>?_);refine ws _ ?_;obtain⟨R,aU,h⟩:=al h;refine cH (Zl a0 _ aU) _ ?_;refine ay ai (λ_ fa bG aX=>?_);refine ws _ ?_;refine aE h (λdA h=>?_) (λdA h=>?_)
 .obtain⟨ae,fJ,h⟩:=al h;refine eO (show∀s,dW ah s 54 0 []=some (.ag 1 [],s)from λs=>by kernel_rfl) (C7 a0 _ fJ) _ ?_;exact aw (bG _ (.inl (az [.ag 1 [],.bool ae])))
 .refine aL (fa _ (.inl ?_));refine ay ai (λ_ cq bW dE=>?_);obtain⟨aD,kn,h⟩:=al h;obtain⟨aX,dd,h⟩:=al h;rcases dH h with⟨fh,h⟩|⟨fh,h⟩
  .refine eO (U kn (hj fh)) (rR aD _ dd) _ ?_;refine iT rfl ?_;refine ws _ ?_;exact aw (bW _ (.inr ⟨[(2,.ag 1 []),(3,.bool false)],hW [] rfl (hJ (t:=2) (d:=.bg) rfl rfl (.iq _) (by decide) (cF rfl (hX))),az [.ag 1 [],.bool false]⟩))
  .obtain⟨aT,dZ,h⟩:=al h;refine eO (U kn (U (b_ fh) dZ)) (rR aD _ dd) _ ?_;refine aE h (λnw h=>?_) (λnw h=>?_)
   .refine ws _ ?_;exact aw (bW _ (.inr ⟨[(2,.ag 1 []),(3,.bool false)],hW [] rfl (hJ (t:=2) (d:=.bg) rfl rfl (.iq _) (by decide) (cF rfl (hX))),az [.ag 1 [],.bool false]⟩))
   .refine aL (cq _ (.inl ?_));obtain⟨bp,eX,h⟩:=al h;obtain⟨bs,gj,h⟩:=al h;refine eO eX (anY bp (44:UInt8) _ gj) _ ?_;refine cU (show∀s,dW ah s 54 0 []=some (.ag 1 [],s)from λs=>by kernel_rfl) _ ?_;refine ay ai (λ_ ot nR _=>?_);refine ws _ ?_;refine bj nR (λRX _ Hg ic _=>?_);show bn ah (.loop ?c28) _ _;have an9:∀n pr rl,zo bs n pr rl=some r->cD ah ?c28 RX (aq [(5,.ag 1 (bs.map bm)),(6,.ag 1 (pr.map a8)),(7,.int .i64 rl)]):=by
     refine cS (λ_ an_ pr rl h=>cR Hg (λ_ wg oU vK=>?_));refine ay oU (λ_ s3 _ rm=>?_);refine ws _ ?_;refine aE h (λkd h=>?_) (λkd h=>?_)
     .refine aL (s3 _ (.inl ?_));refine ay oU (λ_ rP s5 _=>?_);refine bj s5 (λ_ s6 G6 _ _=>?_);obtain⟨cv,wa,h⟩:=al h;obtain⟨dE,oV,h⟩:=al h;refine eO (U wa (b2 wa)) (an0 cv _ oV) _ ?_;refine ay G6 (λ_ zQ zR _=>?_);rcases dH h with⟨oW,h⟩|⟨oW,h⟩
      .refine cU (hj oW) _ ?_;refine iT rfl ?_;refine ws _ ?_;exact aw (zR _ (.inr ⟨[(2,.ag 1 []),(3,.bool false)],hW [] rfl (hJ (t:=2) (d:=.bg) rfl rfl (.iq _) (by decide) (cF rfl (hX))),az [.ag 1 [],.bool false]⟩))
      .obtain⟨dI,tc,h⟩:=al h;refine eO (b_ oW) (py dE.1 0 63 _ tc) _ ?_;refine aE h (λz8 h=>?_) (λz8 h=>?_)
       .refine ws _ ?_;exact aw (zR _ (.inr ⟨[(2,.ag 1 []),(3,.bool false)],hW [] rfl (hJ (t:=2) (d:=.bg) rfl rfl (.iq _) (by decide) (cF rfl (hX))),az [.ag 1 [],.bool false]⟩))
       .refine aL (zQ _ (.inl ?_));obtain⟨anM,K3,h⟩:=al h;(try simp only[fN.down,Nat.zero_add,Nat.add_zero,reduceAdd]at K3);refine rH (U (show∀s,dW ah s 54 1 [(0,.int .i64 dE.1)]=some (.ag 1 [.int .i64 dE.1],s)from λs=>by kernel_rfl) (U (@kr ah 54 54 2 rfl rfl) (U @ks (U @kt (U @gO (U @all_cons (U @all_nil (U K3 (@jO _ a8 1 (λ_=>rfl)))))))))) [(5,.ag 1 (bs.map bm)),(6,.ag 1 ((pr++[dE.1]).map a8)),(7,.int .i64 rl)] ?_;refine s6 _ (rP _ (.inl ?_));refine wr [(5,.ag 1 (bs.map bm)),(6,.ag 1 ((pr++[dE.1]).map a8)),(7,.int .i64 (i64.wrap (rl+1)))] ?_;exact wg _ (.inr ⟨_,aZ rfl,an_ (pr++[dE.1]) (i64.wrap (rl+1)) h⟩)
     .refine cK (rm 0 _ (vK 0 _ (ic _ (ot _ (.inl ?_)))));refine ws _ ?_;exact aw (ai _ (.inl (az [.ag 1 (pr.map a8),.bool (decide ((pr.length:Int)<=2))])))
    obtain⟨n,h⟩:=cC h;exact cQ (.inr ⟨_,aZ rfl,an9 n [] 0 h⟩)
theorem aoa (ui:ayy->ayc->ayc->Option ayc) (aob:∀a0 J a2 r,ui a0 J a2=some r->aW ah 84 [.slice (a0.map b3),.str J,.str a2] (.str r) []) (a0 J a2 r) (h:zq ui a0 J a2=some r):aW ah 84 [.slice (a0.map b3),.str J,.str a2] (.str r) []:=by
 refine bw [0,1,2] [.tmp 6] Tryz.func84 aj4 (λbq ai bo=>?_);refine ws _ ?_;refine ay ai (λ_ bA bc ae=>?_);refine ws _ ?_;refine aE h (λbM h=>?_) (λbM h=>?_)
 .obtain⟨R,cl,h⟩:=al h;refine cH (aob a0 a2 J _ cl) _ ?_;exact aw (bc _ (.inl (az [.str R])))
 .refine aL (bA _ (.inl ?_));refine ay ai (λ_ dK eK _=>?_);refine ws _ ?_;refine bj eK (λjX _ bW e7 _=>?_);show bn ah (.loop ?gJ) _ _;have gK:∀n sK,B0 ui a0 J a2 n sK=some r->cD ah ?gJ jX (aq [(0,.slice (a0.map b3)),(1,.str J),(2,.str a2),(7,.int .i64 sK)]):=by
   refine cS (λ_ gw sK h=>cR bW (λ_ bT cw dI=>?_));refine ay cw (λ_ eE _ e6=>?_);refine ws _ ?_;refine aE h (λfh h=>?_) (λfh h=>?_)
   .refine aL (eE _ (.inl ?_));refine ay cw (λ_ eH ef _=>?_);refine bj ef (λ_ gi gS _ _=>?_);obtain⟨ae,dL,h⟩:=al h;refine KN (ae.Left==J) dL [(0,.slice (a0.map b3)),(1,.str J),(2,.str a2),(7,.int .i64 sK),(36,.bool ((ae.Left==J)&&(ae.cx==a2)))] ?_;refine aE h (λh0 h=>?_) (λh0 h=>?_)
    .refine cU dL _ ?_;exact aw (gS _ (.inl (az [.str ae.Result])))
    .refine aL (gi _ (eH _ (.inl ?_)));refine wr _ ?_;exact bT _ (.inr ⟨_,aZ rfl,gw (i64.wrap (sK+1)) h⟩)
   .refine cK (e6 0 _ (dI 0 _ (e7 _ (dK _ (.inl ?_)))));refine ws _ ?_;exact aw (ai _ (.inl (az [.str ([]:ayc)])))
  obtain⟨n,h⟩:=cC h;exact cQ (.inr ⟨_,aZ rfl,gK n 0 h⟩)
theorem aoc:∀n a0 J a2 r,B1 n a0 J a2=some r->aW ah 84 [.slice (a0.map b3),.str J,.str a2] (.str r) []:=by
 intro n;induction n with
 |zero=>intro a0 J a2 r h;cases(show none=some r from h)
 |succ n ih=>intro a0 J a2 r h;exact aoa (B1 n) ih a0 J a2 r h
theorem aod (a0 J a2 r) (h:FM a0 J a2=some r):aW ah 84 [.slice (a0.map b3),.str J,.str a2] (.str r) []:=by
 obtain⟨n,h⟩:=cC h;exact aoc n a0 J a2 r h
theorem aoe (a0 J a2 r) (h:JD a0 J a2=some r):aW ah 56 [.ref (dQ a0),.str J,.str a2] (.str r) []:=by
 refine bw [0,1,2] [.tmp 6] Tryz.func56 QZ (λbq ai bo=>?_);refine ws _ ?_;obtain⟨R,aU,h⟩:=al h;refine cH (Zn J _ aU) _ ?_;obtain⟨ae,cM,h⟩:=al h;refine cH (Zn a2 _ cM) _ ?_;refine ay ai (λ_ cB cW bp=>?_);obtain⟨aD,fJ,h⟩:=al h;refine dC (b6 [(0,.ref (dQ a0)),(1,.str J),(2,.str a2),(7,.ag 1 (R.1.map a8)),(25,.bool (!aD))] (λP bl=>?_) ?_)
 ·(try simp only[aK.down,simprocAttr]);refine dD (Zh R.1 ae.1 _ fJ) rfl rfl (by simp only[aK.down,simprocAttr,YL.down]<;>rfl) rfl (.inr (by rfl)) ?_;simp only[aK.down,simprocAttr];exact bR trivial
 refine aE h (λe7 h=>?_) (λe7 h=>?_)
 .refine ws _ ?_;exact aw (cW _ (.inl (az [.str ([]:ayc)])))
 .refine aL (cB _ (.inl ?_));obtain⟨aX,dd,h⟩:=al h;obtain⟨aT,dz,h⟩:=al h;obtain⟨bp,dO,h⟩:=al h;refine jz rfl (iU [(0,.ref (dQ a0)),(7,.ag 1 (R.1.map a8)),(11,.str bp)] (λP bl=>?_) ?_)
  ·(try simp only[c_.down,simprocAttr]);refine h_ (K5 J _ dd) rfl rfl rfl rfl (.inl (by rfl)) ?_;simp only[c_.down,simprocAttr];refine h_ (K5 a2 _ dz) rfl rfl rfl rfl (.inl (by rfl)) ?_;simp only[c_.down,simprocAttr];refine h_ (aod a0.cz aX aT _ dO) rfl rfl rfl rfl (.inl (by rfl)) ?_;simp only[c_.down,simprocAttr];refine⟨hY (by kernel_rfl),?_⟩;exact bR trivial
  refine ay ai (λ_ gi gS _=>?_);rcases dH h with⟨kb,h⟩|⟨kb,h⟩
  .refine cU kb _ ?_;refine iT rfl ?_;refine ws _ ?_;exact aw (gS _ (.inl (az [.str ([]:ayc)])))
  .obtain⟨bs,eX,h⟩:=al h;refine eO kb (RQ a0.dj bp _ eX) _ ?_;refine aE h (λfY h=>?_) (λfY h=>?_)
   .refine ws _ ?_;exact aw (gS _ (.inl (az [.str ([]:ayc)])))
   .refine aL (gi _ (.inl ?_));obtain⟨cv,ie,h⟩:=al h;refine dC (b6 [(6,.str cv)] (λP bl=>?_) ?_)
    ·(try simp only[aK.down,simprocAttr]);refine dD (Zg bp R.1 _ ie) rfl rfl (by simp only[aK.down,simprocAttr,KP.down]<;>rfl) rfl (.inr (by rfl)) ?_;simp only[aK.down,simprocAttr];exact bR trivial
    exact aw (ai _ (.inl (az [.str cv])))
theorem aof (a0 J r) (h:JI a0 J=some r):aW ah 23 [.ref (dQ a0),.slice (J.map bB)] (.tuple [.ag 4 (r.1.map eW),.bool r.2]) []:=by
 refine bw [0,1] [.tmp 4,.tmp 5] Tryz.func23 aj9 (λbq ai bo=>?_);refine ws _ ?_;refine cU (show∀s,dW ah s 31 0 []=some (.ag 4 [],s)from λs=>by kernel_rfl) _ ?_;refine cU (show∀s,dW ah s 94 0 []=some (.ag 1 [],s)from λs=>by kernel_rfl) _ ?_;refine ay ai (λ_ fa bG aX=>?_);refine ws _ ?_;refine bj bG (λjY _ cW dA bp=>?_);have zZ:∀n gh pV,vO a0 J n gh pV=some r->cD ah Yb jY (aq [(0,.ref (dQ a0)),(1,.slice (J.map bB)),(6,.ag 4 []),(7,.ag 1 (gh.map gv)),(8,.int .i64 pV)]):=by
  refine cS (λ_ z1 gh pV h=>cR cW (λ_ dK eK bs=>?_));refine ay eK (λ_ iY _ cv=>?_);refine ws _ ?_;refine aE h (λfl h=>?_) (λfl h=>?_)
  .refine aL (iY _ (.inl ?_));refine ay eK (λ_ eE hM e6=>?_);refine bj hM (λ_ hv mA _ kv=>?_);obtain⟨R,dO,h⟩:=al h;obtain⟨ae,dZ,h⟩:=al h;refine ahu 10 11 [0,1,2,3,4,5,6,7,8,9,11,10,12] rfl rfl [(0,.ref (dQ a0)),(1,.slice (J.map bB)),(6,.ag 4 []),(7,.ag 1 (gh.map gv)),(8,.int .i64 pV),(9,.ag 4 (ae.1.map cZ)),(10,.bool ae.2)] (λP bl=>?_) (λP bl=>?_) ?_
   ·(try simp only[c_.down,simprocAttr,dO,Bi]);refine h_ (Zk a0.c8 R _ dZ) rfl rfl rfl rfl (.inl (by rfl)) ?_;simp only[c_.down,simprocAttr,dO,Bi];refine⟨hY (by kernel_rfl),?_⟩;exact bR (U dO @Bi)
   .simp only[vx,List.map_cons,List.map_nil,List.getD_cons_zero,List.getD_cons_succ,simprocAttr];(try simp only[c_.down,simprocAttr,dO,Bi]);refine h_ (Zk a0.c8 R _ dZ) rfl rfl rfl rfl (.inl (by rfl)) ?_;simp only[c_.down,simprocAttr,dO,Bi];refine⟨hY (by kernel_rfl),?_⟩;exact bR (U dO @Bi)
   refine ay mA (λ_ lB nQ jd=>?_);refine ws _ ?_;refine aE h (λh0 h=>?_) (λh0 h=>?_)
   .refine ws _ ?_;exact aw (nQ _ (.inr ⟨[(4,.ag 4 []),(5,.bool false)],hW [] rfl (hJ (t:=4) (d:=.bg) rfl rfl (.iq _) (by decide) (cF rfl (hX))),az [.ag 4 [],.bool false]⟩))
   .refine aL (lB _ (.inr ⟨[(0,.ref (dQ a0)),(1,.slice (J.map bB)),(6,.ag 4 []),(7,.ag 1 (gh.map gv)),(8,.int .i64 pV),(9,.slice (ae.1.map cZ)),(41,.bool (!ae.2))],hW [] rfl (cF rfl (cF rfl (cF rfl (cF rfl (cF rfl (hJ (t:=9) (d:=.ag 4 (ae.1.map cZ)) (bJ:=.slice (ae.1.map cZ)) rfl rfl (vv rfl rfl (by simp only[cG,I.share,I.shares, @bV _ cZ cZ (λ_=>C4 _)]<;>rfl)) (by decide) (cF rfl (hX)))))))),?_⟩));obtain⟨aog,gW,h⟩:=al h;(try simp only[fN.down,Nat.zero_add,Nat.add_zero,reduceAdd]at gW);refine rH (U (show∀s,dW ah s 94 1 [(0,.slice (ae.1.map cZ))]=some (.ag 1 [.slice (ae.1.map cZ)],s)from λs=>by kernel_rfl) (U (@kr ah 94 94 95 rfl rfl) (U @ks (U @kt (U @gO (U @all_cons (U @all_nil (U gW (@jO _ gv 1 (λ_=>rfl)))))))))) [(0,.ref (dQ a0)),(1,.slice (J.map bB)),(6,.ag 4 []),(7,.ag 1 ((gh++[ae.1]).map gv)),(8,.int .i64 pV)] ?_;refine hv _ (eE _ (.inl ?_));refine wr [(0,.ref (dQ a0)),(1,.slice (J.map bB)),(6,.ag 4 []),(7,.ag 1 ((gh++[ae.1]).map gv)),(8,.int .i64 (i64.wrap (pV+1)))] ?_;exact dK _ (.inr ⟨_,aZ rfl,z1 (gh++[ae.1]) (i64.wrap (pV+1)) h⟩)
  .refine cK (cv 0 _ (bs 0 _ (dA _ (fa _ (.inl ?_)))));refine ay ai (λ_ z6 Hf lv=>?_);refine ws _ ?_;refine bj Hf (λRw _ oU ou vK=>?_);have aoh:∀n uv uw vN,sO a0 J n uv uw vN=some r->cD ah Ye Rw (aq [(0,.ref (dQ a0)),(1,.slice (J.map bB)),(6,.ag 4 (uv.map eW)),(7,.ag 1 (uw.map gv)),(11,.int .i64 vN)]):=by
    refine cS (λRY aoi uv uw vN h=>cR oU (λ_ s3 s4 rm=>?_));refine ay s4 (λ_ G5 _ uj=>?_);refine ws _ ?_;refine aE h (λh1 h=>?_) (λh1 h=>?_)
    .refine aL (G5 _ (.inl ?_));refine ay s4 (λ_ s6 G6 _=>?_);refine bj G6 (λ_ G7 G8 _ _=>?_);refine ws _ ?_;refine bj G8 (λaoj _ G2 jt _=>?_);have RJ:∀n ir hZ hR lO,xO (sO a0 J RY) a0 J n ir hZ hR lO=some r->cD ah Yd aoj (aq [(0,.ref (dQ a0)),(1,.slice (J.map bB)),(6,.ag 4 (ir.map eW)),(7,.ag 1 (hZ.map gv)),(11,.int .i64 hR),(12,.int .i64 lO)]):=by
      refine cS (λaok RK ir hZ hR lO h=>cR G2 (λaol zQ zR aom=>?_));refine ay zR (λ_ aon _ aoo=>?_);obtain⟨aD,s7,h⟩:=al h;refine cU (U s7 (b2 s7)) _ ?_;refine aE h (λG3 h=>?_) (λG3 h=>?_)
      .refine aL (aon _ (.inl ?_));have RZ:∀B2 B3 B4 B5,FN (sO a0 J RY) (xO (sO a0 J RY) a0 J aok) a0 J B2 B3 B4 B5=some r->bn ah Yc aol (aq [(0,.ref (dQ a0)),(1,.slice (J.map bB)),(6,.ag 4 (B2.map eW)),(7,.ag 1 (B3.map gv)),(11,.int .i64 B4),(12,.int .i64 B5)]):=by
        intro B2 B3 B4 B5 h;refine wr _ ?_;exact zQ _ (.inr ⟨_,aZ rfl,RK B2 B3 B4 (i64.wrap (B5+1)) h⟩)
       refine ay zR (λ_ v8 x4 _=>?_);refine bj x4 (λ_ z7 uU s8 _=>?_);obtain⟨aX,C_,h⟩:=al h;refine cU (U s7 (U (b2 s7) C_)) _ ?_;refine ay uU (λ_ x6 _ Hj=>?_);rcases dH h with⟨x7,h⟩|⟨x7,h⟩
       .obtain⟨aT,z_,h⟩:=al h;obtain⟨bp,R0,h⟩:=al h;refine jz rfl (iU [(0,.ref (dQ a0)),(1,.slice (J.map bB)),(6,.ag 4 (ir.map eW)),(7,.ag 1 (hZ.map gv)),(11,.int .i64 hR),(12,.int .i64 lO),(13,.aS (cZ aX)),(81,.bool (decide (bp<0)))] (λP bl=>?_) ?_)
        ·(try simp only[c_.down,simprocAttr,x7]);refine lN (K5 aX.Label _ z_) rfl rfl rfl rfl (.inl (by rfl)) ?_;simp only[c_.down,simprocAttr,x7];refine lN (RQ a0.dj aT _ R0) rfl rfl rfl rfl (.inl (by rfl)) ?_;simp only[c_.down,simprocAttr,x7];refine⟨hY (by kernel_rfl),?_⟩;exact bR x7
        refine aE h (λRo h=>?_) (λRo h=>?_)
        .exact cK (Hj 5 _ (s8 _ (v8 _ (.inr ⟨_,aZ rfl,RZ ir hZ hR lO h⟩))))
        .refine aL (x6 _ (.inl ?_));obtain⟨bs,wh,h⟩:=al h;refine l9 (b6 (K:=eS _) [(0,.ref (dQ a0)),(1,.slice (J.map bB)),(6,.ag 4 (ir.map eW)),(7,.ag 1 (hZ.map gv)),(11,.int .i64 hR),(12,.int .i64 lO),(13,.aS (cZ aX)),(14,.ag 3 (bs.map ea))] (λP bl=>?_) (II [(0,.ref (dQ a0)),(1,.slice (J.map bB)),(6,.ag 4 (ir.map eW)),(7,.ag 1 (hZ.map gv)),(11,.int .i64 hR),(12,.int .i64 lO),(13,.aS (cZ aX)),(14,.ag 3 (bs.map bB))] (hW [] rfl (cF rfl (cF rfl (cF rfl (cF rfl (cF rfl (cF rfl (cF rfl (hJ (t:=14) (d:=.ag 3 (bs.map ea)) (bJ:=.ag 3 (bs.map bB)) rfl rfl (.ag (IM (λ_=>vv rfl rfl (nO _)) _)) (by decide) (hX)))))))))) ?_))
         ·(try simp only[aK.down,simprocAttr]);refine dD (Db J _ wh) rfl rfl rfl rfl (.inl (by rfl)) ?_;simp only[aK.down,simprocAttr];exact bR trivial
         obtain⟨cv,Dc,h⟩:=al h;refine dC (b6 [(0,.ref (dQ a0)),(1,.slice (J.map bB)),(6,.ag 4 (ir.map eW)),(7,.ag 1 (hZ.map gv)),(11,.int .i64 hR),(12,.int .i64 lO),(13,.aS (cZ aX)),(14,.ag 3 ((List.set bs (Int.toNat hR) aX.Next).map bB))] (λP bl=>?_) ?_)
         .simp only[aK.down,simprocAttr,Dc,b2 Dc,cO,db];exact bR (U Dc (U (b2 Dc) @cO))
         obtain⟨dE,ow,h⟩:=al h;obtain⟨dI,He,h⟩:=al h;obtain⟨e6,wi,h⟩:=al h;refine h9 (b6 [(0,.ref (dQ a0)),(1,.slice (J.map bB)),(6,.ag 4 (e6.map eW)),(7,.ag 1 (hZ.map gv)),(11,.int .i64 hR),(12,.int .i64 lO)] (λP bl=>?_) ?_)
         ·(try simp only[aK.down,simprocAttr,rJ.down,eA,dX,I.shares]);refine dD (RR a0 aX.Label _ ow) rfl rfl rfl rfl (.inl (by rfl)) ?_;simp only[aK.down,simprocAttr,rJ.down,eA,dX,I.shares];refine dD (Db (List.set bs (Int.toNat hR) aX.Next) _ He) rfl rfl (by simp only[aK.down,simprocAttr,Q9.down,eA,dX,I.shares]<;>rfl) rfl (.inr (kq (λ_=>C3 _) _)) ?_;simp only[aK.down,simprocAttr,rJ.down,eA,dX,I.shares];refine kL [⟨.h 6 [],true,_,.hole⟩,⟨.agg [.str dE,.int .i64 hR,.int .i64 (-1),.slice (dI.map bB)],false,_,.hole⟩] (RS ir (a1.mk dE hR (-1) dI) _ wi) rfl rfl rfl (by simp only[aK.down,simprocAttr,Q_.down,eA,dX,I.shares]) rfl rfl (.inl rfl) ?_;simp only[aK.down,simprocAttr,Ra.down,eA,dX,I.shares];exact bR rJ.down
         exact z7 _ (v8 _ (.inr ⟨_,aZ rfl,RZ e6 hZ hR lO h⟩))
       .refine oT x7 _ ?_;refine n8 rfl ?_;refine aL (x6 _ (.inl ?_));obtain⟨kv,rS,h⟩:=al h;refine l9 (b6 (K:=eS _) [(0,.ref (dQ a0)),(1,.slice (J.map bB)),(6,.ag 4 (ir.map eW)),(7,.ag 1 (hZ.map gv)),(11,.int .i64 hR),(12,.int .i64 lO),(13,.aS (cZ aX)),(14,.ag 3 (kv.map ea))] (λP bl=>?_) (II [(0,.ref (dQ a0)),(1,.slice (J.map bB)),(6,.ag 4 (ir.map eW)),(7,.ag 1 (hZ.map gv)),(11,.int .i64 hR),(12,.int .i64 lO),(13,.aS (cZ aX)),(14,.ag 3 (kv.map bB))] (hW [] rfl (cF rfl (cF rfl (cF rfl (cF rfl (cF rfl (cF rfl (cF rfl (hJ (t:=14) (d:=.ag 3 (kv.map ea)) (bJ:=.ag 3 (kv.map bB)) rfl rfl (.ag (IM (λ_=>vv rfl rfl (nO _)) _)) (by decide) (hX)))))))))) ?_))
        ·(try simp only[aK.down,simprocAttr]);refine dD (Db J _ rS) rfl rfl rfl rfl (.inl (by rfl)) ?_;simp only[aK.down,simprocAttr];exact bR trivial
        obtain⟨my,Dd,h⟩:=al h;refine dC (b6 [(0,.ref (dQ a0)),(1,.slice (J.map bB)),(6,.ag 4 (ir.map eW)),(7,.ag 1 (hZ.map gv)),(11,.int .i64 hR),(12,.int .i64 lO),(13,.aS (cZ aX)),(14,.ag 3 ((List.set kv (Int.toNat hR) aX.Next).map bB))] (λP bl=>?_) ?_)
        .simp only[aK.down,simprocAttr,Dd,b2 Dd,cO,db];exact bR (U Dd (U (b2 Dd) @cO))
        obtain⟨iW,Rt,h⟩:=al h;obtain⟨hk,aop,h⟩:=al h;obtain⟨jd,Hk,h⟩:=al h;refine h9 (b6 [(0,.ref (dQ a0)),(1,.slice (J.map bB)),(6,.ag 4 (jd.map eW)),(7,.ag 1 (hZ.map gv)),(11,.int .i64 hR),(12,.int .i64 lO)] (λP bl=>?_) ?_)
        ·(try simp only[aK.down,simprocAttr,rJ.down,eA,dX,I.shares]);refine dD (RR a0 aX.Label _ Rt) rfl rfl rfl rfl (.inl (by rfl)) ?_;simp only[aK.down,simprocAttr,rJ.down,eA,dX,I.shares];refine dD (Db (List.set kv (Int.toNat hR) aX.Next) _ aop) rfl rfl (by simp only[aK.down,simprocAttr,Q9.down,eA,dX,I.shares]<;>rfl) rfl (.inr (kq (λ_=>C3 _) _)) ?_;simp only[aK.down,simprocAttr,rJ.down,eA,dX,I.shares];refine kL [⟨.h 6 [],true,_,.hole⟩,⟨.agg [.str iW,.int .i64 hR,.int .i64 (-1),.slice (hk.map bB)],false,_,.hole⟩] (RS ir (a1.mk iW hR (-1) hk) _ Hk) rfl rfl rfl (by simp only[aK.down,simprocAttr,Q_.down,eA,dX,I.shares]) rfl rfl (.inl rfl) ?_;simp only[aK.down,simprocAttr,Ra.down,eA,dX,I.shares];exact bR rJ.down
        exact z7 _ (v8 _ (.inr ⟨_,aZ rfl,RZ jd hZ hR lO h⟩))
      .refine cK (aoo 4 _ (aom 4 _ (jt _ (G7 _ (s6 _ (.inl ?_))))));refine wr _ ?_;exact s3 _ (.inr ⟨_,aZ rfl,aoi ir hZ (i64.wrap (hR+1)) h⟩)
     obtain⟨n,h⟩:=cC h;exact cQ (.inr ⟨_,aZ rfl,RJ n uv uw vN 0 h⟩)
    .refine cK (uj 2 _ (rm 2 _ (ou _ (z6 _ (.inl ?_)))));refine ay ai (λ_ aoq aor _=>?_);refine ws _ ?_;refine bj aor (λaos _ aot qK _=>?_);have aou:∀n rp xP sN,lP a0 J n rp xP sN=some r->cD ah Yj aos (aq [(0,.ref (dQ a0)),(1,.slice (J.map bB)),(6,.ag 4 (rp.map eW)),(7,.ag 1 (xP.map gv)),(15,.int .i64 sN)]):=by
      refine cS (λpA aov rp xP sN h=>cR aot (λ_ aow Zo aox=>?_));refine ay Zo (λ_ aoy _ aoz=>?_);refine ws _ ?_;refine aE h (λaoA h=>?_) (λaoA h=>?_)
      .refine aL (aoy _ (.inl ?_));refine ay Zo (λ_ R1 R2 _=>?_);refine bj R2 (λ_ aoB aoC _ _=>?_);refine ws _ ?_;refine bj aoC (λaoD _ aoE aoF _=>?_);have Rk:∀n uq ur uu vM,oP (lP a0 J pA) a0 J n uq ur uu vM=some r->cD ah Yi aoD (aq [(0,.ref (dQ a0)),(1,.slice (J.map bB)),(6,.ag 4 (uq.map eW)),(7,.ag 1 (ur.map gv)),(15,.int .i64 uu),(16,.int .i64 vM)]):=by
        refine cS (λAa Rl uq ur uu vM h=>cR aoE (λ_ aoG Zp aoH=>?_));refine ay Zp (λ_ aoI _ aoJ=>?_);refine ws _ ?_;refine aE h (λaoK h=>?_) (λaoK h=>?_)
        .refine aL (aoI _ (.inl ?_));refine ay Zp (λ_ aoL aoM _=>?_);refine bj aoM (λ_ R3 R4 _ _=>?_);refine ws _ ?_;refine bj R4 (λaoN _ aoO R5 _=>?_);have aoP:∀n um sL sM uo vL,rn (lP a0 J pA) (oP (lP a0 J pA) a0 J Aa) a0 J n um sL sM uo vL=some r->cD ah Yh aoN (aq [(0,.ref (dQ a0)),(1,.slice (J.map bB)),(6,.ag 4 (um.map eW)),(7,.ag 1 (sL.map gv)),(15,.int .i64 sM),(16,.int .i64 uo),(17,.int .i64 vL)]):=by
          refine cS (λR6 aoQ um sL sM uo vL h=>cR aoO (λ_ aoR Zq aoS=>?_));refine ay Zq (λ_ R7 _ aoT=>?_);obtain⟨iv,Zr,h⟩:=al h;refine cU (U Zr (b2 Zr)) _ ?_;refine aE h (λaoU h=>?_) (λaoU h=>?_)
          .refine aL (R7 _ (.inl ?_));refine ay Zq (λ_ aoV aoW _=>?_);refine bj aoW (λ_ aoX aoY _ _=>?_);refine ws _ ?_;refine bj aoY (λaoZ _ ao0 ao1 _=>?_);have ao2:∀n nu mQ j8 kO nv mR,uk (lP a0 J pA) (oP (lP a0 J pA) a0 J Aa) (rn (lP a0 J pA) (oP (lP a0 J pA) a0 J Aa) a0 J R6) a0 J n nu mQ j8 kO nv mR=some r->cD ah Yg aoZ (aq [(0,.ref (dQ a0)),(1,.slice (J.map bB)),(6,.ag 4 (nu.map eW)),(7,.ag 1 (mQ.map gv)),(15,.int .i64 j8),(16,.int .i64 kO),(17,.int .i64 nv),(18,.int .i64 mR)]):=by
            refine cS (λao3 ao4 nu mQ j8 kO nv mR h=>cR ao0 (λao5 ao6 Zs ao7=>?_));refine ay Zs (λ_ ao8 _ ao9=>?_);obtain⟨pU,x8,h⟩:=al h;refine KN (decide (mR<(pU.length:Int))) (U x8 (b2 x8)) [(0,.ref (dQ a0)),(1,.slice (J.map bB)),(6,.ag 4 (nu.map eW)),(7,.ag 1 (mQ.map gv)),(15,.int .i64 j8),(16,.int .i64 kO),(17,.int .i64 nv),(18,.int .i64 mR),(133,.bool ((decide (mR<(pU.length:Int)))&&(decide ((nu.length:Int)<=200))))] ?_;refine aE h (λao_ h=>?_) (λao_ h=>?_)
            .refine aL (ao8 _ (.inl ?_));have Zt:∀B6 B7 B8 B9 B_ Ca,JE (lP a0 J pA) (oP (lP a0 J pA) a0 J Aa) (rn (lP a0 J pA) (oP (lP a0 J pA) a0 J Aa) a0 J R6) (uk (lP a0 J pA) (oP (lP a0 J pA) a0 J Aa) (rn (lP a0 J pA) (oP (lP a0 J pA) a0 J Aa) a0 J R6) a0 J ao3) a0 J B6 B7 B8 B9 B_ Ca=some r->bn ah Yf ao5 (aq [(0,.ref (dQ a0)),(1,.slice (J.map bB)),(6,.ag 4 (B6.map eW)),(7,.ag 1 (B7.map gv)),(15,.int .i64 B8),(16,.int .i64 B9),(17,.int .i64 B_),(18,.int .i64 Ca)]):=by
              intro B6 B7 B8 B9 B_ Ca h;refine wr _ ?_;exact ao6 _ (.inr ⟨_,aZ rfl,ao4 B6 B7 B8 B9 B_ (i64.wrap (Ca+1)) h⟩)
             refine ay Zs (λ_ n100 apa _=>?_);refine bj apa (λ_ n102 apb apc _=>?_);obtain⟨lr,De,h⟩:=al h;obtain⟨lu,R8,h⟩:=al h;obtain⟨k1,R9,h⟩:=al h;obtain⟨mS,apd,h⟩:=al h;refine lA (U De (U (b2 De) (U R8 (U x8 (U (b2 x8) R9))))) (aoe a0 lu.Label k1.Label _ apd) _ ?_;refine ay apb (λ_ n108 _ ape=>?_);refine ws _ ?_;refine aE h (λapf h=>?_) (λapf h=>?_)
             .exact cK (ape 13 _ (apc _ (n100 _ (.inr ⟨_,aZ rfl,Zt nu mQ j8 kO nv mR h⟩))))
             .refine aL (n108 _ (.inl ?_));obtain⟨lv,apg,h⟩:=al h;refine l9 (b6 (K:=eS _) [(0,.ref (dQ a0)),(1,.slice (J.map bB)),(6,.ag 4 (nu.map eW)),(7,.ag 1 (mQ.map gv)),(15,.int .i64 j8),(16,.int .i64 kO),(17,.int .i64 nv),(18,.int .i64 mR),(19,.str mS),(20,.ag 3 (lv.map ea))] (λP bl=>?_) (II [(0,.ref (dQ a0)),(1,.slice (J.map bB)),(6,.ag 4 (nu.map eW)),(7,.ag 1 (mQ.map gv)),(15,.int .i64 j8),(16,.int .i64 kO),(17,.int .i64 nv),(18,.int .i64 mR),(19,.str mS),(20,.ag 3 (lv.map bB))] (hW [] rfl (cF rfl (cF rfl (cF rfl (cF rfl (cF rfl (cF rfl (cF rfl (cF rfl (cF rfl (hJ (t:=20) (d:=.ag 3 (lv.map ea)) (bJ:=.ag 3 (lv.map bB)) rfl rfl (.ag (IM (λ_=>vv rfl rfl (nO _)) _)) (by decide) (hX)))))))))))) ?_))
              ·(try simp only[aK.down,simprocAttr]);refine dD (Db J _ apg) rfl rfl rfl rfl (.inl (by rfl)) ?_;simp only[aK.down,simprocAttr];exact bR trivial
              obtain⟨Pe,K7,h⟩:=al h;refine dC (b6 [(0,.ref (dQ a0)),(1,.slice (J.map bB)),(6,.ag 4 (nu.map eW)),(7,.ag 1 (mQ.map gv)),(15,.int .i64 j8),(16,.int .i64 kO),(17,.int .i64 nv),(18,.int .i64 mR),(19,.str mS),(20,.ag 3 ((List.set lv (Int.toNat j8) lu.Next).map bB))] (λP bl=>?_) ?_)
              .simp only[aK.down,simprocAttr,De,b2 De,R8,K7,b2 K7,cO,db];exact bR (U De (U (b2 De) (U R8 (U K7 (U (b2 K7) @cO)))))
              obtain⟨vK,K8,h⟩:=al h;refine dC (b6 [(0,.ref (dQ a0)),(1,.slice (J.map bB)),(6,.ag 4 (nu.map eW)),(7,.ag 1 (mQ.map gv)),(15,.int .i64 j8),(16,.int .i64 kO),(17,.int .i64 nv),(18,.int .i64 mR),(19,.str mS),(20,.ag 3 ((List.set (List.set lv (Int.toNat j8) lu.Next) (Int.toNat kO) k1.Next).map bB))] (λP bl=>?_) ?_)
              .simp only[aK.down,simprocAttr,x8,b2 x8,R9,K8,b2 K8,cO,db];exact bR (U x8 (U (b2 x8) (U R9 (U K8 (U (b2 K8) @cO)))))
              obtain⟨rm,aph,h⟩:=al h;obtain⟨uj,api,h⟩:=al h;obtain⟨JH,apj,h⟩:=al h;refine h9 (b6 [(0,.ref (dQ a0)),(1,.slice (J.map bB)),(6,.ag 4 (JH.map eW)),(7,.ag 1 (mQ.map gv)),(15,.int .i64 j8),(16,.int .i64 kO),(17,.int .i64 nv),(18,.int .i64 mR)] (λP bl=>?_) ?_)
              ·(try simp only[aK.down,simprocAttr,rJ.down,eA,dX,I.shares]);refine dD (RR a0 mS _ aph) rfl rfl rfl rfl (.inl (by rfl)) ?_;simp only[aK.down,simprocAttr,rJ.down,eA,dX,I.shares];refine dD (Db (List.set (List.set lv (Int.toNat j8) lu.Next) (Int.toNat kO) k1.Next) _ api) rfl rfl (by simp only[aK.down,simprocAttr,Q9.down,eA,dX,I.shares]<;>rfl) rfl (.inr (kq (λ_=>C3 _) _)) ?_;simp only[aK.down,simprocAttr,rJ.down,eA,dX,I.shares];refine kL [⟨.h 6 [],true,_,.hole⟩,⟨.agg [.str rm,.int .i64 j8,.int .i64 kO,.slice (uj.map bB)],false,_,.hole⟩] (RS nu (a1.mk rm j8 kO uj) _ apj) rfl rfl rfl (by simp only[aK.down,simprocAttr,Q_.down,eA,dX,I.shares]) rfl rfl (.inl rfl) ?_;simp only[aK.down,simprocAttr,Ra.down,eA,dX,I.shares];exact bR rJ.down
              exact n102 _ (n100 _ (.inr ⟨_,aZ rfl,Zt JH mQ j8 kO nv mR h⟩))
            .refine cK (ao9 12 _ (ao7 12 _ (ao1 _ (aoX _ (aoV _ (.inl ?_))))));refine wr _ ?_;exact aoR _ (.inr ⟨_,aZ rfl,aoQ nu mQ j8 kO (i64.wrap (nv+1)) h⟩)
           obtain⟨n,h⟩:=cC h;exact cQ (.inr ⟨_,aZ rfl,ao2 n um sL sM uo vL 0 h⟩)
          .refine cK (aoT 10 _ (aoS 10 _ (R5 _ (R3 _ (aoL _ (.inl ?_))))));refine wr _ ?_;exact aoG _ (.inr ⟨_,aZ rfl,Rl um sL sM (i64.wrap (uo+1)) h⟩)
         obtain⟨n,h⟩:=cC h;exact cQ (.inr ⟨_,aZ rfl,aoP n uq ur uu vM 0 h⟩)
        .refine cK (aoJ 8 _ (aoH 8 _ (aoF _ (aoB _ (R1 _ (.inl ?_))))));refine wr _ ?_;exact aow _ (.inr ⟨_,aZ rfl,aov uq ur (i64.wrap (uu+1)) h⟩)
       obtain⟨n,h⟩:=cC h;exact cQ (.inr ⟨_,aZ rfl,Rk n rp xP sN (i64.wrap (sN+1)) h⟩)
      .refine cK (aoz 6 _ (aox 6 _ (qK _ (aoq _ (.inl ?_)))));refine ws _ ?_;exact aw (ai _ (.inl (az [.ag 4 (rp.map eW),.bool (decide ((rp.length:Int)<=200))])))
     obtain⟨n,h⟩:=cC h;exact cQ (.inr ⟨_,aZ rfl,aou n uv uw 0 h⟩)
   obtain⟨n,h⟩:=cC h;exact cQ (.inr ⟨_,aZ rfl,aoh n [] gh 0 h⟩)
 obtain⟨n,h⟩:=cC h;exact cQ (.inr ⟨_,aZ rfl,zZ n [] 0 h⟩)
theorem apk (a0 J r) (h:JJ a0 J=some r):aW ah 6 [dQ a0,.ag 3 (J.map ea)] (.tuple [.ag 4 (r.1.map eW),.int .i64 r.2]) [.hole,.hole]:=by
 refine bw [0,1] [.tmp 4,.tmp 5] Tryz.func6 aj_ (λbq ai bo=>?_);refine ws _ ?_;obtain⟨R,aU,h⟩:=al h;refine dC (b6 [(1,.ag 3 (J.map ea)),(2,.aS (dQ a0)),(6,.int .i64 R)] (λP bl=>?_) ?_)
 ·(try simp only[aK.down,simprocAttr]);refine dD (anE a0 J _ aU) rfl rfl (by simp only[aK.down,simprocAttr,gN,gP,gQ,cG, @bV _ bx bx (λ_=>uR _), @bV _ eV eV (λ_=>C2 _), @bV _ b3 b3 (λ_=>qH _), @bV _ bm bm (λ_=>k5 _), @bV _ bm bm (λ_=>k5 _), @bV _ ea bB (λ_=>nO _)]<;>rfl) rfl (.inr (by rfl)) ?_;simp only[aK.down,simprocAttr];exact bR trivial
 refine ay ai (λ_ fa bG _=>?_);refine ws _ ?_;refine aE h (λdA h=>?_) (λdA h=>?_)
 .refine ws _ ?_;exact aw (bG _ (.inr ⟨[(4,.ag 4 []),(5,.int .i64 R)],hW [] rfl (hJ (t:=4) (d:=.bg) rfl rfl (.iq _) (by decide) (cF rfl (hX))),hI [.ag 4 [],.int .i64 R] rfl (by cases eZ h;rfl) (by decide) (hP (dn (dn (hQ))))⟩))
 .refine aL (fa _ (.inr ⟨[(1,.slice (J.map bB)),(2,.ref (dQ a0)),(6,.int .i64 R),(12,.bool (R !=0))],hW [] rfl (hJ (t:=1) (d:=.ag 3 (J.map ea)) (bJ:=.slice (J.map bB)) rfl rfl (vv rfl rfl (by simp only[cG,I.share,I.shares, @bV _ ea bB (λ_=>nO _)]<;>rfl)) (by decide) (hJ (t:=2) (d:=.aS (dQ a0)) (bJ:=.ref (dQ a0)) rfl rfl (vv rfl rfl (by simp only[cG,I.share,I.shares,ai7]<;>rfl)) (by decide) (cF rfl (cF rfl (hX))))),?_⟩));obtain⟨ae,jl,h⟩:=al h;refine cH (aof a0 J _ jl) _ ?_;refine ay ai (λ_ bT cw _=>?_);refine ws _ ?_;refine aE h (λe1 h=>?_) (λe1 h=>?_)
  .refine ws _ ?_;exact aw (cw _ (.inr ⟨[(4,.ag 4 []),(5,.int .i64 5)],hW [] rfl (hJ (t:=4) (d:=.bg) rfl rfl (.iq _) (by decide) (cF rfl (hX))),hI [.ag 4 [],.int .i64 5] rfl (by cases eZ h;rfl) (by decide) (hP (dn (dn (hQ))))⟩))
  .refine aL (bT _ (.inl ?_));refine ws _ ?_;exact aw (ai _ (.inl (hI [.ag 4 (ae.1.map eW),.int .i64 0] rfl (by cases eZ h;rfl) (by decide) (hP (dn (dn (hQ)))))))
theorem mb (a0 J a2 r) (h:k2 a0 J a2=some r):aW ah 127 [.int .i64 a0,.int .i64 J,.int .i64 a2] (.bool r) []:=by
 refine bw [0,1,2] [.tmp 6] Tryz.func127 c127 (λbq ai bo=>?_);refine ws _ ?_;refine nP (decide (J<=a0)) [(6,.bool ((decide (J<=a0))&&(decide (a0<=a2))))] ?_;exact aw (ai _ (.inl (az [.bool ((decide (J<=a0))&&(decide (a0<=a2)))])))
theorem apl (a0 r) (h:Pk a0=some r):aW ah 198 [bx a0] (.bool r) []:=by
 refine bw [0] [.tmp 2] Tryz.func198 c198 (λbq ai bo=>?_);refine ws _ ?_;obtain⟨R,aU,h⟩:=al h;refine cH (mb a0.dP 0 3 _ aU) _ ?_;exact aw (ai _ (.inl (az [.bool (!R)])))
theorem apm (a0 r) (h:Pm a0=some r):aW ah 200 [.slice (a0.map bx),.fn 198 []] (.int .i64 r) []:=by
 refine bw [0,1] [.tmp 4] Tryz.func200 aka (λbq ai bo=>?_);refine ws _ ?_;refine ay ai (λ_ bA bc ae=>?_);refine ws _ ?_;refine bj bc (λeC _ bG bM _=>?_);show bn ah (.loop ?eG) _ _;have eT:∀n cA,FP a0 n cA=some r->cD ah ?eG eC (aq [(0,.slice (a0.map bx)),(1,.fn 198 []),(7,.int .i64 (a0.length:Int)),(8,.int .i64 cA)]):=by
  refine cS (λ_ ev cA h=>cR bG (λ_ dw cn aT=>?_));refine ws _ ?_;refine ay cn (λ_ dK _ bs=>?_);refine aE h (λb7 h=>?_) (λb7 h=>?_)
  .refine aL (dK _ (.inl ?_));refine ay cn (λ_ cq bW _=>?_);refine bj bW (λ_ bT cw _ _=>?_);refine ws _ ?_;obtain⟨R,dz,h⟩:=al h;obtain⟨ae,dO,h⟩:=al h;refine eO dz (apl R _ dO) _ ?_;refine aE h (λe0 h=>?_) (λe0 h=>?_)
   .refine ws _ ?_;exact aw (cw _ (.inl (az [.int .i64 cA])))
   .refine aL (bT _ (cq _ (.inl ?_)));refine wr _ ?_;exact dw _ (.inr ⟨_,aZ rfl,ev (i64.wrap (cA+1)) h⟩)
  .refine cK (bs 0 _ (aT 0 _ (bM _ (bA _ (.inl ?_)))));refine ws _ ?_;exact aw (ai _ (.inl (az [.int .i64 (-1)])))
 obtain⟨n,h⟩:=cC h;exact cQ (.inr ⟨_,aZ rfl,eT n 0 h⟩)
theorem apn (a0 r) (h:Pn a0=some r):aW ah 197 [.slice (a0.map bx),.fn 198 []] (.bool r) []:=by
 refine bw [0,1] [.tmp 4] Tryz.func197 akb (λbq ai bo=>?_);refine ws _ ?_;obtain⟨R,aU,h⟩:=al h;refine cH (apm a0 _ aU) _ ?_;exact aw (ai _ (.inl (az [.bool (decide (0<=R))])))
theorem apo (a0 r) (h:JK a0=some r):aW ah 166 [.slice (a0.map bx)] (.bool r) []:=by
 refine bw [0] [.tmp 2] Tryz.func166 akc (λbq ai bo=>?_);refine ws _ ?_;obtain⟨R,aU,h⟩:=al h;refine cH (apn a0 _ aU) _ ?_;exact aw (ai _ (.inl (az [.bool (!R)])))
theorem apq (a0 r) (h:Po a0=some r):aW ah 199 [.int .u8 (a0.toNat:Int)] (.bool r) []:=by
 refine bw [0] [.tmp 2] Tryz.func199 akd (λbq ai bo=>?_);refine ws _ ?_;refine nP (decide (48<=(a0.toNat:Int))) [(2,.bool ((decide (48<=(a0.toNat:Int)))&&(decide ((a0.toNat:Int)<=57))))] ?_;exact aw (ai _ (.inl (az [.bool ((decide (48<=(a0.toNat:Int)))&&(decide ((a0.toNat:Int)<=57)))])))
theorem K9 (a0 r) (h:FQ a0=some r):aW ah 167 [.str a0] (.bool r) []:=by
 refine bw [0] [.tmp 2] Tryz.func167 c167 (λbq ai bo=>?_);refine ws _ ?_;refine ay ai (λ_ bA bc ae=>?_);refine ws _ ?_;refine bj bc (λeC _ bG bM _=>?_);show bn ah (.loop ?eG) _ _;have eT:∀n fR,xQ a0 n fR=some r->cD ah ?eG eC (aq [(0,.str a0),(6,.int .i64 (a0.length:Int)),(7,.int .i64 fR)]):=by
  refine cS (λ_ ev fR h=>cR bG (λ_ dw cn aT=>?_));refine ws _ ?_;refine ay cn (λ_ dK _ bs=>?_);refine aE h (λb7 h=>?_) (λb7 h=>?_)
  .refine aL (dK _ (.inl ?_));refine ay cn (λ_ cq bW _=>?_);refine bj bW (λ_ bT cw _ _=>?_);refine ws _ ?_;obtain⟨R,dz,h⟩:=al h;refine KN (decide (97<=(R.toNat:Int))) dz [(0,.str a0),(3,.int .i64 fR),(4,.bool ((decide (97<=(R.toNat:Int)))&&(decide ((R.toNat:Int)<=122)))),(6,.int .i64 (a0.length:Int)),(7,.int .i64 fR)] ?_;rcases dH h with⟨e0,h⟩|⟨e0,h⟩
   .rcases dH h with⟨nw,h⟩|⟨nw,h⟩
    .refine cU (U e0 nw) _ ?_;refine iT rfl ?_;refine ws _ ?_;exact aw (cw _ (.inl (az [.bool false])))
    .obtain⟨ae,eu,h⟩:=al h;refine eO (U e0 (U nw dz)) (apq R _ eu) _ ?_;refine aE h (λfO h=>?_) (λfO h=>?_)
     .refine ws _ ?_;exact aw (cw _ (.inl (az [.bool false])))
     .refine aL (bT _ (cq _ (.inl ?_)));refine wr _ ?_;exact dw _ (.inr ⟨_,aZ rfl,ev (i64.wrap (fR+1)) h⟩)
   .refine cU e0 _ ?_;refine n8 rfl ?_;refine aL (bT _ (cq _ (.inl ?_)));refine wr _ ?_;exact dw _ (.inr ⟨_,aZ rfl,ev (i64.wrap (fR+1)) h⟩)
  .refine cK (bs 0 _ (aT 0 _ (bM _ (bA _ (.inl ?_)))));refine nP (decide (1<=(a0.length:Int))) [(2,.bool ((decide (1<=(a0.length:Int)))&&(decide ((a0.length:Int)<=10))))] ?_;exact aw (ai _ (.inl (az [.bool ((decide (1<=(a0.length:Int)))&&(decide ((a0.length:Int)<=10)))])))
 obtain⟨n,h⟩:=cC h;exact cQ (.inr ⟨_,aZ rfl,eT n 0 h⟩)
theorem apr (a0 J r) (h:Pp a0 J=some r):aW ah 201 [bx a0,.ref (.str J)] (.bool r) []:=by
 refine bw [0,1] [.tmp 3] Tryz.func201 c201 (λbq ai bo=>?_);refine ws _ ?_;refine ws _ ?_;exact aw (ai _ (.inl (az [.bool (a0.Name==J)])))
theorem aps (a0 J r) (h:Pr a0 J=some r):aW ah 200 [.slice (a0.map bx),.fn 201 [.ref (.str J)]] (.int .i64 r) []:=by
 refine bw [0,1] [.tmp 4] Tryz.func200 ake (λbq ai bo=>?_);refine ws _ ?_;refine ay ai (λ_ bA bc ae=>?_);refine ws _ ?_;refine bj bc (λeC _ bG bM _=>?_);show bn ah (.loop ?eG) _ _;have eT:∀n cA,FR a0 J n cA=some r->cD ah ?eG eC (aq [(0,.slice (a0.map bx)),(1,.fn 201 [.ref (.str J)]),(7,.int .i64 (a0.length:Int)),(8,.int .i64 cA)]):=by
  refine cS (λ_ ev cA h=>cR bG (λ_ dw cn aT=>?_));refine ws _ ?_;refine ay cn (λ_ dK _ bs=>?_);refine aE h (λb7 h=>?_) (λb7 h=>?_)
  .refine aL (dK _ (.inl ?_));refine ay cn (λ_ cq bW _=>?_);refine bj bW (λ_ bT cw _ _=>?_);refine ws _ ?_;obtain⟨R,dz,h⟩:=al h;obtain⟨ae,dO,h⟩:=al h;refine eO dz (apr R J _ dO) _ ?_;refine aE h (λe0 h=>?_) (λe0 h=>?_)
   .refine ws _ ?_;exact aw (cw _ (.inl (az [.int .i64 cA])))
   .refine aL (bT _ (cq _ (.inl ?_)));refine wr _ ?_;exact dw _ (.inr ⟨_,aZ rfl,ev (i64.wrap (cA+1)) h⟩)
  .refine cK (bs 0 _ (aT 0 _ (bM _ (bA _ (.inl ?_)))));refine ws _ ?_;exact aw (ai _ (.inl (az [.int .i64 (-1)])))
 obtain⟨n,h⟩:=cC h;exact cQ (.inr ⟨_,aZ rfl,eT n 0 h⟩)
theorem apt (a0 J r) (h:JM a0 J=some r):aW ah 168 [.slice (a0.map bx),.str J] (.int .i64 r) []:=by
 refine bw [0,1] [.tmp 4] Tryz.func168 c168 (λbq ai bo=>?_);refine ws _ ?_;obtain⟨R,aU,h⟩:=al h;refine dC (b6 [(4,.int .i64 R)] (λP bl=>?_) ?_)
 ·(try simp only[aK.down,simprocAttr]);refine dD (aps a0 J _ aU) rfl rfl (by simp only[aK.down,simprocAttr,x0.down]<;>rfl) rfl (.inr (by rfl)) ?_;simp only[aK.down,simprocAttr];exact bR trivial
 exact aw (ai _ (.inl (az [.int .i64 R])))
theorem Zu (a0 r) (h:FU a0=some r):aW ah 134 [ep a0] (.int .i64 r) []:=by
 refine bw [0] [.tmp 2] Tryz.func134 akf (λbq ai bo=>?_);refine ws _ ?_;refine ay ai (λ_ bA bc _=>?_);refine ws _ ?_;refine bj bc (λeC fa bG _ _=>?_);show bn ah (.seq _ ?kz) _ _;have zN:∀ej,FT a0 ej=some r->bn ah ?kz eC (aq [(4,.int .i64 a0.Kind),(5,.bool ej)]):=by
  intro ej h;refine aE h (λdA h=>?_) (λdA h=>?_)
  .refine ws _ ?_;exact aw (bG _ (.inl (az [.int .i64 1])))
  .refine ws _ ?_;refine aE h (λe7 h=>?_) (λe7 h=>?_)
   .refine ws _ ?_;exact aw (bG _ (.inl (az [.int .i64 2])))
   .refine aL (fa _ (bA _ (.inl ?_)));refine ws _ ?_;exact aw (ai _ (.inl (az [.int .i64 0])))
 refine ay bG (λ_ dw _ _=>?_);refine ws _ ?_;refine aE h (λfh h=>?_) (λfh h=>?_)
 .simp only[fh,GU.down];exact aL (dw _ (.inr ⟨_,aZ rfl,zN true h⟩))
 .refine ws _ ?_;refine aE h (λe0 h=>?_) (λe0 h=>?_)
  .simp only[e0,GU.down];exact aL (dw _ (.inr ⟨_,aZ rfl,zN true h⟩))
  .refine wr _ ?_;exact dw _ (.inr ⟨_,aZ rfl,zN (a0.Kind==4) h⟩)
theorem Zv (a0 J r) (h:FV a0 J=some r):aW ah 141 [bx a0,.int .i64 J] (.int .i64 r) []:=by
 refine bw [0] [.tmp 4] Tryz.func141 c141 (λbq ai bo=>?_);refine ws _ ?_;refine ay ai (λ_ bA bc ae=>?_);refine ws _ ?_;refine bj bc (λeC _ bG bM _=>?_);show bn ah (.loop ?eG) _ _;have eT:∀n aR aA,Cb a0 n aR aA=some r->cD ah ?eG eC (aq [(1,.int .i64 aR),(2,.aS (bx a0)),(5,.int .i64 aA)]):=by
  refine cS (λ_ ev aR aA h=>cR bG (λ_ dw cn aT=>?_));refine ay cn (λ_ cB _ bp=>?_);refine ws _ ?_;refine aE h (λb7 h=>?_) (λb7 h=>?_)
  .refine aL (cB _ (.inl ?_));refine ay cn (λ_ cq bW _=>?_);refine bj bW (λ_ bT cw _ _=>?_);refine ay cw (λ_ eE hM _=>?_);refine ws _ ?_;refine aE h (λfh h=>?_) (λfh h=>?_)
   .refine ws _ ?_;exact aw (hM _ (.inl (az [.int .i64 (-1)])))
   .refine aL (eE _ (.inl ?_));obtain⟨R,ck,h⟩:=al h;obtain⟨ae,dL,h⟩:=al h;refine zL ck (Zu R _ dL) _ ?_;refine bT _ (cq _ (.inl ?_));refine wr _ ?_;exact dw _ (.inr ⟨_,aZ rfl,ev (i64.wrap (aR+1)) (i64.wrap (aA+(i64.wrap (ae-1)))) h⟩)
  .refine cK (bp 0 _ (aT 0 _ (bM _ (bA _ (.inl ?_)))));refine ws _ ?_;exact aw (ai _ (.inl (az [.int .i64 aR])))
 obtain⟨n,h⟩:=cC h;exact cQ (.inr ⟨_,aZ rfl,eT n J 1 h⟩)
theorem apu (pW:Int->dM->ayC->bb->Option (Int×ayC)) (apv:∀a0 J a2 a3 r,pW a0 J a2 a3=some r->pn ah 133 2 4 [.int .i64 a0,fv J,.aS (.ag 2 (a2.map fv)),.ref (bx a3),.ref (.hole)] (.int .i64 r.1) [.hole,.hole,.aS (.ag 2 (r.2.map fv)),.hole,.hole]) (a0 J a2 a3 r) (h:Pu pW a0 J a2 a3=some r):pn ah 133 2 4 [.int .i64 a0,fv J,.aS (.ag 2 (a2.map fv)),.ref (bx a3),.ref (.hole)] (.int .i64 r.1) [.hole,.hole,.aS (.ag 2 (r.2.map fv)),.hole,.hole]:=by
 refine pn.Of (fx:=[0,1,2,3,4]) Oj [.tmp 7] [(0,.int .i64 a0),(1,fv J),(2,.aS (.ag 2 (a2.map fv))),(3,.ref (bx a3)),(4,.ref (.hole))] Tryz.func133 rfl rfl akt (le_of_ble_eq_true rfl) aks rfl rfl (λbq ai bo=>?_);refine ws _ ?_;obtain⟨R,aU,h⟩:=al h;refine dC (b6 [(0,.int .i64 a0),(2,.aS (.ag 2 ((List.set a2 (Int.toNat a0) J).map fv))),(3,.ref (bx a3)),(4,.ref (.hole)),(6,.aS (fv J))] (λP bl=>?_) ?_)
 .simp only[aK.down,simprocAttr,aU,b2 aU,cO,db];exact bR (U aU (U (b2 aU) @cO))
 obtain⟨ae,cM,h⟩:=al h;refine cU cM [(0,.int .i64 a0),(2,.aS (.ag 2 ((List.set a2 (Int.toNat a0) J).map fv))),(3,.ref (bx a3)),(4,.ref (.hole)),(6,.aS (fv J)),(8,.aS (ep ae))] ?_;refine cU (show∀s,gz ah s 152 [(0,.int .i64 J.scope),(1,.bool (ae.Kind==1))]=some (.agg [.int .i64 J.scope,.bool (ae.Kind==1)],s)from λs=>by kernel_rfl) [(0,.int .i64 a0),(2,.aS (.ag 2 ((List.set a2 (Int.toNat a0) J).map fv))),(3,.ref (bx a3)),(4,.ref (.hole)),(8,.aS (ep ae)),(9,.aS (.agg [.int .i64 J.scope,.bool (ae.Kind==1)]))] ?_;have Zw:∀oc,JN pW a0 J a2 a3 ae oc=some r->bn ah Yl bq (aq [(0,.int .i64 a0),(2,.aS (.ag 2 ((List.set a2 (Int.toNat a0) J).map fv))),(3,.ref (bx a3)),(4,.ref (.hole)),(8,.aS (ep ae)),(9,.aS (.agg [.int .i64 oc,.bool (ae.Kind==1)]))]):=by
  intro oc h;refine ws [(2,.aS (.ag 2 ((List.set a2 (Int.toNat a0) J).map fv))),(3,.ref (bx a3)),(4,.ref (.hole)),(8,.aS (ep ae)),(9,.aS (.agg [.int .i64 oc,.bool (ae.Kind==1)])),(10,.int .i64 (i64.wrap (a0+1)))] ?_;refine ay ai (λ_ cq bW _=>?_);obtain⟨aD,kn,h⟩:=al h;refine cH (Zu ae _ kn) [(2,.aS (.ag 2 ((List.set a2 (Int.toNat a0) J).map fv))),(3,.ref (bx a3)),(4,.ref (.hole)),(9,.aS (.agg [.int .i64 oc,.bool (ae.Kind==1)])),(10,.int .i64 (i64.wrap (a0+1))),(36,.int .i64 aD),(37,.int .i64 0)] ?_;refine bj bW (λGY _ mA e1 _=>?_);have apw:∀n vP sP ux,zr pW a3 oc ae aD n vP sP ux=some r->cD ah Yk GY (aq [(2,.aS (.ag 2 (vP.map fv))),(3,.ref (bx a3)),(4,.ref (.hole)),(9,.aS (.agg [.int .i64 oc,.bool (ae.Kind==1)])),(10,.int .i64 sP),(36,.int .i64 aD),(37,.int .i64 ux)]):=by
   refine cS (λ_ apx vP sP ux h=>cR mA (λ_ fE fB my=>?_));refine ws _ ?_;refine ay fB (λ_ gi _ hk=>?_);refine aE h (λnw h=>?_) (λnw h=>?_)
   .refine aL (gi _ (.inl ?_));refine ay fB (λ_ kc kP _=>?_);refine bj kP (λ_ p5 _ _ _=>?_);obtain⟨aX,gj,h⟩:=al h;refine agC [(2,.aS (.ag 2 (aX.2.map fv))),(3,.ref (bx a3)),(4,.ref (.hole)),(9,.aS (.agg [.int .i64 oc,.bool (ae.Kind==1)])),(10,.int .i64 aX.1),(36,.int .i64 aD),(37,.int .i64 ux)] (λP bl=>?_) ?_
    ·(try simp only[aK.down,simprocAttr,sD]);refine W2 [⟨.int .i64 sP,false,_,.hole⟩,⟨.agg [.int .i64 oc,.bool (ae.Kind==1)],false,_,.hole⟩,⟨.h 2 [],true,_,_⟩,⟨.ref (bx a3),false,_,.hole⟩,⟨.ref (.hole),false,_,.hole⟩] (apv sP (dM.mk oc (ae.Kind==1)) vP a3 _ gj) rfl (by simp only[aK.down,simprocAttr,sD,mw,kW,ku,gN,gP,gQ,cG,or_true,true_or, @bV _ fv fv (λ_=>XN _)]) rfl rfl (.inl rfl) ?_;simp only[aK.down,simprocAttr,sD,j5];(try simp only[j_.down,simprocAttr,sD]at bl⊢);exact bl
    refine p5 _ (kc _ (.inl ?_));refine wr _ ?_;exact fE _ (.inr ⟨_,aZ rfl,apx aX.2 aX.1 (i64.wrap (ux+1)) h⟩)
   .refine cK (hk 0 _ (my 0 _ (e1 _ (cq _ (.inl ?_)))));refine ws _ ?_;exact aw (ai _ (.inl (hI [.int .i64 sP] rfl (by cases eZ h;rfl) (by decide) (hP (dn (dn (kM (by cases eZ h;rfl) rfl rfl rfl (dn (dn (hQ))))))))))
  obtain⟨n,h⟩:=cC h;exact cQ (.inr ⟨_,aZ rfl,apw n (List.set a2 (Int.toNat a0) J) (i64.wrap (a0+1)) 0 h⟩)
 refine ay ai (λ_ dK _ _=>?_);refine ws [(0,.int .i64 a0),(2,.aS (.ag 2 ((List.set a2 (Int.toNat a0) J).map fv))),(3,.ref (bx a3)),(4,.ref (.hole)),(8,.aS (ep ae)),(9,.aS (.agg [.int .i64 J.scope,.bool (ae.Kind==1)])),(28,.bool (ae.Kind==4))] ?_;refine aE h (λic h=>?_) (λic h=>?_)
 .refine wr [(0,.int .i64 a0),(2,.aS (.ag 2 ((List.set a2 (Int.toNat a0) J).map fv))),(3,.ref (bx a3)),(4,.ref (.hole)),(8,.aS (ep ae)),(9,.aS (.agg [.int .i64 (i64.wrap (J.scope+1)),.bool (ae.Kind==1)]))] ?_;exact dK _ (.inr ⟨_,aZ rfl,Zw (i64.wrap (J.scope+1)) h⟩)
 .exact aL (dK _ (.inr ⟨_,aZ rfl,Zw J.scope h⟩))
theorem apy:∀n a0 J a2 a3 r,zs n a0 J a2 a3=some r->pn ah 133 2 4 [.int .i64 a0,fv J,.aS (.ag 2 (a2.map fv)),.ref (bx a3),.ref (.hole)] (.int .i64 r.1) [.hole,.hole,.aS (.ag 2 (r.2.map fv)),.hole,.hole]:=by
 intro n;induction n with
 |zero=>intro a0 J a2 a3 r h;cases(show none=some r from h)
 |succ n ih=>intro a0 J a2 a3 r h;exact apu (zs n) ih a0 J a2 a3 r h
theorem apz (a0 J a2 a3 r) (h:JO a0 J a2 a3=some r):pn ah 133 2 4 [.int .i64 a0,fv J,.aS (.ag 2 (a2.map fv)),.ref (bx a3),.ref (.hole)] (.int .i64 r.1) [.hole,.hole,.aS (.ag 2 (r.2.map fv)),.hole,.hole]:=by
 obtain⟨n,h⟩:=cC h;exact apy n a0 J a2 a3 r h
theorem R_ (a0 r) (h:Cc a0=some r):aW ah 90 [bx a0] (.ag 2 (r.map fv)) []:=by
 refine aW.ahm (fx:=[0]) Oj [.tmp 2] [(0,bx a0)] Tryz.func90 rfl rfl aky (le_of_ble_eq_true rfl) akx rfl rfl (λbq ai bo=>?_);refine ws _ ?_;obtain⟨K_,aU,h⟩:=al h;refine rI (U (qT aU) @List.map_replicate.{0,0}) [(1,.aS (bx a0)),(3,.aS (.ag 2 ((List.replicate (Int.toNat (a0.Body.length:Int)) (dM.mk 0 false)).map fv)))] ?_;obtain⟨R,cM,h⟩:=al h;refine ahh [(3,.aS (.ag 2 (R.2.map fv)))] (λP bl=>?_) ?_
 ·(try simp only[aK.down,simprocAttr,(show∀s,gz ah s 152 [(0,.int .i64 a0.dP)]=some (.agg [.int .i64 a0.dP,.bool false],s)from λs=>by kernel_rfl),sD]);refine W2 [⟨.int .i64 0,false,_,.hole⟩,⟨.agg [.int .i64 a0.dP,.bool false],false,_,.hole⟩,⟨.h 3 [],true,_,_⟩,⟨.h 1 [],false,_,.hole⟩,⟨.ref (.hole),false,_,.hole⟩] (apz 0 (dM.mk a0.dP false) (List.replicate (Int.toNat (a0.Body.length:Int)) (dM.mk 0 false)) a0 _ cM) rfl (by simp only[aK.down,simprocAttr,(show∀s,gz ah s 152 [(0,.int .i64 a0.dP)]=some (.agg [.int .i64 a0.dP,.bool false],s)from λs=>by kernel_rfl),sD,mw,kW,ku,gN,gP,gQ,cG,or_true,true_or, @bV _ fv fv (λ_=>XN _), @bV _ ep ep (λ_=>KC _)]) rfl rfl ((.inr (by simp only[tT,I.cX,I.hd,Bool.and_self, @kq _ fv (λ_=>ai_ _)]))) ?_;simp only[aK.down,simprocAttr,(show∀s,gz ah s 152 [(0,.int .i64 a0.dP)]=some (.agg [.int .i64 a0.dP,.bool false],s)from λs=>by kernel_rfl),sD,j5];(try simp only[j_.down,simprocAttr,(show∀s,gz ah s 152 [(0,.int .i64 a0.dP)]=some (.agg [.int .i64 a0.dP,.bool false],s)from λs=>by kernel_rfl),sD]at bl⊢);exact bl
 refine ws _ ?_;exact aw (ai _ (.inl (az [.ag 2 (R.2.map fv)])))
theorem apA (a0 r) (h:Pv a0=some r):aW ah 229 [ep a0] (.bool r) []:=by
 refine bw [0] [.tmp 2] Tryz.func229 c229 (λbq ai bo=>?_);refine ws _ ?_;refine nP (a0.Kind==4) [(1,.aS (ep a0)),(3,.bool ((a0.Kind==4)||(a0.Kind==5)))] ?_;refine dC (b6 [(1,.aS (ep a0)),(3,.bool ((a0.Kind==4)||(a0.Kind==5))),(4,.bool (((a0.Kind==1)||(a0.Kind==3))||(a0.Kind==5)))] (λP bl=>?_) ?_)
 ·(rcases Bool.eq_false_or_eq_true (a0.Kind==1)with mN|mN)<;>(rcases Bool.eq_false_or_eq_true (a0.Kind==3)with Sa|Sa)<;>
   (simp only[aK.down,simprocAttr,mN,Sa]
    exact bR (U mN Sa))
 obtain⟨R,b9,h⟩:=al h;refine dC (b6 [(2,.bool (((R&&(((a0.Kind==4)||(a0.Kind==5))||(a0.Number==0)))&&((a0.Kind==1)||(a0.Name==([]:ayc))))&&((((a0.Kind==1)||(a0.Kind==3))||(a0.Kind==5))||((a0.cd.length:Int)==0))))] (λP bl=>?_) ?_)
 ·(rcases Bool.eq_false_or_eq_true (R)with x1|x1)<;>(rcases Bool.eq_false_or_eq_true (a0.Kind==4)with rO|rO)<;>(rcases Bool.eq_false_or_eq_true (a0.Kind==5)with x9|x9)<;>(rcases Bool.eq_false_or_eq_true (a0.Number==0)with La|La)<;>(rcases Bool.eq_false_or_eq_true (a0.Kind==1)with Lb|Lb)<;>(rcases Bool.eq_false_or_eq_true (a0.Name==([]:ayc))with Lc|Lc)<;>(rcases Bool.eq_false_or_eq_true (a0.Kind==3)with Ld|Ld)<;>
   ((try simp only[aK.down,simprocAttr,x1,rO,x9,La,Lb,Lc,Ld])
    refine dD (mb a0.Kind 0 5 _ b9) rfl rfl rfl rfl (.inl (by rfl)) ?_;simp only[aK.down,simprocAttr,x1,rO,x9,La,Lb,Lc,Ld];exact bR (U x1 (U rO (U x9 (U La (U Lb (U Lc Ld)))))))
 exact aw (ai _ (.inl (az [.bool (((R&&(((a0.Kind==4)||(a0.Kind==5))||(a0.Number==0)))&&((a0.Kind==1)||(a0.Name==([]:ayc))))&&((((a0.Kind==1)||(a0.Kind==3))||(a0.Kind==5))||((a0.cd.length:Int)==0)))])))
theorem mc (a0 r) (h:uy a0=some r):aW ah 147 [.str a0] (.bool r) []:=by
 refine bw [0] [.tmp 2] Tryz.func147 akz (λbq ai bo=>?_);refine ws _ ?_;obtain⟨R,aU,h⟩:=al h;refine dC (b6 [(2,.bool (R&&(!(a0==([116,97,117]:ayc)))))] (λP bl=>?_) ?_)
 .rcases Bool.eq_false_or_eq_true (R)with mN|mN
  ·(try simp only[aK.down,simprocAttr,mN]);refine dD (K9 a0 _ aU) rfl rfl rfl rfl (.inl (by rfl)) ?_;simp only[aK.down,simprocAttr,mN];exact bR mN
  ·(try simp only[aK.down,simprocAttr,mN]);refine dD (K9 a0 _ aU) rfl rfl rfl rfl (.inl (by rfl)) ?_;simp only[aK.down,simprocAttr,mN];exact bR mN
 exact aw (ai _ (.inl (az [.bool (R&&(!(a0==([116,97,117]:ayc))))])))
theorem x_ (a0 J r) (h:xR a0 J=some r):aW ah 89 [.int .i64 a0,.int .i64 J] (.bool r) []:=by
 refine bw [0,1] [.tmp 4] Tryz.func89 akA (λbq ai bo=>?_);refine ws _ ?_;obtain⟨R,aU,h⟩:=al h;refine cH (mb a0 0 (i64.wrap (J-1)) _ aU) _ ?_;exact aw (ai _ (.inl (az [.bool R])))
theorem apB (a0 J r) (h:Pw a0 J=some r):aW ah 230 [ep a0,.slice (J.map bx)] (.bool r) []:=by
 refine bw [0,1] [.tmp 4] Tryz.func230 akC (λbq ai bo=>?_);refine ws _ ?_;refine ws _ ?_;refine ay ai (λ_ fg dm _=>?_);refine ws _ ?_;refine bj dm (λ_ dw cn _ _=>?_);refine ws _ ?_;refine aE h (λqj h=>?_) (λqj h=>?_)
 .refine dC (b6 [(4,.bool (((a0.cd.length:Int)==0)||((!(a0.Name==([116,97,117]:ayc)))&&(decide ((a0.cd.length:Int)<=2)))))] (λP bl=>?_) ?_)
  ·(rcases Bool.eq_false_or_eq_true ((a0.cd.length:Int)==0)with rO|rO)<;>(rcases Bool.eq_false_or_eq_true (a0.Name==([116,97,117]:ayc))with x9|x9)<;>
    (simp only[aK.down,simprocAttr,rO,x9]
     exact bR (U rO x9))
  exact aw (cn _ (.inl (az [.bool (((a0.cd.length:Int)==0)||((!(a0.Name==([116,97,117]:ayc)))&&(decide ((a0.cd.length:Int)<=2))))])))
 .refine ws _ ?_;refine aE h (λe1 h=>?_) (λe1 h=>?_)
  .refine ws _ ?_;exact aw (cn _ (.inl (az [.bool ((a0.cd.length:Int)==1)])))
  .refine ws _ ?_;refine aE h (λe0 h=>?_) (λe0 h=>?_)
   .obtain⟨R,dL,h⟩:=al h;refine cU dL _ ?_;exact aw (cn _ (.inl (az [.bool ((a0.cd.length:Int)==R.dP)])))
   .refine aL (dw _ (fg _ (.inl ?_)));refine ws _ ?_;exact aw (ai _ (.inl (az [.bool true])))
theorem Zx (a0 r) (h:FW a0=some r):aW ah 137 [.int .i64 a0] (.bool r) []:=by
 refine bw [0] [.tmp 2] Tryz.func137 akD (λbq ai bo=>?_);refine ws _ ?_;obtain⟨R,aU,h⟩:=al h;refine cH (mb a0 0 63 _ aU) _ ?_;exact aw (ai _ (.inl (az [.bool R])))
theorem apC (a0 J r) (h:JP a0 J=some r):aW ah 256 [dR a0,.int .i64 J] (.bool r) []:=by
 refine bw [0,1] [.tmp 4] Tryz.func256 akE (λbq ai bo=>?_);refine ws _ ?_;refine ay ai (λ_ bA bc ae=>?_);refine ws _ ?_;refine bj bc (λ_ fa bG _ _=>?_);refine ws _ ?_;refine aE h (λdA h=>?_) (λdA h=>?_)
 .obtain⟨R,fJ,h⟩:=al h;refine cH (Zx a0.Value _ fJ) _ ?_;exact aw (bG _ (.inl (az [.bool R])))
 .refine ws _ ?_;refine aE h (λfl h=>?_) (λfl h=>?_)
  .obtain⟨ae,dd,h⟩:=al h;refine cH (mb a0.Value 0 (i64.wrap (J-1)) _ dd) _ ?_;exact aw (bG _ (.inl (az [.bool ae])))
  .refine ws _ ?_;refine aE h (λgX h=>?_) (λgX h=>?_)
   .obtain⟨aD,ck,h⟩:=al h;refine cH (mb a0.Value 0 8 _ ck) _ ?_;exact aw (bG _ (.inl (az [.bool aD])))
   .refine ws _ ?_;refine aE h (λh0 h=>?_) (λh0 h=>?_)
    .refine ws _ ?_;exact aw (bG _ (.inl (az [.bool (a0.Value==0)])))
    .refine aL (fa _ (bA _ (.inl ?_)));refine ws _ ?_;exact aw (ai _ (.inl (az [.bool false])))
theorem Zy (a0 r) (h:JQ a0=some r):aW ah 235 [dR a0] (.int .i64 r) []:=by
 refine bw [0] [.tmp 2] Tryz.func235 akF (λbq ai bo=>?_);refine ws _ ?_;refine ay ai (λ_ bA bc _=>?_);refine ws _ ?_;refine bj bc (λ_ fa bG _ _=>?_);refine ws _ ?_;refine aE h (λdA h=>?_) (λdA h=>?_)
 .refine ws _ ?_;exact aw (bG _ (.inl (az [.int .i64 2])))
 .refine ws _ ?_;refine aE h (λe7 h=>?_) (λe7 h=>?_)
  .refine ws _ ?_;exact aw (bG _ (.inl (az [.int .i64 1])))
  .refine aL (fa _ (bA _ (.inl ?_)));refine ws _ ?_;exact aw (ai _ (.inl (az [.int .i64 0])))
theorem apD (a0 J a2 r) (h:JR a0 J a2=some r):aW ah 233 [.slice (a0.map dR),.int .i64 J,.int .i64 a2] (.bool r) []:=by
 refine bw [0,1,2] [.tmp 6] Tryz.func233 c233 (λbq ai bo=>?_);refine ws _ ?_;refine ay ai (λ_ bA bc ae=>?_);obtain⟨R,b4,h⟩:=al h;rcases dH h with⟨cV,h⟩|⟨cV,h⟩
 .refine eO (hj cV) (mb J 0 29 _ b4) _ ?_;refine iT rfl ?_;refine ws _ ?_;exact aw (bc _ (.inl (az [.bool false])))
 .obtain⟨ae,b9,h⟩:=al h;rcases dH h with⟨b7,h⟩|⟨b7,h⟩
  .refine dC (b6 [(0,.slice (a0.map dR)),(1,.int .i64 J),(24,.bool true)] (λP bl=>?_) ?_)
   ·(try simp only[aK.down,simprocAttr,(b_ cV),(hj b7)]);refine dD (mb J 0 29 _ b4) rfl rfl rfl rfl (.inl (by rfl)) ?_;simp only[aK.down,simprocAttr,(b_ cV),(hj b7)];refine iF (mb a2 1 60 _ b9) rfl rfl rfl rfl (.inl (by rfl)) ?_;simp only[aK.down,simprocAttr,(b_ cV),(hj b7)];exact bR (U (b_ cV) (hj b7))
   refine iT rfl ?_;refine ws _ ?_;exact aw (bc _ (.inl (az [.bool false])))
  .obtain⟨aD,iD,h⟩:=al h;refine dC (b6 [(0,.slice (a0.map dR)),(1,.int .i64 J),(24,.bool (!aD))] (λP bl=>?_) ?_)
   ·(try simp only[aK.down,simprocAttr,(b_ cV),(b_ b7)]);refine dD (mb J 0 29 _ b4) rfl rfl rfl rfl (.inl (by rfl)) ?_;simp only[aK.down,simprocAttr,(b_ cV),(b_ b7)];refine iF (mb a2 1 60 _ b9) rfl rfl rfl rfl (.inl (by rfl)) ?_;simp only[aK.down,simprocAttr,(b_ cV),(b_ b7)];refine iF (mb (a0.length:Int) 1 a2 _ iD) rfl rfl rfl rfl (.inl (by rfl)) ?_;simp only[aK.down,simprocAttr,(b_ cV),(b_ b7)];exact bR (U (b_ cV) (b_ b7))
   refine aE h (λoq h=>?_) (λoq h=>?_)
   .refine ws _ ?_;exact aw (bc _ (.inl (az [.bool false])))
   .refine aL (bA _ (.inl ?_));refine ws _ ?_;refine ay ai (λ_ eH ef _=>?_);refine ws _ ?_;refine bj ef (λapE _ nQ nw _=>?_);show bn ah (.loop ?kz) _ _;have k6:∀n jR uz,Cd a0 J n jR uz=some r->cD ah ?kz apE (aq [(1,.int .i64 J),(7,.int .i64 jR),(25,.slice (a0.map dR)),(26,.int .i64 (a0.length:Int)),(27,.int .i64 uz)]):=by
     refine cS (λ_ k7 jR uz h=>cR nQ (λ_ kc kP iv=>?_));refine ws _ ?_;refine ay kP (λ_ rM _ lr=>?_);refine aE h (λfY h=>?_) (λfY h=>?_)
     .refine aL (rM _ (.inl ?_));refine ay kP (λ_ Ab Df _=>?_);refine bj Df (λ_ ot nR _ _=>?_);obtain⟨aX,lC,h⟩:=al h;refine cU lC _ ?_;refine ay nR (λ_ wg oU _=>?_);rcases dH h with⟨ov,h⟩|⟨ov,h⟩
      .refine cU ov _ ?_;refine iT rfl ?_;refine ws _ ?_;exact aw (oU _ (.inl (az [.bool false])))
      .obtain⟨aT,qL,h⟩:=al h;refine eO ov (apC aX J _ qL) _ ?_;refine aE h (λpx h=>?_) (λpx h=>?_)
       .refine ws _ ?_;exact aw (oU _ (.inl (az [.bool false])))
       .refine aL (wg _ (.inl ?_));obtain⟨bp,oV,h⟩:=al h;refine YH (Zy aX _ oV) _ ?_;refine ot _ (Ab _ (.inl ?_));refine wr _ ?_;exact kc _ (.inr ⟨_,aZ rfl,k7 (i64.wrap (jR+(i64.wrap (bp-1)))) (i64.wrap (uz+1)) h⟩)
     .refine cK (lr 0 _ (iv 0 _ (nw _ (eH _ (.inl ?_)))));refine ws _ ?_;exact aw (ai _ (.inl (az [.bool (jR==0)])))
    obtain⟨n,h⟩:=cC h;exact cQ (.inr ⟨_,aZ rfl,k6 n 1 0 h⟩)
theorem apF (a0 J r) (h:Py a0 J=some r):aW ah 232 [.slice (a0.map dR),.ref (fv J)] (.bool r) []:=by
 refine bw [0,1] [.tmp 3] Tryz.func232 c232 (λbq ai bo=>?_);refine ws _ ?_;obtain⟨R,aU,h⟩:=al h;refine cH (apD a0 J.scope 15 _ aU) _ ?_;exact aw (ai _ (.inl (az [.bool (!R)])))
theorem apG (a0 J r) (h:PA a0 J=some r):aW ah 255 [.slice (a0.map iX),.fn 232 [.ref (fv J)]] (.int .i64 r) []:=by
 refine bw [0,1] [.tmp 4] Tryz.func255 akG (λbq ai bo=>?_);refine ws _ ?_;refine ay ai (λ_ bA bc ae=>?_);refine ws _ ?_;refine bj bc (λeC _ bG bM _=>?_);show bn ah (.loop ?eG) _ _;have eT:∀n cA,FX a0 J n cA=some r->cD ah ?eG eC (aq [(0,.slice (a0.map iX)),(1,.fn 232 [.ref (fv J)]),(7,.int .i64 (a0.length:Int)),(8,.int .i64 cA)]):=by
  refine cS (λ_ ev cA h=>cR bG (λ_ dw cn aT=>?_));refine ws _ ?_;refine ay cn (λ_ dK _ bs=>?_);refine aE h (λb7 h=>?_) (λb7 h=>?_)
  .refine aL (dK _ (.inl ?_));refine ay cn (λ_ cq bW _=>?_);refine bj bW (λ_ bT cw _ _=>?_);refine ws _ ?_;obtain⟨R,dz,h⟩:=al h;obtain⟨ae,dO,h⟩:=al h;refine eO dz (apF R J _ dO) _ ?_;refine aE h (λe0 h=>?_) (λe0 h=>?_)
   .refine ws _ ?_;exact aw (cw _ (.inl (az [.int .i64 cA])))
   .refine aL (bT _ (cq _ (.inl ?_)));refine wr _ ?_;exact dw _ (.inr ⟨_,aZ rfl,ev (i64.wrap (cA+1)) h⟩)
  .refine cK (bs 0 _ (aT 0 _ (bM _ (bA _ (.inl ?_)))));refine ws _ ?_;exact aw (ai _ (.inl (az [.int .i64 (-1)])))
 obtain⟨n,h⟩:=cC h;exact cQ (.inr ⟨_,aZ rfl,eT n 0 h⟩)
theorem apH (a0 J r) (h:JS a0 J=some r):aW ah 231 [.slice (a0.map iX),.fn 232 [.ref (fv J)]] (.bool r) []:=by
 refine bw [0,1] [.tmp 4] Tryz.func231 akH (λbq ai bo=>?_);refine ws _ ?_;obtain⟨R,aU,h⟩:=al h;refine cH (apG a0 J _ aU) _ ?_;exact aw (ai _ (.inl (az [.bool (decide (0<=R))])))
end Go.Proofs.YtmaepbgkcmjcjafGreatDoor
