/- Part of a proof that a law returns true for every input. No condition. -/
import Derived.Test.YtmaepbgkcmjcjahGreatDoorSl
namespace Go.Proofs.YtmaepbgkcmjcjahGreatDoor
open Option Go.IntKind Nat Or
open Go Go.ei Go.k6
set_option maxRecDepth 100000
set_option maxHeartbeats 3800000
set_option linter.unusedSimpArgs false
set_option linter.unusedVariables false
theorem bC (fx:azf) (fs:List ResultVar) {f:FuncId} {fn:Func} {ins outs:azk} {r:I} (bH:ah.P.funcs[f]? =some fn) (ej:aA)
 (N4:∀Q:Exit->al->Prop,(∀s,eS (ei.Ends ah fx fs r outs) s->Q .ret s)->(∀s,eS (ei.Ends ah fx fs r outs) s->Q .normal s)->bn ah ej Q (ar (num 0 ins))) (aa:gb ⟨fn.ntmps,fx⟩ (fn.body.getD .skip)=some ej.strip:=by kernel_rfl) (ab:fn.body=some (fn.body.getD .skip):=by rfl) (mH:(fn.name== "runtime.NumGoroutine")=false:=by rfl) (aV:ins.length<=fn.ntmps:=by exact le_of_ble_eq_true rfl) (ie:fn.results.toList=fs:=by rfl) (ax:ej.plain=true:=by kernel_rfl):aX ah f ins r outs:=
 aX.OY O2 fs (num 0 ins) bH ab mH aa aV ie rfl N4 ax
theorem c7 {P:Nat->Prop} (s:∀m,P m->P (m+1)) (z:P 0:=by intros;rename_i h;cases(show none=some _ from h)):∀n,P n:=λn=>Nat.rec z s n
def RL:=PLift.up (R @aia (R @aib (R @aic (R @aid (R @aie (R @aif (R @aih (R @aii (R @aij (R @aik (R @ail (R @aim (R @ain (R @aio (R @aip (R @aiq (R @air (R @ais (R @ait (R @aiu (R @aiv (R @aiw (R @aix (R @aiy (R @aiz (R @aiA (R @aiB (R @aiC (R @aiD (R @aiE (R @aiF (R @aiG (R @aiH (R @aiI (R @aiJ (R @aiK (R @aiL (R @aiM (R @aiN (R @aiO (R @aiP (R @aiQ (R @aiR (R @aiS (R @aiT (R @aiU (R @aiV (R @aiW (R @aiX (R @ji.eq_1 (R @aT.eq_1 (R @dj.eq_1 (R @bl.eq_1 (R @bI.eq_1 (R @gE.eq_1 (R @ey.eq_1 (R @bs.eq_1 (R @df.eq_1 (R @e1.eq_1 (R @dY.eq_1 (R @ajI (R @fz.eq_1 (R @ka.eq_1 (R @j_.eq_1 (R @jJ.eq_1 (R @kI.eq_1 (R @ir.eq_1 (R @lF.eq_1 (R @nj.eq_1 (R @qo.eq_1 (R @gq.eq_1 (R @i_.eq_1 (R @lE.eq_1 (R @aN.eq_1 (R @ajH (R @hM.eq_1 (R @hq.eq_1 (R @fN.eq_1 (R @jm.eq_1 (R @cQ.eq_1 (R @hS.eq_1 (R @q8.eq_1 (R @ajK (R @l3.eq_1 (R @Hy.eq_1 @lG.eq_1)))))))))))))))))))))))))))))))))))))))))))))))))))))))))))))))))))))))))))))))))))))
def aB:=PLift.up (R ahQ.down RL.down)
def dh:=PLift.up (R ahR.down RL.down)
def jB:=PLift.up (R ahS.down RL.down)
theorem bP {F A:Prop} (f:F) (h:F->A:=by intro bJ;(try simp only[jB.down,simprocAttr,bJ,dk,ed,dQ,fk,I.e6,I.shares]at bg⊢);exact bg):A:=h f
theorem wr {Q l ros k} (cK:azj) (aw:Q .normal (ar cK)) (h:∀P:azj->Prop,P cK->dF ah (ar l) ros none (λ_ s=>P (gW k s)):=by
 intro P bg;simp only[aB.down,simprocAttr,dk,ed,dQ,fk];(try simp only[jB.down,simprocAttr,dk,ed,dQ,fk]at bg⊢);exact bg):bn ah (.ew ros (some k)) Q (ar l):=
 ik (b6 cK (h) aw)
theorem dD {Q l ros k} {cK:azj} (aw:Q .normal (ar cK)) (h:∀P:azj->Prop,P cK->dF ah (ar l) ros none (λ_ s=>P (gW k s)):=by
 intro P bg;simp only[aB.down,simprocAttr,dk,ed,dQ,fk];(try simp only[jB.down,simprocAttr,dk,ed,dQ,fk]at bg⊢);exact bg):bn ah (.ew ros (some k)) Q (ar l):=
 ik (b6 cK (h) aw)
theorem ZA {Q l ros k g ds r} (ok:aX ah g ds r []) (cK:azj) (aw:Q .normal (ar cK)) (h:aX ah g ds r []->∀P:azj->Prop,P cK->dF ah (ar l) ros none (λ_ s=>P (gW k s)):=by
 intro nk P bg;(try simp only[aB.down,simprocAttr,dk,ed,dQ,fk]);(first|refine dq nk rfl rfl rfl rfl (inl (by rfl)) ?_|refine hz nk rfl rfl rfl rfl (inl (by rfl)) ?_);simp only[aB.down,simprocAttr,dk,ed,dQ,fk];(try simp only[jB.down,simprocAttr,dk,ed,dQ,fk]at bg⊢);exact bg):bn ah (.ew ros (some k)) Q (ar l):=
 ik (b6 cK (h ok) aw)
theorem Aw {Q l ros k g ds r} {F:Prop} (bJ:F) (ok:aX ah g ds r []) (cK:azj) (aw:Q .normal (ar cK)) (h:aX ah g ds r []->F->∀P:azj->Prop,P cK->dF ah (ar l) ros none (λ_ s=>P (gW k s)):=by
 intro nk bJ P bg;(try simp only[aB.down,simprocAttr,bJ,dk,ed,dQ,fk]);(first|refine dq nk rfl rfl rfl rfl (inl (by rfl)) ?_|refine hz nk rfl rfl rfl rfl (inl (by rfl)) ?_);simp only[aB.down,simprocAttr,bJ,dk,ed,dQ,fk];(try simp only[jB.down,simprocAttr,bJ,dk,ed,dQ,fk]at bg⊢);exact bg):bn ah (.ew ros (some k)) Q (ar l):=
 ik (b6 cK (h ok bJ) aw)
theorem ZB {Q l ros k de g ds r} {F:Prop} (bJ:F) (ok:aX ah g ds r []) (cK:azj) (aw:Q .normal (ar cK)) (h:aX ah g ds r []->F->∀P:azj->Prop,P cK->dF ah (ar l) ros (some []) (λacc s=>kF (nG de) 0 [] (acc.getD []).reverse=true/\P (gW k s)):=by
 intro nk bJ P bg;(try simp only[dh.down,simprocAttr,bJ,dk,ed,dQ,fk]);(first|refine h4 nk rfl rfl rfl rfl (inl (by rfl)) ?_|refine lU nk rfl rfl rfl rfl (inl (by rfl)) ?_);simp only[dh.down,simprocAttr,bJ,dk,ed,dQ,fk];refine⟨hY (by kernel_rfl),?_⟩;(try simp only[jB.down,simprocAttr,bJ,dk,ed,dQ,fk]at bg⊢);exact bg) (hl:de.length=ros.length:=by rfl):bn ah (.jX ros de (some k)) Q (ar l):=
 Oq hl (iP cK (h ok bJ) aw)
theorem qp {Q l ros k} {F:Prop} (bJ:F) (cK:azj) (aw:Q .normal (ar cK)) (h:F->∀P:azj->Prop,P cK->dF ah (ar l) ros none (λ_ s=>P (gW k s)):=by
 intro bJ P bg;simp only[aB.down,simprocAttr,bJ,dk,ed,dQ,fk];(try simp only[jB.down,simprocAttr,bJ,dk,ed,dQ,fk]at bg⊢);exact bg):bn ah (.ew ros (some k)) Q (ar l):=
 ik (b6 cK (h bJ) aw)
theorem ws {Q l ros k b} (cK:azj) (aw:bn ah b Q (ar cK)) (h:∀P:azj->Prop,P cK->dF ah (ar l) ros none (λ_ s=>P (gW k s)):=by
 intro P bg;simp only[aB.down,simprocAttr,dk,ed,dQ,fk];(try simp only[jB.down,simprocAttr,dk,ed,dQ,fk]at bg⊢);exact bg):bn ah (.seq (.ew ros (some k)) b) Q (ar l):=
 dp (b6 cK (h) aw)
theorem ak {Q l ros k b} {cK:azj} (aw:bn ah b Q (ar cK)) (h:∀P:azj->Prop,P cK->dF ah (ar l) ros none (λ_ s=>P (gW k s)):=by
 intro P bg;simp only[aB.down,simprocAttr,dk,ed,dQ,fk];(try simp only[jB.down,simprocAttr,dk,ed,dQ,fk]at bg⊢);exact bg):bn ah (.seq (.ew ros (some k)) b) Q (ar l):=
 dp (b6 cK (h) aw)
theorem aO {Q l ros k fx fs r} {cK:azj} (nz:∀s,eS (ei.Ends ah fx fs r []) s->Q .ret s) (ds:azk) (h:∀P:azj->Prop,P cK->dF ah (ar l) ros none (λ_ s=>P (gW k s)):=by
 intro P bg;simp only[aB.down,simprocAttr,dk,ed,dQ,fk];(try simp only[jB.down,simprocAttr,dk,ed,dQ,fk]at bg⊢);exact bg) (ag:r=FE ds:=by cases eC (by assumption);rfl) (ad:fs.map (rS ah (ar cK))=ds.map some:=by rfl) (aD:(fs.map k5).Nodup:=by decide):bn ah (.seq (.ew ros (some k)) .ret) Q (ar l):=
 ws cK (cP nz ds ag ad aD) h
theorem cS {Q l ros k b g ds r} (ok:aX ah g ds r []) (cK:azj) (aw:bn ah b Q (ar cK)) (h:aX ah g ds r []->∀P:azj->Prop,P cK->dF ah (ar l) ros none (λ_ s=>P (gW k s)):=by
 intro nk P bg;(try simp only[aB.down,simprocAttr,dk,ed,dQ,fk]);(first|refine dq nk rfl rfl rfl rfl (inl (by rfl)) ?_|refine hz nk rfl rfl rfl rfl (inl (by rfl)) ?_);simp only[aB.down,simprocAttr,dk,ed,dQ,fk];(try simp only[jB.down,simprocAttr,dk,ed,dQ,fk]at bg⊢);exact bg):bn ah (.seq (.ew ros (some k)) b) Q (ar l):=
 dp (b6 cK (h ok) aw)
theorem eQ {Q l ros k b g ds r} {F:Prop} (bJ:F) (ok:aX ah g ds r []) (cK:azj) (aw:bn ah b Q (ar cK)) (h:aX ah g ds r []->F->∀P:azj->Prop,P cK->dF ah (ar l) ros none (λ_ s=>P (gW k s)):=by
 intro nk bJ P bg;(try simp only[aB.down,simprocAttr,bJ,dk,ed,dQ,fk]);(first|refine dq nk rfl rfl rfl rfl (inl (by rfl)) ?_|refine hz nk rfl rfl rfl rfl (inl (by rfl)) ?_);simp only[aB.down,simprocAttr,bJ,dk,ed,dQ,fk];(try simp only[jB.down,simprocAttr,bJ,dk,ed,dQ,fk]at bg⊢);exact bg):bn ah (.seq (.ew ros (some k)) b) Q (ar l):=
 dp (b6 cK (h ok bJ) aw)
theorem ayE {Q l ros k b de} (cK:azj) (aw:bn ah b Q (ar cK)) (h:∀P:azj->Prop,P cK->dF ah (ar l) ros (some []) (λacc s=>kF (nG de) 0 [] (acc.getD []).reverse=true/\P (gW k s)):=by
 intro P bg;simp only[dh.down,simprocAttr,dk,ed,dQ,fk];refine⟨hY (by kernel_rfl),?_⟩;(try simp only[jB.down,simprocAttr,dk,ed,dQ,fk]at bg⊢);exact bg) (hl:de.length=ros.length:=by rfl):bn ah (.seq (.jX ros de (some k)) b) Q (ar l):=
 ju hl (iP cK (h) aw)
theorem ane {Q l ros k b de g ds r} (ok:aX ah g ds r []) (cK:azj) (aw:bn ah b Q (ar cK)) (h:aX ah g ds r []->∀P:azj->Prop,P cK->dF ah (ar l) ros (some []) (λacc s=>kF (nG de) 0 [] (acc.getD []).reverse=true/\P (gW k s)):=by
 intro nk P bg;(try simp only[dh.down,simprocAttr,dk,ed,dQ,fk]);(first|refine h4 nk rfl rfl rfl rfl (inl (by rfl)) ?_|refine lU nk rfl rfl rfl rfl (inl (by rfl)) ?_);simp only[dh.down,simprocAttr,dk,ed,dQ,fk];refine⟨hY (by kernel_rfl),?_⟩;(try simp only[jB.down,simprocAttr,dk,ed,dQ,fk]at bg⊢);exact bg) (hl:de.length=ros.length:=by rfl):bn ah (.seq (.jX ros de (some k)) b) Q (ar l):=
 ju hl (iP cK (h ok) aw)
theorem mo {Q l ros k b de g ds r} {F:Prop} (bJ:F) (ok:aX ah g ds r []) (cK:azj) (aw:bn ah b Q (ar cK)) (h:aX ah g ds r []->F->∀P:azj->Prop,P cK->dF ah (ar l) ros (some []) (λacc s=>kF (nG de) 0 [] (acc.getD []).reverse=true/\P (gW k s)):=by
 intro nk bJ P bg;(try simp only[dh.down,simprocAttr,bJ,dk,ed,dQ,fk]);(first|refine h4 nk rfl rfl rfl rfl (inl (by rfl)) ?_|refine lU nk rfl rfl rfl rfl (inl (by rfl)) ?_);simp only[dh.down,simprocAttr,bJ,dk,ed,dQ,fk];refine⟨hY (by kernel_rfl),?_⟩;(try simp only[jB.down,simprocAttr,bJ,dk,ed,dQ,fk]at bg⊢);exact bg) (hl:de.length=ros.length:=by rfl):bn ah (.seq (.jX ros de (some k)) b) Q (ar l):=
 ju hl (iP cK (h ok bJ) aw)
theorem o8 {Q l ros k b de} {F:Prop} (bJ:F) (cK:azj) (aw:bn ah b Q (ar cK)) (h:F->∀P:azj->Prop,P cK->dF ah (ar l) ros (some []) (λacc s=>kF (nG de) 0 [] (acc.getD []).reverse=true/\P (gW k s)):=by
 intro bJ P bg;simp only[dh.down,simprocAttr,bJ,dk,ed,dQ,fk];refine⟨hY (by kernel_rfl),?_⟩;(try simp only[jB.down,simprocAttr,bJ,dk,ed,dQ,fk]at bg⊢);exact bg) (hl:de.length=ros.length:=by rfl):bn ah (.seq (.jX ros de (some k)) b) Q (ar l):=
 ju hl (iP cK (h bJ) aw)
theorem ZC {Q l ros k b de} (e:Bool) {F:Prop} (bJ:F) (cK:azj) (aw:bn ah b Q (ar cK)) (h:F->∀c,e=c->∀P:azj->Prop,P cK->dF ah (ar l) ros (some []) (λacc s=>kF (nG de) 0 [] (acc.getD []).reverse=true/\P (gW k s)):=by
 intro bJ c au P bg;cases c;all_goals
  (try simp only[List.length_replicate]at au);simp only[dh.down,simprocAttr,au,bJ,dk,ed,dQ,fk];refine⟨hY (by kernel_rfl),?_⟩;(try simp only[jB.down,simprocAttr,au,bJ,dk,ed,dQ,fk]at bg⊢);exact bg) (hl:de.length=ros.length:=by rfl):bn ah (.seq (.jX ros de (some k)) b) Q (ar l):=
 ju hl (iP cK (h bJ e rfl) aw)
theorem c8 {Q l ros k b} {F:Prop} (bJ:F) (cK:azj) (aw:bn ah b Q (ar cK)) (h:F->∀P:azj->Prop,P cK->dF ah (ar l) ros none (λ_ s=>P (gW k s)):=by
 intro bJ P bg;simp only[aB.down,simprocAttr,bJ,dk,ed,dQ,fk];(try simp only[jB.down,simprocAttr,bJ,dk,ed,dQ,fk]at bg⊢);exact bg):bn ah (.seq (.ew ros (some k)) b) Q (ar l):=
 dp (b6 cK (h bJ) aw)
theorem se {Q l ros k b} {F:Prop} (bJ:F) (cK:azj) (aw:bn ah b Q (ar cK)) (h:F->∀P:azj->Prop,P cK->dF ah (ar l) ros none (λ_ s=>P (gW k s)):=by
 intro bJ P bg;simp only[aB.down,simprocAttr,bJ,dk,ed,dQ,fk,-Int.reduceNatCast'];(try simp only[jB.down,simprocAttr,bJ,dk,ed,dQ,fk,-Int.reduceNatCast']at bg⊢);exact bg):bn ah (.seq (.ew ros (some k)) b) Q (ar l):=
 dp (b6 cK (h bJ) aw)
theorem n7 {Q l ros k b} (e:Bool) (cK:azj) (aw:bn ah b Q (ar cK)) (h:∀c,e=c->∀P:azj->Prop,P cK->dF ah (ar l) ros none (λ_ s=>P (gW k s)):=by
 intro c au P bg;cases c;all_goals
  (try simp only[List.length_replicate]at au);simp only[aB.down,simprocAttr,au,dk,ed,dQ,fk];(try simp only[jB.down,simprocAttr,au,dk,ed,dQ,fk]at bg⊢);exact bg):bn ah (.seq (.ew ros (some k)) b) Q (ar l):=
 dp (b6 cK (h e rfl) aw)
theorem Lq {Q l ros k b} (e:Bool) {F:Prop} (bJ:F) (cK:azj) (aw:bn ah b Q (ar cK)) (h:F->∀c,e=c->∀P:azj->Prop,P cK->dF ah (ar l) ros none (λ_ s=>P (gW k s)):=by
 intro bJ c au P bg;cases c;all_goals
  (try simp only[List.length_replicate]at au);simp only[aB.down,simprocAttr,au,bJ,dk,ed,dQ,fk];(try simp only[jB.down,simprocAttr,au,bJ,dk,ed,dQ,fk]at bg⊢);exact bg):bn ah (.seq (.ew ros (some k)) b) Q (ar l):=
 dp (b6 cK (h bJ e rfl) aw)
def fI:=PLift.up (R @List.length_append.{0} (R @List.length_cons.{0} (R @List.length_nil.{0} (R @List.length_map.{0,0} @List.length_replicate.{0}))))
def mL:=PLift.up (R @wa @wb)
def q_:=PLift.up (R @gQ (R @gR (R @gS (R @cR (@b0 _ cQ bs (λ_=>nK _))))))
def sf:=PLift.up (R (@mZ ah 66 [(9,0),(2,1),(2,2),(32,3)] [(.str []),(.int .i64 0),(.int .i64 0),.bd] rfl rfl (by kernel_rfl)) (R @lV (R @lW (R @db (R @gA (R @List.nil_append.{0} (R @List.cons_append.{0} (R @ox (R @ow (R @cR (R @ov (@b0 _ cQ bs (λ_=>nK _)))))))))))))
def sg:=PLift.up (R @x7 (R @x9 @x8))
def yB:=PLift.up (R @gQ (R @gR (R @gS @cR)))
def Ax:=PLift.up (R @gQ (R @gR (R @gS (R @cR (R (@b0 _ aN aN (λ_=>jK _)) (@b0 _ aN aN (λ_=>jK _)))))))
def DP:=PLift.up (R (@j0 ah 29 29 2 rfl rfl) (R @j1 (R @j2 (R @gA (R @all_cons (R @all_nil (R (@jv _ aT 1 (λ_=>rfl)) (R @ox (R @ow (R @cR (R @ov (@b0 _ aT aT (λ_=>jA _)))))))))))))
def HE:=PLift.up (R @gQ (R @gR (R @gS (R @cR (@b0 _ aN aN (λ_=>jK _))))))
def Lr:=PLift.up (R (@mZ ah 102 [(9,0),(71,1)] [(.str []),(.agg [(.int .i64 0),(.int .i64 0),.bd])] rfl rfl (by kernel_rfl)) (R @lV (R @lW (R @db (R @gA (R @List.nil_append.{0} (R @List.cons_append.{0} (R @ox (R @ow (R @cR (R @ov (@b0 _ aT aT (λ_=>jA _)))))))))))))
def Ls:=PLift.up (R @gQ (R @gR (R @gS (R @cR (@b0 _ aT aT (λ_=>jA _))))))
def Lt:=PLift.up (R (@FG ah 97 102 1 4 [(.agg [(.str []),(.agg [(.int .i64 0),(.int .i64 0),.bd])])] rfl rfl rfl (by kernel_rfl)) (R @lV (R @lW (R @db (R @gA (R @List.nil_append.{0} (R @List.cons_append.{0} (R (@j0 ah 97 97 102 rfl rfl) (R @j1 (R @j2 (R @all_cons (R @all_nil (@jv _ hS 4 (λ_=>rfl))))))))))))))
def Lu:=PLift.up (R (@mZ ah 66 [(9,0),(2,1),(2,2),(32,3)] [(.str []),(.int .i64 0),(.int .i64 0),.bd] rfl rfl (by kernel_rfl)) (R @lV (R @lW (R @db (R @gA (R @List.nil_append.{0} (R @List.cons_append.{0} (R (@FG ah 61 66 1 4 [(.agg [(.str []),(.int .i64 0),(.int .i64 0),.bd])] rfl rfl rfl (by kernel_rfl)) (R (@j0 ah 61 61 66 rfl rfl) (R @j1 (R @j2 (R @all_cons (R @all_nil (@jv _ fN 4 (λ_=>rfl)))))))))))))))
def Lv:=PLift.up (R @ox (R @ow (R @cR (R @ov (R (@b0 _ aT aT (λ_=>jA _)) (@b0 _ bs bs (λ_=>wN _)))))))
def Lw:=PLift.up (R @x7 (R @x9 (R @x8 (R @XA (R @kn @Oi)))))
def Lx:=PLift.up (R @x7 (R @x9 (R @x8 (R @jI (R @XA @kn)))))
def RM:=PLift.up (R (@mZ ah 71 [(2,0),(2,1),(29,2)] [(.int .i64 0),(.int .i64 0),.bd] rfl rfl (by kernel_rfl)) (R @lV (R @lW (R @db (R @gA (R @List.nil_append.{0} (R @List.cons_append.{0} (R (@FG ah 32 71 1 3 [(.agg [(.int .i64 0),(.int .i64 0),.bd])] rfl rfl rfl (by kernel_rfl)) (R (@j0 ah 32 32 71 rfl rfl) (R @j1 (R @j2 (R @all_cons (R @all_nil (@jv _ cQ 3 (λ_=>rfl)))))))))))))))
def RN:=PLift.up (R @gQ (R @gR (R @gS (R @cR (R (@b0 _ aT aT (λ_=>jA _)) (@b0 _ aT aT (λ_=>jA _)))))))
def RO:=PLift.up (R @lX (R @kT (R @kn (R @gQ (R @gR (R @gS (R @cR (R @or_true (R @true_or (@b0 _ df df (λ_=>DO _)))))))))))
def RP:=PLift.up (R (@mZ ah 66 [(9,0),(2,1),(2,2),(32,3)] [(.str []),(.int .i64 0),(.int .i64 0),.bd] rfl rfl (by kernel_rfl)) (R @lV (R @lW (R @db (R @gA (R @List.nil_append.{0} (R @List.cons_append.{0} (R @ox (R @ow (R @cR (R @ov (R (@b0 _ cQ bs (λ_=>nK _)) (R @gQ (R @gR (R @gS (R @cR (R (@b0 _ bl bl (λ_=>sb _)) (R (@b0 _ dj dj (λ_=>yy _)) (R (@b0 _ bI bI (λ_=>pS _)) (R (@b0 _ aN aN (λ_=>jK _)) (@b0 _ aN aN (λ_=>jK _))))))))))))))))))))))
def RQ:=PLift.up (R (@mZ ah 66 [(9,0),(2,1),(2,2),(32,3)] [(.str []),(.int .i64 0),(.int .i64 0),.bd] rfl rfl (by kernel_rfl)) (R @lV (R @lW (R @db (R @gA (R @List.nil_append.{0} (R @List.cons_append.{0} (R @ox (R @ow (R @cR (R @ov (R (@b0 _ cQ bs (λ_=>nK _)) (R @gQ (R @gR (R @gS (R @cR (@b0 _ bs bs (λ_=>wN _))))))))))))))))))
def RR:=PLift.up (R (@mZ ah 66 [(9,0),(2,1),(2,2),(32,3)] [(.str []),(.int .i64 0),(.int .i64 0),.bd] rfl rfl (by kernel_rfl)) (R @lV (R @lW (R @db (R @gA (R @List.nil_append.{0} (R @List.cons_append.{0} (R @ox (R @ow (R @cR (R @ov (R (@b0 _ cQ bs (λ_=>nK _)) (R @lX (R @kT (R @kn (R @gQ (R @gR (R @gS (R @cR (R @or_true (R @true_or (@b0 _ gE gE (λ_=>ajE _)))))))))))))))))))))))
def RS:=PLift.up (R (@mZ ah 66 [(9,0),(2,1),(2,2),(32,3)] [(.str []),(.int .i64 0),(.int .i64 0),.bd] rfl rfl (by kernel_rfl)) (R @lV (R @lW (R @db (R @gA (R @List.nil_append.{0} (R @List.cons_append.{0} (R @ox (R @ow (R @cR (R @ov (R (@b0 _ cQ bs (λ_=>nK _)) @jI))))))))))))
def RT:=PLift.up (R @gQ (R @gR (R @gS (R @cR (R (@b0 _ bl bl (λ_=>sb _)) (R (@b0 _ dj dj (λ_=>yy _)) (R (@b0 _ bI bI (λ_=>pS _)) (R (@b0 _ aN aN (λ_=>jK _)) (@b0 _ aN aN (λ_=>jK _))))))))))
def RU:=PLift.up (R (@FG ah 32 71 1 3 [(.agg [(.int .i64 0),(.int .i64 0),.bd])] rfl rfl rfl (by kernel_rfl)) (R @lV (R @lW (R @db (R @gA (R @List.nil_append.{0} (R @List.cons_append.{0} (R (@j0 ah 32 32 71 rfl rfl) (R @j1 (R @j2 (R @all_cons (R @all_nil (@jv _ cQ 3 (λ_=>rfl))))))))))))))
def RV:=PLift.up (R @lX (R @kT (R @kn (R @gQ (R @gR (R @gS (R @cR (R @or_true (R @true_or (R (@b0 _ bl bl (λ_=>sb _)) (@b0 _ hS df (λ_=>Hx _))))))))))))
def RW:=PLift.up (R @lX (R @kT (R @kn (R @gQ (R @gR (R @gS (R @cR (R @or_true (R @true_or (@b0 _ cQ bs (λ_=>nK _)))))))))))
def ZD:=PLift.up (R @gQ (R @gR (R @gS (R @cR (@b0 _ ey ey (λ_=>Lf _))))))
def ZE:=PLift.up (R (@j0 ah 29 29 2 rfl rfl) (R @j1 (R @j2 (R @gA (R @all_cons (R @all_nil (R (@jv _ aT 1 (λ_=>rfl)) (R @ox (R @ow (R @cR (R @ov (R (@b0 _ aT aT (λ_=>jA _)) (R @List.map_append.{0,0} (R @List.map_set.{0,0} (R @List.map_cons.{0,0} @List.map_nil.{0,0})))))))))))))))
def ZF:=PLift.up (R (@j0 ah 29 29 2 rfl rfl) (R @j1 (R @j2 (R @gA (R @all_cons (R @all_nil (R (@jv _ aT 1 (λ_=>rfl)) (R @ox (R @ow (R @cR (R @ov (R (@b0 _ aT aT (λ_=>jA _)) @jI))))))))))))
def ZG:=PLift.up (R (@FG ah 261 226 1 1 [.ez] rfl rfl rfl (by kernel_rfl)) (R @lV (R @lW (R @db (R @gA (R @List.nil_append.{0} (R @List.cons_append.{0} (R (@j0 ah 261 261 226 rfl rfl) (R @j1 (R @j2 (R @all_cons (R @all_nil (@jv _ l3 1 (λ_=>rfl))))))))))))))
def ZH:=PLift.up (R (@mZ ah 102 [(9,0),(71,1)] [(.str []),(.agg [(.int .i64 0),(.int .i64 0),.bd])] rfl rfl (by kernel_rfl)) (R @lV (R @lW (R @db (R @gA (R @List.nil_append.{0} @List.cons_append.{0}))))))
def ZI:=PLift.up (R (λs y q=>(XD ah s 25 y q).1) (λs y q=>(XD ah s 25 y q).2.1))
def ZJ:=PLift.up (R @wa (R @wb (R @gQ (R @gR (R @gS (R @cR (@b0 _ cQ bs (λ_=>nK _))))))))
def ZK:=PLift.up (R @ox (R @ow (R @cR (R @ov (R (@b0 _ aT aT (λ_=>jA _)) (R (@b0 _ bs bs (λ_=>wN _)) (R @lX (R @kT (R @kn (R @gQ (R @gR (R @gS (R @cR (R @or_true (R @true_or (R (@b0 _ bl bl (λ_=>sb _)) (R (@b0 _ dj dj (λ_=>yy _)) (R (@b0 _ bI bI (λ_=>pS _)) (R (@b0 _ aN aN (λ_=>jK _)) (R (@b0 _ aN aN (λ_=>jK _)) (R (@b0 _ bs bs (λ_=>wN _)) (@b0 _ fN gE (λ_=>YS _)))))))))))))))))))))))
def ZL:=PLift.up (R @ox (R @ow (R @cR (R @ov (R (@b0 _ aT aT (λ_=>jA _)) (R (@b0 _ bs bs (λ_=>wN _)) @jI))))))
def ZM:=PLift.up (R @cR (@b0 _ aT aT (λ_=>jA _)))
def ZN:=PLift.up (R @kT (R @kn (R @gQ (R @gR (R @gS (R @cR (R @or_true (R @true_or (@b0 _ aT aT (λ_=>jA _))))))))))
def ZO:=PLift.up (R @x7 (R @x9 (R @x8 (R @lX (R @kT (R @kn (R @gQ (R @gR (R @gS (R @cR (R @or_true (R @true_or (@b0 _ aN aN (λ_=>jK _))))))))))))))
def ZP:=PLift.up (R @uG (R @uH (R @gQ (R @gR (R @gS (R @cR (R (@b0 _ hq bl (λ_=>At _)) (R (@b0 _ hM dj (λ_=>Au _)) (R (@b0 _ bI bI (λ_=>pS _)) (R (@b0 _ aN aN (λ_=>jK _)) (R (@b0 _ aN aN (λ_=>jK _)) (R (@b0 _ cQ bs (λ_=>nK _)) (@b0 _ aT aT (λ_=>jA _))))))))))))))
def ZQ:=PLift.up (R (@jZ _ cQ (λ_=>yz _)) (@jZ _ aN (λ_=>Rr _)))
theorem anf (a0 J r) (h:F1 a0 J=some r):aX ah 187 [.slice (a0.map nj),.int .i64 J] (.int .i64 r) []:=by
 refine bC [0] [.tmp 4] Tryz.func187 ajN λbt aj br=>ak ?_;refine ak ?_;refine ay aj λ_ fe dA _=>ak ?_;refine aC h (λda h=>?_) λda h=>?_
 .exact aO dA [.int .i64 (-1)]
 .exact aL (fe _ (inl (aO aj [.int .i64 (i64.wrap (J-(a0.length:Int)))])))
theorem ang (a0 J r) (h:JK a0 J=some r):aX ah 154 [.slice (a0.map lE),.int .i64 J] (.int .i64 r) []:=by
 refine bC [0] [.tmp 4] Tryz.func154 c154 λbt aj br=>ak ?_;refine ak ?_;refine ay aj λ_ fe dA _=>ak ?_;refine aC h (λda h=>?_) λda h=>?_
 .exact aO dA [.int .i64 (-1)]
 .refine aL (fe _ (inl (ay aj λ_ dN eO _=>ak ?_)));refine bk eO λkb _ b8 e7 _=>?_;show bn ah (.loop ?kJ) _ _;have lb:∀n eD eo,O3 a0 n eD eo=some r->cN ah ?kJ kb (ar [(0,.slice (a0.map lE)),(1,.int .i64 eD),(5,.int .i64 eo)]):=by
   refine c7 λ_ ld eD eo h=>c6 b8 λ_ b2 cM cp=>ay cM λ_ eH _ fc=>ak ?_;refine aC h (λfh h=>?_) λfh h=>?_
   .refine aL (eH _ (inl (ay cM λ_ eT er _=>bk er λ_ fJ gK _ _=>?_)));obtain⟨U,dV,h⟩:=an h;obtain⟨af,eL,h⟩:=an h;refine eQ dV (anf U eD _ eL) _ ?_;refine ak ?_;refine aC h (λgr h=>?_) λgr h=>?_
    .exact aO gK [.int .i64 (-1)]
    .refine aL (fJ _ (eT _ (inl (dD ?_))));exact b2 _ (inr ⟨_,bE rfl,ld af (i64.wrap (eo+1)) h⟩)
   .exact cX (fc 0 _ (cp 0 _ (e7 _ (dN _ (inl (aO aj [.int .i64 eD]))))))
  exact dz h λn h=>lb n (i64.wrap (J-(a0.length:Int))) 0 h
theorem anh (a0 J r) (h:F2 a0 J=some r):aX ah 107 [kI a0,.int .i64 J] (.int .i64 r) []:=by
 refine bC [0] [.tmp 4] Tryz.func107 c107 λbt aj br=>ak ?_;refine ak ?_;refine ay aj λ_ fe dA _=>ak ?_;refine aC h (λda h=>?_) λda h=>?_
 .exact aO dA [.int .i64 (-1)]
 .refine aL (fe _ (inl ?_));obtain⟨U,fC,h⟩:=an h;refine cS (ang a0.cl (i64.wrap (J-(a0.Name.length:Int))) _ fC) _ ?_;refine ay aj λ_ cF b8 _=>ak ?_;refine aC h (λoL h=>?_) λoL h=>?_
  .exact aO b8 [.int .i64 (-1)]
  .exact aL (cF _ (inl (aO aj [.int .i64 U])))
theorem ani (a0 J r) (h:JL a0 J=some r):aX ah 78 [.slice (a0.map kI),.int .i64 J] (.int .i64 r) []:=by
 refine bC [0] [.tmp 4] Tryz.func78 ajO λbt aj br=>ak ?_;refine ak ?_;refine ay aj λ_ fe dA _=>ak ?_;refine aC h (λda h=>?_) λda h=>?_
 .exact aO dA [.int .i64 (-1)]
 .refine aL (fe _ (inl (ay aj λ_ dN eO _=>ak ?_)));refine bk eO λkb _ b8 e7 _=>?_;show bn ah (.loop ?kJ) _ _;have lb:∀n eD eo,O4 a0 n eD eo=some r->cN ah ?kJ kb (ar [(0,.slice (a0.map kI)),(1,.int .i64 eD),(5,.int .i64 eo)]):=by
   refine c7 λ_ ld eD eo h=>c6 b8 λ_ b2 cM cp=>ay cM λ_ eH _ fc=>ak ?_;refine aC h (λfh h=>?_) λfh h=>?_
   .refine aL (eH _ (inl (ay cM λ_ eT er _=>bk er λ_ fJ gK _ _=>?_)));obtain⟨U,dV,h⟩:=an h;obtain⟨af,eL,h⟩:=an h;refine eQ dV (anh U eD _ eL) _ ?_;refine ak ?_;refine aC h (λgr h=>?_) λgr h=>?_
    .exact aO gK [.int .i64 (-1)]
    .refine aL (fJ _ (eT _ (inl (dD ?_))));exact b2 _ (inr ⟨_,bE rfl,ld af (i64.wrap (eo+1)) h⟩)
   .exact cX (fc 0 _ (cp 0 _ (e7 _ (dN _ (inl (aO aj [.int .i64 eD]))))))
  exact dz h λn h=>lb n (i64.wrap (J-(a0.length:Int))) 0 h
theorem anj (a0 J r) (h:F3 a0 J=some r):aX ah 48 [j_ a0,.int .i64 J] (.int .i64 r) []:=by
 refine bC [0] [.tmp 4] Tryz.func48 ajP λbt aj br=>ak ?_;refine ak ?_;refine ay aj λ_ fe dA _=>ak ?_;refine aC h (λda h=>?_) λda h=>?_
 .exact aO dA [.int .i64 (-1)]
 .refine aL (fe _ (inl ?_));obtain⟨U,fC,h⟩:=an h;refine cS (ani a0.Body (i64.wrap (J-(a0.Name.length:Int))) _ fC) _ ?_;refine ay aj λ_ cF b8 _=>ak ?_;refine aC h (λoL h=>?_) λoL h=>?_
  .exact aO b8 [.int .i64 (-1)]
  .exact aL (cF _ (inl (aO aj [.int .i64 U])))
theorem ank (a0 J r) (h:JM a0 J=some r):aX ah 21 [.slice (a0.map j_),.int .i64 J] (.int .i64 r) []:=by
 refine bC [0] [.tmp 4] Tryz.func21 c21 λbt aj br=>ak ?_;refine ak ?_;refine ay aj λ_ fe dA _=>ak ?_;refine aC h (λda h=>?_) λda h=>?_
 .exact aO dA [.int .i64 (-1)]
 .refine aL (fe _ (inl (ay aj λ_ dN eO _=>ak ?_)));refine bk eO λkb _ b8 e7 _=>?_;show bn ah (.loop ?kJ) _ _;have lb:∀n eD eo,O5 a0 n eD eo=some r->cN ah ?kJ kb (ar [(0,.slice (a0.map j_)),(1,.int .i64 eD),(5,.int .i64 eo)]):=by
   refine c7 λ_ ld eD eo h=>c6 b8 λ_ b2 cM cp=>ay cM λ_ eH _ fc=>ak ?_;refine aC h (λfh h=>?_) λfh h=>?_
   .refine aL (eH _ (inl (ay cM λ_ eT er _=>bk er λ_ fJ gK _ _=>?_)));obtain⟨U,dV,h⟩:=an h;obtain⟨af,eL,h⟩:=an h;refine eQ dV (anj U eD _ eL) _ ?_;refine ak ?_;refine aC h (λgr h=>?_) λgr h=>?_
    .exact aO gK [.int .i64 (-1)]
    .refine aL (fJ _ (eT _ (inl (dD ?_))));exact b2 _ (inr ⟨_,bE rfl,ld af (i64.wrap (eo+1)) h⟩)
   .exact cX (fc 0 _ (cp 0 _ (e7 _ (dN _ (inl (aO aj [.int .i64 eD]))))))
  exact dz h λn h=>lb n (i64.wrap (J-(a0.length:Int))) 0 h
theorem ZR (a0 J r) (h:F4 a0 J=some r):aX ah 51 [.slice (a0.map aT),.int .i64 J] (.int .i64 r) []:=by
 refine bC [0] [.tmp 4] Tryz.func51 c51 λbt aj br=>ak ?_;refine ak ?_;refine ay aj λ_ fe dA _=>ak ?_;refine aC h (λda h=>?_) λda h=>?_
 .exact aO dA [.int .i64 (-1)]
 .exact aL (fe _ (inl (aO aj [.int .i64 (i64.wrap (J-(a0.length:Int)))])))
theorem anl (a0 J r) (h:F5 a0 J=some r):aX ah 49 [ka a0,.int .i64 J] (.int .i64 r) []:=by
 refine bC [0] [.tmp 4] Tryz.func49 c49 λbt aj br=>ak ?_;obtain⟨U,aU,h⟩:=an h;refine cS (ZR a0.bK J _ aU) _ ?_;refine ay aj λ_ fi bL _=>ak ?_;refine aC h (λdM h=>?_) λdM h=>?_
 .exact aO bL [.int .i64 (-1)]
 .exact aL (fi _ (inl (aO aj [.int .i64 U])))
theorem anm (a0 J r) (h:JN a0 J=some r):aX ah 22 [.slice (a0.map ka),.int .i64 J] (.int .i64 r) []:=by
 refine bC [0] [.tmp 4] Tryz.func22 RA λbt aj br=>ak ?_;refine ak ?_;refine ay aj λ_ fe dA _=>ak ?_;refine aC h (λda h=>?_) λda h=>?_
 .exact aO dA [.int .i64 (-1)]
 .refine aL (fe _ (inl (ay aj λ_ dN eO _=>ak ?_)));refine bk eO λkb _ b8 e7 _=>?_;show bn ah (.loop ?kJ) _ _;have lb:∀n eD eo,O6 a0 n eD eo=some r->cN ah ?kJ kb (ar [(0,.slice (a0.map ka)),(1,.int .i64 eD),(5,.int .i64 eo)]):=by
   refine c7 λ_ ld eD eo h=>c6 b8 λ_ b2 cM cp=>ay cM λ_ eH _ fc=>ak ?_;refine aC h (λfh h=>?_) λfh h=>?_
   .refine aL (eH _ (inl (ay cM λ_ eT er _=>bk er λ_ fJ gK _ _=>?_)));obtain⟨U,dV,h⟩:=an h;obtain⟨af,eL,h⟩:=an h;refine eQ dV (anl U eD _ eL) _ ?_;refine ak ?_;refine aC h (λgr h=>?_) λgr h=>?_
    .exact aO gK [.int .i64 (-1)]
    .refine aL (fJ _ (eT _ (inl (dD ?_))));exact b2 _ (inr ⟨_,bE rfl,ld af (i64.wrap (eo+1)) h⟩)
   .exact cX (fc 0 _ (cp 0 _ (e7 _ (dN _ (inl (aO aj [.int .i64 eD]))))))
  exact dz h λn h=>lb n (i64.wrap (J-(a0.length:Int))) 0 h
theorem ann (a0 J r) (h:F6 a0 J=some r):aX ah 50 [jJ a0,.int .i64 J] (.int .i64 r) []:=by
 refine bC [0] [.tmp 4] Tryz.func50 ajQ λbt aj br=>ak ?_;refine ak ?_;refine ay aj λ_ fe dA _=>ak ?_;refine aC h (λda h=>?_) λda h=>?_
 .exact aO dA [.int .i64 (-1)]
 .refine aL (fe _ (inl (ak ?_)));refine ay aj λ_ ja h6 _=>ak ?_;refine aC h (λfm h=>?_) λfm h=>?_
  .exact aO h6 [.int .i64 (-1)]
  .refine aL (ja _ (inl (ak ?_)));refine ay aj λ_ fG fu _=>ak ?_;refine aC h (λe2 h=>?_) λe2 h=>?_
   .exact aO fu [.int .i64 (-1)]
   .exact aL (fG _ (inl (aO aj [.int .i64 (i64.wrap ((i64.wrap ((i64.wrap (J-(a0.Left.length:Int)))-(a0.cH.length:Int)))-(a0.Result.length:Int)))])))
theorem ano (a0 J r) (h:JO a0 J=some r):aX ah 23 [.slice (a0.map jJ),.int .i64 J] (.int .i64 r) []:=by
 refine bC [0] [.tmp 4] Tryz.func23 ajR λbt aj br=>ak ?_;refine ak ?_;refine ay aj λ_ fe dA _=>ak ?_;refine aC h (λda h=>?_) λda h=>?_
 .exact aO dA [.int .i64 (-1)]
 .refine aL (fe _ (inl (ay aj λ_ dN eO _=>ak ?_)));refine bk eO λkb _ b8 e7 _=>?_;show bn ah (.loop ?kJ) _ _;have lb:∀n eD eo,O7 a0 n eD eo=some r->cN ah ?kJ kb (ar [(0,.slice (a0.map jJ)),(1,.int .i64 eD),(5,.int .i64 eo)]):=by
   refine c7 λ_ ld eD eo h=>c6 b8 λ_ b2 cM cp=>ay cM λ_ eH _ fc=>ak ?_;refine aC h (λfh h=>?_) λfh h=>?_
   .refine aL (eH _ (inl (ay cM λ_ eT er _=>bk er λ_ fJ gK _ _=>?_)));obtain⟨U,dV,h⟩:=an h;obtain⟨af,eL,h⟩:=an h;refine eQ dV (ann U eD _ eL) _ ?_;refine ak ?_;refine aC h (λgr h=>?_) λgr h=>?_
    .exact aO gK [.int .i64 (-1)]
    .refine aL (fJ _ (eT _ (inl (dD ?_))));exact b2 _ (inr ⟨_,bE rfl,ld af (i64.wrap (eo+1)) h⟩)
   .exact cX (fc 0 _ (cp 0 _ (e7 _ (dN _ (inl (aO aj [.int .i64 eD]))))))
  exact dz h λn h=>lb n (i64.wrap (J-(a0.length:Int))) 0 h
theorem ZS (a0 J r) (h:F7 a0 J=some r):aX ah 24 [.slice (a0.map aN),.int .i64 J] (.int .i64 r) []:=by
 refine bC [0] [.tmp 4] Tryz.func24 c24 λbt aj br=>ak ?_;refine ak ?_;refine ay aj λ_ fe dA _=>ak ?_;refine aC h (λda h=>?_) λda h=>?_
 .exact aO dA [.int .i64 (-1)]
 .refine aL (fe _ (inl (ay aj λ_ dN eO _=>ak ?_)));refine bk eO λkb _ b8 e7 _=>?_;show bn ah (.loop ?kJ) _ _;have lb:∀n eD eo,O8 a0 n eD eo=some r->cN ah ?kJ kb (ar [(0,.slice (a0.map aN)),(1,.int .i64 eD),(5,.int .i64 eo)]):=by
   refine c7 λ_ ld eD eo h=>c6 b8 λ_ b2 cM cp=>ay cM λ_ eH _ fc=>ak ?_;refine aC h (λfh h=>?_) λfh h=>?_
   .refine aL (eH _ (inl (ay cM λ_ eT er _=>bk er λ_ fJ gK _ _=>?_)));obtain⟨U,dV,h⟩:=an h;refine c8 dV _ ?_;refine ak ?_;refine aC h (λfX h=>?_) λfX h=>?_
    .exact aO gK [.int .i64 (-1)]
    .refine aL (fJ _ (eT _ (inl (dD ?_))));exact b2 _ (inr ⟨_,bE rfl,ld (i64.wrap (eD-(U.length:Int))) (i64.wrap (eo+1)) h⟩)
   .exact cX (fc 0 _ (cp 0 _ (e7 _ (dN _ (inl (aO aj [.int .i64 eD]))))))
  exact dz h λn h=>lb n (i64.wrap (J-(a0.length:Int))) 0 h
theorem anp (a0 J r) (h:F8 a0 J=some r):aX ah 4 [lF a0,.int .i64 J] (.int .i64 r) []:=by
 refine bC [0] [.tmp 4] Tryz.func4 c4 λbt aj br=>ak ?_;obtain⟨U,aU,h⟩:=an h;refine cS (ank a0.cw J _ aU) _ ?_;refine ay aj λ_ fi bL a1=>ak ?_;refine aC h (λdM h=>?_) λdM h=>?_
 .exact aO bL [.int .i64 (-1)]
 .refine aL (fi _ (inl ?_));obtain⟨af,jt,h⟩:=an h;refine cS (anm a0.ch U _ jt) _ ?_;refine ay aj λ_ b2 cM _=>ak ?_;refine aC h (λfb h=>?_) λfb h=>?_
  .exact aO cM [.int .i64 (-1)]
  .refine aL (b2 _ (inl ?_));obtain⟨aI,ef,h⟩:=an h;refine cS (ano a0.b_ af _ ef) _ ?_;refine ay aj λ_ lH n8 _=>ak ?_;refine aC h (λh7 h=>?_) λh7 h=>?_
   .exact aO n8 [.int .i64 (-1)]
   .refine aL (lH _ (inl ?_));obtain⟨a1,gF,h⟩:=an h;refine cS (ZS a0.cD aI _ gF) _ ?_;refine ay aj λ_ nL nm _=>ak ?_;refine aC h (λh0 h=>?_) λh0 h=>?_
    .exact aO nm [.int .i64 (-1)]
    .refine aL (nL _ (inl ?_));obtain⟨ba,tD,h⟩:=an h;refine cS (ZS a0.cB a1 _ tD) _ ?_;refine ay aj λ_ anq HF _=>ak ?_;refine aC h (λnM h=>?_) λnM h=>?_
     .exact aO HF [.int .i64 (-1)]
     .exact aL (anq _ (inl (aO aj [.int .i64 ba])))
theorem anr (a0 J r) (h:F9 a0 J=some r):aX ah 25 [ir a0,.int .i64 J] (.int .i64 r) []:=by
 refine bC [0] [.tmp 4] Tryz.func25 ajS λbt aj br=>ak ?_;obtain⟨U,aU,h⟩:=an h;refine cS (ZR a0.bK J _ aU) _ ?_;refine ay aj λ_ fi bL _=>ak ?_;refine aC h (λdM h=>?_) λdM h=>?_
 .exact aO bL [.int .i64 (-1)]
 .exact aL (fi _ (inl (aO aj [.int .i64 U])))
theorem ans (a0 J r) (h:JP a0 J=some r):aX ah 5 [.slice (a0.map ir),.int .i64 J] (.int .i64 r) []:=by
 refine bC [0] [.tmp 4] Tryz.func5 c5 λbt aj br=>ak ?_;refine ak ?_;refine ay aj λ_ fe dA _=>ak ?_;refine aC h (λda h=>?_) λda h=>?_
 .exact aO dA [.int .i64 (-1)]
 .refine aL (fe _ (inl (ay aj λ_ dN eO _=>ak ?_)));refine bk eO λkb _ b8 e7 _=>?_;show bn ah (.loop ?kJ) _ _;have lb:∀n eD eo,O9 a0 n eD eo=some r->cN ah ?kJ kb (ar [(0,.slice (a0.map ir)),(1,.int .i64 eD),(5,.int .i64 eo)]):=by
   refine c7 λ_ ld eD eo h=>c6 b8 λ_ b2 cM cp=>ay cM λ_ eH _ fc=>ak ?_;refine aC h (λfh h=>?_) λfh h=>?_
   .refine aL (eH _ (inl (ay cM λ_ eT er _=>bk er λ_ fJ gK _ _=>?_)));obtain⟨U,dV,h⟩:=an h;obtain⟨af,eL,h⟩:=an h;refine eQ dV (anr U eD _ eL) _ ?_;refine ak ?_;refine aC h (λgr h=>?_) λgr h=>?_
    .exact aO gK [.int .i64 (-1)]
    .refine aL (fJ _ (eT _ (inl (dD ?_))));exact b2 _ (inr ⟨_,bE rfl,ld af (i64.wrap (eo+1)) h⟩)
   .exact cX (fc 0 _ (cp 0 _ (e7 _ (dN _ (inl (aO aj [.int .i64 eD]))))))
  exact dz h λn h=>lb n (i64.wrap (J-(a0.length:Int))) 0 h
theorem ant (a0 r) (h:F_ a0=some r):aX ah 225 [nj a0] (dY r) []:=by
 refine bC [0] [.cell 2 245] Tryz.func225 ajT λbt aj br=>ak ?_;refine ak ?_;refine ak ?_;refine ak ?_;exact aO aj [dY (bV.mk a0.Kind a0.Value)]
theorem anu (a0 r) (h:Ga a0=some r):aX ah 193 [.slice (a0.map nj)] (.ae 2 (r.map dY)) []:=by
 refine bC [0] [.tmp 2] Tryz.func193 c193 λbt aj br=>ak ?_;obtain⟨Ay,aU,h⟩:=an h;refine se (R (rr aU) @List.map_replicate.{0,0}) [(0,.slice (a0.map nj)),(3,.ae 2 ((List.replicate (Int.toNat (a0.length:Int)) (bV.mk 0 0)).map dY))] ?_;refine ay aj λ_ fi bL _=>ws [(0,.slice (a0.map nj)),(3,.ae 2 ((List.replicate (Int.toNat (a0.length:Int)) (bV.mk 0 0)).map dY)),(4,.int .i64 0)] ?_;refine bk bL λkc _ dn dM _=>?_;show bn ah (.loop ?iA) _ _;have jb:∀n b4 bS,O_ a0 n b4 bS=some r->cN ah ?iA kc (ar [(0,.slice (a0.map nj)),(3,.ae 2 (b4.map dY)),(4,.int .i64 bS)]):=by
  refine c7 λ_ jc b4 bS h=>c6 dn λ_ dN eO bq=>ay eO λ_ ja _ cY=>ak ?_;refine aC h (λfm h=>?_) λfm h=>?_
  .refine aL (ja _ (inl (ay eO λ_ eH hT _=>bk hT λ_ hB _ _ _=>?_)));obtain⟨U,dO,h⟩:=an h;obtain⟨af,ef,h⟩:=an h;obtain⟨aI,cJ,h⟩:=an h;refine ik (b6 [(0,.slice (a0.map nj)),(3,.ae 2 ((List.set b4 (Int.toNat bS) af).map dY)),(4,.int .i64 bS)] (λP bg=>?_) ?_)
   ·(try simp only[aB.down,simprocAttr,dO,cJ,cb cJ,db,dk]);refine dq (ant U _ ef) (hK:= ?_);simp only[aB.down,simprocAttr,dO,cJ,cb cJ,db,dk];exact bP (R dO (R cJ (R (cb cJ) @db)))
   refine hB _ (eH _ (inl (wr [(0,.slice (a0.map nj)),(3,.ae 2 ((List.set b4 (Int.toNat bS) af).map dY)),(4,.int .i64 (i64.wrap (bS+1)))] ?_)));exact dN _ (inr ⟨_,bE rfl,jc (List.set b4 (Int.toNat bS) af) (i64.wrap (bS+1)) h⟩)
  .exact cX (cY 0 _ (bq 0 _ (dM _ (fi _ (inl (aO aj [.ae 2 (b4.map dY)]))))))
 exact dz h λn h=>jb n (List.replicate (Int.toNat (a0.length:Int)) (bV.mk 0 0)) 0 h
theorem anv (a0 r) (h:JQ a0=some r):aX ah 162 [.slice (a0.map lE)] (.ae 1 (r.map lG)) []:=by
 refine bC [0] [.tmp 2] Tryz.func162 c162 λbt aj br=>ak ?_;obtain⟨Ay,aU,h⟩:=an h;refine se (R (rr aU) @List.map_replicate.{0,0}) [(0,.slice (a0.map lE)),(3,.ae 1 (List.replicate (Int.toNat (a0.length:Int)) .bd))] ?_;refine ay aj λ_ fi bL _=>ws [(0,.slice (a0.map lE)),(3,.ae 1 (List.replicate (Int.toNat (a0.length:Int)) .bd)),(4,.int .i64 0)] ?_;refine bk bL λkc _ dn dM _=>?_;show bn ah (.loop ?iA) _ _;have jb:∀n b4 bS,Pa a0 n b4 bS=some r->cN ah ?iA kc (ar [(0,.slice (a0.map lE)),(3,.ae 1 (b4.map lG)),(4,.int .i64 bS)]):=by
  refine c7 λ_ jc b4 bS h=>c6 dn λ_ dN eO bq=>ay eO λ_ ja _ cY=>ak ?_;refine aC h (λfm h=>?_) λfm h=>?_
  .refine aL (ja _ (inl (ay eO λ_ eH hT _=>bk hT λ_ hB _ _ _=>?_)));obtain⟨U,dO,h⟩:=an h;obtain⟨af,ef,h⟩:=an h;obtain⟨aI,cJ,h⟩:=an h;refine ik (b6 [(0,.slice (a0.map lE)),(3,.ae 1 ((List.set b4 (Int.toNat bS) af).map lG)),(4,.int .i64 bS)] (λP bg=>?_) ?_)
   ·(try simp only[aB.down,simprocAttr,dO,cJ,cb cJ,db,dk]);refine dq (anu U _ ef) (hK:= ?_);simp only[aB.down,simprocAttr,dO,cJ,cb cJ,db,dk];exact bP (R dO (R cJ (R (cb cJ) @db)))
   refine hB _ (eH _ (inl (wr [(0,.slice (a0.map lE)),(3,.ae 1 ((List.set b4 (Int.toNat bS) af).map lG)),(4,.int .i64 (i64.wrap (bS+1)))] ?_)));exact dN _ (inr ⟨_,bE rfl,jc (List.set b4 (Int.toNat bS) af) (i64.wrap (bS+1)) h⟩)
  .exact cX (cY 0 _ (bq 0 _ (dM _ (fi _ (inl (aO aj [.ae 1 (b4.map lG)]))))))
 obtain⟨n,h⟩:=lO h;exact pH (inr ⟨_,hH [] rfl (cz (t:=0) (d:=.slice (a0.map lE)) rfl (gz (t:=3) (d:=.ae 1 (List.replicate (Int.toNat (a0.length:Int)) .bd)) (bM:=.ae 1 ((List.replicate (Int.toNat (a0.length:Int)) []).map lG)) rfl rfl (FF (u:=lG) (z:=[]) (.hv _) _) (by decide) (cz (t:=4) (d:=.int .i64 0) rfl (hI)))),jb n (List.replicate (Int.toNat (a0.length:Int)) []) 0 h⟩)
theorem anw (a0 r) (h:Gb a0=some r):aX ah 124 [kI a0] (jm r) []:=by
 refine bC [0] [.cell 2 149] Tryz.func124 c124 λbt aj br=>ak ?_;refine ak ?_;refine ak ?_;refine ak ?_;refine ak ?_;obtain⟨U,cd,h⟩:=an h;refine cS (anv a0.cl _ cd) _ ?_;exact aO aj [jm (ca.mk a0.Kind a0.Number a0.Name U)]
theorem anx (a0 r) (h:JR a0=some r):aX ah 88 [.slice (a0.map kI)] (.ae 4 (r.map jm)) []:=by
 refine bC [0] [.tmp 2] Tryz.func88 ajU λbt aj br=>ak ?_;obtain⟨Ay,aU,h⟩:=an h;refine se (R (rr aU) @List.map_replicate.{0,0}) [(0,.slice (a0.map kI)),(3,.ae 4 (List.replicate (Int.toNat (a0.length:Int)) (.agg [(.int .i64 0),(.int .i64 0),(.str []),.bd])))] ?_;refine ay aj λ_ fi bL _=>ws [(0,.slice (a0.map kI)),(3,.ae 4 (List.replicate (Int.toNat (a0.length:Int)) (.agg [(.int .i64 0),(.int .i64 0),(.str []),.bd]))),(4,.int .i64 0)] ?_;refine bk bL λkc _ dn dM _=>?_;show bn ah (.loop ?iA) _ _;have jb:∀n b4 bS,Pb a0 n b4 bS=some r->cN ah ?iA kc (ar [(0,.slice (a0.map kI)),(3,.ae 4 (b4.map jm)),(4,.int .i64 bS)]):=by
  refine c7 λ_ jc b4 bS h=>c6 dn λ_ dN eO bq=>ay eO λ_ ja _ cY=>ak ?_;refine aC h (λfm h=>?_) λfm h=>?_
  .refine aL (ja _ (inl (ay eO λ_ eH hT _=>bk hT λ_ hB _ _ _=>?_)));obtain⟨U,dO,h⟩:=an h;obtain⟨af,ef,h⟩:=an h;obtain⟨aI,cJ,h⟩:=an h;refine ik (b6 [(0,.slice (a0.map kI)),(3,.ae 4 ((List.set b4 (Int.toNat bS) af).map jm)),(4,.int .i64 bS)] (λP bg=>?_) ?_)
   ·(try simp only[aB.down,simprocAttr,dO,cJ,cb cJ,db,dk]);refine dq (anw U _ ef) (hK:= ?_);simp only[aB.down,simprocAttr,dO,cJ,cb cJ,db,dk];exact bP (R dO (R cJ (R (cb cJ) @db)))
   refine hB _ (eH _ (inl (wr [(0,.slice (a0.map kI)),(3,.ae 4 ((List.set b4 (Int.toNat bS) af).map jm)),(4,.int .i64 (i64.wrap (bS+1)))] ?_)));exact dN _ (inr ⟨_,bE rfl,jc (List.set b4 (Int.toNat bS) af) (i64.wrap (bS+1)) h⟩)
  .exact cX (cY 0 _ (bq 0 _ (dM _ (fi _ (inl (aO aj [.ae 4 (b4.map jm)]))))))
 obtain⟨n,h⟩:=lO h;exact pH (inr ⟨_,hH [] rfl (cz (t:=0) (d:=.slice (a0.map kI)) rfl (gz (t:=3) (d:=.ae 4 (List.replicate (Int.toNat (a0.length:Int)) (.agg [(.int .i64 0),(.int .i64 0),(.str []),.bd]))) (bM:=.ae 4 ((List.replicate (Int.toNat (a0.length:Int)) (ca.mk 0 0 ([]:azc) [])).map jm)) rfl rfl (FF (u:=jm) (z:=(ca.mk 0 0 ([]:azc) [])) (.agg (.cons (.refl _) (.cons (.refl _) (.cons (.refl _) (.cons (.hv _) (.nil)))))) _) (by decide) (cz (t:=4) (d:=.int .i64 0) rfl (hI)))),jb n (List.replicate (Int.toNat (a0.length:Int)) (ca.mk 0 0 ([]:azc) [])) 0 h⟩)
theorem anz (a0 r) (h:Gc a0=some r):aX ah 61 [j_ a0] (hq r) []:=by
 refine bC [0] [.cell 2 110] Tryz.func61 ajV λbt aj br=>ak ?_;refine ak ?_;refine ak ?_;refine ak ?_;obtain⟨U,cv,h⟩:=an h;refine cS (anx a0.Body _ cv) _ ?_;exact aO aj [hq (a6.mk a0.Name a0.dU U)]
theorem anA (a0 r) (h:JS a0=some r):aX ah 30 [.slice (a0.map j_)] (.ae 3 (r.map hq)) []:=by
 refine bC [0] [.tmp 2] Tryz.func30 ajW λbt aj br=>ak ?_;obtain⟨Ay,aU,h⟩:=an h;refine se (R (rr aU) @List.map_replicate.{0,0}) [(0,.slice (a0.map j_)),(3,.ae 3 (List.replicate (Int.toNat (a0.length:Int)) (.agg [(.str []),(.int .i64 0),.bd])))] ?_;refine ay aj λ_ fi bL _=>ws [(0,.slice (a0.map j_)),(3,.ae 3 (List.replicate (Int.toNat (a0.length:Int)) (.agg [(.str []),(.int .i64 0),.bd]))),(4,.int .i64 0)] ?_;refine bk bL λkc _ dn dM _=>?_;show bn ah (.loop ?iA) _ _;have jb:∀n b4 bS,Pc a0 n b4 bS=some r->cN ah ?iA kc (ar [(0,.slice (a0.map j_)),(3,.ae 3 (b4.map hq)),(4,.int .i64 bS)]):=by
  refine c7 λ_ jc b4 bS h=>c6 dn λ_ dN eO bq=>ay eO λ_ ja _ cY=>ak ?_;refine aC h (λfm h=>?_) λfm h=>?_
  .refine aL (ja _ (inl (ay eO λ_ eH hT _=>bk hT λ_ hB _ _ _=>?_)));obtain⟨U,dO,h⟩:=an h;obtain⟨af,ef,h⟩:=an h;obtain⟨aI,cJ,h⟩:=an h;refine ik (b6 [(0,.slice (a0.map j_)),(3,.ae 3 ((List.set b4 (Int.toNat bS) af).map hq)),(4,.int .i64 bS)] (λP bg=>?_) ?_)
   ·(try simp only[aB.down,simprocAttr,dO,cJ,cb cJ,db,dk]);refine dq (anz U _ ef) (hK:= ?_);simp only[aB.down,simprocAttr,dO,cJ,cb cJ,db,dk];exact bP (R dO (R cJ (R (cb cJ) @db)))
   refine hB _ (eH _ (inl (wr [(0,.slice (a0.map j_)),(3,.ae 3 ((List.set b4 (Int.toNat bS) af).map hq)),(4,.int .i64 (i64.wrap (bS+1)))] ?_)));exact dN _ (inr ⟨_,bE rfl,jc (List.set b4 (Int.toNat bS) af) (i64.wrap (bS+1)) h⟩)
  .exact cX (cY 0 _ (bq 0 _ (dM _ (fi _ (inl (aO aj [.ae 3 (b4.map hq)]))))))
 obtain⟨n,h⟩:=lO h;exact pH (inr ⟨_,hH [] rfl (cz (t:=0) (d:=.slice (a0.map j_)) rfl (gz (t:=3) (d:=.ae 3 (List.replicate (Int.toNat (a0.length:Int)) (.agg [(.str []),(.int .i64 0),.bd]))) (bM:=.ae 3 ((List.replicate (Int.toNat (a0.length:Int)) (a6.mk ([]:azc) 0 [])).map hq)) rfl rfl (FF (u:=hq) (z:=(a6.mk ([]:azc) 0 [])) (.agg (.cons (.refl _) (.cons (.refl _) (.cons (.hv _) (.nil))))) _) (by decide) (cz (t:=4) (d:=.int .i64 0) rfl (hI)))),jb n (List.replicate (Int.toNat (a0.length:Int)) (a6.mk ([]:azc) 0 [])) 0 h⟩)
theorem DQ (a0 r) (h:wi a0=some r):aX ah 9 [.slice (a0.map aT)] (.ae 1 (r.map aT)) []:=by
 refine bC [0] [.tmp 2] Tryz.func9 c9 λbt aj br=>ak ?_;obtain⟨Ly,aU,h⟩:=an h;refine se (R (rr aU) @List.map_replicate.{0,0}) [(0,.slice (a0.map aT)),(3,.ae 1 ((List.replicate (Int.toNat (a0.length:Int)) 0).map aT))] ?_;refine ay aj λ_ fi bL _=>ws [(0,.slice (a0.map aT)),(3,.ae 1 ((List.replicate (Int.toNat (a0.length:Int)) 0).map aT)),(4,.int .i64 0)] ?_;refine bk bL λkc _ dn dM _=>?_;show bn ah (.loop ?iA) _ _;have jb:∀n b4 bS,Pd a0 n b4 bS=some r->cN ah ?iA kc (ar [(0,.slice (a0.map aT)),(3,.ae 1 (b4.map aT)),(4,.int .i64 bS)]):=by
  refine c7 λ_ jc b4 bS h=>c6 dn λ_ dN eO bq=>ay eO λ_ ja _ cY=>ak ?_;refine aC h (λfm h=>?_) λfm h=>?_
  .refine aL (ja _ (inl (ay eO λ_ eH hT _=>bk hT λ_ hB _ _ _=>?_)));obtain⟨U,dO,h⟩:=an h;obtain⟨af,ef,h⟩:=an h;refine ik (b6 [(0,.slice (a0.map aT)),(3,.ae 1 ((List.set b4 (Int.toNat bS) U).map aT)),(4,.int .i64 bS)] (λP bg=>?_) ?_)
   .simp only[aB.down,simprocAttr,dO,ef,cb ef,db,dk];exact bP (R dO (R ef (R (cb ef) @db)))
   refine hB _ (eH _ (inl (wr [(0,.slice (a0.map aT)),(3,.ae 1 ((List.set b4 (Int.toNat bS) U).map aT)),(4,.int .i64 (i64.wrap (bS+1)))] ?_)));exact dN _ (inr ⟨_,bE rfl,jc (List.set b4 (Int.toNat bS) U) (i64.wrap (bS+1)) h⟩)
  .exact cX (cY 0 _ (bq 0 _ (dM _ (fi _ (inl (aO aj [.ae 1 (b4.map aT)]))))))
 exact dz h λn h=>jb n (List.replicate (Int.toNat (a0.length:Int)) 0) 0 h
theorem anB (a0 r) (h:Gd a0=some r):aX ah 62 [ka a0] (hM r) []:=by
 refine bC [0] [.cell 2 112] Tryz.func62 ajX λbt aj br=>ak ?_;refine ak ?_;refine ak ?_;obtain⟨U,cZ,h⟩:=an h;refine cS (DQ a0.bK _ cZ) _ ?_;exact aO aj [hM (cV.mk a0.cA U)]
theorem anC (a0 r) (h:JT a0=some r):aX ah 31 [.slice (a0.map ka)] (.ae 2 (r.map hM)) []:=by
 refine bC [0] [.tmp 2] Tryz.func31 c31 λbt aj br=>ak ?_;obtain⟨Ay,aU,h⟩:=an h;refine se (R (rr aU) @List.map_replicate.{0,0}) [(0,.slice (a0.map ka)),(3,.ae 2 (List.replicate (Int.toNat (a0.length:Int)) (.agg [(.int .i64 0),.bd])))] ?_;refine ay aj λ_ fi bL _=>ws [(0,.slice (a0.map ka)),(3,.ae 2 (List.replicate (Int.toNat (a0.length:Int)) (.agg [(.int .i64 0),.bd]))),(4,.int .i64 0)] ?_;refine bk bL λkc _ dn dM _=>?_;show bn ah (.loop ?iA) _ _;have jb:∀n b4 bS,Pe a0 n b4 bS=some r->cN ah ?iA kc (ar [(0,.slice (a0.map ka)),(3,.ae 2 (b4.map hM)),(4,.int .i64 bS)]):=by
  refine c7 λ_ jc b4 bS h=>c6 dn λ_ dN eO bq=>ay eO λ_ ja _ cY=>ak ?_;refine aC h (λfm h=>?_) λfm h=>?_
  .refine aL (ja _ (inl (ay eO λ_ eH hT _=>bk hT λ_ hB _ _ _=>?_)));obtain⟨U,dO,h⟩:=an h;obtain⟨af,ef,h⟩:=an h;obtain⟨aI,cJ,h⟩:=an h;refine ik (b6 [(0,.slice (a0.map ka)),(3,.ae 2 ((List.set b4 (Int.toNat bS) af).map hM)),(4,.int .i64 bS)] (λP bg=>?_) ?_)
   ·(try simp only[aB.down,simprocAttr,dO,cJ,cb cJ,db,dk]);refine dq (anB U _ ef) (hK:= ?_);simp only[aB.down,simprocAttr,dO,cJ,cb cJ,db,dk];exact bP (R dO (R cJ (R (cb cJ) @db)))
   refine hB _ (eH _ (inl (wr [(0,.slice (a0.map ka)),(3,.ae 2 ((List.set b4 (Int.toNat bS) af).map hM)),(4,.int .i64 (i64.wrap (bS+1)))] ?_)));exact dN _ (inr ⟨_,bE rfl,jc (List.set b4 (Int.toNat bS) af) (i64.wrap (bS+1)) h⟩)
  .exact cX (cY 0 _ (bq 0 _ (dM _ (fi _ (inl (aO aj [.ae 2 (b4.map hM)]))))))
 obtain⟨n,h⟩:=lO h;exact pH (inr ⟨_,hH [] rfl (cz (t:=0) (d:=.slice (a0.map ka)) rfl (gz (t:=3) (d:=.ae 2 (List.replicate (Int.toNat (a0.length:Int)) (.agg [(.int .i64 0),.bd]))) (bM:=.ae 2 ((List.replicate (Int.toNat (a0.length:Int)) (cV.mk 0 [])).map hM)) rfl rfl (FF (u:=hM) (z:=(cV.mk 0 [])) (.agg (.cons (.refl _) (.cons (.hv _) (.nil)))) _) (by decide) (cz (t:=4) (d:=.int .i64 0) rfl (hI)))),jb n (List.replicate (Int.toNat (a0.length:Int)) (cV.mk 0 [])) 0 h⟩)
theorem anD (a0 r) (h:Ge a0=some r):aX ah 63 [jJ a0] (bI r) []:=by
 refine bC [0] [.cell 2 114] Tryz.func63 ajY λbt aj br=>ak ?_;refine ak ?_;refine ak ?_;refine ak ?_;refine ak ?_;exact aO aj [bI (bZ.mk a0.Left a0.cH a0.Result)]
theorem anE (a0 r) (h:JU a0=some r):aX ah 32 [.slice (a0.map jJ)] (.ae 3 (r.map bI)) []:=by
 refine bC [0] [.tmp 2] Tryz.func32 ajZ λbt aj br=>ak ?_;obtain⟨Ay,aU,h⟩:=an h;refine se (R (rr aU) @List.map_replicate.{0,0}) [(0,.slice (a0.map jJ)),(3,.ae 3 ((List.replicate (Int.toNat (a0.length:Int)) (bZ.mk ([]:azc) ([]:azc) ([]:azc))).map bI))] ?_;refine ay aj λ_ fi bL _=>ws [(0,.slice (a0.map jJ)),(3,.ae 3 ((List.replicate (Int.toNat (a0.length:Int)) (bZ.mk ([]:azc) ([]:azc) ([]:azc))).map bI)),(4,.int .i64 0)] ?_;refine bk bL λkc _ dn dM _=>?_;show bn ah (.loop ?iA) _ _;have jb:∀n b4 bS,Pf a0 n b4 bS=some r->cN ah ?iA kc (ar [(0,.slice (a0.map jJ)),(3,.ae 3 (b4.map bI)),(4,.int .i64 bS)]):=by
  refine c7 λ_ jc b4 bS h=>c6 dn λ_ dN eO bq=>ay eO λ_ ja _ cY=>ak ?_;refine aC h (λfm h=>?_) λfm h=>?_
  .refine aL (ja _ (inl (ay eO λ_ eH hT _=>bk hT λ_ hB _ _ _=>?_)));obtain⟨U,dO,h⟩:=an h;obtain⟨af,ef,h⟩:=an h;obtain⟨aI,cJ,h⟩:=an h;refine ik (b6 [(0,.slice (a0.map jJ)),(3,.ae 3 ((List.set b4 (Int.toNat bS) af).map bI)),(4,.int .i64 bS)] (λP bg=>?_) ?_)
   ·(try simp only[aB.down,simprocAttr,dO,cJ,cb cJ,db,dk]);refine dq (anD U _ ef) (hK:= ?_);simp only[aB.down,simprocAttr,dO,cJ,cb cJ,db,dk];exact bP (R dO (R cJ (R (cb cJ) @db)))
   refine hB _ (eH _ (inl (wr [(0,.slice (a0.map jJ)),(3,.ae 3 ((List.set b4 (Int.toNat bS) af).map bI)),(4,.int .i64 (i64.wrap (bS+1)))] ?_)));exact dN _ (inr ⟨_,bE rfl,jc (List.set b4 (Int.toNat bS) af) (i64.wrap (bS+1)) h⟩)
  .exact cX (cY 0 _ (bq 0 _ (dM _ (fi _ (inl (aO aj [.ae 3 (b4.map bI)]))))))
 exact dz h λn h=>jb n (List.replicate (Int.toNat (a0.length:Int)) (bZ.mk ([]:azc) ([]:azc) ([]:azc))) 0 h
theorem ZT (a0 r) (h:Gf a0=some r):aX ah 33 [.slice (a0.map aN)] (.ae 1 (r.map aN)) []:=by
 refine bC [0] [.tmp 2] Tryz.func33 aj0 λbt aj br=>ak ?_;obtain⟨Ly,aU,h⟩:=an h;refine se (R (rr aU) @List.map_replicate.{0,0}) [(0,.slice (a0.map aN)),(3,.ae 1 ((List.replicate (Int.toNat (a0.length:Int)) ([]:azc)).map aN))] ?_;refine ay aj λ_ fi bL _=>ws [(0,.slice (a0.map aN)),(3,.ae 1 ((List.replicate (Int.toNat (a0.length:Int)) ([]:azc)).map aN)),(4,.int .i64 0)] ?_;refine bk bL λkc _ dn dM _=>?_;show bn ah (.loop ?iA) _ _;have jb:∀n b4 bS,Pg a0 n b4 bS=some r->cN ah ?iA kc (ar [(0,.slice (a0.map aN)),(3,.ae 1 (b4.map aN)),(4,.int .i64 bS)]):=by
  refine c7 λ_ jc b4 bS h=>c6 dn λ_ dN eO bq=>ay eO λ_ ja _ cY=>ak ?_;refine aC h (λfm h=>?_) λfm h=>?_
  .refine aL (ja _ (inl (ay eO λ_ eH hT _=>bk hT λ_ hB _ _ _=>?_)));obtain⟨U,dO,h⟩:=an h;obtain⟨af,ef,h⟩:=an h;refine ik (b6 [(0,.slice (a0.map aN)),(3,.ae 1 ((List.set b4 (Int.toNat bS) U).map aN)),(4,.int .i64 bS)] (λP bg=>?_) ?_)
   .simp only[aB.down,simprocAttr,dO,ef,cb ef,db,dk];exact bP (R dO (R ef (R (cb ef) @db)))
   refine hB _ (eH _ (inl (wr [(0,.slice (a0.map aN)),(3,.ae 1 ((List.set b4 (Int.toNat bS) U).map aN)),(4,.int .i64 (i64.wrap (bS+1)))] ?_)));exact dN _ (inr ⟨_,bE rfl,jc (List.set b4 (Int.toNat bS) U) (i64.wrap (bS+1)) h⟩)
  .exact cX (cY 0 _ (bq 0 _ (dM _ (fi _ (inl (aO aj [.ae 1 (b4.map aN)]))))))
 exact dz h λn h=>jb n (List.replicate (Int.toNat (a0.length:Int)) ([]:azc)) 0 h
theorem Lz (a0 r) (h:yd a0=some r):aX ah 7 [lF a0] (q8 r) []:=by
 refine bC [0] [.cell 2 39] Tryz.func7 NM λbt aj br=>ak ?_;refine ak ?_;obtain⟨U,cc,h⟩:=an h;refine cS (anA a0.cw _ cc) _ ?_;obtain⟨af,cv,h⟩:=an h;refine cS (anC a0.ch _ cv) _ ?_;obtain⟨aI,fC,h⟩:=an h;refine cS (anE a0.b_ _ fC) _ ?_;obtain⟨a1,jh,h⟩:=an h;refine cS (ZT a0.cD _ jh) _ ?_;obtain⟨ba,dB,h⟩:=an h;refine cS (ZT a0.cB _ dB) _ ?_;exact aO aj [q8 (cL.mk U af aI a1 ba)]
theorem anF (a0 r) (h:Gg a0=some r):aX ah 34 [ir a0] (cQ r) []:=by
 refine bC [0] [.cell 2 71] Tryz.func34 HB λbt aj br=>ak ?_;refine ak ?_;refine ak ?_;refine ak ?_;obtain⟨U,cv,h⟩:=an h;refine cS (DQ a0.bK _ cv) _ ?_;exact aO aj [cQ (a8.mk a0.cA a0.Part U)]
theorem LA (a0 r) (h:zN a0=some r):aX ah 8 [.slice (a0.map ir)] (.ae 3 (r.map cQ)) []:=by
 refine bC [0] [.tmp 2] Tryz.func8 iA λbt aj br=>ak ?_;obtain⟨Ay,aU,h⟩:=an h;refine se (R (rr aU) @List.map_replicate.{0,0}) [(0,.slice (a0.map ir)),(3,.ae 3 (List.replicate (Int.toNat (a0.length:Int)) (.agg [(.int .i64 0),(.int .i64 0),.bd])))] ?_;refine ay aj λ_ fi bL _=>ws [(0,.slice (a0.map ir)),(3,.ae 3 (List.replicate (Int.toNat (a0.length:Int)) (.agg [(.int .i64 0),(.int .i64 0),.bd]))),(4,.int .i64 0)] ?_;refine bk bL λkc _ dn dM _=>?_;show bn ah (.loop ?iA) _ _;have jb:∀n b4 bS,Ph a0 n b4 bS=some r->cN ah ?iA kc (ar [(0,.slice (a0.map ir)),(3,.ae 3 (b4.map cQ)),(4,.int .i64 bS)]):=by
  refine c7 λ_ jc b4 bS h=>c6 dn λ_ dN eO bq=>ay eO λ_ ja _ cY=>ak ?_;refine aC h (λfm h=>?_) λfm h=>?_
  .refine aL (ja _ (inl (ay eO λ_ eH hT _=>bk hT λ_ hB _ _ _=>?_)));obtain⟨U,dO,h⟩:=an h;obtain⟨af,ef,h⟩:=an h;obtain⟨aI,cJ,h⟩:=an h;refine ik (b6 [(0,.slice (a0.map ir)),(3,.ae 3 ((List.set b4 (Int.toNat bS) af).map cQ)),(4,.int .i64 bS)] (λP bg=>?_) ?_)
   ·(try simp only[aB.down,simprocAttr,dO,cJ,cb cJ,db,dk]);refine dq (anF U _ ef) (hK:= ?_);simp only[aB.down,simprocAttr,dO,cJ,cb cJ,db,dk];exact bP (R dO (R cJ (R (cb cJ) @db)))
   refine hB _ (eH _ (inl (wr [(0,.slice (a0.map ir)),(3,.ae 3 ((List.set b4 (Int.toNat bS) af).map cQ)),(4,.int .i64 (i64.wrap (bS+1)))] ?_)));exact dN _ (inr ⟨_,bE rfl,jc (List.set b4 (Int.toNat bS) af) (i64.wrap (bS+1)) h⟩)
  .exact cX (cY 0 _ (bq 0 _ (dM _ (fi _ (inl (aO aj [.ae 3 (b4.map cQ)]))))))
 obtain⟨n,h⟩:=lO h;exact pH (inr ⟨_,hH [] rfl (cz (t:=0) (d:=.slice (a0.map ir)) rfl (gz (t:=3) (d:=.ae 3 (List.replicate (Int.toNat (a0.length:Int)) (.agg [(.int .i64 0),(.int .i64 0),.bd]))) (bM:=.ae 3 ((List.replicate (Int.toNat (a0.length:Int)) (a8.mk 0 0 [])).map cQ)) rfl rfl (FF (u:=cQ) (z:=(a8.mk 0 0 [])) (.agg (.cons (.refl _) (.cons (.refl _) (.cons (.hv _) (.nil))))) _) (by decide) (cz (t:=4) (d:=.int .i64 0) rfl (hI)))),jb n (List.replicate (Int.toNat (a0.length:Int)) (a8.mk 0 0 [])) 0 h⟩)
theorem RX (a0 r) (h:Gh a0=some r):aX ah 159 [.int .u8 (a0.toNat:Int)] (.bool r) []:=by
 refine bC [0] [.tmp 2] Tryz.func159 c159 λbt aj br=>ak ?_;refine n7 (decide (97<=(a0.toNat:Int))) [(2,.bool ((decide (97<=(a0.toNat:Int)))&&(decide ((a0.toNat:Int)<=122))))] ?_;exact cP aj [.bool ((decide (97<=(a0.toNat:Int)))&&(decide ((a0.toNat:Int)<=122)))]
theorem RY (a0 r) (h:Ce a0=some r):aX ah 160 [.int .u8 (a0.toNat:Int)] (.bool r) []:=by
 refine bC [0] [.tmp 2] Tryz.func160 c160 λbt aj br=>ak ?_;refine n7 (decide (48<=(a0.toNat:Int))) [(2,.bool ((decide (48<=(a0.toNat:Int)))&&(decide ((a0.toNat:Int)<=57))))] ?_;exact cP aj [.bool ((decide (48<=(a0.toNat:Int)))&&(decide ((a0.toNat:Int)<=57)))]
theorem DR (a0 r) (h:ye a0=some r):aX ah 119 [.str a0] (.bool r) []:=by
 refine bC [0] [.tmp 2] Tryz.func119 c119 λbt aj br=>ak ?_;refine ay aj λ_ bD bf af=>?_;rcases dH h with⟨bT,h⟩|⟨bT,h⟩
 .refine c8 bT _ ?_;refine il rfl ?_;exact aO bf [.bool false]
 .rcases dH h with⟨dM,h⟩|⟨dM,h⟩
  .refine c8 (R bT dM) _ ?_;refine il rfl ?_;exact aO bf [.bool false]
  .obtain⟨U,fC,h⟩:=an h;obtain⟨af,jt,h⟩:=an h;refine eQ (R bT (R dM fC)) (RX U _ jt) _ ?_;refine aC h (λfm h=>?_) λfm h=>?_
   .exact aO bf [.bool false]
   .refine aL (bD _ (inl (ay aj λ_ hB l4 _=>ak ?_)));refine bk l4 λHG _ er hd _=>?_;show bn ah (.loop ?hc) _ _;have hf:∀n ep,Gi a0 n ep=some r->cN ah ?hc HG (ar [(0,.str a0),(3,.int .i64 ep)]):=by
     refine c7 λ_ gU ep h=>c6 er λ_ fJ gK gB=>ay gK λ_ lH _ jz=>ak ?_;refine aC h (λh7 h=>?_) λh7 h=>?_
     .refine aL (lH _ (inl (ay gK λ_ qq yC _=>bk yC λ_ LB RZ _ _=>?_)));obtain⟨aI,fE,h⟩:=an h;obtain⟨a1,iu,h⟩:=an h;rcases dH h with⟨h0,h⟩|⟨h0,h⟩
      .obtain⟨ba,iv,h⟩:=an h;refine dp (b6 [(0,.str a0),(3,.int .i64 ep),(34,.bool (!ba))] (λP bg=>?_) ?_)
       ·(try simp only[aB.down,simprocAttr,fE,(fM h0)]);refine dq (RX aI _ iu) (hK:= ?_);simp only[aB.down,simprocAttr,fE,(fM h0)];refine hz (RY aI _ iv) (hK:= ?_);simp only[aB.down,simprocAttr,fE,(fM h0)];exact bP (R fE (fM h0))
       refine aC h (λjL h=>?_) λjL h=>?_
       .exact aO RZ [.bool false]
       .refine aL (LB _ (qq _ (inl (dD ?_))));exact fJ _ (inr ⟨_,bE rfl,gU (i64.wrap (ep+1)) h⟩)
      .refine eQ (R fE (bN h0)) (RX aI _ iu) _ ?_;refine ot rfl ?_;refine aL (LB _ (qq _ (inl (dD ?_))));exact fJ _ (inr ⟨_,bE rfl,gU (i64.wrap (ep+1)) h⟩)
     .exact cX (jz 0 _ (gB 0 _ (hd _ (hB _ (inl (aO aj [.bool true]))))))
    exact dz h λn h=>hf n 0 h
theorem o9 (a0 J a2 r) (h:k8 a0 J a2=some r):aX ah 29 [.int .i64 a0,.int .i64 J,.int .i64 a2] (.bool r) []:=by
 refine bC [0,1,2] [.tmp 6] Tryz.func29 aj1 λbt aj br=>ak ?_;refine n7 (decide (J<=a0)) [(6,.bool ((decide (J<=a0))&&(decide (a0<=a2))))] ?_;exact cP aj [.bool ((decide (J<=a0))&&(decide (a0<=a2)))]
theorem ZU (a0 r) (h:Gk a0=some r):aX ah 157 [.ref (ey a0)] (.int .i64 r) []:=by
 refine bC [0] [.tmp 2] Tryz.func157 c157 λbt aj br=>ak ?_;refine ay aj λ_ bD bf _=>ak ?_;refine bk bf λeM fi bL _ _=>?_;show bn ah (.seq _ ?kJ) _ _;have Az:∀j6,Gj a0 j6=some r->bn ah ?kJ eM (ar [(6,.int .i64 a0.Kind),(7,.bool j6)]):=by
  intro j6 h;refine aC h (λdM h=>?_) λdM h=>?_
  .exact aO bL [.int .i64 1]
  .refine ak ?_;refine aC h (λe7 h=>?_) λe7 h=>?_
   .exact aO bL [.int .i64 2]
   .exact aL (fi _ (bD _ (inl (aO aj [.int .i64 0]))))
 refine ay bL λ_ dP _ _=>ak ?_;refine aC h (λfh h=>?_) λfh h=>?_
 .simp only[fh,HD.down];exact aL (dP _ (inr ⟨_,bE rfl,Az true h⟩))
 .refine ak ?_;refine aC h (λe2 h=>?_) λe2 h=>?_
  .simp only[e2,HD.down];exact aL (dP _ (inr ⟨_,bE rfl,Az true h⟩))
  .refine dD ?_;exact dP _ (inr ⟨_,bE rfl,Az (a0.Kind==4) h⟩)
theorem anG (a0 r) (h:JV a0=some r):aX ah 188 [.slice (a0.map ey)] (.bool r) []:=by
 refine bC [0] [.tmp 2] Tryz.func188 aj2 λbt aj br=>ak ?_;refine ay aj λ_ bD bf af=>n7 ((a0.length:Int)==0) [(0,.slice (a0.map ey)),(12,.bool (((a0.length:Int)==0)||(decide (20<(a0.length:Int)))))] ?_;refine aC h (λbT h=>?_) λbT h=>?_
 .exact aO bf [.bool false]
 .refine aL (bD _ (inl (ak ?_)));refine ay aj λ_ dN eO _=>ak ?_;refine bk eO λkb _ b8 e7 _=>?_;show bn ah (.loop ?kJ) _ _;have lb:∀n hb hA,Cf a0 n hb hA=some r->cN ah ?kJ kb (ar [(0,.slice (a0.map ey)),(3,.int .i64 hb),(4,.int .i64 hA)]):=by
   refine c7 λ_ ld hb hA h=>c6 b8 λ_ b2 cM cp=>ay cM λ_ eH _ fc=>ak ?_;refine aC h (λfh h=>?_) λfh h=>?_
   .refine aL (eH _ (inl (ay cM λ_ eT er _=>bk er λ_ fJ gK _ _=>ay gK λ_ lH n8 _=>ak ?_)));refine aC h (λh7 h=>?_) λh7 h=>?_
    .exact aO n8 [.bool false]
    .refine aL (lH _ (inl ?_));obtain⟨U,gF,h⟩:=an h;obtain⟨af,fE,h⟩:=an h;refine Aw gF (ZU U _ fE) _ ?_;refine fJ _ (eT _ (inl (dD ?_)));exact b2 _ (inr ⟨_,bE rfl,ld (i64.wrap (hb+(i64.wrap (af-1)))) (i64.wrap (hA+1)) h⟩)
   .exact cX (fc 0 _ (cp 0 _ (e7 _ (dN _ (inl (aO aj [.bool (hb==0)]))))))
  exact dz h λn h=>lb n 1 0 h
theorem anH (a0 r) (h:Pl a0=some r):aX ah 222 [.ref (ey a0)] (.bool r) []:=by
 refine bC [0] [.tmp 2] Tryz.func222 c222 λbt aj br=>ak ?_;refine ay aj λ_ bD bf _=>ak ?_;refine bk bf λeM fi bL _ _=>?_;show bn ah (.seq _ ?c12) _ _;have si:∀Gl,JW a0 Gl=some r->bn ah ?c12 eM (ar [(0,.ref (ey a0)),(6,.int .i64 a0.Kind),(7,.bool Gl)]):=by
  intro Gl h;refine aC h (λdM h=>?_) λdM h=>?_
  .refine dp (b6 [(2,.bool (((a0.Number==0)&&(a0.Name==([]:azc)))&&((a0.cl.length:Int)==0)))] (λP bg=>?_) ?_)
   ·(rcases Bool.eq_false_or_eq_true (a0.Number==0)with yD|yD)<;>(rcases Bool.eq_false_or_eq_true (a0.Name==([]:azc))with sj|sj)<;>
     (simp only[aB.down,simprocAttr,yD,sj]
      exact bP (R yD sj))
   exact cP bL [.bool (((a0.Number==0)&&(a0.Name==([]:azc)))&&((a0.cl.length:Int)==0))]
  .refine ak ?_;refine aC h (λoL h=>?_) λoL h=>?_
   .exact aO bL [.bool (a0.Number==0)]
   .refine ak ?_;refine aC h (λhd h=>?_) λhd h=>?_
    .refine n7 (a0.Number==0) [(2,.bool ((a0.Number==0)&&(a0.Name==([]:azc))))] ?_;exact cP bL [.bool ((a0.Number==0)&&(a0.Name==([]:azc)))]
    .refine ak ?_;refine aC h (λjM h=>?_) λjM h=>?_
     .refine n7 (a0.Name==([]:azc)) [(2,.bool ((a0.Name==([]:azc))&&((a0.cl.length:Int)==0)))] ?_;exact cP bL [.bool ((a0.Name==([]:azc))&&((a0.cl.length:Int)==0))]
     .refine ak ?_;refine aC h (λgr h=>?_) λgr h=>?_
      .exact aO bL [.bool (a0.Name==([]:azc))]
      .exact aL (fi _ (bD _ (inl (aO aj [.bool false]))))
 refine ay bL λ_ dP _ _=>ak ?_;refine aC h (λh0 h=>?_) λh0 h=>?_
 .simp only[h0,HD.down];exact aL (dP _ (inr ⟨_,bE rfl,si true h⟩))
 .refine dD ?_;exact dP _ (inr ⟨_,bE rfl,si (a0.Kind==2) h⟩)
theorem ZV (a0 J r) (h:Gm a0 J=some r):aX ah 116 [.slice (a0.map ey),.int .i64 J] (.int .i64 r) []:=by
 refine bC [0] [.tmp 4] Tryz.func116 c116 λbt aj br=>ak ?_;refine ak ?_;refine ay aj λ_ fe dA _=>bk dA λeM _ bL bT _=>?_;show bn ah (.loop ?eR) _ _;have eZ:∀n a7 aK,Cg a0 n a7 aK=some r->cN ah ?eR eM (ar [(0,.slice (a0.map ey)),(1,.int .i64 a7),(5,.int .i64 aK)]):=by
  refine c7 λ_ eI a7 aK h=>c6 bL λ_ dP cG ba=>ay cG λ_ cT _ aZ=>ak ?_;refine aC h (λcm h=>?_) λcm h=>?_
  .refine aL (cT _ (inl (bk cG λ_ cF _ _ _=>?_)));obtain⟨U,kD,h⟩:=an h;obtain⟨af,dB,h⟩:=an h;refine eQ kD (ZU U _ dB) _ ?_;refine dD ?_;exact cF _ (dP _ (inr ⟨_,bE rfl,eI (i64.wrap (a7+1)) (i64.wrap (aK+(i64.wrap (af-1)))) h⟩))
  .exact cX (aZ 0 _ (ba 0 _ (bT _ (fe _ (inl (aO aj [.int .i64 a7]))))))
 exact dz h λn h=>eZ n J 1 h
theorem R0 (a0 J r) (h:wj a0 J=some r):aX ah 112 [.ref (bl a0),.int .i64 J] (.int .i64 r) []:=by
 refine bC [0,1] [.tmp 4] Tryz.func112 aj3 λbt aj br=>ak ?_;refine ak ?_;refine ay aj λ_ fe dA _=>ak ?_;refine bk dA λra _ cG da _=>?_;show bn ah (.loop ?iA) _ _;have jb:∀n fF j7,zO a0 J n fF j7=some r->cN ah ?iA ra (ar [(0,.ref (bl a0)),(1,.int .i64 J),(5,.int .i64 fF),(6,.int .i64 j7)]):=by
  refine c7 λm8 jc fF j7 h=>c6 cG λkc cT dn aZ=>ay dn λ_ dN _ bq=>ak ?_;refine aC h (λe7 h=>?_) λe7 h=>?_
  .refine aL (dN _ (inl ?_));show bn ah (.seq _ ?RA) _ _;have wO:∀Ch Ci,Gn (zO a0 J m8) a0 J Ch Ci=some r->bn ah ?RA kc (ar [(0,.ref (bl a0)),(1,.int .i64 J),(5,.int .i64 Ch),(6,.int .i64 Ci)]):=by
    intro Ch Ci h;refine dD ?_;exact cT _ (inr ⟨_,bE rfl,jc Ch (i64.wrap (Ci+1)) h⟩)
   refine ay dn λ_ b2 cM _=>bk cM λ_ hB _ _ _=>?_;obtain⟨U,dO,h⟩:=an h;rcases dH h with⟨e2,h⟩|⟨e2,h⟩
   .obtain⟨af,cJ,h⟩:=an h;refine eQ (R dO e2) (ZV a0.Body j7 _ cJ) _ ?_;refine aC h (λjM h=>?_) λjM h=>?_
    .refine dD ?_;exact hB _ (b2 _ (inr ⟨_,bE rfl,wO (i64.wrap (fF+1)) j7 h⟩))
    .exact aL (hB _ (b2 _ (inr ⟨_,bE rfl,wO fF j7 h⟩)))
   .refine c8 (R dO e2) _ ?_;refine ot rfl ?_;exact aL (hB _ (b2 _ (inr ⟨_,bE rfl,wO fF j7 h⟩)))
  .exact cX (bq 0 _ (aZ 0 _ (da _ (fe _ (inl (aO aj [.int .i64 fF]))))))
 exact dz h λn h=>jb n a0.dU 0 h
theorem anI (a0 J r) (h:JX a0 J=some r):aX ah 251 [.ref (dY a0),.int .i64 J] (.bool r) []:=by
 refine bC [0,1] [.tmp 4] Tryz.func251 aj4 λbt aj br=>ak ?_;refine ay aj λ_ bD bf af=>ak ?_;refine bk bf λ_ fi bL _ _=>ak ?_;refine aC h (λdM h=>?_) λdM h=>?_
 .obtain⟨U,fC,h⟩:=an h;refine cS (o9 a0.Value 0 63 _ fC) _ ?_;exact cP bL [.bool U]
 .refine ak ?_;refine aC h (λfm h=>?_) λfm h=>?_
  .obtain⟨af,dB,h⟩:=an h;refine cS (o9 a0.Value 0 (i64.wrap (J-1)) _ dB) _ ?_;exact cP bL [.bool af]
  .refine ak ?_;refine aC h (λhd h=>?_) λhd h=>?_
   .obtain⟨aI,cJ,h⟩:=an h;refine cS (o9 a0.Value 0 8 _ cJ) _ ?_;exact cP bL [.bool aI]
   .refine ak ?_;refine aC h (λh7 h=>?_) λh7 h=>?_
    .exact aO bL [.bool (a0.Value==0)]
    .exact aL (fi _ (bD _ (inl (aO aj [.bool false]))))
theorem ZW (a0 r) (h:JY a0=some r):aX ah 224 [.ref (dY a0)] (.int .i64 r) []:=by
 refine bC [0] [.tmp 2] Tryz.func224 aj5 λbt aj br=>ak ?_;refine ay aj λ_ bD bf _=>ak ?_;refine bk bf λ_ fi bL _ _=>ak ?_;refine aC h (λdM h=>?_) λdM h=>?_
 .exact aO bL [.int .i64 2]
 .refine ak ?_;refine aC h (λe7 h=>?_) λe7 h=>?_
  .exact aO bL [.int .i64 1]
  .exact aL (fi _ (bD _ (inl (aO aj [.int .i64 0]))))
theorem anJ (a0 J a2 r) (h:JZ a0 J a2=some r):aX ah 223 [.slice (a0.map dY),.int .i64 J,.int .i64 a2] (.bool r) []:=by
 refine bC [0,1,2] [.tmp 6] Tryz.func223 aj6 λbt aj br=>ak ?_;refine ay aj λ_ bD bf af=>ak ?_;refine aC h (λbT h=>?_) λbT h=>?_
 .exact aO bf [.bool false]
 .refine aL (bD _ (inl (ak ?_)));refine ay aj λ_ dN eO _=>ak ?_;refine bk eO λkb _ b8 e7 _=>?_;show bn ah (.loop ?kJ) _ _;have lb:∀n j6 uN,Cj a0 J n j6 uN=some r->cN ah ?kJ kb (ar [(0,.slice (a0.map dY)),(1,.int .i64 J),(7,.int .i64 j6),(8,.int .i64 uN)]):=by
   refine c7 λ_ ld j6 uN h=>c6 b8 λ_ b2 cM cp=>ay cM λ_ eH _ fc=>ak ?_;refine aC h (λfh h=>?_) λfh h=>?_
   .refine aL (eH _ (inl (ay cM λ_ eT er _=>bk er λ_ fJ gK _ _=>ay gK λ_ lH n8 _=>?_)));rcases dH h with⟨h7,h⟩|⟨h7,h⟩
    .refine c8 h7 _ ?_;refine il rfl ?_;exact aO n8 [.bool false]
    .obtain⟨U,fY,h⟩:=an h;obtain⟨af,gF,h⟩:=an h;refine eQ (R h7 fY) (anI U J _ gF) _ ?_;refine aC h (λAA h=>?_) λAA h=>?_
     .exact aO n8 [.bool false]
     .refine aL (lH _ (inl ?_));obtain⟨aI,iv,h⟩:=an h;refine Aw fY (ZW U _ iv) _ ?_;refine fJ _ (eT _ (inl (dD ?_)));exact b2 _ (inr ⟨_,bE rfl,ld (i64.wrap (j6+(i64.wrap (aI-1)))) (i64.wrap (uN+1)) h⟩)
   .exact cX (fc 0 _ (cp 0 _ (e7 _ (dN _ (inl (aO aj [.bool (j6==0)]))))))
  exact dz h λn h=>lb n 1 0 h
theorem anK (a0 J a2 r) (h:ti a0 J a2=some r):aX ah 189 [.slice (a0.map bl),.ref (bl J),.int .i64 a2] (.int .i64 r) []:=by
 refine bC [0,1,2] [.tmp 6] Tryz.func189 aj_ λbt aj br=>ak ?_;obtain⟨U,aU,h⟩:=an h;refine c8 aU _ ?_;refine ay aj λ_ fi bL a1=>?_;obtain⟨af,cv,h⟩:=an h;refine dp (b6 [(0,.slice (a0.map bl)),(1,.ref (bl J)),(2,.int .i64 a2),(7,.aM (ey U)),(19,.bool (!af))] (λP bg=>?_) ?_)
 .refine dq (anH U _ cv) rfl rfl (by simp only[aB.down,simprocAttr,gQ,gR,gS,cR, @b0 _ i_ i_ (λ_=>Rx _)]<;>rfl) rfl (inr (by rfl)) ?_;simp only[aB.down,simprocAttr];exact bP trivial
 refine aC h (λsV h=>?_) λsV h=>?_
 .exact aO bL [.int .i64 2]
 .refine aL (fi _ (inl (ay aj λkb cF b8 dm=>?_)));have ZX:∀Gr,Ck a0 J a2 U Gr=some r->bn ah YT kb (ar [(0,.slice (a0.map bl)),(1,.ref (bl J)),(2,.int .i64 a2),(7,.aM (ey U)),(28,.bool Gr)]):=by
   intro Gr h;refine aC h (λfm h=>?_) λfm h=>?_
   .exact aO b8 [.int .i64 3]
   .refine aL (cF _ (inl (ay aj λAB hB l4 _=>?_)));have HH:∀Gq,uQ a0 J a2 U Gq=some r->bn ah YU AB (ar [(0,.slice (a0.map bl)),(1,.ref (bl J)),(2,.int .i64 a2),(7,.aM (ey U)),(51,.bool Gq)]):=by
     intro Gq h;refine aC h (λfh h=>?_) λfh h=>?_
     .exact aO l4 [.int .i64 4]
     .refine aL (hB _ (inl (ak ?_)));have LC:wk J a2 U=some r->bn ah YX bt (ar [(1,.ref (bl J)),(2,.int .i64 a2),(7,.aM (ey U)),(8,.int .i64 (U.cl.length:Int))]):=by
       intro h;refine ay aj λR1 jN kr _=>?_;have AD:∀Gp,th J a2 U Gp=some r->bn ah YV R1 (ar [(1,.ref (bl J)),(2,.int .i64 a2),(7,.aM (ey U)),(8,.int .i64 (U.cl.length:Int)),(102,.bool Gp)]):=by
        intro Gp h;refine aC h (λh7 h=>?_) λh7 h=>?_
        .exact aO kr [.int .i64 6]
        .refine aL (jN _ (inl ?_));obtain⟨aI,gF,h⟩:=an h;refine cS (R0 J a2 _ gF) _ ?_;refine ay aj λ_ nL nm _=>n7 (U.Kind==4) [(7,.aM (ey U)),(8,.int .i64 (U.cl.length:Int)),(9,.int .i64 aI),(112,.bool ((U.Kind==4)&&(decide (6<=aI))))] ?_;refine aC h (λh0 h=>?_) λh0 h=>?_
         .exact aO nm [.int .i64 7]
         .refine aL (nL _ (inl (ay aj λ_ rb re _=>ak ?_)));refine bk re λR2 _ HF ks _=>?_;have R3:∀n uO uP,yf U n uO uP=some r->cN ah YW R2 (ar [(7,.aM (ey U)),(8,.int .i64 (U.cl.length:Int)),(9,.int .i64 uO),(10,.int .i64 uP)]):=by
           refine c7 λ_ R4 uO uP h=>c6 HF λ_ sk tE wM=>ay tE λ_ tF _ Ar=>ak ?_;refine aC h (λHI h=>?_) λHI h=>?_
           .refine aL (tF _ (inl (ay tE λ_ R5 HJ _=>bk HJ λ_ AE AF _ _=>?_)));obtain⟨a1,pT,h⟩:=an h;obtain⟨ba,qs,h⟩:=an h;refine eQ pT (anJ a1 uO 15 _ qs) _ ?_;refine aC h (λHK h=>?_) λHK h=>?_
            .exact aO AF [.int .i64 8]
            .refine aL (AE _ (R5 _ (inl (dD ?_))));exact sk _ (inr ⟨_,bE rfl,R4 uO (i64.wrap (uP+1)) h⟩)
           .exact cX (Ar 1 _ (wM 1 _ (ks _ (rb _ (inl (aO aj [.int .i64 0]))))))
          exact dz h λn h=>R3 n aI 0 h
       rcases dH h with⟨AG,h⟩|⟨AG,h⟩
       .rcases dH h with⟨wP,h⟩|⟨wP,h⟩
        .refine ml (b6 (K:=eS _) [(1,.ref (bl J)),(2,.int .i64 a2),(7,.aM (ey U)),(8,.int .i64 (U.cl.length:Int)),(102,.bool true)] (λP bg=>?_) ?_)
         .simp only[aB.down,simprocAttr,AG,wP];exact bP (R AG wP)
         exact inr ⟨_,bE rfl,AD true h⟩
        .obtain⟨aZ,DS,h⟩:=an h;refine ml (b6 (K:=eS _) [(1,.ref (bl J)),(2,.int .i64 a2),(7,.aM (ey U)),(8,.int .i64 (U.cl.length:Int)),(102,.bool (aZ.Kind !=1))] (λP bg=>?_) ?_)
         .simp only[aB.down,simprocAttr,AG,wP,DS];exact bP (R AG (R wP DS))
         exact inr ⟨_,bE rfl,AD (aZ.Kind !=1) h⟩
       .refine ml (b6 (K:=eS _) [(1,.ref (bl J)),(2,.int .i64 a2),(7,.aM (ey U)),(8,.int .i64 (U.cl.length:Int)),(102,.bool false)] (λP bg=>?_) ?_)
        .simp only[aB.down,simprocAttr,AG];exact bP AG
        exact inr ⟨_,bE rfl,AD false h⟩
      refine ay aj λ_ lH n8 _=>ak ?_;refine bk n8 λ_ o_ qt _ _=>ak ?_;refine aC h (λR6 h=>?_) λR6 h=>?_
      .refine dp (b6 [(1,.ref (bl J)),(2,.int .i64 a2),(7,.aM (ey U)),(8,.int .i64 (U.cl.length:Int)),(69,.bool ((decide (2<(U.cl.length:Int)))||((decide (0<(U.cl.length:Int)))&&(U.Name==([116,97,117]:azc)))))] (λP bg=>?_) ?_)
       ·(rcases Bool.eq_false_or_eq_true (decide (2<(U.cl.length:Int)))with R7|R7)<;>(rcases Bool.eq_false_or_eq_true (decide (0<(U.cl.length:Int)))with R8|R8)<;>
         (simp only[aB.down,simprocAttr,R7,R8]
          exact bP (R R7 R8))
       refine aC h (λanL h=>?_) λanL h=>?_
       .exact aO qt [.int .i64 5]
       .exact aL (o_ _ (lH _ (inr ⟨_,bE rfl,LC h⟩)))
      .refine ak ?_;refine aC h (λR9 h=>?_) λR9 h=>?_
       .refine ak ?_;refine aC h (λR_ h=>?_) λR_ h=>?_
        .exact aO qt [.int .i64 5]
        .exact aL (o_ _ (lH _ (inr ⟨_,bE rfl,LC h⟩)))
       .refine ak ?_;refine aC h (λAH h=>?_) λAH h=>?_
        .obtain⟨bq,HL,h⟩:=an h;refine c8 HL _ ?_;refine aC h (λanM h=>?_) λanM h=>?_
         .exact aO qt [.int .i64 5]
         .exact aL (o_ _ (lH _ (inr ⟨_,bE rfl,LC h⟩)))
        .exact aL (o_ _ (lH _ (inr ⟨_,bE rfl,LC h⟩)))
    rcases dH h with⟨n9,h⟩|⟨n9,h⟩
    .obtain⟨cY,Sa,h⟩:=an h;rcases dH h with⟨rf,h⟩|⟨rf,h⟩
     .refine ml (b6 (K:=eS _) [(0,.slice (a0.map bl)),(1,.ref (bl J)),(2,.int .i64 a2),(7,.aM (ey U)),(51,.bool true)] (λP bg=>?_) ?_)
      ·(try simp only[aB.down,simprocAttr,n9,(fM rf)]);refine hz (o9 U.Number 1 7 _ Sa) (hK:= ?_);simp only[aB.down,simprocAttr,n9,(fM rf)];exact bP (R n9 (fM rf))
      exact inr ⟨_,bE rfl,HH true h⟩
     .rcases dH h with⟨yE,h⟩|⟨yE,h⟩
      .obtain⟨dm,yF,h⟩:=an h;refine ml (b6 (K:=eS _) [(0,.slice (a0.map bl)),(1,.ref (bl J)),(2,.int .i64 a2),(7,.aM (ey U)),(51,.bool (!dm))] (λP bg=>?_) ?_)
       ·(try simp only[aB.down,simprocAttr,n9,(bN rf),yE]);refine hz (o9 U.Number 1 7 _ Sa) (hK:= ?_);simp only[aB.down,simprocAttr,n9,(bN rf),yE];refine hz (o9 U.Number 0 (i64.wrap ((a0.length:Int)-1)) _ yF) (hK:= ?_);simp only[aB.down,simprocAttr,n9,(bN rf),yE];exact bP (R n9 (R (bN rf) yE))
       exact inr ⟨_,bE rfl,HH (!dm) h⟩
      .refine ml (b6 (K:=eS _) [(0,.slice (a0.map bl)),(1,.ref (bl J)),(2,.int .i64 a2),(7,.aM (ey U)),(51,.bool false)] (λP bg=>?_) ?_)
       ·(try simp only[aB.down,simprocAttr,n9,(bN rf),yE]);refine hz (o9 U.Number 1 7 _ Sa) (hK:= ?_);simp only[aB.down,simprocAttr,n9,(bN rf),yE];exact bP (R n9 (R (bN rf) yE))
       exact inr ⟨_,bE rfl,HH false h⟩
    .rcases dH h with⟨DT,h⟩|⟨DT,h⟩
     .obtain⟨cp,DU,h⟩:=an h;refine ml (b6 (K:=eS _) [(0,.slice (a0.map bl)),(1,.ref (bl J)),(2,.int .i64 a2),(7,.aM (ey U)),(51,.bool (!cp))] (λP bg=>?_) ?_)
      ·(try simp only[aB.down,simprocAttr,n9,DT]);refine hz (o9 U.Number 0 (i64.wrap ((a0.length:Int)-1)) _ DU) (hK:= ?_);simp only[aB.down,simprocAttr,n9,DT];exact bP (R n9 DT)
      exact inr ⟨_,bE rfl,HH (!cp) h⟩
     .refine ml (b6 (K:=eS _) [(0,.slice (a0.map bl)),(1,.ref (bl J)),(2,.int .i64 a2),(7,.aM (ey U)),(51,.bool false)] (λP bg=>?_) ?_)
      .simp only[aB.down,simprocAttr,n9,DT];exact bP (R n9 DT)
      exact inr ⟨_,bE rfl,HH false h⟩
  rcases dH h with⟨yG,h⟩|⟨yG,h⟩
  .obtain⟨fc,anN,h⟩:=an h;refine ml (b6 (K:=eS _) [(0,.slice (a0.map bl)),(1,.ref (bl J)),(2,.int .i64 a2),(7,.aM (ey U)),(28,.bool (!fc))] (λP bg=>?_) ?_)
   ·(try simp only[aB.down,simprocAttr,yG]);refine hz (DR U.Name _ anN) (hK:= ?_);simp only[aB.down,simprocAttr,yG];exact bP yG
   exact inr ⟨_,bE rfl,ZX (!fc) h⟩
  .refine ml (b6 (K:=eS _) [(0,.slice (a0.map bl)),(1,.ref (bl J)),(2,.int .i64 a2),(7,.aM (ey U)),(28,.bool false)] (λP bg=>?_) ?_)
   .simp only[aB.down,simprocAttr,yG];exact bP yG
   exact inr ⟨_,bE rfl,ZX false h⟩
theorem anO (a0 J r) (h:wo a0 J=some r):aX ah 155 [.slice (a0.map bl),.ref (bl J)] (.tuple [.int .i64 r.1,.int .i64 r.2]) []:=by
 refine bC [0,1] [.tmp 4,.tmp 5] Tryz.func155 aka λbt aj br=>ak ?_;refine ay aj λ_ bD bf af=>?_;obtain⟨U,cc,h⟩:=an h;refine cS (anG J.Body _ cc) _ ?_;refine aC h (λda h=>?_) λda h=>?_
 .exact aO bf [.int .i64 0,.int .i64 1]
 .refine aL (bD _ (inl (ay aj λ_ dN eO _=>ak ?_)));refine bk eO λkb _ b8 e7 _=>?_;show bn ah (.loop ?hc) _ _;have hf:∀n qS,wm a0 J n qS=some r->cN ah ?hc kb (ar [(0,.slice (a0.map bl)),(1,.ref (bl J)),(6,.int .i64 qS)]):=by
   refine c7 λ_ gU qS h=>c6 b8 λ_ b2 cM cp=>ay cM λ_ eH _ fc=>ak ?_;refine aC h (λfh h=>?_) λfh h=>?_
   .refine aL (eH _ (inl (ay cM λ_ eT er _=>bk er λ_ fJ gK _ _=>?_)));obtain⟨af,dV,h⟩:=an h;refine cS (anK a0 J qS _ dV) _ ?_;refine ak ?_;refine aC h (λfX h=>?_) λfX h=>?_
    .exact aO gK [.int .i64 qS,.int .i64 af]
    .refine aL (fJ _ (eT _ (inl (dD ?_))));exact b2 _ (inr ⟨_,bE rfl,gU (i64.wrap (qS+1)) h⟩)
   .exact cX (fc 0 _ (cp 0 _ (e7 _ (dN _ (inl (aO aj [.int .i64 0,.int .i64 0]))))))
  exact dz h λn h=>hf n 0 h
theorem anP (a0 r) (h:J0 a0=some r):aX ah 108 [.slice (a0.map bl)] (.bool r) []:=by
 refine bC [0] [.tmp 2] Tryz.func108 akb λbt aj br=>ak ?_;refine ay aj λ_ bD bf af=>n7 ((a0.length:Int)==0) [(0,.slice (a0.map bl)),(15,.bool (((a0.length:Int)==0)||(decide (4<(a0.length:Int)))))] ?_;refine aC h (λbT h=>?_) λbT h=>?_
 .exact aO bf [.bool false]
 .refine aL (bD _ (inl (ay aj λ_ cT dn aZ=>ak ?_)));refine bk dn λjd _ h6 cm _=>?_;show bn ah (.loop ?hc) _ _;have hf:∀n ep,wq a0 n ep=some r->cN ah ?hc jd (ar [(0,.slice (a0.map bl)),(3,.int .i64 ep)]):=by
   refine c7 λm14 gU ep h=>c6 h6 λ_ cF b8 dm=>ay b8 λ_ b2 _ cp=>ak ?_;refine aC h (λfb h=>?_) λfb h=>?_
   .refine aL (b2 _ (inl (ay b8 λ_ fG fu _=>bk fu λ_ eT er _ _=>ay er λ_ fJ gK _=>?_)));obtain⟨U,dV,h⟩:=an h;obtain⟨af,eL,h⟩:=an h;rcases dH h with⟨fX,h⟩|⟨fX,h⟩
    .refine eQ (R dV (fM fX)) (DR U.Name _ eL) _ ?_;refine il rfl ?_;exact aO gK [.bool false]
    .obtain⟨aI,gF,h⟩:=an h;refine dp (b6 [(0,.slice (a0.map bl)),(3,.int .i64 ep),(37,.bool (!aI))] (λP bg=>?_) ?_)
     ·(try simp only[aB.down,simprocAttr,dV,(bN fX)]);refine dq (DR U.Name _ eL) (hK:= ?_);simp only[aB.down,simprocAttr,dV,(bN fX)];refine hz (o9 U.dU 0 3 _ gF) (hK:= ?_);simp only[aB.down,simprocAttr,dV,(bN fX)];exact bP (R dV (bN fX))
     refine aC h (λAA h=>?_) λAA h=>?_
     .exact aO gK [.bool false]
     .refine aL (fJ _ (inl (ak ?_)));refine bk er λSb _ qu pU _=>?_;show bn ah (.loop ?HB) _ _;have Sc:∀n rU uR,Cl (wq a0 m14) a0 n rU uR=some r->cN ah ?HB Sb (ar [(0,.slice (a0.map bl)),(3,.int .i64 rU),(4,.int .i64 uR)]):=by
       refine c7 λ_ Sd rU uR h=>c6 qu λ_ rb re n3=>ay re λ_ HM _ pM=>ak ?_;refine aC h (λiG h=>?_) λiG h=>?_
       .refine aL (HM _ (inl (ay re λ_ tF HN _=>bk HN λ_ Se Sf _ _=>?_)));obtain⟨a1,lI,h⟩:=an h;obtain⟨ba,hU,h⟩:=an h;refine o8 (R lI hU) _ ?_;refine aC h (λlf h=>?_) λlf h=>?_
        .exact aO Sf [.bool false]
        .refine aL (Se _ (tF _ (inl (dD ?_))));exact rb _ (inr ⟨_,bE rfl,Sd rU (i64.wrap (uR+1)) h⟩)
       .refine cX (pM 2 _ (n3 2 _ (pU _ (eT _ (fG _ (inl (dD ?_)))))));exact cF _ (inr ⟨_,bE rfl,gU (i64.wrap (rU+1)) h⟩)
      exact dz h λn h=>Sc n ep 0 h
   .refine cX (cp 0 _ (dm 0 _ (cm _ (cT _ (inl (ay aj λ_ wQ yH _=>ak ?_))))));refine bk yH λHO _ sl wR _=>?_;show bn ah (.loop ?RD) _ _;have HP:∀n uS,zP a0 n uS=some r->cN ah ?RD HO (ar [(0,.slice (a0.map bl)),(5,.int .i64 uS)]):=by
     refine c7 λ_ HQ uS h=>c6 sl λ_ AJ yI AK=>ay yI λ_ Sg _ anQ=>ak ?_;refine aC h (λwS h=>?_) λwS h=>?_
     .refine aL (Sg _ (inl (ay yI λ_ AL wT _=>bk wT λ_ o_ qt _ _=>?_)));obtain⟨aZ,rh,h⟩:=an h;obtain⟨bq,AM,h⟩:=an h;refine eQ rh (anO a0 aZ _ AM) _ ?_;refine ak ?_;refine aC h (λSh h=>?_) λSh h=>?_
      .exact aO qt [.bool false]
      .refine aL (o_ _ (AL _ (inl (dD ?_))));exact AJ _ (inr ⟨_,bE rfl,HQ (i64.wrap (uS+1)) h⟩)
     .exact cX (anQ 4 _ (AK 4 _ (wR _ (wQ _ (inl (aO aj [.bool true]))))))
    exact dz h λn h=>HP n 0 h
  exact dz h λn h=>hf n 0 h
theorem ZY (a0 r) (h:Gt a0=some r):aX ah 113 [.slice (a0.map aT)] (.bool r) []:=by
 refine bC [0] [.tmp 2] Tryz.func113 akc λbt aj br=>ak ?_;refine ay aj λ_ bD bf af=>ak ?_;refine bk bf λeM _ bL bT _=>?_;show bn ah (.loop ?eR) _ _;have eZ:∀n iQ,Cm a0 n iQ=some r->cN ah ?eR eM (ar [(0,.slice (a0.map aT)),(3,.int .i64 iQ)]):=by
  refine c7 λ_ eI iQ h=>c6 bL λ_ dP cG ba=>ay cG λ_ cT _ aZ=>ak ?_;refine aC h (λcm h=>?_) λcm h=>?_
  .refine aL (cT _ (inl (ay cG λ_ cF b8 _=>bk b8 λ_ b2 cM _ _=>?_)));obtain⟨U,dB,h⟩:=an h;obtain⟨af,dZ,h⟩:=an h;refine eQ dB (o9 U 0 63 _ dZ) _ ?_;refine aC h (λhd h=>?_) λhd h=>?_
   .exact aO cM [.bool false]
   .refine aL (b2 _ (cF _ (inl (dD ?_))));exact dP _ (inr ⟨_,bE rfl,eI (i64.wrap (iQ+1)) h⟩)
  .exact cX (aZ 0 _ (ba 0 _ (bT _ (bD _ (inl (aO aj [.bool true]))))))
 exact dz h λn h=>eZ n 0 h
theorem anR (a0 r) (h:J1 a0=some r):aX ah 109 [.ref (e1 a0)] (.bool r) []:=by
 refine bC [0] [.tmp 2] Tryz.func109 c109 λbt aj br=>ak ?_;refine ay aj λ_ bD bf af=>n7 ((a0.ch.length:Int)==0) [(0,.ref (e1 a0)),(18,.bool (((a0.ch.length:Int)==0)||(decide (3<(a0.ch.length:Int)))))] ?_;refine aC h (λbT h=>?_) λbT h=>?_
 .exact aO bf [.bool false]
 .refine aL (bD _ (inl (ay aj λ_ cT dn _=>ak ?_)));refine bk dn λjd _ h6 cm _=>?_;show bn ah (.loop ?hc) _ _;have hf:∀n ep,Cn a0 n ep=some r->cN ah ?hc jd (ar [(0,.ref (e1 a0)),(3,.int .i64 ep)]):=by
   refine c7 λ_ gU ep h=>c6 h6 λ_ cF b8 dm=>ay b8 λ_ b2 _ cp=>ak ?_;refine aC h (λfb h=>?_) λfb h=>?_
   .refine aL (b2 _ (inl (ay b8 λ_ fG fu _=>bk fu λ_ eT er _ _=>?_)));obtain⟨U,cJ,h⟩:=an h;refine c8 cJ _ ?_;refine ay er λ_ jN kr _=>?_;obtain⟨af,e8,h⟩:=an h;refine ane (o9 U.cA 0 (i64.wrap ((a0.cw.length:Int)-1)) _ e8) _ ?_;refine aC h (λgr h=>?_) λgr h=>?_
    .exact aO kr [.bool false]
    .refine aL (jN _ (inl ?_));obtain⟨aI,iu,h⟩:=an h;rcases dH h with⟨h0,h⟩|⟨h0,h⟩
     .refine o8 (R iu h0) _ ?_;refine il rfl ?_;exact aO er [.bool false]
     .obtain⟨a1,tG,h⟩:=an h;refine mo (R iu h0) (ZY U.bK _ tG) _ ?_;refine aC h (λoM h=>?_) λoM h=>?_
      .exact aO er [.bool false]
      .refine aL (eT _ (fG _ (inl (dD ?_))));exact cF _ (inr ⟨_,bE rfl,gU (i64.wrap (ep+1)) h⟩)
   .exact cX (cp 0 _ (dm 0 _ (cm _ (cT _ (inl (aO aj [.bool true]))))))
  exact dz h λn h=>hf n 0 h
theorem so (a0 r) (h:uT a0=some r):aX ah 120 [.str a0] (.bool r) []:=by
 refine bC [0] [.tmp 2] Tryz.func120 akd λbt aj br=>ak ?_;obtain⟨U,aU,h⟩:=an h;refine dp (b6 [(2,.bool (U&&(!(a0==([116,97,117]:azc)))))] (λP bg=>?_) ?_)
 .rcases Bool.eq_false_or_eq_true (U)with mW|mW
  ·(try simp only[aB.down,simprocAttr,mW]);refine dq (DR a0 _ aU) (hK:= ?_);simp only[aB.down,simprocAttr,mW];exact bP mW
  ·(try simp only[aB.down,simprocAttr,mW]);refine dq (DR a0 _ aU) (hK:= ?_);simp only[aB.down,simprocAttr,mW];exact bP mW
 exact cP aj [.bool (U&&(!(a0==([116,97,117]:azc))))]
theorem anS (a0 r) (h:J2 a0=some r):aX ah 110 [.slice (a0.map bI)] (.bool r) []:=by
 refine bC [0] [.tmp 2] Tryz.func110 ake λbt aj br=>ak ?_;refine ay aj λ_ bD bf af=>ak ?_;refine aC h (λbT h=>?_) λbT h=>?_
 .exact aO bf [.bool false]
 .refine aL (bD _ (inl (ay aj λ_ cT dn aZ=>ak ?_)));refine bk dn λjd _ h6 cm _=>?_;show bn ah (.loop ?hc) _ _;have hf:∀n ep,tj a0 n ep=some r->cN ah ?hc jd (ar [(0,.slice (a0.map bI)),(3,.int .i64 ep)]):=by
   refine c7 λm14 gU ep h=>c6 h6 λ_ cF b8 dm=>ay b8 λ_ b2 _ cp=>ak ?_;refine aC h (λfb h=>?_) λfb h=>?_
   .refine aL (b2 _ (inl (ay b8 λ_ fG fu _=>bk fu λ_ eT er _ _=>?_)));obtain⟨U,cJ,h⟩:=an h;refine c8 cJ _ ?_;refine ay er λ_ jN kr _=>?_;obtain⟨af,e8,h⟩:=an h;rcases dH h with⟨gr,h⟩|⟨gr,h⟩
    .refine eQ (fM gr) (so U.Left _ e8) _ ?_;refine il rfl ?_;exact aO kr [.bool false]
    .obtain⟨aI,fE,h⟩:=an h;rcases dH h with⟨gp,h⟩|⟨gp,h⟩
     .refine dp (b6 [(0,.slice (a0.map bI)),(3,.int .i64 ep),(4,.aM (bI U)),(41,.bool true)] (λP bg=>?_) ?_)
      ·(try simp only[aB.down,simprocAttr,(bN gr),(fM gp)]);refine dq (so U.Left _ e8) (hK:= ?_);simp only[aB.down,simprocAttr,(bN gr),(fM gp)];refine hz (so U.cH _ fE) (hK:= ?_);simp only[aB.down,simprocAttr,(bN gr),(fM gp)];exact bP (R (bN gr) (fM gp))
      refine il rfl ?_;exact aO kr [.bool false]
     .obtain⟨a1,iv,h⟩:=an h;refine dp (b6 [(0,.slice (a0.map bI)),(3,.int .i64 ep),(4,.aM (bI U)),(41,.bool ((!a1)||(!(Op.bytesLess U.Left U.cH||U.Left==U.cH))))] (λP bg=>?_) ?_)
      .rcases Bool.eq_false_or_eq_true (a1)with tH|tH
       ·(try simp only[aB.down,simprocAttr,(bN gr),(bN gp),tH]);refine dq (so U.Left _ e8) (hK:= ?_);simp only[aB.down,simprocAttr,(bN gr),(bN gp),tH];refine hz (so U.cH _ fE) (hK:= ?_);simp only[aB.down,simprocAttr,(bN gr),(bN gp),tH];refine hz (so U.Result _ iv) (hK:= ?_);simp only[aB.down,simprocAttr,(bN gr),(bN gp),tH];exact bP (R (bN gr) (R (bN gp) tH))
       ·(try simp only[aB.down,simprocAttr,(bN gr),(bN gp),tH]);refine dq (so U.Left _ e8) (hK:= ?_);simp only[aB.down,simprocAttr,(bN gr),(bN gp),tH];refine hz (so U.cH _ fE) (hK:= ?_);simp only[aB.down,simprocAttr,(bN gr),(bN gp),tH];refine hz (so U.Result _ iv) (hK:= ?_);simp only[aB.down,simprocAttr,(bN gr),(bN gp),tH];exact bP (R (bN gr) (R (bN gp) tH))
      refine aC h (λoM h=>?_) λoM h=>?_
      .exact aO kr [.bool false]
      .refine aL (jN _ (inl (ay er λ_ sk tE _=>?_)));rcases dH h with⟨hC,h⟩|⟨hC,h⟩
       .obtain⟨ba,wU,h⟩:=an h;refine ju rfl (iP [(0,.slice (a0.map bI)),(3,.int .i64 ep),(4,.aM (bI U)),(76,.bool ((!(Op.bytesLess ba.Left U.Left||ba.Left==U.Left))||((ba.Left==U.Left)&&(!(Op.bytesLess ba.cH U.cH)))))] (λP bg=>?_) ?_)
        ·(rcases Bool.eq_false_or_eq_true (Op.bytesLess ba.Left U.Left)with Si|Si)<;>(rcases Bool.eq_false_or_eq_true (ba.Left==U.Left)with Sj|Sj)<;>
          (simp only[dh.down,simprocAttr,hC,wU,Si,Sj]
           refine⟨hY (by kernel_rfl),?_⟩;exact bP (R hC (R wU (R Si Sj))))
        refine aC h (λlf h=>?_) λlf h=>?_
        .exact aO tE [.bool false]
        .refine aL (sk _ (inl (ak ?_)));refine bk er λanT _ Sk HK _=>?_;show bn ah (.loop ?HC) _ _;have Sl:∀n n2 oB,wt (tj a0 m14) a0 U n n2 oB=some r->cN ah ?HC anT (ar [(0,.slice (a0.map bI)),(3,.int .i64 n2),(4,.aM (bI U)),(5,.int .i64 oB)]):=by
          refine c7 λanU Sm n2 oB h=>c6 Sk λ_ wQ yH anV=>ay yH λ_ anW _ anX=>ak ?_;refine aC h (λanY h=>?_) λanY h=>?_
          .refine aL (anW _ (inl (ay yH λ_ Sg anZ _=>bk anZ λ_ yJ an0 _ _=>?_)));obtain⟨aZ,an1,h⟩:=an h;refine ZC (aZ.Left==U.Result) an1 [(0,.slice (a0.map bI)),(3,.int .i64 n2),(4,.aM (bI U)),(5,.int .i64 oB),(100,.bool ((aZ.Left==U.Result)||(aZ.cH==U.Result)))] ?_;refine aC h (λan2 h=>?_) λan2 h=>?_
           .exact aO an0 [.bool false]
           .refine aL (yJ _ (Sg _ (inl (dD ?_))));exact wQ _ (inr ⟨_,bE rfl,Sm n2 (i64.wrap (oB+1)) h⟩)
          .refine cX (anX 2 _ (anV 2 _ (HK _ (eT _ (fG _ (inl (dD ?_)))))));exact cF _ (inr ⟨_,bE rfl,gU (i64.wrap (n2+1)) h⟩)
         exact dz h λn h=>Sl n ep 0 h
       .refine o8 hC _ ?_;refine ot rfl ?_;refine aL (sk _ (inl (ak ?_)));refine bk er λan3 _ an4 Sh _=>?_;show bn ah (.loop ?HC) _ _;have Sl:∀n n2 oB,wt (tj a0 m14) a0 U n n2 oB=some r->cN ah ?HC an3 (ar [(0,.slice (a0.map bI)),(3,.int .i64 n2),(4,.aM (bI U)),(5,.int .i64 oB)]):=by
         refine c7 λanU Sm n2 oB h=>c6 an4 λ_ So LD an5=>ay LD λ_ an6 _ an7=>ak ?_;refine aC h (λR9 h=>?_) λR9 h=>?_
         .refine aL (an6 _ (inl (ay LD λ_ an8 an9 _=>bk an9 λ_ an_ aoa _ _=>?_)));obtain⟨bq,tI,h⟩:=an h;refine ZC (bq.Left==U.Result) tI [(0,.slice (a0.map bI)),(3,.int .i64 n2),(4,.aM (bI U)),(5,.int .i64 oB),(100,.bool ((bq.Left==U.Result)||(bq.cH==U.Result)))] ?_;refine aC h (λAH h=>?_) λAH h=>?_
          .exact aO aoa [.bool false]
          .refine aL (an_ _ (an8 _ (inl (dD ?_))));exact So _ (inr ⟨_,bE rfl,Sm n2 (i64.wrap (oB+1)) h⟩)
         .refine cX (an7 2 _ (an5 2 _ (Sh _ (eT _ (fG _ (inl (dD ?_)))))));exact cF _ (inr ⟨_,bE rfl,gU (i64.wrap (n2+1)) h⟩)
        exact dz h λn h=>Sl n ep 0 h
   .exact cX (cp 0 _ (dm 0 _ (cm _ (cT _ (inl (aO aj [.bool true]))))))
  exact dz h λn h=>hf n 0 h
theorem aob (a0 r) (h:J3 a0=some r):aX ah 156 [.slice (a0.map aN)] (.bool r) []:=by
 refine bC [0] [.tmp 2] Tryz.func156 c156 λbt aj br=>ak ?_;refine ay aj λ_ bD bf af=>ak ?_;refine bk bf λeM _ bL bT _=>?_;show bn ah (.loop ?eR) _ _;have eZ:∀n iQ,Co a0 n iQ=some r->cN ah ?eR eM (ar [(0,.slice (a0.map aN)),(3,.int .i64 iQ)]):=by
  refine c7 λ_ eI iQ h=>c6 bL λ_ dP cG ba=>ay cG λ_ cT _ aZ=>ak ?_;refine aC h (λcm h=>?_) λcm h=>?_
  .refine aL (cT _ (inl (ay cG λ_ cF b8 _=>bk b8 λ_ b2 cM _ _=>?_)));obtain⟨U,dB,h⟩:=an h;obtain⟨af,dZ,h⟩:=an h;refine eQ dB (so U _ dZ) _ ?_;refine aC h (λhd h=>?_) λhd h=>?_
   .exact aO cM [.bool false]
   .refine aL (b2 _ (cF _ (inl (dD ?_))));exact dP _ (inr ⟨_,bE rfl,eI (i64.wrap (iQ+1)) h⟩)
  .exact cX (aZ 0 _ (ba 0 _ (bT _ (bD _ (inl (aO aj [.bool true]))))))
 exact dz h λn h=>eZ n 0 h
theorem ZZ (a0 r) (h:Gu a0=some r):aX ah 111 [.slice (a0.map aN)] (.bool r) []:=by
 refine bC [0] [.tmp 2] Tryz.func111 akf λbt aj br=>ak ?_;refine ay aj λ_ bD bf af=>?_;rcases dH h with⟨bT,h⟩|⟨bT,h⟩
 .refine c8 bT _ ?_;refine il rfl ?_;exact aO bf [.bool false]
 .obtain⟨U,cv,h⟩:=an h;refine eQ bT (aob a0 _ cv) _ ?_;refine aC h (λsV h=>?_) λsV h=>?_
  .exact aO bf [.bool false]
  .refine aL (bD _ (inl (ay aj λ_ cF b8 _=>ak ?_)));refine bk b8 λaoc _ hT oL _=>?_;show bn ah (.loop ?hc) _ _;have hf:∀n ep,rV a0 n ep=some r->cN ah ?hc aoc (ar [(0,.slice (a0.map aN)),(3,.int .i64 ep)]):=by
    refine c7 λ_ gU ep h=>c6 hT λ_ hB l4 ko=>ay l4 λ_ fG _ lY=>ak ?_;refine aC h (λe2 h=>?_) λe2 h=>?_
    .refine aL (fG _ (inl (ay l4 λ_ lH n8 _=>bk n8 λ_ jN kr _ _=>?_)));obtain⟨af,e8,h⟩:=an h;obtain⟨aI,fY,h⟩:=an h;refine o8 (R e8 fY) _ ?_;refine aC h (λvw h=>?_) λvw h=>?_
     .exact aO kr [.bool false]
     .refine aL (jN _ (lH _ (inl (dD ?_))));exact hB _ (inr ⟨_,bE rfl,gU (i64.wrap (ep+1)) h⟩)
    .exact cX (lY 0 _ (ko 0 _ (oL _ (cF _ (inl (aO aj [.bool true]))))))
   exact dz h λn h=>hf n 1 h
theorem aod (a0 r) (h:J5 a0=some r):aX ah 79 [.ref (e1 a0)] (.int .i64 r) []:=by
 refine bC [0] [.tmp 2] Tryz.func79 akg λbt aj br=>ak ?_;refine ay aj λ_ bD bf af=>?_;obtain⟨U,cc,h⟩:=an h;refine cS (anP a0.cw _ cc) _ ?_;refine aC h (λda h=>?_) λda h=>?_
 .exact aO bf [.int .i64 1]
 .refine aL (bD _ (inl (ay aj λ_ dN eO _=>?_)));obtain⟨af,jt,h⟩:=an h;refine cS (anR a0 _ jt) _ ?_;refine aC h (λfm h=>?_) λfm h=>?_
  .exact aO eO [.int .i64 2]
  .refine aL (dN _ (inl (ay aj λ_ hB l4 _=>?_)));obtain⟨aI,dO,h⟩:=an h;refine cS (anS a0.b_ _ dO) _ ?_;refine aC h (λe2 h=>?_) λe2 h=>?_
   .exact aO l4 [.int .i64 3]
   .refine aL (hB _ (inl (ay aj λ_ jN kr _=>?_)));obtain⟨a1,e8,h⟩:=an h;refine cS (ZZ a0.cD _ e8) _ ?_;refine aC h (λgr h=>?_) λgr h=>?_
    .exact aO kr [.int .i64 4]
    .refine aL (jN _ (inl (ay aj λ_ nL nm _=>?_)));obtain⟨ba,mq,h⟩:=an h;refine cS (ZZ a0.cB _ mq) _ ?_;refine aC h (λpU h=>?_) λpU h=>?_
     .exact aO nm [.int .i64 5]
     .exact aL (nL _ (inl (aO aj [.int .i64 0])))
theorem Z0 (a0 r) (h:J6 a0=some r):aX ah 52 [.ref (e1 a0)] (.bool r) []:=by
 refine bC [0] [.tmp 2] Tryz.func52 akh λbt aj br=>ak ?_;obtain⟨U,aU,h⟩:=an h;refine cS (aod a0 _ aU) _ ?_;exact cP aj [.bool (U==0)]
theorem aoe (a0 J r) (h:yg a0 J=some r):aX ah 80 [.slice (a0.map bl),.ref (bs J)] (.bool r) []:=by
 refine bC [0,1] [.tmp 4] Tryz.func80 c80 λbt aj br=>ak ?_;refine ay aj λ_ bD bf af=>?_;obtain⟨U,cc,h⟩:=an h;refine cS (o9 J.cA 0 (i64.wrap ((a0.length:Int)-1)) _ cc) _ ?_;refine aC h (λda h=>?_) λda h=>?_
 .exact aO bf [.bool false]
 .refine aL (bD _ (inl ?_));obtain⟨af,fC,h⟩:=an h;refine c8 fC _ ?_;refine ay aj λ_ cF b8 _=>?_;obtain⟨aI,kD,h⟩:=an h;rcases dH h with⟨fb,h⟩|⟨fb,h⟩
  .refine mo (fM fb) (o9 J.Part 0 (i64.wrap ((af.Body.length:Int)-1)) _ kD) _ ?_;refine il rfl ?_;exact aO b8 [.bool false]
  .obtain⟨a1,dO,h⟩:=an h;refine mo (R (bN fb) dO) (o9 J.Part 0 (i64.wrap ((af.Body.length:Int)-1)) _ kD) _ ?_;refine aC h (λe2 h=>?_) λe2 h=>?_
   .exact aO b8 [.bool false]
   .refine aL (cF _ (inl ?_));obtain⟨ba,eL,h⟩:=an h;rcases dH h with⟨fX,h⟩|⟨fX,h⟩
    .obtain⟨aZ,fY,h⟩:=an h;refine ju rfl (iP [(4,.bool aZ)] (λP bg=>?_) ?_)
     ·(try simp only[dh.down,simprocAttr,fX]);refine h4 (R0 af J.Part _ eL) rfl rfl (by simp only[dh.down,simprocAttr,fX,ZD.down]<;>rfl) rfl (inr (by rfl)) ?_;simp only[dh.down,simprocAttr,fX];refine lU (ZY J.bK _ fY) (hK:= ?_);simp only[dh.down,simprocAttr,fX];refine⟨hY (by kernel_rfl),?_⟩;exact bP fX
     exact cP aj [.bool aZ]
    .refine ju rfl (iP [(4,.bool false)] (λP bg=>?_) ?_)
     ·(try simp only[dh.down,simprocAttr,fX]);refine h4 (R0 af J.Part _ eL) rfl rfl (by simp only[dh.down,simprocAttr,fX,ZD.down]<;>rfl) rfl (inr (by rfl)) ?_;simp only[dh.down,simprocAttr,fX];refine⟨hY (by kernel_rfl),?_⟩;exact bP fX
     exact cP aj [.bool false]
theorem aof (a0 J r) (h:J7 a0 J=some r):aX ah 53 [.ref (e1 a0),.slice (J.map bs)] (.bool r) []:=by
 refine bC [0,1] [.tmp 4] Tryz.func53 c53 λbt aj br=>ak ?_;refine ay aj λ_ bD bf af=>ak ?_;refine aC h (λbT h=>?_) λbT h=>?_
 .exact aO bf [.bool false]
 .refine aL (bD _ (inl (ay aj λ_ cT dn _=>ak ?_)));refine bk dn λjd _ h6 cm _=>?_;show bn ah (.loop ?hc) _ _;have hf:∀n ct,Cp a0 J n ct=some r->cN ah ?hc jd (ar [(0,.ref (e1 a0)),(1,.slice (J.map bs)),(5,.int .i64 ct)]):=by
   refine c7 λ_ gU ct h=>c6 h6 λ_ cF b8 dm=>ay b8 λ_ b2 _ cp=>ak ?_;refine aC h (λfb h=>?_) λfb h=>?_
   .refine aL (b2 _ (inl (ay b8 λ_ fG fu _=>bk fu λ_ eT er _ _=>?_)));obtain⟨U,cJ,h⟩:=an h;obtain⟨af,dV,h⟩:=an h;refine mo cJ (aoe a0.cw U _ dV) _ ?_;refine aC h (λh7 h=>?_) λh7 h=>?_
    .exact aO er [.bool false]
    .refine aL (eT _ (fG _ (inl (dD ?_))));exact cF _ (inr ⟨_,bE rfl,gU (i64.wrap (ct+1)) h⟩)
   .exact cX (cp 0 _ (dm 0 _ (cm _ (cT _ (inl (aO aj [.bool true]))))))
  exact dz h λn h=>hf n 0 h
theorem aog (a0 J r) (h:J8 a0 J=some r):aX ah 26 [.ref (e1 a0),.slice (J.map bs)] (.int .i64 r) []:=by
 refine bC [0,1] [.tmp 4] Tryz.func26 RB λbt aj br=>ak ?_;refine ay aj λ_ bD bf af=>?_;obtain⟨U,cc,h⟩:=an h;rcases dH h with⟨da,h⟩|⟨da,h⟩
 .refine eQ (fM da) (Z0 a0 _ cc) _ ?_;refine il rfl ?_;exact aO bf [.int .i64 1]
 .obtain⟨af,cd,h⟩:=an h;refine dp (b6 [(13,.bool (!af))] (λP bg=>?_) ?_)
  ·(try simp only[aB.down,simprocAttr,(bN da)]);refine dq (Z0 a0 _ cc) (hK:= ?_);simp only[aB.down,simprocAttr,(bN da)];refine hz (aof a0 J _ cd) (hK:= ?_);simp only[aB.down,simprocAttr,(bN da)];exact bP (bN da)
  refine aC h (λcm h=>?_) λcm h=>?_
  .exact aO bf [.int .i64 1]
  .exact aL (bD _ (inl (aO aj [.int .i64 0])))
theorem Sp (a0 r) (h:Cq a0=some r):aX ah 54 [.slice (a0.map aT)] (.ae 1 (r.map aT)) []:=by
 refine bC [0] [.tmp 2] Tryz.func54 aki λbt aj br=>ak ?_;obtain⟨OO,aU,h⟩:=an h;(try simp only[fI.down,Nat.zero_add,Nat.add_zero,reduceAdd]at aU);refine c8 (R (show∀s,d_ ah s 29 0 []=some (.ae 1 [],s)from λs=>by kernel_rfl) (R (@j0 ah 29 29 2 rfl rfl) (R @j1 (R @j2 (R @gA (R @all_cons (R @all_nil (R aU (@jv _ aT 1 λ_=>rfl))))))))) _ ?_;exact cP aj [.ae 1 (a0.map aT)]
theorem AN (a0 r) (h:uU a0=some r):aX ah 27 [.slice (a0.map bs)] (.ae 3 (r.map cQ)) []:=by
 refine bC [0] [.tmp 2] Tryz.func27 akj λbt aj br=>ak ?_;refine c8 (show∀s,d_ ah s 32 0 []=some (.ae 3 [],s)from λs=>by kernel_rfl) _ ?_;refine ay aj λ_ fe dA _=>ak ?_;refine bk dA λra _ cG da _=>?_;show bn ah (.loop ?iA) _ _;have jb:∀n b4 bS,Cr a0 n b4 bS=some r->cN ah ?iA ra (ar [(0,.slice (a0.map bs)),(3,.ae 3 (b4.map cQ)),(4,.int .i64 bS)]):=by
  refine c7 λ_ jc b4 bS h=>c6 cG λ_ cT dn aZ=>ay dn λ_ dN _ bq=>ak ?_;refine aC h (λe7 h=>?_) λe7 h=>?_
  .refine aL (dN _ (inl (ay dn λ_ b2 cM _=>bk cM λ_ eH _ _ _=>?_)));obtain⟨U,dZ,h⟩:=an h;obtain⟨af,dO,h⟩:=an h;obtain⟨u16,ef,h⟩:=an h;(try simp only[fI.down,Nat.zero_add,Nat.add_zero,reduceAdd]at ef);refine Oq rfl (iP [(0,.slice (a0.map bs)),(3,.ae 3 ((b4++[(a8.mk U.cA U.Part af)]).map cQ)),(4,.int .i64 bS)] (λP bg=>?_) ?_)
   ·(try simp only[dh.down,simprocAttr,dZ,RM.down,ed,dQ,ou,ef]);refine h4 (Sp U.bK _ dO) (hK:= ?_);simp only[dh.down,simprocAttr,dZ,RM.down,ed,dQ,ou,ef];refine⟨hY (by kernel_rfl),?_⟩;(try simp only[jB.down,simprocAttr,dZ,RM.down,ed,dQ,ou,ef]at bg⊢);exact bg
   refine eH _ (b2 _ (inl (wr [(0,.slice (a0.map bs)),(3,.ae 3 ((b4++[(a8.mk U.cA U.Part af)]).map cQ)),(4,.int .i64 (i64.wrap (bS+1)))] ?_)));exact cT _ (inr ⟨_,bE rfl,jc (b4++[(a8.mk U.cA U.Part af)]) (i64.wrap (bS+1)) h⟩)
  .exact cX (bq 0 _ (aZ 0 _ (da _ (fe _ (inl (aO aj [.ae 3 (b4.map cQ)]))))))
 exact dz h λn h=>jb n [] 0 h
theorem wV (a0 r) (h:rW a0=some r):aX ah 190 [.bool a0] (.int .i64 r) []:=by
 refine bC [0] [.tmp 2] Tryz.func190 akk λbt aj br=>ak ?_;refine ay aj λ_ bD bf _=>ak ?_;refine aC h (λbT h=>?_) λbT h=>?_
 .exact aO bf [.int .i64 1]
 .exact aL (bD _ (inl (aO aj [.int .i64 0])))
theorem aoh (a0 J r) (h:J9 a0 J=some r):aX ah 191 [.slice (a0.map dY),.int .i64 J] (.int .i64 r) []:=by
 refine bC [0] [.tmp 4] Tryz.func191 akl λbt aj br=>ak ?_;refine ak ?_;refine ay aj λ_ fe dA _=>bk dA λeM _ bL bT _=>?_;show bn ah (.loop ?eR) _ _;have eZ:∀n a7 aK,Cs a0 n a7 aK=some r->cN ah ?eR eM (ar [(0,.slice (a0.map dY)),(1,.int .i64 a7),(5,.int .i64 aK)]):=by
  refine c7 λ_ eI a7 aK h=>c6 bL λ_ dP cG ba=>ay cG λ_ cT _ aZ=>ak ?_;refine aC h (λcm h=>?_) λcm h=>?_
  .refine aL (cT _ (inl (bk cG λ_ cF _ _ _=>?_)));obtain⟨U,kD,h⟩:=an h;obtain⟨af,dB,h⟩:=an h;refine eQ kD (ZW U _ dB) _ ?_;refine dD ?_;exact cF _ (dP _ (inr ⟨_,bE rfl,eI (i64.wrap (a7+1)) (i64.wrap (aK+(i64.wrap (af-1)))) h⟩))
  .exact cX (aZ 0 _ (ba 0 _ (bT _ (fe _ (inl (aO aj [.int .i64 a7]))))))
 exact dz h λn h=>eZ n J 1 h
theorem aoi (a0 J a2 r) (h:J_ a0 J a2=some r):aX ah 192 [.int .i64 a0,.int .i64 J,.int .i64 a2] (.int .i64 r) []:=by
 refine bC [0,1,2] [.tmp 6] Tryz.func192 akm λbt aj br=>ak ?_;refine ay aj λ_ bD bf af=>ak ?_;refine bk bf λ_ fi bL _ a1=>ak ?_;refine aC h (λdM h=>?_) λdM h=>?_
 .refine c8 (@x3 .i64 64 (by decide)) _ ?_;exact cP bL [.int .i64 (Int.tmod (i64.wrap (J+a2)) 64)]
 .refine ak ?_;refine aC h (λe7 h=>?_) λe7 h=>?_
  .refine c8 (@x3 .i64 64 (by decide)) _ ?_;exact cP bL [.int .i64 (Int.tmod (i64.wrap ((i64.wrap (J-a2))+64)) 64)]
  .refine ak ?_;refine aC h (λfb h=>?_) λfb h=>?_
   .refine c8 (@x3 .i64 64 (by decide)) _ ?_;exact cP bL [.int .i64 (Int.tmod (i64.wrap (J*a2)) 64)]
   .refine ak ?_;refine aC h (λe2 h=>?_) λe2 h=>?_
    .obtain⟨U,dV,h⟩:=an h;refine cS (wV (J==a2) _ dV) _ ?_;exact cP bL [.int .i64 U]
    .refine ak ?_;refine aC h (λfX h=>?_) λfX h=>?_
     .obtain⟨af,gF,h⟩:=an h;refine cS (wV (J !=a2) _ gF) _ ?_;exact cP bL [.int .i64 af]
     .refine ak ?_;refine aC h (λgp h=>?_) λgp h=>?_
      .obtain⟨aI,iv,h⟩:=an h;refine cS (wV (decide (J<a2)) _ iv) _ ?_;exact cP bL [.int .i64 aI]
      .refine ak ?_;refine aC h (λoM h=>?_) λoM h=>?_
       .obtain⟨a1,oN,h⟩:=an h;refine cS (wV (decide (J<=a2)) _ oN) _ ?_;exact cP bL [.int .i64 a1]
       .refine ak ?_;refine aC h (λhC h=>?_) λhC h=>?_
        .rcases dH h with⟨jC,h⟩|⟨jC,h⟩
         .obtain⟨ba,hU,h⟩:=an h;refine eQ jC (wV (a2 !=0) _ hU) _ ?_;exact cP bL [.int .i64 ba]
         .obtain⟨aZ,AO,h⟩:=an h;refine eQ jC (wV false _ AO) _ ?_;exact cP bL [.int .i64 aZ]
        .refine aL (fi _ (bD _ (inl ?_)));rcases dH h with⟨qv,h⟩|⟨qv,h⟩
         .obtain⟨bq,tJ,h⟩:=an h;refine eQ qv (wV true _ tJ) _ ?_;exact cP aj [.int .i64 bq]
         .obtain⟨cY,AP,h⟩:=an h;refine eQ qv (wV (a2 !=0) _ AP) _ ?_;exact cP aj [.int .i64 cY]
theorem aoj (Ct:azu->aze->Int->azh) (Sq:∀a0 J a2 r,Ct a0 J a2=some r->aX ah 158 [.slice (a0.map dY),.slice (J.map aT),.int .i64 a2] (.int .i64 r) []) (a0 J a2 r) (h:PC Ct a0 J a2=some r):aX ah 158 [.slice (a0.map dY),.slice (J.map aT),.int .i64 a2] (.int .i64 r) []:=by
 refine bC [0,1,2] [.tmp 6] Tryz.func158 akn λbt aj br=>ak ?_;refine ay aj λ_ bD bf af=>?_;obtain⟨U,cc,h⟩:=an h;refine c8 cc _ ?_;refine bk bf λ_ dP cG _ ba=>ak ?_;refine aC h (λsV h=>?_) λsV h=>?_
 .refine c8 cc _ ?_;exact cP cG [.int .i64 U.Value]
 .refine ak ?_;refine aC h (λfm h=>?_) λfm h=>?_
  .obtain⟨af,dB,h⟩:=an h;refine c8 (R cc dB) _ ?_;exact cP cG [.int .i64 af]
  .refine ak ?_;refine aC h (λhd h=>?_) λhd h=>?_
   .obtain⟨aI,cJ,h⟩:=an h;obtain⟨a1,dV,h⟩:=an h;refine dp (b6 [(6,.int .i64 a1)] (λP bg=>?_) ?_)
    ·(try simp only[aB.down,simprocAttr]);refine dq (Sq a0 J (i64.wrap (a2+1)) _ cJ) (hK:= ?_);simp only[aB.down,simprocAttr];refine dq (wV (aI==0) _ dV) (hK:= ?_);simp only[aB.down,simprocAttr];exact bP trivial
    exact cP cG [.int .i64 a1]
   .refine aL (dP _ (bD _ (inl ?_)));obtain⟨ba,e8,h⟩:=an h;refine cS (Sq a0 J (i64.wrap (a2+1)) _ e8) _ ?_;obtain⟨aZ,gF,h⟩:=an h;obtain⟨bq,fE,h⟩:=an h;refine dp (b6 [(0,.slice (a0.map dY)),(2,.int .i64 a2),(7,.int .i64 ba),(8,.int .i64 bq)] (λP bg=>?_) ?_)
    ·(try simp only[aB.down,simprocAttr]);refine dq (aoh a0 (i64.wrap (a2+1)) _ gF) (hK:= ?_);simp only[aB.down,simprocAttr];refine dq (Sq a0 J aZ _ fE) (hK:= ?_);simp only[aB.down,simprocAttr];exact bP trivial
    obtain⟨cY,mq,h⟩:=an h;refine eQ cc (aoi U.Value ba bq _ mq) _ ?_;exact cP aj [.int .i64 cY]
theorem aok:∀n a0 J a2 r,zQ n a0 J a2=some r->aX ah 158 [.slice (a0.map dY),.slice (J.map aT),.int .i64 a2] (.int .i64 r) []:=by
 intro n;induction n with
 |zero=>intro a0 J a2 r h;cases(show none=some r from h)
 |succ n ih=>intro a0 J a2 r h;exact aoj (zQ n) ih a0 J a2 r h
theorem aol (a0 J a2 r) (h:PD a0 J a2=some r):aX ah 158 [.slice (a0.map dY),.slice (J.map aT),.int .i64 a2] (.int .i64 r) []:=by
 obtain⟨n,h⟩:=lO h;exact aok n a0 J a2 r h
theorem Z1 (a0 J r) (h:zR a0 J=some r):aX ah 117 [.slice (a0.map dY),.slice (J.map aT)] (.int .i64 r) []:=by
 refine bC [0,1] [.tmp 4] Tryz.func117 c117 λbt aj br=>ak ?_;obtain⟨U,aU,h⟩:=an h;refine cS (aol a0 J 0 _ aU) _ ?_;exact cP aj [.int .i64 U]
theorem Z2 (a0 J r) (h:Gv a0 J=some r):aX ah 114 [.slice (a0.map i_),.slice (J.map aT)] (.ae 1 (r.map aT)) []:=by
 refine bC [0,1] [.tmp 4] Tryz.func114 ako λbt aj br=>ak ?_;refine c8 (show∀s,d_ ah s 29 0 []=some (.ae 1 [],s)from λs=>by kernel_rfl) _ ?_;refine ay aj λ_ fe dA _=>ak ?_;refine bk dA λra _ cG da _=>?_;show bn ah (.loop ?iA) _ _;have jb:∀n fF j7,Cu a0 J n fF j7=some r->cN ah ?iA ra (ar [(0,.slice (a0.map i_)),(1,.slice (J.map aT)),(5,.ae 1 (fF.map aT)),(6,.int .i64 j7)]):=by
  refine c7 λ_ jc fF j7 h=>c6 cG λ_ cT dn aZ=>ay dn λ_ dN _ bq=>ak ?_;refine aC h (λe7 h=>?_) λe7 h=>?_
  .refine aL (dN _ (inl (ay dn λ_ b2 cM _=>bk cM λ_ eH _ _ _=>?_)));obtain⟨U,dZ,h⟩:=an h;obtain⟨af,dO,h⟩:=an h;obtain⟨u16,ef,h⟩:=an h;(try simp only[fI.down,Nat.zero_add,Nat.add_zero,reduceAdd]at ef);refine Aw (R dZ (R (show∀s,d_ ah s 29 1 [(0,.int .i64 af)]=some (.ae 1 [.int .i64 af],s)from λs=>by kernel_rfl) (R (@j0 ah 29 29 2 rfl rfl) (R @j1 (R @j2 (R @gA (R @all_cons (R @all_nil (R ef (@jv _ aT 1 λ_=>rfl)))))))))) (Z1 U J _ dO) [(0,.slice (a0.map i_)),(1,.slice (J.map aT)),(5,.ae 1 ((fF++[af]).map aT)),(6,.int .i64 j7)] ?_;refine eH _ (b2 _ (inl (wr [(0,.slice (a0.map i_)),(1,.slice (J.map aT)),(5,.ae 1 ((fF++[af]).map aT)),(6,.int .i64 (i64.wrap (j7+1)))] ?_)));exact cT _ (inr ⟨_,bE rfl,jc (fF++[af]) (i64.wrap (j7+1)) h⟩)
  .exact cX (bq 0 _ (aZ 0 _ (da _ (fe _ (inl (aO aj [.ae 1 (fF.map aT)]))))))
 exact dz h λn h=>jb n [] 0 h
theorem aom (a0 r) (h:Gw a0=some r):aX ah 161 [.int .i64 a0] (.str r) []:=by
 refine bC [0] [.tmp 2] Tryz.func161 akp λbt aj br=>ak ?_;refine ay aj λ_ bD bf _=>ak ?_;refine aC h (λbT h=>?_) λbT h=>?_
 .exact aO bf [.str ([48]:azc)]
 .refine aL (bD _ (inl (c8 (show∀s,d_ ah s 134 0 []=some (.ae 1 [],s)from λs=>by kernel_rfl) _ ?_)));refine ay aj λ_ dN eO _=>ak ?_;refine bk eO λkb _ b8 e7 _=>?_;have lb:∀n hb hA,wv a0 n hb hA=some r->cN ah YZ kb (ar [(0,.int .i64 a0),(3,.ae 1 (hb.map ji)),(4,.int .i64 hA)]):=by
   refine c7 λm16 ld hb hA h=>c6 b8 λ_ b2 cM cp=>ay cM λ_ eH _ fc=>ak ?_;refine aC h (λfh h=>?_) λfh h=>?_
   .refine aL (eH _ (inl (ay cM λ_ eT er _=>bk er λHR fJ gK _ _=>c8 (@x3 .i64 10 (by decide)) _ ?_)));have Z3:∀wu yh uV,Ka (wv a0 m16) a0 wu yh uV=some r->bn ah YY HR (ar [(0,.int .i64 a0),(3,.ae 1 (wu.map ji)),(4,.int .i64 yh),(5,.int .i64 uV)]):=by
     intro wu yh uV h;obtain⟨Sr,e8,h⟩:=an h;(try simp only[fI.down,Nat.zero_add,Nat.add_zero,reduceAdd]at e8);refine qp (R (@Jn ah 2 5 .u8 rfl rfl) (R (show∀s,d_ ah s 134 1 [(0,.int .u8 (u8.wrap (i64.wrap (48+uV))))]=some (.ae 1 [.int .u8 (u8.wrap (i64.wrap (48+uV)))],s)from λs=>by kernel_rfl) (R (@j0 ah 134 134 5 rfl rfl) (R @j1 (R @j2 (R @gA (R @all_cons (R @all_nil (R e8 @On))))))))) [(0,.int .i64 a0),(3,.ae 1 ((wu++[(pk (i64.wrap (48+uV)))]).map ji)),(4,.int .i64 yh)] ?_;refine fJ _ (eT _ (inl (qp (@Xj .i64 10 (by decide)) [(0,.int .i64 a0),(3,.ae 1 ((wu++[(pk (i64.wrap (48+uV)))]).map ji)),(4,.int .i64 (i64.wrap (Int.tdiv yh 10)))] ?_)));exact b2 _ (inr ⟨_,bE rfl,ld (wu++[(pk (i64.wrap (48+uV)))]) (i64.wrap (Int.tdiv yh 10)) h⟩)
    refine ay gK λ_ jN _ _=>ak ?_;refine aC h (λAA h=>?_) λAA h=>?_
    .refine dD ?_;exact jN _ (inr ⟨_,bE rfl,Z3 hb hA (i64.wrap (0-(Int.tmod hA 10))) h⟩)
    .exact aL (jN _ (inr ⟨_,bE rfl,Z3 hb hA (Int.tmod hA 10) h⟩))
   .refine cX (fc 0 _ (cp 0 _ (e7 _ (dN _ (inl ?_)))));have Z4:∀o3,yi o3=some r->bn ah Y1 bt (ar [(3,.ae 1 (o3.map ji))]):=by
     intro o3 h;refine c8 (show∀s,d_ ah s 134 0 []=some (.ae 1 [],s)from λs=>by kernel_rfl) _ ?_;refine ay aj λ_ rb re _=>ak ?_;refine bk re λR2 _ HF ks _=>?_;have Ss:∀n iD h5,PF o3 n iD h5=some r->cN ah Y0 R2 (ar [(3,.ae 1 (o3.map ji)),(6,.ae 1 (iD.map ji)),(7,.int .i64 h5)]):=by
      refine c7 λ_ St iD h5 h=>c6 HF λ_ sk tE wM=>ay tE λ_ tF _ Ar=>ak ?_;refine aC h (λHI h=>?_) λHI h=>?_
      .refine aL (tF _ (inl (ay tE λ_ R5 HJ _=>bk HJ λ_ AE _ _ _=>?_)));obtain⟨U,pT,h⟩:=an h;obtain⟨aon,qs,h⟩:=an h;(try simp only[fI.down,Nat.zero_add,Nat.add_zero,reduceAdd]at qs);refine qp (R pT (R (cb pT) (R (show∀s,d_ ah s 134 1 [(0,.int .u8 (U.toNat:Int))]=some (.ae 1 [.int .u8 (U.toNat:Int)],s)from λs=>by kernel_rfl) (R (@j0 ah 134 134 5 rfl rfl) (R @j1 (R @j2 (R @gA (R @all_cons (R @all_nil (R qs @On)))))))))) [(3,.ae 1 (o3.map ji)),(6,.ae 1 ((iD++[U]).map ji)),(7,.int .i64 h5)] ?_;refine AE _ (R5 _ (inl (wr [(3,.ae 1 (o3.map ji)),(6,.ae 1 ((iD++[U]).map ji)),(7,.int .i64 (i64.wrap (h5-1)))] ?_)));exact sk _ (inr ⟨_,bE rfl,St (iD++[U]) (i64.wrap (h5-1)) h⟩)
      .refine cX (Ar 2 _ (wM 2 _ (ks _ (rb _ (inl (c8 (R ((@Xf ah 134 9 5 rfl rfl rfl).2.2) (R @Xi @Xg)) _ ?_))))));exact cP aj [.str iD]
     exact dz h λn h=>Ss n [] (i64.wrap ((o3.length:Int)-1)) h
    refine ay aj λ_ DV _ _=>ak ?_;refine aC h (λwR h=>?_) λwR h=>?_
    .obtain⟨aoo,yK,h⟩:=an h;(try simp only[fI.down,Nat.zero_add,Nat.add_zero,reduceAdd]at yK);refine qp (R (show∀s,d_ ah s 134 1 [(0,.int .u8 45)]=some (.ae 1 [.int .u8 45],s)from λs=>by kernel_rfl) (R (@j0 ah 134 134 5 rfl rfl) (R @j1 (R @j2 (R @gA (R @all_cons (R @all_nil (R yK @On)))))))) [(3,.ae 1 ((hb++[(45:UInt8)]).map ji))] ?_;exact DV _ (inr ⟨_,bE rfl,Z4 (hb++[(45:UInt8)]) h⟩)
    .exact aL (DV _ (inr ⟨_,bE rfl,Z4 hb h⟩))
  exact dz h λn h=>lb n [] a0 h
theorem aop (a0 r) (h:Kc a0=some r):aX ah 123 [.slice (a0.map aT)] (.str r) []:=by
 refine bC [0] [.tmp 2] Tryz.func123 akq λbt aj br=>ak ?_;refine ay aj λ_ bD bf af=>ak ?_;refine aC h (λbT h=>?_) λbT h=>?_
 .exact aO bf [.str ([45]:azc)]
 .refine aL (bD _ (inl (ak ?_)));refine ay aj λ_ dN eO _=>ak ?_;refine bk eO λkb _ b8 e7 _=>?_;have lb:∀n hb hA,zT a0 n hb hA=some r->cN ah Y3 kb (ar [(0,.slice (a0.map aT)),(3,.str hb),(4,.int .i64 hA)]):=by
   refine c7 λm16 ld hb hA h=>c6 b8 λ_ b2 cM cp=>ay cM λ_ eH _ fc=>ak ?_;refine aC h (λfh h=>?_) λfh h=>?_
   .refine aL (eH _ (inl (ay cM λ_ eT er _=>bk er λHR fJ gK _ _=>?_)));have Z5:∀wx wy,Kb (zT a0 m16) a0 wx wy=some r->bn ah Y2 HR (ar [(0,.slice (a0.map aT)),(3,.str wx),(4,.int .i64 wy)]):=by
     intro wx wy h;obtain⟨U,eL,h⟩:=an h;obtain⟨af,e8,h⟩:=an h;obtain⟨aoq,fY,h⟩:=an h;(try simp only[fI.down,Nat.zero_add,Nat.add_zero,reduceAdd]at fY);refine Aw (R eL (R fY (R @wa @wb))) (aom U _ e8) [(0,.slice (a0.map aT)),(3,.str (wx++af)),(4,.int .i64 wy)] ?_;refine fJ _ (eT _ (inl (wr [(0,.slice (a0.map aT)),(3,.str (wx++af)),(4,.int .i64 (i64.wrap (wy+1)))] ?_)));exact b2 _ (inr ⟨_,bE rfl,ld (wx++af) (i64.wrap (wy+1)) h⟩)
    refine ay gK λ_ lH _ _=>ak ?_;refine aC h (λgp h=>?_) λgp h=>?_
    .obtain⟨aor,iv,h⟩:=an h;(try simp only[fI.down,Nat.zero_add,Nat.add_zero,reduceAdd]at iv);refine qp (R iv (R @wa @wb)) [(0,.slice (a0.map aT)),(3,.str (hb++([44]:azc))),(4,.int .i64 hA)] ?_;exact lH _ (inr ⟨_,bE rfl,Z5 (hb++([44]:azc)) hA h⟩)
    .exact aL (lH _ (inr ⟨_,bE rfl,Z5 hb hA h⟩))
   .exact cX (fc 0 _ (cp 0 _ (e7 _ (dN _ (inl (aO aj [.str hb]))))))
  exact dz h λn h=>lb n ([]:azc) 0 h
theorem Z6 (a0 J r) (h:Gx a0 J=some r):aX ah 87 [.str a0,.slice (J.map aT)] (.str r) []:=by
 refine bC [0,1] [.tmp 4] Tryz.func87 c87 λbt aj br=>ak ?_;refine ay aj λ_ bD bf _=>ak ?_;refine aC h (λbT h=>?_) λbT h=>?_
 .exact aO bf [.str a0]
 .refine aL (bD _ (inl ?_));obtain⟨DW,cd,h⟩:=an h;(try simp only[fI.down,Nat.zero_add,Nat.add_zero,reduceAdd]at cd);obtain⟨U,fC,h⟩:=an h;obtain⟨DW,jt,h⟩:=an h;(try simp only[fI.down,Nat.zero_add,Nat.add_zero,reduceAdd]at jt);obtain⟨DW,jh,h⟩:=an h;(try simp only[fI.down,Nat.zero_add,Nat.add_zero,reduceAdd]at jh);refine eQ (R cd (R @wa (R @wb (R jt jh)))) (aop J _ fC) [(4,.str (((a0++([40]:azc))++U)++([41]:azc)))] ?_;exact cP aj [.str (((a0++([40]:azc))++U)++([41]:azc))]
theorem Z7 (a0 J r) (h:Gy a0 J=some r):aX ah 85 [.slice (a0.map aT),.slice (J.map aT)] (.bool r) []:=by
 refine bC [0,1] [.tmp 4] Tryz.func85 c85 λbt aj br=>ak ?_;refine ay aj λ_ bD bf af=>ak ?_;refine aC h (λbT h=>?_) λbT h=>?_
 .exact aO bf [.bool false]
 .refine aL (bD _ (inl (ay aj λ_ cT dn _=>ak ?_)));refine bk dn λjd _ h6 cm _=>?_;show bn ah (.loop ?hc) _ _;have hf:∀n ct,Cv a0 J n ct=some r->cN ah ?hc jd (ar [(0,.slice (a0.map aT)),(1,.slice (J.map aT)),(5,.int .i64 ct)]):=by
   refine c7 λ_ gU ct h=>c6 h6 λ_ cF b8 dm=>ay b8 λ_ b2 _ cp=>ak ?_;refine aC h (λfb h=>?_) λfb h=>?_
   .refine aL (b2 _ (inl (ay b8 λ_ fG fu _=>bk fu λ_ eT er _ _=>?_)));obtain⟨U,cJ,h⟩:=an h;obtain⟨af,dV,h⟩:=an h;refine o8 (R cJ dV) _ ?_;refine aC h (λh7 h=>?_) λh7 h=>?_
    .exact aO er [.bool false]
    .refine aL (eT _ (fG _ (inl (dD ?_))));exact cF _ (inr ⟨_,bE rfl,gU (i64.wrap (ct+1)) h⟩)
   .exact cX (cp 0 _ (dm 0 _ (cm _ (cT _ (inl (aO aj [.bool true]))))))
  exact dz h λn h=>hf n 0 h
theorem Z8 (a0 J r) (h:Cw a0 J=some r):aX ah 118 [.ref (bs a0),.ref (bs J)] (.bool r) []:=by
 refine bC [0,1] [.tmp 4] Tryz.func118 akr λbt aj br=>ak ?_;rcases dH h with⟨gj,h⟩|⟨gj,h⟩
 .rcases dH h with⟨bT,h⟩|⟨bT,h⟩
  .obtain⟨U,cZ,h⟩:=an h;refine mo (R gj bT) (Z7 a0.bK J.bK _ cZ) _ ?_;exact cP aj [.bool U]
  .refine o8 (R gj bT) _ ?_;exact cP aj [.bool false]
 .refine o8 gj _ ?_;exact cP aj [.bool false]
theorem aos (a0 J r) (h:Kd a0 J=some r):aX ah 115 [.ae 4 (a0.map df),df J] (.ae 4 (r.map df)) [.hole,.hole]:=by
 refine bC [0,1] [.tmp 4] Tryz.func115 aks λbt aj br=>ak ?_;refine ay aj λ_ bD bf af=>ak ?_;refine bk bf λeM _ bL bT _=>?_;show bn ah (.loop ?eR) _ _;have eZ:∀n aK,Cx a0 J n aK=some r->cN ah ?eR eM (ar [(0,.ae 4 (a0.map df)),(3,.aM (df J)),(5,.int .i64 aK)]):=by
  refine c7 λ_ eI aK h=>c6 bL λ_ dP cG ba=>ay cG λ_ cT _ aZ=>ak ?_;refine aC h (λcm h=>?_) λcm h=>?_
  .refine aL (cT _ (inl (ay cG λ_ cF b8 _=>bk b8 λ_ b2 cM _ _=>?_)));obtain⟨U,dB,h⟩:=an h;rcases dH h with⟨fh,h⟩|⟨fh,h⟩
   .obtain⟨af,dO,h⟩:=an h;refine ju rfl (iP [(0,.ae 4 (a0.map df)),(3,.aM (df J)),(5,.int .i64 aK),(27,.bool af)] (λP bg=>?_) ?_)
    ·(try simp only[dh.down,simprocAttr,dB,cb dB,fh]);refine lU (Z8 U.Next J.Next _ dO) rfl rfl (by simp only[dh.down,simprocAttr,dB,cb dB,fh,RN.down]<;>rfl) rfl (inr (by rfl)) ?_;simp only[dh.down,simprocAttr,dB,cb dB,fh];refine⟨hY (by kernel_rfl),?_⟩;exact bP (R dB (R (cb dB) fh))
    refine aC h (λe2 h=>?_) λe2 h=>?_
    .refine ak ?_;exact ha (cM _ (inl (hx [.ae 4 (a0.map df)] rfl (by cases eC h;rfl) (by decide) (hJ (dt (dt (hL)))))))
    .refine aL (b2 _ (cF _ (inl (dD ?_))));exact dP _ (inr ⟨_,bE rfl,eI (i64.wrap (aK+1)) h⟩)
   .refine o8 (R dB (R (cb dB) fh)) _ ?_;refine ot rfl ?_;refine aL (b2 _ (cF _ (inl (dD ?_))));exact dP _ (inr ⟨_,bE rfl,eI (i64.wrap (aK+1)) h⟩)
  .refine cX (aZ 0 _ (ba 0 _ (bT _ (bD _ (inl ?_)))));obtain⟨Sr,fY,h⟩:=an h;(try simp only[fI.down,Nat.zero_add,Nat.add_zero,reduceAdd]at fY);refine c8 (R (show∀s,d_ ah s 97 1 [(0,.agg [.str J.Label,.agg [.int .i64 J.Next.cA,.int .i64 J.Next.Part,.slice (J.Next.bK.map aT)]])]=some (.ae 4 [.agg [.str J.Label,.agg [.int .i64 J.Next.cA,.int .i64 J.Next.Part,.slice (J.Next.bK.map aT)]]],s)from λs=>by kernel_rfl) (R (@j0 ah 97 97 102 rfl rfl) (R @j1 (R @j2 (R @gA (R @all_cons (R @all_nil (R fY (@jv _ df 4 λ_=>rfl))))))))) [(4,.ae 4 ((a0++[J]).map df))] ?_;exact ha (aj _ (inl (hx [.ae 4 ((a0++[J]).map df)] rfl (by cases eC h;rfl) (by decide) (hJ (dt (dt (hL)))))))
 exact dz h λn h=>eZ n 0 h
theorem aot (mm:azw->Int->Int->aze->azB->Option azB) (LF:∀a0 J a2 a3 a4 r,mm a0 J a2 a3 a4=some r->aX ah 81 [.slice (a0.map bl),.int .i64 J,.int .i64 a2,.slice (a3.map aT),.ae 4 (a4.map df)] (.ae 4 (r.map df)) [.hole,.hole,.hole,.hole,.hole]) (a0 J a2 a3 a4 r) (h:yj mm a0 J a2 a3 a4=some r):aX ah 81 [.slice (a0.map bl),.int .i64 J,.int .i64 a2,.slice (a3.map aT),.ae 4 (a4.map df)] (.ae 4 (r.map df)) [.hole,.hole,.hole,.hole,.hole]:=by
 refine bC [0,1,2,3] [.tmp 10] Tryz.func81 akx λbt aj br=>ak ?_;obtain⟨U,aU,h⟩:=an h;refine c8 aU _ ?_;obtain⟨af,cZ,h⟩:=an h;refine c8 cZ _ ?_;refine ay aj λ_ cT dn aZ=>ak ?_;refine aC h (λcm h=>?_) λcm h=>?_
 .refine ak ?_;exact ha (dn _ (inl (hx [.ae 4 (a4.map df)] rfl (by cases eC h;rfl) (by decide) (hJ (dt (dt (dt (dt (dt (hL))))))))))
 .refine aL (cT _ (inl ?_));have AD:∀Cy,zU mm a0 J a2 a3 Cy=some r->bn ah Y6 bt (ar [(0,.slice (a0.map bl)),(1,.int .i64 J),(2,.int .i64 a2),(3,.slice (a3.map aT)),(4,.ae 4 (Cy.map df))]):=by
   intro Cy h;refine ak ?_;exact ha (aj _ (inl (hx [.ae 4 (Cy.map df)] rfl (by cases eC h;rfl) (by decide) (hJ (dt (dt (dt (dt (dt (hL))))))))))
  refine ay aj λ_ b2 cM cp=>ak ?_;refine bk cM λHS fG fu _ lY=>ak ?_;refine aC h (λe2 h=>?_) λe2 h=>?_
  .obtain⟨aI,dV,h⟩:=an h;refine eQ (R (@mZ ah 71 [(2,0),(2,1),(29,2)] [(.int .i64 0),(.int .i64 0),.bd] rfl rfl (by kernel_rfl)) (R @lV (R @lW (R @db (R @gA (R @List.nil_append.{0} @List.cons_append.{0})))))) (Sp a3 _ dV) _ ?_;have Z9:∀zV zW zX,Gz mm a3 a4 af zV zW zX=some r->bn ah Y4 HS (ar [(3,.slice (a3.map aT)),(4,.ae 4 (a4.map df)),(12,.aM (ey af)),(13,.aM (.agg [.int .i64 zV,.int .i64 zW,.ae 1 (zX.map aT)]))]):=by
    intro zV zW zX h;obtain⟨a1,fY,h⟩:=an h;obtain⟨ba,gF,h⟩:=an h;obtain⟨aZ,fE,h⟩:=an h;refine ju rfl (iP [(10,.ae 4 (aZ.map df))] (λP bg=>?_) ?_)
    ·(try simp only[dh.down,simprocAttr,Lr.down,ed,dQ,I.shares]);refine h4 (Z2 af.cl a3 _ fY) (hK:= ?_);simp only[dh.down,simprocAttr,Lr.down,ed,dQ,I.shares];refine h4 (Z6 af.Name a1 _ gF) rfl rfl (by simp only[dh.down,simprocAttr, @mZ ah 102 [(9,0),(71,1)] [(.str []),(.agg [(.int .i64 0),(.int .i64 0),.bd])] rfl rfl (by kernel_rfl),ed,lV,dQ,lW,db,gA,List.nil_append,List.cons_append,ox,ow,I.shares,cR,ov, @b0 _ aT aT (λ_=>jA _),gQ,gR,gS,cR, @b0 _ aT aT (λ_=>jA _)]<;>rfl) rfl (inr (by rfl)) ?_;simp only[dh.down,simprocAttr,Lr.down,ed,dQ,I.shares];refine Oz [⟨.h 4 [],true,_,.hole⟩,⟨.agg [.str ba,.agg [.int .i64 zV,.int .i64 zW,.slice (zX.map aT)]],false,_,.hole⟩] (aos a4 (bm.mk ba (a8.mk zV zW zX)) _ fE) rfl rfl rfl (by simp only[dh.down,simprocAttr, @mZ ah 102 [(9,0),(71,1)] [(.str []),(.agg [(.int .i64 0),(.int .i64 0),.bd])] rfl rfl (by kernel_rfl),ed,lV,dQ,lW,db,gA,List.nil_append,List.cons_append,ox,ow,I.shares,cR,ov, @b0 _ aT aT (λ_=>jA _),lX,kT,kn,gQ,gR,gS,cR,or_true,true_or, @b0 _ df df (λ_=>DO _)]) rfl rfl (inl rfl) ?_;simp only[dh.down,simprocAttr, @mZ ah 102 [(9,0),(71,1)] [(.str []),(.agg [(.int .i64 0),(.int .i64 0),.bd])] rfl rfl (by kernel_rfl),ed,lV,dQ,lW,db,gA,List.nil_append,List.cons_append,ox,ow,I.shares,cR,ov, @b0 _ aT aT (λ_=>jA _),jI];refine⟨hY (by kernel_rfl),?_⟩;exact bP Lr.down
    exact ha (fu _ (inl (hx [.ae 4 (aZ.map df)] rfl (by cases eC h;rfl) (by decide) (hJ (dt (dt (dt (dt (dt (hL))))))))))
   refine ay fu λ_ pa _ _=>?_;obtain⟨bq,mq,h⟩:=an h;refine c8 mq _ ?_;refine aC h (λpU h=>?_) λpU h=>?_
   .obtain⟨cY,tD,h⟩:=an h;refine ZB (R mq (R (@mZ ah 71 [(2,0),(2,1),(29,2)] [(.int .i64 0),(.int .i64 0),.bd] rfl rfl (by kernel_rfl)) (R @lV (R @lW (R @db (R @gA (R @List.nil_append.{0} @List.cons_append.{0}))))))) (Z2 bq.cl a3 _ tD) _ ?_;exact pa _ (inr ⟨_,bE rfl,Z9 bq.Number 0 cY h⟩)
   .exact aL (pa _ (inr ⟨_,bE rfl,Z9 J (i64.wrap (a2+1)) aI h⟩))
  .refine ak ?_;refine aC h (λiG h=>?_) λiG h=>?_
   .obtain⟨dm,HT,h⟩:=an h;refine dp (b6 [(0,.slice (a0.map bl)),(1,.int .i64 J),(2,.int .i64 a2),(3,.slice (a3.map aT)),(4,.ae 4 (dm.map df)),(11,.slice (U.Body.map ey))] (λP bg=>?_) ?_)
    ·(try simp only[aB.down,simprocAttr]);refine km [⟨.slice (a0.map bl),false,_,.hole⟩,⟨.int .i64 J,false,_,.hole⟩,⟨.int .i64 (i64.wrap (a2+1)),false,_,.hole⟩,⟨.slice (a3.map aT),false,_,.hole⟩,⟨.h 4 [],true,_,.hole⟩] (LF a0 J (i64.wrap (a2+1)) a3 a4 _ HT) rfl rfl rfl (by simp only[aB.down,simprocAttr,RO.down]) rfl rfl (inl rfl) ?_;simp only[aB.down,simprocAttr,jI];exact bP trivial
    obtain⟨cp,lI,h⟩:=an h;obtain⟨fc,hU,h⟩:=an h;refine dp (b6 [(10,.ae 4 (fc.map df))] (λP bg=>?_) ?_)
    ·(try simp only[aB.down,simprocAttr]);refine dq (ZV U.Body (i64.wrap (a2+1)) _ lI) (hK:= ?_);simp only[aB.down,simprocAttr];refine km [⟨.slice (a0.map bl),false,_,.hole⟩,⟨.int .i64 J,false,_,.hole⟩,⟨.int .i64 cp,false,_,.hole⟩,⟨.slice (a3.map aT),false,_,.hole⟩,⟨.h 4 [],true,_,.hole⟩] (LF a0 J cp a3 dm _ hU) rfl rfl rfl (by simp only[aB.down,simprocAttr,RO.down]) rfl rfl (inl rfl) ?_;simp only[aB.down,simprocAttr,jI];exact bP trivial
    exact ha (fu _ (inl (hx [.ae 4 (fc.map df)] rfl (by cases eC h;rfl) (by decide) (hJ (dt (dt (dt (dt (dt (hL))))))))))
   .refine ak ?_;refine aC h (λpb h=>?_) λpb h=>?_
    .obtain⟨ko,tJ,h⟩:=an h;obtain⟨lY,AP,h⟩:=an h;refine eQ tJ (Z1 ko a3 _ AP) _ ?_;refine aC h (λHU h=>?_) λHU h=>?_
     .obtain⟨i7,LG,h⟩:=an h;refine dp (b6 [(10,.ae 4 (i7.map df))] (λP bg=>?_) ?_)
      ·(try simp only[aB.down,simprocAttr]);refine km [⟨.slice (a0.map bl),false,_,.hole⟩,⟨.int .i64 J,false,_,.hole⟩,⟨.int .i64 (i64.wrap (a2+1)),false,_,.hole⟩,⟨.slice (a3.map aT),false,_,.hole⟩,⟨.h 4 [],true,_,.hole⟩] (LF a0 J (i64.wrap (a2+1)) a3 a4 _ LG) rfl rfl rfl (by simp only[aB.down,simprocAttr,RO.down]) rfl rfl (inl rfl) ?_;simp only[aB.down,simprocAttr,jI];exact bP trivial
      exact ha (fu _ (inl (hx [.ae 4 (i7.map df)] rfl (by cases eC h;rfl) (by decide) (hJ (dt (dt (dt (dt (dt (hL))))))))))
     .exact aL (fG _ (b2 _ (inr ⟨_,bE rfl,AD a4 h⟩)))
    .refine ak ?_;refine aC h (λwP h=>?_) λwP h=>?_
     .refine ak ?_;refine bk fu λaou _ wT yL _=>?_;have HP:∀n uW k9,Cz mm a0 J a2 a3 af n uW k9=some r->cN ah Y5 aou (ar [(0,.slice (a0.map bl)),(1,.int .i64 J),(2,.int .i64 a2),(3,.slice (a3.map aT)),(4,.ae 4 (uW.map df)),(12,.aM (ey af)),(14,.int .i64 k9)]):=by
       refine c7 λ_ HQ uW k9 h=>c6 wT λ_ o_ qt aov=>ay qt λ_ aow _ aox=>ak ?_;refine aC h (λSu h=>?_) λSu h=>?_
       .refine aL (aow _ (inl (ay qt λ_ Sv LH _=>bk LH λ_ Sw _ _ _=>?_)));obtain⟨gB,wW,h⟩:=an h;obtain⟨ayF,nN,h⟩:=an h;(try simp only[fI.down,Nat.zero_add,Nat.add_zero,reduceAdd]at nN);obtain⟨jz,AQ,h⟩:=an h;refine ik (b6 [(0,.slice (a0.map bl)),(1,.int .i64 J),(2,.int .i64 a2),(3,.slice (a3.map aT)),(4,.ae 4 (jz.map df)),(12,.aM (ey af)),(14,.int .i64 k9)] (λP bg=>?_) ?_)
        ·(try simp only[aB.down,simprocAttr,(show∀s,d_ ah s 29 1 [(0,.int .i64 k9)]=some (.ae 1 [.int .i64 k9],s)from λs=>by kernel_rfl),DP.down,nN,I.shares]);refine dq (Sp a3 _ wW) (hK:= ?_);simp only[aB.down,simprocAttr,(show∀s,d_ ah s 29 1 [(0,.int .i64 k9)]=some (.ae 1 [.int .i64 k9],s)from λs=>by kernel_rfl),DP.down,nN,I.shares];refine km [⟨.slice (a0.map bl),false,_,.hole⟩,⟨.int .i64 J,false,_,.hole⟩,⟨.int .i64 (i64.wrap (a2+1)),false,_,.hole⟩,⟨.slice ((gB++[k9]).map aT),false,_,.hole⟩,⟨.h 4 [],true,_,.hole⟩] (LF a0 J (i64.wrap (a2+1)) (gB++[k9]) uW _ AQ) rfl rfl (by simp only[aB.down,simprocAttr,(show∀s,d_ ah s 29 1 [(0,.int .i64 k9)]=some (.ae 1 [.int .i64 k9],s)from λs=>by kernel_rfl),ZE.down,nN,I.shares]) (by simp only[aB.down,simprocAttr,(show∀s,d_ ah s 29 1 [(0,.int .i64 k9)]=some (.ae 1 [.int .i64 k9],s)from λs=>by kernel_rfl), @j0 ah 29 29 2 rfl rfl,j1,j2,gA,all_cons,all_nil,nN, @jv _ aT 1 (λ_=>rfl),ox,ow,I.shares,cR,ov, @b0 _ aT aT (λ_=>jA _),lX,kT,kn,gQ,gR,gS,cR,or_true,true_or, @b0 _ df df (λ_=>DO _)]) rfl rfl (inl rfl) ?_;simp only[aB.down,simprocAttr,(show∀s,d_ ah s 29 1 [(0,.int .i64 k9)]=some (.ae 1 [.int .i64 k9],s)from λs=>by kernel_rfl),ZF.down,nN,I.shares];exact bP (R (show∀s,d_ ah s 29 1 [(0,.int .i64 k9)]=some (.ae 1 [.int .i64 k9],s)from λs=>by kernel_rfl) (R DP.down nN))
        refine Sw _ (Sv _ (inl (dD ?_)));exact o_ _ (inr ⟨_,bE rfl,HQ jz (i64.wrap (k9+1)) h⟩)
       .exact cX (aox 1 _ (aov 1 _ (yL _ (fG _ (b2 _ (inr ⟨_,bE rfl,AD uW h⟩))))))
      exact dz h λn h=>HP n a4 0 h
     .exact aL (fG _ (b2 _ (inr ⟨_,bE rfl,AD a4 h⟩)))
theorem aoy:∀n a0 J a2 a3 a4 r,rX n a0 J a2 a3 a4=some r->aX ah 81 [.slice (a0.map bl),.int .i64 J,.int .i64 a2,.slice (a3.map aT),.ae 4 (a4.map df)] (.ae 4 (r.map df)) [.hole,.hole,.hole,.hole,.hole]:=by
 intro n;induction n with
 |zero=>intro a0 J a2 a3 a4 r h;cases(show none=some r from h)
 |succ n ih=>intro a0 J a2 a3 a4 r h;exact aot (rX n) ih a0 J a2 a3 a4 r h
theorem aoz (a0 J a2 a3 a4 r) (h:Ke a0 J a2 a3 a4=some r):aX ah 81 [.slice (a0.map bl),.int .i64 J,.int .i64 a2,.slice (a3.map aT),.ae 4 (a4.map df)] (.ae 4 (r.map df)) [.hole,.hole,.hole,.hole,.hole]:=by
 obtain⟨n,h⟩:=lO h;exact aoy n a0 J a2 a3 a4 r h
theorem Z_ (a0 J r) (h:uX a0 J=some r):aX ah 55 [.slice (a0.map bl),.ref (bs J)] (.tuple [.ae 4 (r.1.map df),.bool r.2]) []:=by
 refine bC [0,1] [.tmp 4,.tmp 5] Tryz.func55 RC λbt aj br=>ak ?_;obtain⟨U,aU,h⟩:=an h;refine ju rfl (iP [(6,.ae 4 (U.map df))] (λP bg=>?_) ?_)
 ·(try simp only[dh.down,simprocAttr,(show∀s,d_ ah s 97 0 []=some (.ae 4 [],s)from λs=>by kernel_rfl)]);refine Oz [⟨.slice (a0.map bl),false,_,.hole⟩,⟨.int .i64 J.cA,false,_,.hole⟩,⟨.int .i64 J.Part,false,_,.hole⟩,⟨.slice (J.bK.map aT),false,_,.hole⟩,⟨.h 20 [],true,_,.hole⟩] (aoz a0 J.cA J.Part J.bK [] _ aU) rfl rfl rfl (by simp only[dh.down,simprocAttr,(show∀s,d_ ah s 97 0 []=some (.ae 4 [],s)from λs=>by kernel_rfl),lX,kT,kn,gQ,gR,gS,cR,or_true,true_or, @b0 _ df df (λ_=>DO _)]) rfl rfl (inl rfl) ?_;simp only[dh.down,simprocAttr,(show∀s,d_ ah s 97 0 []=some (.ae 4 [],s)from λs=>by kernel_rfl),jI];refine⟨hY (by kernel_rfl),?_⟩;exact bP (show∀s,d_ ah s 97 0 []=some (.ae 4 [],s)from λs=>by kernel_rfl)
 exact aO aj [.ae 4 (U.map df),.bool (decide ((U.length:Int)<=200))]
theorem aaa (a0 r) (h:zY a0=some r):aX ah 82 [.str a0] (.int .i64 r) []:=by
 refine bC [0] [.tmp 2] Tryz.func82 aky λbt aj br=>ak ?_;refine ay aj λ_ bD bf _=>ak ?_;refine bk bf λeM _ bL bT _=>?_;show bn ah (.loop ?eR) _ _;have eZ:∀n iQ,yk a0 n iQ=some r->cN ah ?eR eM (ar [(0,.str a0),(3,.int .i64 iQ)]):=by
  refine c7 λ_ eI iQ h=>c6 bL λ_ dP cG ba=>ay cG λ_ cT _ aZ=>ak ?_;refine aC h (λcm h=>?_) λcm h=>?_
  .refine aL (cT _ (inl (ay cG λ_ cF b8 _=>bk b8 λ_ b2 cM _ _=>?_)));obtain⟨U,dB,h⟩:=an h;refine c8 dB _ ?_;refine aC h (λfh h=>?_) λfh h=>?_
   .exact aO cM [.int .i64 iQ]
   .refine aL (b2 _ (cF _ (inl (dD ?_))));exact dP _ (inr ⟨_,bE rfl,eI (i64.wrap (iQ+1)) h⟩)
  .exact cX (aZ 0 _ (ba 0 _ (bT _ (bD _ (inl (aO aj [.int .i64 (a0.length:Int)]))))))
 exact dz h λn h=>eZ n 0 h
theorem LI (a0 r) (h:tk a0=some r):aX ah 57 [.str a0] (.str r) []:=by
 refine bC [0] [.tmp 2] Tryz.func57 akz λbt aj br=>ak ?_;obtain⟨U,aU,h⟩:=an h;obtain⟨af,cc,h⟩:=an h;refine eQ cc (aaa a0 _ aU) _ ?_;exact cP aj [.str af]
theorem Sy (a0 J r) (h:CB a0 J=some r):aX ah 56 [.slice (a0.map aN),.str J] (.int .i64 r) []:=by
 refine bC [0,1] [.tmp 4] Tryz.func56 RD λbt aj br=>ak ?_;refine ay aj λ_ bD bf _=>ak ?_;refine bk bf λeM _ bL bT _=>?_;show bn ah (.loop ?eR) _ _;have eZ:∀n aK,CA a0 J n aK=some r->cN ah ?eR eM (ar [(0,.slice (a0.map aN)),(1,.str J),(5,.int .i64 aK)]):=by
  refine c7 λ_ eI aK h=>c6 bL λ_ dP cG ba=>ay cG λ_ cT _ aZ=>ak ?_;refine aC h (λcm h=>?_) λcm h=>?_
  .refine aL (cT _ (inl (ay cG λ_ cF b8 _=>bk b8 λ_ b2 cM _ _=>?_)));obtain⟨U,dB,h⟩:=an h;refine c8 dB _ ?_;refine aC h (λfh h=>?_) λfh h=>?_
   .exact aO cM [.int .i64 aK]
   .refine aL (b2 _ (cF _ (inl (dD ?_))));exact dP _ (inr ⟨_,bE rfl,eI (i64.wrap (aK+1)) h⟩)
  .exact cX (aZ 0 _ (ba 0 _ (bT _ (bD _ (inl (aO aj [.int .i64 (-1)]))))))
 exact dz h λn h=>eZ n 0 h
theorem Sz (a0 J r) (h:CC a0 J=some r):aX ah 59 [.ref (e1 a0),.str J] (.str r) []:=by
 refine bC [0,1] [.tmp 4] Tryz.func59 c59 λbt aj br=>ak ?_;refine ay aj λ_ bD bf af=>?_;obtain⟨U,cc,h⟩:=an h;obtain⟨af,cZ,h⟩:=an h;refine ju rfl (iP [(1,.str J),(12,.bool (decide (0<=af)))] (λP bg=>?_) ?_)
 ·(try simp only[dh.down,simprocAttr]);refine h4 (LI J _ cc) (hK:= ?_);simp only[dh.down,simprocAttr];refine h4 (Sy a0.cB U _ cZ) (hK:= ?_);simp only[dh.down,simprocAttr];refine⟨hY (by kernel_rfl),?_⟩;exact bP trivial
 refine aC h (λdM h=>?_) λdM h=>?_
 .exact aO bf [.str ([116,97,117]:azc)]
 .exact aL (bD _ (inl (aO aj [.str J])))
theorem aoA (a0 J r) (h:Kf a0 J=some r):aX ah 83 [.slice (a0.map bs),.slice (J.map bs)] (.bool r) []:=by
 refine bC [0,1] [.tmp 4] Tryz.func83 akA λbt aj br=>ak ?_;refine ay aj λ_ bD bf af=>ak ?_;refine aC h (λbT h=>?_) λbT h=>?_
 .exact aO bf [.bool false]
 .refine aL (bD _ (inl (ay aj λ_ cT dn _=>ak ?_)));refine bk dn λjd _ h6 cm _=>?_;show bn ah (.loop ?hc) _ _;have hf:∀n ct,CD a0 J n ct=some r->cN ah ?hc jd (ar [(0,.slice (a0.map bs)),(1,.slice (J.map bs)),(5,.int .i64 ct)]):=by
   refine c7 λ_ gU ct h=>c6 h6 λ_ cF b8 dm=>ay b8 λ_ b2 _ cp=>ak ?_;refine aC h (λfb h=>?_) λfb h=>?_
   .refine aL (b2 _ (inl (ay b8 λ_ fG fu _=>bk fu λ_ eT er _ _=>?_)));obtain⟨U,cJ,h⟩:=an h;obtain⟨af,dV,h⟩:=an h;obtain⟨aI,eL,h⟩:=an h;refine mo (R cJ dV) (Z8 U af _ eL) _ ?_;refine aC h (λfX h=>?_) λfX h=>?_
    .exact aO er [.bool false]
    .refine aL (eT _ (fG _ (inl (dD ?_))));exact cF _ (inr ⟨_,bE rfl,gU (i64.wrap (ct+1)) h⟩)
   .exact cX (cp 0 _ (dm 0 _ (cm _ (cT _ (inl (aO aj [.bool true]))))))
  exact dz h λn h=>hf n 0 h
theorem SA (a0 J r) (h:zZ a0 J=some r):aX ah 58 [.ae 4 (a0.map gE),gE J] (.ae 4 (r.map gE)) [.hole,.hole]:=by
 refine bC [0,1] [.tmp 4] Tryz.func58 akB λbt aj br=>ak ?_;refine ay aj λ_ bD bf af=>ak ?_;refine bk bf λeM _ bL bT _=>?_;show bn ah (.loop ?eR) _ _;have eZ:∀n aK,CE a0 J n aK=some r->cN ah ?eR eM (ar [(0,.ae 4 (a0.map gE)),(3,.aM (gE J)),(5,.int .i64 aK)]):=by
  refine c7 λ_ eI aK h=>c6 bL λ_ dP cG ba=>ay cG λ_ cT _ aZ=>ak ?_;refine aC h (λcm h=>?_) λcm h=>?_
  .refine aL (cT _ (inl (ay cG λ_ cF b8 _=>bk b8 λ_ b2 cM _ _=>?_)));obtain⟨U,dB,h⟩:=an h;refine c8 (R dB (cb dB)) _ ?_;rcases dH h with⟨hd,h⟩|⟨hd,h⟩
   .rcases dH h with⟨e2,h⟩|⟨e2,h⟩
    .rcases dH h with⟨mM,h⟩|⟨mM,h⟩
     .obtain⟨af,dV,h⟩:=an h;refine eQ (R hd (R e2 mM)) (aoA U.State J.State _ dV) _ ?_;refine aC h (λh7 h=>?_) λh7 h=>?_
      .refine ak ?_;exact ha (cM _ (inl (hx [.ae 4 (a0.map gE)] rfl (by cases eC h;rfl) (by decide) (hJ (dt (dt (hL)))))))
      .refine aL (b2 _ (cF _ (inl (dD ?_))));exact dP _ (inr ⟨_,bE rfl,eI (i64.wrap (aK+1)) h⟩)
     .refine c8 (R hd (R e2 mM)) _ ?_;refine ot rfl ?_;refine aL (b2 _ (cF _ (inl (dD ?_))));exact dP _ (inr ⟨_,bE rfl,eI (i64.wrap (aK+1)) h⟩)
    .refine c8 (R hd e2) _ ?_;refine ot rfl ?_;refine aL (b2 _ (cF _ (inl (dD ?_))));exact dP _ (inr ⟨_,bE rfl,eI (i64.wrap (aK+1)) h⟩)
   .refine c8 hd _ ?_;refine ot rfl ?_;refine aL (b2 _ (cF _ (inl (dD ?_))));exact dP _ (inr ⟨_,bE rfl,eI (i64.wrap (aK+1)) h⟩)
  .refine cX (aZ 0 _ (ba 0 _ (bT _ (bD _ (inl ?_)))));obtain⟨aor,iv,h⟩:=an h;(try simp only[fI.down,Nat.zero_add,Nat.add_zero,reduceAdd]at iv);refine c8 (R (show∀s,d_ ah s 61 1 [(0,.agg [.str J.Label,.int .i64 J.n1,.int .i64 J.Second,.slice (J.State.map bs)])]=some (.ae 4 [.agg [.str J.Label,.int .i64 J.n1,.int .i64 J.Second,.slice (J.State.map bs)]],s)from λs=>by kernel_rfl) (R (@j0 ah 61 61 66 rfl rfl) (R @j1 (R @j2 (R @gA (R @all_cons (R @all_nil (R iv (@jv _ gE 4 λ_=>rfl))))))))) [(4,.ae 4 ((a0++[J]).map gE))] ?_;exact ha (aj _ (inl (hx [.ae 4 ((a0++[J]).map gE)] rfl (by cases eC h;rfl) (by decide) (hJ (dt (dt (hL)))))))
 exact dz h λn h=>eZ n 0 h
theorem aoB (a0 J r) (h:Kh a0 J=some r):aX ah 121 [.str a0,.int .u8 (J.toNat:Int)] (.ae 1 (r.map aN)) []:=by
 refine bC [0,1] [.tmp 4] Tryz.func121 akC λbt aj br=>ak ?_;refine c8 (show∀s,d_ ah s 25 0 []=some (.ae 1 [],s)from λs=>by kernel_rfl) _ ?_;refine ak ?_;refine ay aj λ_ fi bL _=>ak ?_;refine bk bL λkc _ dn dM _=>?_;show bn ah (.loop ?Av) _ _;have AR:∀n kp lB gn,z1 a0 J n kp lB gn=some r->cN ah ?Av kc (ar [(0,.str a0),(1,.int .u8 (J.toNat:Int)),(5,.ae 1 (kp.map aN)),(6,.int .i64 lB),(7,.int .i64 gn)]):=by
  refine c7 λm10 AU kp lB gn h=>c6 dn λaoC dN eO bq=>ay eO λ_ ja _ cY=>ak ?_;refine aC h (λfm h=>?_) λfm h=>?_
  .refine aL (ja _ (inl ?_));show bn ah (.seq _ ?RB) _ _;have aab:∀CF CG CH,Kg (z1 a0 J m10) a0 J CF CG CH=some r->bn ah ?RB aoC (ar [(0,.str a0),(1,.int .u8 (J.toNat:Int)),(5,.ae 1 (CF.map aN)),(6,.int .i64 CG),(7,.int .i64 CH)]):=by
    intro CF CG CH h;refine dD ?_;exact dN _ (inr ⟨_,bE rfl,AU CF CG (i64.wrap (CH+1)) h⟩)
   refine ay eO λ_ eH hT _=>bk hT λ_ fG _ _ _=>?_;obtain⟨U,ef,h⟩:=an h;refine c8 ef _ ?_;refine aC h (λmM h=>?_) λmM h=>?_
   .obtain⟨af,eL,h⟩:=an h;obtain⟨Sr,e8,h⟩:=an h;(try simp only[fI.down,Nat.zero_add,Nat.add_zero,reduceAdd]at e8);refine c8 (R eL (R (show∀s,d_ ah s 25 1 [(0,.str af)]=some (.ae 1 [.str af],s)from λs=>by kernel_rfl) (R (@j0 ah 25 25 9 rfl rfl) (R @j1 (R @j2 (R @gA (R @all_cons (R @all_nil (R e8 (@jv _ aN 1 λ_=>rfl)))))))))) [(0,.str a0),(1,.int .u8 (J.toNat:Int)),(5,.ae 1 ((kp++[af]).map aN)),(7,.int .i64 gn)] ?_;refine wr [(0,.str a0),(1,.int .u8 (J.toNat:Int)),(5,.ae 1 ((kp++[af]).map aN)),(6,.int .i64 (i64.wrap (gn+1))),(7,.int .i64 gn)] ?_;exact fG _ (eH _ (inr ⟨_,bE rfl,aab (kp++[af]) (i64.wrap (gn+1)) gn h⟩))
   .exact aL (fG _ (eH _ (inr ⟨_,bE rfl,aab kp lB gn h⟩)))
  .refine cX (cY 0 _ (bq 0 _ (dM _ (fi _ (inl ?_)))));obtain⟨aI,fE,h⟩:=an h;obtain⟨ayG,iu,h⟩:=an h;(try simp only[fI.down,Nat.zero_add,Nat.add_zero,reduceAdd]at iu);refine c8 (R fE (R (show∀s,d_ ah s 25 1 [(0,.str aI)]=some (.ae 1 [.str aI],s)from λs=>by kernel_rfl) (R (@j0 ah 25 25 9 rfl rfl) (R @j1 (R @j2 (R @gA (R @all_cons (R @all_nil (R iu (@jv _ aN 1 λ_=>rfl)))))))))) [(4,.ae 1 ((kp++[aI]).map aN))] ?_;exact cP aj [.ae 1 ((kp++[aI]).map aN)]
 exact dz h λn h=>AR n [] 0 0 h
theorem aoD (a0 r) (h:Ki a0=some r):aX ah 122 [.str a0] (.tuple [.int .i64 r.1,.bool r.2]) []:=by
 refine bC [0] [.tmp 2,.tmp 3] Tryz.func122 akD λbt aj br=>ak ?_;refine ak ?_;show bn ah (.seq _ ?Av) _ _;have SB:∀iq,CI a0 iq=some r->bn ah ?Av bt (ar [(0,.str a0),(4,.int .i64 iq)]):=by
  intro iq h;refine ay aj λ_ fi bL a1=>?_;rcases dH h with⟨dM,h⟩|⟨dM,h⟩
  .refine c8 dM _ ?_;refine il rfl ?_;exact aO bL [.int .i64 0,.bool false]
  .rcases dH h with⟨cm,h⟩|⟨cm,h⟩
   .refine c8 (R dM cm) _ ?_;refine il rfl ?_;exact aO bL [.int .i64 0,.bool false]
   .obtain⟨U,jh,h⟩:=an h;rcases dH h with⟨oL,h⟩|⟨oL,h⟩
    .refine c8 (R dM (R cm (R jh oL))) _ ?_;refine aC h (λfb h=>?_) λfb h=>?_
     .exact aO bL [.int .i64 0,.bool false]
     .refine aL (fi _ (inl (ak ?_)));refine ay aj λ_ fJ gK _=>ak ?_;refine bk gK λR1 _ kr jM _=>?_;show bn ah (.loop ?c24) _ _;have SC:∀n nI pK,wz a0 iq n nI pK=some r->cN ah ?c24 R1 (ar [(0,.str a0),(4,.int .i64 iq),(5,.int .i64 nI),(6,.int .i64 pK)]):=by
       refine c7 λm24 SD nI pK h=>c6 kr λ_ pa ri qV=>ay ri λ_ qq _ kV=>ak ?_;refine aC h (λvw h=>?_) λvw h=>?_
       .refine aL (qq _ (inl (ay ri λ_ nL nm _=>bk nm λ_ AV HV _ _=>ay HV λ_ DV yM _=>?_)));obtain⟨af,tG,h⟩:=an h;obtain⟨aI,tD,h⟩:=an h;refine eQ tG (RY af _ tD) _ ?_;refine aC h (λks h=>?_) λks h=>?_
        .exact aO yM [.int .i64 0,.bool false]
        .refine aL (DV _ (inl (qp (R tG (@Jn ah 5 2 .i64 rfl rfl)) _ ?_)));refine AV _ (nL _ (inl (dD ?_)));exact pa _ (inr ⟨_,bE rfl,SD (i64.wrap ((i64.wrap (10*nI))+(i64.wrap (u8.wrap ((af.toNat:Int)-48))))) (i64.wrap (pK+1)) h⟩)
       .refine cX (kV 0 _ (qV 0 _ (jM _ (fJ _ (inl ?_)))));show bn ah (.seq _ ?c49) _ _;have HW:∀tl,GA tl=some r->bn ah ?c49 bt (ar [(5,.int .i64 tl)]):=by
         intro tl h;exact aO aj [.int .i64 tl,.bool true]
        refine ay aj λ_ AW _ _=>ak ?_;refine aC h (λlf h=>?_) λlf h=>?_
        .refine dD ?_;exact AW _ (inr ⟨_,bE rfl,HW (i64.wrap (0-nI)) h⟩)
        .exact aL (AW _ (inr ⟨_,bE rfl,HW nI h⟩))
      exact dz h λn h=>SC n 0 iq h
    .refine c8 (R dM (R cm (R jh oL))) _ ?_;refine ot rfl ?_;refine aL (fi _ (inl (ak ?_)));refine ay aj λ_ aoE Sk _=>ak ?_;refine bk Sk λaoF _ aoG HU _=>?_;show bn ah (.loop ?c24) _ _;have SC:∀n nI pK,wz a0 iq n nI pK=some r->cN ah ?c24 aoF (ar [(0,.str a0),(4,.int .i64 iq),(5,.int .i64 nI),(6,.int .i64 pK)]):=by
      refine c7 λm24 SD nI pK h=>c6 aoG λ_ wX sl aoH=>ay sl λ_ AJ _ AK=>ak ?_;refine aC h (λwP h=>?_) λwP h=>?_
      .refine aL (AJ _ (inl (ay sl λ_ SE aoI _=>bk aoI λ_ AL wT _ _=>ay wT λ_ o_ qt _=>?_)));obtain⟨a1,rh,h⟩:=an h;obtain⟨ba,AM,h⟩:=an h;refine eQ rh (RY a1 _ AM) _ ?_;refine aC h (λSF h=>?_) λSF h=>?_
       .exact aO qt [.int .i64 0,.bool false]
       .refine aL (o_ _ (inl (qp (R rh (@Jn ah 5 2 .i64 rfl rfl)) _ ?_)));refine AL _ (SE _ (inl (dD ?_)));exact wX _ (inr ⟨_,bE rfl,SD (i64.wrap ((i64.wrap (10*nI))+(i64.wrap (u8.wrap ((a1.toNat:Int)-48))))) (i64.wrap (pK+1)) h⟩)
      .refine cX (AK 0 _ (aoH 0 _ (HU _ (aoE _ (inl ?_)))));show bn ah (.seq _ ?c49) _ _;have HW:∀tl,GA tl=some r->bn ah ?c49 bt (ar [(5,.int .i64 tl)]):=by
        intro tl h;exact aO aj [.int .i64 tl,.bool true]
       refine ay aj λ_ LJ _ _=>ak ?_;refine aC h (λR_ h=>?_) λR_ h=>?_
       .refine dD ?_;exact LJ _ (inr ⟨_,bE rfl,HW (i64.wrap (0-nI)) h⟩)
       .exact aL (LJ _ (inr ⟨_,bE rfl,HW nI h⟩))
     exact dz h λn h=>SC n 0 iq h
 refine ay aj λ_ fe _ aI=>?_;rcases dH h with⟨AH,h⟩|⟨AH,h⟩
 .obtain⟨aZ,aoJ,h⟩:=an h;refine c8 (R AH aoJ) _ ?_;refine aC h (λaoK h=>?_) λaoK h=>?_
  .refine dD ?_;exact fe _ (inr ⟨_,bE rfl,SB 1 h⟩)
  .exact aL (fe _ (inr ⟨_,bE rfl,SB 0 h⟩))
 .refine c8 AH _ ?_;refine ot rfl ?_;exact aL (fe _ (inr ⟨_,bE rfl,SB 0 h⟩))
theorem aac (a0 r) (h:z7 a0=some r):aX ah 84 [.str a0] (.tuple [.ae 1 (r.1.map aT),.bool r.2]) []:=by
 refine bC [0] [.tmp 2,.tmp 3] Tryz.func84 akE λbt aj br=>ak ?_;obtain⟨U,aU,h⟩:=an h;refine cS (aaa a0 _ aU) _ ?_;refine ay aj λ_ fi bL a1=>ak ?_;refine aC h (λdM h=>?_) λdM h=>?_
 .obtain⟨af,fC,h⟩:=an h;refine eQ (show∀s,d_ ah s 29 0 []=some (.ae 1 [],s)from λs=>by kernel_rfl) (DR a0 _ fC) _ ?_;exact cP bL [.ae 1 [],.bool af]
 .refine aL (fi _ (inl (ay aj λ_ cF b8 dm=>?_)));obtain⟨aI,kD,h⟩:=an h;obtain⟨a1,dB,h⟩:=an h;rcases dH h with⟨fh,h⟩|⟨fh,h⟩
  .refine eQ (R kD (fM fh)) (so aI _ dB) _ ?_;refine il rfl ?_;refine ak ?_;exact ha (b8 _ (inr ⟨[(2,.ae 1 []),(3,.bool false)],hH [] rfl (gz (t:=2) (d:=.bd) rfl rfl (.hv _) (by decide) (cz rfl (hI))),qd [.ae 1 [],.bool false]⟩))
  .obtain⟨ba,ef,h⟩:=an h;refine eQ (R kD (R (bN fh) ef)) (so aI _ dB) _ ?_;refine aC h (λmM h=>?_) λmM h=>?_
   .refine ak ?_;exact ha (b8 _ (inr ⟨[(2,.ae 1 []),(3,.bool false)],hH [] rfl (gz (t:=2) (d:=.bd) rfl rfl (.hv _) (by decide) (cz rfl (hI))),qd [.ae 1 [],.bool false]⟩))
   .refine aL (cF _ (inl ?_));obtain⟨aZ,e8,h⟩:=an h;obtain⟨bq,fY,h⟩:=an h;refine eQ e8 (aoB aZ (44:UInt8) _ fY) _ ?_;refine c8 (show∀s,d_ ah s 29 0 []=some (.ae 1 [],s)from λs=>by kernel_rfl) _ ?_;refine ay aj λ_ nL nm _=>ak ?_;refine bk nm λSG _ yM h0 _=>?_;show bn ah (.loop ?c28) _ _;have aoL:∀n pL rY,z6 bq n pL rY=some r->cN ah ?c28 SG (ar [(5,.ae 1 (bq.map aN)),(6,.ae 1 (pL.map aT)),(7,.int .i64 rY)]):=by
     refine c7 λ_ aoM pL rY h=>c6 yM λ_ AX qu jl=>ay qu λ_ rb _ n3=>ak ?_;refine aC h (λks h=>?_) λks h=>?_
     .refine aL (rb _ (inl (ay qu λ_ sk tE _=>bk tE λ_ tF HN _ _=>?_)));obtain⟨cY,wU,h⟩:=an h;obtain⟨dm,lI,h⟩:=an h;refine eQ (R wU (cb wU)) (aoD cY _ lI) _ ?_;refine ay HN λ_ AE AF _=>?_;rcases dH h with⟨pb,h⟩|⟨pb,h⟩
      .refine c8 (fM pb) _ ?_;refine il rfl ?_;refine ak ?_;exact ha (AF _ (inr ⟨[(2,.ae 1 []),(3,.bool false)],hH [] rfl (gz (t:=2) (d:=.bd) rfl rfl (.hv _) (by decide) (cz rfl (hI))),qd [.ae 1 [],.bool false]⟩))
      .obtain⟨cp,tJ,h⟩:=an h;refine eQ (bN pb) (o9 dm.1 0 63 _ tJ) _ ?_;refine aC h (λwY h=>?_) λwY h=>?_
       .refine ak ?_;exact ha (AF _ (inr ⟨[(2,.ae 1 []),(3,.bool false)],hH [] rfl (gz (t:=2) (d:=.bd) rfl rfl (.hv _) (by decide) (cz rfl (hI))),qd [.ae 1 [],.bool false]⟩))
       .refine aL (AE _ (inl ?_));obtain⟨aoo,LG,h⟩:=an h;(try simp only[fI.down,Nat.zero_add,Nat.add_zero,reduceAdd]at LG);refine qp (R (show∀s,d_ ah s 29 1 [(0,.int .i64 dm.1)]=some (.ae 1 [.int .i64 dm.1],s)from λs=>by kernel_rfl) (R (@j0 ah 29 29 2 rfl rfl) (R @j1 (R @j2 (R @gA (R @all_cons (R @all_nil (R LG (@jv _ aT 1 λ_=>rfl))))))))) [(5,.ae 1 (bq.map aN)),(6,.ae 1 ((pL++[dm.1]).map aT)),(7,.int .i64 rY)] ?_;refine tF _ (sk _ (inl (wr [(5,.ae 1 (bq.map aN)),(6,.ae 1 ((pL++[dm.1]).map aT)),(7,.int .i64 (i64.wrap (rY+1)))] ?_)));exact AX _ (inr ⟨_,bE rfl,aoM (pL++[dm.1]) (i64.wrap (rY+1)) h⟩)
     .exact cX (n3 0 _ (jl 0 _ (h0 _ (nL _ (inl (aO aj [.ae 1 (pL.map aT),.bool (decide ((pL.length:Int)<=2))]))))))
    exact dz h λn h=>aoL n [] 0 h
theorem aoN (uY:azy->azc->azc->Option azc) (aoO:∀a0 J a2 r,uY a0 J a2=some r->aX ah 86 [.slice (a0.map bI),.str J,.str a2] (.str r) []) (a0 J a2 r) (h:z8 uY a0 J a2=some r):aX ah 86 [.slice (a0.map bI),.str J,.str a2] (.str r) []:=by
 refine bC [0,1,2] [.tmp 6] Tryz.func86 akF λbt aj br=>ak ?_;refine ay aj λ_ bD bf af=>ak ?_;refine aC h (λbT h=>?_) λbT h=>?_
 .obtain⟨U,cv,h⟩:=an h;refine cS (aoO a0 a2 J _ cv) _ ?_;exact cP bf [.str U]
 .refine aL (bD _ (inl (ay aj λ_ dN eO _=>ak ?_)));refine bk eO λkb _ b8 e7 _=>?_;show bn ah (.loop ?hc) _ _;have hf:∀n tm,CJ uY a0 J a2 n tm=some r->cN ah ?hc kb (ar [(0,.slice (a0.map bI)),(1,.str J),(2,.str a2),(7,.int .i64 tm)]):=by
   refine c7 λ_ gU tm h=>c6 b8 λ_ b2 cM cp=>ay cM λ_ eH _ fc=>ak ?_;refine aC h (λfh h=>?_) λfh h=>?_
   .refine aL (eH _ (inl (ay cM λ_ eT er _=>bk er λ_ fJ gK _ _=>?_)));obtain⟨af,dV,h⟩:=an h;refine Lq (af.Left==J) dV [(0,.slice (a0.map bI)),(1,.str J),(2,.str a2),(7,.int .i64 tm),(36,.bool ((af.Left==J)&&(af.cH==a2)))] ?_;refine aC h (λh7 h=>?_) λh7 h=>?_
    .refine c8 dV _ ?_;exact cP gK [.str af.Result]
    .refine aL (fJ _ (eT _ (inl (dD ?_))));exact b2 _ (inr ⟨_,bE rfl,gU (i64.wrap (tm+1)) h⟩)
   .exact cX (fc 0 _ (cp 0 _ (e7 _ (dN _ (inl (aO aj [.str ([]:azc)]))))))
  exact dz h λn h=>hf n 0 h
theorem aoP:∀n a0 J a2 r,CK n a0 J a2=some r->aX ah 86 [.slice (a0.map bI),.str J,.str a2] (.str r) []:=by
 intro n;induction n with
 |zero=>intro a0 J a2 r h;cases(show none=some r from h)
 |succ n ih=>intro a0 J a2 r h;exact aoN (CK n) ih a0 J a2 r h
theorem aoQ (a0 J a2 r) (h:GB a0 J a2=some r):aX ah 86 [.slice (a0.map bI),.str J,.str a2] (.str r) []:=by
 obtain⟨n,h⟩:=lO h;exact aoP n a0 J a2 r h
theorem aoR (a0 J a2 r) (h:Kj a0 J a2=some r):aX ah 60 [.ref (e1 a0),.str J,.str a2] (.str r) []:=by
 refine bC [0,1,2] [.tmp 6] Tryz.func60 akG λbt aj br=>ak ?_;obtain⟨U,aU,h⟩:=an h;refine cS (aac J _ aU) _ ?_;obtain⟨af,cZ,h⟩:=an h;refine cS (aac a2 _ cZ) _ ?_;refine ay aj λ_ cT dn aZ=>?_;obtain⟨aI,fC,h⟩:=an h;refine dp (b6 [(0,.ref (e1 a0)),(1,.str J),(2,.str a2),(7,.ae 1 (U.1.map aT)),(25,.bool (!aI))] (λP bg=>?_) ?_)
 ·(try simp only[aB.down,simprocAttr]);refine dq (Z7 U.1 af.1 _ fC) rfl rfl (by simp only[aB.down,simprocAttr,RN.down]<;>rfl) rfl (inr (by rfl)) ?_;simp only[aB.down,simprocAttr];exact bP trivial
 refine aC h (λe7 h=>?_) λe7 h=>?_
 .exact aO dn [.str ([]:azc)]
 .refine aL (cT _ (inl ?_));obtain⟨a1,dB,h⟩:=an h;obtain⟨ba,dZ,h⟩:=an h;obtain⟨aZ,dO,h⟩:=an h;refine ju rfl (iP [(0,.ref (e1 a0)),(7,.ae 1 (U.1.map aT)),(11,.str aZ)] (λP bg=>?_) ?_)
  ·(try simp only[dh.down,simprocAttr]);refine h4 (LI J _ dB) (hK:= ?_);simp only[dh.down,simprocAttr];refine h4 (LI a2 _ dZ) (hK:= ?_);simp only[dh.down,simprocAttr];refine h4 (aoQ a0.b_ a1 ba _ dO) (hK:= ?_);simp only[dh.down,simprocAttr];refine⟨hY (by kernel_rfl),?_⟩;exact bP trivial
  refine ay aj λ_ fJ gK _=>?_;rcases dH h with⟨jM,h⟩|⟨jM,h⟩
  .refine c8 jM _ ?_;refine il rfl ?_;exact aO gK [.str ([]:azc)]
  .obtain⟨bq,e8,h⟩:=an h;refine eQ jM (Sy a0.cD aZ _ e8) _ ?_;refine aC h (λgr h=>?_) λgr h=>?_
   .exact aO gK [.str ([]:azc)]
   .refine aL (fJ _ (inl ?_));obtain⟨cY,iu,h⟩:=an h;refine dp (b6 [(6,.str cY)] (λP bg=>?_) ?_)
    ·(try simp only[aB.down,simprocAttr]);refine dq (Z6 aZ U.1 _ iu) rfl rfl (by simp only[aB.down,simprocAttr,Ls.down]<;>rfl) rfl (inr (by rfl)) ?_;simp only[aB.down,simprocAttr];exact bP trivial
    exact cP aj [.str cY]
theorem aoS (bu bz bw bY bW J r) (h:Kn bu bz bw bY bW J=some r):aX ah 28 [.aM (.agg [.slice (bu.map bl),.slice (bz.map dj),.slice (bw.map bI),.slice (bY.map aN),.slice (bW.map aN)]),.slice (J.map bs)] (.tuple [.ae 4 (r.1.map gE),.bool r.2]) [.aM (.agg [.slice (bu.map bl),.slice (bz.map dj),.slice (bw.map bI),.slice (bY.map aN),.slice (bW.map aN)]),.hole]:=by
 refine bC [0,1] [.tmp 4,.tmp 5] Tryz.func28 akL λbt aj br=>ak ?_;refine c8 (show∀s,d_ ah s 61 0 []=some (.ae 4 [],s)from λs=>by kernel_rfl) _ ?_;refine c8 (show∀s,d_ ah s 96 0 []=some (.ae 1 [],s)from λs=>by kernel_rfl) _ ?_;refine ay aj λ_ fi bL a1=>ak ?_;refine bk bL λkc _ dn dM aZ=>?_;have AR:∀n gn qf,wD J bu bz bw bY bW n gn qf=some r->cN ah Y7 kc (ar [(0,.aM (.agg [.slice (bu.map bl),.slice (bz.map dj),.slice (bw.map bI),.slice (bY.map aN),.slice (bW.map aN)])),(1,.slice (J.map bs)),(6,.ae 4 []),(7,.ae 1 (gn.map gq)),(8,.int .i64 qf)]):=by
  refine c7 λ_ AU gn qf h=>c6 dn λ_ dN eO bq=>ay eO λ_ ja _ cY=>ak ?_;refine aC h (λfm h=>?_) λfm h=>?_
  .refine aL (ja _ (inl (ay eO λ_ eH hT fc=>bk hT λ_ hB l4 _ ko=>?_)));obtain⟨U,dO,h⟩:=an h;obtain⟨af,ef,h⟩:=an h;refine ah2 10 11 [0,1,2,3,4,5,6,7,8,9,11,10,12] rfl rfl [(0,.aM (.agg [.slice (bu.map bl),.slice (bz.map dj),.slice (bw.map bI),.slice (bY.map aN),.slice (bW.map aN)])),(1,.slice (J.map bs)),(6,.ae 4 []),(7,.ae 1 (gn.map gq)),(8,.int .i64 qf),(9,.ae 4 (af.1.map df)),(10,.bool af.2)] (λP bg=>?_) (λP bg=>?_) ?_
   ·(try simp only[dh.down,simprocAttr,dO,B6]);refine h4 (Z_ bu U _ ef) (hK:= ?_);simp only[dh.down,simprocAttr,dO,B6];refine⟨hY (by kernel_rfl),?_⟩;exact bP (R dO @B6)
   .simp only[wg,List.map_cons,List.map_nil,List.getD_cons_zero,List.getD_cons_succ,simprocAttr];(try simp only[dh.down,simprocAttr,dO,B6]);refine h4 (Z_ bu U _ ef) (hK:= ?_);simp only[dh.down,simprocAttr,dO,B6];refine⟨hY (by kernel_rfl),?_⟩;exact bP (R dO @B6)
   refine ay l4 λ_ lH n8 jz=>ak ?_;refine aC h (λh7 h=>?_) λh7 h=>?_
   .refine ak ?_;exact ha (n8 _ (inr ⟨[(4,.ae 4 []),(5,.bool false),(0,.aM (.agg [.slice (bu.map bl),.slice (bz.map dj),.slice (bw.map bI),.slice (bY.map aN),.slice (bW.map aN)]))],hH [] rfl (gz (t:=4) (d:=.bd) rfl rfl (.hv _) (by decide) (cz rfl (cz rfl (hI)))),hx [.ae 4 [],.bool false] rfl (by cases eC h;rfl) (by decide) (hJ (jw (by cases eC h;rfl) rfl rfl rfl (dt (hL))))⟩))
   .refine aL (lH _ (inr ⟨[(0,.aM (.agg [.slice (bu.map bl),.slice (bz.map dj),.slice (bw.map bI),.slice (bY.map aN),.slice (bW.map aN)])),(1,.slice (J.map bs)),(6,.ae 4 []),(7,.ae 1 (gn.map gq)),(8,.int .i64 qf),(9,.slice (af.1.map df)),(41,.bool (!af.2))],hH [] rfl (cz rfl (cz rfl (cz rfl (cz rfl (cz rfl (gz (t:=9) (d:=.ae 4 (af.1.map df)) (bM:=.slice (af.1.map df)) rfl rfl (x5 rfl rfl (by simp only[cR,I.share,I.shares, @b0 _ df df (λ_=>DO _)]<;>rfl)) (by decide) (cz rfl (hI)))))))),?_⟩));obtain⟨aoT,gF,h⟩:=an h;(try simp only[fI.down,Nat.zero_add,Nat.add_zero,reduceAdd]at gF);refine qp (R (show∀s,d_ ah s 96 1 [(0,.slice (af.1.map df))]=some (.ae 1 [.slice (af.1.map df)],s)from λs=>by kernel_rfl) (R (@j0 ah 96 96 97 rfl rfl) (R @j1 (R @j2 (R @gA (R @all_cons (R @all_nil (R gF (@jv _ gq 1 λ_=>rfl))))))))) [(0,.aM (.agg [.slice (bu.map bl),.slice (bz.map dj),.slice (bw.map bI),.slice (bY.map aN),.slice (bW.map aN)])),(1,.slice (J.map bs)),(6,.ae 4 []),(7,.ae 1 ((gn++[af.1]).map gq)),(8,.int .i64 qf)] ?_;refine hB _ (eH _ (inl (wr [(0,.aM (.agg [.slice (bu.map bl),.slice (bz.map dj),.slice (bw.map bI),.slice (bY.map aN),.slice (bW.map aN)])),(1,.slice (J.map bs)),(6,.ae 4 []),(7,.ae 1 ((gn++[af.1]).map gq)),(8,.int .i64 (i64.wrap (qf+1)))] ?_)));exact dN _ (inr ⟨_,bE rfl,AU (gn++[af.1]) (i64.wrap (qf+1)) h⟩)
  .refine cX (cY 0 _ (bq 0 _ (dM _ (fi _ (inl (ay aj λ_ AV HV lC=>ak ?_))))));refine bk HV λSb _ qu pU jl=>?_;have aoU:∀n u5 u6 wC,tr J bu bz bw bY bW n u5 u6 wC=some r->cN ah Y_ Sb (ar [(0,.aM (.agg [.slice (bu.map bl),.slice (bz.map dj),.slice (bw.map bI),.slice (bY.map aN),.slice (bW.map aN)])),(1,.slice (J.map bs)),(6,.ae 4 (u5.map gE)),(7,.ae 1 (u6.map gq)),(11,.int .i64 wC)]):=by
    refine c7 λSH aoV u5 u6 wC h=>c6 qu λ_ rb re n3=>ay re λ_ HM _ pM=>ak ?_;refine aC h (λiG h=>?_) λiG h=>?_
    .refine aL (HM _ (inl (ay re λ_ tF HN _=>bk HN λ_ Se Sf _ _=>ak ?_)));refine bk Sf λaoW _ HJ jC _=>?_;have Ss:∀n iD h5 hZ lZ,yl (tr J bu bz bw bY bW SH) J bu bz bw bY bW n iD h5 hZ lZ=some r->cN ah Y9 aoW (ar [(0,.aM (.agg [.slice (bu.map bl),.slice (bz.map dj),.slice (bw.map bI),.slice (bY.map aN),.slice (bW.map aN)])),(1,.slice (J.map bs)),(6,.ae 4 (iD.map gE)),(7,.ae 1 (h5.map gq)),(11,.int .i64 hZ),(12,.int .i64 lZ)]):=by
      refine c7 λaoX St iD h5 hZ lZ h=>c6 HJ λaoY AE AF As=>ay AF λ_ aoZ _ DN=>?_;obtain⟨aI,qs,h⟩:=an h;refine c8 (R qs (cb qs)) _ ?_;refine aC h (λHK h=>?_) λHK h=>?_
      .refine aL (aoZ _ (inl ?_));have SI:∀CL CM CN CO,GC (tr J bu bz bw bY bW SH) (yl (tr J bu bz bw bY bW SH) J bu bz bw bY bW aoX) J bu bz bw bY bW CL CM CN CO=some r->bn ah Y8 aoY (ar [(0,.aM (.agg [.slice (bu.map bl),.slice (bz.map dj),.slice (bw.map bI),.slice (bY.map aN),.slice (bW.map aN)])),(1,.slice (J.map bs)),(6,.ae 4 (CL.map gE)),(7,.ae 1 (CM.map gq)),(11,.int .i64 CN),(12,.int .i64 CO)]):=by
        intro CL CM CN CO h;refine dD ?_;exact AE _ (inr ⟨_,bE rfl,St CL CM CN (i64.wrap (CO+1)) h⟩)
       refine ay AF λ_ wQ yH _=>bk yH λ_ wX sl wR _=>?_;obtain⟨a1,yK,h⟩:=an h;refine c8 (R qs (R (cb qs) yK)) _ ?_;refine ay sl λ_ yJ _ HX=>?_;rcases dH h with⟨yL,h⟩|⟨yL,h⟩
       .obtain⟨ba,HY,h⟩:=an h;obtain⟨aZ,SJ,h⟩:=an h;refine ju rfl (iP [(0,.aM (.agg [.slice (bu.map bl),.slice (bz.map dj),.slice (bw.map bI),.slice (bY.map aN),.slice (bW.map aN)])),(1,.slice (J.map bs)),(6,.ae 4 (iD.map gE)),(7,.ae 1 (h5.map gq)),(11,.int .i64 hZ),(12,.int .i64 lZ),(13,.aM (df a1)),(81,.bool (decide (aZ<0)))] (λP bg=>?_) ?_)
        ·(try simp only[dh.down,simprocAttr,yL]);refine lU (LI a1.Label _ HY) (hK:= ?_);simp only[dh.down,simprocAttr,yL];refine lU (Sy bY ba _ SJ) (hK:= ?_);simp only[dh.down,simprocAttr,yL];refine⟨hY (by kernel_rfl),?_⟩;exact bP yL
        refine aC h (λR6 h=>?_) λR6 h=>?_
        .exact cX (HX 5 _ (wR _ (wQ _ (inr ⟨_,bE rfl,SI iD h5 hZ lZ h⟩))))
        .refine aL (yJ _ (inl ?_));obtain⟨bq,wZ,h⟩:=an h;refine ml (b6 (K:=eS _) [(0,.aM (.agg [.slice (bu.map bl),.slice (bz.map dj),.slice (bw.map bI),.slice (bY.map aN),.slice (bW.map aN)])),(1,.slice (J.map bs)),(6,.ae 4 (iD.map gE)),(7,.ae 1 (h5.map gq)),(11,.int .i64 hZ),(12,.int .i64 lZ),(13,.aM (df a1)),(14,.ae 3 (bq.map cQ))] (λP bg=>?_) (Js [(0,.aM (.agg [.slice (bu.map bl),.slice (bz.map dj),.slice (bw.map bI),.slice (bY.map aN),.slice (bW.map aN)])),(1,.slice (J.map bs)),(6,.ae 4 (iD.map gE)),(7,.ae 1 (h5.map gq)),(11,.int .i64 hZ),(12,.int .i64 lZ),(13,.aM (df a1)),(14,.ae 3 (bq.map bs))] (hH [] rfl (cz rfl (cz rfl (cz rfl (cz rfl (cz rfl (cz rfl (cz rfl (gz (t:=14) (d:=.ae 3 (bq.map cQ)) (bM:=.ae 3 (bq.map bs)) rfl rfl (.ae (Jw (λ_=>x5 rfl rfl (nK _)) _)) (by decide) (hI)))))))))) ?_))
         ·(try simp only[aB.down,simprocAttr]);refine dq (AN J _ wZ) (hK:= ?_);simp only[aB.down,simprocAttr];exact bP trivial
         obtain⟨cY,DX,h⟩:=an h;refine dp (b6 [(0,.aM (.agg [.slice (bu.map bl),.slice (bz.map dj),.slice (bw.map bI),.slice (bY.map aN),.slice (bW.map aN)])),(1,.slice (J.map bs)),(6,.ae 4 (iD.map gE)),(7,.ae 1 (h5.map gq)),(11,.int .i64 hZ),(12,.int .i64 lZ),(13,.aM (df a1)),(14,.ae 3 ((List.set bq (Int.toNat hZ) a1.Next).map bs))] (λP bg=>?_) ?_)
         .simp only[aB.down,simprocAttr,DX,cb DX,db,dk];exact bP (R DX (R (cb DX) @db))
         obtain⟨dm,nN,h⟩:=an h;obtain⟨cp,AQ,h⟩:=an h;obtain⟨fc,w1,h⟩:=an h;refine ik (b6 [(0,.aM (.agg [.slice (bu.map bl),.slice (bz.map dj),.slice (bw.map bI),.slice (bY.map aN),.slice (bW.map aN)])),(1,.slice (J.map bs)),(6,.ae 4 (fc.map gE)),(7,.ae 1 (h5.map gq)),(11,.int .i64 hZ),(12,.int .i64 lZ)] (λP bg=>?_) ?_)
         ·(try simp only[aB.down,simprocAttr,sf.down,ed,dQ,I.shares]);refine dq (Sz (cL.mk bu bz bw bY bW) a1.Label _ nN) rfl rfl (by simp only[aB.down,simprocAttr,RP.down,ed,dQ,I.shares]<;>rfl) rfl (inr (by rfl)) ?_;simp only[aB.down,simprocAttr,sf.down,ed,dQ,I.shares];refine dq (AN (List.set bq (Int.toNat hZ) a1.Next) _ AQ) rfl rfl (by simp only[aB.down,simprocAttr,RQ.down,ed,dQ,I.shares]<;>rfl) rfl (inr (jZ (λ_=>yz _) _)) ?_;simp only[aB.down,simprocAttr,sf.down,ed,dQ,I.shares];refine km [⟨.h 6 [],true,_,.hole⟩,⟨.agg [.str dm,.int .i64 hZ,.int .i64 (-1),.slice (cp.map bs)],false,_,.hole⟩] (SA iD (bp.mk dm hZ (-1) cp) _ w1) rfl rfl rfl (by simp only[aB.down,simprocAttr,RR.down,ed,dQ,I.shares]) rfl rfl (inl rfl) ?_;simp only[aB.down,simprocAttr,RS.down,ed,dQ,I.shares];exact bP sf.down
         exact wX _ (wQ _ (inr ⟨_,bE rfl,SI fc h5 hZ lZ h⟩))
       .refine o8 yL _ ?_;refine ot rfl ?_;refine aL (yJ _ (inl ?_));obtain⟨ko,sq,h⟩:=an h;refine ml (b6 (K:=eS _) [(0,.aM (.agg [.slice (bu.map bl),.slice (bz.map dj),.slice (bw.map bI),.slice (bY.map aN),.slice (bW.map aN)])),(1,.slice (J.map bs)),(6,.ae 4 (iD.map gE)),(7,.ae 1 (h5.map gq)),(11,.int .i64 hZ),(12,.int .i64 lZ),(13,.aM (df a1)),(14,.ae 3 (ko.map cQ))] (λP bg=>?_) (Js [(0,.aM (.agg [.slice (bu.map bl),.slice (bz.map dj),.slice (bw.map bI),.slice (bY.map aN),.slice (bW.map aN)])),(1,.slice (J.map bs)),(6,.ae 4 (iD.map gE)),(7,.ae 1 (h5.map gq)),(11,.int .i64 hZ),(12,.int .i64 lZ),(13,.aM (df a1)),(14,.ae 3 (ko.map bs))] (hH [] rfl (cz rfl (cz rfl (cz rfl (cz rfl (cz rfl (cz rfl (cz rfl (gz (t:=14) (d:=.ae 3 (ko.map cQ)) (bM:=.ae 3 (ko.map bs)) rfl rfl (.ae (Jw (λ_=>x5 rfl rfl (nK _)) _)) (by decide) (hI)))))))))) ?_))
        ·(try simp only[aB.down,simprocAttr]);refine dq (AN J _ sq) (hK:= ?_);simp only[aB.down,simprocAttr];exact bP trivial
        obtain⟨lY,DY,h⟩:=an h;refine dp (b6 [(0,.aM (.agg [.slice (bu.map bl),.slice (bz.map dj),.slice (bw.map bI),.slice (bY.map aN),.slice (bW.map aN)])),(1,.slice (J.map bs)),(6,.ae 4 (iD.map gE)),(7,.ae 1 (h5.map gq)),(11,.int .i64 hZ),(12,.int .i64 lZ),(13,.aM (df a1)),(14,.ae 3 ((List.set ko (Int.toNat hZ) a1.Next).map bs))] (λP bg=>?_) ?_)
        .simp only[aB.down,simprocAttr,DY,cb DY,db,dk];exact bP (R DY (R (cb DY) @db))
        obtain⟨i7,HL,h⟩:=an h;obtain⟨gB,ao0,h⟩:=an h;obtain⟨jz,AY,h⟩:=an h;refine ik (b6 [(0,.aM (.agg [.slice (bu.map bl),.slice (bz.map dj),.slice (bw.map bI),.slice (bY.map aN),.slice (bW.map aN)])),(1,.slice (J.map bs)),(6,.ae 4 (jz.map gE)),(7,.ae 1 (h5.map gq)),(11,.int .i64 hZ),(12,.int .i64 lZ)] (λP bg=>?_) ?_)
        ·(try simp only[aB.down,simprocAttr,sf.down,ed,dQ,I.shares]);refine dq (Sz (cL.mk bu bz bw bY bW) a1.Label _ HL) rfl rfl (by simp only[aB.down,simprocAttr,RP.down,ed,dQ,I.shares]<;>rfl) rfl (inr (by rfl)) ?_;simp only[aB.down,simprocAttr,sf.down,ed,dQ,I.shares];refine dq (AN (List.set ko (Int.toNat hZ) a1.Next) _ ao0) rfl rfl (by simp only[aB.down,simprocAttr,RQ.down,ed,dQ,I.shares]<;>rfl) rfl (inr (jZ (λ_=>yz _) _)) ?_;simp only[aB.down,simprocAttr,sf.down,ed,dQ,I.shares];refine km [⟨.h 6 [],true,_,.hole⟩,⟨.agg [.str i7,.int .i64 hZ,.int .i64 (-1),.slice (gB.map bs)],false,_,.hole⟩] (SA iD (bp.mk i7 hZ (-1) gB) _ AY) rfl rfl rfl (by simp only[aB.down,simprocAttr,RR.down,ed,dQ,I.shares]) rfl rfl (inl rfl) ?_;simp only[aB.down,simprocAttr,RS.down,ed,dQ,I.shares];exact bP sf.down
        exact wX _ (wQ _ (inr ⟨_,bE rfl,SI jz h5 hZ lZ h⟩))
      .refine cX (DN 4 _ (As 4 _ (jC _ (Se _ (tF _ (inl (dD ?_)))))));exact rb _ (inr ⟨_,bE rfl,aoV iD h5 (i64.wrap (hZ+1)) h⟩)
     exact dz h λn h=>Ss n u5 u6 wC 0 h
    .refine cX (pM 2 _ (n3 2 _ (pU _ (AV _ (inl (ay aj λ_ ao1 ao2 _=>ak ?_))))));refine bk ao2 λao3 _ ao4 rf _=>?_;have ao5:∀n r0 yn tq,l0 J bu bz bw bY bW n r0 yn tq=some r->cN ah Ze ao3 (ar [(0,.aM (.agg [.slice (bu.map bl),.slice (bz.map dj),.slice (bw.map bI),.slice (bY.map aN),.slice (bW.map aN)])),(1,.slice (J.map bs)),(6,.ae 4 (r0.map gE)),(7,.ae 1 (yn.map gq)),(15,.int .i64 tq)]):=by
      refine c7 λpV ao6 r0 yn tq h=>c6 ao4 λ_ ao7 aad ao8=>ay aad λ_ ao9 _ ao_=>ak ?_;refine aC h (λapa h=>?_) λapa h=>?_
      .refine aL (ao9 _ (inl (ay aad λ_ apb apc _=>bk apc λ_ apd ape _ _=>ak ?_)));refine bk ape λapf _ apg aph _=>?_;have R3:∀n u2 u3 u4 wB,o4 (l0 J bu bz bw bY bW pV) J bu bz bw bY bW n u2 u3 u4 wB=some r->cN ah Zd apf (ar [(0,.aM (.agg [.slice (bu.map bl),.slice (bz.map dj),.slice (bw.map bI),.slice (bY.map aN),.slice (bW.map aN)])),(1,.slice (J.map bs)),(6,.ae 4 (u2.map gE)),(7,.ae 1 (u3.map gq)),(15,.int .i64 u4),(16,.int .i64 wB)]):=by
        refine c7 λAZ R4 u2 u3 u4 wB h=>c6 apg λ_ api aae apj=>ay aae λ_ apk _ apl=>ak ?_;refine aC h (λapm h=>?_) λapm h=>?_
        .refine aL (apk _ (inl (ay aae λ_ apn apo _=>bk apo λ_ apq apr _ _=>ak ?_)));refine bk apr λaps _ SK apt _=>?_;have apu:∀n u0 tn tp u1 wA,rZ (l0 J bu bz bw bY bW pV) (o4 (l0 J bu bz bw bY bW pV) J bu bz bw bY bW AZ) J bu bz bw bY bW n u0 tn tp u1 wA=some r->cN ah Zc aps (ar [(0,.aM (.agg [.slice (bu.map bl),.slice (bz.map dj),.slice (bw.map bI),.slice (bY.map aN),.slice (bW.map aN)])),(1,.slice (J.map bs)),(6,.ae 4 (u0.map gE)),(7,.ae 1 (tn.map gq)),(15,.int .i64 tp),(16,.int .i64 u1),(17,.int .i64 wA)]):=by
          refine c7 λSL apv u0 tn tp u1 wA h=>c6 SK λ_ apw aaf apx=>ay aaf λ_ apy _ apz=>?_;obtain⟨mn,aag,h⟩:=an h;refine c8 (R aag (cb aag)) _ ?_;refine aC h (λapA h=>?_) λapA h=>?_
          .refine aL (apy _ (inl (ay aaf λ_ SM SN _=>bk SN λ_ apB apC _ _=>ak ?_)));refine bk apC λapD _ apE apF _=>?_;have apG:∀n nb mJ j8 kG nc mK,uZ (l0 J bu bz bw bY bW pV) (o4 (l0 J bu bz bw bY bW pV) J bu bz bw bY bW AZ) (rZ (l0 J bu bz bw bY bW pV) (o4 (l0 J bu bz bw bY bW pV) J bu bz bw bY bW AZ) J bu bz bw bY bW SL) J bu bz bw bY bW n nb mJ j8 kG nc mK=some r->cN ah Zb apD (ar [(0,.aM (.agg [.slice (bu.map bl),.slice (bz.map dj),.slice (bw.map bI),.slice (bY.map aN),.slice (bW.map aN)])),(1,.slice (J.map bs)),(6,.ae 4 (nb.map gE)),(7,.ae 1 (mJ.map gq)),(15,.int .i64 j8),(16,.int .i64 kG),(17,.int .i64 nc),(18,.int .i64 mK)]):=by
            refine c7 λapH apI nb mJ j8 kG nc mK h=>c6 apE λapJ SO LK apK=>ay LK λ_ apL _ apM=>?_;obtain⟨qV,qw,h⟩:=an h;refine Lq (decide (mK<(qV.length:Int))) (R qw (cb qw)) [(0,.aM (.agg [.slice (bu.map bl),.slice (bz.map dj),.slice (bw.map bI),.slice (bY.map aN),.slice (bW.map aN)])),(1,.slice (J.map bs)),(6,.ae 4 (nb.map gE)),(7,.ae 1 (mJ.map gq)),(15,.int .i64 j8),(16,.int .i64 kG),(17,.int .i64 nc),(18,.int .i64 mK),(133,.bool ((decide (mK<(qV.length:Int)))&&(decide ((nb.length:Int)<=200))))] ?_;refine aC h (λapN h=>?_) λapN h=>?_
            .refine aL (apL _ (inl ?_));have aah:∀CP CQ CR CS CT CU,Kk (l0 J bu bz bw bY bW pV) (o4 (l0 J bu bz bw bY bW pV) J bu bz bw bY bW AZ) (rZ (l0 J bu bz bw bY bW pV) (o4 (l0 J bu bz bw bY bW pV) J bu bz bw bY bW AZ) J bu bz bw bY bW SL) (uZ (l0 J bu bz bw bY bW pV) (o4 (l0 J bu bz bw bY bW pV) J bu bz bw bY bW AZ) (rZ (l0 J bu bz bw bY bW pV) (o4 (l0 J bu bz bw bY bW pV) J bu bz bw bY bW AZ) J bu bz bw bY bW SL) J bu bz bw bY bW apH) J bu bz bw bY bW CP CQ CR CS CT CU=some r->bn ah Za apJ (ar [(0,.aM (.agg [.slice (bu.map bl),.slice (bz.map dj),.slice (bw.map bI),.slice (bY.map aN),.slice (bW.map aN)])),(1,.slice (J.map bs)),(6,.ae 4 (CP.map gE)),(7,.ae 1 (CQ.map gq)),(15,.int .i64 CR),(16,.int .i64 CS),(17,.int .i64 CT),(18,.int .i64 CU)]):=by
              intro CP CQ CR CS CT CU h;refine dD ?_;exact SO _ (inr ⟨_,bE rfl,apI CP CQ CR CS CT (i64.wrap (CU+1)) h⟩)
             refine ay LK λ_ n100 apO _=>bk apO λ_ n102 apP apQ _=>?_;obtain⟨kV,sr,h⟩:=an h;obtain⟨kW,DZ,h⟩:=an h;obtain⟨nd,vx,h⟩:=an h;obtain⟨nJ,apR,h⟩:=an h;refine ju rfl (iP [(0,.aM (.agg [.slice (bu.map bl),.slice (bz.map dj),.slice (bw.map bI),.slice (bY.map aN),.slice (bW.map aN)])),(1,.slice (J.map bs)),(6,.ae 4 (nb.map gE)),(7,.ae 1 (mJ.map gq)),(15,.int .i64 j8),(16,.int .i64 kG),(17,.int .i64 nc),(18,.int .i64 mK),(19,.str nJ)] (λP bg=>?_) ?_)
             ·(try simp only[dh.down,simprocAttr,sr,cb sr,DZ,qw,cb qw,vx]);refine h4 (aoR (cL.mk bu bz bw bY bW) kW.Label nd.Label _ apR) rfl rfl (by simp only[dh.down,simprocAttr,sr,cb sr,DZ,qw,cb qw,vx,RT.down]<;>rfl) rfl (inr (by rfl)) ?_;simp only[dh.down,simprocAttr,sr,cb sr,DZ,qw,cb qw,vx];refine⟨hY (by kernel_rfl),?_⟩;exact bP (R sr (R (cb sr) (R DZ (R qw (R (cb qw) vx)))))
             refine ay apP λ_ n108 _ apS=>ak ?_;refine aC h (λapT h=>?_) λapT h=>?_
             .exact cX (apS 13 _ (apQ _ (n100 _ (inr ⟨_,bE rfl,aah nb mJ j8 kG nc mK h⟩))))
             .refine aL (n108 _ (inl ?_));obtain⟨lC,apU,h⟩:=an h;refine ml (b6 (K:=eS _) [(0,.aM (.agg [.slice (bu.map bl),.slice (bz.map dj),.slice (bw.map bI),.slice (bY.map aN),.slice (bW.map aN)])),(1,.slice (J.map bs)),(6,.ae 4 (nb.map gE)),(7,.ae 1 (mJ.map gq)),(15,.int .i64 j8),(16,.int .i64 kG),(17,.int .i64 nc),(18,.int .i64 mK),(19,.str nJ),(20,.ae 3 (lC.map cQ))] (λP bg=>?_) (Js [(0,.aM (.agg [.slice (bu.map bl),.slice (bz.map dj),.slice (bw.map bI),.slice (bY.map aN),.slice (bW.map aN)])),(1,.slice (J.map bs)),(6,.ae 4 (nb.map gE)),(7,.ae 1 (mJ.map gq)),(15,.int .i64 j8),(16,.int .i64 kG),(17,.int .i64 nc),(18,.int .i64 mK),(19,.str nJ),(20,.ae 3 (lC.map bs))] (hH [] rfl (cz rfl (cz rfl (cz rfl (cz rfl (cz rfl (cz rfl (cz rfl (cz rfl (cz rfl (gz (t:=20) (d:=.ae 3 (lC.map cQ)) (bM:=.ae 3 (lC.map bs)) rfl rfl (.ae (Jw (λ_=>x5 rfl rfl (nK _)) _)) (by decide) (hI)))))))))))) ?_))
              ·(try simp only[aB.down,simprocAttr]);refine dq (AN J _ apU) (hK:= ?_);simp only[aB.down,simprocAttr];exact bP trivial
              obtain⟨nf,LL,h⟩:=an h;refine dp (b6 [(0,.aM (.agg [.slice (bu.map bl),.slice (bz.map dj),.slice (bw.map bI),.slice (bY.map aN),.slice (bW.map aN)])),(1,.slice (J.map bs)),(6,.ae 4 (nb.map gE)),(7,.ae 1 (mJ.map gq)),(15,.int .i64 j8),(16,.int .i64 kG),(17,.int .i64 nc),(18,.int .i64 mK),(19,.str nJ),(20,.ae 3 ((List.set lC (Int.toNat j8) kW.Next).map bs))] (λP bg=>?_) ?_)
              .simp only[aB.down,simprocAttr,sr,cb sr,DZ,LL,cb LL,db,dk];exact bP (R sr (R (cb sr) (R DZ (R LL (R (cb LL) @db)))))
              obtain⟨jl,LM,h⟩:=an h;refine dp (b6 [(0,.aM (.agg [.slice (bu.map bl),.slice (bz.map dj),.slice (bw.map bI),.slice (bY.map aN),.slice (bW.map aN)])),(1,.slice (J.map bs)),(6,.ae 4 (nb.map gE)),(7,.ae 1 (mJ.map gq)),(15,.int .i64 j8),(16,.int .i64 kG),(17,.int .i64 nc),(18,.int .i64 mK),(19,.str nJ),(20,.ae 3 ((List.set (List.set lC (Int.toNat j8) kW.Next) (Int.toNat kG) nd.Next).map bs))] (λP bg=>?_) ?_)
              .simp only[aB.down,simprocAttr,qw,cb qw,vx,LM,cb LM,db,dk];exact bP (R qw (R (cb qw) (R vx (R LM (R (cb LM) @db)))))
              obtain⟨n3,apV,h⟩:=an h;obtain⟨pM,apW,h⟩:=an h;obtain⟨ym,apX,h⟩:=an h;refine ik (b6 [(0,.aM (.agg [.slice (bu.map bl),.slice (bz.map dj),.slice (bw.map bI),.slice (bY.map aN),.slice (bW.map aN)])),(1,.slice (J.map bs)),(6,.ae 4 (ym.map gE)),(7,.ae 1 (mJ.map gq)),(15,.int .i64 j8),(16,.int .i64 kG),(17,.int .i64 nc),(18,.int .i64 mK)] (λP bg=>?_) ?_)
              ·(try simp only[aB.down,simprocAttr,sf.down,ed,dQ,I.shares]);refine dq (Sz (cL.mk bu bz bw bY bW) nJ _ apV) rfl rfl (by simp only[aB.down,simprocAttr,RP.down,ed,dQ,I.shares]<;>rfl) rfl (inr (by rfl)) ?_;simp only[aB.down,simprocAttr,sf.down,ed,dQ,I.shares];refine dq (AN (List.set (List.set lC (Int.toNat j8) kW.Next) (Int.toNat kG) nd.Next) _ apW) rfl rfl (by simp only[aB.down,simprocAttr,RQ.down,ed,dQ,I.shares]<;>rfl) rfl (inr (jZ (λ_=>yz _) _)) ?_;simp only[aB.down,simprocAttr,sf.down,ed,dQ,I.shares];refine km [⟨.h 6 [],true,_,.hole⟩,⟨.agg [.str n3,.int .i64 j8,.int .i64 kG,.slice (pM.map bs)],false,_,.hole⟩] (SA nb (bp.mk n3 j8 kG pM) _ apX) rfl rfl rfl (by simp only[aB.down,simprocAttr,RR.down,ed,dQ,I.shares]) rfl rfl (inl rfl) ?_;simp only[aB.down,simprocAttr,RS.down,ed,dQ,I.shares];exact bP sf.down
              exact n102 _ (n100 _ (inr ⟨_,bE rfl,aah ym mJ j8 kG nc mK h⟩))
            .refine cX (apM 12 _ (apK 12 _ (apF _ (apB _ (SM _ (inl (dD ?_)))))));exact apw _ (inr ⟨_,bE rfl,apv nb mJ j8 kG (i64.wrap (nc+1)) h⟩)
           exact dz h λn h=>apG n u0 tn tp u1 wA 0 h
          .refine cX (apz 10 _ (apx 10 _ (apt _ (apq _ (apn _ (inl (dD ?_)))))));exact api _ (inr ⟨_,bE rfl,R4 u0 tn tp (i64.wrap (u1+1)) h⟩)
         exact dz h λn h=>apu n u2 u3 u4 wB 0 h
        .refine cX (apl 8 _ (apj 8 _ (aph _ (apd _ (apb _ (inl (dD ?_)))))));exact ao7 _ (inr ⟨_,bE rfl,ao6 u2 u3 (i64.wrap (u4+1)) h⟩)
       exact dz h λn h=>R3 n r0 yn tq (i64.wrap (tq+1)) h
      .refine cX (ao_ 6 _ (ao8 6 _ (rf _ (ao1 _ (inl (ak ?_))))));exact ha (aj _ (inl (hx [.ae 4 (r0.map gE),.bool (decide ((r0.length:Int)<=200))] rfl (by cases eC h;rfl) (by decide) (hJ (jw (by cases eC h;rfl) rfl rfl rfl (dt (hL)))))))
     exact dz h λn h=>ao5 n u5 u6 0 h
   exact dz h λn h=>aoU n [] gn 0 h
 exact dz h λn h=>AR n [] 0 h
theorem apY (a0 J a2 r) (h:Ko a0 J a2=some r):aX ah 6 [e1 a0,.ae 3 (J.map cQ),.slice (a2.map aT)] (.tuple [.slice (r.1.map bs),.ae 1 (r.2.1.map aN),.int .i64 r.2.2]) [.hole,.ae 3 (J.map cQ),.hole]:=by
 refine bC [0,1,2] [.tmp 6,.tmp 7,.tmp 8] Tryz.func6 akM λbt aj br=>ak ?_;obtain⟨U,aU,h⟩:=an h;refine dp (b6 [(1,.ae 3 (J.map cQ)),(2,.slice (a2.map aT)),(3,.aM (e1 a0)),(9,.int .i64 U)] (λP bg=>?_) ?_)
 ·(try simp only[aB.down,simprocAttr]);refine dq (aog a0 J _ aU) rfl rfl (by simp only[aB.down,simprocAttr,gQ,gR,gS,cR, @b0 _ bl bl (λ_=>sb _), @b0 _ dj dj (λ_=>yy _), @b0 _ bI bI (λ_=>pS _), @b0 _ aN aN (λ_=>jK _), @b0 _ aN aN (λ_=>jK _), @b0 _ cQ bs (λ_=>nK _)]<;>rfl) rfl (inr (by rfl)) ?_;simp only[aB.down,simprocAttr];exact bP trivial
 refine ay aj λ_ fi bL a1=>ak ?_;refine aC h (λdM h=>?_) λdM h=>?_
 .refine ak ?_;exact ha (bL _ (inr ⟨[(6,.slice []),(7,.ae 1 []),(8,.int .i64 U),(1,.ae 3 (J.map cQ))],hH [] rfl (gz (t:=6) (d:=.bd) rfl rfl (.ta) (by decide) (gz (t:=7) (d:=.bd) rfl rfl (.hv _) (by decide) (cz rfl (cz rfl (hI))))),hx [.slice [],.ae 1 [],.int .i64 U] rfl (by cases eC h;rfl) (by decide) (hJ (dt (jw (by cases eC h;rfl) rfl rfl rfl (dt (hL)))))⟩))
 .refine aL (fi _ (inl ?_));obtain⟨af,jt,h⟩:=an h;refine dp (b6 [(1,.ae 3 (J.map cQ)),(2,.slice (a2.map aT)),(3,.aM (e1 a0)),(10,.ae 3 (af.map cQ))] (λP bg=>?_) ?_)
  ·(try simp only[aB.down,simprocAttr]);refine dq (AN J _ jt) rfl rfl (by simp only[aB.down,simprocAttr,q_.down]<;>rfl) rfl (inr (jZ (λ_=>yz _) _)) ?_;simp only[aB.down,simprocAttr];exact bP trivial
  refine c8 (show∀s,d_ ah s 25 0 []=some (.ae 1 [],s)from λs=>by kernel_rfl) _ ?_;refine ay aj λ_ eH hT _=>ak ?_;refine bk hT λHS _ fu fh _=>?_;show bn ah (.loop ?c20) _ _;have SP:∀n l1 pN qg,yo a0 J a2 n l1 pN qg=some r->cN ah ?c20 HS (ar [(1,.ae 3 (J.map cQ)),(2,.slice (a2.map aT)),(3,.aM (e1 a0)),(10,.slice (l1.map bs)),(11,.ae 1 (pN.map aN)),(12,.int .i64 qg)]):=by
   refine c7 λ_ SQ l1 pN qg h=>c6 fu λ_ eT er i7=>ay er λ_ fJ _ gB=>ak ?_;refine aC h (λjM h=>?_) λjM h=>?_
   .refine aL (fJ _ (inl (ay er λ_ pa ri _=>bk ri λ_ qq yC _ _=>?_)));obtain⟨aI,gF,h⟩:=an h;refine dp (b6 [(1,.ae 3 (J.map cQ)),(2,.slice (a2.map aT)),(3,.aM (.agg [.slice (a0.cw.map bl),.slice (a0.ch.map dj),.slice (a0.b_.map bI),.slice (a0.cD.map aN),.slice (a0.cB.map aN)])),(11,.ae 1 (pN.map aN)),(12,.int .i64 qg),(13,.ae 4 (aI.1.map gE)),(14,.bool aI.2)] (λP bg=>?_) ?_)
    ·(try simp only[aB.down,simprocAttr]);refine km [⟨.h 3 [],true,_,_⟩,⟨.slice (l1.map bs),false,_,.hole⟩] (aoS a0.cw a0.ch a0.b_ a0.cD a0.cB l1 _ gF) rfl rfl rfl (by simp only[aB.down,simprocAttr,lX,kT,kn,gQ,gR,gS,cR,or_true,true_or, @b0 _ bl bl (λ_=>sb _), @b0 _ dj dj (λ_=>yy _), @b0 _ bI bI (λ_=>pS _), @b0 _ aN aN (λ_=>jK _), @b0 _ aN aN (λ_=>jK _)]) rfl rfl (inl rfl) ?_;simp only[aB.down,simprocAttr,jI];exact bP trivial
    refine ay yC λ_ nL nm _=>ak ?_;refine aC h (λh0 h=>?_) λh0 h=>?_
    .refine ak ?_;exact ha (nm _ (inr ⟨[(6,.slice []),(7,.ae 1 []),(8,.int .i64 5),(1,.ae 3 (J.map cQ))],hH [] rfl (gz (t:=6) (d:=.bd) rfl rfl (.ta) (by decide) (gz (t:=7) (d:=.bd) rfl rfl (.hv _) (by decide) (cz rfl (cz rfl (hI))))),hx [.slice [],.ae 1 [],.int .i64 5] rfl (by cases eC h;rfl) (by decide) (hJ (dt (jw (by cases eC h;rfl) rfl rfl rfl (dt (hL)))))⟩))
    .refine aL (nL _ (inl (ay yC λ_ rb re _=>?_)));obtain⟨a1,ss,h⟩:=an h;obtain⟨ba,oN,h⟩:=an h;refine eQ ss (o9 a1 0 (i64.wrap ((aI.1.length:Int)-1)) _ oN) _ ?_;refine aC h (λnM h=>?_) λnM h=>?_
     .refine ak ?_;exact ha (re _ (inr ⟨[(6,.slice []),(7,.ae 1 []),(8,.int .i64 2),(1,.ae 3 (J.map cQ))],hH [] rfl (gz (t:=6) (d:=.bd) rfl rfl (.ta) (by decide) (gz (t:=7) (d:=.bd) rfl rfl (.hv _) (by decide) (cz rfl (cz rfl (hI))))),hx [.slice [],.ae 1 [],.int .i64 2] rfl (by cases eC h;rfl) (by decide) (hJ (dt (jw (by cases eC h;rfl) rfl rfl rfl (dt (hL)))))⟩))
     .refine aL (rb _ (inl ?_));obtain⟨aZ,lI,h⟩:=an h;obtain⟨apZ,hU,h⟩:=an h;(try simp only[fI.down,Nat.zero_add,Nat.add_zero,reduceAdd]at hU);refine c8 (R ss (R lI (R (cb lI) (R (show∀s,d_ ah s 25 1 [(0,.str aZ.Label)]=some (.ae 1 [.str aZ.Label],s)from λs=>by kernel_rfl) (R (@j0 ah 25 25 9 rfl rfl) (R @j1 (R @j2 (R @gA (R @all_cons (R @all_nil (R hU (@jv _ aN 1 λ_=>rfl)))))))))))) [(1,.ae 3 (J.map cQ)),(2,.slice (a2.map aT)),(3,.aM (.agg [.slice (a0.cw.map bl),.slice (a0.ch.map dj),.slice (a0.b_.map bI),.slice (a0.cD.map aN),.slice (a0.cB.map aN)])),(11,.ae 1 ((pN++[aZ.Label]).map aN)),(12,.int .i64 qg),(13,.ae 4 (aI.1.map gE))] ?_;refine qp (R ss (R lI (cb lI))) [(1,.ae 3 (J.map cQ)),(2,.slice (a2.map aT)),(3,.aM (.agg [.slice (a0.cw.map bl),.slice (a0.ch.map dj),.slice (a0.b_.map bI),.slice (a0.cD.map aN),.slice (a0.cB.map aN)])),(10,.slice (aZ.State.map bs)),(11,.ae 1 ((pN++[aZ.Label]).map aN)),(12,.int .i64 qg)] ?_;refine qq _ (pa _ (inl (wr [(1,.ae 3 (J.map cQ)),(2,.slice (a2.map aT)),(3,.aM (.agg [.slice (a0.cw.map bl),.slice (a0.ch.map dj),.slice (a0.b_.map bI),.slice (a0.cD.map aN),.slice (a0.cB.map aN)])),(10,.slice (aZ.State.map bs)),(11,.ae 1 ((pN++[aZ.Label]).map aN)),(12,.int .i64 (i64.wrap (qg+1)))] ?_)));exact eT _ (inr ⟨_,bE rfl,SQ aZ.State (pN++[aZ.Label]) (i64.wrap (qg+1)) h⟩)
   .refine cX (gB 0 _ (i7 0 _ (fh _ (eH _ (inl (ak ?_))))));exact ha (aj _ (inl (hx [.slice (l1.map bs),.ae 1 (pN.map aN),.int .i64 0] rfl (by cases eC h;rfl) (by decide) (hJ (dt (jw (by cases eC h;rfl) rfl rfl rfl (dt (hL))))))))
  obtain⟨n,h⟩:=lO h;exact pH (inr ⟨_,hH [] rfl (cz (t:=1) (d:=.ae 3 (J.map cQ)) rfl (cz (t:=2) (d:=.slice (a2.map aT)) rfl (cz (t:=3) (d:=.aM (e1 a0)) rfl (gz (t:=10) (d:=.ae 3 (af.map cQ)) (bM:=.slice (af.map bs)) rfl rfl (Xc rfl rfl (congrArg I.slice (b0 (λ_=>nK _) _))) (by decide) (cz (t:=11) (d:=.ae 1 []) rfl (cz (t:=12) (d:=.int .i64 0) rfl (hI))))))),SP n af [] 0 h⟩)
theorem mr (a0 J a2 r) (h:kX a0 J a2=some r):aX ah 73 [.int .i64 a0,.int .i64 J,.int .i64 a2] (.bool r) []:=by
 refine bC [0,1,2] [.tmp 6] Tryz.func73 akN λbt aj br=>ak ?_;refine n7 (decide (J<=a0)) [(6,.bool ((decide (J<=a0))&&(decide (a0<=a2))))] ?_;exact cP aj [.bool ((decide (J<=a0))&&(decide (a0<=a2)))]
theorem ap0 (a0 r) (h:P0 a0=some r):aX ah 195 [bl a0] (.bool r) []:=by
 refine bC [0] [.tmp 2] Tryz.func195 akO λbt aj br=>ak ?_;obtain⟨U,aU,h⟩:=an h;refine cS (mr a0.dU 0 3 _ aU) _ ?_;exact cP aj [.bool (!U)]
theorem ap1 (a0 r) (h:P2 a0=some r):aX ah 197 [.slice (a0.map bl),.fn 195 []] (.int .i64 r) []:=by
 refine bC [0,1] [.tmp 4] Tryz.func197 akP λbt aj br=>ak ?_;refine ay aj λ_ bD bf af=>ak ?_;refine bk bf λeM _ bL bT _=>?_;show bn ah (.loop ?eR) _ _;have eZ:∀n cI,GG a0 n cI=some r->cN ah ?eR eM (ar [(0,.slice (a0.map bl)),(1,.fn 195 []),(7,.int .i64 (a0.length:Int)),(8,.int .i64 cI)]):=by
  refine c7 λ_ eI cI h=>c6 bL λ_ dP cG ba=>ak ?_;refine ay cG λ_ dN _ bq=>aC h (λcm h=>?_) λcm h=>?_
  .refine aL (dN _ (inl (ay cG λ_ cF b8 _=>bk b8 λ_ b2 cM _ _=>ak ?_)));obtain⟨U,dZ,h⟩:=an h;obtain⟨af,dO,h⟩:=an h;refine eQ dZ (ap0 U _ dO) _ ?_;refine aC h (λe2 h=>?_) λe2 h=>?_
   .exact aO cM [.int .i64 cI]
   .refine aL (b2 _ (cF _ (inl (dD ?_))));exact dP _ (inr ⟨_,bE rfl,eI (i64.wrap (cI+1)) h⟩)
  .exact cX (bq 0 _ (ba 0 _ (bT _ (bD _ (inl (aO aj [.int .i64 (-1)]))))))
 exact dz h λn h=>eZ n 0 h
theorem ap2 (a0 r) (h:P3 a0=some r):aX ah 194 [.slice (a0.map bl),.fn 195 []] (.bool r) []:=by
 refine bC [0,1] [.tmp 4] Tryz.func194 c194 λbt aj br=>ak ?_;obtain⟨U,aU,h⟩:=an h;refine cS (ap1 a0 _ aU) _ ?_;exact cP aj [.bool (decide (0<=U))]
theorem ap3 (a0 r) (h:Kp a0=some r):aX ah 163 [.slice (a0.map bl)] (.bool r) []:=by
 refine bC [0] [.tmp 2] Tryz.func163 akQ λbt aj br=>ak ?_;obtain⟨U,aU,h⟩:=an h;refine cS (ap2 a0 _ aU) _ ?_;exact cP aj [.bool (!U)]
theorem ap4 (a0 r) (h:P4 a0=some r):aX ah 196 [.int .u8 (a0.toNat:Int)] (.bool r) []:=by
 refine bC [0] [.tmp 2] Tryz.func196 c196 λbt aj br=>ak ?_;refine n7 (decide (48<=(a0.toNat:Int))) [(2,.bool ((decide (48<=(a0.toNat:Int)))&&(decide ((a0.toNat:Int)<=57))))] ?_;exact cP aj [.bool ((decide (48<=(a0.toNat:Int)))&&(decide ((a0.toNat:Int)<=57)))]
theorem LN (a0 r) (h:GH a0=some r):aX ah 164 [.str a0] (.bool r) []:=by
 refine bC [0] [.tmp 2] Tryz.func164 c164 λbt aj br=>ak ?_;refine ay aj λ_ bD bf af=>ak ?_;refine bk bf λeM _ bL bT _=>?_;show bn ah (.loop ?eR) _ _;have eZ:∀n fU,yp a0 n fU=some r->cN ah ?eR eM (ar [(0,.str a0),(6,.int .i64 (a0.length:Int)),(7,.int .i64 fU)]):=by
  refine c7 λ_ eI fU h=>c6 bL λ_ dP cG ba=>ak ?_;refine ay cG λ_ dN _ bq=>aC h (λcm h=>?_) λcm h=>?_
  .refine aL (dN _ (inl (ay cG λ_ cF b8 _=>bk b8 λ_ b2 cM _ _=>ak ?_)));obtain⟨U,dZ,h⟩:=an h;refine Lq (decide (97<=(U.toNat:Int))) dZ [(0,.str a0),(3,.int .i64 fU),(4,.bool ((decide (97<=(U.toNat:Int)))&&(decide ((U.toNat:Int)<=122)))),(6,.int .i64 (a0.length:Int)),(7,.int .i64 fU)] ?_;rcases dH h with⟨e2,h⟩|⟨e2,h⟩
   .rcases dH h with⟨mM,h⟩|⟨mM,h⟩
    .refine c8 (R e2 mM) _ ?_;refine il rfl ?_;exact aO cM [.bool false]
    .obtain⟨af,eL,h⟩:=an h;refine eQ (R e2 (R mM dZ)) (ap4 U _ eL) _ ?_;refine aC h (λfX h=>?_) λfX h=>?_
     .exact aO cM [.bool false]
     .refine aL (b2 _ (cF _ (inl (dD ?_))));exact dP _ (inr ⟨_,bE rfl,eI (i64.wrap (fU+1)) h⟩)
   .refine c8 e2 _ ?_;refine ot rfl ?_;refine aL (b2 _ (cF _ (inl (dD ?_))));exact dP _ (inr ⟨_,bE rfl,eI (i64.wrap (fU+1)) h⟩)
  .refine cX (bq 0 _ (ba 0 _ (bT _ (bD _ (inl (n7 (decide (1<=(a0.length:Int))) [(2,.bool ((decide (1<=(a0.length:Int)))&&(decide ((a0.length:Int)<=10))))] ?_))))));exact cP aj [.bool ((decide (1<=(a0.length:Int)))&&(decide ((a0.length:Int)<=10)))]
 exact dz h λn h=>eZ n 0 h
theorem ap5 (a0 J r) (h:P5 a0 J=some r):aX ah 198 [bl a0,.ref (.str J)] (.bool r) []:=by
 refine bC [0,1] [.tmp 3] Tryz.func198 c198 λbt aj br=>ak ?_;exact aO aj [.bool (a0.Name==J)]
theorem ap6 (a0 J r) (h:P7 a0 J=some r):aX ah 197 [.slice (a0.map bl),.fn 198 [.ref (.str J)]] (.int .i64 r) []:=by
 refine bC [0,1] [.tmp 4] Tryz.func197 akR λbt aj br=>ak ?_;refine ay aj λ_ bD bf af=>ak ?_;refine bk bf λeM _ bL bT _=>?_;show bn ah (.loop ?eR) _ _;have eZ:∀n cI,GI a0 J n cI=some r->cN ah ?eR eM (ar [(0,.slice (a0.map bl)),(1,.fn 198 [.ref (.str J)]),(7,.int .i64 (a0.length:Int)),(8,.int .i64 cI)]):=by
  refine c7 λ_ eI cI h=>c6 bL λ_ dP cG ba=>ak ?_;refine ay cG λ_ dN _ bq=>aC h (λcm h=>?_) λcm h=>?_
  .refine aL (dN _ (inl (ay cG λ_ cF b8 _=>bk b8 λ_ b2 cM _ _=>ak ?_)));obtain⟨U,dZ,h⟩:=an h;obtain⟨af,dO,h⟩:=an h;refine eQ dZ (ap5 U J _ dO) _ ?_;refine aC h (λe2 h=>?_) λe2 h=>?_
   .exact aO cM [.int .i64 cI]
   .refine aL (b2 _ (cF _ (inl (dD ?_))));exact dP _ (inr ⟨_,bE rfl,eI (i64.wrap (cI+1)) h⟩)
  .exact cX (bq 0 _ (ba 0 _ (bT _ (bD _ (inl (aO aj [.int .i64 (-1)]))))))
 exact dz h λn h=>eZ n 0 h
theorem ap7 (a0 J r) (h:Kr a0 J=some r):aX ah 165 [.slice (a0.map bl),.str J] (.int .i64 r) []:=by
 refine bC [0,1] [.tmp 4] Tryz.func165 akS λbt aj br=>ak ?_;obtain⟨U,aU,h⟩:=an h;refine dp (b6 [(4,.int .i64 U)] (λP bg=>?_) ?_)
 ·(try simp only[aB.down,simprocAttr]);refine dq (ap6 a0 J _ aU) rfl rfl (by simp only[aB.down,simprocAttr,yB.down]<;>rfl) rfl (inr (by rfl)) ?_;simp only[aB.down,simprocAttr];exact bP trivial
 exact cP aj [.int .i64 U]
theorem aai (a0 r) (h:GK a0=some r):aX ah 132 [ey a0] (.int .i64 r) []:=by
 refine bC [0] [.tmp 2] Tryz.func132 akT λbt aj br=>ak ?_;refine ay aj λ_ bD bf _=>ak ?_;refine bk bf λeM fi bL _ _=>?_;show bn ah (.seq _ ?kJ) _ _;have Az:∀eo,GJ a0 eo=some r->bn ah ?kJ eM (ar [(4,.int .i64 a0.Kind),(5,.bool eo)]):=by
  intro eo h;refine aC h (λdM h=>?_) λdM h=>?_
  .exact aO bL [.int .i64 1]
  .refine ak ?_;refine aC h (λe7 h=>?_) λe7 h=>?_
   .exact aO bL [.int .i64 2]
   .exact aL (fi _ (bD _ (inl (aO aj [.int .i64 0]))))
 refine ay bL λ_ dP _ _=>ak ?_;refine aC h (λfh h=>?_) λfh h=>?_
 .simp only[fh,HD.down];exact aL (dP _ (inr ⟨_,bE rfl,Az true h⟩))
 .refine ak ?_;refine aC h (λe2 h=>?_) λe2 h=>?_
  .simp only[e2,HD.down];exact aL (dP _ (inr ⟨_,bE rfl,Az true h⟩))
  .refine dD ?_;exact dP _ (inr ⟨_,bE rfl,Az (a0.Kind==4) h⟩)
theorem aaj (a0 J r) (h:GL a0 J=some r):aX ah 138 [bl a0,.int .i64 J] (.int .i64 r) []:=by
 refine bC [0] [.tmp 4] Tryz.func138 c138 λbt aj br=>ak ?_;refine ay aj λ_ bD bf af=>ak ?_;refine bk bf λeM _ bL bT _=>?_;show bn ah (.loop ?eR) _ _;have eZ:∀n a7 aK,CV a0 n a7 aK=some r->cN ah ?eR eM (ar [(1,.int .i64 a7),(2,.aM (bl a0)),(5,.int .i64 aK)]):=by
  refine c7 λ_ eI a7 aK h=>c6 bL λ_ dP cG ba=>ay cG λ_ cT _ aZ=>ak ?_;refine aC h (λcm h=>?_) λcm h=>?_
  .refine aL (cT _ (inl (ay cG λ_ cF b8 _=>bk b8 λ_ b2 cM _ _=>ay cM λ_ eH hT _=>ak ?_)));refine aC h (λfh h=>?_) λfh h=>?_
   .exact aO hT [.int .i64 (-1)]
   .refine aL (eH _ (inl ?_));obtain⟨U,cJ,h⟩:=an h;obtain⟨af,dV,h⟩:=an h;refine Aw cJ (aai U _ dV) _ ?_;refine b2 _ (cF _ (inl (dD ?_)));exact dP _ (inr ⟨_,bE rfl,eI (i64.wrap (a7+1)) (i64.wrap (aK+(i64.wrap (af-1)))) h⟩)
  .exact cX (aZ 0 _ (ba 0 _ (bT _ (bD _ (inl (aO aj [.int .i64 a7]))))))
 exact dz h λn h=>eZ n J 1 h
theorem ap8 (qh:Int->dR->azC->a6->Option (Int×azC)) (ap9:∀a0 J a2 a3 r,qh a0 J a2 a3=some r->pI ah 131 2 4 [.int .i64 a0,fz J,.aM (.ae 2 (a2.map fz)),.ref (bl a3),.ref (.hole)] (.int .i64 r.1) [.hole,.hole,.aM (.ae 2 (r.2.map fz)),.hole,.hole]) (a0 J a2 a3 r) (h:P_ qh a0 J a2 a3=some r):pI ah 131 2 4 [.int .i64 a0,fz J,.aM (.ae 2 (a2.map fz)),.ref (bl a3),.ref (.hole)] (.int .i64 r.1) [.hole,.hole,.aM (.ae 2 (r.2.map fz)),.hole,.hole]:=by
 refine pI.OY (fx:=[0,1,2,3,4]) O2 [.tmp 7] [(0,.int .i64 a0),(1,fz J),(2,.aM (.ae 2 (a2.map fz))),(3,.ref (bl a3)),(4,.ref (.hole))] Tryz.func131 rfl rfl ak7 (le_of_ble_eq_true rfl) ak6 rfl rfl λbt aj br=>?_;refine ak ?_;obtain⟨U,aU,h⟩:=an h;refine dp (b6 [(0,.int .i64 a0),(2,.aM (.ae 2 ((List.set a2 (Int.toNat a0) J).map fz))),(3,.ref (bl a3)),(4,.ref (.hole)),(6,.aM (fz J))] (λP bg=>?_) ?_)
 .simp only[aB.down,simprocAttr,aU,cb aU,db,dk];exact bP (R aU (R (cb aU) @db))
 obtain⟨af,cZ,h⟩:=an h;refine c8 cZ [(0,.int .i64 a0),(2,.aM (.ae 2 ((List.set a2 (Int.toNat a0) J).map fz))),(3,.ref (bl a3)),(4,.ref (.hole)),(6,.aM (fz J)),(8,.aM (ey af))] ?_;refine c8 (show∀s,gH ah s 151 [(0,.int .i64 J.scope),(1,.bool (af.Kind==1))]=some (.agg [.int .i64 J.scope,.bool (af.Kind==1)],s)from λs=>by kernel_rfl) [(0,.int .i64 a0),(2,.aM (.ae 2 ((List.set a2 (Int.toNat a0) J).map fz))),(3,.ref (bl a3)),(4,.ref (.hole)),(8,.aM (ey af)),(9,.aM (.agg [.int .i64 J.scope,.bool (af.Kind==1)]))] ?_;have aak:∀oC,Ks qh a0 J a2 a3 af oC=some r->bn ah Zg bt (ar [(0,.int .i64 a0),(2,.aM (.ae 2 ((List.set a2 (Int.toNat a0) J).map fz))),(3,.ref (bl a3)),(4,.ref (.hole)),(8,.aM (ey af)),(9,.aM (.agg [.int .i64 oC,.bool (af.Kind==1)]))]):=by
  intro oC h;refine ws [(2,.aM (.ae 2 ((List.set a2 (Int.toNat a0) J).map fz))),(3,.ref (bl a3)),(4,.ref (.hole)),(8,.aM (ey af)),(9,.aM (.agg [.int .i64 oC,.bool (af.Kind==1)])),(10,.int .i64 (i64.wrap (a0+1)))] ?_;refine ay aj λ_ cF b8 _=>?_;obtain⟨aI,kD,h⟩:=an h;refine cS (aai af _ kD) [(2,.aM (.ae 2 ((List.set a2 (Int.toNat a0) J).map fz))),(3,.ref (bl a3)),(4,.ref (.hole)),(9,.aM (.agg [.int .i64 oC,.bool (af.Kind==1)])),(10,.int .i64 (i64.wrap (a0+1))),(36,.int .i64 aI),(37,.int .i64 0)] ?_;refine bk b8 λAB _ l4 fb _=>?_;have SP:∀n wE l1 u7,z_ qh a3 oC af aI n wE l1 u7=some r->cN ah Zf AB (ar [(2,.aM (.ae 2 (wE.map fz))),(3,.ref (bl a3)),(4,.ref (.hole)),(9,.aM (.agg [.int .i64 oC,.bool (af.Kind==1)])),(10,.int .i64 l1),(36,.int .i64 aI),(37,.int .i64 u7)]):=by
   refine c7 λ_ SQ wE l1 u7 h=>c6 l4 λ_ fG fu lY=>ak ?_;refine ay fu λ_ fJ _ gB=>aC h (λmM h=>?_) λmM h=>?_
   .refine aL (fJ _ (inl (ay fu λ_ jN kr _=>bk kr λ_ pa _ _ _=>?_)));obtain⟨a1,fY,h⟩:=an h;refine ag_ [(2,.aM (.ae 2 (a1.2.map fz))),(3,.ref (bl a3)),(4,.ref (.hole)),(9,.aM (.agg [.int .i64 oC,.bool (af.Kind==1)])),(10,.int .i64 a1.1),(36,.int .i64 aI),(37,.int .i64 u7)] (λP bg=>?_) ?_
    ·(try simp only[aB.down,simprocAttr,tg]);refine X0 [⟨.int .i64 l1,false,_,.hole⟩,⟨.agg [.int .i64 oC,.bool (af.Kind==1)],false,_,.hole⟩,⟨.h 2 [],true,_,_⟩,⟨.ref (bl a3),false,_,.hole⟩,⟨.ref (.hole),false,_,.hole⟩] (ap9 l1 (dR.mk oC (af.Kind==1)) wE a3 _ fY) rfl (by simp only[aB.down,simprocAttr,tg,lX,kT,kn,gQ,gR,gS,cR,or_true,true_or, @b0 _ fz fz (λ_=>YI _)]) rfl rfl (inl rfl) ?_;simp only[aB.down,simprocAttr,tg,jI];(try simp only[jB.down,simprocAttr,tg]at bg⊢);exact bg
    refine pa _ (jN _ (inl (dD ?_)));exact fG _ (inr ⟨_,bE rfl,SQ a1.2 a1.1 (i64.wrap (u7+1)) h⟩)
   .refine cX (gB 0 _ (lY 0 _ (fb _ (cF _ (inl (ak ?_))))));exact ha (aj _ (inl (hx [.int .i64 l1] rfl (by cases eC h;rfl) (by decide) (hJ (dt (dt (jw (by cases eC h;rfl) rfl rfl rfl (dt (dt (hL))))))))))
  exact dz h λn h=>SP n (List.set a2 (Int.toNat a0) J) (i64.wrap (a0+1)) 0 h
 refine ay aj λ_ dN _ _=>ws [(0,.int .i64 a0),(2,.aM (.ae 2 ((List.set a2 (Int.toNat a0) J).map fz))),(3,.ref (bl a3)),(4,.ref (.hole)),(8,.aM (ey af)),(9,.aM (.agg [.int .i64 J.scope,.bool (af.Kind==1)])),(28,.bool (af.Kind==4))] ?_;refine aC h (λh0 h=>?_) λh0 h=>?_
 .refine wr [(0,.int .i64 a0),(2,.aM (.ae 2 ((List.set a2 (Int.toNat a0) J).map fz))),(3,.ref (bl a3)),(4,.ref (.hole)),(8,.aM (ey af)),(9,.aM (.agg [.int .i64 (i64.wrap (J.scope+1)),.bool (af.Kind==1)]))] ?_;exact dN _ (inr ⟨_,bE rfl,aak (i64.wrap (J.scope+1)) h⟩)
 .exact aL (dN _ (inr ⟨_,bE rfl,aak J.scope h⟩))
theorem ap_:∀n a0 J a2 a3 r,Aa n a0 J a2 a3=some r->pI ah 131 2 4 [.int .i64 a0,fz J,.aM (.ae 2 (a2.map fz)),.ref (bl a3),.ref (.hole)] (.int .i64 r.1) [.hole,.hole,.aM (.ae 2 (r.2.map fz)),.hole,.hole]:=by
 intro n;induction n with
 |zero=>intro a0 J a2 a3 r h;cases(show none=some r from h)
 |succ n ih=>intro a0 J a2 a3 r h;exact ap8 (Aa n) ih a0 J a2 a3 r h
theorem aqa (a0 J a2 a3 r) (h:Kt a0 J a2 a3=some r):pI ah 131 2 4 [.int .i64 a0,fz J,.aM (.ae 2 (a2.map fz)),.ref (bl a3),.ref (.hole)] (.int .i64 r.1) [.hole,.hole,.aM (.ae 2 (r.2.map fz)),.hole,.hole]:=by
 obtain⟨n,h⟩:=lO h;exact ap_ n a0 J a2 a3 r h
theorem SR (a0 r) (h:CW a0=some r):aX ah 91 [bl a0] (.ae 2 (r.map fz)) []:=by
 refine aX.ahU (fx:=[0]) O2 [.tmp 2] [(0,bl a0)] Tryz.func91 rfl rfl alb (le_of_ble_eq_true rfl) ala rfl rfl λbt aj br=>?_;refine ak ?_;obtain⟨LO,aU,h⟩:=an h;refine se (R (rr aU) @List.map_replicate.{0,0}) [(1,.aM (bl a0)),(3,.aM (.ae 2 ((List.replicate (Int.toNat (a0.Body.length:Int)) (dR.mk 0 false)).map fz)))] ?_;obtain⟨U,cZ,h⟩:=an h;refine ahP [(3,.aM (.ae 2 (U.2.map fz)))] (λP bg=>?_) ?_
 ·(try simp only[aB.down,simprocAttr,(show∀s,gH ah s 151 [(0,.int .i64 a0.dU)]=some (.agg [.int .i64 a0.dU,.bool false],s)from λs=>by kernel_rfl),tg]);refine X0 [⟨.int .i64 0,false,_,.hole⟩,⟨.agg [.int .i64 a0.dU,.bool false],false,_,.hole⟩,⟨.h 3 [],true,_,_⟩,⟨.h 1 [],false,_,.hole⟩,⟨.ref (.hole),false,_,.hole⟩] (aqa 0 (dR.mk a0.dU false) (List.replicate (Int.toNat (a0.Body.length:Int)) (dR.mk 0 false)) a0 _ cZ) rfl (by simp only[aB.down,simprocAttr,(show∀s,gH ah s 151 [(0,.int .i64 a0.dU)]=some (.agg [.int .i64 a0.dU,.bool false],s)from λs=>by kernel_rfl),tg,lX,kT,kn,gQ,gR,gS,cR,or_true,true_or, @b0 _ fz fz (λ_=>YI _), @b0 _ ey ey (λ_=>Lf _)]) rfl rfl ((inr (by simp only[uF,I.dc,I.g_,Bool.and_self, @jZ _ fz (λ_=>ajG _)]))) ?_;simp only[aB.down,simprocAttr,(show∀s,gH ah s 151 [(0,.int .i64 a0.dU)]=some (.agg [.int .i64 a0.dU,.bool false],s)from λs=>by kernel_rfl),tg,jI];(try simp only[jB.down,simprocAttr,(show∀s,gH ah s 151 [(0,.int .i64 a0.dU)]=some (.agg [.int .i64 a0.dU,.bool false],s)from λs=>by kernel_rfl),tg]at bg⊢);exact bg
 exact aO aj [.ae 2 (U.2.map fz)]
end Go.Proofs.YtmaepbgkcmjcjahGreatDoor
