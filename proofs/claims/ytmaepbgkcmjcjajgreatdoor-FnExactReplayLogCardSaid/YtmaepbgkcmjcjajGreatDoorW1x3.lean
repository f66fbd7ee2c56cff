/- Part of a proof that a law returns true for every input. No condition. -/
import Derived.Test.YtmaepbgkcmjcjajGreatDoorSl
namespace Go.Proofs.YtmaepbgkcmjcjajGreatDoor
open Option Go.IntKind Nat Or
open Go Go.ep Go.ld
set_option maxRecDepth 100000
set_option maxHeartbeats 3800000
set_option linter.unusedSimpArgs false
set_option linter.unusedVariables false
theorem bx (fx:azt) (fy:List ResultVar) {f:FuncId} {fn:Func} {ins outs:azy} {r:I} (bK:ah.P.funcs[f]? =some fn) (er:aA)
 (N5:∀Q:Exit->al->Prop,(∀s,eV (ep.Ends ah fx fy r outs) s->Q .ret s)->(∀s,eV (ep.Ends ah fx fy r outs) s->Q .normal s)->bm ah er Q (ar (num 0 ins))) (aa:gg ⟨fn.ntmps,fx⟩ (fn.body.getD .skip)=some er.strip:=by kernel_rfl) (ab:fn.body=some (fn.body.getD .skip):=by rfl) (mI:(fn.name== "runtime.NumGoroutine")=false:=by rfl) (aX:ins.length<=fn.ntmps:=by exact le_of_ble_eq_true rfl) (iu:fn.results.toList=fy:=by rfl) (ay:er.plain=true:=by kernel_rfl):aZ ah f ins r outs:=
 aZ.OZ O3 fy (num 0 ins) bK ab mI aa aX iu rfl N5 ay
theorem cZ {P:Nat->Prop} (s:∀m,P m->P (m+1)) (z:P 0:=by intros;rename_i h;cases(show none=some _ from h)):∀n,P n:=λn=>Nat.rec z s n
def RI:=PLift.up (U @aia (U @aib (U @aic (U @aid (U @aie (U @aif (U @aih (U @aii (U @aij (U @aik (U @ail (U @aim (U @ain (U @aio (U @aip (U @aiq (U @air (U @ais (U @ait (U @aiu (U @aiv (U @aiw (U @aix (U @aiy (U @aiz (U @aiA (U @aiB (U @aiC (U @aiD (U @aiE (U @aiF (U @aiG (U @aiH (U @aiI (U @aiJ (U @aiK (U @aiL (U @aiM (U @aiN (U @aiO (U @aiP (U @aiQ (U @aiR (U @aiS (U @aiT (U @aiU (U @aiV (U @aiW (U @aiX (U @aiY (U @aiZ (U @jn.eq_1 (U @bb.eq_1 (U @db.eq_1 (U @bk.eq_1 (U @eY.eq_1 (U @bJ.eq_1 (U @gD.eq_1 (U @eH.eq_1 (U @bD.eq_1 (U @di.eq_1 (U @fD.eq_1 (U @ea.eq_1 (U @ajL (U @fE.eq_1 (U @kc.eq_1 (U @kb.eq_1 (U @jH.eq_1 (U @jT.eq_1 (U @kL.eq_1 (U @n4.eq_1 (U @nm.eq_1 (U @qj.eq_1 (U @gu.eq_1 (U @jf.eq_1 (U @lM.eq_1 (U @aV.eq_1 (U @ajK (U @hT.eq_1 (U @hC.eq_1 (U @fI.eq_1 (U @jw.eq_1 (U @dT.eq_1 (U @hZ.eq_1 (U @tr.eq_1 (U @ajN (U @l4.eq_1 (U @Hi.eq_1 @lN.eq_1))))))))))))))))))))))))))))))))))))))))))))))))))))))))))))))))))))))))))))))))))))))))
def aE:=PLift.up (U ahQ.down RI.down)
def dA:=PLift.up (U ahR.down RI.down)
def jg:=PLift.up (U ahS.down RI.down)
theorem bU {F A:Prop} (f:F) (h:F->A:=by intro bM;(try simp only[jg.down,simprocAttr,bM,de,dZ,dB,fq,I.e_,I.shares]at bc⊢);exact bc):A:=h f
theorem wr {Q l ros k} (cO:azx) (aw:Q .normal (ar cO)) (h:∀P:azx->Prop,P cO->dK ah (ar l) ros none (λ_ s=>P (gZ k s)):=by
 intro P bc;simp only[aE.down,simprocAttr,de,dZ,dB,fq];(try simp only[jg.down,simprocAttr,de,dZ,dB,fq]at bc⊢);exact bc):bm ah (.eD ros (some k)) Q (ar l):=
 iy (b7 cO (h) aw)
theorem dr {Q l ros k} {cO:azx} (aw:Q .normal (ar cO)) (h:∀P:azx->Prop,P cO->dK ah (ar l) ros none (λ_ s=>P (gZ k s)):=by
 intro P bc;simp only[aE.down,simprocAttr,de,dZ,dB,fq];(try simp only[jg.down,simprocAttr,de,dZ,dB,fq]at bc⊢);exact bc):bm ah (.eD ros (some k)) Q (ar l):=
 iy (b7 cO (h) aw)
theorem Zk {Q l ros k g ds r} (ok:aZ ah g ds r []) (cO:azx) (aw:Q .normal (ar cO)) (h:aZ ah g ds r []->∀P:azx->Prop,P cO->dK ah (ar l) ros none (λ_ s=>P (gZ k s)):=by
 intro nn P bc;(try simp only[aE.down,simprocAttr,de,dZ,dB,fq]);(first|refine dq nn rfl rfl rfl rfl (inl (by rfl)) ?_|refine g_ nn rfl rfl rfl rfl (inl (by rfl)) ?_);simp only[aE.down,simprocAttr,de,dZ,dB,fq];(try simp only[jg.down,simprocAttr,de,dZ,dB,fq]at bc⊢);exact bc):bm ah (.eD ros (some k)) Q (ar l):=
 iy (b7 cO (h ok) aw)
theorem As {Q l ros k g ds r} {F:Prop} (bM:F) (ok:aZ ah g ds r []) (cO:azx) (aw:Q .normal (ar cO)) (h:aZ ah g ds r []->F->∀P:azx->Prop,P cO->dK ah (ar l) ros none (λ_ s=>P (gZ k s)):=by
 intro nn bM P bc;(try simp only[aE.down,simprocAttr,bM,de,dZ,dB,fq]);(first|refine dq nn rfl rfl rfl rfl (inl (by rfl)) ?_|refine g_ nn rfl rfl rfl rfl (inl (by rfl)) ?_);simp only[aE.down,simprocAttr,bM,de,dZ,dB,fq];(try simp only[jg.down,simprocAttr,bM,de,dZ,dB,fq]at bc⊢);exact bc):bm ah (.eD ros (some k)) Q (ar l):=
 iy (b7 cO (h ok bM) aw)
theorem Zl {Q l ros k df g ds r} {F:Prop} (bM:F) (ok:aZ ah g ds r []) (cO:azx) (aw:Q .normal (ar cO)) (h:aZ ah g ds r []->F->∀P:azx->Prop,P cO->dK ah (ar l) ros (some []) (λacc s=>kB (nH df) 0 [] (acc.getD []).reverse=true/\P (gZ k s)):=by
 intro nn bM P bc;(try simp only[dA.down,simprocAttr,bM,de,dZ,dB,fq]);(first|refine iz nn rfl rfl rfl rfl (inl (by rfl)) ?_|refine nI nn rfl rfl rfl rfl (inl (by rfl)) ?_);simp only[dA.down,simprocAttr,bM,de,dZ,dB,fq];refine⟨iA (by kernel_rfl),?_⟩;(try simp only[jg.down,simprocAttr,bM,de,dZ,dB,fq]at bc⊢);exact bc) (hl:df.length=ros.length:=by rfl):bm ah (.j3 ros df (some k)) Q (ar l):=
 Ft hl (jr cO (h ok bM) aw)
theorem rZ {Q l ros k} {F:Prop} (bM:F) (cO:azx) (aw:Q .normal (ar cO)) (h:F->∀P:azx->Prop,P cO->dK ah (ar l) ros none (λ_ s=>P (gZ k s)):=by
 intro bM P bc;simp only[aE.down,simprocAttr,bM,de,dZ,dB,fq];(try simp only[jg.down,simprocAttr,bM,de,dZ,dB,fq]at bc⊢);exact bc):bm ah (.eD ros (some k)) Q (ar l):=
 iy (b7 cO (h bM) aw)
theorem ws {Q l ros k b} (cO:azx) (aw:bm ah b Q (ar cO)) (h:∀P:azx->Prop,P cO->dK ah (ar l) ros none (λ_ s=>P (gZ k s)):=by
 intro P bc;simp only[aE.down,simprocAttr,de,dZ,dB,fq];(try simp only[jg.down,simprocAttr,de,dZ,dB,fq]at bc⊢);exact bc):bm ah (.seq (.eD ros (some k)) b) Q (ar l):=
 dh (b7 cO (h) aw)
theorem aj {Q l ros k b} {cO:azx} (aw:bm ah b Q (ar cO)) (h:∀P:azx->Prop,P cO->dK ah (ar l) ros none (λ_ s=>P (gZ k s)):=by
 intro P bc;simp only[aE.down,simprocAttr,de,dZ,dB,fq];(try simp only[jg.down,simprocAttr,de,dZ,dB,fq]at bc⊢);exact bc):bm ah (.seq (.eD ros (some k)) b) Q (ar l):=
 dh (b7 cO (h) aw)
theorem aN {Q l ros k fx fy r} {cO:azx} (nA:∀s,eV (ep.Ends ah fx fy r []) s->Q .ret s) (ds:azy) (h:∀P:azx->Prop,P cO->dK ah (ar l) ros none (λ_ s=>P (gZ k s)):=by
 intro P bc;simp only[aE.down,simprocAttr,de,dZ,dB,fq];(try simp only[jg.down,simprocAttr,de,dZ,dB,fq]at bc⊢);exact bc) (af:r=Fv ds:=by cases eE (by assumption);rfl) (ad:fy.map (ry ah (ar cO))=ds.map some:=by rfl) (aG:(fy.map k_).Nodup:=by decide):bm ah (.seq (.eD ros (some k)) .ret) Q (ar l):=
 ws cO (cM nA ds af ad aG) h
theorem cR {Q l ros k b g ds r} (ok:aZ ah g ds r []) (cO:azx) (aw:bm ah b Q (ar cO)) (h:aZ ah g ds r []->∀P:azx->Prop,P cO->dK ah (ar l) ros none (λ_ s=>P (gZ k s)):=by
 intro nn P bc;(try simp only[aE.down,simprocAttr,de,dZ,dB,fq]);(first|refine dq nn rfl rfl rfl rfl (inl (by rfl)) ?_|refine g_ nn rfl rfl rfl rfl (inl (by rfl)) ?_);simp only[aE.down,simprocAttr,de,dZ,dB,fq];(try simp only[jg.down,simprocAttr,de,dZ,dB,fq]at bc⊢);exact bc):bm ah (.seq (.eD ros (some k)) b) Q (ar l):=
 dh (b7 cO (h ok) aw)
theorem eU {Q l ros k b g ds r} {F:Prop} (bM:F) (ok:aZ ah g ds r []) (cO:azx) (aw:bm ah b Q (ar cO)) (h:aZ ah g ds r []->F->∀P:azx->Prop,P cO->dK ah (ar l) ros none (λ_ s=>P (gZ k s)):=by
 intro nn bM P bc;(try simp only[aE.down,simprocAttr,bM,de,dZ,dB,fq]);(first|refine dq nn rfl rfl rfl rfl (inl (by rfl)) ?_|refine g_ nn rfl rfl rfl rfl (inl (by rfl)) ?_);simp only[aE.down,simprocAttr,bM,de,dZ,dB,fq];(try simp only[jg.down,simprocAttr,bM,de,dZ,dB,fq]at bc⊢);exact bc):bm ah (.seq (.eD ros (some k)) b) Q (ar l):=
 dh (b7 cO (h ok bM) aw)
theorem ay3 {Q l ros k b df} (cO:azx) (aw:bm ah b Q (ar cO)) (h:∀P:azx->Prop,P cO->dK ah (ar l) ros (some []) (λacc s=>kB (nH df) 0 [] (acc.getD []).reverse=true/\P (gZ k s)):=by
 intro P bc;simp only[dA.down,simprocAttr,de,dZ,dB,fq];refine⟨iA (by kernel_rfl),?_⟩;(try simp only[jg.down,simprocAttr,de,dZ,dB,fq]at bc⊢);exact bc) (hl:df.length=ros.length:=by rfl):bm ah (.seq (.j3 ros df (some k)) b) Q (ar l):=
 kC hl (jr cO (h) aw)
theorem anj {Q l ros k b df g ds r} (ok:aZ ah g ds r []) (cO:azx) (aw:bm ah b Q (ar cO)) (h:aZ ah g ds r []->∀P:azx->Prop,P cO->dK ah (ar l) ros (some []) (λacc s=>kB (nH df) 0 [] (acc.getD []).reverse=true/\P (gZ k s)):=by
 intro nn P bc;(try simp only[dA.down,simprocAttr,de,dZ,dB,fq]);(first|refine iz nn rfl rfl rfl rfl (inl (by rfl)) ?_|refine nI nn rfl rfl rfl rfl (inl (by rfl)) ?_);simp only[dA.down,simprocAttr,de,dZ,dB,fq];refine⟨iA (by kernel_rfl),?_⟩;(try simp only[jg.down,simprocAttr,de,dZ,dB,fq]at bc⊢);exact bc) (hl:df.length=ros.length:=by rfl):bm ah (.seq (.j3 ros df (some k)) b) Q (ar l):=
 kC hl (jr cO (h ok) aw)
theorem oJ {Q l ros k b df g ds r} {F:Prop} (bM:F) (ok:aZ ah g ds r []) (cO:azx) (aw:bm ah b Q (ar cO)) (h:aZ ah g ds r []->F->∀P:azx->Prop,P cO->dK ah (ar l) ros (some []) (λacc s=>kB (nH df) 0 [] (acc.getD []).reverse=true/\P (gZ k s)):=by
 intro nn bM P bc;(try simp only[dA.down,simprocAttr,bM,de,dZ,dB,fq]);(first|refine iz nn rfl rfl rfl rfl (inl (by rfl)) ?_|refine nI nn rfl rfl rfl rfl (inl (by rfl)) ?_);simp only[dA.down,simprocAttr,bM,de,dZ,dB,fq];refine⟨iA (by kernel_rfl),?_⟩;(try simp only[jg.down,simprocAttr,bM,de,dZ,dB,fq]at bc⊢);exact bc) (hl:df.length=ros.length:=by rfl):bm ah (.seq (.j3 ros df (some k)) b) Q (ar l):=
 kC hl (jr cO (h ok bM) aw)
theorem pJ {Q l ros k b df} {F:Prop} (bM:F) (cO:azx) (aw:bm ah b Q (ar cO)) (h:F->∀P:azx->Prop,P cO->dK ah (ar l) ros (some []) (λacc s=>kB (nH df) 0 [] (acc.getD []).reverse=true/\P (gZ k s)):=by
 intro bM P bc;simp only[dA.down,simprocAttr,bM,de,dZ,dB,fq];refine⟨iA (by kernel_rfl),?_⟩;(try simp only[jg.down,simprocAttr,bM,de,dZ,dB,fq]at bc⊢);exact bc) (hl:df.length=ros.length:=by rfl):bm ah (.seq (.j3 ros df (some k)) b) Q (ar l):=
 kC hl (jr cO (h bM) aw)
theorem Zm {Q l ros k b df} (e:Bool) {F:Prop} (bM:F) (cO:azx) (aw:bm ah b Q (ar cO)) (h:F->∀c,e=c->∀P:azx->Prop,P cO->dK ah (ar l) ros (some []) (λacc s=>kB (nH df) 0 [] (acc.getD []).reverse=true/\P (gZ k s)):=by
 intro bM c au P bc;cases c;all_goals
  (try simp only[List.length_replicate]at au);simp only[dA.down,simprocAttr,au,bM,de,dZ,dB,fq];refine⟨iA (by kernel_rfl),?_⟩;(try simp only[jg.down,simprocAttr,au,bM,de,dZ,dB,fq]at bc⊢);exact bc) (hl:df.length=ros.length:=by rfl):bm ah (.seq (.j3 ros df (some k)) b) Q (ar l):=
 kC hl (jr cO (h bM e rfl) aw)
theorem c7 {Q l ros k b} {F:Prop} (bM:F) (cO:azx) (aw:bm ah b Q (ar cO)) (h:F->∀P:azx->Prop,P cO->dK ah (ar l) ros none (λ_ s=>P (gZ k s)):=by
 intro bM P bc;simp only[aE.down,simprocAttr,bM,de,dZ,dB,fq];(try simp only[jg.down,simprocAttr,bM,de,dZ,dB,fq]at bc⊢);exact bc):bm ah (.seq (.eD ros (some k)) b) Q (ar l):=
 dh (b7 cO (h bM) aw)
theorem r0 {Q l ros k b} {F:Prop} (bM:F) (cO:azx) (aw:bm ah b Q (ar cO)) (h:F->∀P:azx->Prop,P cO->dK ah (ar l) ros none (λ_ s=>P (gZ k s)):=by
 intro bM P bc;simp only[aE.down,simprocAttr,bM,de,dZ,dB,fq,-Int.reduceNatCast'];(try simp only[jg.down,simprocAttr,bM,de,dZ,dB,fq,-Int.reduceNatCast']at bc⊢);exact bc):bm ah (.seq (.eD ros (some k)) b) Q (ar l):=
 dh (b7 cO (h bM) aw)
theorem n5 {Q l ros k b} (e:Bool) (cO:azx) (aw:bm ah b Q (ar cO)) (h:∀c,e=c->∀P:azx->Prop,P cO->dK ah (ar l) ros none (λ_ s=>P (gZ k s)):=by
 intro c au P bc;cases c;all_goals
  (try simp only[List.length_replicate]at au);simp only[aE.down,simprocAttr,au,de,dZ,dB,fq];(try simp only[jg.down,simprocAttr,au,de,dZ,dB,fq]at bc⊢);exact bc):bm ah (.seq (.eD ros (some k)) b) Q (ar l):=
 dh (b7 cO (h e rfl) aw)
theorem Lt {Q l ros k b} (e:Bool) {F:Prop} (bM:F) (cO:azx) (aw:bm ah b Q (ar cO)) (h:F->∀c,e=c->∀P:azx->Prop,P cO->dK ah (ar l) ros none (λ_ s=>P (gZ k s)):=by
 intro bM c au P bc;cases c;all_goals
  (try simp only[List.length_replicate]at au);simp only[aE.down,simprocAttr,au,bM,de,dZ,dB,fq];(try simp only[jg.down,simprocAttr,au,bM,de,dZ,dB,fq]at bc⊢);exact bc):bm ah (.seq (.eD ros (some k)) b) Q (ar l):=
 dh (b7 cO (h bM e rfl) aw)
def fM:=PLift.up (U @List.length_append.{0} (U @List.length_cons.{0} (U @List.length_nil.{0} (U @List.length_map.{0,0} @List.length_replicate.{0}))))
def mO:=PLift.up (U @vX @vY)
def r1:=PLift.up (U (@ng ah 100 [(9,0),(2,1),(2,2),(31,3)] [(.str []),(.int .i64 0),(.int .i64 0),.bf] rfl rfl (by kernel_rfl)) (U @lY (U @lZ (U @cW (U @gQ (U @List.nil_append.{0} (U @List.cons_append.{0} (U @ow (U @ov (U @cV (U @ou (@b4 _ dT bD (λ_=>pI _)))))))))))))
def r2:=PLift.up (U @x8 (U @x_ @x9))
def wO:=PLift.up (U (@ng ah 71 [(2,0),(2,1),(69,2)] [(.int .i64 0),(.int .i64 0),.bf] rfl rfl (by kernel_rfl)) (U @lY (U @lZ (U @cW (U @gQ (U @List.nil_append.{0} (U @List.cons_append.{0} (U (@Fw ah 31 71 1 3 [(.agg [(.int .i64 0),(.int .i64 0),.bf])] rfl rfl rfl (by kernel_rfl)) (U (@kD ah 31 31 71 rfl rfl) (U @kE (U @kF (U @all_cons (U @all_nil (@j6 _ dT 3 (λ_=>rfl)))))))))))))))
def wP:=PLift.up (U @ht (U @hv (U @hx (U @cV (@b4 _ dT bD (λ_=>pI _))))))
def yx:=PLift.up (U @ht (U @hv (U @hx @cV)))
def DG:=PLift.up (U (@kD ah 69 69 2 rfl rfl) (U @kE (U @kF (U @gQ (U @all_cons (U @all_nil (U (@j6 _ bb 1 (λ_=>rfl)) (U @ow (U @ov (U @cV (U @ou (@b4 _ bb bb (λ_=>ko _)))))))))))))
def Lu:=PLift.up (U (@ng ah 135 [(9,0),(71,1)] [(.str []),(.agg [(.int .i64 0),(.int .i64 0),.bf])] rfl rfl (by kernel_rfl)) (U @lY (U @lZ (U @cW (U @gQ (U @List.nil_append.{0} (U @List.cons_append.{0} (U @ow (U @ov (U @cV (U @ou (@b4 _ bb bb (λ_=>ko _)))))))))))))
def Lv:=PLift.up (U @ht (U @hv (U @hx (U @cV (@b4 _ bb bb (λ_=>ko _))))))
def Lw:=PLift.up (U @ht (U @hv (U @hx (U @cV (U (@b4 _ bk bk (λ_=>tq _)) (U (@b4 _ db db (λ_=>Ap _)) (U (@b4 _ bJ bJ (λ_=>qi _)) (U (@b4 _ aV aV (λ_=>kM _)) (@b4 _ aV aV (λ_=>kM _))))))))))
def Lx:=PLift.up (U (@Fw ah 130 135 1 4 [(.agg [(.str []),(.agg [(.int .i64 0),(.int .i64 0),.bf])])] rfl rfl rfl (by kernel_rfl)) (U @lY (U @lZ (U @cW (U @gQ (U @List.nil_append.{0} (U @List.cons_append.{0} (U (@kD ah 130 130 135 rfl rfl) (U @kE (U @kF (U @all_cons (U @all_nil (@j6 _ hZ 4 (λ_=>rfl))))))))))))))
def Ly:=PLift.up (U (@ng ah 100 [(9,0),(2,1),(2,2),(31,3)] [(.str []),(.int .i64 0),(.int .i64 0),.bf] rfl rfl (by kernel_rfl)) (U @lY (U @lZ (U @cW (U @gQ (U @List.nil_append.{0} (U @List.cons_append.{0} (U (@Fw ah 96 100 1 4 [(.agg [(.str []),(.int .i64 0),(.int .i64 0),.bf])] rfl rfl rfl (by kernel_rfl)) (U (@kD ah 96 96 100 rfl rfl) (U @kE (U @kF (U @all_cons (U @all_nil (@j6 _ fI 4 (λ_=>rfl)))))))))))))))
def Lz:=PLift.up (U @ow (U @ov (U @cV (U @ou (U (@b4 _ bb bb (λ_=>ko _)) (@b4 _ bD bD (λ_=>wM _)))))))
def LA:=PLift.up (U @x8 (U @x_ (U @x9 (U @Xg (U @kG @Oj)))))
def LB:=PLift.up (U @x8 (U @x_ (U @x9 (U @kl (U @Xg @kG)))))
def RJ:=PLift.up (U @mo (U @la (U @kG (U @ht (U @hv (U @hx (U @cV (U @or_true (U @true_or (@b4 _ di di (λ_=>DF _)))))))))))
def RK:=PLift.up (U (@ng ah 100 [(9,0),(2,1),(2,2),(31,3)] [(.str []),(.int .i64 0),(.int .i64 0),.bf] rfl rfl (by kernel_rfl)) (U @lY (U @lZ (U @cW (U @gQ (U @List.nil_append.{0} (U @List.cons_append.{0} (U @ow (U @ov (U @cV (U @ou (U (@b4 _ dT bD (λ_=>pI _)) (U @ht (U @hv (U @hx (U @cV (U (@b4 _ bk bk (λ_=>tq _)) (U (@b4 _ db db (λ_=>Ap _)) (U (@b4 _ bJ bJ (λ_=>qi _)) (U (@b4 _ aV aV (λ_=>kM _)) (@b4 _ aV aV (λ_=>kM _))))))))))))))))))))))
def RL:=PLift.up (U (@ng ah 100 [(9,0),(2,1),(2,2),(31,3)] [(.str []),(.int .i64 0),(.int .i64 0),.bf] rfl rfl (by kernel_rfl)) (U @lY (U @lZ (U @cW (U @gQ (U @List.nil_append.{0} (U @List.cons_append.{0} (U @ow (U @ov (U @cV (U @ou (U (@b4 _ dT bD (λ_=>pI _)) (U @ht (U @hv (U @hx (U @cV (@b4 _ bD bD (λ_=>wM _))))))))))))))))))
def RM:=PLift.up (U (@ng ah 100 [(9,0),(2,1),(2,2),(31,3)] [(.str []),(.int .i64 0),(.int .i64 0),.bf] rfl rfl (by kernel_rfl)) (U @lY (U @lZ (U @cW (U @gQ (U @List.nil_append.{0} (U @List.cons_append.{0} (U @ow (U @ov (U @cV (U @ou (U (@b4 _ dT bD (λ_=>pI _)) (U @mo (U @la (U @kG (U @ht (U @hv (U @hx (U @cV (U @or_true (U @true_or (@b4 _ gD gD (λ_=>ajH _)))))))))))))))))))))))
def RN:=PLift.up (U (@ng ah 100 [(9,0),(2,1),(2,2),(31,3)] [(.str []),(.int .i64 0),(.int .i64 0),.bf] rfl rfl (by kernel_rfl)) (U @lY (U @lZ (U @cW (U @gQ (U @List.nil_append.{0} (U @List.cons_append.{0} (U @ow (U @ov (U @cV (U @ou (U (@b4 _ dT bD (λ_=>pI _)) @kl))))))))))))
def RO:=PLift.up (U @ht (U @hv (U @hx (U @cV (@b4 _ aV aV (λ_=>kM _))))))
def RP:=PLift.up (U @mo (U @la (U @kG (U @ht (U @hv (U @hx (U @cV (U @or_true (U @true_or (U (@b4 _ bk bk (λ_=>tq _)) (@b4 _ hZ di (λ_=>Hh _))))))))))))
def RQ:=PLift.up (U (@Fw ah 31 71 1 3 [(.agg [(.int .i64 0),(.int .i64 0),.bf])] rfl rfl rfl (by kernel_rfl)) (U @lY (U @lZ (U @cW (U @gQ (U @List.nil_append.{0} (U @List.cons_append.{0} (U (@kD ah 31 31 71 rfl rfl) (U @kE (U @kF (U @all_cons (U @all_nil (@j6 _ dT 3 (λ_=>rfl))))))))))))))
def Zn:=PLift.up (U @ht (U @hv (U @hx (U @cV (U (@b4 _ bb bb (λ_=>ko _)) (@b4 _ bb bb (λ_=>ko _)))))))
def Zo:=PLift.up (U (@kD ah 69 69 2 rfl rfl) (U @kE (U @kF (U @gQ (U @all_cons (U @all_nil (U (@j6 _ bb 1 (λ_=>rfl)) (U @ow (U @ov (U @cV (U @ou (U (@b4 _ bb bb (λ_=>ko _)) (U @List.map_append.{0,0} (U @List.map_set.{0,0} (U @List.map_cons.{0,0} @List.map_nil.{0,0})))))))))))))))
def Zp:=PLift.up (U (@kD ah 69 69 2 rfl rfl) (U @kE (U @kF (U @gQ (U @all_cons (U @all_nil (U (@j6 _ bb 1 (λ_=>rfl)) (U @ow (U @ov (U @cV (U @ou (U (@b4 _ bb bb (λ_=>ko _)) @kl))))))))))))
def Zq:=PLift.up (U @mo (U @la (U @kG (U @ht (U @hv (U @hx (U @cV (U @or_true (U @true_or (U (@b4 _ bk bk (λ_=>tq _)) (U (@b4 _ db db (λ_=>Ap _)) (U (@b4 _ bJ bJ (λ_=>qi _)) (U (@b4 _ aV aV (λ_=>kM _)) (@b4 _ aV aV (λ_=>kM _)))))))))))))))
def Zr:=PLift.up (U (λs y q=>(Xj ah s 25 y q).1) (λs y q=>(Xj ah s 25 y q).2.1))
def Zs:=PLift.up (U (@Fw ah 281 253 1 1 [.eA] rfl rfl rfl (by kernel_rfl)) (U @lY (U @lZ (U @cW (U @gQ (U @List.nil_append.{0} (U @List.cons_append.{0} (U (@kD ah 281 281 253 rfl rfl) (U @kE (U @kF (U @all_cons (U @all_nil (@j6 _ l4 1 (λ_=>rfl))))))))))))))
def Zt:=PLift.up (U (@ng ah 135 [(9,0),(71,1)] [(.str []),(.agg [(.int .i64 0),(.int .i64 0),.bf])] rfl rfl (by kernel_rfl)) (U @lY (U @lZ (U @cW (U @gQ (U @List.nil_append.{0} @List.cons_append.{0}))))))
def Zu:=PLift.up (U @vX (U @vY (U @ht (U @hv (U @hx (U @cV (@b4 _ dT bD (λ_=>pI _))))))))
def Zv:=PLift.up (U @ow (U @ov (U @cV (U @ou (U (@b4 _ bb bb (λ_=>ko _)) (U (@b4 _ bD bD (λ_=>wM _)) (U @mo (U @la (U @kG (U @ht (U @hv (U @hx (U @cV (U @or_true (U @true_or (U (@b4 _ bk bk (λ_=>tq _)) (U (@b4 _ db db (λ_=>Ap _)) (U (@b4 _ bJ bJ (λ_=>qi _)) (U (@b4 _ aV aV (λ_=>kM _)) (U (@b4 _ aV aV (λ_=>kM _)) (U (@b4 _ bD bD (λ_=>wM _)) (@b4 _ fI gD (λ_=>YA _)))))))))))))))))))))))
def Zw:=PLift.up (U @ow (U @ov (U @cV (U @ou (U (@b4 _ bb bb (λ_=>ko _)) (U (@b4 _ bD bD (λ_=>wM _)) @kl))))))
def Zx:=PLift.up (U @la (U @kG (U @ht (U @hv (U @hx (U @cV (U @or_true (U @true_or (@b4 _ bb bb (λ_=>ko _))))))))))
def Zy:=PLift.up (U @x8 (U @x_ (U @x9 (U @mo (U @la (U @kG (U @ht (U @hv (U @hx (U @cV (U @or_true (U @true_or (@b4 _ aV aV (λ_=>kM _))))))))))))))
def Zz:=PLift.up (U @ht (U @hv (U @hx (U @cV (U (@b4 _ hC bk (λ_=>Ao _)) (U (@b4 _ hT db (λ_=>Aq _)) (U (@b4 _ bJ bJ (λ_=>qi _)) (U (@b4 _ aV aV (λ_=>kM _)) (U (@b4 _ aV aV (λ_=>kM _)) (@b4 _ eY eY (λ_=>Hf _)))))))))))
theorem ank (a0 J r) (h:FO a0 J=some r):aZ ah 182 [.slice (a0.map nm),.int .i64 J] (.int .i64 r) []:=by
 refine bx [0] [.tmp 4] Tryz.func182 c182 λbt ak bs=>aj ?_;refine aj ?_;refine ax ak λ_ eZ c_ _=>aj ?_;refine aD h (λdR h=>?_) λdR h=>?_
 .exact aN c_ [.int .i64 (-1)]
 .exact aK (eZ _ (inl (aN ak [.int .i64 (i64.wrap (J-(a0.length:Int)))])))
theorem anl (a0 J r) (h:Jw a0 J=some r):aZ ah 141 [.slice (a0.map lM),.int .i64 J] (.int .i64 r) []:=by
 refine bx [0] [.tmp 4] Tryz.func141 c141 λbt ak bs=>aj ?_;refine aj ?_;refine ax ak λ_ eZ c_ _=>aj ?_;refine aD h (λdR h=>?_) λdR h=>?_
 .exact aN c_ [.int .i64 (-1)]
 .refine aK (eZ _ (inl (ax ak λ_ dw ev _=>aj ?_)));refine bg ev λkd _ b9 e8 _=>?_;show bm ah (.loop ?kN) _ _;have ln:∀n eI ey,O4 a0 n eI ey=some r->cL ah ?kN kd (ar [(0,.slice (a0.map lM)),(1,.int .i64 eI),(5,.int .i64 ey)]):=by
   refine cZ λ_ lo eI ey h=>cX b9 λ_ b2 cN dN=>ax cN λ_ ez _ fa=>aj ?_;refine aD h (λfi h=>?_) λfi h=>?_
   .refine aK (ez _ (inl (ax cN λ_ eO et _=>bg et λ_ gb gJ _ _=>?_)));obtain⟨R,dP,h⟩:=an h;obtain⟨ae,eG,h⟩:=an h;refine eU dP (ank R eI _ eG) _ ?_;refine aj ?_;refine aD h (λgw h=>?_) λgw h=>?_
    .exact aN gJ [.int .i64 (-1)]
    .refine aK (gb _ (eO _ (inl (dr ?_))));exact b2 _ (inr ⟨_,bE rfl,lo ae (i64.wrap (ey+1)) h⟩)
   .exact cS (fa 0 _ (dN 0 _ (e8 _ (dw _ (inl (aN ak [.int .i64 eI]))))))
  exact dn h λn h=>ln n (i64.wrap (J-(a0.length:Int))) 0 h
theorem anm (a0 J r) (h:FP a0 J=some r):aZ ah 102 [kL a0,.int .i64 J] (.int .i64 r) []:=by
 refine bx [0] [.tmp 4] Tryz.func102 ajQ λbt ak bs=>aj ?_;refine aj ?_;refine ax ak λ_ eZ c_ _=>aj ?_;refine aD h (λdR h=>?_) λdR h=>?_
 .exact aN c_ [.int .i64 (-1)]
 .refine aK (eZ _ (inl ?_));obtain⟨R,gk,h⟩:=an h;refine cR (anl a0.ck (i64.wrap (J-(a0.Name.length:Int))) _ gk) _ ?_;refine ax ak λ_ cE b9 _=>aj ?_;refine aD h (λpK h=>?_) λpK h=>?_
  .exact aN b9 [.int .i64 (-1)]
  .exact aK (cE _ (inl (aN ak [.int .i64 R])))
theorem ann (a0 J r) (h:Jx a0 J=some r):aZ ah 68 [.slice (a0.map kL),.int .i64 J] (.int .i64 r) []:=by
 refine bx [0] [.tmp 4] Tryz.func68 ajR λbt ak bs=>aj ?_;refine aj ?_;refine ax ak λ_ eZ c_ _=>aj ?_;refine aD h (λdR h=>?_) λdR h=>?_
 .exact aN c_ [.int .i64 (-1)]
 .refine aK (eZ _ (inl (ax ak λ_ dw ev _=>aj ?_)));refine bg ev λkd _ b9 e8 _=>?_;show bm ah (.loop ?kN) _ _;have ln:∀n eI ey,O5 a0 n eI ey=some r->cL ah ?kN kd (ar [(0,.slice (a0.map kL)),(1,.int .i64 eI),(5,.int .i64 ey)]):=by
   refine cZ λ_ lo eI ey h=>cX b9 λ_ b2 cN dN=>ax cN λ_ ez _ fa=>aj ?_;refine aD h (λfi h=>?_) λfi h=>?_
   .refine aK (ez _ (inl (ax cN λ_ eO et _=>bg et λ_ gb gJ _ _=>?_)));obtain⟨R,dP,h⟩:=an h;obtain⟨ae,eG,h⟩:=an h;refine eU dP (anm R eI _ eG) _ ?_;refine aj ?_;refine aD h (λgw h=>?_) λgw h=>?_
    .exact aN gJ [.int .i64 (-1)]
    .refine aK (gb _ (eO _ (inl (dr ?_))));exact b2 _ (inr ⟨_,bE rfl,lo ae (i64.wrap (ey+1)) h⟩)
   .exact cS (fa 0 _ (dN 0 _ (e8 _ (dw _ (inl (aN ak [.int .i64 eI]))))))
  exact dn h λn h=>ln n (i64.wrap (J-(a0.length:Int))) 0 h
theorem ano (a0 J r) (h:FQ a0 J=some r):aZ ah 46 [kb a0,.int .i64 J] (.int .i64 r) []:=by
 refine bx [0] [.tmp 4] Tryz.func46 c46 λbt ak bs=>aj ?_;refine aj ?_;refine ax ak λ_ eZ c_ _=>aj ?_;refine aD h (λdR h=>?_) λdR h=>?_
 .exact aN c_ [.int .i64 (-1)]
 .refine aK (eZ _ (inl ?_));obtain⟨R,gk,h⟩:=an h;refine cR (ann a0.Body (i64.wrap (J-(a0.Name.length:Int))) _ gk) _ ?_;refine ax ak λ_ cE b9 _=>aj ?_;refine aD h (λpK h=>?_) λpK h=>?_
  .exact aN b9 [.int .i64 (-1)]
  .exact aK (cE _ (inl (aN ak [.int .i64 R])))
theorem anp (a0 J r) (h:Jy a0 J=some r):aZ ah 17 [.slice (a0.map kb),.int .i64 J] (.int .i64 r) []:=by
 refine bx [0] [.tmp 4] Tryz.func17 ajS λbt ak bs=>aj ?_;refine aj ?_;refine ax ak λ_ eZ c_ _=>aj ?_;refine aD h (λdR h=>?_) λdR h=>?_
 .exact aN c_ [.int .i64 (-1)]
 .refine aK (eZ _ (inl (ax ak λ_ dw ev _=>aj ?_)));refine bg ev λkd _ b9 e8 _=>?_;show bm ah (.loop ?kN) _ _;have ln:∀n eI ey,O6 a0 n eI ey=some r->cL ah ?kN kd (ar [(0,.slice (a0.map kb)),(1,.int .i64 eI),(5,.int .i64 ey)]):=by
   refine cZ λ_ lo eI ey h=>cX b9 λ_ b2 cN dN=>ax cN λ_ ez _ fa=>aj ?_;refine aD h (λfi h=>?_) λfi h=>?_
   .refine aK (ez _ (inl (ax cN λ_ eO et _=>bg et λ_ gb gJ _ _=>?_)));obtain⟨R,dP,h⟩:=an h;obtain⟨ae,eG,h⟩:=an h;refine eU dP (ano R eI _ eG) _ ?_;refine aj ?_;refine aD h (λgw h=>?_) λgw h=>?_
    .exact aN gJ [.int .i64 (-1)]
    .refine aK (gb _ (eO _ (inl (dr ?_))));exact b2 _ (inr ⟨_,bE rfl,lo ae (i64.wrap (ey+1)) h⟩)
   .exact cS (fa 0 _ (dN 0 _ (e8 _ (dw _ (inl (aN ak [.int .i64 eI]))))))
  exact dn h λn h=>ln n (i64.wrap (J-(a0.length:Int))) 0 h
theorem anq (a0 J r) (h:Jz a0 J=some r):aZ ah 69 [.slice (a0.map bb),.int .i64 J] (.int .i64 r) []:=by
 refine bx [0] [.tmp 4] Tryz.func69 ajT λbt ak bs=>aj ?_;refine aj ?_;refine ax ak λ_ eZ c_ _=>aj ?_;refine aD h (λdR h=>?_) λdR h=>?_
 .exact aN c_ [.int .i64 (-1)]
 .exact aK (eZ _ (inl (aN ak [.int .i64 (i64.wrap (J-(a0.length:Int)))])))
theorem anr (a0 J r) (h:FR a0 J=some r):aZ ah 47 [kc a0,.int .i64 J] (.int .i64 r) []:=by
 refine bx [0] [.tmp 4] Tryz.func47 ajU λbt ak bs=>aj ?_;obtain⟨R,aS,h⟩:=an h;refine cR (anq a0.b5 J _ aS) _ ?_;refine ax ak λ_ fj bR _=>aj ?_;refine aD h (λcP h=>?_) λcP h=>?_
 .exact aN bR [.int .i64 (-1)]
 .exact aK (fj _ (inl (aN ak [.int .i64 R])))
theorem ans (a0 J r) (h:JA a0 J=some r):aZ ah 18 [.slice (a0.map kc),.int .i64 J] (.int .i64 r) []:=by
 refine bx [0] [.tmp 4] Tryz.func18 ajV λbt ak bs=>aj ?_;refine aj ?_;refine ax ak λ_ eZ c_ _=>aj ?_;refine aD h (λdR h=>?_) λdR h=>?_
 .exact aN c_ [.int .i64 (-1)]
 .refine aK (eZ _ (inl (ax ak λ_ dw ev _=>aj ?_)));refine bg ev λkd _ b9 e8 _=>?_;show bm ah (.loop ?kN) _ _;have ln:∀n eI ey,O7 a0 n eI ey=some r->cL ah ?kN kd (ar [(0,.slice (a0.map kc)),(1,.int .i64 eI),(5,.int .i64 ey)]):=by
   refine cZ λ_ lo eI ey h=>cX b9 λ_ b2 cN dN=>ax cN λ_ ez _ fa=>aj ?_;refine aD h (λfi h=>?_) λfi h=>?_
   .refine aK (ez _ (inl (ax cN λ_ eO et _=>bg et λ_ gb gJ _ _=>?_)));obtain⟨R,dP,h⟩:=an h;obtain⟨ae,eG,h⟩:=an h;refine eU dP (anr R eI _ eG) _ ?_;refine aj ?_;refine aD h (λgw h=>?_) λgw h=>?_
    .exact aN gJ [.int .i64 (-1)]
    .refine aK (gb _ (eO _ (inl (dr ?_))));exact b2 _ (inr ⟨_,bE rfl,lo ae (i64.wrap (ey+1)) h⟩)
   .exact cS (fa 0 _ (dN 0 _ (e8 _ (dw _ (inl (aN ak [.int .i64 eI]))))))
  exact dn h λn h=>ln n (i64.wrap (J-(a0.length:Int))) 0 h
theorem ant (a0 J r) (h:FT a0 J=some r):aZ ah 48 [jT a0,.int .i64 J] (.int .i64 r) []:=by
 refine bx [0] [.tmp 4] Tryz.func48 ajW λbt ak bs=>aj ?_;refine aj ?_;refine ax ak λ_ eZ c_ _=>aj ?_;refine aD h (λdR h=>?_) λdR h=>?_
 .exact aN c_ [.int .i64 (-1)]
 .refine aK (eZ _ (inl (aj ?_)));refine ax ak λ_ ig h0 _=>aj ?_;refine aD h (λe3 h=>?_) λe3 h=>?_
  .exact aN h0 [.int .i64 (-1)]
  .refine aK (ig _ (inl (aj ?_)));refine ax ak λ_ fL fJ _=>aj ?_;refine aD h (λff h=>?_) λff h=>?_
   .exact aN fJ [.int .i64 (-1)]
   .exact aK (fL _ (inl (aN ak [.int .i64 (i64.wrap ((i64.wrap ((i64.wrap (J-(a0.Left.length:Int)))-(a0.cH.length:Int)))-(a0.Result.length:Int)))])))
theorem anu (a0 J r) (h:JB a0 J=some r):aZ ah 19 [.slice (a0.map jT),.int .i64 J] (.int .i64 r) []:=by
 refine bx [0] [.tmp 4] Tryz.func19 ajX λbt ak bs=>aj ?_;refine aj ?_;refine ax ak λ_ eZ c_ _=>aj ?_;refine aD h (λdR h=>?_) λdR h=>?_
 .exact aN c_ [.int .i64 (-1)]
 .refine aK (eZ _ (inl (ax ak λ_ dw ev _=>aj ?_)));refine bg ev λkd _ b9 e8 _=>?_;show bm ah (.loop ?kN) _ _;have ln:∀n eI ey,O8 a0 n eI ey=some r->cL ah ?kN kd (ar [(0,.slice (a0.map jT)),(1,.int .i64 eI),(5,.int .i64 ey)]):=by
   refine cZ λ_ lo eI ey h=>cX b9 λ_ b2 cN dN=>ax cN λ_ ez _ fa=>aj ?_;refine aD h (λfi h=>?_) λfi h=>?_
   .refine aK (ez _ (inl (ax cN λ_ eO et _=>bg et λ_ gb gJ _ _=>?_)));obtain⟨R,dP,h⟩:=an h;obtain⟨ae,eG,h⟩:=an h;refine eU dP (ant R eI _ eG) _ ?_;refine aj ?_;refine aD h (λgw h=>?_) λgw h=>?_
    .exact aN gJ [.int .i64 (-1)]
    .refine aK (gb _ (eO _ (inl (dr ?_))));exact b2 _ (inr ⟨_,bE rfl,lo ae (i64.wrap (ey+1)) h⟩)
   .exact cS (fa 0 _ (dN 0 _ (e8 _ (dw _ (inl (aN ak [.int .i64 eI]))))))
  exact dn h λn h=>ln n (i64.wrap (J-(a0.length:Int))) 0 h
theorem ZA (a0 J r) (h:FU a0 J=some r):aZ ah 20 [.slice (a0.map aV),.int .i64 J] (.int .i64 r) []:=by
 refine bx [0] [.tmp 4] Tryz.func20 c20 λbt ak bs=>aj ?_;refine aj ?_;refine ax ak λ_ eZ c_ _=>aj ?_;refine aD h (λdR h=>?_) λdR h=>?_
 .exact aN c_ [.int .i64 (-1)]
 .refine aK (eZ _ (inl (ax ak λ_ dw ev _=>aj ?_)));refine bg ev λkd _ b9 e8 _=>?_;show bm ah (.loop ?kN) _ _;have ln:∀n eI ey,O9 a0 n eI ey=some r->cL ah ?kN kd (ar [(0,.slice (a0.map aV)),(1,.int .i64 eI),(5,.int .i64 ey)]):=by
   refine cZ λ_ lo eI ey h=>cX b9 λ_ b2 cN dN=>ax cN λ_ ez _ fa=>aj ?_;refine aD h (λfi h=>?_) λfi h=>?_
   .refine aK (ez _ (inl (ax cN λ_ eO et _=>bg et λ_ gb gJ _ _=>?_)));obtain⟨R,dP,h⟩:=an h;refine c7 dP _ ?_;refine aj ?_;refine aD h (λhb h=>?_) λhb h=>?_
    .exact aN gJ [.int .i64 (-1)]
    .refine aK (gb _ (eO _ (inl (dr ?_))));exact b2 _ (inr ⟨_,bE rfl,lo (i64.wrap (eI-(R.length:Int))) (i64.wrap (ey+1)) h⟩)
   .exact cS (fa 0 _ (dN 0 _ (e8 _ (dw _ (inl (aN ak [.int .i64 eI]))))))
  exact dn h λn h=>ln n (i64.wrap (J-(a0.length:Int))) 0 h
theorem anv (a0 J r) (h:FV a0 J=some r):aZ ah 4 [n4 a0,.int .i64 J] (.int .i64 r) []:=by
 refine bx [0] [.tmp 4] Tryz.func4 c4 λbt ak bs=>aj ?_;obtain⟨R,aS,h⟩:=an h;refine cR (anp a0.cI J _ aS) _ ?_;refine ax ak λ_ fj bR aY=>aj ?_;refine aD h (λcP h=>?_) λcP h=>?_
 .exact aN bR [.int .i64 (-1)]
 .refine aK (fj _ (inl ?_));obtain⟨ae,h_,h⟩:=an h;refine cR (ans a0.b0 R _ h_) _ ?_;refine ax ak λ_ b2 cN _=>aj ?_;refine aD h (λfk h=>?_) λfk h=>?_
  .exact aN cN [.int .i64 (-1)]
  .refine aK (b2 _ (inl ?_));obtain⟨az,d_,h⟩:=an h;refine cR (anu a0.cb ae _ d_) _ ?_;refine ax ak λ_ lO n6 _=>aj ?_;refine aD h (λij h=>?_) λij h=>?_
   .exact aN n6 [.int .i64 (-1)]
   .refine aK (lO _ (inl ?_));obtain⟨aY,gT,h⟩:=an h;refine cR (ZA a0.cD az _ gT) _ ?_;refine ax ak λ_ oK n7 _=>aj ?_;refine aD h (λh7 h=>?_) λh7 h=>?_
    .exact aN n7 [.int .i64 (-1)]
    .refine aK (oK _ (inl ?_));obtain⟨aU,pL,h⟩:=an h;refine cR (ZA a0.cA aY _ pL) _ ?_;refine ax ak λ_ RR At _=>aj ?_;refine aD h (λpM h=>?_) λpM h=>?_
     .exact aN At [.int .i64 (-1)]
     .exact aK (RR _ (inl (aN ak [.int .i64 aU])))
theorem anw (a0 J r) (h:FW a0 J=some r):aZ ah 21 [jH a0,.int .i64 J] (.int .i64 r) []:=by
 refine bx [0] [.tmp 4] Tryz.func21 c21 λbt ak bs=>aj ?_;refine aj ?_;refine ax ak λ_ eZ c_ _=>aj ?_;refine aD h (λdR h=>?_) λdR h=>?_
 .exact aN c_ [.int .i64 (-1)]
 .exact aK (eZ _ (inl (aN ak [.int .i64 (i64.wrap (J-(a0.Label.length:Int)))])))
theorem anx (a0 J r) (h:JC a0 J=some r):aZ ah 5 [.slice (a0.map jH),.int .i64 J] (.int .i64 r) []:=by
 refine bx [0] [.tmp 4] Tryz.func5 c5 λbt ak bs=>aj ?_;refine aj ?_;refine ax ak λ_ eZ c_ _=>aj ?_;refine aD h (λdR h=>?_) λdR h=>?_
 .exact aN c_ [.int .i64 (-1)]
 .refine aK (eZ _ (inl (ax ak λ_ dw ev _=>aj ?_)));refine bg ev λkd _ b9 e8 _=>?_;show bm ah (.loop ?kN) _ _;have ln:∀n eI ey,O_ a0 n eI ey=some r->cL ah ?kN kd (ar [(0,.slice (a0.map jH)),(1,.int .i64 eI),(5,.int .i64 ey)]):=by
   refine cZ λ_ lo eI ey h=>cX b9 λ_ b2 cN dN=>ax cN λ_ ez _ fa=>aj ?_;refine aD h (λfi h=>?_) λfi h=>?_
   .refine aK (ez _ (inl (ax cN λ_ eO et _=>bg et λ_ gb gJ _ _=>?_)));obtain⟨R,dP,h⟩:=an h;obtain⟨ae,eG,h⟩:=an h;refine eU dP (anw R eI _ eG) _ ?_;refine aj ?_;refine aD h (λgw h=>?_) λgw h=>?_
    .exact aN gJ [.int .i64 (-1)]
    .refine aK (gb _ (eO _ (inl (dr ?_))));exact b2 _ (inr ⟨_,bE rfl,lo ae (i64.wrap (ey+1)) h⟩)
   .exact cS (fa 0 _ (dN 0 _ (e8 _ (dw _ (inl (aN ak [.int .i64 eI]))))))
  exact dn h λn h=>ln n (i64.wrap (J-(a0.length:Int))) 0 h
theorem anz (a0 r) (h:FX a0=some r):aZ ah 219 [nm a0] (ea r) []:=by
 refine bx [0] [.cell 2 237] Tryz.func219 ajY λbt ak bs=>aj ?_;refine aj ?_;refine aj ?_;refine aj ?_;exact aN ak [ea (bY.mk a0.Kind a0.Value)]
theorem anA (a0 r) (h:FY a0=some r):aZ ah 189 [.slice (a0.map nm)] (.ag 2 (r.map ea)) []:=by
 refine bx [0] [.tmp 2] Tryz.func189 ajZ λbt ak bs=>aj ?_;obtain⟨Au,aS,h⟩:=an h;refine r0 (U (q7 aS) @List.map_replicate.{0,0}) [(0,.slice (a0.map nm)),(3,.ag 2 ((List.replicate (Int.toNat (a0.length:Int)) (bY.mk 0 0)).map ea))] ?_;refine ax ak λ_ fj bR _=>ws [(0,.slice (a0.map nm)),(3,.ag 2 ((List.replicate (Int.toNat (a0.length:Int)) (bY.mk 0 0)).map ea)),(4,.int .i64 0)] ?_;refine bg bR λjh _ cU cP _=>?_;show bm ah (.loop ?hd) _ _;have hL:∀n bP bL,Pa a0 n bP bL=some r->cL ah ?hd jh (ar [(0,.slice (a0.map nm)),(3,.ag 2 (bP.map ea)),(4,.int .i64 bL)]):=by
  refine cZ λ_ hM bP bL h=>cX cU λ_ dw ev bu=>ax ev λ_ ig _ cy=>aj ?_;refine aD h (λe3 h=>?_) λe3 h=>?_
  .refine aK (ig _ (inl (ax ev λ_ ez hN _=>bg hN λ_ gU _ _ _=>?_)));obtain⟨R,dU,h⟩:=an h;obtain⟨ae,d_,h⟩:=an h;obtain⟨az,cB,h⟩:=an h;refine iy (b7 [(0,.slice (a0.map nm)),(3,.ag 2 ((List.set bP (Int.toNat bL) ae).map ea)),(4,.int .i64 bL)] (λP bc=>?_) ?_)
   ·(try simp only[aE.down,simprocAttr,dU,cB,ca cB,cW,de]);refine dq (anz R _ d_) (hK:= ?_);simp only[aE.down,simprocAttr,dU,cB,ca cB,cW,de];exact bU (U dU (U cB (U (ca cB) @cW)))
   refine gU _ (ez _ (inl (wr [(0,.slice (a0.map nm)),(3,.ag 2 ((List.set bP (Int.toNat bL) ae).map ea)),(4,.int .i64 (i64.wrap (bL+1)))] ?_)));exact dw _ (inr ⟨_,bE rfl,hM (List.set bP (Int.toNat bL) ae) (i64.wrap (bL+1)) h⟩)
  .exact cS (cy 0 _ (bu 0 _ (cP _ (fj _ (inl (aN ak [.ag 2 (bP.map ea)]))))))
 exact dn h λn h=>hL n (List.replicate (Int.toNat (a0.length:Int)) (bY.mk 0 0)) 0 h
theorem anB (a0 r) (h:JD a0=some r):aZ ah 154 [.slice (a0.map lM)] (.ag 1 (r.map lN)) []:=by
 refine bx [0] [.tmp 2] Tryz.func154 c154 λbt ak bs=>aj ?_;obtain⟨Au,aS,h⟩:=an h;refine r0 (U (q7 aS) @List.map_replicate.{0,0}) [(0,.slice (a0.map lM)),(3,.ag 1 (List.replicate (Int.toNat (a0.length:Int)) .bf))] ?_;refine ax ak λ_ fj bR _=>ws [(0,.slice (a0.map lM)),(3,.ag 1 (List.replicate (Int.toNat (a0.length:Int)) .bf)),(4,.int .i64 0)] ?_;refine bg bR λjh _ cU cP _=>?_;show bm ah (.loop ?hd) _ _;have hL:∀n bP bL,Pb a0 n bP bL=some r->cL ah ?hd jh (ar [(0,.slice (a0.map lM)),(3,.ag 1 (bP.map lN)),(4,.int .i64 bL)]):=by
  refine cZ λ_ hM bP bL h=>cX cU λ_ dw ev bu=>ax ev λ_ ig _ cy=>aj ?_;refine aD h (λe3 h=>?_) λe3 h=>?_
  .refine aK (ig _ (inl (ax ev λ_ ez hN _=>bg hN λ_ gU _ _ _=>?_)));obtain⟨R,dU,h⟩:=an h;obtain⟨ae,d_,h⟩:=an h;obtain⟨az,cB,h⟩:=an h;refine iy (b7 [(0,.slice (a0.map lM)),(3,.ag 1 ((List.set bP (Int.toNat bL) ae).map lN)),(4,.int .i64 bL)] (λP bc=>?_) ?_)
   ·(try simp only[aE.down,simprocAttr,dU,cB,ca cB,cW,de]);refine dq (anA R _ d_) (hK:= ?_);simp only[aE.down,simprocAttr,dU,cB,ca cB,cW,de];exact bU (U dU (U cB (U (ca cB) @cW)))
   refine gU _ (ez _ (inl (wr [(0,.slice (a0.map lM)),(3,.ag 1 ((List.set bP (Int.toNat bL) ae).map lN)),(4,.int .i64 (i64.wrap (bL+1)))] ?_)));exact dw _ (inr ⟨_,bE rfl,hM (List.set bP (Int.toNat bL) ae) (i64.wrap (bL+1)) h⟩)
  .exact cS (cy 0 _ (bu 0 _ (cP _ (fj _ (inl (aN ak [.ag 1 (bP.map lN)]))))))
 obtain⟨n,h⟩:=l_ h;exact p7 (inr ⟨_,hf [] rfl (cz (t:=0) (d:=.slice (a0.map lM)) rfl (ha (t:=3) (d:=.ag 1 (List.replicate (Int.toNat (a0.length:Int)) .bf)) (bT:=.ag 1 ((List.replicate (Int.toNat (a0.length:Int)) []).map lN)) rfl rfl (I_ (u:=lN) (z:=[]) (.ix _) _) (by decide) (cz (t:=4) (d:=.int .i64 0) rfl (hh)))),hL n (List.replicate (Int.toNat (a0.length:Int)) []) 0 h⟩)
theorem anC (a0 r) (h:FZ a0=some r):aZ ah 115 [kL a0] (jw r) []:=by
 refine bx [0] [.cell 2 159] Tryz.func115 aj0 λbt ak bs=>aj ?_;refine aj ?_;refine aj ?_;refine aj ?_;refine aj ?_;obtain⟨R,cg,h⟩:=an h;refine cR (anB a0.ck _ cg) _ ?_;exact aN ak [jw (b_.mk a0.Kind a0.Number a0.Name R)]
theorem anD (a0 r) (h:JE a0=some r):aZ ah 84 [.slice (a0.map kL)] (.ag 4 (r.map jw)) []:=by
 refine bx [0] [.tmp 2] Tryz.func84 aj1 λbt ak bs=>aj ?_;obtain⟨Au,aS,h⟩:=an h;refine r0 (U (q7 aS) @List.map_replicate.{0,0}) [(0,.slice (a0.map kL)),(3,.ag 4 (List.replicate (Int.toNat (a0.length:Int)) (.agg [(.int .i64 0),(.int .i64 0),(.str []),.bf])))] ?_;refine ax ak λ_ fj bR _=>ws [(0,.slice (a0.map kL)),(3,.ag 4 (List.replicate (Int.toNat (a0.length:Int)) (.agg [(.int .i64 0),(.int .i64 0),(.str []),.bf]))),(4,.int .i64 0)] ?_;refine bg bR λjh _ cU cP _=>?_;show bm ah (.loop ?hd) _ _;have hL:∀n bP bL,Pc a0 n bP bL=some r->cL ah ?hd jh (ar [(0,.slice (a0.map kL)),(3,.ag 4 (bP.map jw)),(4,.int .i64 bL)]):=by
  refine cZ λ_ hM bP bL h=>cX cU λ_ dw ev bu=>ax ev λ_ ig _ cy=>aj ?_;refine aD h (λe3 h=>?_) λe3 h=>?_
  .refine aK (ig _ (inl (ax ev λ_ ez hN _=>bg hN λ_ gU _ _ _=>?_)));obtain⟨R,dU,h⟩:=an h;obtain⟨ae,d_,h⟩:=an h;obtain⟨az,cB,h⟩:=an h;refine iy (b7 [(0,.slice (a0.map kL)),(3,.ag 4 ((List.set bP (Int.toNat bL) ae).map jw)),(4,.int .i64 bL)] (λP bc=>?_) ?_)
   ·(try simp only[aE.down,simprocAttr,dU,cB,ca cB,cW,de]);refine dq (anC R _ d_) (hK:= ?_);simp only[aE.down,simprocAttr,dU,cB,ca cB,cW,de];exact bU (U dU (U cB (U (ca cB) @cW)))
   refine gU _ (ez _ (inl (wr [(0,.slice (a0.map kL)),(3,.ag 4 ((List.set bP (Int.toNat bL) ae).map jw)),(4,.int .i64 (i64.wrap (bL+1)))] ?_)));exact dw _ (inr ⟨_,bE rfl,hM (List.set bP (Int.toNat bL) ae) (i64.wrap (bL+1)) h⟩)
  .exact cS (cy 0 _ (bu 0 _ (cP _ (fj _ (inl (aN ak [.ag 4 (bP.map jw)]))))))
 obtain⟨n,h⟩:=l_ h;exact p7 (inr ⟨_,hf [] rfl (cz (t:=0) (d:=.slice (a0.map kL)) rfl (ha (t:=3) (d:=.ag 4 (List.replicate (Int.toNat (a0.length:Int)) (.agg [(.int .i64 0),(.int .i64 0),(.str []),.bf]))) (bT:=.ag 4 ((List.replicate (Int.toNat (a0.length:Int)) (b_.mk 0 0 ([]:azq) [])).map jw)) rfl rfl (I_ (u:=jw) (z:=(b_.mk 0 0 ([]:azq) [])) (.agg (.cons (.refl _) (.cons (.refl _) (.cons (.refl _) (.cons (.ix _) (.nil)))))) _) (by decide) (cz (t:=4) (d:=.int .i64 0) rfl (hh)))),hL n (List.replicate (Int.toNat (a0.length:Int)) (b_.mk 0 0 ([]:azq) [])) 0 h⟩)
theorem anE (a0 r) (h:F1 a0=some r):aZ ah 53 [kb a0] (hC r) []:=by
 refine bx [0] [.cell 2 103] Tryz.func53 c53 λbt ak bs=>aj ?_;refine aj ?_;refine aj ?_;refine aj ?_;obtain⟨R,cw,h⟩:=an h;refine cR (anD a0.Body _ cw) _ ?_;exact aN ak [hC (a1.mk a0.Name a0.dV R)]
theorem anF (a0 r) (h:JF a0=some r):aZ ah 25 [.slice (a0.map kb)] (.ag 3 (r.map hC)) []:=by
 refine bx [0] [.tmp 2] Tryz.func25 aj2 λbt ak bs=>aj ?_;obtain⟨Au,aS,h⟩:=an h;refine r0 (U (q7 aS) @List.map_replicate.{0,0}) [(0,.slice (a0.map kb)),(3,.ag 3 (List.replicate (Int.toNat (a0.length:Int)) (.agg [(.str []),(.int .i64 0),.bf])))] ?_;refine ax ak λ_ fj bR _=>ws [(0,.slice (a0.map kb)),(3,.ag 3 (List.replicate (Int.toNat (a0.length:Int)) (.agg [(.str []),(.int .i64 0),.bf]))),(4,.int .i64 0)] ?_;refine bg bR λjh _ cU cP _=>?_;show bm ah (.loop ?hd) _ _;have hL:∀n bP bL,Pd a0 n bP bL=some r->cL ah ?hd jh (ar [(0,.slice (a0.map kb)),(3,.ag 3 (bP.map hC)),(4,.int .i64 bL)]):=by
  refine cZ λ_ hM bP bL h=>cX cU λ_ dw ev bu=>ax ev λ_ ig _ cy=>aj ?_;refine aD h (λe3 h=>?_) λe3 h=>?_
  .refine aK (ig _ (inl (ax ev λ_ ez hN _=>bg hN λ_ gU _ _ _=>?_)));obtain⟨R,dU,h⟩:=an h;obtain⟨ae,d_,h⟩:=an h;obtain⟨az,cB,h⟩:=an h;refine iy (b7 [(0,.slice (a0.map kb)),(3,.ag 3 ((List.set bP (Int.toNat bL) ae).map hC)),(4,.int .i64 bL)] (λP bc=>?_) ?_)
   ·(try simp only[aE.down,simprocAttr,dU,cB,ca cB,cW,de]);refine dq (anE R _ d_) (hK:= ?_);simp only[aE.down,simprocAttr,dU,cB,ca cB,cW,de];exact bU (U dU (U cB (U (ca cB) @cW)))
   refine gU _ (ez _ (inl (wr [(0,.slice (a0.map kb)),(3,.ag 3 ((List.set bP (Int.toNat bL) ae).map hC)),(4,.int .i64 (i64.wrap (bL+1)))] ?_)));exact dw _ (inr ⟨_,bE rfl,hM (List.set bP (Int.toNat bL) ae) (i64.wrap (bL+1)) h⟩)
  .exact cS (cy 0 _ (bu 0 _ (cP _ (fj _ (inl (aN ak [.ag 3 (bP.map hC)]))))))
 obtain⟨n,h⟩:=l_ h;exact p7 (inr ⟨_,hf [] rfl (cz (t:=0) (d:=.slice (a0.map kb)) rfl (ha (t:=3) (d:=.ag 3 (List.replicate (Int.toNat (a0.length:Int)) (.agg [(.str []),(.int .i64 0),.bf]))) (bT:=.ag 3 ((List.replicate (Int.toNat (a0.length:Int)) (a1.mk ([]:azq) 0 [])).map hC)) rfl rfl (I_ (u:=hC) (z:=(a1.mk ([]:azq) 0 [])) (.agg (.cons (.refl _) (.cons (.refl _) (.cons (.ix _) (.nil))))) _) (by decide) (cz (t:=4) (d:=.int .i64 0) rfl (hh)))),hL n (List.replicate (Int.toNat (a0.length:Int)) (a1.mk ([]:azq) 0 [])) 0 h⟩)
theorem anG (a0 r) (h:JG a0=some r):aZ ah 85 [.slice (a0.map bb)] (.ag 1 (r.map bb)) []:=by
 refine bx [0] [.tmp 2] Tryz.func85 c85 λbt ak bs=>aj ?_;obtain⟨DH,aS,h⟩:=an h;refine r0 (U (q7 aS) @List.map_replicate.{0,0}) [(0,.slice (a0.map bb)),(3,.ag 1 ((List.replicate (Int.toNat (a0.length:Int)) 0).map bb))] ?_;refine ax ak λ_ fj bR _=>ws [(0,.slice (a0.map bb)),(3,.ag 1 ((List.replicate (Int.toNat (a0.length:Int)) 0).map bb)),(4,.int .i64 0)] ?_;refine bg bR λjh _ cU cP _=>?_;show bm ah (.loop ?hd) _ _;have hL:∀n bP bL,Pe a0 n bP bL=some r->cL ah ?hd jh (ar [(0,.slice (a0.map bb)),(3,.ag 1 (bP.map bb)),(4,.int .i64 bL)]):=by
  refine cZ λ_ hM bP bL h=>cX cU λ_ dw ev bu=>ax ev λ_ ig _ cy=>aj ?_;refine aD h (λe3 h=>?_) λe3 h=>?_
  .refine aK (ig _ (inl (ax ev λ_ ez hN _=>bg hN λ_ gU _ _ _=>?_)));obtain⟨R,dU,h⟩:=an h;obtain⟨ae,d_,h⟩:=an h;refine iy (b7 [(0,.slice (a0.map bb)),(3,.ag 1 ((List.set bP (Int.toNat bL) R).map bb)),(4,.int .i64 bL)] (λP bc=>?_) ?_)
   .simp only[aE.down,simprocAttr,dU,d_,ca d_,cW,de];exact bU (U dU (U d_ (U (ca d_) @cW)))
   refine gU _ (ez _ (inl (wr [(0,.slice (a0.map bb)),(3,.ag 1 ((List.set bP (Int.toNat bL) R).map bb)),(4,.int .i64 (i64.wrap (bL+1)))] ?_)));exact dw _ (inr ⟨_,bE rfl,hM (List.set bP (Int.toNat bL) R) (i64.wrap (bL+1)) h⟩)
  .exact cS (cy 0 _ (bu 0 _ (cP _ (fj _ (inl (aN ak [.ag 1 (bP.map bb)]))))))
 exact dn h λn h=>hL n (List.replicate (Int.toNat (a0.length:Int)) 0) 0 h
theorem anH (a0 r) (h:F2 a0=some r):aZ ah 54 [kc a0] (hT r) []:=by
 refine bx [0] [.cell 2 105] Tryz.func54 aj3 λbt ak bs=>aj ?_;refine aj ?_;refine aj ?_;obtain⟨R,cF,h⟩:=an h;refine cR (anG a0.b5 _ cF) _ ?_;exact aN ak [hT (cQ.mk a0.cJ R)]
theorem anI (a0 r) (h:JH a0=some r):aZ ah 26 [.slice (a0.map kc)] (.ag 2 (r.map hT)) []:=by
 refine bx [0] [.tmp 2] Tryz.func26 Ry λbt ak bs=>aj ?_;obtain⟨Au,aS,h⟩:=an h;refine r0 (U (q7 aS) @List.map_replicate.{0,0}) [(0,.slice (a0.map kc)),(3,.ag 2 (List.replicate (Int.toNat (a0.length:Int)) (.agg [(.int .i64 0),.bf])))] ?_;refine ax ak λ_ fj bR _=>ws [(0,.slice (a0.map kc)),(3,.ag 2 (List.replicate (Int.toNat (a0.length:Int)) (.agg [(.int .i64 0),.bf]))),(4,.int .i64 0)] ?_;refine bg bR λjh _ cU cP _=>?_;show bm ah (.loop ?hd) _ _;have hL:∀n bP bL,Pf a0 n bP bL=some r->cL ah ?hd jh (ar [(0,.slice (a0.map kc)),(3,.ag 2 (bP.map hT)),(4,.int .i64 bL)]):=by
  refine cZ λ_ hM bP bL h=>cX cU λ_ dw ev bu=>ax ev λ_ ig _ cy=>aj ?_;refine aD h (λe3 h=>?_) λe3 h=>?_
  .refine aK (ig _ (inl (ax ev λ_ ez hN _=>bg hN λ_ gU _ _ _=>?_)));obtain⟨R,dU,h⟩:=an h;obtain⟨ae,d_,h⟩:=an h;obtain⟨az,cB,h⟩:=an h;refine iy (b7 [(0,.slice (a0.map kc)),(3,.ag 2 ((List.set bP (Int.toNat bL) ae).map hT)),(4,.int .i64 bL)] (λP bc=>?_) ?_)
   ·(try simp only[aE.down,simprocAttr,dU,cB,ca cB,cW,de]);refine dq (anH R _ d_) (hK:= ?_);simp only[aE.down,simprocAttr,dU,cB,ca cB,cW,de];exact bU (U dU (U cB (U (ca cB) @cW)))
   refine gU _ (ez _ (inl (wr [(0,.slice (a0.map kc)),(3,.ag 2 ((List.set bP (Int.toNat bL) ae).map hT)),(4,.int .i64 (i64.wrap (bL+1)))] ?_)));exact dw _ (inr ⟨_,bE rfl,hM (List.set bP (Int.toNat bL) ae) (i64.wrap (bL+1)) h⟩)
  .exact cS (cy 0 _ (bu 0 _ (cP _ (fj _ (inl (aN ak [.ag 2 (bP.map hT)]))))))
 obtain⟨n,h⟩:=l_ h;exact p7 (inr ⟨_,hf [] rfl (cz (t:=0) (d:=.slice (a0.map kc)) rfl (ha (t:=3) (d:=.ag 2 (List.replicate (Int.toNat (a0.length:Int)) (.agg [(.int .i64 0),.bf]))) (bT:=.ag 2 ((List.replicate (Int.toNat (a0.length:Int)) (cQ.mk 0 [])).map hT)) rfl rfl (I_ (u:=hT) (z:=(cQ.mk 0 [])) (.agg (.cons (.refl _) (.cons (.ix _) (.nil)))) _) (by decide) (cz (t:=4) (d:=.int .i64 0) rfl (hh)))),hL n (List.replicate (Int.toNat (a0.length:Int)) (cQ.mk 0 [])) 0 h⟩)
theorem anJ (a0 r) (h:F3 a0=some r):aZ ah 55 [jT a0] (bJ r) []:=by
 refine bx [0] [.cell 2 107] Tryz.func55 Rz λbt ak bs=>aj ?_;refine aj ?_;refine aj ?_;refine aj ?_;refine aj ?_;exact aN ak [bJ (bX.mk a0.Left a0.cH a0.Result)]
theorem anK (a0 r) (h:JI a0=some r):aZ ah 27 [.slice (a0.map jT)] (.ag 3 (r.map bJ)) []:=by
 refine bx [0] [.tmp 2] Tryz.func27 aj4 λbt ak bs=>aj ?_;obtain⟨Au,aS,h⟩:=an h;refine r0 (U (q7 aS) @List.map_replicate.{0,0}) [(0,.slice (a0.map jT)),(3,.ag 3 ((List.replicate (Int.toNat (a0.length:Int)) (bX.mk ([]:azq) ([]:azq) ([]:azq))).map bJ))] ?_;refine ax ak λ_ fj bR _=>ws [(0,.slice (a0.map jT)),(3,.ag 3 ((List.replicate (Int.toNat (a0.length:Int)) (bX.mk ([]:azq) ([]:azq) ([]:azq))).map bJ)),(4,.int .i64 0)] ?_;refine bg bR λjh _ cU cP _=>?_;show bm ah (.loop ?hd) _ _;have hL:∀n bP bL,Pg a0 n bP bL=some r->cL ah ?hd jh (ar [(0,.slice (a0.map jT)),(3,.ag 3 (bP.map bJ)),(4,.int .i64 bL)]):=by
  refine cZ λ_ hM bP bL h=>cX cU λ_ dw ev bu=>ax ev λ_ ig _ cy=>aj ?_;refine aD h (λe3 h=>?_) λe3 h=>?_
  .refine aK (ig _ (inl (ax ev λ_ ez hN _=>bg hN λ_ gU _ _ _=>?_)));obtain⟨R,dU,h⟩:=an h;obtain⟨ae,d_,h⟩:=an h;obtain⟨az,cB,h⟩:=an h;refine iy (b7 [(0,.slice (a0.map jT)),(3,.ag 3 ((List.set bP (Int.toNat bL) ae).map bJ)),(4,.int .i64 bL)] (λP bc=>?_) ?_)
   ·(try simp only[aE.down,simprocAttr,dU,cB,ca cB,cW,de]);refine dq (anJ R _ d_) (hK:= ?_);simp only[aE.down,simprocAttr,dU,cB,ca cB,cW,de];exact bU (U dU (U cB (U (ca cB) @cW)))
   refine gU _ (ez _ (inl (wr [(0,.slice (a0.map jT)),(3,.ag 3 ((List.set bP (Int.toNat bL) ae).map bJ)),(4,.int .i64 (i64.wrap (bL+1)))] ?_)));exact dw _ (inr ⟨_,bE rfl,hM (List.set bP (Int.toNat bL) ae) (i64.wrap (bL+1)) h⟩)
  .exact cS (cy 0 _ (bu 0 _ (cP _ (fj _ (inl (aN ak [.ag 3 (bP.map bJ)]))))))
 exact dn h λn h=>hL n (List.replicate (Int.toNat (a0.length:Int)) (bX.mk ([]:azq) ([]:azq) ([]:azq))) 0 h
theorem ZB (a0 r) (h:F4 a0=some r):aZ ah 28 [.slice (a0.map aV)] (.ag 1 (r.map aV)) []:=by
 refine bx [0] [.tmp 2] Tryz.func28 c28 λbt ak bs=>aj ?_;obtain⟨DH,aS,h⟩:=an h;refine r0 (U (q7 aS) @List.map_replicate.{0,0}) [(0,.slice (a0.map aV)),(3,.ag 1 ((List.replicate (Int.toNat (a0.length:Int)) ([]:azq)).map aV))] ?_;refine ax ak λ_ fj bR _=>ws [(0,.slice (a0.map aV)),(3,.ag 1 ((List.replicate (Int.toNat (a0.length:Int)) ([]:azq)).map aV)),(4,.int .i64 0)] ?_;refine bg bR λjh _ cU cP _=>?_;show bm ah (.loop ?hd) _ _;have hL:∀n bP bL,Ph a0 n bP bL=some r->cL ah ?hd jh (ar [(0,.slice (a0.map aV)),(3,.ag 1 (bP.map aV)),(4,.int .i64 bL)]):=by
  refine cZ λ_ hM bP bL h=>cX cU λ_ dw ev bu=>ax ev λ_ ig _ cy=>aj ?_;refine aD h (λe3 h=>?_) λe3 h=>?_
  .refine aK (ig _ (inl (ax ev λ_ ez hN _=>bg hN λ_ gU _ _ _=>?_)));obtain⟨R,dU,h⟩:=an h;obtain⟨ae,d_,h⟩:=an h;refine iy (b7 [(0,.slice (a0.map aV)),(3,.ag 1 ((List.set bP (Int.toNat bL) R).map aV)),(4,.int .i64 bL)] (λP bc=>?_) ?_)
   .simp only[aE.down,simprocAttr,dU,d_,ca d_,cW,de];exact bU (U dU (U d_ (U (ca d_) @cW)))
   refine gU _ (ez _ (inl (wr [(0,.slice (a0.map aV)),(3,.ag 1 ((List.set bP (Int.toNat bL) R).map aV)),(4,.int .i64 (i64.wrap (bL+1)))] ?_)));exact dw _ (inr ⟨_,bE rfl,hM (List.set bP (Int.toNat bL) R) (i64.wrap (bL+1)) h⟩)
  .exact cS (cy 0 _ (bu 0 _ (cP _ (fj _ (inl (aN ak [.ag 1 (bP.map aV)]))))))
 exact dn h λn h=>hL n (List.replicate (Int.toNat (a0.length:Int)) ([]:azq)) 0 h
theorem LC (a0 r) (h:ye a0=some r):aZ ah 7 [n4 a0] (tr r) []:=by
 refine bx [0] [.cell 2 38] Tryz.func7 NN λbt ak bs=>aj ?_;refine aj ?_;obtain⟨R,cf,h⟩:=an h;refine cR (anF a0.cI _ cf) _ ?_;obtain⟨ae,cw,h⟩:=an h;refine cR (anI a0.b0 _ cw) _ ?_;obtain⟨az,gk,h⟩:=an h;refine cR (anK a0.cb _ gk) _ ?_;obtain⟨aY,iU,h⟩:=an h;refine cR (ZB a0.cD _ iU) _ ?_;obtain⟨aU,dm,h⟩:=an h;refine cR (ZB a0.cA _ dm) _ ?_;exact aN ak [tr (cY.mk R ae az aY aU)]
theorem anL (a0 r) (h:F5 a0=some r):aZ ah 29 [jH a0] (eY r) []:=by
 refine bx [0] [.cell 2 64] Tryz.func29 aj5 λbt ak bs=>aj ?_;refine aj ?_;refine aj ?_;refine aj ?_;refine aj ?_;refine aj ?_;exact aN ak [eY (dC.mk a0.Choice a0.ef a0.Second a0.Label)]
theorem LD (a0 r) (h:zK a0=some r):aZ ah 8 [.slice (a0.map jH)] (.ag 4 (r.map eY)) []:=by
 refine bx [0] [.tmp 2] Tryz.func8 hd λbt ak bs=>aj ?_;obtain⟨Au,aS,h⟩:=an h;refine r0 (U (q7 aS) @List.map_replicate.{0,0}) [(0,.slice (a0.map jH)),(3,.ag 4 ((List.replicate (Int.toNat (a0.length:Int)) (dC.mk 0 0 0 ([]:azq))).map eY))] ?_;refine ax ak λ_ fj bR _=>ws [(0,.slice (a0.map jH)),(3,.ag 4 ((List.replicate (Int.toNat (a0.length:Int)) (dC.mk 0 0 0 ([]:azq))).map eY)),(4,.int .i64 0)] ?_;refine bg bR λjh _ cU cP _=>?_;show bm ah (.loop ?hd) _ _;have hL:∀n bP bL,Pj a0 n bP bL=some r->cL ah ?hd jh (ar [(0,.slice (a0.map jH)),(3,.ag 4 (bP.map eY)),(4,.int .i64 bL)]):=by
  refine cZ λ_ hM bP bL h=>cX cU λ_ dw ev bu=>ax ev λ_ ig _ cy=>aj ?_;refine aD h (λe3 h=>?_) λe3 h=>?_
  .refine aK (ig _ (inl (ax ev λ_ ez hN _=>bg hN λ_ gU _ _ _=>?_)));obtain⟨R,dU,h⟩:=an h;obtain⟨ae,d_,h⟩:=an h;obtain⟨az,cB,h⟩:=an h;refine iy (b7 [(0,.slice (a0.map jH)),(3,.ag 4 ((List.set bP (Int.toNat bL) ae).map eY)),(4,.int .i64 bL)] (λP bc=>?_) ?_)
   ·(try simp only[aE.down,simprocAttr,dU,cB,ca cB,cW,de]);refine dq (anL R _ d_) (hK:= ?_);simp only[aE.down,simprocAttr,dU,cB,ca cB,cW,de];exact bU (U dU (U cB (U (ca cB) @cW)))
   refine gU _ (ez _ (inl (wr [(0,.slice (a0.map jH)),(3,.ag 4 ((List.set bP (Int.toNat bL) ae).map eY)),(4,.int .i64 (i64.wrap (bL+1)))] ?_)));exact dw _ (inr ⟨_,bE rfl,hM (List.set bP (Int.toNat bL) ae) (i64.wrap (bL+1)) h⟩)
  .exact cS (cy 0 _ (bu 0 _ (cP _ (fj _ (inl (aN ak [.ag 4 (bP.map eY)]))))))
 exact dn h λn h=>hL n (List.replicate (Int.toNat (a0.length:Int)) (dC.mk 0 0 0 ([]:azq))) 0 h
theorem RS (a0 r) (h:F6 a0=some r):aZ ah 142 [.int .u8 (a0.toNat:Int)] (.bool r) []:=by
 refine bx [0] [.tmp 2] Tryz.func142 aj6 λbt ak bs=>aj ?_;refine n5 (decide (97<=(a0.toNat:Int))) [(2,.bool ((decide (97<=(a0.toNat:Int)))&&(decide ((a0.toNat:Int)<=122))))] ?_;exact cM ak [.bool ((decide (97<=(a0.toNat:Int)))&&(decide ((a0.toNat:Int)<=122)))]
theorem RT (a0 r) (h:B7 a0=some r):aZ ah 143 [.int .u8 (a0.toNat:Int)] (.bool r) []:=by
 refine bx [0] [.tmp 2] Tryz.func143 c143 λbt ak bs=>aj ?_;refine n5 (decide (48<=(a0.toNat:Int))) [(2,.bool ((decide (48<=(a0.toNat:Int)))&&(decide ((a0.toNat:Int)<=57))))] ?_;exact cM ak [.bool ((decide (48<=(a0.toNat:Int)))&&(decide ((a0.toNat:Int)<=57)))]
theorem DI (a0 r) (h:yf a0=some r):aZ ah 103 [.str a0] (.bool r) []:=by
 refine bx [0] [.tmp 2] Tryz.func103 aj7 λbt ak bs=>aj ?_;refine ax ak λ_ bF bd ae=>?_;rcases dO h with⟨bw,h⟩|⟨bw,h⟩
 .refine c7 bw _ ?_;refine jS rfl ?_;exact aN bd [.bool false]
 .rcases dO h with⟨cP,h⟩|⟨cP,h⟩
  .refine c7 (U bw cP) _ ?_;refine jS rfl ?_;exact aN bd [.bool false]
  .obtain⟨R,gk,h⟩:=an h;obtain⟨ae,h_,h⟩:=an h;refine eU (U bw (U cP gk)) (RS R _ h_) _ ?_;refine aD h (λe3 h=>?_) λe3 h=>?_
   .exact aN bd [.bool false]
   .refine aK (bF _ (inl (ax ak λ_ gU ke _=>aj ?_)));refine bg ke λHo _ et iM _=>?_;show bm ah (.loop ?gS) _ _;have gV:∀n dW,F7 a0 n dW=some r->cL ah ?gS Ho (ar [(0,.str a0),(3,.int .i64 dW)]):=by
     refine cZ λ_ gE dW h=>cX et λ_ gb gJ hB=>ax gJ λ_ lO _ ju=>aj ?_;refine aD h (λij h=>?_) λij h=>?_
     .refine aK (lO _ (inl (ax gJ λ_ r3 Hp _=>bg Hp λ_ LF RU _ _=>?_)));obtain⟨az,fl,h⟩:=an h;obtain⟨aY,iD,h⟩:=an h;rcases dO h with⟨h7,h⟩|⟨h7,h⟩
      .obtain⟨aU,iX,h⟩:=an h;refine dh (b7 [(0,.str a0),(3,.int .i64 dW),(34,.bool (!aU))] (λP bc=>?_) ?_)
       ·(try simp only[aE.down,simprocAttr,fl,(hY h7)]);refine dq (RS az _ iD) (hK:= ?_);simp only[aE.down,simprocAttr,fl,(hY h7)];refine g_ (RT az _ iX) (hK:= ?_);simp only[aE.down,simprocAttr,fl,(hY h7)];exact bU (U fl (hY h7))
       refine aD h (λkp h=>?_) λkp h=>?_
       .exact aN RU [.bool false]
       .refine aK (LF _ (r3 _ (inl (dr ?_))));exact gb _ (inr ⟨_,bE rfl,gE (i64.wrap (dW+1)) h⟩)
      .refine eU (U fl (cm h7)) (RS az _ iD) _ ?_;refine ot rfl ?_;refine aK (LF _ (r3 _ (inl (dr ?_))));exact gb _ (inr ⟨_,bE rfl,gE (i64.wrap (dW+1)) h⟩)
     .exact cS (ju 0 _ (hB 0 _ (iM _ (gU _ (inl (aN ak [.bool true]))))))
    exact dn h λn h=>gV n 0 h
theorem mP (a0 J a2 r) (h:mr a0 J a2=some r):aZ ah 74 [.int .i64 a0,.int .i64 J,.int .i64 a2] (.bool r) []:=by
 refine bx [0,1,2] [.tmp 6] Tryz.func74 aj8 λbt ak bs=>aj ?_;refine n5 (decide (J<=a0)) [(6,.bool ((decide (J<=a0))&&(decide (a0<=a2))))] ?_;exact cM ak [.bool ((decide (J<=a0))&&(decide (a0<=a2)))]
theorem ZC (a0 r) (h:F9 a0=some r):aZ ah 183 [.ref (eH a0)] (.int .i64 r) []:=by
 refine bx [0] [.tmp 2] Tryz.func183 c183 λbt ak bs=>aj ?_;refine ax ak λ_ bF bd _=>aj ?_;refine bg bd λeP fj bR _ _=>?_;show bm ah (.seq _ ?kN) _ _;have Av:∀j9,F8 a0 j9=some r->bm ah ?kN eP (ar [(6,.int .i64 a0.Kind),(7,.bool j9)]):=by
  intro j9 h;refine aD h (λcP h=>?_) λcP h=>?_
  .exact aN bR [.int .i64 1]
  .refine aj ?_;refine aD h (λe8 h=>?_) λe8 h=>?_
   .exact aN bR [.int .i64 2]
   .exact aK (fj _ (bF _ (inl (aN ak [.int .i64 0]))))
 refine ax bR λ_ dM _ _=>aj ?_;refine aD h (λfi h=>?_) λfi h=>?_
 .simp only[fi,Hn.down];exact aK (dM _ (inr ⟨_,bE rfl,Av true h⟩))
 .refine aj ?_;refine aD h (λff h=>?_) λff h=>?_
  .simp only[ff,Hn.down];exact aK (dM _ (inr ⟨_,bE rfl,Av true h⟩))
  .refine dr ?_;exact dM _ (inr ⟨_,bE rfl,Av (a0.Kind==4) h⟩)
theorem anM (a0 r) (h:JJ a0=some r):aZ ah 144 [.slice (a0.map eH)] (.bool r) []:=by
 refine bx [0] [.tmp 2] Tryz.func144 aj9 λbt ak bs=>aj ?_;refine ax ak λ_ bF bd ae=>n5 ((a0.length:Int)==0) [(0,.slice (a0.map eH)),(12,.bool (((a0.length:Int)==0)||(decide (20<(a0.length:Int)))))] ?_;refine aD h (λbw h=>?_) λbw h=>?_
 .exact aN bd [.bool false]
 .refine aK (bF _ (inl (aj ?_)));refine ax ak λ_ dw ev _=>aj ?_;refine bg ev λkd _ b9 e8 _=>?_;show bm ah (.loop ?kN) _ _;have ln:∀n hi hJ,B8 a0 n hi hJ=some r->cL ah ?kN kd (ar [(0,.slice (a0.map eH)),(3,.int .i64 hi),(4,.int .i64 hJ)]):=by
   refine cZ λ_ lo hi hJ h=>cX b9 λ_ b2 cN dN=>ax cN λ_ ez _ fa=>aj ?_;refine aD h (λfi h=>?_) λfi h=>?_
   .refine aK (ez _ (inl (ax cN λ_ eO et _=>bg et λ_ gb gJ _ _=>ax gJ λ_ lO n6 _=>aj ?_)));refine aD h (λij h=>?_) λij h=>?_
    .exact aN n6 [.bool false]
    .refine aK (lO _ (inl ?_));obtain⟨R,gT,h⟩:=an h;obtain⟨ae,fl,h⟩:=an h;refine As gT (ZC R _ fl) _ ?_;refine gb _ (eO _ (inl (dr ?_)));exact b2 _ (inr ⟨_,bE rfl,lo (i64.wrap (hi+(i64.wrap (ae-1)))) (i64.wrap (hJ+1)) h⟩)
   .exact cS (fa 0 _ (dN 0 _ (e8 _ (dw _ (inl (aN ak [.bool (hi==0)]))))))
  exact dn h λn h=>ln n 1 0 h
theorem anN (a0 r) (h:Pm a0=some r):aZ ah 184 [.ref (eH a0)] (.bool r) []:=by
 refine bx [0] [.tmp 2] Tryz.func184 aj_ λbt ak bs=>aj ?_;refine ax ak λ_ bF bd _=>aj ?_;refine bg bd λeP fj bR _ _=>?_;show bm ah (.seq _ ?c12) _ _;have r4:∀F_,JK a0 F_=some r->bm ah ?c12 eP (ar [(0,.ref (eH a0)),(6,.int .i64 a0.Kind),(7,.bool F_)]):=by
  intro F_ h;refine aD h (λcP h=>?_) λcP h=>?_
  .refine dh (b7 [(2,.bool (((a0.Number==0)&&(a0.Name==([]:azq)))&&((a0.ck.length:Int)==0)))] (λP bc=>?_) ?_)
   ·(rcases Bool.eq_false_or_eq_true (a0.Number==0)with yy|yy)<;>(rcases Bool.eq_false_or_eq_true (a0.Name==([]:azq))with r5|r5)<;>
     (simp only[aE.down,simprocAttr,yy,r5]
      exact bU (U yy r5))
   exact cM bR [.bool (((a0.Number==0)&&(a0.Name==([]:azq)))&&((a0.ck.length:Int)==0))]
  .refine aj ?_;refine aD h (λpK h=>?_) λpK h=>?_
   .exact aN bR [.bool (a0.Number==0)]
   .refine aj ?_;refine aD h (λiM h=>?_) λiM h=>?_
    .refine n5 (a0.Number==0) [(2,.bool ((a0.Number==0)&&(a0.Name==([]:azq))))] ?_;exact cM bR [.bool ((a0.Number==0)&&(a0.Name==([]:azq)))]
    .refine aj ?_;refine aD h (λmQ h=>?_) λmQ h=>?_
     .refine n5 (a0.Name==([]:azq)) [(2,.bool ((a0.Name==([]:azq))&&((a0.ck.length:Int)==0)))] ?_;exact cM bR [.bool ((a0.Name==([]:azq))&&((a0.ck.length:Int)==0))]
     .refine aj ?_;refine aD h (λgw h=>?_) λgw h=>?_
      .exact aN bR [.bool (a0.Name==([]:azq))]
      .exact aK (fj _ (bF _ (inl (aN ak [.bool false]))))
 refine ax bR λ_ dM _ _=>aj ?_;refine aD h (λh7 h=>?_) λh7 h=>?_
 .simp only[h7,Hn.down];exact aK (dM _ (inr ⟨_,bE rfl,r4 true h⟩))
 .refine dr ?_;exact dM _ (inr ⟨_,bE rfl,r4 (a0.Kind==2) h⟩)
theorem ZD (a0 J r) (h:Ga a0 J=some r):aZ ah 150 [.slice (a0.map eH),.int .i64 J] (.int .i64 r) []:=by
 refine bx [0] [.tmp 4] Tryz.func150 aka λbt ak bs=>aj ?_;refine aj ?_;refine ax ak λ_ eZ c_ _=>bg c_ λeP _ bR bw _=>?_;show bm ah (.loop ?eN) _ _;have e4:∀n aT aC,B9 a0 n aT aC=some r->cL ah ?eN eP (ar [(0,.slice (a0.map eH)),(1,.int .i64 aT),(5,.int .i64 aC)]):=by
  refine cZ λ_ eL aT aC h=>cX bR λ_ dM cv aU=>ax cv λ_ cG _ bB=>aj ?_;refine aD h (λb1 h=>?_) λb1 h=>?_
  .refine aK (cG _ (inl (bg cv λ_ cE _ _ _=>?_)));obtain⟨R,lz,h⟩:=an h;obtain⟨ae,dm,h⟩:=an h;refine eU lz (ZC R _ dm) _ ?_;refine dr ?_;exact cE _ (dM _ (inr ⟨_,bE rfl,eL (i64.wrap (aT+1)) (i64.wrap (aC+(i64.wrap (ae-1)))) h⟩))
  .exact cS (bB 0 _ (aU 0 _ (bw _ (eZ _ (inl (aN ak [.int .i64 aT]))))))
 exact dn h λn h=>e4 n J 1 h
theorem anO (a0 J r) (h:zM a0 J=some r):aZ ah 185 [.ref (bk a0),.int .i64 J] (.int .i64 r) []:=by
 refine bx [0,1] [.tmp 4] Tryz.func185 akb λbt ak bs=>aj ?_;refine aj ?_;refine ax ak λ_ eZ c_ _=>aj ?_;refine bg c_ λoL _ cv dR _=>?_;show bm ah (.loop ?hd) _ _;have hL:∀n fK fT,zL a0 J n fK fT=some r->cL ah ?hd oL (ar [(0,.ref (bk a0)),(1,.int .i64 J),(5,.int .i64 fK),(6,.int .i64 fT)]):=by
  refine cZ λm8 hM fK fT h=>cX cv λjh cG cU bB=>ax cU λ_ dw _ bu=>aj ?_;refine aD h (λe8 h=>?_) λe8 h=>?_
  .refine aK (dw _ (inl ?_));show bm ah (.seq _ ?RA) _ _;have wQ:∀B_ Ca,Gb (zL a0 J m8) a0 J B_ Ca=some r->bm ah ?RA jh (ar [(0,.ref (bk a0)),(1,.int .i64 J),(5,.int .i64 B_),(6,.int .i64 Ca)]):=by
    intro B_ Ca h;refine dr ?_;exact cG _ (inr ⟨_,bE rfl,hM B_ (i64.wrap (Ca+1)) h⟩)
   refine ax cU λ_ b2 cN _=>bg cN λ_ gU _ _ _=>?_;obtain⟨R,dU,h⟩:=an h;rcases dO h with⟨ff,h⟩|⟨ff,h⟩
   .obtain⟨ae,cB,h⟩:=an h;refine eU (U dU ff) (ZD a0.Body fT _ cB) _ ?_;refine aD h (λmQ h=>?_) λmQ h=>?_
    .refine dr ?_;exact gU _ (b2 _ (inr ⟨_,bE rfl,wQ (i64.wrap (fK+1)) fT h⟩))
    .exact aK (gU _ (b2 _ (inr ⟨_,bE rfl,wQ fK fT h⟩)))
   .refine c7 (U dU ff) _ ?_;refine ot rfl ?_;exact aK (gU _ (b2 _ (inr ⟨_,bE rfl,wQ fK fT h⟩)))
  .exact cS (bu 0 _ (bB 0 _ (dR _ (eZ _ (inl (aN ak [.int .i64 fK]))))))
 exact dn h λn h=>hL n a0.dV 0 h
theorem anP (a0 J r) (h:JL a0 J=some r):aZ ah 214 [.ref (ea a0),.int .i64 J] (.bool r) []:=by
 refine bx [0,1] [.tmp 4] Tryz.func214 akc λbt ak bs=>aj ?_;refine ax ak λ_ bF bd ae=>aj ?_;refine bg bd λ_ fj bR _ _=>aj ?_;refine aD h (λcP h=>?_) λcP h=>?_
 .obtain⟨R,gk,h⟩:=an h;refine cR (mP a0.Value 0 63 _ gk) _ ?_;exact cM bR [.bool R]
 .refine aj ?_;refine aD h (λe3 h=>?_) λe3 h=>?_
  .obtain⟨ae,dm,h⟩:=an h;refine cR (mP a0.Value 0 (i64.wrap (J-1)) _ dm) _ ?_;exact cM bR [.bool ae]
  .refine aj ?_;refine aD h (λiM h=>?_) λiM h=>?_
   .obtain⟨az,cB,h⟩:=an h;refine cR (mP a0.Value 0 8 _ cB) _ ?_;exact cM bR [.bool az]
   .refine aj ?_;refine aD h (λij h=>?_) λij h=>?_
    .exact aN bR [.bool (a0.Value==0)]
    .exact aK (fj _ (bF _ (inl (aN ak [.bool false]))))
theorem ZE (a0 r) (h:JM a0=some r):aZ ah 215 [.ref (ea a0)] (.int .i64 r) []:=by
 refine bx [0] [.tmp 2] Tryz.func215 akd λbt ak bs=>aj ?_;refine ax ak λ_ bF bd _=>aj ?_;refine bg bd λ_ fj bR _ _=>aj ?_;refine aD h (λcP h=>?_) λcP h=>?_
 .exact aN bR [.int .i64 2]
 .refine aj ?_;refine aD h (λe8 h=>?_) λe8 h=>?_
  .exact aN bR [.int .i64 1]
  .exact aK (fj _ (bF _ (inl (aN ak [.int .i64 0]))))
theorem anQ (a0 J a2 r) (h:JN a0 J a2=some r):aZ ah 186 [.slice (a0.map ea),.int .i64 J,.int .i64 a2] (.bool r) []:=by
 refine bx [0,1,2] [.tmp 6] Tryz.func186 ake λbt ak bs=>aj ?_;refine ax ak λ_ bF bd ae=>aj ?_;refine aD h (λbw h=>?_) λbw h=>?_
 .exact aN bd [.bool false]
 .refine aK (bF _ (inl (aj ?_)));refine ax ak λ_ dw ev _=>aj ?_;refine bg ev λkd _ b9 e8 _=>?_;show bm ah (.loop ?kN) _ _;have ln:∀n j9 uF,Cb a0 J n j9 uF=some r->cL ah ?kN kd (ar [(0,.slice (a0.map ea)),(1,.int .i64 J),(7,.int .i64 j9),(8,.int .i64 uF)]):=by
   refine cZ λ_ lo j9 uF h=>cX b9 λ_ b2 cN dN=>ax cN λ_ ez _ fa=>aj ?_;refine aD h (λfi h=>?_) λfi h=>?_
   .refine aK (ez _ (inl (ax cN λ_ eO et _=>bg et λ_ gb gJ _ _=>ax gJ λ_ lO n6 _=>?_)));rcases dO h with⟨ij,h⟩|⟨ij,h⟩
    .refine c7 ij _ ?_;refine jS rfl ?_;exact aN n6 [.bool false]
    .obtain⟨R,gp,h⟩:=an h;obtain⟨ae,gT,h⟩:=an h;refine eU (U ij gp) (anP R J _ gT) _ ?_;refine aD h (λAw h=>?_) λAw h=>?_
     .exact aN n6 [.bool false]
     .refine aK (lO _ (inl ?_));obtain⟨az,iX,h⟩:=an h;refine As gp (ZE R _ iX) _ ?_;refine gb _ (eO _ (inl (dr ?_)));exact b2 _ (inr ⟨_,bE rfl,lo (i64.wrap (j9+(i64.wrap (az-1)))) (i64.wrap (uF+1)) h⟩)
   .exact cS (fa 0 _ (dN 0 _ (e8 _ (dw _ (inl (aN ak [.bool (j9==0)]))))))
  exact dn h λn h=>ln n 1 0 h
theorem anR (a0 J a2 r) (h:s7 a0 J a2=some r):aZ ah 145 [.slice (a0.map bk),.ref (bk J),.int .i64 a2] (.int .i64 r) []:=by
 refine bx [0,1,2] [.tmp 6] Tryz.func145 c145 λbt ak bs=>aj ?_;obtain⟨R,aS,h⟩:=an h;refine c7 aS _ ?_;refine ax ak λ_ fj bR aY=>?_;obtain⟨ae,cw,h⟩:=an h;refine dh (b7 [(0,.slice (a0.map bk)),(1,.ref (bk J)),(2,.int .i64 a2),(7,.aM (eH R)),(19,.bool (!ae))] (λP bc=>?_) ?_)
 .refine dq (anN R _ cw) rfl rfl (by simp only[aE.down,simprocAttr,ht,hv,hx,cV, @b4 _ jf jf (λ_=>Ru _)]<;>rfl) rfl (inr (by rfl)) ?_;simp only[aE.down,simprocAttr];exact bU trivial
 refine aD h (λqC h=>?_) λqC h=>?_
 .exact aN bR [.int .i64 2]
 .refine aK (fj _ (inl (ax ak λkd cE b9 dE=>?_)));have ZF:∀Ge,Cc a0 J a2 R Ge=some r->bm ah YB kd (ar [(0,.slice (a0.map bk)),(1,.ref (bk J)),(2,.int .i64 a2),(7,.aM (eH R)),(28,.bool Ge)]):=by
   intro Ge h;refine aD h (λe3 h=>?_) λe3 h=>?_
   .exact aN b9 [.int .i64 3]
   .refine aK (cE _ (inl (ax ak λHq gU ke _=>?_)));have Hr:∀Gd,uI a0 J a2 R Gd=some r->bm ah YC Hq (ar [(0,.slice (a0.map bk)),(1,.ref (bk J)),(2,.int .i64 a2),(7,.aM (eH R)),(51,.bool Gd)]):=by
     intro Gd h;refine aD h (λfi h=>?_) λfi h=>?_
     .exact aN ke [.int .i64 4]
     .refine aK (gU _ (inl (aj ?_)));have LG:wa J a2 R=some r->bm ah YF bt (ar [(1,.ref (bk J)),(2,.int .i64 a2),(7,.aM (eH R)),(8,.int .i64 (R.ck.length:Int))]):=by
       intro h;refine ax ak λRV jU kq _=>?_;have Ax:∀Gc,s6 J a2 R Gc=some r->bm ah YD RV (ar [(1,.ref (bk J)),(2,.int .i64 a2),(7,.aM (eH R)),(8,.int .i64 (R.ck.length:Int)),(102,.bool Gc)]):=by
        intro Gc h;refine aD h (λij h=>?_) λij h=>?_
        .exact aN kq [.int .i64 6]
        .refine aK (jU _ (inl ?_));obtain⟨az,gT,h⟩:=an h;refine cR (anO J a2 _ gT) _ ?_;refine ax ak λ_ oK n7 _=>n5 (R.Kind==4) [(7,.aM (eH R)),(8,.int .i64 (R.ck.length:Int)),(9,.int .i64 az),(112,.bool ((R.Kind==4)&&(decide (6<=az))))] ?_;refine aD h (λh7 h=>?_) λh7 h=>?_
         .exact aN n7 [.int .i64 7]
         .refine aK (oK _ (inl (ax ak λ_ tt tu _=>aj ?_)));refine bg tu λRW _ At kr _=>?_;have RX:∀n uG uH,yg R n uG uH=some r->cL ah YE RW (ar [(7,.aM (eH R)),(8,.int .i64 (R.ck.length:Int)),(9,.int .i64 uG),(10,.int .i64 uH)]):=by
           refine cZ λ_ RY uG uH h=>cX At λ_ r6 tv Hs=>ax tv λ_ tw _ RZ=>aj ?_;refine aD h (λAy h=>?_) λAy h=>?_
           .refine aK (tw _ (inl (ax tv λ_ R0 Ht _=>bg Ht λ_ Az AA _ _=>?_)));obtain⟨aY,pN,h⟩:=an h;obtain⟨aU,tx,h⟩:=an h;refine eU pN (anQ aY uG 15 _ tx) _ ?_;refine aD h (λHu h=>?_) λHu h=>?_
            .exact aN AA [.int .i64 8]
            .refine aK (Az _ (R0 _ (inl (dr ?_))));exact r6 _ (inr ⟨_,bE rfl,RY uG (i64.wrap (uH+1)) h⟩)
           .exact cS (RZ 1 _ (Hs 1 _ (kr _ (tt _ (inl (aN ak [.int .i64 0]))))))
          exact dn h λn h=>RX n az 0 h
       rcases dO h with⟨AB,h⟩|⟨AB,h⟩
       .rcases dO h with⟨wR,h⟩|⟨wR,h⟩
        .refine mq (b7 (K:=eV _) [(1,.ref (bk J)),(2,.int .i64 a2),(7,.aM (eH R)),(8,.int .i64 (R.ck.length:Int)),(102,.bool true)] (λP bc=>?_) ?_)
         .simp only[aE.down,simprocAttr,AB,wR];exact bU (U AB wR)
         exact inr ⟨_,bE rfl,Ax true h⟩
        .obtain⟨bB,yz,h⟩:=an h;refine mq (b7 (K:=eV _) [(1,.ref (bk J)),(2,.int .i64 a2),(7,.aM (eH R)),(8,.int .i64 (R.ck.length:Int)),(102,.bool (bB.Kind !=1))] (λP bc=>?_) ?_)
         .simp only[aE.down,simprocAttr,AB,wR,yz];exact bU (U AB (U wR yz))
         exact inr ⟨_,bE rfl,Ax (bB.Kind !=1) h⟩
       .refine mq (b7 (K:=eV _) [(1,.ref (bk J)),(2,.int .i64 a2),(7,.aM (eH R)),(8,.int .i64 (R.ck.length:Int)),(102,.bool false)] (λP bc=>?_) ?_)
        .simp only[aE.down,simprocAttr,AB];exact bU AB
        exact inr ⟨_,bE rfl,Ax false h⟩
      refine ax ak λ_ lO n6 _=>aj ?_;refine bg n6 λ_ qk r7 _ _=>aj ?_;refine aD h (λR1 h=>?_) λR1 h=>?_
      .refine dh (b7 [(1,.ref (bk J)),(2,.int .i64 a2),(7,.aM (eH R)),(8,.int .i64 (R.ck.length:Int)),(69,.bool ((decide (2<(R.ck.length:Int)))||((decide (0<(R.ck.length:Int)))&&(R.Name==([116,97,117]:azq)))))] (λP bc=>?_) ?_)
       ·(rcases Bool.eq_false_or_eq_true (decide (2<(R.ck.length:Int)))with R2|R2)<;>(rcases Bool.eq_false_or_eq_true (decide (0<(R.ck.length:Int)))with R3|R3)<;>
         (simp only[aE.down,simprocAttr,R2,R3]
          exact bU (U R2 R3))
       refine aD h (λanS h=>?_) λanS h=>?_
       .exact aN r7 [.int .i64 5]
       .exact aK (qk _ (lO _ (inr ⟨_,bE rfl,LG h⟩)))
      .refine aj ?_;refine aD h (λR4 h=>?_) λR4 h=>?_
       .refine aj ?_;refine aD h (λR5 h=>?_) λR5 h=>?_
        .exact aN r7 [.int .i64 5]
        .exact aK (qk _ (lO _ (inr ⟨_,bE rfl,LG h⟩)))
       .refine aj ?_;refine aD h (λAD h=>?_) λAD h=>?_
        .obtain⟨bu,R6,h⟩:=an h;refine c7 R6 _ ?_;refine aD h (λR7 h=>?_) λR7 h=>?_
         .exact aN r7 [.int .i64 5]
         .exact aK (qk _ (lO _ (inr ⟨_,bE rfl,LG h⟩)))
        .exact aK (qk _ (lO _ (inr ⟨_,bE rfl,LG h⟩)))
    rcases dO h with⟨n8,h⟩|⟨n8,h⟩
    .obtain⟨cy,R8,h⟩:=an h;rcases dO h with⟨q0,h⟩|⟨q0,h⟩
     .refine mq (b7 (K:=eV _) [(0,.slice (a0.map bk)),(1,.ref (bk J)),(2,.int .i64 a2),(7,.aM (eH R)),(51,.bool true)] (λP bc=>?_) ?_)
      ·(try simp only[aE.down,simprocAttr,n8,(hY q0)]);refine g_ (mP R.Number 1 7 _ R8) (hK:= ?_);simp only[aE.down,simprocAttr,n8,(hY q0)];exact bU (U n8 (hY q0))
      exact inr ⟨_,bE rfl,Hr true h⟩
     .rcases dO h with⟨yA,h⟩|⟨yA,h⟩
      .obtain⟨dE,vl,h⟩:=an h;refine mq (b7 (K:=eV _) [(0,.slice (a0.map bk)),(1,.ref (bk J)),(2,.int .i64 a2),(7,.aM (eH R)),(51,.bool (!dE))] (λP bc=>?_) ?_)
       ·(try simp only[aE.down,simprocAttr,n8,(cm q0),yA]);refine g_ (mP R.Number 1 7 _ R8) (hK:= ?_);simp only[aE.down,simprocAttr,n8,(cm q0),yA];refine g_ (mP R.Number 0 (i64.wrap ((a0.length:Int)-1)) _ vl) (hK:= ?_);simp only[aE.down,simprocAttr,n8,(cm q0),yA];exact bU (U n8 (U (cm q0) yA))
       exact inr ⟨_,bE rfl,Hr (!dE) h⟩
      .refine mq (b7 (K:=eV _) [(0,.slice (a0.map bk)),(1,.ref (bk J)),(2,.int .i64 a2),(7,.aM (eH R)),(51,.bool false)] (λP bc=>?_) ?_)
       ·(try simp only[aE.down,simprocAttr,n8,(cm q0),yA]);refine g_ (mP R.Number 1 7 _ R8) (hK:= ?_);simp only[aE.down,simprocAttr,n8,(cm q0),yA];exact bU (U n8 (U (cm q0) yA))
       exact inr ⟨_,bE rfl,Hr false h⟩
    .rcases dO h with⟨DJ,h⟩|⟨DJ,h⟩
     .obtain⟨dN,Hv,h⟩:=an h;refine mq (b7 (K:=eV _) [(0,.slice (a0.map bk)),(1,.ref (bk J)),(2,.int .i64 a2),(7,.aM (eH R)),(51,.bool (!dN))] (λP bc=>?_) ?_)
      ·(try simp only[aE.down,simprocAttr,n8,DJ]);refine g_ (mP R.Number 0 (i64.wrap ((a0.length:Int)-1)) _ Hv) (hK:= ?_);simp only[aE.down,simprocAttr,n8,DJ];exact bU (U n8 DJ)
      exact inr ⟨_,bE rfl,Hr (!dN) h⟩
     .refine mq (b7 (K:=eV _) [(0,.slice (a0.map bk)),(1,.ref (bk J)),(2,.int .i64 a2),(7,.aM (eH R)),(51,.bool false)] (λP bc=>?_) ?_)
      .simp only[aE.down,simprocAttr,n8,DJ];exact bU (U n8 DJ)
      exact inr ⟨_,bE rfl,Hr false h⟩
  rcases dO h with⟨DK,h⟩|⟨DK,h⟩
  .obtain⟨fa,LH,h⟩:=an h;refine mq (b7 (K:=eV _) [(0,.slice (a0.map bk)),(1,.ref (bk J)),(2,.int .i64 a2),(7,.aM (eH R)),(28,.bool (!fa))] (λP bc=>?_) ?_)
   ·(try simp only[aE.down,simprocAttr,DK]);refine g_ (DI R.Name _ LH) (hK:= ?_);simp only[aE.down,simprocAttr,DK];exact bU DK
   exact inr ⟨_,bE rfl,ZF (!fa) h⟩
  .refine mq (b7 (K:=eV _) [(0,.slice (a0.map bk)),(1,.ref (bk J)),(2,.int .i64 a2),(7,.aM (eH R)),(28,.bool false)] (λP bc=>?_) ?_)
   .simp only[aE.down,simprocAttr,DK];exact bU DK
   exact inr ⟨_,bE rfl,ZF false h⟩
theorem anT (a0 J r) (h:wc a0 J=some r):aZ ah 104 [.slice (a0.map bk),.ref (bk J)] (.tuple [.int .i64 r.1,.int .i64 r.2]) []:=by
 refine bx [0,1] [.tmp 4,.tmp 5] Tryz.func104 aki λbt ak bs=>aj ?_;refine ax ak λ_ bF bd ae=>?_;obtain⟨R,cf,h⟩:=an h;refine cR (anM J.Body _ cf) _ ?_;refine aD h (λdR h=>?_) λdR h=>?_
 .exact aN bd [.int .i64 0,.int .i64 1]
 .refine aK (bF _ (inl (ax ak λ_ dw ev _=>aj ?_)));refine bg ev λkd _ b9 e8 _=>?_;show bm ah (.loop ?gS) _ _;have gV:∀n qL,wb a0 J n qL=some r->cL ah ?gS kd (ar [(0,.slice (a0.map bk)),(1,.ref (bk J)),(6,.int .i64 qL)]):=by
   refine cZ λ_ gE qL h=>cX b9 λ_ b2 cN dN=>ax cN λ_ ez _ fa=>aj ?_;refine aD h (λfi h=>?_) λfi h=>?_
   .refine aK (ez _ (inl (ax cN λ_ eO et _=>bg et λ_ gb gJ _ _=>?_)));obtain⟨ae,dP,h⟩:=an h;refine cR (anR a0 J qL _ dP) _ ?_;refine aj ?_;refine aD h (λhb h=>?_) λhb h=>?_
    .exact aN gJ [.int .i64 qL,.int .i64 ae]
    .refine aK (gb _ (eO _ (inl (dr ?_))));exact b2 _ (inr ⟨_,bE rfl,gE (i64.wrap (qL+1)) h⟩)
   .exact cS (fa 0 _ (dN 0 _ (e8 _ (dw _ (inl (aN ak [.int .i64 0,.int .i64 0]))))))
  exact dn h λn h=>gV n 0 h
theorem anU (a0 r) (h:JO a0=some r):aZ ah 70 [.slice (a0.map bk)] (.bool r) []:=by
 refine bx [0] [.tmp 2] Tryz.func70 c70 λbt ak bs=>aj ?_;refine ax ak λ_ bF bd ae=>n5 ((a0.length:Int)==0) [(0,.slice (a0.map bk)),(15,.bool (((a0.length:Int)==0)||(decide (4<(a0.length:Int)))))] ?_;refine aD h (λbw h=>?_) λbw h=>?_
 .exact aN bd [.bool false]
 .refine aK (bF _ (inl (ax ak λ_ cG cU bB=>aj ?_)));refine bg cU λiN _ h0 b1 _=>?_;show bm ah (.loop ?gS) _ _;have gV:∀n dW,we a0 n dW=some r->cL ah ?gS iN (ar [(0,.slice (a0.map bk)),(3,.int .i64 dW)]):=by
   refine cZ λm14 gE dW h=>cX h0 λ_ cE b9 dE=>ax b9 λ_ b2 _ dN=>aj ?_;refine aD h (λfk h=>?_) λfk h=>?_
   .refine aK (b2 _ (inl (ax b9 λ_ fL fJ _=>bg fJ λ_ eO et _ _=>ax et λ_ gb gJ _=>?_)));obtain⟨R,dP,h⟩:=an h;obtain⟨ae,eG,h⟩:=an h;rcases dO h with⟨hb,h⟩|⟨hb,h⟩
    .refine eU (U dP (hY hb)) (DI R.Name _ eG) _ ?_;refine jS rfl ?_;exact aN gJ [.bool false]
    .obtain⟨az,gT,h⟩:=an h;refine dh (b7 [(0,.slice (a0.map bk)),(3,.int .i64 dW),(37,.bool (!az))] (λP bc=>?_) ?_)
     ·(try simp only[aE.down,simprocAttr,dP,(cm hb)]);refine dq (DI R.Name _ eG) (hK:= ?_);simp only[aE.down,simprocAttr,dP,(cm hb)];refine g_ (mP R.dV 0 3 _ gT) (hK:= ?_);simp only[aE.down,simprocAttr,dP,(cm hb)];exact bU (U dP (cm hb))
     refine aD h (λAw h=>?_) λAw h=>?_
     .exact aN gJ [.bool false]
     .refine aK (gb _ (inl (aj ?_)));refine bg et λR9 _ o6 pO _=>?_;show bm ah (.loop ?Hl) _ _;have R_:∀n rz uJ,Cd (we a0 m14) a0 n rz uJ=some r->cL ah ?Hl R9 (ar [(0,.slice (a0.map bk)),(3,.int .i64 rz),(4,.int .i64 uJ)]):=by
       refine cZ λ_ Sa rz uJ h=>cX o6 λ_ tt tu rF=>ax tu λ_ AE _ uQ=>aj ?_;refine aD h (λik h=>?_) λik h=>?_
       .refine aK (AE _ (inl (ax tu λ_ tw Hw _=>bg Hw λ_ Hx Hy _ _=>?_)));obtain⟨aY,o7,h⟩:=an h;obtain⟨aU,jI,h⟩:=an h;refine pJ (U o7 jI) _ ?_;refine aD h (λwS h=>?_) λwS h=>?_
        .exact aN Hy [.bool false]
        .refine aK (Hx _ (tw _ (inl (dr ?_))));exact tt _ (inr ⟨_,bE rfl,Sa rz (i64.wrap (uJ+1)) h⟩)
       .refine cS (uQ 2 _ (rF 2 _ (pO _ (eO _ (fL _ (inl (dr ?_)))))));exact cE _ (inr ⟨_,bE rfl,gE (i64.wrap (rz+1)) h⟩)
      exact dn h λn h=>R_ n dW 0 h
   .refine cS (dN 0 _ (dE 0 _ (b1 _ (cG _ (inl (ax ak λ_ wT yB _=>aj ?_))))));refine bg yB λHz _ vm tz _=>?_;show bm ah (.loop ?RC) _ _;have HA:∀n uK,zN a0 n uK=some r->cL ah ?RC Hz (ar [(0,.slice (a0.map bk)),(5,.int .i64 uK)]):=by
     refine cZ λ_ HB uK h=>cX vm λ_ AF yC AG=>ax yC λ_ Sb _ anV=>aj ?_;refine aD h (λAH h=>?_) λAH h=>?_
     .refine aK (Sb _ (inl (ax yC λ_ AJ wU _=>bg wU λ_ qk r7 _ _=>?_)));obtain⟨bB,tA,h⟩:=an h;obtain⟨bu,HC,h⟩:=an h;refine eU tA (anT a0 bB _ HC) _ ?_;refine aj ?_;refine aD h (λSc h=>?_) λSc h=>?_
      .exact aN r7 [.bool false]
      .refine aK (qk _ (AJ _ (inl (dr ?_))));exact AF _ (inr ⟨_,bE rfl,HB (i64.wrap (uK+1)) h⟩)
     .exact cS (anV 4 _ (AG 4 _ (tz _ (wT _ (inl (aN ak [.bool true]))))))
    exact dn h λn h=>HA n 0 h
  exact dn h λn h=>gV n 0 h
theorem anW (a0 r) (h:JP a0=some r):aZ ah 105 [.slice (a0.map bb)] (.bool r) []:=by
 refine bx [0] [.tmp 2] Tryz.func105 c105 λbt ak bs=>aj ?_;refine ax ak λ_ bF bd ae=>aj ?_;refine bg bd λeP _ bR bw _=>?_;show bm ah (.loop ?eN) _ _;have e4:∀n iV,Ce a0 n iV=some r->cL ah ?eN eP (ar [(0,.slice (a0.map bb)),(3,.int .i64 iV)]):=by
  refine cZ λ_ eL iV h=>cX bR λ_ dM cv aU=>ax cv λ_ cG _ bB=>aj ?_;refine aD h (λb1 h=>?_) λb1 h=>?_
  .refine aK (cG _ (inl (ax cv λ_ cE b9 _=>bg b9 λ_ b2 cN _ _=>?_)));obtain⟨R,dm,h⟩:=an h;obtain⟨ae,ed,h⟩:=an h;refine eU dm (mP R 0 63 _ ed) _ ?_;refine aD h (λiM h=>?_) λiM h=>?_
   .exact aN cN [.bool false]
   .refine aK (b2 _ (cE _ (inl (dr ?_))));exact dM _ (inr ⟨_,bE rfl,eL (i64.wrap (iV+1)) h⟩)
  .exact cS (bB 0 _ (aU 0 _ (bw _ (bF _ (inl (aN ak [.bool true]))))))
 exact dn h λn h=>e4 n 0 h
theorem anX (a0 r) (h:JQ a0=some r):aZ ah 71 [.ref (fD a0)] (.bool r) []:=by
 refine bx [0] [.tmp 2] Tryz.func71 akj λbt ak bs=>aj ?_;refine ax ak λ_ bF bd ae=>n5 ((a0.b0.length:Int)==0) [(0,.ref (fD a0)),(18,.bool (((a0.b0.length:Int)==0)||(decide (3<(a0.b0.length:Int)))))] ?_;refine aD h (λbw h=>?_) λbw h=>?_
 .exact aN bd [.bool false]
 .refine aK (bF _ (inl (ax ak λ_ cG cU _=>aj ?_)));refine bg cU λiN _ h0 b1 _=>?_;show bm ah (.loop ?gS) _ _;have gV:∀n dW,Cf a0 n dW=some r->cL ah ?gS iN (ar [(0,.ref (fD a0)),(3,.int .i64 dW)]):=by
   refine cZ λ_ gE dW h=>cX h0 λ_ cE b9 dE=>ax b9 λ_ b2 _ dN=>aj ?_;refine aD h (λfk h=>?_) λfk h=>?_
   .refine aK (b2 _ (inl (ax b9 λ_ fL fJ _=>bg fJ λ_ eO et _ _=>?_)));obtain⟨R,cB,h⟩:=an h;refine c7 cB _ ?_;refine ax et λ_ jU kq _=>?_;obtain⟨ae,fb,h⟩:=an h;refine anj (mP R.cJ 0 (i64.wrap ((a0.cI.length:Int)-1)) _ fb) _ ?_;refine aD h (λgw h=>?_) λgw h=>?_
    .exact aN kq [.bool false]
    .refine aK (jU _ (inl ?_));obtain⟨az,iD,h⟩:=an h;rcases dO h with⟨h7,h⟩|⟨h7,h⟩
     .refine pJ (U iD h7) _ ?_;refine jS rfl ?_;exact aN et [.bool false]
     .obtain⟨aY,ql,h⟩:=an h;refine oJ (U iD h7) (anW R.b5 _ ql) _ ?_;refine aD h (λoM h=>?_) λoM h=>?_
      .exact aN et [.bool false]
      .refine aK (eO _ (fL _ (inl (dr ?_))));exact cE _ (inr ⟨_,bE rfl,gE (i64.wrap (dW+1)) h⟩)
   .exact cS (dN 0 _ (dE 0 _ (b1 _ (cG _ (inl (aN ak [.bool true]))))))
  exact dn h λn h=>gV n 0 h
theorem r8 (a0 r) (h:rA a0=some r):aZ ah 106 [.str a0] (.bool r) []:=by
 refine bx [0] [.tmp 2] Tryz.func106 akk λbt ak bs=>aj ?_;obtain⟨R,aS,h⟩:=an h;refine dh (b7 [(2,.bool (R&&(!(a0==([116,97,117]:azq)))))] (λP bc=>?_) ?_)
 .rcases Bool.eq_false_or_eq_true (R)with mj|mj
  ·(try simp only[aE.down,simprocAttr,mj]);refine dq (DI a0 _ aS) (hK:= ?_);simp only[aE.down,simprocAttr,mj];exact bU mj
  ·(try simp only[aE.down,simprocAttr,mj]);refine dq (DI a0 _ aS) (hK:= ?_);simp only[aE.down,simprocAttr,mj];exact bU mj
 exact cM ak [.bool (R&&(!(a0==([116,97,117]:azq))))]
theorem anY (a0 r) (h:JR a0=some r):aZ ah 72 [.slice (a0.map bJ)] (.bool r) []:=by
 refine bx [0] [.tmp 2] Tryz.func72 c72 λbt ak bs=>aj ?_;refine ax ak λ_ bF bd ae=>aj ?_;refine aD h (λbw h=>?_) λbw h=>?_
 .exact aN bd [.bool false]
 .refine aK (bF _ (inl (ax ak λ_ cG cU bB=>aj ?_)));refine bg cU λiN _ h0 b1 _=>?_;show bm ah (.loop ?gS) _ _;have gV:∀n dW,s8 a0 n dW=some r->cL ah ?gS iN (ar [(0,.slice (a0.map bJ)),(3,.int .i64 dW)]):=by
   refine cZ λm14 gE dW h=>cX h0 λ_ cE b9 dE=>ax b9 λ_ b2 _ dN=>aj ?_;refine aD h (λfk h=>?_) λfk h=>?_
   .refine aK (b2 _ (inl (ax b9 λ_ fL fJ _=>bg fJ λ_ eO et _ _=>?_)));obtain⟨R,cB,h⟩:=an h;refine c7 cB _ ?_;refine ax et λ_ jU kq _=>?_;obtain⟨ae,fb,h⟩:=an h;rcases dO h with⟨gw,h⟩|⟨gw,h⟩
    .refine eU (hY gw) (r8 R.Left _ fb) _ ?_;refine jS rfl ?_;exact aN kq [.bool false]
    .obtain⟨az,fl,h⟩:=an h;rcases dO h with⟨gd,h⟩|⟨gd,h⟩
     .refine dh (b7 [(0,.slice (a0.map bJ)),(3,.int .i64 dW),(4,.aM (bJ R)),(41,.bool true)] (λP bc=>?_) ?_)
      ·(try simp only[aE.down,simprocAttr,(cm gw),(hY gd)]);refine dq (r8 R.Left _ fb) (hK:= ?_);simp only[aE.down,simprocAttr,(cm gw),(hY gd)];refine g_ (r8 R.cH _ fl) (hK:= ?_);simp only[aE.down,simprocAttr,(cm gw),(hY gd)];exact bU (U (cm gw) (hY gd))
      refine jS rfl ?_;exact aN kq [.bool false]
     .obtain⟨aY,iX,h⟩:=an h;refine dh (b7 [(0,.slice (a0.map bJ)),(3,.int .i64 dW),(4,.aM (bJ R)),(41,.bool ((!aY)||(!(Op.bytesLess R.Left R.cH||R.Left==R.cH))))] (λP bc=>?_) ?_)
      .rcases Bool.eq_false_or_eq_true (aY)with tB|tB
       ·(try simp only[aE.down,simprocAttr,(cm gw),(cm gd),tB]);refine dq (r8 R.Left _ fb) (hK:= ?_);simp only[aE.down,simprocAttr,(cm gw),(cm gd),tB];refine g_ (r8 R.cH _ fl) (hK:= ?_);simp only[aE.down,simprocAttr,(cm gw),(cm gd),tB];refine g_ (r8 R.Result _ iX) (hK:= ?_);simp only[aE.down,simprocAttr,(cm gw),(cm gd),tB];exact bU (U (cm gw) (U (cm gd) tB))
       ·(try simp only[aE.down,simprocAttr,(cm gw),(cm gd),tB]);refine dq (r8 R.Left _ fb) (hK:= ?_);simp only[aE.down,simprocAttr,(cm gw),(cm gd),tB];refine g_ (r8 R.cH _ fl) (hK:= ?_);simp only[aE.down,simprocAttr,(cm gw),(cm gd),tB];refine g_ (r8 R.Result _ iX) (hK:= ?_);simp only[aE.down,simprocAttr,(cm gw),(cm gd),tB];exact bU (U (cm gw) (U (cm gd) tB))
      refine aD h (λoM h=>?_) λoM h=>?_
      .exact aN kq [.bool false]
      .refine aK (jU _ (inl (ax et λ_ r6 tv _=>?_)));rcases dO h with⟨hj,h⟩|⟨hj,h⟩
       .obtain⟨aU,wV,h⟩:=an h;refine kC rfl (jr [(0,.slice (a0.map bJ)),(3,.int .i64 dW),(4,.aM (bJ R)),(76,.bool ((!(Op.bytesLess aU.Left R.Left||aU.Left==R.Left))||((aU.Left==R.Left)&&(!(Op.bytesLess aU.cH R.cH)))))] (λP bc=>?_) ?_)
        ·(rcases Bool.eq_false_or_eq_true (Op.bytesLess aU.Left R.Left)with Sd|Sd)<;>(rcases Bool.eq_false_or_eq_true (aU.Left==R.Left)with Se|Se)<;>
          (simp only[dA.down,simprocAttr,hj,wV,Sd,Se]
           refine⟨iA (by kernel_rfl),?_⟩;exact bU (U hj (U wV (U Sd Se))))
        refine aD h (λwS h=>?_) λwS h=>?_
        .exact aN tv [.bool false]
        .refine aK (r6 _ (inl (aj ?_)));refine bg et λanZ _ Sf Hu _=>?_;show bm ah (.loop ?Hm) _ _;have Sg:∀n n0 oz,wg (s8 a0 m14) a0 R n n0 oz=some r->cL ah ?Hm anZ (ar [(0,.slice (a0.map bJ)),(3,.int .i64 n0),(4,.aM (bJ R)),(5,.int .i64 oz)]):=by
          refine cZ λan0 Sh n0 oz h=>cX Sf λ_ wT yB an1=>ax yB λ_ an2 _ an3=>aj ?_;refine aD h (λan4 h=>?_) λan4 h=>?_
          .refine aK (an2 _ (inl (ax yB λ_ Sb an5 _=>bg an5 λ_ yD an6 _ _=>?_)));obtain⟨bB,an7,h⟩:=an h;refine Zm (bB.Left==R.Result) an7 [(0,.slice (a0.map bJ)),(3,.int .i64 n0),(4,.aM (bJ R)),(5,.int .i64 oz),(100,.bool ((bB.Left==R.Result)||(bB.cH==R.Result)))] ?_;refine aD h (λan8 h=>?_) λan8 h=>?_
           .exact aN an6 [.bool false]
           .refine aK (yD _ (Sb _ (inl (dr ?_))));exact wT _ (inr ⟨_,bE rfl,Sh n0 (i64.wrap (oz+1)) h⟩)
          .refine cS (an3 2 _ (an1 2 _ (Hu _ (eO _ (fL _ (inl (dr ?_)))))));exact cE _ (inr ⟨_,bE rfl,gE (i64.wrap (n0+1)) h⟩)
         exact dn h λn h=>Sg n dW 0 h
       .refine pJ hj _ ?_;refine ot rfl ?_;refine aK (r6 _ (inl (aj ?_)));refine bg et λan9 _ an_ Sc _=>?_;show bm ah (.loop ?Hm) _ _;have Sg:∀n n0 oz,wg (s8 a0 m14) a0 R n n0 oz=some r->cL ah ?Hm an9 (ar [(0,.slice (a0.map bJ)),(3,.int .i64 n0),(4,.aM (bJ R)),(5,.int .i64 oz)]):=by
         refine cZ λan0 Sh n0 oz h=>cX an_ λ_ aoa ZG aob=>ax ZG λ_ aoc _ aod=>aj ?_;refine aD h (λR4 h=>?_) λR4 h=>?_
         .refine aK (aoc _ (inl (ax ZG λ_ aoe aof _=>bg aof λ_ aog aoh _ _=>?_)));obtain⟨bu,tC,h⟩:=an h;refine Zm (bu.Left==R.Result) tC [(0,.slice (a0.map bJ)),(3,.int .i64 n0),(4,.aM (bJ R)),(5,.int .i64 oz),(100,.bool ((bu.Left==R.Result)||(bu.cH==R.Result)))] ?_;refine aD h (λAD h=>?_) λAD h=>?_
          .exact aN aoh [.bool false]
          .refine aK (aog _ (aoe _ (inl (dr ?_))));exact aoa _ (inr ⟨_,bE rfl,Sh n0 (i64.wrap (oz+1)) h⟩)
         .refine cS (aod 2 _ (aob 2 _ (Sc _ (eO _ (fL _ (inl (dr ?_)))))));exact cE _ (inr ⟨_,bE rfl,gE (i64.wrap (n0+1)) h⟩)
        exact dn h λn h=>Sg n dW 0 h
   .exact cS (dN 0 _ (dE 0 _ (b1 _ (cG _ (inl (aN ak [.bool true]))))))
  exact dn h λn h=>gV n 0 h
theorem aoi (a0 r) (h:JS a0=some r):aZ ah 107 [.slice (a0.map aV)] (.bool r) []:=by
 refine bx [0] [.tmp 2] Tryz.func107 c107 λbt ak bs=>aj ?_;refine ax ak λ_ bF bd ae=>aj ?_;refine bg bd λeP _ bR bw _=>?_;show bm ah (.loop ?eN) _ _;have e4:∀n iV,Cg a0 n iV=some r->cL ah ?eN eP (ar [(0,.slice (a0.map aV)),(3,.int .i64 iV)]):=by
  refine cZ λ_ eL iV h=>cX bR λ_ dM cv aU=>ax cv λ_ cG _ bB=>aj ?_;refine aD h (λb1 h=>?_) λb1 h=>?_
  .refine aK (cG _ (inl (ax cv λ_ cE b9 _=>bg b9 λ_ b2 cN _ _=>?_)));obtain⟨R,dm,h⟩:=an h;obtain⟨ae,ed,h⟩:=an h;refine eU dm (r8 R _ ed) _ ?_;refine aD h (λiM h=>?_) λiM h=>?_
   .exact aN cN [.bool false]
   .refine aK (b2 _ (cE _ (inl (dr ?_))));exact dM _ (inr ⟨_,bE rfl,eL (i64.wrap (iV+1)) h⟩)
  .exact cS (bB 0 _ (aU 0 _ (bw _ (bF _ (inl (aN ak [.bool true]))))))
 exact dn h λn h=>e4 n 0 h
theorem ZH (a0 r) (h:Gg a0=some r):aZ ah 73 [.slice (a0.map aV)] (.bool r) []:=by
 refine bx [0] [.tmp 2] Tryz.func73 akl λbt ak bs=>aj ?_;refine ax ak λ_ bF bd ae=>?_;rcases dO h with⟨bw,h⟩|⟨bw,h⟩
 .refine c7 bw _ ?_;refine jS rfl ?_;exact aN bd [.bool false]
 .obtain⟨R,cw,h⟩:=an h;refine eU bw (aoi a0 _ cw) _ ?_;refine aD h (λqC h=>?_) λqC h=>?_
  .exact aN bd [.bool false]
  .refine aK (bF _ (inl (ax ak λ_ cE b9 _=>aj ?_)));refine bg b9 λaoj _ hN pK _=>?_;show bm ah (.loop ?gS) _ _;have gV:∀n dW,rB a0 n dW=some r->cL ah ?gS aoj (ar [(0,.slice (a0.map aV)),(3,.int .i64 dW)]):=by
    refine cZ λ_ gE dW h=>cX hN λ_ gU ke kH=>ax ke λ_ fL _ mK=>aj ?_;refine aD h (λff h=>?_) λff h=>?_
    .refine aK (fL _ (inl (ax ke λ_ lO n6 _=>bg n6 λ_ jU kq _ _=>?_)));obtain⟨ae,fb,h⟩:=an h;obtain⟨az,gp,h⟩:=an h;refine pJ (U fb gp) _ ?_;refine aD h (λvn h=>?_) λvn h=>?_
     .exact aN kq [.bool false]
     .refine aK (jU _ (lO _ (inl (dr ?_))));exact gU _ (inr ⟨_,bE rfl,gE (i64.wrap (dW+1)) h⟩)
    .exact cS (mK 0 _ (kH 0 _ (pK _ (cE _ (inl (aN ak [.bool true]))))))
   exact dn h λn h=>gV n 1 h
theorem aok (a0 r) (h:JU a0=some r):aZ ah 49 [.ref (fD a0)] (.int .i64 r) []:=by
 refine bx [0] [.tmp 2] Tryz.func49 c49 λbt ak bs=>aj ?_;refine ax ak λ_ bF bd ae=>?_;obtain⟨R,cf,h⟩:=an h;refine cR (anU a0.cI _ cf) _ ?_;refine aD h (λdR h=>?_) λdR h=>?_
 .exact aN bd [.int .i64 1]
 .refine aK (bF _ (inl (ax ak λ_ dw ev _=>?_)));obtain⟨ae,h_,h⟩:=an h;refine cR (anX a0 _ h_) _ ?_;refine aD h (λe3 h=>?_) λe3 h=>?_
  .exact aN ev [.int .i64 2]
  .refine aK (dw _ (inl (ax ak λ_ gU ke _=>?_)));obtain⟨az,dU,h⟩:=an h;refine cR (anY a0.cb _ dU) _ ?_;refine aD h (λff h=>?_) λff h=>?_
   .exact aN ke [.int .i64 3]
   .refine aK (gU _ (inl (ax ak λ_ jU kq _=>?_)));obtain⟨aY,fb,h⟩:=an h;refine cR (ZH a0.cD _ fb) _ ?_;refine aD h (λgw h=>?_) λgw h=>?_
    .exact aN kq [.int .i64 4]
    .refine aK (jU _ (inl (ax ak λ_ oK n7 _=>?_)));obtain⟨aU,lP,h⟩:=an h;refine cR (ZH a0.cA _ lP) _ ?_;refine aD h (λpO h=>?_) λpO h=>?_
     .exact aN n7 [.int .i64 5]
     .exact aK (oK _ (inl (aN ak [.int .i64 0])))
theorem aol (a0 r) (h:JV a0=some r):aZ ah 22 [.ref (fD a0)] (.bool r) []:=by
 refine bx [0] [.tmp 2] Tryz.func22 RA λbt ak bs=>aj ?_;obtain⟨R,aS,h⟩:=an h;refine cR (aok a0 _ aS) _ ?_;exact cM ak [.bool (R==0)]
theorem ZI (a0 r) (h:zO a0=some r):aZ ah 110 [.str a0] (.int .i64 r) []:=by
 refine bx [0] [.tmp 2] Tryz.func110 akm λbt ak bs=>aj ?_;refine ax ak λ_ bF bd _=>aj ?_;refine bg bd λeP _ bR bw _=>?_;show bm ah (.loop ?eN) _ _;have e4:∀n iV,yh a0 n iV=some r->cL ah ?eN eP (ar [(0,.str a0),(3,.int .i64 iV)]):=by
  refine cZ λ_ eL iV h=>cX bR λ_ dM cv aU=>ax cv λ_ cG _ bB=>aj ?_;refine aD h (λb1 h=>?_) λb1 h=>?_
  .refine aK (cG _ (inl (ax cv λ_ cE b9 _=>bg b9 λ_ b2 cN _ _=>?_)));obtain⟨R,dm,h⟩:=an h;refine c7 dm _ ?_;refine aD h (λfi h=>?_) λfi h=>?_
   .exact aN cN [.int .i64 iV]
   .refine aK (b2 _ (cE _ (inl (dr ?_))));exact dM _ (inr ⟨_,bE rfl,eL (i64.wrap (iV+1)) h⟩)
  .exact cS (bB 0 _ (aU 0 _ (bw _ (bF _ (inl (aN ak [.int .i64 (a0.length:Int)]))))))
 exact dn h λn h=>e4 n 0 h
theorem aom (a0 J r) (h:JX a0 J=some r):aZ ah 146 [.str a0,.int .u8 (J.toNat:Int)] (.ag 1 (r.map aV)) []:=by
 refine bx [0,1] [.tmp 4] Tryz.func146 c146 λbt ak bs=>aj ?_;refine c7 (show∀s,eh ah s 25 0 []=some (.ag 1 [],s)from λs=>by kernel_rfl) _ ?_;refine aj ?_;refine ax ak λ_ fj bR _=>aj ?_;refine bg bR λjh _ cU cP _=>?_;show bm ah (.loop ?Ar) _ _;have AK:∀n kn lH gn,zP a0 J n kn lH gn=some r->cL ah ?Ar jh (ar [(0,.str a0),(1,.int .u8 (J.toNat:Int)),(5,.ag 1 (kn.map aV)),(6,.int .i64 lH),(7,.int .i64 gn)]):=by
  refine cZ λm10 AL kn lH gn h=>cX cU λaon dw ev bu=>ax ev λ_ ig _ cy=>aj ?_;refine aD h (λe3 h=>?_) λe3 h=>?_
  .refine aK (ig _ (inl ?_));show bm ah (.seq _ ?Ry) _ _;have ZJ:∀Ch Ci Cj,JW (zP a0 J m10) a0 J Ch Ci Cj=some r->bm ah ?Ry aon (ar [(0,.str a0),(1,.int .u8 (J.toNat:Int)),(5,.ag 1 (Ch.map aV)),(6,.int .i64 Ci),(7,.int .i64 Cj)]):=by
    intro Ch Ci Cj h;refine dr ?_;exact dw _ (inr ⟨_,bE rfl,AL Ch Ci (i64.wrap (Cj+1)) h⟩)
   refine ax ev λ_ ez hN _=>bg hN λ_ fL _ _ _=>?_;obtain⟨R,d_,h⟩:=an h;refine c7 d_ _ ?_;refine aD h (λmR h=>?_) λmR h=>?_
   .obtain⟨ae,eG,h⟩:=an h;obtain⟨Si,fb,h⟩:=an h;(try simp only[fM.down,Nat.zero_add,Nat.add_zero,reduceAdd]at fb);refine c7 (U eG (U (show∀s,eh ah s 25 1 [(0,.str ae)]=some (.ag 1 [.str ae],s)from λs=>by kernel_rfl) (U (@kD ah 25 25 9 rfl rfl) (U @kE (U @kF (U @gQ (U @all_cons (U @all_nil (U fb (@j6 _ aV 1 λ_=>rfl)))))))))) [(0,.str a0),(1,.int .u8 (J.toNat:Int)),(5,.ag 1 ((kn++[ae]).map aV)),(7,.int .i64 gn)] ?_;refine wr [(0,.str a0),(1,.int .u8 (J.toNat:Int)),(5,.ag 1 ((kn++[ae]).map aV)),(6,.int .i64 (i64.wrap (gn+1))),(7,.int .i64 gn)] ?_;exact fL _ (ez _ (inr ⟨_,bE rfl,ZJ (kn++[ae]) (i64.wrap (gn+1)) gn h⟩))
   .exact aK (fL _ (ez _ (inr ⟨_,bE rfl,ZJ kn lH gn h⟩)))
  .refine cS (cy 0 _ (bu 0 _ (cP _ (fj _ (inl ?_)))));obtain⟨az,fl,h⟩:=an h;obtain⟨ay4,iD,h⟩:=an h;(try simp only[fM.down,Nat.zero_add,Nat.add_zero,reduceAdd]at iD);refine c7 (U fl (U (show∀s,eh ah s 25 1 [(0,.str az)]=some (.ag 1 [.str az],s)from λs=>by kernel_rfl) (U (@kD ah 25 25 9 rfl rfl) (U @kE (U @kF (U @gQ (U @all_cons (U @all_nil (U iD (@j6 _ aV 1 λ_=>rfl)))))))))) [(4,.ag 1 ((kn++[az]).map aV))] ?_;exact cM ak [.ag 1 ((kn++[az]).map aV)]
 exact dn h λn h=>AK n [] 0 0 h
theorem aoo (a0 r) (h:JY a0=some r):aZ ah 147 [.str a0] (.tuple [.int .i64 r.1,.bool r.2]) []:=by
 refine bx [0] [.tmp 2,.tmp 3] Tryz.func147 akn λbt ak bs=>aj ?_;refine aj ?_;show bm ah (.seq _ ?Ar) _ _;have Sj:∀iC,Ck a0 iC=some r->bm ah ?Ar bt (ar [(0,.str a0),(4,.int .i64 iC)]):=by
  intro iC h;refine ax ak λ_ fj bR aY=>?_;rcases dO h with⟨cP,h⟩|⟨cP,h⟩
  .refine c7 cP _ ?_;refine jS rfl ?_;exact aN bR [.int .i64 0,.bool false]
  .rcases dO h with⟨b1,h⟩|⟨b1,h⟩
   .refine c7 (U cP b1) _ ?_;refine jS rfl ?_;exact aN bR [.int .i64 0,.bool false]
   .obtain⟨R,iU,h⟩:=an h;rcases dO h with⟨pK,h⟩|⟨pK,h⟩
    .refine c7 (U cP (U b1 (U iU pK))) _ ?_;refine aD h (λfk h=>?_) λfk h=>?_
     .exact aN bR [.int .i64 0,.bool false]
     .refine aK (fj _ (inl (aj ?_)));refine ax ak λ_ gb gJ _=>aj ?_;refine bg gJ λRV _ kq mQ _=>?_;show bm ah (.loop ?c24) _ _;have Sk:∀n nL pD,wh a0 iC n nL pD=some r->cL ah ?c24 RV (ar [(0,.str a0),(4,.int .i64 iC),(5,.int .i64 nL),(6,.int .i64 pD)]):=by
       refine cZ λm24 Sl nL pD h=>cX kq λ_ r9 wW qb=>ax wW λ_ r3 _ lI=>aj ?_;refine aD h (λvn h=>?_) λvn h=>?_
       .refine aK (r3 _ (inl (ax wW λ_ oK n7 _=>bg n7 λ_ HD Sm _ _=>ax Sm λ_ LI HE _=>?_)));obtain⟨ae,ql,h⟩:=an h;obtain⟨az,pL,h⟩:=an h;refine eU ql (RT ae _ pL) _ ?_;refine aD h (λkr h=>?_) λkr h=>?_
        .exact aN HE [.int .i64 0,.bool false]
        .refine aK (LI _ (inl (rZ (U ql (@Ja ah 5 2 .i64 rfl rfl)) _ ?_)));refine HD _ (oK _ (inl (dr ?_)));exact r9 _ (inr ⟨_,bE rfl,Sl (i64.wrap ((i64.wrap (10*nL))+(i64.wrap (u8.wrap ((ae.toNat:Int)-48))))) (i64.wrap (pD+1)) h⟩)
       .refine cS (lI 0 _ (qb 0 _ (mQ _ (gb _ (inl ?_)))));show bm ah (.seq _ ?c49) _ _;have HF:∀s9,Gh s9=some r->bm ah ?c49 bt (ar [(5,.int .i64 s9)]):=by
         intro s9 h;exact aN ak [.int .i64 s9,.bool true]
        refine ax ak λ_ HG _ _=>aj ?_;refine aD h (λwS h=>?_) λwS h=>?_
        .refine dr ?_;exact HG _ (inr ⟨_,bE rfl,HF (i64.wrap (0-nL)) h⟩)
        .exact aK (HG _ (inr ⟨_,bE rfl,HF nL h⟩))
      exact dn h λn h=>Sk n 0 iC h
    .refine c7 (U cP (U b1 (U iU pK))) _ ?_;refine ot rfl ?_;refine aK (fj _ (inl (aj ?_)));refine ax ak λ_ aop Sf _=>aj ?_;refine bg Sf λaoq _ aor HH _=>?_;show bm ah (.loop ?c24) _ _;have Sk:∀n nL pD,wh a0 iC n nL pD=some r->cL ah ?c24 aoq (ar [(0,.str a0),(4,.int .i64 iC),(5,.int .i64 nL),(6,.int .i64 pD)]):=by
      refine cZ λm24 Sl nL pD h=>cX aor λ_ AM vm aos=>ax vm λ_ AF _ AG=>aj ?_;refine aD h (λwR h=>?_) λwR h=>?_
      .refine aK (AF _ (inl (ax vm λ_ So aot _=>bg aot λ_ AJ wU _ _=>ax wU λ_ qk r7 _=>?_)));obtain⟨aY,tA,h⟩:=an h;obtain⟨aU,HC,h⟩:=an h;refine eU tA (RT aY _ HC) _ ?_;refine aD h (λaou h=>?_) λaou h=>?_
       .exact aN r7 [.int .i64 0,.bool false]
       .refine aK (qk _ (inl (rZ (U tA (@Ja ah 5 2 .i64 rfl rfl)) _ ?_)));refine AJ _ (So _ (inl (dr ?_)));exact AM _ (inr ⟨_,bE rfl,Sl (i64.wrap ((i64.wrap (10*nL))+(i64.wrap (u8.wrap ((aY.toNat:Int)-48))))) (i64.wrap (pD+1)) h⟩)
      .refine cS (AG 0 _ (aos 0 _ (HH _ (aop _ (inl ?_)))));show bm ah (.seq _ ?c49) _ _;have HF:∀s9,Gh s9=some r->bm ah ?c49 bt (ar [(5,.int .i64 s9)]):=by
        intro s9 h;exact aN ak [.int .i64 s9,.bool true]
       refine ax ak λ_ LJ _ _=>aj ?_;refine aD h (λR5 h=>?_) λR5 h=>?_
       .refine dr ?_;exact LJ _ (inr ⟨_,bE rfl,HF (i64.wrap (0-nL)) h⟩)
       .exact aK (LJ _ (inr ⟨_,bE rfl,HF nL h⟩))
     exact dn h λn h=>Sk n 0 iC h
 refine ax ak λ_ eZ _ az=>?_;rcases dO h with⟨AD,h⟩|⟨AD,h⟩
 .obtain⟨bB,aov,h⟩:=an h;refine c7 (U AD aov) _ ?_;refine aD h (λaow h=>?_) λaow h=>?_
  .refine dr ?_;exact eZ _ (inr ⟨_,bE rfl,Sj 1 h⟩)
  .exact aK (eZ _ (inr ⟨_,bE rfl,Sj 0 h⟩))
 .refine c7 AD _ ?_;refine ot rfl ?_;exact aK (eZ _ (inr ⟨_,bE rfl,Sj 0 h⟩))
theorem Sp (a0 r) (h:s_ a0=some r):aZ ah 108 [.str a0] (.tuple [.ag 1 (r.1.map bb),.bool r.2]) []:=by
 refine bx [0] [.tmp 2,.tmp 3] Tryz.func108 ako λbt ak bs=>aj ?_;obtain⟨R,aS,h⟩:=an h;refine cR (ZI a0 _ aS) _ ?_;refine ax ak λ_ fj bR aY=>aj ?_;refine aD h (λcP h=>?_) λcP h=>?_
 .obtain⟨ae,gk,h⟩:=an h;refine eU (show∀s,eh ah s 69 0 []=some (.ag 1 [],s)from λs=>by kernel_rfl) (DI a0 _ gk) _ ?_;exact cM bR [.ag 1 [],.bool ae]
 .refine aK (fj _ (inl (ax ak λ_ cE b9 dE=>?_)));obtain⟨az,lz,h⟩:=an h;obtain⟨aY,dm,h⟩:=an h;rcases dO h with⟨fi,h⟩|⟨fi,h⟩
  .refine eU (U lz (hY fi)) (r8 az _ dm) _ ?_;refine jS rfl ?_;refine aj ?_;exact gr (b9 _ (inr ⟨[(2,.ag 1 []),(3,.bool false)],hf [] rfl (ha (t:=2) (d:=.bf) rfl rfl (.ix _) (by decide) (cz rfl (hh))),nZ [.ag 1 [],.bool false]⟩))
  .obtain⟨aU,d_,h⟩:=an h;refine eU (U lz (U (cm fi) d_)) (r8 az _ dm) _ ?_;refine aD h (λmR h=>?_) λmR h=>?_
   .refine aj ?_;exact gr (b9 _ (inr ⟨[(2,.ag 1 []),(3,.bool false)],hf [] rfl (ha (t:=2) (d:=.bf) rfl rfl (.ix _) (by decide) (cz rfl (hh))),nZ [.ag 1 [],.bool false]⟩))
   .refine aK (cE _ (inl ?_));obtain⟨bB,fb,h⟩:=an h;obtain⟨bu,gp,h⟩:=an h;refine eU fb (aom bB (44:UInt8) _ gp) _ ?_;refine c7 (show∀s,eh ah s 69 0 []=some (.ag 1 [],s)from λs=>by kernel_rfl) _ ?_;refine ax ak λ_ oK n7 _=>aj ?_;refine bg n7 λSq _ HE h7 _=>?_;show bm ah (.loop ?c28) _ _;have aox:∀n pE rC,zQ bu n pE rC=some r->cL ah ?c28 Sq (ar [(5,.ag 1 (bu.map aV)),(6,.ag 1 (pE.map bb)),(7,.int .i64 rC)]):=by
     refine cZ λ_ aoy pE rC h=>cX HE λ_ wX o6 wt=>ax o6 λ_ tt _ rF=>aj ?_;refine aD h (λkr h=>?_) λkr h=>?_
     .refine aK (tt _ (inl (ax o6 λ_ r6 tv _=>bg tv λ_ tw Hw _ _=>?_)));obtain⟨cy,wV,h⟩:=an h;obtain⟨dE,o7,h⟩:=an h;refine eU (U wV (ca wV)) (aoo cy _ o7) _ ?_;refine ax Hw λ_ Az AA _=>?_;rcases dO h with⟨o8,h⟩|⟨o8,h⟩
      .refine c7 (hY o8) _ ?_;refine jS rfl ?_;refine aj ?_;exact gr (AA _ (inr ⟨[(2,.ag 1 []),(3,.bool false)],hf [] rfl (ha (t:=2) (d:=.bf) rfl rfl (.ix _) (by decide) (cz rfl (hh))),nZ [.ag 1 [],.bool false]⟩))
      .obtain⟨dN,tD,h⟩:=an h;refine eU (cm o8) (mP dE.1 0 63 _ tD) _ ?_;refine aD h (λAN h=>?_) λAN h=>?_
       .refine aj ?_;exact gr (AA _ (inr ⟨[(2,.ag 1 []),(3,.bool false)],hf [] rfl (ha (t:=2) (d:=.bf) rfl rfl (.ix _) (by decide) (cz rfl (hh))),nZ [.ag 1 [],.bool false]⟩))
       .refine aK (Az _ (inl ?_));obtain⟨aoz,LK,h⟩:=an h;(try simp only[fM.down,Nat.zero_add,Nat.add_zero,reduceAdd]at LK);refine rZ (U (show∀s,eh ah s 69 1 [(0,.int .i64 dE.1)]=some (.ag 1 [.int .i64 dE.1],s)from λs=>by kernel_rfl) (U (@kD ah 69 69 2 rfl rfl) (U @kE (U @kF (U @gQ (U @all_cons (U @all_nil (U LK (@j6 _ bb 1 λ_=>rfl))))))))) [(5,.ag 1 (bu.map aV)),(6,.ag 1 ((pE++[dE.1]).map bb)),(7,.int .i64 rC)] ?_;refine tw _ (r6 _ (inl (wr [(5,.ag 1 (bu.map aV)),(6,.ag 1 ((pE++[dE.1]).map bb)),(7,.int .i64 (i64.wrap (rC+1)))] ?_)));exact wX _ (inr ⟨_,bE rfl,aoy (pE++[dE.1]) (i64.wrap (rC+1)) h⟩)
     .exact cS (rF 0 _ (wt 0 _ (h7 _ (oK _ (inl (aN ak [.ag 1 (pE.map bb),.bool (decide ((pE.length:Int)<=2))]))))))
    exact dn h λn h=>aox n [] 0 h
theorem aoA (a0 r) (h:uL a0=some r):aZ ah 75 [.str a0] (.bool r) []:=by
 refine bx [0] [.tmp 2] Tryz.func75 c75 λbt ak bs=>aj ?_;obtain⟨R,aS,h⟩:=an h;refine cR (Sp a0 _ aS) _ ?_;exact aN ak [.bool R.2]
theorem aoB (a0 r) (h:JZ a0=some r):aZ ah 50 [.ref (eY a0)] (.bool r) []:=by
 refine bx [0] [.tmp 2] Tryz.func50 akp λbt ak bs=>aj ?_;obtain⟨R,aS,h⟩:=an h;rcases dO h with⟨bw,h⟩|⟨bw,h⟩
 .obtain⟨ae,cF,h⟩:=an h;rcases dO h with⟨cP,h⟩|⟨cP,h⟩
  .obtain⟨az,cg,h⟩:=an h;rcases dO h with⟨b1,h⟩|⟨b1,h⟩
   .obtain⟨aY,h_,h⟩:=an h;refine dh (b7 [(2,.bool aY)] (λP bc=>?_) ?_)
    ·(try simp only[aE.down,simprocAttr,bw,cP,b1]);refine dq (mP a0.Choice 0 199 _ aS) (hK:= ?_);simp only[aE.down,simprocAttr,bw,cP,b1];refine g_ (mP a0.ef 0 2 _ cF) (hK:= ?_);simp only[aE.down,simprocAttr,bw,cP,b1];refine g_ (mP a0.Second (-1) 2 _ cg) (hK:= ?_);simp only[aE.down,simprocAttr,bw,cP,b1];refine g_ (aoA a0.Label _ h_) (hK:= ?_);simp only[aE.down,simprocAttr,bw,cP,b1];exact bU (U bw (U cP b1))
    exact cM ak [.bool aY]
   .refine dh (b7 [(2,.bool false)] (λP bc=>?_) ?_)
    ·(try simp only[aE.down,simprocAttr,bw,cP,b1]);refine dq (mP a0.Choice 0 199 _ aS) (hK:= ?_);simp only[aE.down,simprocAttr,bw,cP,b1];refine g_ (mP a0.ef 0 2 _ cF) (hK:= ?_);simp only[aE.down,simprocAttr,bw,cP,b1];refine g_ (mP a0.Second (-1) 2 _ cg) (hK:= ?_);simp only[aE.down,simprocAttr,bw,cP,b1];exact bU (U bw (U cP b1))
    exact cM ak [.bool false]
  .refine dh (b7 [(2,.bool false)] (λP bc=>?_) ?_)
   ·(try simp only[aE.down,simprocAttr,bw,cP]);refine dq (mP a0.Choice 0 199 _ aS) (hK:= ?_);simp only[aE.down,simprocAttr,bw,cP];refine g_ (mP a0.ef 0 2 _ cF) (hK:= ?_);simp only[aE.down,simprocAttr,bw,cP];exact bU (U bw cP)
   exact cM ak [.bool false]
 .refine eU bw (mP a0.Choice 0 199 _ aS) _ ?_;exact cM ak [.bool false]
theorem aoC (a0 r) (h:J0 a0=some r):aZ ah 23 [.slice (a0.map eY)] (.bool r) []:=by
 refine bx [0] [.tmp 2] Tryz.func23 akq λbt ak bs=>aj ?_;refine ax ak λ_ bF bd ae=>aj ?_;refine aD h (λbw h=>?_) λbw h=>?_
 .exact aN bd [.bool false]
 .refine aK (bF _ (inl (ax ak λ_ cG cU _=>aj ?_)));refine bg cU λiN _ h0 b1 _=>?_;show bm ah (.loop ?gS) _ _;have gV:∀n dW,Cl a0 n dW=some r->cL ah ?gS iN (ar [(0,.slice (a0.map eY)),(3,.int .i64 dW)]):=by
   refine cZ λ_ gE dW h=>cX h0 λ_ cE b9 dE=>ax b9 λ_ b2 _ dN=>aj ?_;refine aD h (λfk h=>?_) λfk h=>?_
   .refine aK (b2 _ (inl (ax b9 λ_ fL fJ _=>bg fJ λ_ eO et _ _=>?_)));obtain⟨R,cB,h⟩:=an h;obtain⟨ae,dP,h⟩:=an h;refine eU cB (aoB R _ dP) _ ?_;refine aD h (λij h=>?_) λij h=>?_
    .exact aN et [.bool false]
    .refine aK (eO _ (fL _ (inl (dr ?_))));exact cE _ (inr ⟨_,bE rfl,gE (i64.wrap (dW+1)) h⟩)
   .exact cS (dN 0 _ (dE 0 _ (b1 _ (cG _ (inl (aN ak [.bool true]))))))
  exact dn h λn h=>gV n 0 h
theorem LL (a0 r) (h:wi a0=some r):aZ ah 76 [.slice (a0.map bb)] (.ag 1 (r.map bb)) []:=by
 refine bx [0] [.tmp 2] Tryz.func76 c76 λbt ak bs=>aj ?_;obtain⟨OP,aS,h⟩:=an h;(try simp only[fM.down,Nat.zero_add,Nat.add_zero,reduceAdd]at aS);refine c7 (U (show∀s,eh ah s 69 0 []=some (.ag 1 [],s)from λs=>by kernel_rfl) (U (@kD ah 69 69 2 rfl rfl) (U @kE (U @kF (U @gQ (U @all_cons (U @all_nil (U aS (@j6 _ bb 1 λ_=>rfl))))))))) _ ?_;exact cM ak [.ag 1 (a0.map bb)]
theorem aoD (a0 r) (h:J1 a0=some r):aZ ah 51 [.ref (fD a0)] (.ag 3 (r.map dT)) []:=by
 refine bx [0] [.tmp 2] Tryz.func51 c51 λbt ak bs=>aj ?_;refine c7 (show∀s,eh ah s 31 0 []=some (.ag 3 [],s)from λs=>by kernel_rfl) _ ?_;refine ax ak λ_ eZ c_ _=>aj ?_;refine bg c_ λoL _ cv dR _=>?_;show bm ah (.loop ?hd) _ _;have hL:∀n bP bL,Cm a0 n bP bL=some r->cL ah ?hd oL (ar [(0,.ref (fD a0)),(3,.ag 3 (bP.map dT)),(4,.int .i64 bL)]):=by
  refine cZ λ_ hM bP bL h=>cX cv λ_ cG cU bB=>ax cU λ_ dw _ bu=>aj ?_;refine aD h (λe8 h=>?_) λe8 h=>?_
  .refine aK (dw _ (inl (ax cU λ_ b2 cN _=>bg cN λ_ ez _ _ _=>?_)));obtain⟨R,ed,h⟩:=an h;refine c7 ed _ ?_;obtain⟨ae,d_,h⟩:=an h;obtain⟨DH,cB,h⟩:=an h;(try simp only[fM.down,Nat.zero_add,Nat.add_zero,reduceAdd]at cB);refine Ft rfl (jr [(0,.ref (fD a0)),(3,.ag 3 ((bP++[(ba.mk R.cJ 0 ae)]).map dT)),(4,.int .i64 bL)] (λP bc=>?_) ?_)
   ·(try simp only[dA.down,simprocAttr,wO.down,dZ,dB,lX,cB]);refine iz (LL R.b5 _ d_) (hK:= ?_);simp only[dA.down,simprocAttr,wO.down,dZ,dB,lX,cB];refine⟨iA (by kernel_rfl),?_⟩;(try simp only[jg.down,simprocAttr,wO.down,dZ,dB,lX,cB]at bc⊢);exact bc
   refine ez _ (b2 _ (inl (wr [(0,.ref (fD a0)),(3,.ag 3 ((bP++[(ba.mk R.cJ 0 ae)]).map dT)),(4,.int .i64 (i64.wrap (bL+1)))] ?_)));exact cG _ (inr ⟨_,bE rfl,hM (bP++[(ba.mk R.cJ 0 ae)]) (i64.wrap (bL+1)) h⟩)
  .exact cS (bu 0 _ (bB 0 _ (dR _ (eZ _ (inl (aN ak [.ag 3 (bP.map dT)]))))))
 exact dn h λn h=>hL n [] 0 h
theorem wY (a0 r) (h:rD a0=some r):aZ ah 216 [.bool a0] (.int .i64 r) []:=by
 refine bx [0] [.tmp 2] Tryz.func216 akr λbt ak bs=>aj ?_;refine ax ak λ_ bF bd _=>aj ?_;refine aD h (λbw h=>?_) λbw h=>?_
 .exact aN bd [.int .i64 1]
 .exact aK (bF _ (inl (aN ak [.int .i64 0])))
theorem aoE (a0 J r) (h:J2 a0 J=some r):aZ ah 217 [.slice (a0.map ea),.int .i64 J] (.int .i64 r) []:=by
 refine bx [0] [.tmp 4] Tryz.func217 aks λbt ak bs=>aj ?_;refine aj ?_;refine ax ak λ_ eZ c_ _=>bg c_ λeP _ bR bw _=>?_;show bm ah (.loop ?eN) _ _;have e4:∀n aT aC,Cn a0 n aT aC=some r->cL ah ?eN eP (ar [(0,.slice (a0.map ea)),(1,.int .i64 aT),(5,.int .i64 aC)]):=by
  refine cZ λ_ eL aT aC h=>cX bR λ_ dM cv aU=>ax cv λ_ cG _ bB=>aj ?_;refine aD h (λb1 h=>?_) λb1 h=>?_
  .refine aK (cG _ (inl (bg cv λ_ cE _ _ _=>?_)));obtain⟨R,lz,h⟩:=an h;obtain⟨ae,dm,h⟩:=an h;refine eU lz (ZE R _ dm) _ ?_;refine dr ?_;exact cE _ (dM _ (inr ⟨_,bE rfl,eL (i64.wrap (aT+1)) (i64.wrap (aC+(i64.wrap (ae-1)))) h⟩))
  .exact cS (bB 0 _ (aU 0 _ (bw _ (eZ _ (inl (aN ak [.int .i64 aT]))))))
 exact dn h λn h=>e4 n J 1 h
theorem aoF (a0 J a2 r) (h:J3 a0 J a2=some r):aZ ah 218 [.int .i64 a0,.int .i64 J,.int .i64 a2] (.int .i64 r) []:=by
 refine bx [0,1,2] [.tmp 6] Tryz.func218 c218 λbt ak bs=>aj ?_;refine ax ak λ_ bF bd ae=>aj ?_;refine bg bd λ_ fj bR _ aY=>aj ?_;refine aD h (λcP h=>?_) λcP h=>?_
 .refine c7 (@x4 .i64 64 (by decide)) _ ?_;exact cM bR [.int .i64 (Int.tmod (i64.wrap (J+a2)) 64)]
 .refine aj ?_;refine aD h (λe8 h=>?_) λe8 h=>?_
  .refine c7 (@x4 .i64 64 (by decide)) _ ?_;exact cM bR [.int .i64 (Int.tmod (i64.wrap ((i64.wrap (J-a2))+64)) 64)]
  .refine aj ?_;refine aD h (λfk h=>?_) λfk h=>?_
   .refine c7 (@x4 .i64 64 (by decide)) _ ?_;exact cM bR [.int .i64 (Int.tmod (i64.wrap (J*a2)) 64)]
   .refine aj ?_;refine aD h (λff h=>?_) λff h=>?_
    .obtain⟨R,dP,h⟩:=an h;refine cR (wY (J==a2) _ dP) _ ?_;exact cM bR [.int .i64 R]
    .refine aj ?_;refine aD h (λhb h=>?_) λhb h=>?_
     .obtain⟨ae,gT,h⟩:=an h;refine cR (wY (J !=a2) _ gT) _ ?_;exact cM bR [.int .i64 ae]
     .refine aj ?_;refine aD h (λgd h=>?_) λgd h=>?_
      .obtain⟨az,iX,h⟩:=an h;refine cR (wY (decide (J<a2)) _ iX) _ ?_;exact cM bR [.int .i64 az]
      .refine aj ?_;refine aD h (λoM h=>?_) λoM h=>?_
       .obtain⟨aY,tE,h⟩:=an h;refine cR (wY (decide (J<=a2)) _ tE) _ ?_;exact cM bR [.int .i64 aY]
       .refine aj ?_;refine aD h (λhj h=>?_) λhj h=>?_
        .rcases dO h with⟨jJ,h⟩|⟨jJ,h⟩
         .obtain⟨aU,jI,h⟩:=an h;refine eU jJ (wY (a2 !=0) _ jI) _ ?_;exact cM bR [.int .i64 aU]
         .obtain⟨bB,AO,h⟩:=an h;refine eU jJ (wY false _ AO) _ ?_;exact cM bR [.int .i64 bB]
        .refine aK (fj _ (bF _ (inl ?_)));rcases dO h with⟨qm,h⟩|⟨qm,h⟩
         .obtain⟨bu,tD,h⟩:=an h;refine eU qm (wY true _ tD) _ ?_;exact cM ak [.int .i64 bu]
         .obtain⟨cy,wZ,h⟩:=an h;refine eU qm (wY (a2 !=0) _ wZ) _ ?_;exact cM ak [.int .i64 cy]
theorem aoG (Co:azI->azs->Int->azv) (Sr:∀a0 J a2 r,Co a0 J a2=some r->aZ ah 187 [.slice (a0.map ea),.slice (J.map bb),.int .i64 a2] (.int .i64 r) []) (a0 J a2 r) (h:PH Co a0 J a2=some r):aZ ah 187 [.slice (a0.map ea),.slice (J.map bb),.int .i64 a2] (.int .i64 r) []:=by
 refine bx [0,1,2] [.tmp 6] Tryz.func187 akt λbt ak bs=>aj ?_;refine ax ak λ_ bF bd ae=>?_;obtain⟨R,cf,h⟩:=an h;refine c7 cf _ ?_;refine bg bd λ_ dM cv _ aU=>aj ?_;refine aD h (λqC h=>?_) λqC h=>?_
 .refine c7 cf _ ?_;exact cM cv [.int .i64 R.Value]
 .refine aj ?_;refine aD h (λe3 h=>?_) λe3 h=>?_
  .obtain⟨ae,dm,h⟩:=an h;refine c7 (U cf dm) _ ?_;exact cM cv [.int .i64 ae]
  .refine aj ?_;refine aD h (λiM h=>?_) λiM h=>?_
   .obtain⟨az,cB,h⟩:=an h;obtain⟨aY,dP,h⟩:=an h;refine dh (b7 [(6,.int .i64 aY)] (λP bc=>?_) ?_)
    ·(try simp only[aE.down,simprocAttr]);refine dq (Sr a0 J (i64.wrap (a2+1)) _ cB) (hK:= ?_);simp only[aE.down,simprocAttr];refine dq (wY (az==0) _ dP) (hK:= ?_);simp only[aE.down,simprocAttr];exact bU trivial
    exact cM cv [.int .i64 aY]
   .refine aK (dM _ (bF _ (inl ?_)));obtain⟨aU,fb,h⟩:=an h;refine cR (Sr a0 J (i64.wrap (a2+1)) _ fb) _ ?_;obtain⟨bB,gT,h⟩:=an h;obtain⟨bu,fl,h⟩:=an h;refine dh (b7 [(0,.slice (a0.map ea)),(2,.int .i64 a2),(7,.int .i64 aU),(8,.int .i64 bu)] (λP bc=>?_) ?_)
    ·(try simp only[aE.down,simprocAttr]);refine dq (aoE a0 (i64.wrap (a2+1)) _ gT) (hK:= ?_);simp only[aE.down,simprocAttr];refine dq (Sr a0 J bB _ fl) (hK:= ?_);simp only[aE.down,simprocAttr];exact bU trivial
    obtain⟨cy,lP,h⟩:=an h;refine eU cf (aoF R.Value aU bu _ lP) _ ?_;exact cM ak [.int .i64 cy]
theorem aoH:∀n a0 J a2 r,zR n a0 J a2=some r->aZ ah 187 [.slice (a0.map ea),.slice (J.map bb),.int .i64 a2] (.int .i64 r) []:=by
 intro n;induction n with
 |zero=>intro a0 J a2 r h;cases(show none=some r from h)
 |succ n ih=>intro a0 J a2 r h;exact aoG (zR n) ih a0 J a2 r h
theorem aoI (a0 J a2 r) (h:PI a0 J a2=some r):aZ ah 187 [.slice (a0.map ea),.slice (J.map bb),.int .i64 a2] (.int .i64 r) []:=by
 obtain⟨n,h⟩:=l_ h;exact aoH n a0 J a2 r h
theorem ZK (a0 J r) (h:zS a0 J=some r):aZ ah 151 [.slice (a0.map ea),.slice (J.map bb)] (.int .i64 r) []:=by
 refine bx [0,1] [.tmp 4] Tryz.func151 aku λbt ak bs=>aj ?_;obtain⟨R,aS,h⟩:=an h;refine cR (aoI a0 J 0 _ aS) _ ?_;exact cM ak [.int .i64 R]
theorem ZL (a0 J r) (h:Gi a0 J=some r):aZ ah 148 [.slice (a0.map jf),.slice (J.map bb)] (.ag 1 (r.map bb)) []:=by
 refine bx [0,1] [.tmp 4] Tryz.func148 c148 λbt ak bs=>aj ?_;refine c7 (show∀s,eh ah s 69 0 []=some (.ag 1 [],s)from λs=>by kernel_rfl) _ ?_;refine ax ak λ_ eZ c_ _=>aj ?_;refine bg c_ λoL _ cv dR _=>?_;show bm ah (.loop ?hd) _ _;have hL:∀n fK fT,Cp a0 J n fK fT=some r->cL ah ?hd oL (ar [(0,.slice (a0.map jf)),(1,.slice (J.map bb)),(5,.ag 1 (fK.map bb)),(6,.int .i64 fT)]):=by
  refine cZ λ_ hM fK fT h=>cX cv λ_ cG cU bB=>ax cU λ_ dw _ bu=>aj ?_;refine aD h (λe8 h=>?_) λe8 h=>?_
  .refine aK (dw _ (inl (ax cU λ_ b2 cN _=>bg cN λ_ ez _ _ _=>?_)));obtain⟨R,ed,h⟩:=an h;obtain⟨ae,dU,h⟩:=an h;obtain⟨u16,d_,h⟩:=an h;(try simp only[fM.down,Nat.zero_add,Nat.add_zero,reduceAdd]at d_);refine As (U ed (U (show∀s,eh ah s 69 1 [(0,.int .i64 ae)]=some (.ag 1 [.int .i64 ae],s)from λs=>by kernel_rfl) (U (@kD ah 69 69 2 rfl rfl) (U @kE (U @kF (U @gQ (U @all_cons (U @all_nil (U d_ (@j6 _ bb 1 λ_=>rfl)))))))))) (ZK R J _ dU) [(0,.slice (a0.map jf)),(1,.slice (J.map bb)),(5,.ag 1 ((fK++[ae]).map bb)),(6,.int .i64 fT)] ?_;refine ez _ (b2 _ (inl (wr [(0,.slice (a0.map jf)),(1,.slice (J.map bb)),(5,.ag 1 ((fK++[ae]).map bb)),(6,.int .i64 (i64.wrap (fT+1)))] ?_)));exact cG _ (inr ⟨_,bE rfl,hM (fK++[ae]) (i64.wrap (fT+1)) h⟩)
  .exact cS (bu 0 _ (bB 0 _ (dR _ (eZ _ (inl (aN ak [.ag 1 (fK.map bb)]))))))
 exact dn h λn h=>hL n [] 0 h
theorem aoJ (a0 r) (h:Gj a0=some r):aZ ah 188 [.int .i64 a0] (.str r) []:=by
 refine bx [0] [.tmp 2] Tryz.func188 akv λbt ak bs=>aj ?_;refine ax ak λ_ bF bd _=>aj ?_;refine aD h (λbw h=>?_) λbw h=>?_
 .exact aN bd [.str ([48]:azq)]
 .refine aK (bF _ (inl (c7 (show∀s,eh ah s 121 0 []=some (.ag 1 [],s)from λs=>by kernel_rfl) _ ?_)));refine ax ak λ_ dw ev _=>aj ?_;refine bg ev λkd _ b9 e8 _=>?_;have ln:∀n hi hJ,wk a0 n hi hJ=some r->cL ah YH kd (ar [(0,.int .i64 a0),(3,.ag 1 (hi.map jn)),(4,.int .i64 hJ)]):=by
   refine cZ λm16 lo hi hJ h=>cX b9 λ_ b2 cN dN=>ax cN λ_ ez _ fa=>aj ?_;refine aD h (λfi h=>?_) λfi h=>?_
   .refine aK (ez _ (inl (ax cN λ_ eO et _=>bg et λHI gb gJ _ _=>c7 (@x4 .i64 10 (by decide)) _ ?_)));have ZM:∀wj yi uM,J4 (wk a0 m16) a0 wj yi uM=some r->bm ah YG HI (ar [(0,.int .i64 a0),(3,.ag 1 (wj.map jn)),(4,.int .i64 yi),(5,.int .i64 uM)]):=by
     intro wj yi uM h;obtain⟨Si,fb,h⟩:=an h;(try simp only[fM.down,Nat.zero_add,Nat.add_zero,reduceAdd]at fb);refine rZ (U (@Ja ah 2 5 .u8 rfl rfl) (U (show∀s,eh ah s 121 1 [(0,.int .u8 (u8.wrap (i64.wrap (48+uM))))]=some (.ag 1 [.int .u8 (u8.wrap (i64.wrap (48+uM)))],s)from λs=>by kernel_rfl) (U (@kD ah 121 121 5 rfl rfl) (U @kE (U @kF (U @gQ (U @all_cons (U @all_nil (U fb @Oo))))))))) [(0,.int .i64 a0),(3,.ag 1 ((wj++[(pe (i64.wrap (48+uM)))]).map jn)),(4,.int .i64 yi)] ?_;refine gb _ (eO _ (inl (rZ (@W1 .i64 10 (by decide)) [(0,.int .i64 a0),(3,.ag 1 ((wj++[(pe (i64.wrap (48+uM)))]).map jn)),(4,.int .i64 (i64.wrap (Int.tdiv yi 10)))] ?_)));exact b2 _ (inr ⟨_,bE rfl,lo (wj++[(pe (i64.wrap (48+uM)))]) (i64.wrap (Int.tdiv yi 10)) h⟩)
    refine ax gJ λ_ jU _ _=>aj ?_;refine aD h (λAw h=>?_) λAw h=>?_
    .refine dr ?_;exact jU _ (inr ⟨_,bE rfl,ZM hi hJ (i64.wrap (0-(Int.tmod hJ 10))) h⟩)
    .exact aK (jU _ (inr ⟨_,bE rfl,ZM hi hJ (Int.tmod hJ 10) h⟩))
   .refine cS (fa 0 _ (dN 0 _ (e8 _ (dw _ (inl ?_)))));have ZN:∀o0,yj o0=some r->bm ah YJ bt (ar [(3,.ag 1 (o0.map jn))]):=by
     intro o0 h;refine c7 (show∀s,eh ah s 121 0 []=some (.ag 1 [],s)from λs=>by kernel_rfl) _ ?_;refine ax ak λ_ tt tu _=>aj ?_;refine bg tu λRW _ At kr _=>?_;have Ss:∀n iI ie,PK o0 n iI ie=some r->cL ah YI RW (ar [(3,.ag 1 (o0.map jn)),(6,.ag 1 (iI.map jn)),(7,.int .i64 ie)]):=by
      refine cZ λ_ St iI ie h=>cX At λ_ r6 tv Hs=>ax tv λ_ tw _ RZ=>aj ?_;refine aD h (λAy h=>?_) λAy h=>?_
      .refine aK (tw _ (inl (ax tv λ_ R0 Ht _=>bg Ht λ_ Az _ _ _=>?_)));obtain⟨R,pN,h⟩:=an h;obtain⟨aoK,tx,h⟩:=an h;(try simp only[fM.down,Nat.zero_add,Nat.add_zero,reduceAdd]at tx);refine rZ (U pN (U (ca pN) (U (show∀s,eh ah s 121 1 [(0,.int .u8 (R.toNat:Int))]=some (.ag 1 [.int .u8 (R.toNat:Int)],s)from λs=>by kernel_rfl) (U (@kD ah 121 121 5 rfl rfl) (U @kE (U @kF (U @gQ (U @all_cons (U @all_nil (U tx @Oo)))))))))) [(3,.ag 1 (o0.map jn)),(6,.ag 1 ((iI++[R]).map jn)),(7,.int .i64 ie)] ?_;refine Az _ (R0 _ (inl (wr [(3,.ag 1 (o0.map jn)),(6,.ag 1 ((iI++[R]).map jn)),(7,.int .i64 (i64.wrap (ie-1)))] ?_)));exact r6 _ (inr ⟨_,bE rfl,St (iI++[R]) (i64.wrap (ie-1)) h⟩)
      .refine cS (RZ 2 _ (Hs 2 _ (kr _ (tt _ (inl (c7 (U ((@WX ah 121 9 5 rfl rfl rfl).2.2) (U @W0 @WY)) _ ?_))))));exact cM ak [.str iI]
     exact dn h λn h=>Ss n [] (i64.wrap ((o0.length:Int)-1)) h
    refine ax ak λ_ LI _ _=>aj ?_;refine aD h (λtz h=>?_) λtz h=>?_
    .obtain⟨aoz,DL,h⟩:=an h;(try simp only[fM.down,Nat.zero_add,Nat.add_zero,reduceAdd]at DL);refine rZ (U (show∀s,eh ah s 121 1 [(0,.int .u8 45)]=some (.ag 1 [.int .u8 45],s)from λs=>by kernel_rfl) (U (@kD ah 121 121 5 rfl rfl) (U @kE (U @kF (U @gQ (U @all_cons (U @all_nil (U DL @Oo)))))))) [(3,.ag 1 ((hi++[(45:UInt8)]).map jn))] ?_;exact LI _ (inr ⟨_,bE rfl,ZN (hi++[(45:UInt8)]) h⟩)
    .exact aK (LI _ (inr ⟨_,bE rfl,ZN hi h⟩))
  exact dn h λn h=>ln n [] a0 h
theorem aoL (a0 r) (h:J6 a0=some r):aZ ah 153 [.slice (a0.map bb)] (.str r) []:=by
 refine bx [0] [.tmp 2] Tryz.func153 akw λbt ak bs=>aj ?_;refine ax ak λ_ bF bd ae=>aj ?_;refine aD h (λbw h=>?_) λbw h=>?_
 .exact aN bd [.str ([45]:azq)]
 .refine aK (bF _ (inl (aj ?_)));refine ax ak λ_ dw ev _=>aj ?_;refine bg ev λkd _ b9 e8 _=>?_;have ln:∀n hi hJ,zU a0 n hi hJ=some r->cL ah YL kd (ar [(0,.slice (a0.map bb)),(3,.str hi),(4,.int .i64 hJ)]):=by
   refine cZ λm16 lo hi hJ h=>cX b9 λ_ b2 cN dN=>ax cN λ_ ez _ fa=>aj ?_;refine aD h (λfi h=>?_) λfi h=>?_
   .refine aK (ez _ (inl (ax cN λ_ eO et _=>bg et λHI gb gJ _ _=>?_)));have ZO:∀wm wo,J5 (zU a0 m16) a0 wm wo=some r->bm ah YK HI (ar [(0,.slice (a0.map bb)),(3,.str wm),(4,.int .i64 wo)]):=by
     intro wm wo h;obtain⟨R,eG,h⟩:=an h;obtain⟨ae,fb,h⟩:=an h;obtain⟨aoM,gp,h⟩:=an h;(try simp only[fM.down,Nat.zero_add,Nat.add_zero,reduceAdd]at gp);refine As (U eG (U gp (U @vX @vY))) (aoJ R _ fb) [(0,.slice (a0.map bb)),(3,.str (wm++ae)),(4,.int .i64 wo)] ?_;refine gb _ (eO _ (inl (wr [(0,.slice (a0.map bb)),(3,.str (wm++ae)),(4,.int .i64 (i64.wrap (wo+1)))] ?_)));exact b2 _ (inr ⟨_,bE rfl,lo (wm++ae) (i64.wrap (wo+1)) h⟩)
    refine ax gJ λ_ lO _ _=>aj ?_;refine aD h (λgd h=>?_) λgd h=>?_
    .obtain⟨aoN,iX,h⟩:=an h;(try simp only[fM.down,Nat.zero_add,Nat.add_zero,reduceAdd]at iX);refine rZ (U iX (U @vX @vY)) [(0,.slice (a0.map bb)),(3,.str (hi++([44]:azq))),(4,.int .i64 hJ)] ?_;exact lO _ (inr ⟨_,bE rfl,ZO (hi++([44]:azq)) hJ h⟩)
    .exact aK (lO _ (inr ⟨_,bE rfl,ZO hi hJ h⟩))
   .exact cS (fa 0 _ (dN 0 _ (e8 _ (dw _ (inl (aN ak [.str hi]))))))
  exact dn h λn h=>ln n ([]:azq) 0 h
theorem ZP (a0 J r) (h:Gk a0 J=some r):aZ ah 114 [.str a0,.slice (J.map bb)] (.str r) []:=by
 refine bx [0,1] [.tmp 4] Tryz.func114 akx λbt ak bs=>aj ?_;refine ax ak λ_ bF bd _=>aj ?_;refine aD h (λbw h=>?_) λbw h=>?_
 .exact aN bd [.str a0]
 .refine aK (bF _ (inl ?_));obtain⟨DM,cg,h⟩:=an h;(try simp only[fM.down,Nat.zero_add,Nat.add_zero,reduceAdd]at cg);obtain⟨R,gk,h⟩:=an h;obtain⟨DM,h_,h⟩:=an h;(try simp only[fM.down,Nat.zero_add,Nat.add_zero,reduceAdd]at h_);obtain⟨DM,iU,h⟩:=an h;(try simp only[fM.down,Nat.zero_add,Nat.add_zero,reduceAdd]at iU);refine eU (U cg (U @vX (U @vY (U h_ iU)))) (aoL J _ gk) [(4,.str (((a0++([40]:azq))++R)++([41]:azq)))] ?_;exact cM ak [.str (((a0++([40]:azq))++R)++([41]:azq))]
theorem ZQ (a0 J r) (h:Gl a0 J=some r):aZ ah 112 [.slice (a0.map bb),.slice (J.map bb)] (.bool r) []:=by
 refine bx [0,1] [.tmp 4] Tryz.func112 aky λbt ak bs=>aj ?_;refine ax ak λ_ bF bd ae=>aj ?_;refine aD h (λbw h=>?_) λbw h=>?_
 .exact aN bd [.bool false]
 .refine aK (bF _ (inl (ax ak λ_ cG cU _=>aj ?_)));refine bg cU λiN _ h0 b1 _=>?_;show bm ah (.loop ?gS) _ _;have gV:∀n cr,Cq a0 J n cr=some r->cL ah ?gS iN (ar [(0,.slice (a0.map bb)),(1,.slice (J.map bb)),(5,.int .i64 cr)]):=by
   refine cZ λ_ gE cr h=>cX h0 λ_ cE b9 dE=>ax b9 λ_ b2 _ dN=>aj ?_;refine aD h (λfk h=>?_) λfk h=>?_
   .refine aK (b2 _ (inl (ax b9 λ_ fL fJ _=>bg fJ λ_ eO et _ _=>?_)));obtain⟨R,cB,h⟩:=an h;obtain⟨ae,dP,h⟩:=an h;refine pJ (U cB dP) _ ?_;refine aD h (λij h=>?_) λij h=>?_
    .exact aN et [.bool false]
    .refine aK (eO _ (fL _ (inl (dr ?_))));exact cE _ (inr ⟨_,bE rfl,gE (i64.wrap (cr+1)) h⟩)
   .exact cS (dN 0 _ (dE 0 _ (b1 _ (cG _ (inl (aN ak [.bool true]))))))
  exact dn h λn h=>gV n 0 h
theorem ZR (a0 J r) (h:Cr a0 J=some r):aZ ah 152 [.ref (bD a0),.ref (bD J)] (.bool r) []:=by
 refine bx [0,1] [.tmp 4] Tryz.func152 c152 λbt ak bs=>aj ?_;rcases dO h with⟨f_,h⟩|⟨f_,h⟩
 .rcases dO h with⟨bw,h⟩|⟨bw,h⟩
  .obtain⟨R,cF,h⟩:=an h;refine oJ (U f_ bw) (ZQ a0.b5 J.b5 _ cF) _ ?_;exact cM ak [.bool R]
  .refine pJ (U f_ bw) _ ?_;exact cM ak [.bool false]
 .refine pJ f_ _ ?_;exact cM ak [.bool false]
theorem aoO (a0 J r) (h:J7 a0 J=some r):aZ ah 149 [.ag 4 (a0.map di),di J] (.ag 4 (r.map di)) [.hole,.hole]:=by
 refine bx [0,1] [.tmp 4] Tryz.func149 akz λbt ak bs=>aj ?_;refine ax ak λ_ bF bd ae=>aj ?_;refine bg bd λeP _ bR bw _=>?_;show bm ah (.loop ?eN) _ _;have e4:∀n aC,Cs a0 J n aC=some r->cL ah ?eN eP (ar [(0,.ag 4 (a0.map di)),(3,.aM (di J)),(5,.int .i64 aC)]):=by
  refine cZ λ_ eL aC h=>cX bR λ_ dM cv aU=>ax cv λ_ cG _ bB=>aj ?_;refine aD h (λb1 h=>?_) λb1 h=>?_
  .refine aK (cG _ (inl (ax cv λ_ cE b9 _=>bg b9 λ_ b2 cN _ _=>?_)));obtain⟨R,dm,h⟩:=an h;rcases dO h with⟨fi,h⟩|⟨fi,h⟩
   .obtain⟨ae,dU,h⟩:=an h;refine kC rfl (jr [(0,.ag 4 (a0.map di)),(3,.aM (di J)),(5,.int .i64 aC),(27,.bool ae)] (λP bc=>?_) ?_)
    ·(try simp only[dA.down,simprocAttr,dm,ca dm,fi]);refine nI (ZR R.Next J.Next _ dU) rfl rfl (by simp only[dA.down,simprocAttr,dm,ca dm,fi,Zn.down]<;>rfl) rfl (inr (by rfl)) ?_;simp only[dA.down,simprocAttr,dm,ca dm,fi];refine⟨iA (by kernel_rfl),?_⟩;exact bU (U dm (U (ca dm) fi))
    refine aD h (λff h=>?_) λff h=>?_
    .refine aj ?_;exact gr (cN _ (inl (hs [.ag 4 (a0.map di)] rfl (by cases eE h;rfl) (by decide) (hH (dy (dy (hI)))))))
    .refine aK (b2 _ (cE _ (inl (dr ?_))));exact dM _ (inr ⟨_,bE rfl,eL (i64.wrap (aC+1)) h⟩)
   .refine pJ (U dm (U (ca dm) fi)) _ ?_;refine ot rfl ?_;refine aK (b2 _ (cE _ (inl (dr ?_))));exact dM _ (inr ⟨_,bE rfl,eL (i64.wrap (aC+1)) h⟩)
  .refine cS (bB 0 _ (aU 0 _ (bw _ (bF _ (inl ?_)))));obtain⟨Si,gp,h⟩:=an h;(try simp only[fM.down,Nat.zero_add,Nat.add_zero,reduceAdd]at gp);refine c7 (U (show∀s,eh ah s 130 1 [(0,.agg [.str J.Label,.agg [.int .i64 J.Next.cJ,.int .i64 J.Next.Part,.slice (J.Next.b5.map bb)]])]=some (.ag 4 [.agg [.str J.Label,.agg [.int .i64 J.Next.cJ,.int .i64 J.Next.Part,.slice (J.Next.b5.map bb)]]],s)from λs=>by kernel_rfl) (U (@kD ah 130 130 135 rfl rfl) (U @kE (U @kF (U @gQ (U @all_cons (U @all_nil (U gp (@j6 _ di 4 λ_=>rfl))))))))) [(4,.ag 4 ((a0++[J]).map di))] ?_;exact gr (ak _ (inl (hs [.ag 4 ((a0++[J]).map di)] rfl (by cases eE h;rfl) (by decide) (hH (dy (dy (hI)))))))
 exact dn h λn h=>e4 n 0 h
theorem aoP (mu:azK->Int->Int->azs->azQ->Option azQ) (LM:∀a0 J a2 a3 a4 r,mu a0 J a2 a3 a4=some r->aZ ah 109 [.slice (a0.map bk),.int .i64 J,.int .i64 a2,.slice (a3.map bb),.ag 4 (a4.map di)] (.ag 4 (r.map di)) [.hole,.hole,.hole,.hole,.hole]) (a0 J a2 a3 a4 r) (h:yk mu a0 J a2 a3 a4=some r):aZ ah 109 [.slice (a0.map bk),.int .i64 J,.int .i64 a2,.slice (a3.map bb),.ag 4 (a4.map di)] (.ag 4 (r.map di)) [.hole,.hole,.hole,.hole,.hole]:=by
 refine bx [0,1,2,3] [.tmp 10] Tryz.func109 c109 λbt ak bs=>aj ?_;obtain⟨R,aS,h⟩:=an h;refine c7 aS _ ?_;obtain⟨ae,cF,h⟩:=an h;refine c7 cF _ ?_;refine ax ak λ_ cG cU bB=>aj ?_;refine aD h (λb1 h=>?_) λb1 h=>?_
 .refine aj ?_;exact gr (cU _ (inl (hs [.ag 4 (a4.map di)] rfl (by cases eE h;rfl) (by decide) (hH (dy (dy (dy (dy (dy (hI))))))))))
 .refine aK (cG _ (inl ?_));have Ax:∀Ct,zV mu a0 J a2 a3 Ct=some r->bm ah YO bt (ar [(0,.slice (a0.map bk)),(1,.int .i64 J),(2,.int .i64 a2),(3,.slice (a3.map bb)),(4,.ag 4 (Ct.map di))]):=by
   intro Ct h;refine aj ?_;exact gr (ak _ (inl (hs [.ag 4 (Ct.map di)] rfl (by cases eE h;rfl) (by decide) (hH (dy (dy (dy (dy (dy (hI))))))))))
  refine ax ak λ_ b2 cN dN=>aj ?_;refine bg cN λSu fL fJ _ mK=>aj ?_;refine aD h (λff h=>?_) λff h=>?_
  .obtain⟨az,dP,h⟩:=an h;refine eU (U (@ng ah 71 [(2,0),(2,1),(69,2)] [(.int .i64 0),(.int .i64 0),.bf] rfl rfl (by kernel_rfl)) (U @lY (U @lZ (U @cW (U @gQ (U @List.nil_append.{0} @List.cons_append.{0})))))) (LL a3 _ dP) _ ?_;have ZS:∀zW zX zY,Gm mu a3 a4 ae zW zX zY=some r->bm ah YM Su (ar [(3,.slice (a3.map bb)),(4,.ag 4 (a4.map di)),(12,.aM (eH ae)),(13,.aM (.agg [.int .i64 zW,.int .i64 zX,.ag 1 (zY.map bb)]))]):=by
    intro zW zX zY h;obtain⟨aY,gp,h⟩:=an h;obtain⟨aU,gT,h⟩:=an h;obtain⟨bB,fl,h⟩:=an h;refine kC rfl (jr [(10,.ag 4 (bB.map di))] (λP bc=>?_) ?_)
    ·(try simp only[dA.down,simprocAttr,Lu.down,dZ,dB,I.shares]);refine iz (ZL ae.ck a3 _ gp) (hK:= ?_);simp only[dA.down,simprocAttr,Lu.down,dZ,dB,I.shares];refine iz (ZP ae.Name aY _ gT) rfl rfl (by simp only[dA.down,simprocAttr, @ng ah 135 [(9,0),(71,1)] [(.str []),(.agg [(.int .i64 0),(.int .i64 0),.bf])] rfl rfl (by kernel_rfl),dZ,lY,dB,lZ,cW,gQ,List.nil_append,List.cons_append,ow,ov,I.shares,cV,ou, @b4 _ bb bb (λ_=>ko _),ht,hv,hx,cV, @b4 _ bb bb (λ_=>ko _)]<;>rfl) rfl (inr (by rfl)) ?_;simp only[dA.down,simprocAttr,Lu.down,dZ,dB,I.shares];refine OA [⟨.h 4 [],true,_,.hole⟩,⟨.agg [.str aU,.agg [.int .i64 zW,.int .i64 zX,.slice (zY.map bb)]],false,_,.hole⟩] (aoO a4 (bl.mk aU (ba.mk zW zX zY)) _ fl) rfl rfl rfl (by simp only[dA.down,simprocAttr, @ng ah 135 [(9,0),(71,1)] [(.str []),(.agg [(.int .i64 0),(.int .i64 0),.bf])] rfl rfl (by kernel_rfl),dZ,lY,dB,lZ,cW,gQ,List.nil_append,List.cons_append,ow,ov,I.shares,cV,ou, @b4 _ bb bb (λ_=>ko _),mo,la,kG,ht,hv,hx,cV,or_true,true_or, @b4 _ di di (λ_=>DF _)]) rfl rfl (inl rfl) ?_;simp only[dA.down,simprocAttr, @ng ah 135 [(9,0),(71,1)] [(.str []),(.agg [(.int .i64 0),(.int .i64 0),.bf])] rfl rfl (by kernel_rfl),dZ,lY,dB,lZ,cW,gQ,List.nil_append,List.cons_append,ow,ov,I.shares,cV,ou, @b4 _ bb bb (λ_=>ko _),kl];refine⟨iA (by kernel_rfl),?_⟩;exact bU Lu.down
    exact gr (fJ _ (inl (hs [.ag 4 (bB.map di)] rfl (by cases eE h;rfl) (by decide) (hH (dy (dy (dy (dy (dy (hI))))))))))
   refine ax fJ λ_ r9 _ _=>?_;obtain⟨bu,lP,h⟩:=an h;refine c7 lP _ ?_;refine aD h (λpO h=>?_) λpO h=>?_
   .obtain⟨cy,pL,h⟩:=an h;refine Zl (U lP (U (@ng ah 71 [(2,0),(2,1),(69,2)] [(.int .i64 0),(.int .i64 0),.bf] rfl rfl (by kernel_rfl)) (U @lY (U @lZ (U @cW (U @gQ (U @List.nil_append.{0} @List.cons_append.{0}))))))) (ZL bu.ck a3 _ pL) _ ?_;exact r9 _ (inr ⟨_,bE rfl,ZS bu.Number 0 cy h⟩)
   .exact aK (r9 _ (inr ⟨_,bE rfl,ZS J (i64.wrap (a2+1)) az h⟩))
  .refine aj ?_;refine aD h (λik h=>?_) λik h=>?_
   .obtain⟨dE,Sv,h⟩:=an h;refine dh (b7 [(0,.slice (a0.map bk)),(1,.int .i64 J),(2,.int .i64 a2),(3,.slice (a3.map bb)),(4,.ag 4 (dE.map di)),(11,.slice (R.Body.map eH))] (λP bc=>?_) ?_)
    ·(try simp only[aE.down,simprocAttr]);refine k1 [⟨.slice (a0.map bk),false,_,.hole⟩,⟨.int .i64 J,false,_,.hole⟩,⟨.int .i64 (i64.wrap (a2+1)),false,_,.hole⟩,⟨.slice (a3.map bb),false,_,.hole⟩,⟨.h 4 [],true,_,.hole⟩] (LM a0 J (i64.wrap (a2+1)) a3 a4 _ Sv) rfl rfl rfl (by simp only[aE.down,simprocAttr,RJ.down]) rfl rfl (inl rfl) ?_;simp only[aE.down,simprocAttr,kl];exact bU trivial
    obtain⟨dN,o7,h⟩:=an h;obtain⟨fa,jI,h⟩:=an h;refine dh (b7 [(10,.ag 4 (fa.map di))] (λP bc=>?_) ?_)
    ·(try simp only[aE.down,simprocAttr]);refine dq (ZD R.Body (i64.wrap (a2+1)) _ o7) (hK:= ?_);simp only[aE.down,simprocAttr];refine k1 [⟨.slice (a0.map bk),false,_,.hole⟩,⟨.int .i64 J,false,_,.hole⟩,⟨.int .i64 dN,false,_,.hole⟩,⟨.slice (a3.map bb),false,_,.hole⟩,⟨.h 4 [],true,_,.hole⟩] (LM a0 J dN a3 dE _ jI) rfl rfl rfl (by simp only[aE.down,simprocAttr,RJ.down]) rfl rfl (inl rfl) ?_;simp only[aE.down,simprocAttr,kl];exact bU trivial
    exact gr (fJ _ (inl (hs [.ag 4 (fa.map di)] rfl (by cases eE h;rfl) (by decide) (hH (dy (dy (dy (dy (dy (hI))))))))))
   .refine aj ?_;refine aD h (λo8 h=>?_) λo8 h=>?_
    .obtain⟨kH,tD,h⟩:=an h;obtain⟨mK,wZ,h⟩:=an h;refine eU tD (ZK kH a3 _ wZ) _ ?_;refine aD h (λHH h=>?_) λHH h=>?_
     .obtain⟨je,LK,h⟩:=an h;refine dh (b7 [(10,.ag 4 (je.map di))] (λP bc=>?_) ?_)
      ·(try simp only[aE.down,simprocAttr]);refine k1 [⟨.slice (a0.map bk),false,_,.hole⟩,⟨.int .i64 J,false,_,.hole⟩,⟨.int .i64 (i64.wrap (a2+1)),false,_,.hole⟩,⟨.slice (a3.map bb),false,_,.hole⟩,⟨.h 4 [],true,_,.hole⟩] (LM a0 J (i64.wrap (a2+1)) a3 a4 _ LK) rfl rfl rfl (by simp only[aE.down,simprocAttr,RJ.down]) rfl rfl (inl rfl) ?_;simp only[aE.down,simprocAttr,kl];exact bU trivial
      exact gr (fJ _ (inl (hs [.ag 4 (je.map di)] rfl (by cases eE h;rfl) (by decide) (hH (dy (dy (dy (dy (dy (hI))))))))))
     .exact aK (fL _ (b2 _ (inr ⟨_,bE rfl,Ax a4 h⟩)))
    .refine aj ?_;refine aD h (λwR h=>?_) λwR h=>?_
     .refine aj ?_;refine bg fJ λaoQ _ wU yE _=>?_;have HA:∀n uN lh,Cu mu a0 J a2 a3 ae n uN lh=some r->cL ah YN aoQ (ar [(0,.slice (a0.map bk)),(1,.int .i64 J),(2,.int .i64 a2),(3,.slice (a3.map bb)),(4,.ag 4 (uN.map di)),(12,.aM (eH ae)),(14,.int .i64 lh)]):=by
       refine cZ λ_ HB uN lh h=>cX wU λ_ qk r7 aoR=>ax r7 λ_ Sw _ aoS=>aj ?_;refine aD h (λqn h=>?_) λqn h=>?_
       .refine aK (Sw _ (inl (ax r7 λ_ Sy LN _=>bg LN λ_ Sz _ _ _=>?_)));obtain⟨hB,w1,h⟩:=an h;obtain⟨ay5,oN,h⟩:=an h;(try simp only[fM.down,Nat.zero_add,Nat.add_zero,reduceAdd]at oN);obtain⟨ju,HJ,h⟩:=an h;refine iy (b7 [(0,.slice (a0.map bk)),(1,.int .i64 J),(2,.int .i64 a2),(3,.slice (a3.map bb)),(4,.ag 4 (ju.map di)),(12,.aM (eH ae)),(14,.int .i64 lh)] (λP bc=>?_) ?_)
        ·(try simp only[aE.down,simprocAttr,(show∀s,eh ah s 69 1 [(0,.int .i64 lh)]=some (.ag 1 [.int .i64 lh],s)from λs=>by kernel_rfl),DG.down,oN,I.shares]);refine dq (LL a3 _ w1) (hK:= ?_);simp only[aE.down,simprocAttr,(show∀s,eh ah s 69 1 [(0,.int .i64 lh)]=some (.ag 1 [.int .i64 lh],s)from λs=>by kernel_rfl),DG.down,oN,I.shares];refine k1 [⟨.slice (a0.map bk),false,_,.hole⟩,⟨.int .i64 J,false,_,.hole⟩,⟨.int .i64 (i64.wrap (a2+1)),false,_,.hole⟩,⟨.slice ((hB++[lh]).map bb),false,_,.hole⟩,⟨.h 4 [],true,_,.hole⟩] (LM a0 J (i64.wrap (a2+1)) (hB++[lh]) uN _ HJ) rfl rfl (by simp only[aE.down,simprocAttr,(show∀s,eh ah s 69 1 [(0,.int .i64 lh)]=some (.ag 1 [.int .i64 lh],s)from λs=>by kernel_rfl),Zo.down,oN,I.shares]) (by simp only[aE.down,simprocAttr,(show∀s,eh ah s 69 1 [(0,.int .i64 lh)]=some (.ag 1 [.int .i64 lh],s)from λs=>by kernel_rfl), @kD ah 69 69 2 rfl rfl,kE,kF,gQ,all_cons,all_nil,oN, @j6 _ bb 1 (λ_=>rfl),ow,ov,I.shares,cV,ou, @b4 _ bb bb (λ_=>ko _),mo,la,kG,ht,hv,hx,cV,or_true,true_or, @b4 _ di di (λ_=>DF _)]) rfl rfl (inl rfl) ?_;simp only[aE.down,simprocAttr,(show∀s,eh ah s 69 1 [(0,.int .i64 lh)]=some (.ag 1 [.int .i64 lh],s)from λs=>by kernel_rfl),Zp.down,oN,I.shares];exact bU (U (show∀s,eh ah s 69 1 [(0,.int .i64 lh)]=some (.ag 1 [.int .i64 lh],s)from λs=>by kernel_rfl) (U DG.down oN))
        refine Sz _ (Sy _ (inl (dr ?_)));exact qk _ (inr ⟨_,bE rfl,HB ju (i64.wrap (lh+1)) h⟩)
       .exact cS (aoS 1 _ (aoR 1 _ (yE _ (fL _ (b2 _ (inr ⟨_,bE rfl,Ax uN h⟩))))))
      exact dn h λn h=>HA n a4 0 h
     .exact aK (fL _ (b2 _ (inr ⟨_,bE rfl,Ax a4 h⟩)))
theorem aoT:∀n a0 J a2 a3 a4 r,rE n a0 J a2 a3 a4=some r->aZ ah 109 [.slice (a0.map bk),.int .i64 J,.int .i64 a2,.slice (a3.map bb),.ag 4 (a4.map di)] (.ag 4 (r.map di)) [.hole,.hole,.hole,.hole,.hole]:=by
 intro n;induction n with
 |zero=>intro a0 J a2 a3 a4 r h;cases(show none=some r from h)
 |succ n ih=>intro a0 J a2 a3 a4 r h;exact aoP (rE n) ih a0 J a2 a3 a4 r h
theorem aoU (a0 J a2 a3 a4 r) (h:J8 a0 J a2 a3 a4=some r):aZ ah 109 [.slice (a0.map bk),.int .i64 J,.int .i64 a2,.slice (a3.map bb),.ag 4 (a4.map di)] (.ag 4 (r.map di)) [.hole,.hole,.hole,.hole,.hole]:=by
 obtain⟨n,h⟩:=l_ h;exact aoT n a0 J a2 a3 a4 r h
theorem ZT (a0 J r) (h:uO a0 J=some r):aZ ah 77 [.slice (a0.map bk),.ref (bD J)] (.tuple [.ag 4 (r.1.map di),.bool r.2]) []:=by
 refine bx [0,1] [.tmp 4,.tmp 5] Tryz.func77 akE λbt ak bs=>aj ?_;obtain⟨R,aS,h⟩:=an h;refine kC rfl (jr [(6,.ag 4 (R.map di))] (λP bc=>?_) ?_)
 ·(try simp only[dA.down,simprocAttr,(show∀s,eh ah s 130 0 []=some (.ag 4 [],s)from λs=>by kernel_rfl)]);refine OA [⟨.slice (a0.map bk),false,_,.hole⟩,⟨.int .i64 J.cJ,false,_,.hole⟩,⟨.int .i64 J.Part,false,_,.hole⟩,⟨.slice (J.b5.map bb),false,_,.hole⟩,⟨.h 20 [],true,_,.hole⟩] (aoU a0 J.cJ J.Part J.b5 [] _ aS) rfl rfl rfl (by simp only[dA.down,simprocAttr,(show∀s,eh ah s 130 0 []=some (.ag 4 [],s)from λs=>by kernel_rfl),mo,la,kG,ht,hv,hx,cV,or_true,true_or, @b4 _ di di (λ_=>DF _)]) rfl rfl (inl rfl) ?_;simp only[dA.down,simprocAttr,(show∀s,eh ah s 130 0 []=some (.ag 4 [],s)from λs=>by kernel_rfl),kl];refine⟨iA (by kernel_rfl),?_⟩;exact bU (show∀s,eh ah s 130 0 []=some (.ag 4 [],s)from λs=>by kernel_rfl)
 exact aN ak [.ag 4 (R.map di),.bool (decide ((R.length:Int)<=200))]
theorem LO (a0 r) (h:ta a0=some r):aZ ah 79 [.str a0] (.str r) []:=by
 refine bx [0] [.tmp 2] Tryz.func79 akF λbt ak bs=>aj ?_;obtain⟨R,aS,h⟩:=an h;obtain⟨ae,cf,h⟩:=an h;refine eU cf (ZI a0 _ aS) _ ?_;exact cM ak [.str ae]
theorem SA (a0 J r) (h:Cw a0 J=some r):aZ ah 78 [.slice (a0.map aV),.str J] (.int .i64 r) []:=by
 refine bx [0,1] [.tmp 4] Tryz.func78 akG λbt ak bs=>aj ?_;refine ax ak λ_ bF bd _=>aj ?_;refine bg bd λeP _ bR bw _=>?_;show bm ah (.loop ?eN) _ _;have e4:∀n aC,Cv a0 J n aC=some r->cL ah ?eN eP (ar [(0,.slice (a0.map aV)),(1,.str J),(5,.int .i64 aC)]):=by
  refine cZ λ_ eL aC h=>cX bR λ_ dM cv aU=>ax cv λ_ cG _ bB=>aj ?_;refine aD h (λb1 h=>?_) λb1 h=>?_
  .refine aK (cG _ (inl (ax cv λ_ cE b9 _=>bg b9 λ_ b2 cN _ _=>?_)));obtain⟨R,dm,h⟩:=an h;refine c7 dm _ ?_;refine aD h (λfi h=>?_) λfi h=>?_
   .exact aN cN [.int .i64 aC]
   .refine aK (b2 _ (cE _ (inl (dr ?_))));exact dM _ (inr ⟨_,bE rfl,eL (i64.wrap (aC+1)) h⟩)
  .exact cS (bB 0 _ (aU 0 _ (bw _ (bF _ (inl (aN ak [.int .i64 (-1)]))))))
 exact dn h λn h=>e4 n 0 h
theorem DN (a0 r) (h:wq a0=some r):aZ ah 80 [.slice (a0.map bD)] (.ag 3 (r.map dT)) []:=by
 refine bx [0] [.tmp 2] Tryz.func80 c80 λbt ak bs=>aj ?_;refine c7 (show∀s,eh ah s 31 0 []=some (.ag 3 [],s)from λs=>by kernel_rfl) _ ?_;refine ax ak λ_ eZ c_ _=>aj ?_;refine bg c_ λoL _ cv dR _=>?_;show bm ah (.loop ?hd) _ _;have hL:∀n bP bL,Cx a0 n bP bL=some r->cL ah ?hd oL (ar [(0,.slice (a0.map bD)),(3,.ag 3 (bP.map dT)),(4,.int .i64 bL)]):=by
  refine cZ λ_ hM bP bL h=>cX cv λ_ cG cU bB=>ax cU λ_ dw _ bu=>aj ?_;refine aD h (λe8 h=>?_) λe8 h=>?_
  .refine aK (dw _ (inl (ax cU λ_ b2 cN _=>bg cN λ_ ez _ _ _=>?_)));obtain⟨R,ed,h⟩:=an h;obtain⟨ae,dU,h⟩:=an h;obtain⟨u16,d_,h⟩:=an h;(try simp only[fM.down,Nat.zero_add,Nat.add_zero,reduceAdd]at d_);refine Ft rfl (jr [(0,.slice (a0.map bD)),(3,.ag 3 ((bP++[(ba.mk R.cJ R.Part ae)]).map dT)),(4,.int .i64 bL)] (λP bc=>?_) ?_)
   ·(try simp only[dA.down,simprocAttr,ed,wO.down,dZ,dB,lX,d_]);refine iz (LL R.b5 _ dU) (hK:= ?_);simp only[dA.down,simprocAttr,ed,wO.down,dZ,dB,lX,d_];refine⟨iA (by kernel_rfl),?_⟩;(try simp only[jg.down,simprocAttr,ed,wO.down,dZ,dB,lX,d_]at bc⊢);exact bc
   refine ez _ (b2 _ (inl (wr [(0,.slice (a0.map bD)),(3,.ag 3 ((bP++[(ba.mk R.cJ R.Part ae)]).map dT)),(4,.int .i64 (i64.wrap (bL+1)))] ?_)));exact cG _ (inr ⟨_,bE rfl,hM (bP++[(ba.mk R.cJ R.Part ae)]) (i64.wrap (bL+1)) h⟩)
  .exact cS (bu 0 _ (bB 0 _ (dR _ (eZ _ (inl (aN ak [.ag 3 (bP.map dT)]))))))
 exact dn h λn h=>hL n [] 0 h
theorem SB (a0 J r) (h:Cy a0 J=some r):aZ ah 82 [.ref (fD a0),.str J] (.str r) []:=by
 refine bx [0,1] [.tmp 4] Tryz.func82 akH λbt ak bs=>aj ?_;refine ax ak λ_ bF bd ae=>?_;obtain⟨R,cf,h⟩:=an h;obtain⟨ae,cF,h⟩:=an h;refine kC rfl (jr [(1,.str J),(12,.bool (decide (0<=ae)))] (λP bc=>?_) ?_)
 ·(try simp only[dA.down,simprocAttr]);refine iz (LO J _ cf) (hK:= ?_);simp only[dA.down,simprocAttr];refine iz (SA a0.cA R _ cF) (hK:= ?_);simp only[dA.down,simprocAttr];refine⟨iA (by kernel_rfl),?_⟩;exact bU trivial
 refine aD h (λcP h=>?_) λcP h=>?_
 .exact aN bd [.str ([116,97,117]:azq)]
 .exact aK (bF _ (inl (aN ak [.str J])))
theorem aoV (a0 J r) (h:J9 a0 J=some r):aZ ah 111 [.slice (a0.map bD),.slice (J.map bD)] (.bool r) []:=by
 refine bx [0,1] [.tmp 4] Tryz.func111 akI λbt ak bs=>aj ?_;refine ax ak λ_ bF bd ae=>aj ?_;refine aD h (λbw h=>?_) λbw h=>?_
 .exact aN bd [.bool false]
 .refine aK (bF _ (inl (ax ak λ_ cG cU _=>aj ?_)));refine bg cU λiN _ h0 b1 _=>?_;show bm ah (.loop ?gS) _ _;have gV:∀n cr,Cz a0 J n cr=some r->cL ah ?gS iN (ar [(0,.slice (a0.map bD)),(1,.slice (J.map bD)),(5,.int .i64 cr)]):=by
   refine cZ λ_ gE cr h=>cX h0 λ_ cE b9 dE=>ax b9 λ_ b2 _ dN=>aj ?_;refine aD h (λfk h=>?_) λfk h=>?_
   .refine aK (b2 _ (inl (ax b9 λ_ fL fJ _=>bg fJ λ_ eO et _ _=>?_)));obtain⟨R,cB,h⟩:=an h;obtain⟨ae,dP,h⟩:=an h;obtain⟨az,eG,h⟩:=an h;refine oJ (U cB dP) (ZR R ae _ eG) _ ?_;refine aD h (λhb h=>?_) λhb h=>?_
    .exact aN et [.bool false]
    .refine aK (eO _ (fL _ (inl (dr ?_))));exact cE _ (inr ⟨_,bE rfl,gE (i64.wrap (cr+1)) h⟩)
   .exact cS (dN 0 _ (dE 0 _ (b1 _ (cG _ (inl (aN ak [.bool true]))))))
  exact dn h λn h=>gV n 0 h
theorem SC (a0 J r) (h:zZ a0 J=some r):aZ ah 81 [.ag 4 (a0.map gD),gD J] (.ag 4 (r.map gD)) [.hole,.hole]:=by
 refine bx [0,1] [.tmp 4] Tryz.func81 akJ λbt ak bs=>aj ?_;refine ax ak λ_ bF bd ae=>aj ?_;refine bg bd λeP _ bR bw _=>?_;show bm ah (.loop ?eN) _ _;have e4:∀n aC,CA a0 J n aC=some r->cL ah ?eN eP (ar [(0,.ag 4 (a0.map gD)),(3,.aM (gD J)),(5,.int .i64 aC)]):=by
  refine cZ λ_ eL aC h=>cX bR λ_ dM cv aU=>ax cv λ_ cG _ bB=>aj ?_;refine aD h (λb1 h=>?_) λb1 h=>?_
  .refine aK (cG _ (inl (ax cv λ_ cE b9 _=>bg b9 λ_ b2 cN _ _=>?_)));obtain⟨R,dm,h⟩:=an h;refine c7 (U dm (ca dm)) _ ?_;rcases dO h with⟨iM,h⟩|⟨iM,h⟩
   .rcases dO h with⟨ff,h⟩|⟨ff,h⟩
    .rcases dO h with⟨mR,h⟩|⟨mR,h⟩
     .obtain⟨ae,dP,h⟩:=an h;refine eU (U iM (U ff mR)) (aoV R.State J.State _ dP) _ ?_;refine aD h (λij h=>?_) λij h=>?_
      .refine aj ?_;exact gr (cN _ (inl (hs [.ag 4 (a0.map gD)] rfl (by cases eE h;rfl) (by decide) (hH (dy (dy (hI)))))))
      .refine aK (b2 _ (cE _ (inl (dr ?_))));exact dM _ (inr ⟨_,bE rfl,eL (i64.wrap (aC+1)) h⟩)
     .refine c7 (U iM (U ff mR)) _ ?_;refine ot rfl ?_;refine aK (b2 _ (cE _ (inl (dr ?_))));exact dM _ (inr ⟨_,bE rfl,eL (i64.wrap (aC+1)) h⟩)
    .refine c7 (U iM ff) _ ?_;refine ot rfl ?_;refine aK (b2 _ (cE _ (inl (dr ?_))));exact dM _ (inr ⟨_,bE rfl,eL (i64.wrap (aC+1)) h⟩)
   .refine c7 iM _ ?_;refine ot rfl ?_;refine aK (b2 _ (cE _ (inl (dr ?_))));exact dM _ (inr ⟨_,bE rfl,eL (i64.wrap (aC+1)) h⟩)
  .refine cS (bB 0 _ (aU 0 _ (bw _ (bF _ (inl ?_)))));obtain⟨aoN,iX,h⟩:=an h;(try simp only[fM.down,Nat.zero_add,Nat.add_zero,reduceAdd]at iX);refine c7 (U (show∀s,eh ah s 96 1 [(0,.agg [.str J.Label,.int .i64 J.ef,.int .i64 J.Second,.slice (J.State.map bD)])]=some (.ag 4 [.agg [.str J.Label,.int .i64 J.ef,.int .i64 J.Second,.slice (J.State.map bD)]],s)from λs=>by kernel_rfl) (U (@kD ah 96 96 100 rfl rfl) (U @kE (U @kF (U @gQ (U @all_cons (U @all_nil (U iX (@j6 _ gD 4 λ_=>rfl))))))))) [(4,.ag 4 ((a0++[J]).map gD))] ?_;exact gr (ak _ (inl (hs [.ag 4 ((a0++[J]).map gD)] rfl (by cases eE h;rfl) (by decide) (hH (dy (dy (hI)))))))
 exact dn h λn h=>e4 n 0 h
theorem aoW (uP:azM->azq->azq->Option azq) (aoX:∀a0 J a2 r,uP a0 J a2=some r->aZ ah 113 [.slice (a0.map bJ),.str J,.str a2] (.str r) []) (a0 J a2 r) (h:z1 uP a0 J a2=some r):aZ ah 113 [.slice (a0.map bJ),.str J,.str a2] (.str r) []:=by
 refine bx [0,1,2] [.tmp 6] Tryz.func113 akK λbt ak bs=>aj ?_;refine ax ak λ_ bF bd ae=>aj ?_;refine aD h (λbw h=>?_) λbw h=>?_
 .obtain⟨R,cw,h⟩:=an h;refine cR (aoX a0 a2 J _ cw) _ ?_;exact cM bd [.str R]
 .refine aK (bF _ (inl (ax ak λ_ dw ev _=>aj ?_)));refine bg ev λkd _ b9 e8 _=>?_;show bm ah (.loop ?gS) _ _;have gV:∀n tb,CB uP a0 J a2 n tb=some r->cL ah ?gS kd (ar [(0,.slice (a0.map bJ)),(1,.str J),(2,.str a2),(7,.int .i64 tb)]):=by
   refine cZ λ_ gE tb h=>cX b9 λ_ b2 cN dN=>ax cN λ_ ez _ fa=>aj ?_;refine aD h (λfi h=>?_) λfi h=>?_
   .refine aK (ez _ (inl (ax cN λ_ eO et _=>bg et λ_ gb gJ _ _=>?_)));obtain⟨ae,dP,h⟩:=an h;refine Lt (ae.Left==J) dP [(0,.slice (a0.map bJ)),(1,.str J),(2,.str a2),(7,.int .i64 tb),(36,.bool ((ae.Left==J)&&(ae.cH==a2)))] ?_;refine aD h (λij h=>?_) λij h=>?_
    .refine c7 dP _ ?_;exact cM gJ [.str ae.Result]
    .refine aK (gb _ (eO _ (inl (dr ?_))));exact b2 _ (inr ⟨_,bE rfl,gE (i64.wrap (tb+1)) h⟩)
   .exact cS (fa 0 _ (dN 0 _ (e8 _ (dw _ (inl (aN ak [.str ([]:azq)]))))))
  exact dn h λn h=>gV n 0 h
theorem aoY:∀n a0 J a2 r,CC n a0 J a2=some r->aZ ah 113 [.slice (a0.map bJ),.str J,.str a2] (.str r) []:=by
 intro n;induction n with
 |zero=>intro a0 J a2 r h;cases(show none=some r from h)
 |succ n ih=>intro a0 J a2 r h;exact aoW (CC n) ih a0 J a2 r h
theorem aoZ (a0 J a2 r) (h:Gn a0 J a2=some r):aZ ah 113 [.slice (a0.map bJ),.str J,.str a2] (.str r) []:=by
 obtain⟨n,h⟩:=l_ h;exact aoY n a0 J a2 r h
theorem ao0 (a0 J a2 r) (h:J_ a0 J a2=some r):aZ ah 83 [.ref (fD a0),.str J,.str a2] (.str r) []:=by
 refine bx [0,1,2] [.tmp 6] Tryz.func83 akL λbt ak bs=>aj ?_;obtain⟨R,aS,h⟩:=an h;refine cR (Sp J _ aS) _ ?_;obtain⟨ae,cF,h⟩:=an h;refine cR (Sp a2 _ cF) _ ?_;refine ax ak λ_ cG cU bB=>?_;obtain⟨az,gk,h⟩:=an h;refine dh (b7 [(0,.ref (fD a0)),(1,.str J),(2,.str a2),(7,.ag 1 (R.1.map bb)),(25,.bool (!az))] (λP bc=>?_) ?_)
 ·(try simp only[aE.down,simprocAttr]);refine dq (ZQ R.1 ae.1 _ gk) rfl rfl (by simp only[aE.down,simprocAttr,Zn.down]<;>rfl) rfl (inr (by rfl)) ?_;simp only[aE.down,simprocAttr];exact bU trivial
 refine aD h (λe8 h=>?_) λe8 h=>?_
 .exact aN cU [.str ([]:azq)]
 .refine aK (cG _ (inl ?_));obtain⟨aY,dm,h⟩:=an h;obtain⟨aU,ed,h⟩:=an h;obtain⟨bB,dU,h⟩:=an h;refine kC rfl (jr [(0,.ref (fD a0)),(7,.ag 1 (R.1.map bb)),(11,.str bB)] (λP bc=>?_) ?_)
  ·(try simp only[dA.down,simprocAttr]);refine iz (LO J _ dm) (hK:= ?_);simp only[dA.down,simprocAttr];refine iz (LO a2 _ ed) (hK:= ?_);simp only[dA.down,simprocAttr];refine iz (aoZ a0.cb aY aU _ dU) (hK:= ?_);simp only[dA.down,simprocAttr];refine⟨iA (by kernel_rfl),?_⟩;exact bU trivial
  refine ax ak λ_ gb gJ _=>?_;rcases dO h with⟨mQ,h⟩|⟨mQ,h⟩
  .refine c7 mQ _ ?_;refine jS rfl ?_;exact aN gJ [.str ([]:azq)]
  .obtain⟨bu,fb,h⟩:=an h;refine eU mQ (SA a0.cD bB _ fb) _ ?_;refine aD h (λgw h=>?_) λgw h=>?_
   .exact aN gJ [.str ([]:azq)]
   .refine aK (gb _ (inl ?_));obtain⟨cy,iD,h⟩:=an h;refine dh (b7 [(6,.str cy)] (λP bc=>?_) ?_)
    ·(try simp only[aE.down,simprocAttr]);refine dq (ZP bB R.1 _ iD) rfl rfl (by simp only[aE.down,simprocAttr,Lv.down]<;>rfl) rfl (inr (by rfl)) ?_;simp only[aE.down,simprocAttr];exact bU trivial
    exact cM ak [.str cy]
theorem ao1 (bn bp bo bH bG J r) (h:Ke bn bp bo bH bG J=some r):aZ ah 52 [.aM (.agg [.slice (bn.map bk),.slice (bp.map db),.slice (bo.map bJ),.slice (bH.map aV),.slice (bG.map aV)]),.slice (J.map bD)] (.tuple [.ag 4 (r.1.map gD),.bool r.2]) [.aM (.agg [.slice (bn.map bk),.slice (bp.map db),.slice (bo.map bJ),.slice (bH.map aV),.slice (bG.map aV)]),.hole]:=by
 refine bx [0,1] [.tmp 4,.tmp 5] Tryz.func52 akQ λbt ak bs=>aj ?_;refine c7 (show∀s,eh ah s 96 0 []=some (.ag 4 [],s)from λs=>by kernel_rfl) _ ?_;refine c7 (show∀s,eh ah s 129 0 []=some (.ag 1 [],s)from λs=>by kernel_rfl) _ ?_;refine ax ak λ_ fj bR aY=>aj ?_;refine bg bR λjh _ cU cP bB=>?_;have AK:∀n gn qc,wy J bn bp bo bH bG n gn qc=some r->cL ah YP jh (ar [(0,.aM (.agg [.slice (bn.map bk),.slice (bp.map db),.slice (bo.map bJ),.slice (bH.map aV),.slice (bG.map aV)])),(1,.slice (J.map bD)),(6,.ag 4 []),(7,.ag 1 (gn.map gu)),(8,.int .i64 qc)]):=by
  refine cZ λ_ AL gn qc h=>cX cU λ_ dw ev bu=>ax ev λ_ ig _ cy=>aj ?_;refine aD h (λe3 h=>?_) λe3 h=>?_
  .refine aK (ig _ (inl (ax ev λ_ ez hN fa=>bg hN λ_ gU ke _ kH=>?_)));obtain⟨R,dU,h⟩:=an h;obtain⟨ae,d_,h⟩:=an h;refine ah2 10 11 [0,1,2,3,4,5,6,7,8,9,11,10,12] rfl rfl [(0,.aM (.agg [.slice (bn.map bk),.slice (bp.map db),.slice (bo.map bJ),.slice (bH.map aV),.slice (bG.map aV)])),(1,.slice (J.map bD)),(6,.ag 4 []),(7,.ag 1 (gn.map gu)),(8,.int .i64 qc),(9,.ag 4 (ae.1.map di)),(10,.bool ae.2)] (λP bc=>?_) (λP bc=>?_) ?_
   ·(try simp only[dA.down,simprocAttr,dU,BX]);refine iz (ZT bn R _ d_) (hK:= ?_);simp only[dA.down,simprocAttr,dU,BX];refine⟨iA (by kernel_rfl),?_⟩;exact bU (U dU @BX)
   .simp only[v8,List.map_cons,List.map_nil,List.getD_cons_zero,List.getD_cons_succ,simprocAttr];(try simp only[dA.down,simprocAttr,dU,BX]);refine iz (ZT bn R _ d_) (hK:= ?_);simp only[dA.down,simprocAttr,dU,BX];refine⟨iA (by kernel_rfl),?_⟩;exact bU (U dU @BX)
   refine ax ke λ_ lO n6 ju=>aj ?_;refine aD h (λij h=>?_) λij h=>?_
   .refine aj ?_;exact gr (n6 _ (inr ⟨[(4,.ag 4 []),(5,.bool false),(0,.aM (.agg [.slice (bn.map bk),.slice (bp.map db),.slice (bo.map bJ),.slice (bH.map aV),.slice (bG.map aV)]))],hf [] rfl (ha (t:=4) (d:=.bf) rfl rfl (.ix _) (by decide) (cz rfl (cz rfl (hh)))),hs [.ag 4 [],.bool false] rfl (by cases eE h;rfl) (by decide) (hH (js (by cases eE h;rfl) rfl rfl rfl (dy (hI))))⟩))
   .refine aK (lO _ (inr ⟨[(0,.aM (.agg [.slice (bn.map bk),.slice (bp.map db),.slice (bo.map bJ),.slice (bH.map aV),.slice (bG.map aV)])),(1,.slice (J.map bD)),(6,.ag 4 []),(7,.ag 1 (gn.map gu)),(8,.int .i64 qc),(9,.slice (ae.1.map di)),(41,.bool (!ae.2))],hf [] rfl (cz rfl (cz rfl (cz rfl (cz rfl (cz rfl (ha (t:=9) (d:=.ag 4 (ae.1.map di)) (bT:=.slice (ae.1.map di)) rfl rfl (x6 rfl rfl (by simp only[cV,I.share,I.shares, @b4 _ di di (λ_=>DF _)]<;>rfl)) (by decide) (cz rfl (hh)))))))),?_⟩));obtain⟨ao2,gT,h⟩:=an h;(try simp only[fM.down,Nat.zero_add,Nat.add_zero,reduceAdd]at gT);refine rZ (U (show∀s,eh ah s 129 1 [(0,.slice (ae.1.map di))]=some (.ag 1 [.slice (ae.1.map di)],s)from λs=>by kernel_rfl) (U (@kD ah 129 129 130 rfl rfl) (U @kE (U @kF (U @gQ (U @all_cons (U @all_nil (U gT (@j6 _ gu 1 λ_=>rfl))))))))) [(0,.aM (.agg [.slice (bn.map bk),.slice (bp.map db),.slice (bo.map bJ),.slice (bH.map aV),.slice (bG.map aV)])),(1,.slice (J.map bD)),(6,.ag 4 []),(7,.ag 1 ((gn++[ae.1]).map gu)),(8,.int .i64 qc)] ?_;refine gU _ (ez _ (inl (wr [(0,.aM (.agg [.slice (bn.map bk),.slice (bp.map db),.slice (bo.map bJ),.slice (bH.map aV),.slice (bG.map aV)])),(1,.slice (J.map bD)),(6,.ag 4 []),(7,.ag 1 ((gn++[ae.1]).map gu)),(8,.int .i64 (i64.wrap (qc+1)))] ?_)));exact dw _ (inr ⟨_,bE rfl,AL (gn++[ae.1]) (i64.wrap (qc+1)) h⟩)
  .refine cS (cy 0 _ (bu 0 _ (cP _ (fj _ (inl (ax ak λ_ HD Sm lK=>aj ?_))))));refine bg Sm λR9 _ o6 pO wt=>?_;have ao3:∀n uX uY wx,tf J bn bp bo bH bG n uX uY wx=some r->cL ah YS R9 (ar [(0,.aM (.agg [.slice (bn.map bk),.slice (bp.map db),.slice (bo.map bJ),.slice (bH.map aV),.slice (bG.map aV)])),(1,.slice (J.map bD)),(6,.ag 4 (uX.map gD)),(7,.ag 1 (uY.map gu)),(11,.int .i64 wx)]):=by
    refine cZ λSD ao4 uX uY wx h=>cX o6 λ_ tt tu rF=>ax tu λ_ AE _ uQ=>aj ?_;refine aD h (λik h=>?_) λik h=>?_
    .refine aK (AE _ (inl (ax tu λ_ tw Hw _=>bg Hw λ_ Hx Hy _ _=>aj ?_)));refine bg Hy λao5 _ Ht jJ _=>?_;have Ss:∀n iI ie h6 l1,yl (tf J bn bp bo bH bG SD) J bn bp bo bH bG n iI ie h6 l1=some r->cL ah YR ao5 (ar [(0,.aM (.agg [.slice (bn.map bk),.slice (bp.map db),.slice (bo.map bJ),.slice (bH.map aV),.slice (bG.map aV)])),(1,.slice (J.map bD)),(6,.ag 4 (iI.map gD)),(7,.ag 1 (ie.map gu)),(11,.int .i64 h6),(12,.int .i64 l1)]):=by
      refine cZ λao6 St iI ie h6 l1 h=>cX Ht λao7 Az AA ao8=>ax AA λ_ ao9 _ ao_=>?_;obtain⟨az,tx,h⟩:=an h;refine c7 (U tx (ca tx)) _ ?_;refine aD h (λHu h=>?_) λHu h=>?_
      .refine aK (ao9 _ (inl ?_));have SE:∀CD CE CF CG,Gp (tf J bn bp bo bH bG SD) (yl (tf J bn bp bo bH bG SD) J bn bp bo bH bG ao6) J bn bp bo bH bG CD CE CF CG=some r->bm ah YQ ao7 (ar [(0,.aM (.agg [.slice (bn.map bk),.slice (bp.map db),.slice (bo.map bJ),.slice (bH.map aV),.slice (bG.map aV)])),(1,.slice (J.map bD)),(6,.ag 4 (CD.map gD)),(7,.ag 1 (CE.map gu)),(11,.int .i64 CF),(12,.int .i64 CG)]):=by
        intro CD CE CF CG h;refine dr ?_;exact Az _ (inr ⟨_,bE rfl,St CD CE CF (i64.wrap (CG+1)) h⟩)
       refine ax AA λ_ wT yB _=>bg yB λ_ AM vm tz _=>?_;obtain⟨aY,DL,h⟩:=an h;refine c7 (U tx (U (ca tx) DL)) _ ?_;refine ax vm λ_ yD _ HK=>?_;rcases dO h with⟨yE,h⟩|⟨yE,h⟩
       .obtain⟨aU,AP,h⟩:=an h;obtain⟨bB,SF,h⟩:=an h;refine kC rfl (jr [(0,.aM (.agg [.slice (bn.map bk),.slice (bp.map db),.slice (bo.map bJ),.slice (bH.map aV),.slice (bG.map aV)])),(1,.slice (J.map bD)),(6,.ag 4 (iI.map gD)),(7,.ag 1 (ie.map gu)),(11,.int .i64 h6),(12,.int .i64 l1),(13,.aM (di aY)),(81,.bool (decide (bB<0)))] (λP bc=>?_) ?_)
        ·(try simp only[dA.down,simprocAttr,yE]);refine nI (LO aY.Label _ AP) (hK:= ?_);simp only[dA.down,simprocAttr,yE];refine nI (SA bH aU _ SF) (hK:= ?_);simp only[dA.down,simprocAttr,yE];refine⟨iA (by kernel_rfl),?_⟩;exact bU yE
        refine aD h (λR1 h=>?_) λR1 h=>?_
        .exact cS (HK 5 _ (tz _ (wT _ (inr ⟨_,bE rfl,SE iI ie h6 l1 h⟩))))
        .refine aK (yD _ (inl ?_));obtain⟨bu,w2,h⟩:=an h;refine mq (b7 (K:=eV _) [(0,.aM (.agg [.slice (bn.map bk),.slice (bp.map db),.slice (bo.map bJ),.slice (bH.map aV),.slice (bG.map aV)])),(1,.slice (J.map bD)),(6,.ag 4 (iI.map gD)),(7,.ag 1 (ie.map gu)),(11,.int .i64 h6),(12,.int .i64 l1),(13,.aM (di aY)),(14,.ag 3 (bu.map dT))] (λP bc=>?_) (Jf [(0,.aM (.agg [.slice (bn.map bk),.slice (bp.map db),.slice (bo.map bJ),.slice (bH.map aV),.slice (bG.map aV)])),(1,.slice (J.map bD)),(6,.ag 4 (iI.map gD)),(7,.ag 1 (ie.map gu)),(11,.int .i64 h6),(12,.int .i64 l1),(13,.aM (di aY)),(14,.ag 3 (bu.map bD))] (hf [] rfl (cz rfl (cz rfl (cz rfl (cz rfl (cz rfl (cz rfl (cz rfl (ha (t:=14) (d:=.ag 3 (bu.map dT)) (bT:=.ag 3 (bu.map bD)) rfl rfl (.ag (Jj (λ_=>x6 rfl rfl (pI _)) _)) (by decide) (hh)))))))))) ?_))
         ·(try simp only[aE.down,simprocAttr]);refine dq (DN J _ w2) (hK:= ?_);simp only[aE.down,simprocAttr];exact bU trivial
         obtain⟨cy,DO,h⟩:=an h;refine dh (b7 [(0,.aM (.agg [.slice (bn.map bk),.slice (bp.map db),.slice (bo.map bJ),.slice (bH.map aV),.slice (bG.map aV)])),(1,.slice (J.map bD)),(6,.ag 4 (iI.map gD)),(7,.ag 1 (ie.map gu)),(11,.int .i64 h6),(12,.int .i64 l1),(13,.aM (di aY)),(14,.ag 3 ((List.set bu (Int.toNat h6) aY.Next).map bD))] (λP bc=>?_) ?_)
         .simp only[aE.down,simprocAttr,DO,ca DO,cW,de];exact bU (U DO (U (ca DO) @cW))
         obtain⟨dE,oN,h⟩:=an h;obtain⟨dN,HJ,h⟩:=an h;obtain⟨fa,w3,h⟩:=an h;refine iy (b7 [(0,.aM (.agg [.slice (bn.map bk),.slice (bp.map db),.slice (bo.map bJ),.slice (bH.map aV),.slice (bG.map aV)])),(1,.slice (J.map bD)),(6,.ag 4 (fa.map gD)),(7,.ag 1 (ie.map gu)),(11,.int .i64 h6),(12,.int .i64 l1)] (λP bc=>?_) ?_)
         ·(try simp only[aE.down,simprocAttr,r1.down,dZ,dB,I.shares]);refine dq (SB (cY.mk bn bp bo bH bG) aY.Label _ oN) rfl rfl (by simp only[aE.down,simprocAttr,RK.down,dZ,dB,I.shares]<;>rfl) rfl (inr (by rfl)) ?_;simp only[aE.down,simprocAttr,r1.down,dZ,dB,I.shares];refine dq (DN (List.set bu (Int.toNat h6) aY.Next) _ HJ) rfl rfl (by simp only[aE.down,simprocAttr,RL.down,dZ,dB,I.shares]<;>rfl) rfl (inr (j5 (λ_=>wN _) _)) ?_;simp only[aE.down,simprocAttr,r1.down,dZ,dB,I.shares];refine k1 [⟨.h 6 [],true,_,.hole⟩,⟨.agg [.str dE,.int .i64 h6,.int .i64 (-1),.slice (dN.map bD)],false,_,.hole⟩] (SC iI (br.mk dE h6 (-1) dN) _ w3) rfl rfl rfl (by simp only[aE.down,simprocAttr,RM.down,dZ,dB,I.shares]) rfl rfl (inl rfl) ?_;simp only[aE.down,simprocAttr,RN.down,dZ,dB,I.shares];exact bU r1.down
         exact AM _ (wT _ (inr ⟨_,bE rfl,SE fa ie h6 l1 h⟩))
       .refine pJ yE _ ?_;refine ot rfl ?_;refine aK (yD _ (inl ?_));obtain⟨kH,r_,h⟩:=an h;refine mq (b7 (K:=eV _) [(0,.aM (.agg [.slice (bn.map bk),.slice (bp.map db),.slice (bo.map bJ),.slice (bH.map aV),.slice (bG.map aV)])),(1,.slice (J.map bD)),(6,.ag 4 (iI.map gD)),(7,.ag 1 (ie.map gu)),(11,.int .i64 h6),(12,.int .i64 l1),(13,.aM (di aY)),(14,.ag 3 (kH.map dT))] (λP bc=>?_) (Jf [(0,.aM (.agg [.slice (bn.map bk),.slice (bp.map db),.slice (bo.map bJ),.slice (bH.map aV),.slice (bG.map aV)])),(1,.slice (J.map bD)),(6,.ag 4 (iI.map gD)),(7,.ag 1 (ie.map gu)),(11,.int .i64 h6),(12,.int .i64 l1),(13,.aM (di aY)),(14,.ag 3 (kH.map bD))] (hf [] rfl (cz rfl (cz rfl (cz rfl (cz rfl (cz rfl (cz rfl (cz rfl (ha (t:=14) (d:=.ag 3 (kH.map dT)) (bT:=.ag 3 (kH.map bD)) rfl rfl (.ag (Jj (λ_=>x6 rfl rfl (pI _)) _)) (by decide) (hh)))))))))) ?_))
        ·(try simp only[aE.down,simprocAttr]);refine dq (DN J _ r_) (hK:= ?_);simp only[aE.down,simprocAttr];exact bU trivial
        obtain⟨mK,DP,h⟩:=an h;refine dh (b7 [(0,.aM (.agg [.slice (bn.map bk),.slice (bp.map db),.slice (bo.map bJ),.slice (bH.map aV),.slice (bG.map aV)])),(1,.slice (J.map bD)),(6,.ag 4 (iI.map gD)),(7,.ag 1 (ie.map gu)),(11,.int .i64 h6),(12,.int .i64 l1),(13,.aM (di aY)),(14,.ag 3 ((List.set kH (Int.toNat h6) aY.Next).map bD))] (λP bc=>?_) ?_)
        .simp only[aE.down,simprocAttr,DP,ca DP,cW,de];exact bU (U DP (U (ca DP) @cW))
        obtain⟨je,R6,h⟩:=an h;obtain⟨hB,apa,h⟩:=an h;obtain⟨ju,HL,h⟩:=an h;refine iy (b7 [(0,.aM (.agg [.slice (bn.map bk),.slice (bp.map db),.slice (bo.map bJ),.slice (bH.map aV),.slice (bG.map aV)])),(1,.slice (J.map bD)),(6,.ag 4 (ju.map gD)),(7,.ag 1 (ie.map gu)),(11,.int .i64 h6),(12,.int .i64 l1)] (λP bc=>?_) ?_)
        ·(try simp only[aE.down,simprocAttr,r1.down,dZ,dB,I.shares]);refine dq (SB (cY.mk bn bp bo bH bG) aY.Label _ R6) rfl rfl (by simp only[aE.down,simprocAttr,RK.down,dZ,dB,I.shares]<;>rfl) rfl (inr (by rfl)) ?_;simp only[aE.down,simprocAttr,r1.down,dZ,dB,I.shares];refine dq (DN (List.set kH (Int.toNat h6) aY.Next) _ apa) rfl rfl (by simp only[aE.down,simprocAttr,RL.down,dZ,dB,I.shares]<;>rfl) rfl (inr (j5 (λ_=>wN _) _)) ?_;simp only[aE.down,simprocAttr,r1.down,dZ,dB,I.shares];refine k1 [⟨.h 6 [],true,_,.hole⟩,⟨.agg [.str je,.int .i64 h6,.int .i64 (-1),.slice (hB.map bD)],false,_,.hole⟩] (SC iI (br.mk je h6 (-1) hB) _ HL) rfl rfl rfl (by simp only[aE.down,simprocAttr,RM.down,dZ,dB,I.shares]) rfl rfl (inl rfl) ?_;simp only[aE.down,simprocAttr,RN.down,dZ,dB,I.shares];exact bU r1.down
        exact AM _ (wT _ (inr ⟨_,bE rfl,SE ju ie h6 l1 h⟩))
      .refine cS (ao_ 4 _ (ao8 4 _ (jJ _ (Hx _ (tw _ (inl (dr ?_)))))));exact tt _ (inr ⟨_,bE rfl,ao4 iI ie (i64.wrap (h6+1)) h⟩)
     exact dn h λn h=>Ss n uX uY wx 0 h
    .refine cS (uQ 2 _ (rF 2 _ (pO _ (HD _ (inl (ax ak λ_ apb apc _=>aj ?_))))));refine bg apc λapd _ ape q0 _=>?_;have apf:∀n rH ym te,l3 J bn bp bo bH bG n rH ym te=some r->cL ah YX apd (ar [(0,.aM (.agg [.slice (bn.map bk),.slice (bp.map db),.slice (bo.map bJ),.slice (bH.map aV),.slice (bG.map aV)])),(1,.slice (J.map bD)),(6,.ag 4 (rH.map gD)),(7,.ag 1 (ym.map gu)),(15,.int .i64 te)]):=by
      refine cZ λpP apg rH ym te h=>cX ape λ_ aph ZU api=>ax ZU λ_ apj _ apk=>aj ?_;refine aD h (λapl h=>?_) λapl h=>?_
      .refine aK (apj _ (inl (ax ZU λ_ SG SH _=>bg SH λ_ apm apn _ _=>aj ?_)));refine bg apn λapo _ apq apr _=>?_;have RX:∀n uU uV uW wv,o1 (l3 J bn bp bo bH bG pP) J bn bp bo bH bG n uU uV uW wv=some r->cL ah YW apo (ar [(0,.aM (.agg [.slice (bn.map bk),.slice (bp.map db),.slice (bo.map bJ),.slice (bH.map aV),.slice (bG.map aV)])),(1,.slice (J.map bD)),(6,.ag 4 (uU.map gD)),(7,.ag 1 (uV.map gu)),(15,.int .i64 uW),(16,.int .i64 wv)]):=by
        refine cZ λAQ RY uU uV uW wv h=>cX apq λ_ aps ZV apt=>ax ZV λ_ apu _ apv=>aj ?_;refine aD h (λapw h=>?_) λapw h=>?_
        .refine aK (apu _ (inl (ax ZV λ_ apx apy _=>bg apy λ_ SI SJ _ _=>aj ?_)));refine bg SJ λapz _ apA SK _=>?_;have apB:∀n uS tc td uT wu,rG (l3 J bn bp bo bH bG pP) (o1 (l3 J bn bp bo bH bG pP) J bn bp bo bH bG AQ) J bn bp bo bH bG n uS tc td uT wu=some r->cL ah YV apz (ar [(0,.aM (.agg [.slice (bn.map bk),.slice (bp.map db),.slice (bo.map bJ),.slice (bH.map aV),.slice (bG.map aV)])),(1,.slice (J.map bD)),(6,.ag 4 (uS.map gD)),(7,.ag 1 (tc.map gu)),(15,.int .i64 td),(16,.int .i64 uT),(17,.int .i64 wu)]):=by
          refine cZ λSL apC uS tc td uT wu h=>cX apA λ_ apD ZW apE=>ax ZW λ_ SM _ apF=>?_;obtain⟨iK,ZX,h⟩:=an h;refine c7 (U ZX (ca ZX)) _ ?_;refine aD h (λapG h=>?_) λapG h=>?_
          .refine aK (SM _ (inl (ax ZW λ_ apH apI _=>bg apI λ_ apJ apK _ _=>aj ?_)));refine bg apK λapL _ apM apN _=>?_;have apO:∀n nh mL j_ kI ni mM,uR (l3 J bn bp bo bH bG pP) (o1 (l3 J bn bp bo bH bG pP) J bn bp bo bH bG AQ) (rG (l3 J bn bp bo bH bG pP) (o1 (l3 J bn bp bo bH bG pP) J bn bp bo bH bG AQ) J bn bp bo bH bG SL) J bn bp bo bH bG n nh mL j_ kI ni mM=some r->cL ah YU apL (ar [(0,.aM (.agg [.slice (bn.map bk),.slice (bp.map db),.slice (bo.map bJ),.slice (bH.map aV),.slice (bG.map aV)])),(1,.slice (J.map bD)),(6,.ag 4 (nh.map gD)),(7,.ag 1 (mL.map gu)),(15,.int .i64 j_),(16,.int .i64 kI),(17,.int .i64 ni),(18,.int .i64 mM)]):=by
            refine cZ λapP apQ nh mL j_ kI ni mM h=>cX apM λapR apS ZY apT=>ax ZY λ_ apU _ apV=>?_;obtain⟨qb,qo,h⟩:=an h;refine Lt (decide (mM<(qb.length:Int))) (U qo (ca qo)) [(0,.aM (.agg [.slice (bn.map bk),.slice (bp.map db),.slice (bo.map bJ),.slice (bH.map aV),.slice (bG.map aV)])),(1,.slice (J.map bD)),(6,.ag 4 (nh.map gD)),(7,.ag 1 (mL.map gu)),(15,.int .i64 j_),(16,.int .i64 kI),(17,.int .i64 ni),(18,.int .i64 mM),(133,.bool ((decide (mM<(qb.length:Int)))&&(decide ((nh.length:Int)<=200))))] ?_;refine aD h (λapW h=>?_) λapW h=>?_
            .refine aK (apU _ (inl ?_));have ZZ:∀CH CI CJ CK CL CM,Ka (l3 J bn bp bo bH bG pP) (o1 (l3 J bn bp bo bH bG pP) J bn bp bo bH bG AQ) (rG (l3 J bn bp bo bH bG pP) (o1 (l3 J bn bp bo bH bG pP) J bn bp bo bH bG AQ) J bn bp bo bH bG SL) (uR (l3 J bn bp bo bH bG pP) (o1 (l3 J bn bp bo bH bG pP) J bn bp bo bH bG AQ) (rG (l3 J bn bp bo bH bG pP) (o1 (l3 J bn bp bo bH bG pP) J bn bp bo bH bG AQ) J bn bp bo bH bG SL) J bn bp bo bH bG apP) J bn bp bo bH bG CH CI CJ CK CL CM=some r->bm ah YT apR (ar [(0,.aM (.agg [.slice (bn.map bk),.slice (bp.map db),.slice (bo.map bJ),.slice (bH.map aV),.slice (bG.map aV)])),(1,.slice (J.map bD)),(6,.ag 4 (CH.map gD)),(7,.ag 1 (CI.map gu)),(15,.int .i64 CJ),(16,.int .i64 CK),(17,.int .i64 CL),(18,.int .i64 CM)]):=by
              intro CH CI CJ CK CL CM h;refine dr ?_;exact apS _ (inr ⟨_,bE rfl,apQ CH CI CJ CK CL (i64.wrap (CM+1)) h⟩)
             refine ax ZY λ_ n100 apX _=>bg apX λ_ n102 apY apZ _=>?_;obtain⟨lI,sa,h⟩:=an h;obtain⟨lJ,DQ,h⟩:=an h;obtain⟨lj,DR,h⟩:=an h;obtain⟨mN,ap0,h⟩:=an h;refine kC rfl (jr [(0,.aM (.agg [.slice (bn.map bk),.slice (bp.map db),.slice (bo.map bJ),.slice (bH.map aV),.slice (bG.map aV)])),(1,.slice (J.map bD)),(6,.ag 4 (nh.map gD)),(7,.ag 1 (mL.map gu)),(15,.int .i64 j_),(16,.int .i64 kI),(17,.int .i64 ni),(18,.int .i64 mM),(19,.str mN)] (λP bc=>?_) ?_)
             ·(try simp only[dA.down,simprocAttr,sa,ca sa,DQ,qo,ca qo,DR]);refine iz (ao0 (cY.mk bn bp bo bH bG) lJ.Label lj.Label _ ap0) rfl rfl (by simp only[dA.down,simprocAttr,sa,ca sa,DQ,qo,ca qo,DR,Lw.down]<;>rfl) rfl (inr (by rfl)) ?_;simp only[dA.down,simprocAttr,sa,ca sa,DQ,qo,ca qo,DR];refine⟨iA (by kernel_rfl),?_⟩;exact bU (U sa (U (ca sa) (U DQ (U qo (U (ca qo) DR)))))
             refine ax apY λ_ n108 _ ap1=>aj ?_;refine aD h (λap2 h=>?_) λap2 h=>?_
             .exact cS (ap1 13 _ (apZ _ (n100 _ (inr ⟨_,bE rfl,ZZ nh mL j_ kI ni mM h⟩))))
             .refine aK (n108 _ (inl ?_));obtain⟨lK,ap3,h⟩:=an h;refine mq (b7 (K:=eV _) [(0,.aM (.agg [.slice (bn.map bk),.slice (bp.map db),.slice (bo.map bJ),.slice (bH.map aV),.slice (bG.map aV)])),(1,.slice (J.map bD)),(6,.ag 4 (nh.map gD)),(7,.ag 1 (mL.map gu)),(15,.int .i64 j_),(16,.int .i64 kI),(17,.int .i64 ni),(18,.int .i64 mM),(19,.str mN),(20,.ag 3 (lK.map dT))] (λP bc=>?_) (Jf [(0,.aM (.agg [.slice (bn.map bk),.slice (bp.map db),.slice (bo.map bJ),.slice (bH.map aV),.slice (bG.map aV)])),(1,.slice (J.map bD)),(6,.ag 4 (nh.map gD)),(7,.ag 1 (mL.map gu)),(15,.int .i64 j_),(16,.int .i64 kI),(17,.int .i64 ni),(18,.int .i64 mM),(19,.str mN),(20,.ag 3 (lK.map bD))] (hf [] rfl (cz rfl (cz rfl (cz rfl (cz rfl (cz rfl (cz rfl (cz rfl (cz rfl (cz rfl (ha (t:=20) (d:=.ag 3 (lK.map dT)) (bT:=.ag 3 (lK.map bD)) rfl rfl (.ag (Jj (λ_=>x6 rfl rfl (pI _)) _)) (by decide) (hh)))))))))))) ?_))
              ·(try simp only[aE.down,simprocAttr]);refine dq (DN J _ ap3) (hK:= ?_);simp only[aE.down,simprocAttr];exact bU trivial
              obtain⟨PX,LP,h⟩:=an h;refine dh (b7 [(0,.aM (.agg [.slice (bn.map bk),.slice (bp.map db),.slice (bo.map bJ),.slice (bH.map aV),.slice (bG.map aV)])),(1,.slice (J.map bD)),(6,.ag 4 (nh.map gD)),(7,.ag 1 (mL.map gu)),(15,.int .i64 j_),(16,.int .i64 kI),(17,.int .i64 ni),(18,.int .i64 mM),(19,.str mN),(20,.ag 3 ((List.set lK (Int.toNat j_) lJ.Next).map bD))] (λP bc=>?_) ?_)
              .simp only[aE.down,simprocAttr,sa,ca sa,DQ,LP,ca LP,cW,de];exact bU (U sa (U (ca sa) (U DQ (U LP (U (ca LP) @cW)))))
              obtain⟨wt,LQ,h⟩:=an h;refine dh (b7 [(0,.aM (.agg [.slice (bn.map bk),.slice (bp.map db),.slice (bo.map bJ),.slice (bH.map aV),.slice (bG.map aV)])),(1,.slice (J.map bD)),(6,.ag 4 (nh.map gD)),(7,.ag 1 (mL.map gu)),(15,.int .i64 j_),(16,.int .i64 kI),(17,.int .i64 ni),(18,.int .i64 mM),(19,.str mN),(20,.ag 3 ((List.set (List.set lK (Int.toNat j_) lJ.Next) (Int.toNat kI) lj.Next).map bD))] (λP bc=>?_) ?_)
              .simp only[aE.down,simprocAttr,qo,ca qo,DR,LQ,ca LQ,cW,de];exact bU (U qo (U (ca qo) (U DR (U LQ (U (ca LQ) @cW)))))
              obtain⟨rF,ap4,h⟩:=an h;obtain⟨uQ,ap5,h⟩:=an h;obtain⟨Kd,ap6,h⟩:=an h;refine iy (b7 [(0,.aM (.agg [.slice (bn.map bk),.slice (bp.map db),.slice (bo.map bJ),.slice (bH.map aV),.slice (bG.map aV)])),(1,.slice (J.map bD)),(6,.ag 4 (Kd.map gD)),(7,.ag 1 (mL.map gu)),(15,.int .i64 j_),(16,.int .i64 kI),(17,.int .i64 ni),(18,.int .i64 mM)] (λP bc=>?_) ?_)
              ·(try simp only[aE.down,simprocAttr,r1.down,dZ,dB,I.shares]);refine dq (SB (cY.mk bn bp bo bH bG) mN _ ap4) rfl rfl (by simp only[aE.down,simprocAttr,RK.down,dZ,dB,I.shares]<;>rfl) rfl (inr (by rfl)) ?_;simp only[aE.down,simprocAttr,r1.down,dZ,dB,I.shares];refine dq (DN (List.set (List.set lK (Int.toNat j_) lJ.Next) (Int.toNat kI) lj.Next) _ ap5) rfl rfl (by simp only[aE.down,simprocAttr,RL.down,dZ,dB,I.shares]<;>rfl) rfl (inr (j5 (λ_=>wN _) _)) ?_;simp only[aE.down,simprocAttr,r1.down,dZ,dB,I.shares];refine k1 [⟨.h 6 [],true,_,.hole⟩,⟨.agg [.str rF,.int .i64 j_,.int .i64 kI,.slice (uQ.map bD)],false,_,.hole⟩] (SC nh (br.mk rF j_ kI uQ) _ ap6) rfl rfl rfl (by simp only[aE.down,simprocAttr,RM.down,dZ,dB,I.shares]) rfl rfl (inl rfl) ?_;simp only[aE.down,simprocAttr,RN.down,dZ,dB,I.shares];exact bU r1.down
              exact n102 _ (n100 _ (inr ⟨_,bE rfl,ZZ Kd mL j_ kI ni mM h⟩))
            .refine cS (apV 12 _ (apT 12 _ (apN _ (apJ _ (apH _ (inl (dr ?_)))))));exact apD _ (inr ⟨_,bE rfl,apC nh mL j_ kI (i64.wrap (ni+1)) h⟩)
           exact dn h λn h=>apO n uS tc td uT wu 0 h
          .refine cS (apF 10 _ (apE 10 _ (SK _ (SI _ (apx _ (inl (dr ?_)))))));exact aps _ (inr ⟨_,bE rfl,RY uS tc td (i64.wrap (uT+1)) h⟩)
         exact dn h λn h=>apB n uU uV uW wv 0 h
        .refine cS (apv 8 _ (apt 8 _ (apr _ (apm _ (SG _ (inl (dr ?_)))))));exact aph _ (inr ⟨_,bE rfl,apg uU uV (i64.wrap (uW+1)) h⟩)
       exact dn h λn h=>RX n rH ym te (i64.wrap (te+1)) h
      .refine cS (apk 6 _ (api 6 _ (q0 _ (apb _ (inl (aj ?_))))));exact gr (ak _ (inl (hs [.ag 4 (rH.map gD),.bool (decide ((rH.length:Int)<=200))] rfl (by cases eE h;rfl) (by decide) (hH (js (by cases eE h;rfl) rfl rfl rfl (dy (hI)))))))
     exact dn h λn h=>apf n uX uY 0 h
   exact dn h λn h=>ao3 n [] gn 0 h
 exact dn h λn h=>AK n [] 0 h
theorem ap7 (bn bp bo bH bG J r) (h:Kf bn bp bo bH bG J=some r):aZ ah 24 [.aM (.agg [.slice (bn.map bk),.slice (bp.map db),.slice (bo.map bJ),.slice (bH.map aV),.slice (bG.map aV)]),.slice (J.map eY)] (.tuple [.slice (r.1.map bD),.int .i64 r.2]) [.aM (.agg [.slice (bn.map bk),.slice (bp.map db),.slice (bo.map bJ),.slice (bH.map aV),.slice (bG.map aV)]),.hole]:=by
 refine bx [0,1] [.tmp 4,.tmp 5] Tryz.func24 akR λbt ak bs=>aj ?_;obtain⟨R,aS,h⟩:=an h;refine dh (b7 [(0,.aM (.agg [.slice (bn.map bk),.slice (bp.map db),.slice (bo.map bJ),.slice (bH.map aV),.slice (bG.map aV)])),(1,.slice (J.map eY)),(6,.ag 3 (R.map dT))] (λP bc=>?_) ?_)
 ·(try simp only[aE.down,simprocAttr]);refine dq (aoD (cY.mk bn bp bo bH bG) _ aS) rfl rfl (by simp only[aE.down,simprocAttr,Lw.down]<;>rfl) rfl (inr (j5 (λ_=>wN _) _)) ?_;simp only[aE.down,simprocAttr];exact bU trivial
 refine ax ak λ_ fj bR aY=>aj ?_;refine bg bR λjh _ cU cP _=>?_;show bm ah (.loop ?hd) _ _;have hL:∀n fT rI,wz J bn bp bo bH bG n fT rI=some r->cL ah ?hd jh (ar [(0,.aM (.agg [.slice (bn.map bk),.slice (bp.map db),.slice (bo.map bJ),.slice (bH.map aV),.slice (bG.map aV)])),(1,.slice (J.map eY)),(6,.slice (fT.map bD)),(7,.int .i64 rI)]):=by
  refine cZ λ_ hM fT rI h=>cX cU λ_ dw ev bu=>ax ev λ_ ig _ cy=>aj ?_;refine aD h (λe3 h=>?_) λe3 h=>?_
  .refine aK (ig _ (inl (ax ev λ_ ez hN _=>bg hN λ_ gU ke _ _=>?_)));obtain⟨ae,dU,h⟩:=an h;refine dh (b7 [(0,.aM (.agg [.slice (bn.map bk),.slice (bp.map db),.slice (bo.map bJ),.slice (bH.map aV),.slice (bG.map aV)])),(1,.slice (J.map eY)),(7,.int .i64 rI),(8,.ag 4 (ae.1.map gD)),(9,.bool ae.2)] (λP bc=>?_) ?_)
   ·(try simp only[aE.down,simprocAttr]);refine k1 [⟨.h 0 [],true,_,_⟩,⟨.slice (fT.map bD),false,_,.hole⟩] (ao1 bn bp bo bH bG fT _ dU) rfl rfl rfl (by simp only[aE.down,simprocAttr,Zq.down]) rfl rfl (inl rfl) ?_;simp only[aE.down,simprocAttr,kl];exact bU trivial
   refine ax ke λ_ gb gJ _=>aj ?_;refine aD h (λmQ h=>?_) λmQ h=>?_
   .refine aj ?_;exact gr (gJ _ (inr ⟨[(4,.slice []),(5,.int .i64 5),(0,.aM (.agg [.slice (bn.map bk),.slice (bp.map db),.slice (bo.map bJ),.slice (bH.map aV),.slice (bG.map aV)]))],hf [] rfl (ha (t:=4) (d:=.bf) rfl rfl (.qH) (by decide) (cz rfl (cz rfl (hh)))),hs [.slice [],.int .i64 5] rfl (by cases eE h;rfl) (by decide) (hH (js (by cases eE h;rfl) rfl rfl rfl (dy (hI))))⟩))
   .refine aK (gb _ (inl ?_));obtain⟨az,gp,h⟩:=an h;refine c7 gp _ ?_;refine ax ke λ_ tF vo _=>aj ?_;refine aD h (λgd h=>?_) λgd h=>?_
    .refine aj ?_;exact gr (vo _ (inr ⟨[(4,.slice []),(5,.int .i64 9),(0,.aM (.agg [.slice (bn.map bk),.slice (bp.map db),.slice (bo.map bJ),.slice (bH.map aV),.slice (bG.map aV)]))],hf [] rfl (ha (t:=4) (d:=.bf) rfl rfl (.qH) (by decide) (cz rfl (cz rfl (hh)))),hs [.slice [],.int .i64 9] rfl (by cases eE h;rfl) (by decide) (hH (js (by cases eE h;rfl) rfl rfl rfl (dy (hI))))⟩))
    .refine aK (tF _ (inl ?_));obtain⟨aY,ql,h⟩:=an h;refine c7 (U ql (ca ql)) _ ?_;refine ax ke λ_ AE ap8 _=>dh (b7 [(0,.aM (.agg [.slice (bn.map bk),.slice (bp.map db),.slice (bo.map bJ),.slice (bH.map aV),.slice (bG.map aV)])),(1,.slice (J.map eY)),(7,.int .i64 rI),(11,.aM (gD aY)),(60,.bool (((aY.ef !=az.ef)||(aY.Second !=az.Second))||(!(aY.Label==az.Label))))] (λP bc=>?_) ?_)
     ·(rcases Bool.eq_false_or_eq_true (aY.ef !=az.ef)with SN|SN)<;>(rcases Bool.eq_false_or_eq_true (aY.Second !=az.Second)with AR|AR)<;>
       (simp only[aE.down,simprocAttr,SN,AR]
        exact bU (U SN AR))
     refine aD h (λhj h=>?_) λhj h=>?_
     .refine aj ?_;exact gr (ap8 _ (inr ⟨[(4,.slice []),(5,.int .i64 9),(0,.aM (.agg [.slice (bn.map bk),.slice (bp.map db),.slice (bo.map bJ),.slice (bH.map aV),.slice (bG.map aV)]))],hf [] rfl (ha (t:=4) (d:=.bf) rfl rfl (.qH) (by decide) (cz rfl (cz rfl (hh)))),hs [.slice [],.int .i64 9] rfl (by cases eE h;rfl) (by decide) (hH (js (by cases eE h;rfl) rfl rfl rfl (dy (hI))))⟩))
     .refine aK (AE _ (inl (dr ?_)));refine gU _ (ez _ (inl (dr ?_)));exact dw _ (inr ⟨_,bE rfl,hM aY.State (i64.wrap (rI+1)) h⟩)
  .refine cS (cy 0 _ (bu 0 _ (cP _ (fj _ (inl (aj ?_))))));exact gr (ak _ (inl (hs [.slice (fT.map bD),.int .i64 0] rfl (by cases eE h;rfl) (by decide) (hH (js (by cases eE h;rfl) rfl rfl rfl (dy (hI)))))))
 obtain⟨n,h⟩:=l_ h;exact p7 (inr ⟨_,hf [] rfl (cz (t:=0) (d:=.aM (.agg [.slice (bn.map bk),.slice (bp.map db),.slice (bo.map bJ),.slice (bH.map aV),.slice (bG.map aV)])) rfl (cz (t:=1) (d:=.slice (J.map eY)) rfl (ha (t:=6) (d:=.ag 3 (R.map dT)) (bT:=.slice (R.map bD)) rfl rfl (WU rfl rfl (congrArg I.slice (b4 (λ_=>pI _) _))) (by decide) (cz (t:=7) (d:=.int .i64 0) rfl (hh))))),hL n R 0 h⟩)
theorem ap9 (a0 J r) (h:Kg a0 J=some r):aZ ah 6 [fD a0,.slice (J.map eY)] (.tuple [.slice (r.1.map bD),.int .i64 r.2]) []:=by
 refine bx [0,1] [.tmp 4,.tmp 5] Tryz.func6 eN λbt ak bs=>aj ?_;refine ax ak λ_ bF bd ae=>?_;obtain⟨R,cf,h⟩:=an h;refine dh (b7 [(1,.slice (J.map eY)),(2,.aM (fD a0)),(7,.bool (!R))] (λP bc=>?_) ?_)
 .refine dq (aol a0 _ cf) rfl rfl (by simp only[aE.down,simprocAttr,Lw.down]<;>rfl) rfl (inr (by rfl)) ?_;simp only[aE.down,simprocAttr];exact bU trivial
 refine aD h (λdR h=>?_) λdR h=>?_
 .refine aj ?_;exact gr (bd _ (inr ⟨[(4,.slice []),(5,.int .i64 1)],hf [] rfl (ha (t:=4) (d:=.bf) rfl rfl (.qH) (by decide) (cz rfl (hh))),nZ [.slice [],.int .i64 1]⟩))
 .refine aK (bF _ (inl (ax ak λ_ dw ev _=>?_)));obtain⟨ae,h_,h⟩:=an h;refine cR (aoC J _ h_) _ ?_;refine aD h (λe3 h=>?_) λe3 h=>?_
  .refine aj ?_;exact gr (ev _ (inr ⟨[(4,.slice []),(5,.int .i64 7)],hf [] rfl (ha (t:=4) (d:=.bf) rfl rfl (.qH) (by decide) (cz rfl (hh))),nZ [.slice [],.int .i64 7]⟩))
  .refine aK (dw _ (inl ?_));obtain⟨az,ed,h⟩:=an h;refine dh (b7 [(4,.slice (az.1.map bD)),(5,.int .i64 az.2)] (λP bc=>?_) ?_)
   ·(try simp only[aE.down,simprocAttr]);refine k1 [⟨.h 2 [],true,_,_⟩,⟨.slice (J.map eY),false,_,.hole⟩] (ap7 a0.cI a0.b0 a0.cb a0.cD a0.cA J _ ed) rfl rfl rfl (by simp only[aE.down,simprocAttr,Zq.down]) rfl rfl (inl rfl) ?_;simp only[aE.down,simprocAttr,kl];exact bU trivial
   exact cM ak [.slice (az.1.map bD),.int .i64 az.2]
theorem jK (a0 J a2 r) (h:jG a0 J a2=some r):aZ ah 87 [.int .i64 a0,.int .i64 J,.int .i64 a2] (.bool r) []:=by
 refine bx [0,1,2] [.tmp 6] Tryz.func87 c87 λbt ak bs=>aj ?_;refine n5 (decide (J<=a0)) [(6,.bool ((decide (J<=a0))&&(decide (a0<=a2))))] ?_;exact cM ak [.bool ((decide (J<=a0))&&(decide (a0<=a2)))]
theorem ap_ (a0 r) (h:P2 a0=some r):aZ ah 156 [bk a0] (.bool r) []:=by
 refine bx [0] [.tmp 2] Tryz.func156 c156 λbt ak bs=>aj ?_;obtain⟨R,aS,h⟩:=an h;refine cR (jK a0.dV 0 3 _ aS) _ ?_;exact cM ak [.bool (!R)]
theorem aqa (a0 r) (h:P4 a0=some r):aZ ah 158 [.slice (a0.map bk),.fn 156 []] (.int .i64 r) []:=by
 refine bx [0,1] [.tmp 4] Tryz.func158 akS λbt ak bs=>aj ?_;refine ax ak λ_ bF bd ae=>aj ?_;refine bg bd λeP _ bR bw _=>?_;show bm ah (.loop ?eN) _ _;have e4:∀n cK,Gr a0 n cK=some r->cL ah ?eN eP (ar [(0,.slice (a0.map bk)),(1,.fn 156 []),(7,.int .i64 (a0.length:Int)),(8,.int .i64 cK)]):=by
  refine cZ λ_ eL cK h=>cX bR λ_ dM cv aU=>aj ?_;refine ax cv λ_ dw _ bu=>aD h (λb1 h=>?_) λb1 h=>?_
  .refine aK (dw _ (inl (ax cv λ_ cE b9 _=>bg b9 λ_ b2 cN _ _=>aj ?_)));obtain⟨R,ed,h⟩:=an h;obtain⟨ae,dU,h⟩:=an h;refine eU ed (ap_ R _ dU) _ ?_;refine aD h (λff h=>?_) λff h=>?_
   .exact aN cN [.int .i64 cK]
   .refine aK (b2 _ (cE _ (inl (dr ?_))));exact dM _ (inr ⟨_,bE rfl,eL (i64.wrap (cK+1)) h⟩)
  .exact cS (bu 0 _ (aU 0 _ (bw _ (bF _ (inl (aN ak [.int .i64 (-1)]))))))
 exact dn h λn h=>e4 n 0 h
theorem aqb (a0 r) (h:P5 a0=some r):aZ ah 155 [.slice (a0.map bk),.fn 156 []] (.bool r) []:=by
 refine bx [0,1] [.tmp 4] Tryz.func155 akT λbt ak bs=>aj ?_;obtain⟨R,aS,h⟩:=an h;refine cR (aqa a0 _ aS) _ ?_;exact cM ak [.bool (decide (0<=R))]
theorem aqc (a0 r) (h:Kh a0=some r):aZ ah 116 [.slice (a0.map bk)] (.bool r) []:=by
 refine bx [0] [.tmp 2] Tryz.func116 c116 λbt ak bs=>aj ?_;obtain⟨R,aS,h⟩:=an h;refine cR (aqb a0 _ aS) _ ?_;exact cM ak [.bool (!R)]
theorem aqd (a0 r) (h:P6 a0=some r):aZ ah 157 [.int .u8 (a0.toNat:Int)] (.bool r) []:=by
 refine bx [0] [.tmp 2] Tryz.func157 c157 λbt ak bs=>aj ?_;refine n5 (decide (48<=(a0.toNat:Int))) [(2,.bool ((decide (48<=(a0.toNat:Int)))&&(decide ((a0.toNat:Int)<=57))))] ?_;exact cM ak [.bool ((decide (48<=(a0.toNat:Int)))&&(decide ((a0.toNat:Int)<=57)))]
theorem LR (a0 r) (h:Gs a0=some r):aZ ah 117 [.str a0] (.bool r) []:=by
 refine bx [0] [.tmp 2] Tryz.func117 c117 λbt ak bs=>aj ?_;refine ax ak λ_ bF bd ae=>aj ?_;refine bg bd λeP _ bR bw _=>?_;show bm ah (.loop ?eN) _ _;have e4:∀n fU,yn a0 n fU=some r->cL ah ?eN eP (ar [(0,.str a0),(6,.int .i64 (a0.length:Int)),(7,.int .i64 fU)]):=by
  refine cZ λ_ eL fU h=>cX bR λ_ dM cv aU=>aj ?_;refine ax cv λ_ dw _ bu=>aD h (λb1 h=>?_) λb1 h=>?_
  .refine aK (dw _ (inl (ax cv λ_ cE b9 _=>bg b9 λ_ b2 cN _ _=>aj ?_)));obtain⟨R,ed,h⟩:=an h;refine Lt (decide (97<=(R.toNat:Int))) ed [(0,.str a0),(3,.int .i64 fU),(4,.bool ((decide (97<=(R.toNat:Int)))&&(decide ((R.toNat:Int)<=122)))),(6,.int .i64 (a0.length:Int)),(7,.int .i64 fU)] ?_;rcases dO h with⟨ff,h⟩|⟨ff,h⟩
   .rcases dO h with⟨mR,h⟩|⟨mR,h⟩
    .refine c7 (U ff mR) _ ?_;refine jS rfl ?_;exact aN cN [.bool false]
    .obtain⟨ae,eG,h⟩:=an h;refine eU (U ff (U mR ed)) (aqd R _ eG) _ ?_;refine aD h (λhb h=>?_) λhb h=>?_
     .exact aN cN [.bool false]
     .refine aK (b2 _ (cE _ (inl (dr ?_))));exact dM _ (inr ⟨_,bE rfl,eL (i64.wrap (fU+1)) h⟩)
   .refine c7 ff _ ?_;refine ot rfl ?_;refine aK (b2 _ (cE _ (inl (dr ?_))));exact dM _ (inr ⟨_,bE rfl,eL (i64.wrap (fU+1)) h⟩)
  .refine cS (bu 0 _ (aU 0 _ (bw _ (bF _ (inl (n5 (decide (1<=(a0.length:Int))) [(2,.bool ((decide (1<=(a0.length:Int)))&&(decide ((a0.length:Int)<=10))))] ?_))))));exact cM ak [.bool ((decide (1<=(a0.length:Int)))&&(decide ((a0.length:Int)<=10)))]
 exact dn h λn h=>e4 n 0 h
theorem aqe (a0 J r) (h:P7 a0 J=some r):aZ ah 159 [bk a0,.ref (.str J)] (.bool r) []:=by
 refine bx [0,1] [.tmp 3] Tryz.func159 c159 λbt ak bs=>aj ?_;exact aN ak [.bool (a0.Name==J)]
theorem aqf (a0 J r) (h:P9 a0 J=some r):aZ ah 158 [.slice (a0.map bk),.fn 159 [.ref (.str J)]] (.int .i64 r) []:=by
 refine bx [0,1] [.tmp 4] Tryz.func158 akU λbt ak bs=>aj ?_;refine ax ak λ_ bF bd ae=>aj ?_;refine bg bd λeP _ bR bw _=>?_;show bm ah (.loop ?eN) _ _;have e4:∀n cK,Gt a0 J n cK=some r->cL ah ?eN eP (ar [(0,.slice (a0.map bk)),(1,.fn 159 [.ref (.str J)]),(7,.int .i64 (a0.length:Int)),(8,.int .i64 cK)]):=by
  refine cZ λ_ eL cK h=>cX bR λ_ dM cv aU=>aj ?_;refine ax cv λ_ dw _ bu=>aD h (λb1 h=>?_) λb1 h=>?_
  .refine aK (dw _ (inl (ax cv λ_ cE b9 _=>bg b9 λ_ b2 cN _ _=>aj ?_)));obtain⟨R,ed,h⟩:=an h;obtain⟨ae,dU,h⟩:=an h;refine eU ed (aqe R J _ dU) _ ?_;refine aD h (λff h=>?_) λff h=>?_
   .exact aN cN [.int .i64 cK]
   .refine aK (b2 _ (cE _ (inl (dr ?_))));exact dM _ (inr ⟨_,bE rfl,eL (i64.wrap (cK+1)) h⟩)
  .exact cS (bu 0 _ (aU 0 _ (bw _ (bF _ (inl (aN ak [.int .i64 (-1)]))))))
 exact dn h λn h=>e4 n 0 h
theorem aqg (a0 J r) (h:Kj a0 J=some r):aZ ah 118 [.slice (a0.map bk),.str J] (.int .i64 r) []:=by
 refine bx [0,1] [.tmp 4] Tryz.func118 akV λbt ak bs=>aj ?_;obtain⟨R,aS,h⟩:=an h;refine dh (b7 [(4,.int .i64 R)] (λP bc=>?_) ?_)
 ·(try simp only[aE.down,simprocAttr]);refine dq (aqf a0 J _ aS) rfl rfl (by simp only[aE.down,simprocAttr,yx.down]<;>rfl) rfl (inr (by rfl)) ?_;simp only[aE.down,simprocAttr];exact bU trivial
 exact cM ak [.int .i64 R]
theorem Z0 (a0 r) (h:Gv a0=some r):aZ ah 190 [eH a0] (.int .i64 r) []:=by
 refine bx [0] [.tmp 2] Tryz.func190 akW λbt ak bs=>aj ?_;refine ax ak λ_ bF bd _=>aj ?_;refine bg bd λeP fj bR _ _=>?_;show bm ah (.seq _ ?kN) _ _;have Av:∀ey,Gu a0 ey=some r->bm ah ?kN eP (ar [(4,.int .i64 a0.Kind),(5,.bool ey)]):=by
  intro ey h;refine aD h (λcP h=>?_) λcP h=>?_
  .exact aN bR [.int .i64 1]
  .refine aj ?_;refine aD h (λe8 h=>?_) λe8 h=>?_
   .exact aN bR [.int .i64 2]
   .exact aK (fj _ (bF _ (inl (aN ak [.int .i64 0]))))
 refine ax bR λ_ dM _ _=>aj ?_;refine aD h (λfi h=>?_) λfi h=>?_
 .simp only[fi,Hn.down];exact aK (dM _ (inr ⟨_,bE rfl,Av true h⟩))
 .refine aj ?_;refine aD h (λff h=>?_) λff h=>?_
  .simp only[ff,Hn.down];exact aK (dM _ (inr ⟨_,bE rfl,Av true h⟩))
  .refine dr ?_;exact dM _ (inr ⟨_,bE rfl,Av (a0.Kind==4) h⟩)
theorem Z1 (a0 J r) (h:Gw a0 J=some r):aZ ah 160 [bk a0,.int .i64 J] (.int .i64 r) []:=by
 refine bx [0] [.tmp 4] Tryz.func160 c160 λbt ak bs=>aj ?_;refine ax ak λ_ bF bd ae=>aj ?_;refine bg bd λeP _ bR bw _=>?_;show bm ah (.loop ?eN) _ _;have e4:∀n aT aC,CO a0 n aT aC=some r->cL ah ?eN eP (ar [(1,.int .i64 aT),(2,.aM (bk a0)),(5,.int .i64 aC)]):=by
  refine cZ λ_ eL aT aC h=>cX bR λ_ dM cv aU=>ax cv λ_ cG _ bB=>aj ?_;refine aD h (λb1 h=>?_) λb1 h=>?_
  .refine aK (cG _ (inl (ax cv λ_ cE b9 _=>bg b9 λ_ b2 cN _ _=>ax cN λ_ ez hN _=>aj ?_)));refine aD h (λfi h=>?_) λfi h=>?_
   .exact aN hN [.int .i64 (-1)]
   .refine aK (ez _ (inl ?_));obtain⟨R,cB,h⟩:=an h;obtain⟨ae,dP,h⟩:=an h;refine As cB (Z0 R _ dP) _ ?_;refine b2 _ (cE _ (inl (dr ?_)));exact dM _ (inr ⟨_,bE rfl,eL (i64.wrap (aT+1)) (i64.wrap (aC+(i64.wrap (ae-1)))) h⟩)
  .exact cS (bB 0 _ (aU 0 _ (bw _ (bF _ (inl (aN ak [.int .i64 aT]))))))
 exact dn h λn h=>e4 n J 1 h
theorem aqh (qd:Int->dQ->azR->a1->Option (Int×azR)) (aqi:∀a0 J a2 a3 r,qd a0 J a2 a3=some r->pB ah 191 2 4 [.int .i64 a0,fE J,.aM (.ag 2 (a2.map fE)),.ref (bk a3),.ref (.hole)] (.int .i64 r.1) [.hole,.hole,.aM (.ag 2 (r.2.map fE)),.hole,.hole]) (a0 J a2 a3 r) (h:Qb qd a0 J a2 a3=some r):pB ah 191 2 4 [.int .i64 a0,fE J,.aM (.ag 2 (a2.map fE)),.ref (bk a3),.ref (.hole)] (.int .i64 r.1) [.hole,.hole,.aM (.ag 2 (r.2.map fE)),.hole,.hole]:=by
 refine pB.OZ (fx:=[0,1,2,3,4]) O3 [.tmp 7] [(0,.int .i64 a0),(1,fE J),(2,.aM (.ag 2 (a2.map fE))),(3,.ref (bk a3)),(4,.ref (.hole))] Tryz.func191 rfl rfl ak_ (le_of_ble_eq_true rfl) ak9 rfl rfl λbt ak bs=>?_;refine aj ?_;obtain⟨R,aS,h⟩:=an h;refine dh (b7 [(0,.int .i64 a0),(2,.aM (.ag 2 ((List.set a2 (Int.toNat a0) J).map fE))),(3,.ref (bk a3)),(4,.ref (.hole)),(6,.aM (fE J))] (λP bc=>?_) ?_)
 .simp only[aE.down,simprocAttr,aS,ca aS,cW,de];exact bU (U aS (U (ca aS) @cW))
 obtain⟨ae,cF,h⟩:=an h;refine c7 cF [(0,.int .i64 a0),(2,.aM (.ag 2 ((List.set a2 (Int.toNat a0) J).map fE))),(3,.ref (bk a3)),(4,.ref (.hole)),(6,.aM (fE J)),(8,.aM (eH ae))] ?_;refine c7 (show∀s,gH ah s 223 [(0,.int .i64 J.scope),(1,.bool (ae.Kind==1))]=some (.agg [.int .i64 J.scope,.bool (ae.Kind==1)],s)from λs=>by kernel_rfl) [(0,.int .i64 a0),(2,.aM (.ag 2 ((List.set a2 (Int.toNat a0) J).map fE))),(3,.ref (bk a3)),(4,.ref (.hole)),(8,.aM (eH ae)),(9,.aM (.agg [.int .i64 J.scope,.bool (ae.Kind==1)]))] ?_;have Z2:∀oA,Kk qd a0 J a2 a3 ae oA=some r->bm ah YZ bt (ar [(0,.int .i64 a0),(2,.aM (.ag 2 ((List.set a2 (Int.toNat a0) J).map fE))),(3,.ref (bk a3)),(4,.ref (.hole)),(8,.aM (eH ae)),(9,.aM (.agg [.int .i64 oA,.bool (ae.Kind==1)]))]):=by
  intro oA h;refine ws [(2,.aM (.ag 2 ((List.set a2 (Int.toNat a0) J).map fE))),(3,.ref (bk a3)),(4,.ref (.hole)),(8,.aM (eH ae)),(9,.aM (.agg [.int .i64 oA,.bool (ae.Kind==1)])),(10,.int .i64 (i64.wrap (a0+1)))] ?_;refine ax ak λ_ cE b9 _=>?_;obtain⟨az,lz,h⟩:=an h;refine cR (Z0 ae _ lz) [(2,.aM (.ag 2 ((List.set a2 (Int.toNat a0) J).map fE))),(3,.ref (bk a3)),(4,.ref (.hole)),(9,.aM (.agg [.int .i64 oA,.bool (ae.Kind==1)])),(10,.int .i64 (i64.wrap (a0+1))),(36,.int .i64 az),(37,.int .i64 0)] ?_;refine bg b9 λHq _ ke fk _=>?_;have aqj:∀n wA tg uZ,z6 qd a3 oA ae az n wA tg uZ=some r->cL ah YY Hq (ar [(2,.aM (.ag 2 (wA.map fE))),(3,.ref (bk a3)),(4,.ref (.hole)),(9,.aM (.agg [.int .i64 oA,.bool (ae.Kind==1)])),(10,.int .i64 tg),(36,.int .i64 az),(37,.int .i64 uZ)]):=by
   refine cZ λ_ aqk wA tg uZ h=>cX ke λ_ fL fJ mK=>aj ?_;refine ax fJ λ_ gb _ hB=>aD h (λmR h=>?_) λmR h=>?_
   .refine aK (gb _ (inl (ax fJ λ_ jU kq _=>bg kq λ_ r9 _ _ _=>?_)));obtain⟨aY,gp,h⟩:=an h;refine ag9 [(2,.aM (.ag 2 (aY.2.map fE))),(3,.ref (bk a3)),(4,.ref (.hole)),(9,.aM (.agg [.int .i64 oA,.bool (ae.Kind==1)])),(10,.int .i64 aY.1),(36,.int .i64 az),(37,.int .i64 uZ)] (λP bc=>?_) ?_
    ·(try simp only[aE.down,simprocAttr,s5]);refine XG [⟨.int .i64 tg,false,_,.hole⟩,⟨.agg [.int .i64 oA,.bool (ae.Kind==1)],false,_,.hole⟩,⟨.h 2 [],true,_,_⟩,⟨.ref (bk a3),false,_,.hole⟩,⟨.ref (.hole),false,_,.hole⟩] (aqi tg (dQ.mk oA (ae.Kind==1)) wA a3 _ gp) rfl (by simp only[aE.down,simprocAttr,s5,mo,la,kG,ht,hv,hx,cV,or_true,true_or, @b4 _ fE fE (λ_=>Yq _)]) rfl rfl (inl rfl) ?_;simp only[aE.down,simprocAttr,s5,kl];(try simp only[jg.down,simprocAttr,s5]at bc⊢);exact bc
    refine r9 _ (jU _ (inl (dr ?_)));exact fL _ (inr ⟨_,bE rfl,aqk aY.2 aY.1 (i64.wrap (uZ+1)) h⟩)
   .refine cS (hB 0 _ (mK 0 _ (fk _ (cE _ (inl (aj ?_))))));exact gr (ak _ (inl (hs [.int .i64 tg] rfl (by cases eE h;rfl) (by decide) (hH (dy (dy (js (by cases eE h;rfl) rfl rfl rfl (dy (dy (hI))))))))))
  exact dn h λn h=>aqj n (List.set a2 (Int.toNat a0) J) (i64.wrap (a0+1)) 0 h
 refine ax ak λ_ dw _ _=>ws [(0,.int .i64 a0),(2,.aM (.ag 2 ((List.set a2 (Int.toNat a0) J).map fE))),(3,.ref (bk a3)),(4,.ref (.hole)),(8,.aM (eH ae)),(9,.aM (.agg [.int .i64 J.scope,.bool (ae.Kind==1)])),(28,.bool (ae.Kind==4))] ?_;refine aD h (λh7 h=>?_) λh7 h=>?_
 .refine wr [(0,.int .i64 a0),(2,.aM (.ag 2 ((List.set a2 (Int.toNat a0) J).map fE))),(3,.ref (bk a3)),(4,.ref (.hole)),(8,.aM (eH ae)),(9,.aM (.agg [.int .i64 (i64.wrap (J.scope+1)),.bool (ae.Kind==1)]))] ?_;exact dw _ (inr ⟨_,bE rfl,Z2 (i64.wrap (J.scope+1)) h⟩)
 .exact aK (dw _ (inr ⟨_,bE rfl,Z2 J.scope h⟩))
theorem aql:∀n a0 J a2 a3 r,z7 n a0 J a2 a3=some r->pB ah 191 2 4 [.int .i64 a0,fE J,.aM (.ag 2 (a2.map fE)),.ref (bk a3),.ref (.hole)] (.int .i64 r.1) [.hole,.hole,.aM (.ag 2 (r.2.map fE)),.hole,.hole]:=by
 intro n;induction n with
 |zero=>intro a0 J a2 a3 r h;cases(show none=some r from h)
 |succ n ih=>intro a0 J a2 a3 r h;exact aqh (z7 n) ih a0 J a2 a3 r h
theorem aqm (a0 J a2 a3 r) (h:Kl a0 J a2 a3=some r):pB ah 191 2 4 [.int .i64 a0,fE J,.aM (.ag 2 (a2.map fE)),.ref (bk a3),.ref (.hole)] (.int .i64 r.1) [.hole,.hole,.aM (.ag 2 (r.2.map fE)),.hole,.hole]:=by
 obtain⟨n,h⟩:=l_ h;exact aql n a0 J a2 a3 r h
theorem aqn (a0 r) (h:Km a0=some r):aZ ah 161 [bk a0] (.ag 2 (r.map fE)) []:=by
 refine aZ.ahU (fx:=[0]) O3 [.tmp 2] [(0,bk a0)] Tryz.func161 rfl rfl ale (le_of_ble_eq_true rfl) ald rfl rfl λbt ak bs=>?_;refine aj ?_;obtain⟨LS,aS,h⟩:=an h;refine r0 (U (q7 aS) @List.map_replicate.{0,0}) [(1,.aM (bk a0)),(3,.aM (.ag 2 ((List.replicate (Int.toNat (a0.Body.length:Int)) (dQ.mk 0 false)).map fE)))] ?_;obtain⟨R,cF,h⟩:=an h;refine ahP [(3,.aM (.ag 2 (R.2.map fE)))] (λP bc=>?_) ?_
 ·(try simp only[aE.down,simprocAttr,(show∀s,gH ah s 223 [(0,.int .i64 a0.dV)]=some (.agg [.int .i64 a0.dV,.bool false],s)from λs=>by kernel_rfl),s5]);refine XG [⟨.int .i64 0,false,_,.hole⟩,⟨.agg [.int .i64 a0.dV,.bool false],false,_,.hole⟩,⟨.h 3 [],true,_,_⟩,⟨.h 1 [],false,_,.hole⟩,⟨.ref (.hole),false,_,.hole⟩] (aqm 0 (dQ.mk a0.dV false) (List.replicate (Int.toNat (a0.Body.length:Int)) (dQ.mk 0 false)) a0 _ cF) rfl (by simp only[aE.down,simprocAttr,(show∀s,gH ah s 223 [(0,.int .i64 a0.dV)]=some (.agg [.int .i64 a0.dV,.bool false],s)from λs=>by kernel_rfl),s5,mo,la,kG,ht,hv,hx,cV,or_true,true_or, @b4 _ fE fE (λ_=>Yq _), @b4 _ eH eH (λ_=>Rv _)]) rfl rfl ((inr (by simp only[uA,I.dc,I.gN,Bool.and_self, @j5 _ fE (λ_=>ajJ _)]))) ?_;simp only[aE.down,simprocAttr,(show∀s,gH ah s 223 [(0,.int .i64 a0.dV)]=some (.agg [.int .i64 a0.dV,.bool false],s)from λs=>by kernel_rfl),s5,kl];(try simp only[jg.down,simprocAttr,(show∀s,gH ah s 223 [(0,.int .i64 a0.dV)]=some (.agg [.int .i64 a0.dV,.bool false],s)from λs=>by kernel_rfl),s5]at bc⊢);exact bc
 exact aN ak [.ag 2 (R.2.map fE)]
end Go.Proofs.YtmaepbgkcmjcjajGreatDoor
