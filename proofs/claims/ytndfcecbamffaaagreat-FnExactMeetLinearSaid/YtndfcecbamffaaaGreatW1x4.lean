/- Part of a proof that a law returns true for every input. No condition. -/
import Derived.Test.YtndfcecbamffaaaGreatC4
namespace Go.Proofs.YtndfcecbamffaaaGreat
open Option Go.IntKind Nat Or
open Go Go.dD Go.ob
set_option maxRecDepth 100000
set_option maxHeartbeats 3600000
set_option linter.unusedSimpArgs false
set_option linter.unusedVariables false
theorem cc (fx:ahC) (eU:List ResultVar) {f:FuncId} {fn:Func} {ins outs:ahI} {r:I} (bS:aj.P.funcs[f]? =some fn) (e1:aT)
 (Fo:∀Q:Exit->ao->Prop,(∀s,eK (dD.Ends aj fx eU r outs) s->Q .ret s)->(∀s,eK (dD.Ends aj fx eU r outs) s->Q .normal s)->bp aj e1 Q (an (num 0 ins))) (ae:ft ⟨fn.ntmps,fx⟩ (fn.body.getD .skip)=some e1.strip:=by kernel_rfl) (U:fn.body=some (fn.body.getD .skip):=by rfl) (lh:(fn.name== "runtime.NumGoroutine")=false:=by rfl) (ba:ins.length<=fn.ntmps:=by exact le_of_ble_eq_true rfl) (gR:fn.results.toList=eU:=by rfl) (aw:e1.plain=true:=by kernel_rfl):bt aj f ins r outs:=
 bt.Nu Gu eU (num 0 ins) bS U lh ae ba gR rfl Fo aw
theorem dp {P:Nat->Prop} (s:∀m,P m->P (m+1)) (z:P 0:=by intros;rename_i h;cases(show none=some _ from h)):∀n,P n:=λn=>Nat.rec z s n
def Ix:=PLift.up (ab @Xa (ab @Xb (ab @Xc (ab @Xd (ab @Xe (ab @Xf (ab @Xg (ab @Xh (ab @Xi (ab @Xj (ab @Xk (ab @Xl (ab @Xm (ab @Xn (ab @Xo (ab @Xp (ab @Xq (ab @Xr (ab @Xs (ab @Xt (ab @Xu (ab @Xv (ab @Xw (ab @Xx (ab @Xy (ab @Xz (ab @XA (ab @XB (ab @XC (ab @XD (ab @XE (ab @XF (ab @XG (ab @lA.eq_1 (ab @ax.eq_1 (ab @q6.eq_1 (ab @q5.eq_1 (ab @bw.eq_1 (ab @bU.eq_1 (ab @q4.eq_1 (ab @a4.eq_1 (ab @xH.eq_1 (ab @aQ.eq_1 (ab @hB.eq_1 (ab @hC.eq_1 (ab @h3.eq_1 (ab @jm.eq_1 (ab @l_.eq_1 (ab @a0.eq_1 (ab @iU.eq_1 (ab @lN.eq_1 (ab @ks.eq_1 (ab @eF.eq_1 (ab @b9.eq_1 (ab @xG.eq_1 (ab @bo.eq_1 @nR.eq_1))))))))))))))))))))))))))))))))))))))))))))))))))))))))
def a3:=PLift.up (ab Wd.down Ix.down)
def b2:=PLift.up (ab We.down Ix.down)
def fm:=PLift.up (ab Wf.down Ix.down)
theorem cq {F A:Prop} (f:F) (h:F->A:=by intro bm;(try simp only[fm.down,simprocAttr,bm,du,cW,bM,eu,I.eY,I.shares]at a9⊢);exact a9):A:=h f
theorem wr {Q l ros k} (bR:ahH) (au:Q .normal (an bR)) (h:∀P:ahH->Prop,P bR->cS aj (an l) ros none (λ_ s=>P (eD k s)):=by
 intro P a9;simp only[a3.down,simprocAttr,du,cW,bM,eu];(try simp only[fm.down,simprocAttr,du,cW,bM,eu]at a9⊢);exact a9):bp aj (.e0 ros (some k)) Q (an l):=
 hH (cx bR (h) au)
theorem fB {Q l ros k} {bR:ahH} (au:Q .normal (an bR)) (h:∀P:ahH->Prop,P bR->cS aj (an l) ros none (λ_ s=>P (eD k s)):=by
 intro P a9;simp only[a3.down,simprocAttr,du,cW,bM,eu];(try simp only[fm.down,simprocAttr,du,cW,bM,eu]at a9⊢);exact a9):bp aj (.e0 ros (some k)) Q (an l):=
 hH (cx bR (h) au)
theorem Iy {Q l ros k g ds r} (ok:bt aj g ds r []) (bR:ahH) (au:Q .normal (an bR)) (h:bt aj g ds r []->∀P:ahH->Prop,P bR->cS aj (an l) ros none (λ_ s=>P (eD k s)):=by
 intro k2 P a9;(try simp only[a3.down,simprocAttr,du,cW,bM,eu]);(first|refine dv k2 rfl rfl rfl rfl (inl (by rfl)) ?_|refine kE k2 rfl rfl rfl rfl (inl (by rfl)) ?_);simp only[a3.down,simprocAttr,du,cW,bM,eu];(try simp only[fm.down,simprocAttr,du,cW,bM,eu]at a9⊢);exact a9):bp aj (.e0 ros (some k)) Q (an l):=
 hH (cx bR (h ok) au)
theorem aaN {Q l ros k g ds r} {F:Prop} (bm:F) (ok:bt aj g ds r []) (bR:ahH) (au:Q .normal (an bR)) (h:bt aj g ds r []->F->∀P:ahH->Prop,P bR->cS aj (an l) ros none (λ_ s=>P (eD k s)):=by
 intro k2 bm P a9;(try simp only[a3.down,simprocAttr,bm,du,cW,bM,eu]);(first|refine dv k2 rfl rfl rfl rfl (inl (by rfl)) ?_|refine kE k2 rfl rfl rfl rfl (inl (by rfl)) ?_);simp only[a3.down,simprocAttr,bm,du,cW,bM,eu];(try simp only[fm.down,simprocAttr,bm,du,cW,bM,eu]at a9⊢);exact a9):bp aj (.e0 ros (some k)) Q (an l):=
 hH (cx bR (h ok bm) au)
theorem ahd {Q l ros k bT g ds r} {F:Prop} (bm:F) (ok:bt aj g ds r []) (bR:ahH) (au:Q .normal (an bR)) (h:bt aj g ds r []->F->∀P:ahH->Prop,P bR->cS aj (an l) ros (some []) (λacc s=>iK (kD bT) 0 [] (acc.getD []).reverse=true/\P (eD k s)):=by
 intro k2 bm P a9;(try simp only[b2.down,simprocAttr,bm,du,cW,bM,eu]);(first|refine ev k2 rfl rfl rfl rfl (inl (by rfl)) ?_|refine m2 k2 rfl rfl rfl rfl (inl (by rfl)) ?_);simp only[b2.down,simprocAttr,bm,du,cW,bM,eu];refine⟨gJ (by kernel_rfl),?_⟩;(try simp only[fm.down,simprocAttr,bm,du,cW,bM,eu]at a9⊢);exact a9) (hl:bT.length=ros.length:=by rfl):bp aj (.h9 ros bT (some k)) Q (an l):=
 sZ hl (hZ bR (h ok bm) au)
theorem ou {Q l ros k} {F:Prop} (bm:F) (bR:ahH) (au:Q .normal (an bR)) (h:F->∀P:ahH->Prop,P bR->cS aj (an l) ros none (λ_ s=>P (eD k s)):=by
 intro bm P a9;simp only[a3.down,simprocAttr,bm,du,cW,bM,eu];(try simp only[fm.down,simprocAttr,bm,du,cW,bM,eu]at a9⊢);exact a9):bp aj (.e0 ros (some k)) Q (an l):=
 hH (cx bR (h bm) au)
theorem ws {Q l ros k b} (bR:ahH) (au:bp aj b Q (an bR)) (h:∀P:ahH->Prop,P bR->cS aj (an l) ros none (λ_ s=>P (eD k s)):=by
 intro P a9;simp only[a3.down,simprocAttr,du,cW,bM,eu];(try simp only[fm.down,simprocAttr,du,cW,bM,eu]at a9⊢);exact a9):bp aj (.seq (.e0 ros (some k)) b) Q (an l):=
 df (cx bR (h) au)
theorem aI {Q l ros k b} {bR:ahH} (au:bp aj b Q (an bR)) (h:∀P:ahH->Prop,P bR->cS aj (an l) ros none (λ_ s=>P (eD k s)):=by
 intro P a9;simp only[a3.down,simprocAttr,du,cW,bM,eu];(try simp only[fm.down,simprocAttr,du,cW,bM,eu]at a9⊢);exact a9):bp aj (.seq (.e0 ros (some k)) b) Q (an l):=
 df (cx bR (h) au)
theorem bl {Q l ros k fx eU r} {bR:ahH} (i_:∀s,eK (dD.Ends aj fx eU r []) s->Q .ret s) (ds:ahI) (h:∀P:ahH->Prop,P bR->cS aj (an l) ros none (λ_ s=>P (eD k s)):=by
 intro P a9;simp only[a3.down,simprocAttr,du,cW,bM,eu];(try simp only[fm.down,simprocAttr,du,cW,bM,eu]at a9⊢);exact a9) (ag:r=BC ds:=by cases gB (by assumption);rfl) (af:eU.map (pW aj (an bR))=ds.map some:=by rfl) (aJ:(eU.map jQ).Nodup:=by decide):bp aj (.seq (.e0 ros (some k)) .ret) Q (an l):=
 ws bR (dX i_ ds ag af aJ) h
theorem ej {Q l ros k b g ds r} (ok:bt aj g ds r []) (bR:ahH) (au:bp aj b Q (an bR)) (h:bt aj g ds r []->∀P:ahH->Prop,P bR->cS aj (an l) ros none (λ_ s=>P (eD k s)):=by
 intro k2 P a9;(try simp only[a3.down,simprocAttr,du,cW,bM,eu]);(first|refine dv k2 rfl rfl rfl rfl (inl (by rfl)) ?_|refine kE k2 rfl rfl rfl rfl (inl (by rfl)) ?_);simp only[a3.down,simprocAttr,du,cW,bM,eu];(try simp only[fm.down,simprocAttr,du,cW,bM,eu]at a9⊢);exact a9):bp aj (.seq (.e0 ros (some k)) b) Q (an l):=
 df (cx bR (h ok) au)
theorem hi {Q l ros k b g ds r} {F:Prop} (bm:F) (ok:bt aj g ds r []) (bR:ahH) (au:bp aj b Q (an bR)) (h:bt aj g ds r []->F->∀P:ahH->Prop,P bR->cS aj (an l) ros none (λ_ s=>P (eD k s)):=by
 intro k2 bm P a9;(try simp only[a3.down,simprocAttr,bm,du,cW,bM,eu]);(first|refine dv k2 rfl rfl rfl rfl (inl (by rfl)) ?_|refine kE k2 rfl rfl rfl rfl (inl (by rfl)) ?_);simp only[a3.down,simprocAttr,bm,du,cW,bM,eu];(try simp only[fm.down,simprocAttr,bm,du,cW,bM,eu]at a9⊢);exact a9):bp aj (.seq (.e0 ros (some k)) b) Q (an l):=
 df (cx bR (h ok bm) au)
theorem aaO {Q l ros k b bT} (bR:ahH) (au:bp aj b Q (an bR)) (h:∀P:ahH->Prop,P bR->cS aj (an l) ros (some []) (λacc s=>iK (kD bT) 0 [] (acc.getD []).reverse=true/\P (eD k s)):=by
 intro P a9;simp only[b2.down,simprocAttr,du,cW,bM,eu];refine⟨gJ (by kernel_rfl),?_⟩;(try simp only[fm.down,simprocAttr,du,cW,bM,eu]at a9⊢);exact a9) (hl:bT.length=ros.length:=by rfl):bp aj (.seq (.h9 ros bT (some k)) b) Q (an l):=
 ka hl (hZ bR (h) au)
theorem ahe {Q l ros k b bT g ds r} (ok:bt aj g ds r []) (bR:ahH) (au:bp aj b Q (an bR)) (h:bt aj g ds r []->∀P:ahH->Prop,P bR->cS aj (an l) ros (some []) (λacc s=>iK (kD bT) 0 [] (acc.getD []).reverse=true/\P (eD k s)):=by
 intro k2 P a9;(try simp only[b2.down,simprocAttr,du,cW,bM,eu]);(first|refine ev k2 rfl rfl rfl rfl (inl (by rfl)) ?_|refine m2 k2 rfl rfl rfl rfl (inl (by rfl)) ?_);simp only[b2.down,simprocAttr,du,cW,bM,eu];refine⟨gJ (by kernel_rfl),?_⟩;(try simp only[fm.down,simprocAttr,du,cW,bM,eu]at a9⊢);exact a9) (hl:bT.length=ros.length:=by rfl):bp aj (.seq (.h9 ros bT (some k)) b) Q (an l):=
 ka hl (hZ bR (h ok) au)
theorem ma {Q l ros k b bT g ds r} {F:Prop} (bm:F) (ok:bt aj g ds r []) (bR:ahH) (au:bp aj b Q (an bR)) (h:bt aj g ds r []->F->∀P:ahH->Prop,P bR->cS aj (an l) ros (some []) (λacc s=>iK (kD bT) 0 [] (acc.getD []).reverse=true/\P (eD k s)):=by
 intro k2 bm P a9;(try simp only[b2.down,simprocAttr,bm,du,cW,bM,eu]);(first|refine ev k2 rfl rfl rfl rfl (inl (by rfl)) ?_|refine m2 k2 rfl rfl rfl rfl (inl (by rfl)) ?_);simp only[b2.down,simprocAttr,bm,du,cW,bM,eu];refine⟨gJ (by kernel_rfl),?_⟩;(try simp only[fm.down,simprocAttr,bm,du,cW,bM,eu]at a9⊢);exact a9) (hl:bT.length=ros.length:=by rfl):bp aj (.seq (.h9 ros bT (some k)) b) Q (an l):=
 ka hl (hZ bR (h ok bm) au)
theorem Iz {Q l ros k b bT} {F:Prop} (bm:F) (bR:ahH) (au:bp aj b Q (an bR)) (h:F->∀P:ahH->Prop,P bR->cS aj (an l) ros (some []) (λacc s=>iK (kD bT) 0 [] (acc.getD []).reverse=true/\P (eD k s)):=by
 intro bm P a9;simp only[b2.down,simprocAttr,bm,du,cW,bM,eu];refine⟨gJ (by kernel_rfl),?_⟩;(try simp only[fm.down,simprocAttr,bm,du,cW,bM,eu]at a9⊢);exact a9) (hl:bT.length=ros.length:=by rfl):bp aj (.seq (.h9 ros bT (some k)) b) Q (an l):=
 ka hl (hZ bR (h bm) au)
theorem OH {Q l ros k b bT} (e:Bool) {F:Prop} (bm:F) (bR:ahH) (au:bp aj b Q (an bR)) (h:F->∀c,e=c->∀P:ahH->Prop,P bR->cS aj (an l) ros (some []) (λacc s=>iK (kD bT) 0 [] (acc.getD []).reverse=true/\P (eD k s)):=by
 intro bm c aC P a9;cases c;all_goals
  (try simp only[List.length_replicate]at aC);simp only[b2.down,simprocAttr,aC,bm,du,cW,bM,eu];refine⟨gJ (by kernel_rfl),?_⟩;(try simp only[fm.down,simprocAttr,aC,bm,du,cW,bM,eu]at a9⊢);exact a9) (hl:bT.length=ros.length:=by rfl):bp aj (.seq (.h9 ros bT (some k)) b) Q (an l):=
 ka hl (hZ bR (h bm e rfl) au)
theorem db {Q l ros k b} {F:Prop} (bm:F) (bR:ahH) (au:bp aj b Q (an bR)) (h:F->∀P:ahH->Prop,P bR->cS aj (an l) ros none (λ_ s=>P (eD k s)):=by
 intro bm P a9;simp only[a3.down,simprocAttr,bm,du,cW,bM,eu];(try simp only[fm.down,simprocAttr,bm,du,cW,bM,eu]at a9⊢);exact a9):bp aj (.seq (.e0 ros (some k)) b) Q (an l):=
 df (cx bR (h bm) au)
theorem Ad {Q l ros k b} {F:Prop} (bm:F) (bR:ahH) (au:bp aj b Q (an bR)) (h:F->∀P:ahH->Prop,P bR->cS aj (an l) ros none (λ_ s=>P (eD k s)):=by
 intro bm P a9;simp only[a3.down,simprocAttr,bm,du,cW,bM,eu,-Int.reduceNatCast'];(try simp only[fm.down,simprocAttr,bm,du,cW,bM,eu,-Int.reduceNatCast']at a9⊢);exact a9):bp aj (.seq (.e0 ros (some k)) b) Q (an l):=
 df (cx bR (h bm) au)
theorem r_ {Q l ros k b} (e:Bool) (bR:ahH) (au:bp aj b Q (an bR)) (h:∀c,e=c->∀P:ahH->Prop,P bR->cS aj (an l) ros none (λ_ s=>P (eD k s)):=by
 intro c aC P a9;cases c;all_goals
  (try simp only[List.length_replicate]at aC);simp only[a3.down,simprocAttr,aC,du,cW,bM,eu];(try simp only[fm.down,simprocAttr,aC,du,cW,bM,eu]at a9⊢);exact a9):bp aj (.seq (.e0 ros (some k)) b) Q (an l):=
 df (cx bR (h e rfl) au)
theorem Da {Q l ros k b} (e:Bool) {F:Prop} (bm:F) (bR:ahH) (au:bp aj b Q (an bR)) (h:F->∀c,e=c->∀P:ahH->Prop,P bR->cS aj (an l) ros none (λ_ s=>P (eD k s)):=by
 intro bm c aC P a9;cases c;all_goals
  (try simp only[List.length_replicate]at aC);simp only[a3.down,simprocAttr,aC,bm,du,cW,bM,eu];(try simp only[fm.down,simprocAttr,aC,bm,du,cW,bM,eu]at a9⊢);exact a9):bp aj (.seq (.e0 ros (some k)) b) Q (an l):=
 df (cx bR (h bm e rfl) au)
def iv:=PLift.up (ab (@kF aj 60 59 1 1 [.ah] rfl rfl rfl (by kernel_rfl)) (ab @i2 (ab @i3 (ab @dV (ab @fl (ab @List.nil_append.{0} (ab @List.cons_append.{0} (ab (@h0 aj 60 60 59 rfl rfl) (ab @ia (ab @ib (ab @h_ (ab @all_nil (@hx _ bo 1 (λ_=>rfl))))))))))))))
def jW:=PLift.up (ab @List.length_append.{0} (ab @List.length_cons.{0} (ab @List.length_nil.{0} (ab @List.length_map.{0,0} @List.length_replicate.{0}))))
def jX:=PLift.up (ab (@lG aj 62 [(22,0),(59,1),(9,2),(60,3),(60,4)] [.ah,.ah,(.str []),.ah,.ah] rfl rfl (by kernel_rfl)) (ab @i2 (ab @i3 (ab @dV (ab @fl (ab @List.nil_append.{0} (ab @List.cons_append.{0} (ab (@kF aj 27 62 1 5 [(.agg [.ah,.ah,(.str []),.ah,.ah])] rfl rfl rfl (by kernel_rfl)) (ab (@h0 aj 27 27 62 rfl rfl) (ab @ia (ab @ib (ab @h_ (ab @all_nil (@hx _ b9 5 (λ_=>rfl)))))))))))))))
def kI:=PLift.up (ab @List.cons_append.{0} (ab @List.nil_append.{0} (ab @List.length_append.{0} (ab @List.length_cons.{0} (ab @List.length_nil.{0} (ab @List.length_map.{0,0} @List.length_replicate.{0}))))))
def pd:=PLift.up (ab @FW @VF)
def pe:=PLift.up (ab @y5 (ab @y6 @y4))
def qh:=PLift.up (ab (@kF aj 27 62 1 5 [(.agg [.ah,.ah,(.str []),.ah,.ah])] rfl rfl rfl (by kernel_rfl)) (ab @i2 (ab @i3 (ab @dV (ab @fl (ab @List.nil_append.{0} (ab @List.cons_append.{0} (ab (@h0 aj 27 27 62 rfl rfl) (ab @ia (ab @ib (ab @h_ (ab @all_nil (@hx _ b9 5 (λ_=>rfl))))))))))))))
def tt:=PLift.up (ab (@lG aj 62 [(22,0),(59,1),(9,2),(60,3),(60,4)] [.ah,.ah,(.str []),.ah,.ah] rfl rfl (by kernel_rfl)) (ab @i2 (ab @i3 (ab @dV (ab @fl (ab @List.nil_append.{0} (ab @List.cons_append.{0} (ab (@kF aj 27 62 1 5 [(.agg [.ah,.ah,(.str []),.ah,.ah])] rfl rfl rfl (by kernel_rfl)) (ab (@h0 aj 27 27 62 rfl rfl) (ab @ia (ab @ib (ab @h_ (ab @all_nil (ab (@hx _ b9 5 (λ_=>rfl)) (ab @gw (ab @gx (ab @gy (ab @dg (ab (@bB _ ax ax (λ_=>fu _)) (ab (@bB _ aQ aQ (λ_=>iu _)) (ab (@bB _ a0 a0 (λ_=>jV _)) (@bB _ a0 a0 (λ_=>jV _)))))))))))))))))))))))
def xI:=PLift.up (ab (@kF aj 161 60 2 1 [.ah,.ah] rfl rfl rfl (by kernel_rfl)) (ab @i2 (ab @i3 (ab @dV (ab @fl (ab @List.nil_append.{0} @List.cons_append.{0}))))))
def xJ:=PLift.up (ab @gw (ab @gx (ab @gy (ab @dg (ab (@bB _ ax ax (λ_=>fu _)) (ab (@bB _ b9 a4 (λ_=>oq _)) (ab (@bB _ ax ax (λ_=>fu _)) (@bB _ a4 a4 (λ_=>lo _)))))))))
def Ae:=PLift.up (ab @gw (ab @gx (ab @gy (ab @dg (ab (@bB _ ax ax (λ_=>fu _)) (@bB _ a4 a4 (λ_=>lo _)))))))
def Db:=PLift.up (ab (@lG aj 62 [(22,0),(59,1),(9,2),(60,3),(60,4)] [.ah,.ah,(.str []),.ah,.ah] rfl rfl (by kernel_rfl)) (ab @i2 (ab @i3 (ab @dV (ab @fl (ab @List.nil_append.{0} @List.cons_append.{0}))))))
def Dc:=PLift.up (ab (@kF aj 60 59 2 1 [.ah,.ah] rfl rfl rfl (by kernel_rfl)) (ab @i2 (ab @i3 (ab @dV (ab @fl (ab @List.nil_append.{0} @List.cons_append.{0}))))))
def Dd:=PLift.up (ab @gw (ab @gx (ab @gy @dg)))
def De:=PLift.up (ab @Ik @X8)
def Df:=PLift.up (ab (show∀s,d_ aj s 102 [(0,.int .i64 2),(1,.int .i64 7)]=some (.agg [.int .i64 2,.int .i64 7],s)from λs=>by kernel_rfl) (ab (show∀s,c5 aj s 59 1 [(0,.agg [.int .i64 2,.int .i64 7])]=some (.ad 2 [.agg [.int .i64 2,.int .i64 7]],s)from λs=>by kernel_rfl) (ab @y3 (ab @y2 (ab @dg (ab @y1 (ab (@bB _ aQ aQ (λ_=>iu _)) (@hx _ a0 1 (λ_=>rfl)))))))))
def Dg:=PLift.up (ab (@kF aj 181 22 2 1 [.ah,.ah] rfl rfl rfl (by kernel_rfl)) (ab @i2 (ab @i3 (ab @dV (ab @fl (ab @List.nil_append.{0} (ab @List.cons_append.{0} (ab (@kF aj 161 60 2 1 [.ah,.ah] rfl rfl rfl (by kernel_rfl)) (ab (@lG aj 62 [(22,0),(59,1),(9,2),(60,3),(60,4)] [.ah,.ah,(.str []),.ah,.ah] rfl rfl (by kernel_rfl)) @wH)))))))))
def Dh:=PLift.up (ab @dg @X6)
def IA:=PLift.up (ab @y3 (ab @y2 (ab @dg (ab @y1 (ab (@bB _ aQ aQ (λ_=>iu _)) (ab (@bB _ a0 a0 (λ_=>jV _)) (@bB _ lN lN (λ_=>X5 _))))))))
def IB:=PLift.up (ab @gw (ab @gx (ab @gy (ab @dg (ab (@bB _ a0 a0 (λ_=>jV _)) (ab (@bB _ ax ax (λ_=>fu _)) (ab (@bB _ aQ aQ (λ_=>iu _)) (ab (@bB _ a0 a0 (λ_=>jV _)) (@bB _ a0 a0 (λ_=>jV _))))))))))
def IC:=PLift.up (ab (@lG aj 29 [(2,0),(22,1),(27,2)] [(.int .i64 0),.ah,.ah] rfl rfl (by kernel_rfl)) (ab @i2 (ab @i3 (ab @dV (ab @fl (ab @List.nil_append.{0} @List.cons_append.{0}))))))
def ID:=PLift.up (ab (show∀s,d_ aj s 102 [(0,.int .i64 2),(1,.int .i64 3)]=some (.agg [.int .i64 2,.int .i64 3],s)from λs=>by kernel_rfl) (ab (show∀s,c5 aj s 59 1 [(0,.agg [.int .i64 2,.int .i64 3])]=some (.ad 2 [.agg [.int .i64 2,.int .i64 3]],s)from λs=>by kernel_rfl) (ab @y3 (ab @y2 (ab @dg (ab @y1 (@bB _ aQ aQ (λ_=>iu _))))))))
def IE:=PLift.up (ab @gw (ab @gx (ab @gy (ab @dg (ab (@bB _ ax ax (λ_=>fu _)) (@bB _ b9 a4 (λ_=>oq _)))))))
def IF:=PLift.up (ab @qT (ab @o0 (ab @nF (ab @gw (ab @gx (ab @gy (ab @dg (ab @or_true (ab @true_or (ab (@bB _ ax ax (λ_=>fu _)) (@bB _ b9 a4 (λ_=>oq _))))))))))))
def OI:=PLift.up (ab @gw (ab @gx (ab @gy (ab @dg (ab (@bB _ ax ax (λ_=>fu _)) (ab (@bB _ aQ aQ (λ_=>iu _)) (ab (@bB _ a0 a0 (λ_=>jV _)) (@bB _ a0 a0 (λ_=>jV _)))))))))
def OJ:=PLift.up (ab (@h0 aj 22 22 2 rfl rfl) (ab @ia (ab @ib (ab @fl (ab @h_ (ab @all_nil (ab (@hx _ ax 1 (λ_=>rfl)) (ab (@lG aj 62 [(22,0),(59,1),(9,2),(60,3),(60,4)] [.ah,.ah,(.str []),.ah,.ah] rfl rfl (by kernel_rfl)) (ab @i2 (ab @i3 (ab @dV (ab @List.nil_append.{0} (ab @List.cons_append.{0} @wH)))))))))))))
def OK:=PLift.up (ab @Od (ab @X7 (ab (@h0 aj 59 59 102 rfl rfl) (ab @ia (ab @ib (ab @fl (ab @h_ (ab @all_nil (ab (@hx _ aQ 2 (λ_=>rfl)) (ab (@kF aj 60 59 1 1 [.ah] rfl rfl rfl (by kernel_rfl)) (ab @i2 (ab @i3 (ab @dV (ab @List.nil_append.{0} (ab @List.cons_append.{0} (ab (@h0 aj 60 60 59 rfl rfl) (@hx _ bo 1 (λ_=>rfl))))))))))))))))))
def OL:=PLift.up (ab @gw (ab @gx (ab @gy (ab @dg (@bB _ bU bU (λ_=>q3 _))))))
def OM:=PLift.up (ab (@h0 aj 27 27 62 rfl rfl) (ab @ia (ab @ib (ab @fl (ab @h_ (ab @all_nil (@hx _ a4 5 (λ_=>rfl))))))))
def ON:=PLift.up (ab @wj (ab (λs x h=> @wi aj s 60 59 x rfl h) (ab @F1 (ab @FZ (ab @F2 (ab @FY (ab @List.map_replicate.{0,0} (ab (λs y q=>(rV aj s 60 y q).1) (ab (λs y q=>(rV aj s 60 y q).2.1) (ab (λs y q=>(rV aj s 60 y q).2.2) @F3))))))))))
def OO:=PLift.up (ab @wj (ab (λs x h=> @wi aj s 22 2 x rfl h) (ab @F1 (ab @FZ (ab @F2 (ab @FY (ab @List.map_replicate.{0,0} (ab (λs y q=>(rV aj s 22 y q).1) (ab (λs y q=>(rV aj s 22 y q).2.1) (ab (λs y q=>(rV aj s 22 y q).2.2) @F3))))))))))
def OP:=PLift.up (ab (@h0 aj 60 60 59 rfl rfl) (ab @ia (ab @ib (ab @fl (ab @h_ (ab @all_nil (ab @C9 (ab @Il (@hx _ bo 1 (λ_=>rfl))))))))))
def OQ:=PLift.up (ab (@kF aj 161 60 2 1 [.ah,.ah] rfl rfl rfl (by kernel_rfl)) (ab @i2 (ab @i3 (ab @dV (ab @fl (ab @List.nil_append.{0} (ab @List.cons_append.{0} (ab @gw (ab @gx (ab @gy (ab @dg (@bB _ bo a0 (λ_=>nQ _)))))))))))))
def OR:=PLift.up (ab (@kF aj 161 60 2 1 [.ah,.ah] rfl rfl rfl (by kernel_rfl)) (ab @i2 (ab @i3 (ab @dV (ab @fl (ab @List.nil_append.{0} (ab @List.cons_append.{0} (ab @qT (ab @o0 (ab @nF (ab @gw (ab @gx (ab @gy (ab @dg (ab @or_true (ab @true_or (ab (@bB _ bo a0 (λ_=>nQ _)) (ab (@bB _ bo a0 (λ_=>nQ _)) (@bB _ nR lN (λ_=>Oc _))))))))))))))))))))
def OS:=PLift.up (ab (@kF aj 161 60 2 1 [.ah,.ah] rfl rfl rfl (by kernel_rfl)) (ab @i2 (ab @i3 (ab @dV (ab @fl (ab @List.nil_append.{0} (ab @List.cons_append.{0} @l3)))))))
def OT:=PLift.up (ab @wj (ab (λs x h=> @wi aj s 59 102 x rfl h) (ab @F1 (ab @FZ (ab @F2 (ab @FY (ab @List.map_replicate.{0,0} (ab (λs y q=>(rV aj s 59 y q).1) (ab (λs y q=>(rV aj s 59 y q).2.1) (ab (λs y q=>(rV aj s 59 y q).2.2) @F3))))))))))
def OU:=PLift.up (ab @o0 (ab @nF (ab @gw (ab @gx (ab @gy (ab @dg (ab @or_true (ab @true_or (@bB _ aQ aQ (λ_=>iu _))))))))))
def OV:=PLift.up (ab @o0 (ab @nF (ab @gw (ab @gx (ab @gy (ab @dg (ab @or_true (ab @true_or (@bB _ bo a0 (λ_=>nQ _))))))))))
def OW:=PLift.up (ab @jh (ab @qT (ab @o0 (ab @nF (ab @gw (ab @gx (ab @gy (ab @dg (ab @or_true (ab @true_or (@bB _ bU bU (λ_=>q3 _))))))))))))
def OX:=PLift.up (ab @gw (ab @gx (ab @gy (ab @dg (ab (@bB _ ax ax (λ_=>fu _)) (ab (@bB _ b9 a4 (λ_=>oq _)) (ab (@bB _ ax ax (λ_=>fu _)) (@bB _ b9 a4 (λ_=>oq _)))))))))
def OY:=PLift.up (ab @jh (ab @gw (ab @gx (ab @gy (ab @dg (ab (@bB _ ax ax (λ_=>fu _)) (ab (@bB _ b9 a4 (λ_=>oq _)) (ab (@bB _ ax ax (λ_=>fu _)) (ab (@bB _ b9 a4 (λ_=>oq _)) (@bB _ bU bU (λ_=>q3 _)))))))))))
theorem OZ (j J r) (h:zn j J=some r):bt aj 24 [.slice (j.map ax),.int .i64 J] (.int .i64 r) []:=by
 refine cc [0] [.tmp 4] Tryz.func24 Is λb6 aD b8=>aI ?_;refine aI ?_;refine aR aD λ_ fC dS _=>aI ?_;refine bg h (λc9 h=>?_) λc9 h=>?_
 .exact bl dS [.int .i64 (-1)]
 .exact bf (fC _ (inl (bl aD [.int .i64 (i64.wrap (J-(j.length:Int)))])))
theorem O0 (j J r) (h:wN j J=some r):bt aj 104 [.slice (j.map jm),.int .i64 J] (.int .i64 r) []:=by
 refine cc [0] [.tmp 4] Tryz.func104 X9 λb6 aD b8=>aI ?_;refine aI ?_;refine aR aD λ_ fC dS _=>aI ?_;refine bg h (λc9 h=>?_) λc9 h=>?_
 .exact bl dS [.int .i64 (-1)]
 .exact bf (fC _ (inl (bl aD [.int .i64 (i64.wrap (J-(j.length:Int)))])))
theorem O1 (j J r) (h:zo j J=some r):bt aj 105 [.slice (j.map iU),.int .i64 J] (.int .i64 r) []:=by
 refine cc [0] [.tmp 4] Tryz.func105 X_ λb6 aD b8=>aI ?_;refine aI ?_;refine aR aD λ_ fC dS _=>aI ?_;refine bg h (λc9 h=>?_) λc9 h=>?_
 .exact bl dS [.int .i64 (-1)]
 .refine bf (fC _ (inl (aR aD λ_ eG eR _=>aI ?_)));refine bI eR λov _ dm e7 _=>?_;show bp aj (.loop ?nd) _ _;have nf:∀n hN hO,GB j n hN hO=some r->dc aj ?nd ov (an [(0,.slice (j.map iU)),(1,.int .i64 hN),(5,.int .i64 hO)]):=by
   refine dp λ_ ng hN hO h=>dn dm λ_ cD c3 dw=>aR c3 λ_ dP _ ey=>aI ?_;refine bg h (λkf h=>?_) λkf h=>?_
   .refine bf (dP _ (inl (aR c3 λ_ fX e8 _=>bI e8 λ_ iV jY _ _=>?_)));obtain⟨aa,f_,h⟩:=aM h;obtain⟨ak,ga,h⟩:=aM h;refine hi f_ (O0 aa hN _ ga) _ ?_;refine aI ?_;refine bg h (λhj h=>?_) λhj h=>?_
    .exact bl jY [.int .i64 (-1)]
    .refine bf (iV _ (fX _ (inl (fB ?_))));exact cD _ (inr ⟨_,cH rfl,ng ak (i64.wrap (hO+1)) h⟩)
   .exact dk (ey 0 _ (dw 0 _ (e7 _ (eG _ (inl (bl aD [.int .i64 hN]))))))
  exact ew h λn h=>nf n (i64.wrap (J-(j.length:Int))) 0 h
theorem aaP (j J r) (h:zp j J=some r):bt aj 52 [h3 j,.int .i64 J] (.int .i64 r) []:=by
 refine cc [0] [.tmp 4] Tryz.func52 Ya λb6 aD b8=>aI ?_;obtain⟨aa,bb,h⟩:=aM h;refine ej (OZ j.a5 J _ bb) _ ?_;refine aR aD λ_ gp cG a2=>aI ?_;refine bg h (λeZ h=>?_) λeZ h=>?_
 .exact bl cG [.int .i64 (-1)]
 .refine bf (gp _ (inl ?_));obtain⟨ak,gQ,h⟩:=aM h;refine ej (O0 j.Guard aa _ gQ) _ ?_;refine aR aD λ_ cD c3 _=>aI ?_;refine bg h (λhQ h=>?_) λhQ h=>?_
  .exact bl c3 [.int .i64 (-1)]
  .refine bf (cD _ (inl (aI ?_)));refine aR aD λ_ iV jY _=>aI ?_;refine bg h (λjB h=>?_) λjB h=>?_
   .exact bl jY [.int .i64 (-1)]
   .refine bf (iV _ (inl ?_));obtain⟨aL,iL,h⟩:=aM h;refine ej (O1 j.aW (i64.wrap (ak-(j.Name.length:Int))) _ iL) _ ?_;refine aR aD λ_ mb lO _=>aI ?_;refine bg h (λel h=>?_) λel h=>?_
    .exact bl lO [.int .i64 (-1)]
    .refine bf (mb _ (inl ?_));obtain⟨a2,q7,h⟩:=aM h;refine ej (O1 j.Next aL _ q7) _ ?_;refine aR aD λ_ qi xK _=>aI ?_;refine bg h (λjZ h=>?_) λjZ h=>?_
     .exact bl xK [.int .i64 (-1)]
     .exact bf (qi _ (inl (bl aD [.int .i64 a2])))
theorem aaQ (j J r) (h:B4 j J=some r):bt aj 25 [.slice (j.map h3),.int .i64 J] (.int .i64 r) []:=by
 refine cc [0] [.tmp 4] Tryz.func25 It λb6 aD b8=>aI ?_;refine aI ?_;refine aR aD λ_ fC dS _=>aI ?_;refine bg h (λc9 h=>?_) λc9 h=>?_
 .exact bl dS [.int .i64 (-1)]
 .refine bf (fC _ (inl (aR aD λ_ eG eR _=>aI ?_)));refine bI eR λov _ dm e7 _=>?_;show bp aj (.loop ?nd) _ _;have nf:∀n hN hO,GC j n hN hO=some r->dc aj ?nd ov (an [(0,.slice (j.map h3)),(1,.int .i64 hN),(5,.int .i64 hO)]):=by
   refine dp λ_ ng hN hO h=>dn dm λ_ cD c3 dw=>aR c3 λ_ dP _ ey=>aI ?_;refine bg h (λkf h=>?_) λkf h=>?_
   .refine bf (dP _ (inl (aR c3 λ_ fX e8 _=>bI e8 λ_ iV jY _ _=>?_)));obtain⟨aa,f_,h⟩:=aM h;obtain⟨ak,ga,h⟩:=aM h;refine hi f_ (aaP aa hN _ ga) _ ?_;refine aI ?_;refine bg h (λhj h=>?_) λhj h=>?_
    .exact bl jY [.int .i64 (-1)]
    .refine bf (iV _ (fX _ (inl (fB ?_))));exact cD _ (inr ⟨_,cH rfl,ng ak (i64.wrap (hO+1)) h⟩)
   .exact dk (ey 0 _ (dw 0 _ (e7 _ (eG _ (inl (bl aD [.int .i64 hN]))))))
  exact ew h λn h=>nf n (i64.wrap (J-(j.length:Int))) 0 h
theorem O2 (j J r) (h:zq j J=some r):bt aj 6 [hB j,.int .i64 J] (.int .i64 r) []:=by
 refine cc [0] [.tmp 4] Tryz.func6 gf λb6 aD b8=>aI ?_;obtain⟨aa,bb,h⟩:=aM h;refine ej (OZ j.Start J _ bb) _ ?_;refine aR aD λ_ gp cG _=>aI ?_;refine bg h (λeZ h=>?_) λeZ h=>?_
 .exact bl cG [.int .i64 (-1)]
 .refine bf (gp _ (inl ?_));obtain⟨ak,gQ,h⟩:=aM h;refine ej (aaQ j.aU aa _ gQ) _ ?_;refine aR aD λ_ cD c3 _=>aI ?_;refine bg h (λhQ h=>?_) λhQ h=>?_
  .exact bl c3 [.int .i64 (-1)]
  .exact bf (cD _ (inl (bl aD [.int .i64 ak])))
theorem aaR (j J r) (h:zr j J=some r):bt aj 42 [hC j,.int .i64 J] (.int .i64 r) []:=by
 refine cc [0] [.tmp 4] Tryz.func42 Iu λb6 aD b8=>aI ?_;refine aI ?_;refine aR aD λ_ fC dS _=>aI ?_;refine bg h (λc9 h=>?_) λc9 h=>?_
 .exact bl dS [.int .i64 (-1)]
 .refine bf (fC _ (inl (aI ?_)));refine aR aD λ_ fK hR _=>aI ?_;refine bg h (λh4 h=>?_) λh4 h=>?_
  .exact bl hR [.int .i64 (-1)]
  .refine bf (fK _ (inl (aI ?_)));refine aR aD λ_ hS h5 _=>aI ?_;refine bg h (λk3 h=>?_) λk3 h=>?_
   .exact bl h5 [.int .i64 (-1)]
   .exact bf (hS _ (inl (bl aD [.int .i64 (i64.wrap ((i64.wrap ((i64.wrap (J-(j.Left.length:Int)))-(j.cf.length:Int)))-(j.Result.length:Int)))])))
theorem aaS (j J r) (h:B5 j J=some r):bt aj 16 [.slice (j.map hC),.int .i64 J] (.int .i64 r) []:=by
 refine cc [0] [.tmp 4] Tryz.func16 nd λb6 aD b8=>aI ?_;refine aI ?_;refine aR aD λ_ fC dS _=>aI ?_;refine bg h (λc9 h=>?_) λc9 h=>?_
 .exact bl dS [.int .i64 (-1)]
 .refine bf (fC _ (inl (aR aD λ_ eG eR _=>aI ?_)));refine bI eR λov _ dm e7 _=>?_;show bp aj (.loop ?nd) _ _;have nf:∀n hN hO,GD j n hN hO=some r->dc aj ?nd ov (an [(0,.slice (j.map hC)),(1,.int .i64 hN),(5,.int .i64 hO)]):=by
   refine dp λ_ ng hN hO h=>dn dm λ_ cD c3 dw=>aR c3 λ_ dP _ ey=>aI ?_;refine bg h (λkf h=>?_) λkf h=>?_
   .refine bf (dP _ (inl (aR c3 λ_ fX e8 _=>bI e8 λ_ iV jY _ _=>?_)));obtain⟨aa,f_,h⟩:=aM h;obtain⟨ak,ga,h⟩:=aM h;refine hi f_ (aaR aa hN _ ga) _ ?_;refine aI ?_;refine bg h (λhj h=>?_) λhj h=>?_
    .exact bl jY [.int .i64 (-1)]
    .refine bf (iV _ (fX _ (inl (fB ?_))));exact cD _ (inr ⟨_,cH rfl,ng ak (i64.wrap (hO+1)) h⟩)
   .exact dk (ey 0 _ (dw 0 _ (e7 _ (eG _ (inl (bl aD [.int .i64 hN]))))))
  exact ew h λn h=>nf n (i64.wrap (J-(j.length:Int))) 0 h
theorem O3 (j r) (h:zs j=some r):bt aj 30 [.slice (j.map ax)] (.ad 1 (r.map ax)) []:=by
 refine cc [0] [.tmp 2] Tryz.func30 Yb λb6 aD b8=>aI ?_;obtain⟨Af,bb,h⟩:=aM h;refine Ad (ab (pr bb) @List.map_replicate.{0,0}) [(0,.slice (j.map ax)),(3,.ad 1 ((List.replicate (Int.toNat (j.length:Int)) 0).map ax))] ?_;refine aR aD λ_ gp cG _=>ws [(0,.slice (j.map ax)),(3,.ad 1 ((List.replicate (Int.toNat (j.length:Int)) 0).map ax)),(4,.int .i64 0)] ?_;refine bI cG λiM _ c8 eZ _=>?_;show bp aj (.loop ?gF) _ _;have fL:∀n bH cN,GF j n bH cN=some r->dc aj ?gF iM (an [(0,.slice (j.map ax)),(3,.ad 1 (bH.map ax)),(4,.int .i64 cN)]):=by
  refine dp λ_ fw bH cN h=>dn c8 λ_ eG eR bq=>aR eR λ_ fK _ cn=>aI ?_;refine bg h (λh4 h=>?_) λh4 h=>?_
  .refine bf (fK _ (inl (aR eR λ_ dP gz _=>bI gz λ_ gU _ _ _=>?_)));obtain⟨aa,eH,h⟩:=aM h;obtain⟨ak,ez,h⟩:=aM h;refine hH (cx [(0,.slice (j.map ax)),(3,.ad 1 ((List.set bH (Int.toNat cN) aa).map ax)),(4,.int .i64 cN)] (λP a9=>?_) ?_)
   .simp only[a3.down,simprocAttr,eH,ez,da ez,dV,du];exact cq (ab eH (ab ez (ab (da ez) @dV)))
   refine gU _ (dP _ (inl (wr [(0,.slice (j.map ax)),(3,.ad 1 ((List.set bH (Int.toNat cN) aa).map ax)),(4,.int .i64 (i64.wrap (cN+1)))] ?_)));exact eG _ (inr ⟨_,cH rfl,fw (List.set bH (Int.toNat cN) aa) (i64.wrap (cN+1)) h⟩)
  .exact dk (cn 0 _ (bq 0 _ (eZ _ (gp _ (inl (bl aD [.ad 1 (bH.map ax)]))))))
 exact ew h λn h=>fL n (List.replicate (Int.toNat (j.length:Int)) 0) 0 h
theorem aaT (j r) (h:zt j=some r):bt aj 153 [jm j] (aQ r) []:=by
 refine cc [0] [.cell 2 102] Tryz.func153 Yc λb6 aD b8=>aI ?_;refine aI ?_;refine aI ?_;refine aI ?_;exact bl aD [aQ (ar.mk j.Kind j.Value)]
theorem O4 (j r) (h:wO j=some r):bt aj 112 [.slice (j.map jm)] (.ad 2 (r.map aQ)) []:=by
 refine cc [0] [.tmp 2] Tryz.func112 Yd λb6 aD b8=>aI ?_;obtain⟨Ag,bb,h⟩:=aM h;refine Ad (ab (pr bb) @List.map_replicate.{0,0}) [(0,.slice (j.map jm)),(3,.ad 2 ((List.replicate (Int.toNat (j.length:Int)) (ar.mk 0 0)).map aQ))] ?_;refine aR aD λ_ gp cG _=>ws [(0,.slice (j.map jm)),(3,.ad 2 ((List.replicate (Int.toNat (j.length:Int)) (ar.mk 0 0)).map aQ)),(4,.int .i64 0)] ?_;refine bI cG λiM _ c8 eZ _=>?_;show bp aj (.loop ?gF) _ _;have fL:∀n bH cN,GG j n bH cN=some r->dc aj ?gF iM (an [(0,.slice (j.map jm)),(3,.ad 2 (bH.map aQ)),(4,.int .i64 cN)]):=by
  refine dp λ_ fw bH cN h=>dn c8 λ_ eG eR bq=>aR eR λ_ fK _ cn=>aI ?_;refine bg h (λh4 h=>?_) λh4 h=>?_
  .refine bf (fK _ (inl (aR eR λ_ dP gz _=>bI gz λ_ gU _ _ _=>?_)));obtain⟨aa,eH,h⟩:=aM h;obtain⟨ak,ez,h⟩:=aM h;obtain⟨aL,c4,h⟩:=aM h;refine hH (cx [(0,.slice (j.map jm)),(3,.ad 2 ((List.set bH (Int.toNat cN) ak).map aQ)),(4,.int .i64 cN)] (λP a9=>?_) ?_)
   ·(try simp only[a3.down,simprocAttr,eH,c4,da c4,dV,du]);refine dv (aaT aa _ ez) (hK:= ?_);simp only[a3.down,simprocAttr,eH,c4,da c4,dV,du];exact cq (ab eH (ab c4 (ab (da c4) @dV)))
   refine gU _ (dP _ (inl (wr [(0,.slice (j.map jm)),(3,.ad 2 ((List.set bH (Int.toNat cN) ak).map aQ)),(4,.int .i64 (i64.wrap (cN+1)))] ?_)));exact eG _ (inr ⟨_,cH rfl,fw (List.set bH (Int.toNat cN) ak) (i64.wrap (cN+1)) h⟩)
  .exact dk (cn 0 _ (bq 0 _ (eZ _ (gp _ (inl (bl aD [.ad 2 (bH.map aQ)]))))))
 exact ew h λn h=>fL n (List.replicate (Int.toNat (j.length:Int)) (ar.mk 0 0)) 0 h
theorem O5 (j r) (h:zu j=some r):bt aj 113 [.slice (j.map iU)] (.ad 1 (r.map bo)) []:=by
 refine cc [0] [.tmp 2] Tryz.func113 Ye λb6 aD b8=>aI ?_;obtain⟨Ag,bb,h⟩:=aM h;refine Ad (ab (pr bb) @List.map_replicate.{0,0}) [(0,.slice (j.map iU)),(3,.ad 1 (List.replicate (Int.toNat (j.length:Int)) .ah))] ?_;refine aR aD λ_ gp cG _=>ws [(0,.slice (j.map iU)),(3,.ad 1 (List.replicate (Int.toNat (j.length:Int)) .ah)),(4,.int .i64 0)] ?_;refine bI cG λiM _ c8 eZ _=>?_;show bp aj (.loop ?gF) _ _;have fL:∀n bH cN,GH j n bH cN=some r->dc aj ?gF iM (an [(0,.slice (j.map iU)),(3,.ad 1 (bH.map bo)),(4,.int .i64 cN)]):=by
  refine dp λ_ fw bH cN h=>dn c8 λ_ eG eR bq=>aR eR λ_ fK _ cn=>aI ?_;refine bg h (λh4 h=>?_) λh4 h=>?_
  .refine bf (fK _ (inl (aR eR λ_ dP gz _=>bI gz λ_ gU _ _ _=>?_)));obtain⟨aa,eH,h⟩:=aM h;obtain⟨ak,ez,h⟩:=aM h;obtain⟨aL,c4,h⟩:=aM h;refine hH (cx [(0,.slice (j.map iU)),(3,.ad 1 ((List.set bH (Int.toNat cN) ak).map bo)),(4,.int .i64 cN)] (λP a9=>?_) ?_)
   ·(try simp only[a3.down,simprocAttr,eH,c4,da c4,dV,du]);refine dv (O4 aa _ ez) (hK:= ?_);simp only[a3.down,simprocAttr,eH,c4,da c4,dV,du];exact cq (ab eH (ab c4 (ab (da c4) @dV)))
   refine gU _ (dP _ (inl (wr [(0,.slice (j.map iU)),(3,.ad 1 ((List.set bH (Int.toNat cN) ak).map bo)),(4,.int .i64 (i64.wrap (cN+1)))] ?_)));exact eG _ (inr ⟨_,cH rfl,fw (List.set bH (Int.toNat cN) ak) (i64.wrap (cN+1)) h⟩)
  .exact dk (cn 0 _ (bq 0 _ (eZ _ (gp _ (inl (bl aD [.ad 1 (bH.map bo)]))))))
 obtain⟨n,h⟩:=ki h;exact kW (inr ⟨_,ht [] rfl (cy (t:=0) (d:=.slice (j.map iU)) rfl (hg (t:=3) (d:=.ad 1 (List.replicate (Int.toNat (j.length:Int)) .ah)) (bz:=.ad 1 ((List.replicate (Int.toNat (j.length:Int)) []).map bo)) rfl rfl (MG (u:=bo) (z:=[]) (.fJ _) _) (by decide) (cy (t:=4) (d:=.int .i64 0) rfl (hv)))),fL n (List.replicate (Int.toNat (j.length:Int)) []) 0 h⟩)
theorem aaU (j r) (h:zv j=some r):bt aj 60 [h3 j] (b9 r) []:=by
 refine cc [0] [.cell 2 62] Tryz.func60 Yf λb6 aD b8=>aI ?_;refine aI ?_;obtain⟨aa,cl,h⟩:=aM h;refine ej (O3 j.a5 _ cl) _ ?_;obtain⟨ak,b0,h⟩:=aM h;refine ej (O4 j.Guard _ b0) _ ?_;refine aI ?_;obtain⟨aL,gQ,h⟩:=aM h;refine ej (O5 j.aW _ gQ) _ ?_;obtain⟨a2,yh,h⟩:=aM h;refine ej (O5 j.Next _ yh) _ ?_;exact bl aD [b9 (aN.mk aa ak j.Name aL a2)]
theorem aaV (j r) (h:B6 j=some r):bt aj 31 [.slice (j.map h3)] (.ad 5 (r.map b9)) []:=by
 refine cc [0] [.tmp 2] Tryz.func31 Iv λb6 aD b8=>aI ?_;obtain⟨Ag,bb,h⟩:=aM h;refine Ad (ab (pr bb) @List.map_replicate.{0,0}) [(0,.slice (j.map h3)),(3,.ad 5 (List.replicate (Int.toNat (j.length:Int)) (.agg [.ah,.ah,(.str []),.ah,.ah])))] ?_;refine aR aD λ_ gp cG _=>ws [(0,.slice (j.map h3)),(3,.ad 5 (List.replicate (Int.toNat (j.length:Int)) (.agg [.ah,.ah,(.str []),.ah,.ah]))),(4,.int .i64 0)] ?_;refine bI cG λiM _ c8 eZ _=>?_;show bp aj (.loop ?gF) _ _;have fL:∀n bH cN,GI j n bH cN=some r->dc aj ?gF iM (an [(0,.slice (j.map h3)),(3,.ad 5 (bH.map b9)),(4,.int .i64 cN)]):=by
  refine dp λ_ fw bH cN h=>dn c8 λ_ eG eR bq=>aR eR λ_ fK _ cn=>aI ?_;refine bg h (λh4 h=>?_) λh4 h=>?_
  .refine bf (fK _ (inl (aR eR λ_ dP gz _=>bI gz λ_ gU _ _ _=>?_)));obtain⟨aa,eH,h⟩:=aM h;obtain⟨ak,ez,h⟩:=aM h;obtain⟨aL,c4,h⟩:=aM h;refine hH (cx [(0,.slice (j.map h3)),(3,.ad 5 ((List.set bH (Int.toNat cN) ak).map b9)),(4,.int .i64 cN)] (λP a9=>?_) ?_)
   ·(try simp only[a3.down,simprocAttr,eH,c4,da c4,dV,du]);refine dv (aaU aa _ ez) (hK:= ?_);simp only[a3.down,simprocAttr,eH,c4,da c4,dV,du];exact cq (ab eH (ab c4 (ab (da c4) @dV)))
   refine gU _ (dP _ (inl (wr [(0,.slice (j.map h3)),(3,.ad 5 ((List.set bH (Int.toNat cN) ak).map b9)),(4,.int .i64 (i64.wrap (cN+1)))] ?_)));exact eG _ (inr ⟨_,cH rfl,fw (List.set bH (Int.toNat cN) ak) (i64.wrap (cN+1)) h⟩)
  .exact dk (cn 0 _ (bq 0 _ (eZ _ (gp _ (inl (bl aD [.ad 5 (bH.map b9)]))))))
 obtain⟨n,h⟩:=ki h;exact kW (inr ⟨_,ht [] rfl (cy (t:=0) (d:=.slice (j.map h3)) rfl (hg (t:=3) (d:=.ad 5 (List.replicate (Int.toNat (j.length:Int)) (.agg [.ah,.ah,(.str []),.ah,.ah]))) (bz:=.ad 5 ((List.replicate (Int.toNat (j.length:Int)) (aN.mk [] [] ([]:ahz) [] [])).map b9)) rfl rfl (MG (u:=b9) (z:=(aN.mk [] [] ([]:ahz) [] [])) (.agg (.cons (.fJ _) (.cons (.fJ _) (.cons (.refl _) (.cons (.fJ _) (.cons (.fJ _) (.nil))))))) _) (by decide) (cy (t:=4) (d:=.int .i64 0) rfl (hv)))),fL n (List.replicate (Int.toNat (j.length:Int)) (aN.mk [] [] ([]:ahz) [] [])) 0 h⟩)
theorem pf (j r) (h:p8 j=some r):bt aj 8 [hB j] (eF r) []:=by
 refine cc [0] [.cell 2 29] Tryz.func8 gF λb6 aD b8=>aI ?_;refine aI ?_;refine aI ?_;obtain⟨aa,cR,h⟩:=aM h;refine ej (O3 j.Start _ cR) _ ?_;obtain⟨ak,b7,h⟩:=aM h;refine ej (aaV j.aU _ b7) _ ?_;exact bl aD [eF (a8.mk j.aE aa ak)]
theorem aaW (j r) (h:zw j=some r):bt aj 45 [hC j] (bU r) []:=by
 refine cc [0] [.cell 2 74] Tryz.func45 Yg λb6 aD b8=>aI ?_;refine aI ?_;refine aI ?_;refine aI ?_;refine aI ?_;exact bl aD [bU (bQ.mk j.Left j.cf j.Result)]
theorem xL (j r) (h:uW j=some r):bt aj 18 [.slice (j.map hC)] (.ad 3 (r.map bU)) []:=by
 refine cc [0] [.tmp 2] Tryz.func18 Yh λb6 aD b8=>aI ?_;obtain⟨Ag,bb,h⟩:=aM h;refine Ad (ab (pr bb) @List.map_replicate.{0,0}) [(0,.slice (j.map hC)),(3,.ad 3 ((List.replicate (Int.toNat (j.length:Int)) (bQ.mk ([]:ahz) ([]:ahz) ([]:ahz))).map bU))] ?_;refine aR aD λ_ gp cG _=>ws [(0,.slice (j.map hC)),(3,.ad 3 ((List.replicate (Int.toNat (j.length:Int)) (bQ.mk ([]:ahz) ([]:ahz) ([]:ahz))).map bU)),(4,.int .i64 0)] ?_;refine bI cG λiM _ c8 eZ _=>?_;show bp aj (.loop ?gF) _ _;have fL:∀n bH cN,GJ j n bH cN=some r->dc aj ?gF iM (an [(0,.slice (j.map hC)),(3,.ad 3 (bH.map bU)),(4,.int .i64 cN)]):=by
  refine dp λ_ fw bH cN h=>dn c8 λ_ eG eR bq=>aR eR λ_ fK _ cn=>aI ?_;refine bg h (λh4 h=>?_) λh4 h=>?_
  .refine bf (fK _ (inl (aR eR λ_ dP gz _=>bI gz λ_ gU _ _ _=>?_)));obtain⟨aa,eH,h⟩:=aM h;obtain⟨ak,ez,h⟩:=aM h;obtain⟨aL,c4,h⟩:=aM h;refine hH (cx [(0,.slice (j.map hC)),(3,.ad 3 ((List.set bH (Int.toNat cN) ak).map bU)),(4,.int .i64 cN)] (λP a9=>?_) ?_)
   ·(try simp only[a3.down,simprocAttr,eH,c4,da c4,dV,du]);refine dv (aaW aa _ ez) (hK:= ?_);simp only[a3.down,simprocAttr,eH,c4,da c4,dV,du];exact cq (ab eH (ab c4 (ab (da c4) @dV)))
   refine gU _ (dP _ (inl (wr [(0,.slice (j.map hC)),(3,.ad 3 ((List.set bH (Int.toNat cN) ak).map bU)),(4,.int .i64 (i64.wrap (cN+1)))] ?_)));exact eG _ (inr ⟨_,cH rfl,fw (List.set bH (Int.toNat cN) ak) (i64.wrap (cN+1)) h⟩)
  .exact dk (cn 0 _ (bq 0 _ (eZ _ (gp _ (inl (bl aD [.ad 3 (bH.map bU)]))))))
 exact ew h λn h=>fL n (List.replicate (Int.toNat (j.length:Int)) (bQ.mk ([]:ahz) ([]:ahz) ([]:ahz))) 0 h
theorem tu (j J aB r) (h:p9 j J aB=some r):bt aj 53 [.int .i64 j,.int .i64 J,.int .i64 aB] (.bool r) []:=by
 refine cc [0,1,2] [.tmp 6] Tryz.func53 Yi λb6 aD b8=>aI ?_;refine r_ (decide (J<=j)) [(6,.bool ((decide (J<=j))&&(decide (j<=aB))))] ?_;exact dX aD [.bool ((decide (J<=j))&&(decide (j<=aB)))]
theorem aaX (j r) (h:B7 j=some r):bt aj 106 [.slice (j.map ax)] (.bool r) []:=by
 refine cc [0] [.tmp 2] Tryz.func106 Yj λb6 aD b8=>aI ?_;refine aR aD λ_ cu bD ak=>aI ?_;refine bI bD λgV _ cG cX _=>?_;show bp aj (.loop ?gf) _ _;have gW:∀n qY,zx j n qY=some r->dc aj ?gf gV (an [(0,.slice (j.map ax)),(3,.int .i64 qY)]):=by
  refine dp λ_ gH qY h=>dn cG λ_ fM c1 aY=>aR c1 λ_ dF _ bj=>aI ?_;refine bg h (λdx h=>?_) λdx h=>?_
  .refine bf (dF _ (inl (aR c1 λ_ dQ dm _=>bI dm λ_ cD c3 _ _=>?_)));obtain⟨aa,eo,h⟩:=aM h;obtain⟨ak,eB,h⟩:=aM h;refine hi eo (tu aa 0 63 _ eB) _ ?_;refine bg h (λjC h=>?_) λjC h=>?_
   .exact bl c3 [.bool false]
   .refine bf (cD _ (dQ _ (inl (fB ?_))));exact fM _ (inr ⟨_,cH rfl,gH (i64.wrap (qY+1)) h⟩)
  .exact dk (bj 0 _ (aY 0 _ (cX _ (cu _ (inl (bl aD [.bool true]))))))
 exact ew h λn h=>gW n 0 h
theorem O6 (j J r) (h:B8 j J=some r):bt aj 54 [.slice (j.map ax),.int .i64 J] (.bool r) []:=by
 refine cc [0,1] [.tmp 4] Tryz.func54 Yk λb6 aD b8=>aI ?_;rcases gN h with⟨jd,h⟩|⟨jd,h⟩
 .obtain⟨aa,cl,h⟩:=aM h;refine hi jd (aaX j _ cl) _ ?_;exact dX aD [.bool aa]
 .refine db jd _ ?_;exact dX aD [.bool false]
theorem aaY (j r) (h:B9 j=some r):bt aj 107 [.slice (j.map ax)] (.int .i64 r) []:=by
 refine cc [0] [.tmp 2] Tryz.func107 Yl λb6 aD b8=>aI ?_;refine aR aD λ_ cu bD ak=>aI ?_;refine bg h (λcX h=>?_) λcX h=>?_
 .exact bl bD [.int .i64 0]
 .refine bf (cu _ (inl (aI ?_)));refine aR aD λ_ eG eR _=>aI ?_;refine bI eR λov _ dm e7 _=>?_;show bp aj (.loop ?nd) _ _;have nf:∀n jk jU,wP j n jk jU=some r->dc aj ?nd ov (an [(0,.slice (j.map ax)),(3,.int .i64 jk),(4,.int .i64 jU)]):=by
   refine dp λ_ ng jk jU h=>dn dm λ_ cD c3 dw=>aR c3 λ_ dP _ ey=>aI ?_;refine bg h (λkf h=>?_) λkf h=>?_
   .refine bf (dP _ (inl (aR c3 λ_ fX e8 _=>bI e8 λ_ iV jY _ _=>aR jY λ_ mH tv _=>?_)));obtain⟨aa,ga,h⟩:=aM h;obtain⟨ak,hD,h⟩:=aM h;refine hi ga (tu aa 1 7 _ hD) _ ?_;refine bg h (λhj h=>?_) λhj h=>?_
    .exact bl tv [.int .i64 0]
    .refine bf (mH _ (inl (ou ga _ ?_)));refine iV _ (fX _ (inl (fB ?_)));exact cD _ (inr ⟨_,cH rfl,ng (i64.wrap (jk*(i64.wrap (aa+1)))) (i64.wrap (jU+1)) h⟩)
   .refine dk (ey 0 _ (dw 0 _ (e7 _ (eG _ (inl (aR aD λ_ k4 mc _=>aI ?_))))));refine bg h (λgL h=>?_) λgL h=>?_
    .exact bl mc [.int .i64 0]
    .exact bf (k4 _ (inl (bl aD [.int .i64 jk])))
  exact ew h λn h=>nf n 1 0 h
theorem aaZ (j J r) (h:B_ j J=some r):bt aj 148 [.ref (aQ j),.int .i64 J] (.bool r) []:=by
 refine cc [0,1] [.tmp 4] Tryz.func148 Ym λb6 aD b8=>aI ?_;refine aR aD λ_ cu bD ak=>aI ?_;refine bI bD λ_ gp cG _ _=>aI ?_;refine bg h (λeZ h=>?_) λeZ h=>?_
 .obtain⟨aa,hW,h⟩:=aM h;refine ej (tu j.Value 0 63 _ hW) _ ?_;exact dX cG [.bool aa]
 .refine aI ?_;refine bg h (λh4 h=>?_) λh4 h=>?_
  .obtain⟨ak,eo,h⟩:=aM h;refine ej (tu j.Value 0 (i64.wrap (J-1)) _ eo) _ ?_;exact dX cG [.bool ak]
  .refine aI ?_;refine bg h (λjC h=>?_) λjC h=>?_
   .obtain⟨aL,c4,h⟩:=aM h;refine ej (tu j.Value 0 8 _ c4) _ ?_;exact dX cG [.bool aL]
   .refine aI ?_;refine bg h (λme h=>?_) λme h=>?_
    .exact bl cG [.bool (j.Value==0)]
    .exact bf (gp _ (cu _ (inl (bl aD [.bool false]))))
theorem aa0 (j r) (h:GM j=some r):bt aj 149 [.ref (aQ j)] (.int .i64 r) []:=by
 refine cc [0] [.tmp 2] Tryz.func149 Yn λb6 aD b8=>aI ?_;refine aR aD λ_ cu bD _=>aI ?_;refine bI bD λ_ gp cG _ _=>aI ?_;refine bg h (λeZ h=>?_) λeZ h=>?_
 .exact bl cG [.int .i64 2]
 .refine aI ?_;refine bg h (λe7 h=>?_) λe7 h=>?_
  .exact bl cG [.int .i64 1]
  .exact bf (gp _ (cu _ (inl (bl aD [.int .i64 0]))))
theorem IG (j J aB r) (h:zy j J aB=some r):bt aj 108 [.slice (j.map aQ),.int .i64 J,.int .i64 aB] (.bool r) []:=by
 refine cc [0,1,2] [.tmp 6] Tryz.func108 Yo λb6 aD b8=>aI ?_;refine aR aD λ_ cu bD ak=>aI ?_;refine bg h (λcX h=>?_) λcX h=>?_
 .exact bl bD [.bool false]
 .refine bf (cu _ (inl (aI ?_)));refine aR aD λ_ eG eR _=>aI ?_;refine bI eR λov _ dm e7 _=>?_;show bp aj (.loop ?nd) _ _;have nf:∀n kb qZ,wQ j J n kb qZ=some r->dc aj ?nd ov (an [(0,.slice (j.map aQ)),(1,.int .i64 J),(7,.int .i64 kb),(8,.int .i64 qZ)]):=by
   refine dp λ_ ng kb qZ h=>dn dm λ_ cD c3 dw=>aR c3 λ_ dP _ ey=>aI ?_;refine bg h (λkf h=>?_) λkf h=>?_
   .refine bf (dP _ (inl (aR c3 λ_ fX e8 _=>bI e8 λ_ iV jY _ _=>aR jY λ_ mH tv _=>?_)));rcases gN h with⟨me,h⟩|⟨me,h⟩
    .refine db me _ ?_;refine jy rfl ?_;exact bl tv [.bool false]
    .obtain⟨aa,iL,h⟩:=aM h;obtain⟨ak,eI,h⟩:=aM h;refine hi (ab me iL) (aaZ aa J _ eI) _ ?_;refine bg h (λow h=>?_) λow h=>?_
     .exact bl tv [.bool false]
     .refine bf (mH _ (inl ?_));obtain⟨aL,gq,h⟩:=aM h;refine aaN iL (aa0 aa _ gq) _ ?_;refine iV _ (fX _ (inl (fB ?_)));exact cD _ (inr ⟨_,cH rfl,ng (i64.wrap (kb+(i64.wrap (aL-1)))) (i64.wrap (qZ+1)) h⟩)
   .exact dk (ey 0 _ (dw 0 _ (e7 _ (eG _ (inl (bl aD [.bool (kb==0)]))))))
  exact ew h λn h=>nf n 1 0 h
theorem xM (j J r) (h:uX j J=some r):bt aj 109 [.slice (j.map a0),.int .i64 J] (.bool r) []:=by
 refine cc [0,1] [.tmp 4] Tryz.func109 Yp λb6 aD b8=>aI ?_;refine aR aD λ_ cu bD ak=>aI ?_;refine bI bD λgV _ cG cX _=>?_;show bp aj (.loop ?gf) _ _;have gW:∀n bd,zz j J n bd=some r->dc aj ?gf gV (an [(0,.slice (j.map a0)),(1,.int .i64 J),(5,.int .i64 bd)]):=by
  refine dp λ_ gH bd h=>dn cG λ_ fM c1 aY=>aR c1 λ_ dF _ bj=>aI ?_;refine bg h (λdx h=>?_) λdx h=>?_
  .refine bf (dF _ (inl (aR c1 λ_ dQ dm _=>bI dm λ_ cD c3 _ _=>?_)));obtain⟨aa,eo,h⟩:=aM h;obtain⟨ak,eB,h⟩:=aM h;refine hi eo (IG aa J 60 _ eB) _ ?_;refine bg h (λjC h=>?_) λjC h=>?_
   .exact bl c3 [.bool false]
   .refine bf (cD _ (dQ _ (inl (fB ?_))));exact fM _ (inr ⟨_,cH rfl,gH (i64.wrap (bd+1)) h⟩)
  .exact dk (bj 0 _ (aY 0 _ (cX _ (cu _ (inl (bl aD [.bool true]))))))
 exact ew h λn h=>gW n 0 h
theorem IH (j r) (h:zA j=some r):bt aj 163 [.int .u8 (j.toNat:Int)] (.bool r) []:=by
 refine cc [0] [.tmp 2] Tryz.func163 Yq λb6 aD b8=>aI ?_;refine r_ (decide (97<=(j.toNat:Int))) [(2,.bool ((decide (97<=(j.toNat:Int)))&&(decide ((j.toNat:Int)<=122))))] ?_;exact dX aD [.bool ((decide (97<=(j.toNat:Int)))&&(decide ((j.toNat:Int)<=122)))]
theorem aa1 (j r) (h:GP j=some r):bt aj 164 [.int .u8 (j.toNat:Int)] (.bool r) []:=by
 refine cc [0] [.tmp 2] Tryz.func164 Yr λb6 aD b8=>aI ?_;refine r_ (decide (48<=(j.toNat:Int))) [(2,.bool ((decide (48<=(j.toNat:Int)))&&(decide ((j.toNat:Int)<=57))))] ?_;exact dX aD [.bool ((decide (48<=(j.toNat:Int)))&&(decide ((j.toNat:Int)<=57)))]
theorem O7 (j r) (h:Ca j=some r):bt aj 127 [.str j] (.bool r) []:=by
 refine cc [0] [.tmp 2] Tryz.func127 Ys λb6 aD b8=>aI ?_;refine aR aD λ_ cu bD ak=>?_;rcases gN h with⟨cX,h⟩|⟨cX,h⟩
 .refine db cX _ ?_;refine jy rfl ?_;exact bl bD [.bool false]
 .rcases gN h with⟨eZ,h⟩|⟨eZ,h⟩
  .refine db (ab cX eZ) _ ?_;refine jy rfl ?_;exact bl bD [.bool false]
  .obtain⟨aa,hW,h⟩:=aM h;obtain⟨ak,gQ,h⟩:=aM h;refine hi (ab cX (ab eZ hW)) (IH aa _ gQ) _ ?_;refine bg h (λh4 h=>?_) λh4 h=>?_
   .exact bl bD [.bool false]
   .refine bf (cu _ (inl (aR aD λ_ gU qj _=>aI ?_)));refine bI qj λAh _ e8 jC _=>?_;show bp aj (.loop ?lp) _ _;have lq:∀n eM,zB j n eM=some r->dc aj ?lp Ah (an [(0,.str j),(3,.int .i64 eM)]):=by
     refine dp λ_ kJ eM h=>dn e8 λ_ iV jY qe=>aR jY λ_ mH _ qf=>aI ?_;refine bg h (λme h=>?_) λme h=>?_
     .refine bf (mH _ (inl (aR jY λ_ nh sa _=>bI sa λ_ q8 Ai _ _=>?_)));obtain⟨aL,gA,h⟩:=aM h;obtain⟨a2,iW,h⟩:=aM h;rcases gN h with⟨pg,h⟩|⟨pg,h⟩
      .obtain⟨aY,gq,h⟩:=aM h;refine df (cx [(0,.str j),(3,.int .i64 eM),(34,.bool (!aY))] (λP a9=>?_) ?_)
       ·(try simp only[a3.down,simprocAttr,gA,(h1 pg)]);refine dv (IH aL _ iW) (hK:= ?_);simp only[a3.down,simprocAttr,gA,(h1 pg)];refine kE (aa1 aL _ gq) (hK:= ?_);simp only[a3.down,simprocAttr,gA,(h1 pg)];exact cq (ab gA (h1 pg))
       refine bg h (λgL h=>?_) λgL h=>?_
       .exact bl Ai [.bool false]
       .refine bf (q8 _ (nh _ (inl (fB ?_))));exact iV _ (inr ⟨_,cH rfl,kJ (i64.wrap (eM+1)) h⟩)
      .refine hi (ab gA (cg pg)) (IH aL _ iW) _ ?_;refine rT rfl ?_;refine bf (q8 _ (nh _ (inl (fB ?_))));exact iV _ (inr ⟨_,cH rfl,kJ (i64.wrap (eM+1)) h⟩)
     .exact dk (qf 0 _ (qe 0 _ (jC _ (gU _ (inl (bl aD [.bool true]))))))
    exact ew h λn h=>lq n 0 h
theorem qk (j r) (h:tf j=some r):bt aj 88 [.str j] (.bool r) []:=by
 refine cc [0] [.tmp 2] Tryz.func88 Yt λb6 aD b8=>aI ?_;obtain⟨aa,bb,h⟩:=aM h;refine df (cx [(2,.bool (aa&&(!(j==([116,97,117]:ahz)))))] (λP a9=>?_) ?_)
 .rcases Bool.eq_false_or_eq_true (aa)with k_|k_
  ·(try simp only[a3.down,simprocAttr,k_]);refine dv (O7 j _ bb) (hK:= ?_);simp only[a3.down,simprocAttr,k_];exact cq k_
  ·(try simp only[a3.down,simprocAttr,k_]);refine dv (O7 j _ bb) (hK:= ?_);simp only[a3.down,simprocAttr,k_];exact cq k_
 exact dX aD [.bool (aa&&(!(j==([116,97,117]:ahz))))]
theorem aa2 (j J r) (h:Cb j J=some r):bt aj 55 [.ref (a4 j),.int .i64 J] (.bool r) []:=by
 refine cc [0,1] [.tmp 4] Tryz.func55 Yw λb6 aD b8=>aI ?_;refine aR aD λ_ cu bD ak=>?_;obtain⟨aa,cl,h⟩:=aM h;refine ej (aaY j.a5 _ cl) _ ?_;refine bg h (λc9 h=>?_) λc9 h=>?_
 .exact bl bD [.bool false]
 .refine bf (cu _ (inl (aI ?_)));refine aR aD λ_ fK hR _=>?_;obtain⟨ak,kk,h⟩:=aM h;refine df (cx [(0,.ref (a4 j)),(5,.int .i64 (i64.wrap (J+(j.a5.length:Int)))),(34,.bool ((!ak)||((j.Next.length:Int) !=J)))] (λP a9=>?_) ?_)
  .rcases Bool.eq_false_or_eq_true (ak)with vk|vk
   ·(try simp only[a3.down,simprocAttr,vk]);refine dv (IG j.Guard (i64.wrap (J+(j.a5.length:Int))) 60 _ kk) (hK:= ?_);simp only[a3.down,simprocAttr,vk];exact cq vk
   ·(try simp only[a3.down,simprocAttr,vk]);refine dv (IG j.Guard (i64.wrap (J+(j.a5.length:Int))) 60 _ kk) (hK:= ?_);simp only[a3.down,simprocAttr,vk];exact cq vk
  refine bg h (λhQ h=>?_) λhQ h=>?_
  .exact bl hR [.bool false]
  .refine bf (fK _ (inl (aR aD λ_ fX e8 _=>?_)));rcases gN h with⟨mf,h⟩|⟨mf,h⟩
   .rcases gN h with⟨jB,h⟩|⟨jB,h⟩
    .refine db (ab mf jB) _ ?_;refine jy rfl ?_;exact bl e8 [.bool false]
    .refine db (ab mf jB) _ ?_;refine bg h (λlr h=>?_) λlr h=>?_
     .exact bl e8 [.bool false]
     .refine bf (fX _ (inl ?_));obtain⟨aL,gA,h⟩:=aM h;rcases gN h with⟨el,h⟩|⟨el,h⟩
      .obtain⟨a2,ql,h⟩:=aM h;refine df (cx [(4,.bool a2)] (λP a9=>?_) ?_)
       ·(try simp only[a3.down,simprocAttr,el]);refine dv (xM j.aW (i64.wrap (J+(j.a5.length:Int))) _ gA) (hK:= ?_);simp only[a3.down,simprocAttr,el];refine kE (xM j.Next (i64.wrap (J+(j.a5.length:Int))) _ ql) (hK:= ?_);simp only[a3.down,simprocAttr,el];exact cq el
       exact dX aD [.bool a2]
      .refine hi el (xM j.aW (i64.wrap (J+(j.a5.length:Int))) _ gA) _ ?_;exact dX aD [.bool false]
   .obtain⟨aY,gq,h⟩:=aM h;rcases gN h with⟨gL,h⟩|⟨gL,h⟩
    .refine hi (ab mf (h1 gL)) (qk j.Name _ gq) _ ?_;refine jy rfl ?_;exact bl e8 [.bool false]
    .refine hi (ab mf (cg gL)) (qk j.Name _ gq) _ ?_;refine bg h (λaa3 h=>?_) λaa3 h=>?_
     .exact bl e8 [.bool false]
     .refine bf (fX _ (inl ?_));obtain⟨bj,iw,h⟩:=aM h;rcases gN h with⟨nS,h⟩|⟨nS,h⟩
      .obtain⟨bq,kg,h⟩:=aM h;refine df (cx [(4,.bool bq)] (λP a9=>?_) ?_)
       ·(try simp only[a3.down,simprocAttr,nS]);refine dv (xM j.aW (i64.wrap (J+(j.a5.length:Int))) _ iw) (hK:= ?_);simp only[a3.down,simprocAttr,nS];refine kE (xM j.Next (i64.wrap (J+(j.a5.length:Int))) _ kg) (hK:= ?_);simp only[a3.down,simprocAttr,nS];exact cq nS
       exact dX aD [.bool bq]
      .refine hi nS (xM j.aW (i64.wrap (J+(j.a5.length:Int))) _ iw) _ ?_;exact dX aD [.bool false]
theorem Di (j r) (h:uY j=some r):bt aj 26 [.ref (bw j)] (.bool r) []:=by
 refine cc [0] [.tmp 2] Tryz.func26 vj λb6 aD b8=>aI ?_;refine aR aD λ_ cu bD ak=>?_;obtain⟨aa,cl,h⟩:=aM h;rcases gN h with⟨c9,h⟩|⟨c9,h⟩
 .refine ma (h1 c9) (tu j.aE 0 21 _ cl) _ ?_;refine jy rfl ?_;exact bl bD [.bool false]
 .obtain⟨ak,b7,h⟩:=aM h;refine ka rfl (hZ [(0,.ref (bw j)),(29,.bool ((!ak)||(decide (60<(j.aU.length:Int)))))] (λP a9=>?_) ?_)
  .rcases Bool.eq_false_or_eq_true (ak)with lu|lu
   ·(try simp only[b2.down,simprocAttr,(cg c9),lu]);refine ev (tu j.aE 0 21 _ cl) (hK:= ?_);simp only[b2.down,simprocAttr,(cg c9),lu];refine m2 (O6 j.Start j.aE _ b7) (hK:= ?_);simp only[b2.down,simprocAttr,(cg c9),lu];refine⟨gJ (by kernel_rfl),?_⟩;exact cq (ab (cg c9) lu)
   ·(try simp only[b2.down,simprocAttr,(cg c9),lu]);refine ev (tu j.aE 0 21 _ cl) (hK:= ?_);simp only[b2.down,simprocAttr,(cg c9),lu];refine m2 (O6 j.Start j.aE _ b7) (hK:= ?_);simp only[b2.down,simprocAttr,(cg c9),lu];refine⟨gJ (by kernel_rfl),?_⟩;exact cq (ab (cg c9) lu)
  refine bg h (λe7 h=>?_) λe7 h=>?_
  .exact bl bD [.bool false]
  .refine bf (cu _ (inl (aR aD λ_ dP gz _=>aI ?_)));refine bI gz λII _ h5 kf _=>?_;show bp aj (.loop ?lp) _ _;have lq:∀n eM,zC j n eM=some r->dc aj ?lp II (an [(0,.ref (bw j)),(3,.int .i64 eM)]):=by
    refine dp λ_ kJ eM h=>dn h5 λ_ fX e8 vg=>aR e8 λ_ iV _ qe=>aI ?_;refine bg h (λjB h=>?_) λjB h=>?_
    .refine bf (iV _ (inl (aR e8 λ_ vl tw _=>bI tw λ_ nh sa _ _=>?_)));obtain⟨aL,eI,h⟩:=aM h;obtain⟨a2,gA,h⟩:=aM h;refine ma eI (aa2 aL j.aE _ gA) _ ?_;refine bg h (λel h=>?_) λel h=>?_
     .exact bl sa [.bool false]
     .refine bf (nh _ (vl _ (inl (fB ?_))));exact fX _ (inr ⟨_,cH rfl,kJ (i64.wrap (eM+1)) h⟩)
    .exact dk (qe 0 _ (vg 0 _ (kf _ (dP _ (inl (bl aD [.bool true]))))))
   exact ew h λn h=>lq n 0 h
theorem aa4 (j r) (h:Cc j=some r):bt aj 43 [.slice (j.map bU)] (.bool r) []:=by
 refine cc [0] [.tmp 2] Tryz.func43 Yx λb6 aD b8=>aI ?_;refine aR aD λ_ cu bD ak=>aI ?_;refine bg h (λcX h=>?_) λcX h=>?_
 .exact bl bD [.bool false]
 .refine bf (cu _ (inl (aR aD λ_ dF c8 bj=>aI ?_)));refine bI c8 λmg _ hR dx _=>?_;show bp aj (.loop ?lp) _ _;have lq:∀n eM,p_ j n eM=some r->dc aj ?lp mg (an [(0,.slice (j.map bU)),(3,.int .i64 eM)]):=by
   refine dp λO8 kJ eM h=>dn hR λ_ dQ dm cC=>aR dm λ_ cD _ dw=>aI ?_;refine bg h (λhQ h=>?_) λhQ h=>?_
   .refine bf (cD _ (inl (aR dm λ_ hS h5 _=>bI h5 λ_ fX e8 _ _=>?_)));obtain⟨aa,c4,h⟩:=aM h;refine db c4 _ ?_;refine aR e8 λ_ qm mI _=>?_;obtain⟨ak,hD,h⟩:=aM h;rcases gN h with⟨hj,h⟩|⟨hj,h⟩
    .refine hi (h1 hj) (qk aa.Left _ hD) _ ?_;refine jy rfl ?_;exact bl mI [.bool false]
    .obtain⟨aL,gA,h⟩:=aM h;rcases gN h with⟨el,h⟩|⟨el,h⟩
     .refine df (cx [(0,.slice (j.map bU)),(3,.int .i64 eM),(4,.ai (bU aa)),(41,.bool true)] (λP a9=>?_) ?_)
      ·(try simp only[a3.down,simprocAttr,(cg hj),(h1 el)]);refine dv (qk aa.Left _ hD) (hK:= ?_);simp only[a3.down,simprocAttr,(cg hj),(h1 el)];refine kE (qk aa.cf _ gA) (hK:= ?_);simp only[a3.down,simprocAttr,(cg hj),(h1 el)];exact cq (ab (cg hj) (h1 el))
      refine jy rfl ?_;exact bl mI [.bool false]
     .obtain⟨a2,gq,h⟩:=aM h;refine df (cx [(0,.slice (j.map bU)),(3,.int .i64 eM),(4,.ai (bU aa)),(41,.bool ((!a2)||(!(Op.bytesLess aa.Left aa.cf||aa.Left==aa.cf))))] (λP a9=>?_) ?_)
      .rcases Bool.eq_false_or_eq_true (a2)with qn|qn
       ·(try simp only[a3.down,simprocAttr,(cg hj),(cg el),qn]);refine dv (qk aa.Left _ hD) (hK:= ?_);simp only[a3.down,simprocAttr,(cg hj),(cg el),qn];refine kE (qk aa.cf _ gA) (hK:= ?_);simp only[a3.down,simprocAttr,(cg hj),(cg el),qn];refine kE (qk aa.Result _ gq) (hK:= ?_);simp only[a3.down,simprocAttr,(cg hj),(cg el),qn];exact cq (ab (cg hj) (ab (cg el) qn))
       ·(try simp only[a3.down,simprocAttr,(cg hj),(cg el),qn]);refine dv (qk aa.Left _ hD) (hK:= ?_);simp only[a3.down,simprocAttr,(cg hj),(cg el),qn];refine kE (qk aa.cf _ gA) (hK:= ?_);simp only[a3.down,simprocAttr,(cg hj),(cg el),qn];refine kE (qk aa.Result _ gq) (hK:= ?_);simp only[a3.down,simprocAttr,(cg hj),(cg el),qn];exact cq (ab (cg hj) (ab (cg el) qn))
      refine bg h (λmh h=>?_) λmh h=>?_
      .exact bl mI [.bool false]
      .refine bf (qm _ (inl (aR e8 λ_ q9 aa5 _=>?_)));rcases gN h with⟨kt,h⟩|⟨kt,h⟩
       .obtain⟨aY,mJ,h⟩:=aM h;refine ka rfl (hZ [(0,.slice (j.map bU)),(3,.int .i64 eM),(4,.ai (bU aa)),(76,.bool ((!(Op.bytesLess aY.Left aa.Left||aY.Left==aa.Left))||((aY.Left==aa.Left)&&(!(Op.bytesLess aY.cf aa.cf)))))] (λP a9=>?_) ?_)
        ·(rcases Bool.eq_false_or_eq_true (Op.bytesLess aY.Left aa.Left)with IJ|IJ)<;>(rcases Bool.eq_false_or_eq_true (aY.Left==aa.Left)with IK|IK)<;>
          (simp only[b2.down,simprocAttr,kt,mJ,IJ,IK]
           refine⟨gJ (by kernel_rfl),?_⟩;exact cq (ab kt (ab mJ (ab IJ IK))))
        refine bg h (λIL h=>?_) λIL h=>?_
        .exact bl aa5 [.bool false]
        .refine bf (q9 _ (inl (aI ?_)));refine bI e8 λaa6 _ aa7 IM _=>?_;show bp aj (.loop ?Aj) _ _;have Ak:∀n lM g9,r0 (p_ j O8) j aa n lM g9=some r->dc aj ?Aj aa6 (an [(0,.slice (j.map bU)),(3,.int .i64 lM),(4,.ai (bU aa)),(5,.int .i64 g9)]):=by
          refine dp λaa8 Al lM g9 h=>dn aa7 λ_ IP O9 IQ=>aR O9 λ_ IU _ aa9=>aI ?_;refine bg h (λaa_ h=>?_) λaa_ h=>?_
          .refine bf (IU _ (inl (aR O9 λ_ aba abb _=>bI abb λ_ abc abd _ _=>?_)));obtain⟨bj,abe,h⟩:=aM h;refine OH (bj.Left==aa.Result) abe [(0,.slice (j.map bU)),(3,.int .i64 lM),(4,.ai (bU aa)),(5,.int .i64 g9),(100,.bool ((bj.Left==aa.Result)||(bj.cf==aa.Result)))] ?_;refine bg h (λabf h=>?_) λabf h=>?_
           .exact bl abd [.bool false]
           .refine bf (abc _ (aba _ (inl (fB ?_))));exact IP _ (inr ⟨_,cH rfl,Al lM (i64.wrap (g9+1)) h⟩)
          .refine dk (aa9 2 _ (IQ 2 _ (IM _ (fX _ (hS _ (inl (fB ?_)))))));exact dQ _ (inr ⟨_,cH rfl,kJ (i64.wrap (lM+1)) h⟩)
         exact ew h λn h=>Ak n eM 0 h
       .refine Iz kt _ ?_;refine rT rfl ?_;refine bf (q9 _ (inl (aI ?_)));refine bI e8 λabg _ Am abh _=>?_;show bp aj (.loop ?Aj) _ _;have Ak:∀n lM g9,r0 (p_ j O8) j aa n lM g9=some r->dc aj ?Aj abg (an [(0,.slice (j.map bU)),(3,.int .i64 lM),(4,.ai (bU aa)),(5,.int .i64 g9)]):=by
         refine dp λaa8 Al lM g9 h=>dn Am λ_ abi O_ abj=>aR O_ λ_ abk _ abl=>aI ?_;refine bg h (λIV h=>?_) λIV h=>?_
         .refine bf (abk _ (inl (aR O_ λ_ abm abn _=>bI abn λ_ IW abo _ _=>?_)));obtain⟨bq,IX,h⟩:=aM h;refine OH (bq.Left==aa.Result) IX [(0,.slice (j.map bU)),(3,.int .i64 lM),(4,.ai (bU aa)),(5,.int .i64 g9),(100,.bool ((bq.Left==aa.Result)||(bq.cf==aa.Result)))] ?_;refine bg h (λabp h=>?_) λabp h=>?_
          .exact bl abo [.bool false]
          .refine bf (IW _ (abm _ (inl (fB ?_))));exact abi _ (inr ⟨_,cH rfl,Al lM (i64.wrap (g9+1)) h⟩)
         .refine dk (abl 2 _ (abj 2 _ (abh _ (fX _ (hS _ (inl (fB ?_)))))));exact dQ _ (inr ⟨_,cH rfl,kJ (i64.wrap (lM+1)) h⟩)
        exact ew h λn h=>Ak n eM 0 h
   .exact dk (dw 0 _ (cC 0 _ (dx _ (dF _ (inl (bl aD [.bool true]))))))
  exact ew h λn h=>lq n 0 h
theorem Pa (j r) (h:zD j=some r):bt aj 57 [.slice (j.map ax)] (.ad 1 (r.map ax)) []:=by
 refine cc [0] [.tmp 2] Tryz.func57 Yy λb6 aD b8=>aI ?_;obtain⟨KD,bb,h⟩:=aM h;(try simp only[jW.down,Nat.zero_add,Nat.add_zero,reduceAdd]at bb);refine db (ab (show∀s,c5 aj s 22 0 []=some (.ad 1 [],s)from λs=>by kernel_rfl) (ab (@h0 aj 22 22 2 rfl rfl) (ab @ia (ab @ib (ab @fl (ab @h_ (ab @all_nil (ab bb (@hx _ ax 1 λ_=>rfl))))))))) _ ?_;exact dX aD [.ad 1 (j.map ax)]
theorem IY (j r) (h:wR j=some r):bt aj 111 [.slice (j.map aQ)] (.ad 2 (r.map aQ)) []:=by
 refine cc [0] [.tmp 2] Tryz.func111 Yz λb6 aD b8=>aI ?_;obtain⟨KD,bb,h⟩:=aM h;(try simp only[jW.down,Nat.zero_add,Nat.add_zero,reduceAdd]at bb);refine db (ab (show∀s,c5 aj s 59 0 []=some (.ad 2 [],s)from λs=>by kernel_rfl) (ab (@h0 aj 59 59 102 rfl rfl) (ab @ia (ab @ib (ab @fl (ab @h_ (ab @all_nil (ab bb (@hx _ aQ 2 λ_=>rfl))))))))) _ ?_;exact dX aD [.ad 2 (j.map aQ)]
theorem Pb (j r) (h:zE j=some r):bt aj 185 [.slice (j.map a0)] (.ad 1 (r.map bo)) []:=by
 refine cc [0] [.tmp 2] Tryz.func185 YA λb6 aD b8=>aI ?_;refine db (show∀s,c5 aj s 60 0 []=some (.ad 1 [],s)from λs=>by kernel_rfl) _ ?_;refine aR aD λ_ fC dS _=>aI ?_;refine bI dS λjD _ c1 c9 _=>?_;show bp aj (.loop ?gF) _ _;have fL:∀n bH cN,wS j n bH cN=some r->dc aj ?gF jD (an [(0,.slice (j.map a0)),(3,.ad 1 (bH.map bo)),(4,.int .i64 cN)]):=by
  refine dp λ_ fw bH cN h=>dn c1 λ_ dF c8 bj=>aR c8 λ_ eG _ bq=>aI ?_;refine bg h (λe7 h=>?_) λe7 h=>?_
  .refine bf (eG _ (inl (aR c8 λ_ cD c3 _=>bI c3 λ_ dP _ _ _=>?_)));obtain⟨aa,eB,h⟩:=aM h;obtain⟨ak,eH,h⟩:=aM h;obtain⟨u16,ez,h⟩:=aM h;(try simp only[kI.down,Nat.zero_add,Nat.add_zero,reduceAdd]at ez);refine hH (cx [(0,.slice (j.map a0)),(3,.ad 1 ((bH++[ak]).map bo)),(4,.int .i64 cN)] (λP a9=>?_) ?_)
   ·(try simp only[a3.down,simprocAttr,eB,iv.down,cP,bM,ez]);refine dv (IY aa _ eH) (hK:= ?_);simp only[a3.down,simprocAttr,eB,iv.down,cP,bM,ez];(try simp only[fm.down,simprocAttr,eB,iv.down,cP,bM,ez]at a9⊢);exact a9
   refine dP _ (cD _ (inl (wr [(0,.slice (j.map a0)),(3,.ad 1 ((bH++[ak]).map bo)),(4,.int .i64 (i64.wrap (cN+1)))] ?_)));exact dF _ (inr ⟨_,cH rfl,fw (bH++[ak]) (i64.wrap (cN+1)) h⟩)
  .exact dk (bq 0 _ (bj 0 _ (c9 _ (fC _ (inl (bl aD [.ad 1 (bH.map bo)]))))))
 exact ew h λn h=>fL n [] 0 h
theorem abq (j r) (h:GX j=some r):bt aj 165 [.ref (a4 j)] (b9 r) []:=by
 refine cc [0] [.cell 2 62] Tryz.func165 YB λb6 aD b8=>aI ?_;obtain⟨aa,bb,h⟩:=aM h;obtain⟨ak,cl,h⟩:=aM h;refine ka rfl (hZ [(0,.ref (a4 j)),(2,.ai (.agg [.ah,.ah,.str ([]:ahz),.ah,.ah])),(3,.ai (.agg [.ad 1 (aa.map ax),.ad 2 (ak.map aQ),.str j.Name,.ah,.ah]))] (λP a9=>?_) ?_)
 ·(try simp only[b2.down,simprocAttr,Db.down,cW,bM]);refine ev (Pa j.a5 _ bb) (hK:= ?_);simp only[b2.down,simprocAttr,Db.down,cW,bM];refine ev (IY j.Guard _ cl) (hK:= ?_);simp only[b2.down,simprocAttr,Db.down,cW,bM];refine⟨gJ (by kernel_rfl),?_⟩;exact cq Db.down
 obtain⟨aL,b0,h⟩:=aM h;refine ej (Pb j.aW _ b0) _ ?_;obtain⟨a2,hW,h⟩:=aM h;refine ej (Pb j.Next _ hW) _ ?_;exact bl aD [b9 (aN.mk aa ak j.Name aL a2)]
theorem IZ (j J aB r) (h:wV j J aB=some r):bt aj 166 [.slice (j.map aQ),.int .i64 J,.int .i64 aB] (.ad 2 (r.map aQ)) []:=by
 refine cc [0,1,2] [.tmp 6] Tryz.func166 YC λb6 aD b8=>aI ?_;obtain⟨aa,bb,h⟩:=aM h;refine ej (IY j _ bb) _ ?_;refine aR aD λ_ gp cG _=>aI ?_;refine bI cG λiM _ c8 eZ _=>?_;show bp aj (.loop ?gF) _ _;have fL:∀n mB fZ,uZ J aB n mB fZ=some r->dc aj ?gF iM (an [(1,.int .i64 J),(2,.int .i64 aB),(7,.ad 2 (mB.map aQ)),(8,.int .i64 fZ)]):=by
  refine dp λkl fw mB fZ h=>dn c8 λAn eG eR bq=>aR eR λ_ fK _ cn=>aI ?_;refine bg h (λh4 h=>?_) λh4 h=>?_
  .refine bf (fK _ (inl ?_));show bp aj (.seq _ ?abr) _ _;have Pc:∀wT wU,Cd (uZ J aB kl) J aB wT wU=some r->bp aj ?abr An (an [(1,.int .i64 J),(2,.int .i64 aB),(7,.ad 2 (wT.map aQ)),(8,.int .i64 wU)]):=by
    intro wT wU h;refine fB ?_;exact eG _ (inr ⟨_,cH rfl,fw wT (i64.wrap (wU+1)) h⟩)
   refine aR eR λ_ dP gz _=>bI gz λ_ hS _ _ _=>?_;obtain⟨ak,ez,h⟩:=aM h;refine Da (ak.Kind==1) (ab ez (da ez)) [(1,.int .i64 J),(2,.int .i64 aB),(7,.ad 2 (mB.map aQ)),(8,.int .i64 fZ),(31,.bool ((ak.Kind==1)&&(decide (J<=ak.Value))))] ?_;refine bg h (λmf h=>?_) λmf h=>?_
   .refine hH (cx [(1,.int .i64 J),(2,.int .i64 aB),(7,.ad 2 ((List.set mB (Int.toNat fZ) (ar.mk ak.Kind (i64.wrap (ak.Value+aB)))).map aQ)),(8,.int .i64 fZ)] (λP a9=>?_) ?_)
    .simp only[a3.down,simprocAttr,ez,da ez,dV,du];exact cq (ab ez (ab (da ez) @dV))
    exact hS _ (dP _ (inr ⟨_,cH rfl,Pc (List.set mB (Int.toNat fZ) (ar.mk ak.Kind (i64.wrap (ak.Value+aB)))) fZ h⟩))
   .exact bf (hS _ (dP _ (inr ⟨_,cH rfl,Pc mB fZ h⟩)))
  .exact dk (cn 0 _ (bq 0 _ (eZ _ (gp _ (inl (bl aD [.ad 2 (mB.map aQ)]))))))
 exact ew h λn h=>fL n aa 0 h
theorem Ao (j J aB r) (h:tg j J aB=some r):bt aj 128 [.ref (a4 j),.int .i64 J,.int .i64 aB] (b9 r) []:=by
 refine cc [0,1,2] [.cell 6 62] Tryz.func128 YD λb6 aD b8=>aI ?_;obtain⟨aa,bb,h⟩:=aM h;refine ej (abq j _ bb) _ ?_;obtain⟨ak,cR,h⟩:=aM h;refine ej (IZ j.Guard J aB _ cR) _ ?_;refine aR aD λ_ dF c8 bj=>aI ?_;refine bI c8 λmg _ hR dx cn=>?_;show bp aj (.loop ?r9) _ _;have vm:∀n od iT,wW j J aB aa ak n od iT=some r->dc aj ?r9 mg (an [(0,.ref (a4 j)),(1,.int .i64 J),(2,.int .i64 aB),(6,.ai (.agg [.ah,.ah,.str ([]:ahz),.ah,.ah])),(7,.ai (.agg [.ad 1 (aa.a5.map ax),.ad 2 (ak.map aQ),.str aa.Name,.ad 1 (od.map bo),.ad 1 (aa.Next.map bo)])),(8,.int .i64 iT)]):=by
  refine dp λ_ vn od iT h=>dn hR λ_ dQ dm cC=>aR dm λ_ cD _ dw=>aI ?_;refine bg h (λhQ h=>?_) λhQ h=>?_
  .refine bf (cD _ (inl (aR dm λ_ hS h5 _=>bI h5 λ_ fX _ _ _=>?_)));obtain⟨aL,c4,h⟩:=aM h;obtain⟨a2,f_,h⟩:=aM h;obtain⟨aY,ga,h⟩:=aM h;refine sZ rfl (hZ [(0,.ref (a4 j)),(1,.int .i64 J),(2,.int .i64 aB),(6,.ai (.agg [.ah,.ah,.str ([]:ahz),.ah,.ah])),(7,.ai (.agg [.ad 1 (aa.a5.map ax),.ad 2 (ak.map aQ),.str aa.Name,.ad 1 ((List.set od (Int.toNat iT) a2).map bo),.ad 1 (aa.Next.map bo)])),(8,.int .i64 iT)] (λP a9=>?_) ?_)
   ·(try simp only[b2.down,simprocAttr,c4,ga,da ga,dV,du]);refine ev (IZ aL J aB _ f_) (hK:= ?_);simp only[b2.down,simprocAttr,c4,ga,da ga,dV,du];refine⟨gJ (by kernel_rfl),?_⟩;exact cq (ab c4 (ab ga (ab (da ga) @dV)))
   refine fX _ (hS _ (inl (wr [(0,.ref (a4 j)),(1,.int .i64 J),(2,.int .i64 aB),(6,.ai (.agg [.ah,.ah,.str ([]:ahz),.ah,.ah])),(7,.ai (.agg [.ad 1 (aa.a5.map ax),.ad 2 (ak.map aQ),.str aa.Name,.ad 1 ((List.set od (Int.toNat iT) a2).map bo),.ad 1 (aa.Next.map bo)])),(8,.int .i64 (i64.wrap (iT+1)))] ?_)));exact dQ _ (inr ⟨_,cH rfl,vn (List.set od (Int.toNat iT) a2) (i64.wrap (iT+1)) h⟩)
  .refine dk (dw 0 _ (cC 0 _ (dx _ (dF _ (inl (aR aD λ_ q8 Ai _=>aI ?_))))));refine bI Ai λabt _ q_ ow _=>?_;show bp aj (.loop ?It) _ _;have abu:∀n o8 oc l5,u0 j J aB aa ak n o8 oc l5=some r->dc aj ?It abt (an [(0,.ref (a4 j)),(1,.int .i64 J),(2,.int .i64 aB),(6,.ai (.agg [.ah,.ah,.str ([]:ahz),.ah,.ah])),(7,.ai (.agg [.ad 1 (aa.a5.map ax),.ad 2 (ak.map aQ),.str aa.Name,.ad 1 (o8.map bo),.ad 1 (oc.map bo)])),(9,.int .i64 l5)]):=by
    refine dp λ_ abv o8 oc l5 h=>dn q_ λ_ abw ra hh=>aR ra λ_ k4 _ mF=>aI ?_;refine bg h (λgL h=>?_) λgL h=>?_
    .refine bf (k4 _ (inl (aR ra λ_ qi xK _=>bI xK λ_ ox _ _ _=>?_)));obtain⟨bj,sb,h⟩:=aM h;obtain⟨bq,iw,h⟩:=aM h;obtain⟨cn,mJ,h⟩:=aM h;refine sZ rfl (hZ [(0,.ref (a4 j)),(1,.int .i64 J),(2,.int .i64 aB),(6,.ai (.agg [.ah,.ah,.str ([]:ahz),.ah,.ah])),(7,.ai (.agg [.ad 1 (aa.a5.map ax),.ad 2 (ak.map aQ),.str aa.Name,.ad 1 (o8.map bo),.ad 1 ((List.set oc (Int.toNat l5) bq).map bo)])),(9,.int .i64 l5)] (λP a9=>?_) ?_)
     ·(try simp only[b2.down,simprocAttr,sb,mJ,da mJ,dV,du]);refine ev (IZ bj J aB _ iw) (hK:= ?_);simp only[b2.down,simprocAttr,sb,mJ,da mJ,dV,du];refine⟨gJ (by kernel_rfl),?_⟩;exact cq (ab sb (ab mJ (ab (da mJ) @dV)))
     refine ox _ (qi _ (inl (wr [(0,.ref (a4 j)),(1,.int .i64 J),(2,.int .i64 aB),(6,.ai (.agg [.ah,.ah,.str ([]:ahz),.ah,.ah])),(7,.ai (.agg [.ad 1 (aa.a5.map ax),.ad 2 (ak.map aQ),.str aa.Name,.ad 1 (o8.map bo),.ad 1 ((List.set oc (Int.toNat l5) bq).map bo)])),(9,.int .i64 (i64.wrap (l5+1)))] ?_)));exact abw _ (inr ⟨_,cH rfl,abv o8 (List.set oc (Int.toNat l5) bq) (i64.wrap (l5+1)) h⟩)
    .exact dk (mF 2 _ (hh 2 _ (ow _ (q8 _ (inl (bl aD [b9 (aN.mk aa.a5 ak aa.Name o8 oc)]))))))
   exact ew h λn h=>abu n od aa.Next 0 h
 exact ew h λn h=>vm n aa.aW 0 h
theorem abx (j r) (h:G2 j=some r):bt aj 167 [.int .i64 j] (.ad 2 (r.map aQ)) []:=by
 refine cc [0] [.tmp 2] Tryz.func167 YE λb6 aD b8=>aI ?_;refine db (ab (show∀s,d_ aj s 102 [(0,.int .i64 1),(1,.int .i64 j)]=some (.agg [.int .i64 1,.int .i64 j],s)from λs=>by kernel_rfl) (show∀s,c5 aj s 59 1 [(0,.agg [.int .i64 1,.int .i64 j])]=some (.ad 2 [.agg [.int .i64 1,.int .i64 j]],s)from λs=>by kernel_rfl)) _ ?_;exact dX aD [.ad 2 ([(ar.mk 1 j)].map aQ)]
theorem Pd (j J r) (h:zF j J=some r):bt aj 129 [.int .i64 j,.int .i64 J] (.ad 1 (r.map bo)) []:=by
 refine cc [0,1] [.tmp 4] Tryz.func129 YF λb6 aD b8=>aI ?_;refine db (show∀s,c5 aj s 60 0 []=some (.ad 1 [],s)from λs=>by kernel_rfl) _ ?_;refine aR aD λ_ fC dS _=>aI ?_;refine bI dS λjD _ c1 c9 _=>?_;show bp aj (.loop ?gF) _ _;have fL:∀n bX oe,wX j J n bX oe=some r->dc aj ?gF jD (an [(0,.int .i64 j),(1,.int .i64 J),(5,.ad 1 (bX.map bo)),(6,.int .i64 oe)]):=by
  refine dp λ_ fw bX oe h=>dn c1 λ_ dF c8 bj=>aR c8 λ_ eG _ bq=>aI ?_;refine bg h (λe7 h=>?_) λe7 h=>?_
  .refine bf (eG _ (inl (aR c8 λ_ cD c3 _=>bI c3 λ_ dP _ _ _=>?_)));obtain⟨aa,eB,h⟩:=aM h;obtain⟨ahf,eH,h⟩:=aM h;(try simp only[kI.down,Nat.zero_add,Nat.add_zero,reduceAdd]at eH);refine hH (cx [(0,.int .i64 j),(1,.int .i64 J),(5,.ad 1 ((bX++[aa]).map bo)),(6,.int .i64 oe)] (λP a9=>?_) ?_)
   ·(try simp only[a3.down,simprocAttr,iv.down,cP,bM,eH]);refine dv (abx (i64.wrap (j+oe)) _ eB) (hK:= ?_);simp only[a3.down,simprocAttr,iv.down,cP,bM,eH];(try simp only[fm.down,simprocAttr,iv.down,cP,bM,eH]at a9⊢);exact a9
   refine dP _ (cD _ (inl (wr [(0,.int .i64 j),(1,.int .i64 J),(5,.ad 1 ((bX++[aa]).map bo)),(6,.int .i64 (i64.wrap (oe+1)))] ?_)));exact dF _ (inr ⟨_,cH rfl,fw (bX++[aa]) (i64.wrap (oe+1)) h⟩)
  .exact dk (bq 0 _ (bj 0 _ (c9 _ (fC _ (inl (bl aD [.ad 1 (bX.map bo)]))))))
 exact ew h λn h=>fL n [] 0 h
theorem aby (j J r) (h:Ce j J=some r):bt aj 89 [.ref (bw j),.ref (bw J)] (eF r) []:=by
 refine cc [0,1] [.cell 4 29] Tryz.func89 YG λb6 aD b8=>aI ?_;refine Iz (ab (show∀s,c5 aj s 27 0 []=some (.ad 5 [],s)from λs=>by kernel_rfl) (ab (@lG aj 29 [(2,0),(22,1),(27,2)] [(.int .i64 0),.ah,.ah] rfl rfl (by kernel_rfl)) (ab @i2 (ab @i3 (ab @dV (ab @fl (ab @List.nil_append.{0} @List.cons_append.{0}))))))) _ ?_;obtain⟨aa,cl,h⟩:=aM h;obtain⟨ahg,cR,h⟩:=aM h;(try simp only[jW.down,Nat.zero_add,Nat.add_zero,reduceAdd]at cR);refine ma (ab (@h0 aj 22 22 2 rfl rfl) (ab @ia (ab @ib (ab @fl (ab @h_ (ab @all_nil (ab cR (@hx _ ax 1 λ_=>rfl)))))))) (Pa j.Start _ cl) [(0,.ref (bw j)),(1,.ref (bw J)),(4,.ai (.agg [.int .i64 0,.ah,.ah])),(5,.ai (.agg [.int .i64 (i64.wrap (j.aE+J.aE)),.ad 1 ((aa++J.Start).map ax),.ad 5 []]))] ?_;refine aR aD λ_ dF c8 bj=>ws [(0,.ref (bw j)),(1,.ref (bw J)),(4,.ai (.agg [.int .i64 0,.ah,.ah])),(5,.ai (.agg [.int .i64 (i64.wrap (j.aE+J.aE)),.ad 1 ((aa++J.Start).map ax),.ad 5 []])),(6,.int .i64 0)] ?_;refine bI c8 λmg _ hR dx _=>?_;show bp aj (.loop ?r9) _ _;have vm:∀n l7 h2,wZ j J aa n l7 h2=some r->dc aj ?r9 mg (an [(0,.ref (bw j)),(1,.ref (bw J)),(4,.ai (.agg [.int .i64 0,.ah,.ah])),(5,.ai (.agg [.int .i64 (i64.wrap (j.aE+J.aE)),.ad 1 ((aa++J.Start).map ax),.ad 5 (l7.map b9)])),(6,.int .i64 h2)]):=by
  refine dp λ_ vn l7 h2 h=>dn hR λ_ dQ dm cC=>aR dm λ_ cD _ dw=>ws [(0,.ref (bw j)),(1,.ref (bw J)),(4,.ai (.agg [.int .i64 0,.ah,.ah])),(5,.ai (.agg [.int .i64 (i64.wrap (j.aE+J.aE)),.ad 1 ((aa++J.Start).map ax),.ad 5 (l7.map b9)])),(6,.int .i64 h2),(38,.bool (decide (h2<(j.aU.length:Int))))] ?_;refine bg h (λhQ h=>?_) λhQ h=>?_
  .refine bf (cD _ (inl (aR dm λ_ hS h5 _=>bI h5 λ_ fX _ _ _=>?_)));obtain⟨ak,c4,h⟩:=aM h;obtain⟨aL,f_,h⟩:=aM h;refine ma c4 (Ao ak j.aE J.aE _ f_) [(0,.ref (bw j)),(1,.ref (bw J)),(4,.ai (.agg [.int .i64 0,.ah,.ah])),(5,.ai (.agg [.int .i64 (i64.wrap (j.aE+J.aE)),.ad 1 ((aa++J.Start).map ax),.ad 5 (l7.map b9)])),(6,.int .i64 h2),(7,.ai (b9 aL))] ?_;obtain⟨a2,hD,h⟩:=aM h;obtain⟨abz,iL,h⟩:=aM h;(try simp only[jW.down,Nat.zero_add,Nat.add_zero,reduceAdd]at iL);refine ma (ab (@h0 aj 60 60 59 rfl rfl) (ab @ia (ab @ib (ab @fl (ab @h_ (ab @all_nil (ab iL (@hx _ bo 1 λ_=>rfl)))))))) (Pd j.aE J.aE _ hD) [(0,.ref (bw j)),(1,.ref (bw J)),(4,.ai (.agg [.int .i64 0,.ah,.ah])),(5,.ai (.agg [.int .i64 (i64.wrap (j.aE+J.aE)),.ad 1 ((aa++J.Start).map ax),.ad 5 (l7.map b9)])),(6,.int .i64 h2),(7,.ai (.agg [.ad 1 (aL.a5.map ax),.ad 2 (aL.Guard.map aQ),.str aL.Name,.ad 1 (aL.aW.map bo),.ad 1 ((aL.Next++a2).map bo)]))] ?_;obtain⟨abz,gA,h⟩:=aM h;(try simp only[kI.down,Nat.zero_add,Nat.add_zero,reduceAdd]at gA);refine hH (cx [(0,.ref (bw j)),(1,.ref (bw J)),(4,.ai (.agg [.int .i64 0,.ah,.ah])),(5,.ai (.agg [.int .i64 (i64.wrap (j.aE+J.aE)),.ad 1 ((aa++J.Start).map ax),.ad 5 ((l7++[(aN.mk aL.a5 aL.Guard aL.Name aL.aW (aL.Next++a2))]).map b9)])),(6,.int .i64 h2)] (λP a9=>?_) ?_)
   .simp only[a3.down,simprocAttr,qh.down,cP,bM,gA];(try simp only[fm.down,simprocAttr,qh.down,cP,bM,gA]at a9⊢);exact a9
   refine fX _ (hS _ (inl (wr [(0,.ref (bw j)),(1,.ref (bw J)),(4,.ai (.agg [.int .i64 0,.ah,.ah])),(5,.ai (.agg [.int .i64 (i64.wrap (j.aE+J.aE)),.ad 1 ((aa++J.Start).map ax),.ad 5 ((l7++[(aN.mk aL.a5 aL.Guard aL.Name aL.aW (aL.Next++a2))]).map b9)])),(6,.int .i64 (i64.wrap (h2+1)))] ?_)));exact dQ _ (inr ⟨_,cH rfl,vn (l7++[(aN.mk aL.a5 aL.Guard aL.Name aL.aW (aL.Next++a2))]) (i64.wrap (h2+1)) h⟩)
  .refine dk (dw 0 _ (cC 0 _ (dx _ (dF _ (inl (aR aD λ_ k4 mc _=>ws [(0,.ref (bw j)),(1,.ref (bw J)),(4,.ai (.agg [.int .i64 0,.ah,.ah])),(5,.ai (.agg [.int .i64 (i64.wrap (j.aE+J.aE)),.ad 1 ((aa++J.Start).map ax),.ad 5 (l7.map b9)])),(8,.int .i64 0)] ?_))))));refine bI mc λabA _ I0 gL _=>?_;show bp aj (.loop ?abB) _ _;have abC:∀n l6 mC,wY j J aa n l6 mC=some r->dc aj ?abB abA (an [(0,.ref (bw j)),(1,.ref (bw J)),(4,.ai (.agg [.int .i64 0,.ah,.ah])),(5,.ai (.agg [.int .i64 (i64.wrap (j.aE+J.aE)),.ad 1 ((aa++J.Start).map ax),.ad 5 (l6.map b9)])),(8,.int .i64 mC)]):=by
    refine dp λ_ abD l6 mC h=>dn I0 λ_ qi xK xF=>aR xK λ_ ox _ pb=>ws [(0,.ref (bw j)),(1,.ref (bw J)),(4,.ai (.agg [.int .i64 0,.ah,.ah])),(5,.ai (.agg [.int .i64 (i64.wrap (j.aE+J.aE)),.ad 1 ((aa++J.Start).map ax),.ad 5 (l6.map b9)])),(8,.int .i64 mC),(81,.bool (decide (mC<(J.aU.length:Int))))] ?_;refine bg h (λAp h=>?_) λAp h=>?_
    .refine bf (ox _ (inl (aR xK λ_ abE abF _=>bI abF λ_ I1 _ _ _=>?_)));obtain⟨aY,nT,h⟩:=aM h;obtain⟨bj,rb,h⟩:=aM h;refine ma nT (Ao aY 0 j.aE _ rb) [(0,.ref (bw j)),(1,.ref (bw J)),(4,.ai (.agg [.int .i64 0,.ah,.ah])),(5,.ai (.agg [.int .i64 (i64.wrap (j.aE+J.aE)),.ad 1 ((aa++J.Start).map ax),.ad 5 (l6.map b9)])),(8,.int .i64 mC),(9,.ai (b9 bj))] ?_;obtain⟨bq,xN,h⟩:=aM h;obtain⟨abG,Pe,h⟩:=aM h;(try simp only[jW.down,Nat.zero_add,Nat.add_zero,reduceAdd]at Pe);refine ma (ab (@h0 aj 60 60 59 rfl rfl) (ab @ia (ab @ib (ab @fl (ab @h_ (ab @all_nil (ab Pe (@hx _ bo 1 λ_=>rfl)))))))) (Pd 0 j.aE _ xN) [(0,.ref (bw j)),(1,.ref (bw J)),(4,.ai (.agg [.int .i64 0,.ah,.ah])),(5,.ai (.agg [.int .i64 (i64.wrap (j.aE+J.aE)),.ad 1 ((aa++J.Start).map ax),.ad 5 (l6.map b9)])),(8,.int .i64 mC),(9,.ai (.agg [.ad 1 (bj.a5.map ax),.ad 2 (bj.Guard.map aQ),.str bj.Name,.ad 1 (bj.aW.map bo),.ad 1 ((bq++bj.Next).map bo)]))] ?_;obtain⟨abG,I2,h⟩:=aM h;(try simp only[kI.down,Nat.zero_add,Nat.add_zero,reduceAdd]at I2);refine hH (cx [(0,.ref (bw j)),(1,.ref (bw J)),(4,.ai (.agg [.int .i64 0,.ah,.ah])),(5,.ai (.agg [.int .i64 (i64.wrap (j.aE+J.aE)),.ad 1 ((aa++J.Start).map ax),.ad 5 ((l6++[(aN.mk bj.a5 bj.Guard bj.Name bj.aW (bq++bj.Next))]).map b9)])),(8,.int .i64 mC)] (λP a9=>?_) ?_)
     .simp only[a3.down,simprocAttr,qh.down,cP,bM,I2];(try simp only[fm.down,simprocAttr,qh.down,cP,bM,I2]at a9⊢);exact a9
     refine I1 _ (abE _ (inl (wr [(0,.ref (bw j)),(1,.ref (bw J)),(4,.ai (.agg [.int .i64 0,.ah,.ah])),(5,.ai (.agg [.int .i64 (i64.wrap (j.aE+J.aE)),.ad 1 ((aa++J.Start).map ax),.ad 5 ((l6++[(aN.mk bj.a5 bj.Guard bj.Name bj.aW (bq++bj.Next))]).map b9)])),(8,.int .i64 (i64.wrap (mC+1)))] ?_)));exact qi _ (inr ⟨_,cH rfl,abD (l6++[(aN.mk bj.a5 bj.Guard bj.Name bj.aW (bq++bj.Next))]) (i64.wrap (mC+1)) h⟩)
    .refine dk (pb 2 _ (xF 2 _ (gL _ (k4 _ (inl (ws [(4,.ai (.agg [.int .i64 (i64.wrap (j.aE+J.aE)),.ad 1 ((aa++J.Start).map ax),.ad 5 (l6.map b9)]))] ?_))))));exact dX aD [eF (a8.mk (i64.wrap (j.aE+J.aE)) (aa++J.Start) l6)]
   exact ew h λn h=>abC n l7 0 h
 exact ew h λn h=>vm n [] 0 h
theorem abH (q0:ahQ->ahz->ahz->Option ahz) (abI:∀j J aB r,q0 j J aB=some r->bt aj 90 [.slice (j.map bU),.str J,.str aB] (.str r) []) (j J aB r) (h:u1 q0 j J aB=some r):bt aj 90 [.slice (j.map bU),.str J,.str aB] (.str r) []:=by
 refine cc [0,1,2] [.tmp 6] Tryz.func90 YH λb6 aD b8=>aI ?_;refine aR aD λ_ cu bD ak=>aI ?_;refine bg h (λcX h=>?_) λcX h=>?_
 .obtain⟨aa,b0,h⟩:=aM h;refine ej (abI j aB J _ b0) _ ?_;exact dX bD [.str aa]
 .refine bf (cu _ (inl (aR aD λ_ eG eR _=>aI ?_)));refine bI eR λov _ dm e7 _=>?_;show bp aj (.loop ?lp) _ _;have lq:∀n qa,w1 q0 j J aB n qa=some r->dc aj ?lp ov (an [(0,.slice (j.map bU)),(1,.str J),(2,.str aB),(7,.int .i64 qa)]):=by
   refine dp λ_ kJ qa h=>dn dm λ_ cD c3 dw=>aR c3 λ_ dP _ ey=>aI ?_;refine bg h (λkf h=>?_) λkf h=>?_
   .refine bf (dP _ (inl (aR c3 λ_ fX e8 _=>bI e8 λ_ iV jY _ _=>?_)));obtain⟨ak,f_,h⟩:=aM h;refine Da (ak.Left==J) f_ [(0,.slice (j.map bU)),(1,.str J),(2,.str aB),(7,.int .i64 qa),(36,.bool ((ak.Left==J)&&(ak.cf==aB)))] ?_;refine bg h (λme h=>?_) λme h=>?_
    .refine db f_ _ ?_;exact dX jY [.str ak.Result]
    .refine bf (iV _ (fX _ (inl (fB ?_))));exact cD _ (inr ⟨_,cH rfl,kJ (i64.wrap (qa+1)) h⟩)
   .exact dk (ey 0 _ (dw 0 _ (e7 _ (eG _ (inl (bl aD [.str ([]:ahz)]))))))
  exact ew h λn h=>lq n 0 h
theorem abJ:∀n j J aB r,w2 n j J aB=some r->bt aj 90 [.slice (j.map bU),.str J,.str aB] (.str r) []:=by
 intro n;induction n with
 |zero=>intro j J aB r h;cases(show none=some r from h)
 |succ n ih=>intro j J aB r h;exact abH (w2 n) ih j J aB r h
theorem abK (j J aB r) (h:Cf j J aB=some r):bt aj 90 [.slice (j.map bU),.str J,.str aB] (.str r) []:=by
 obtain⟨n,h⟩:=ki h;exact abJ n j J aB r h
theorem abL (j r) (h:w3 j=some r):bt aj 130 [.slice (j.map a0)] (.ad 2 (r.map aQ)) []:=by
 refine cc [0] [.tmp 2] Tryz.func130 YI λb6 aD b8=>aI ?_;refine aR aD λ_ cu bD _=>aI ?_;refine bg h (λcX h=>?_) λcX h=>?_
 .refine db (ab (show∀s,d_ aj s 102 [(0,.int .i64 0),(1,.int .i64 1)]=some (.agg [.int .i64 0,.int .i64 1],s)from λs=>by kernel_rfl) (show∀s,c5 aj s 59 1 [(0,.agg [.int .i64 0,.int .i64 1])]=some (.ad 2 [.agg [.int .i64 0,.int .i64 1]],s)from λs=>by kernel_rfl)) _ ?_;exact dX bD [.ad 2 ([(ar.mk 0 1)].map aQ)]
 .refine bf (cu _ (inl (db (show∀s,c5 aj s 59 0 []=some (.ad 2 [],s)from λs=>by kernel_rfl) _ ?_)));refine aR aD λ_ eG eR _=>aI ?_;refine bI eR λov _ dm e7 _=>?_;show bp aj (.loop ?nd) _ _;have nf:∀n jk jU,u2 j n jk jU=some r->dc aj ?nd ov (an [(0,.slice (j.map a0)),(3,.ad 2 (jk.map aQ)),(4,.int .i64 jU)]):=by
   refine dp λabM ng jk jU h=>dn dm λ_ cD c3 dw=>aR c3 λ_ dP _ ey=>aI ?_;refine bg h (λkf h=>?_) λkf h=>?_
   .refine bf (dP _ (inl (aR c3 λ_ fX e8 _=>bI e8 λI3 iV jY _ _=>?_)));show bp aj (.seq _ ?Iv) _ _;have Pf:∀r1 r2,Cg (u2 j abM) j r1 r2=some r->bp aj ?Iv I3 (an [(0,.slice (j.map a0)),(3,.ad 2 (r1.map aQ)),(4,.int .i64 r2)]):=by
     intro r1 r2 h;obtain⟨aa,ga,h⟩:=aM h;obtain⟨ahh,hD,h⟩:=aM h;(try simp only[jW.down,Nat.zero_add,Nat.add_zero,reduceAdd]at hD);refine ou (ab ga (ab (@h0 aj 59 59 102 rfl rfl) (ab @ia (ab @ib (ab @fl (ab @h_ (ab @all_nil (ab hD (@hx _ aQ 2 λ_=>rfl))))))))) [(0,.slice (j.map a0)),(3,.ad 2 ((r1++aa).map aQ)),(4,.int .i64 r2)] ?_;refine iV _ (fX _ (inl (wr [(0,.slice (j.map a0)),(3,.ad 2 ((r1++aa).map aQ)),(4,.int .i64 (i64.wrap (r2+1)))] ?_)));exact cD _ (inr ⟨_,cH rfl,ng (r1++aa) (i64.wrap (r2+1)) h⟩)
    refine aR jY λ_ mH _ _=>aI ?_;refine bg h (λow h=>?_) λow h=>?_
    .obtain⟨abN,ql,h⟩:=aM h;(try simp only[jW.down,Nat.zero_add,Nat.add_zero,reduceAdd]at ql);refine ou (ab (show∀s,d_ aj s 102 [(0,.int .i64 2),(1,.int .i64 7)]=some (.agg [.int .i64 2,.int .i64 7],s)from λs=>by kernel_rfl) (ab (show∀s,c5 aj s 59 1 [(0,.agg [.int .i64 2,.int .i64 7])]=some (.ad 2 [.agg [.int .i64 2,.int .i64 7]],s)from λs=>by kernel_rfl) (ab (@h0 aj 59 59 102 rfl rfl) (ab @ia (ab @ib (ab @fl (ab @h_ (ab @all_nil (ab ql (@hx _ aQ 2 λ_=>rfl)))))))))) [(0,.slice (j.map a0)),(3,.ad 2 ((jk++[(ar.mk 2 7)]).map aQ)),(4,.int .i64 jU)] ?_;exact mH _ (inr ⟨_,cH rfl,Pf (jk++[(ar.mk 2 7)]) jU h⟩)
    .exact bf (mH _ (inr ⟨_,cH rfl,Pf jk jU h⟩))
   .exact dk (ey 0 _ (dw 0 _ (e7 _ (eG _ (inl (bl aD [.ad 2 (jk.map aQ)]))))))
  exact ew h λn h=>nf n [] 0 h
theorem abO (dd dA dt a6 a7 cF hP ic ie ig ij ik il im iq ir ed r) (h:Ch dd dA dt a6 a7 cF hP ic ie ig ij ik il im iq ir ed=some r):bt aj 91 [.ai (.agg [.int .i64 dd,.slice (dA.map ax),.slice (dt.map a4)]),.ai (.agg [.int .i64 a6,.slice (a7.map ax),.slice (cF.map a4)]),.ai (.agg [.slice (hP.map ax),.slice (ic.map aQ),.str ie,.slice (ig.map a0),.slice (ij.map a0)]),.ai (.agg [.slice (ik.map ax),.slice (il.map aQ),.str im,.slice (iq.map a0),.slice (ir.map a0)]),.str ed] (.agg [.ad 1 (r.1.map ax),.ad 2 (r.2.1.map aQ),.str r.2.2.1,.slice (r.2.2.2.1.map a0),.ad 1 (r.2.2.2.2.map bo)]) [.ai (.agg [.int .i64 dd,.slice (dA.map ax),.slice (dt.map a4)]),.ai (.agg [.int .i64 a6,.slice (a7.map ax),.slice (cF.map a4)]),.ai (.agg [.slice (hP.map ax),.slice (ic.map aQ),.str ie,.slice (ig.map a0),.slice (ij.map a0)]),.ai (.agg [.slice (ik.map ax),.slice (il.map aQ),.str im,.slice (iq.map a0),.slice (ir.map a0)]),.hole]:=by
 refine bt.NV (fx:=[0,1,2,3,4]) Gu [.cell 10 62] [(0,.ai (.agg [.int .i64 dd,.slice (dA.map ax),.slice (dt.map a4)])),(1,.ai (.agg [.int .i64 a6,.slice (a7.map ax),.slice (cF.map a4)])),(2,.ai (.agg [.slice (hP.map ax),.slice (ic.map aQ),.str ie,.slice (ig.map a0),.slice (ij.map a0)])),(3,.ai (.agg [.slice (ik.map ax),.slice (il.map aQ),.str im,.slice (iq.map a0),.slice (ir.map a0)])),(4,.str ed)] Tryz.func91 rfl rfl YZ (le_of_ble_eq_true rfl) YY rfl rfl λb6 aD b8=>?_;refine aI ?_;refine aaO _ ?_;obtain⟨aa,cl,h⟩:=aM h;refine ka rfl (hZ [(0,.ai (.agg [.int .i64 dd,.slice (dA.map ax),.slice (dt.map a4)])),(1,.ai (.agg [.int .i64 a6,.slice (a7.map ax),.slice (cF.map a4)])),(2,.ai (.agg [.slice (hP.map ax),.slice (ic.map aQ),.str ie,.slice (ig.map a0),.slice (ij.map a0)])),(3,.ai (.agg [.slice (ik.map ax),.slice (il.map aQ),.str im,.slice (iq.map a0),.slice (ir.map a0)])),(4,.str ed),(10,.ai (.agg [.ah,.ah,.str ([]:ahz),.ah,.ah])),(11,.int .i64 (i64.wrap (dd+a6))),(12,.ai (b9 aa))] (λP a9=>?_) ?_)
 ·(try simp only[b2.down,simprocAttr]);refine ev (Ao (aN.mk hP ic ie ig ij) dd a6 _ cl) rfl rfl (by simp only[b2.down,simprocAttr,OI.down]<;>rfl) rfl (inr (Ab _)) ?_;simp only[b2.down,simprocAttr];refine⟨gJ (by kernel_rfl),?_⟩;exact cq trivial
 obtain⟨ak,b0,h⟩:=aM h;refine df (cx [(0,.ai (.agg [.int .i64 dd,.slice (dA.map ax),.slice (dt.map a4)])),(1,.ai (.agg [.int .i64 a6,.slice (a7.map ax),.slice (cF.map a4)])),(2,.ai (.agg [.slice (hP.map ax),.slice (ic.map aQ),.str ie,.slice (ig.map a0),.slice (ij.map a0)])),(3,.ai (.agg [.slice (ik.map ax),.slice (il.map aQ),.str im,.slice (iq.map a0),.slice (ir.map a0)])),(4,.str ed),(10,.ai (.agg [.ah,.ah,.str ([]:ahz),.ah,.ah])),(11,.int .i64 (i64.wrap (dd+a6))),(12,.ai (b9 aa)),(13,.ai (b9 ak))] (λP a9=>?_) ?_)
 ·(try simp only[a3.down,simprocAttr]);refine dv (Ao (aN.mk ik il im iq ir) 0 dd _ b0) rfl rfl (by simp only[a3.down,simprocAttr,OI.down]<;>rfl) rfl (inr (Ab _)) ?_;simp only[a3.down,simprocAttr];exact cq trivial
 obtain⟨aL,hW,h⟩:=aM h;refine VB (cx (K:=eK _) [(0,.ai (.agg [.int .i64 dd,.slice (dA.map ax),.slice (dt.map a4)])),(1,.ai (.agg [.int .i64 a6,.slice (a7.map ax),.slice (cF.map a4)])),(2,.ai (.agg [.slice (hP.map ax),.slice (ic.map aQ),.str ie,.slice (ig.map a0),.slice (ij.map a0)])),(3,.ai (.agg [.slice (ik.map ax),.slice (il.map aQ),.str im,.slice (iq.map a0),.slice (ir.map a0)])),(4,.str ed),(10,.ai (.agg [.ah,.ah,.str ([]:ahz),.ah,.ah])),(12,.ai (b9 aa)),(14,.ai (b9 aL))] (λP a9=>?_) (VC [(0,.ai (.agg [.int .i64 dd,.slice (dA.map ax),.slice (dt.map a4)])),(1,.ai (.agg [.int .i64 a6,.slice (a7.map ax),.slice (cF.map a4)])),(2,.ai (.agg [.slice (hP.map ax),.slice (ic.map aQ),.str ie,.slice (ig.map a0),.slice (ij.map a0)])),(3,.ai (.agg [.slice (ik.map ax),.slice (il.map aQ),.str im,.slice (iq.map a0),.slice (ir.map a0)])),(4,.str ed),(10,.ai (.agg [.ah,.ah,.str ([]:ahz),.ah,.ah])),(12,.ai (.agg [.ad 1 (aa.a5.map ax),.ad 2 (aa.Guard.map aQ),.str aa.Name,.slice (aa.aW.map a0),.ad 1 (aa.Next.map bo)])),(14,.ai (b9 aL))] (ht [] rfl (cy rfl (cy rfl (cy rfl (cy rfl (cy rfl (cy rfl (hg (t:=12) (d:=.ai (b9 aa)) (bz:=.ai (.agg [.ad 1 (aa.a5.map ax),.ad 2 (aa.Guard.map aQ),.str aa.Name,.slice (aa.aW.map a0),.ad 1 (aa.Next.map bo)])) rfl rfl (.ai (.agg (.cons (.refl _) (.cons (.refl _) (.cons (.refl _) (.cons (s6 rfl rfl (by simp only[dg,I.share,I.shares, @bB _ bo a0 (λ_=>nQ _)]<;>rfl)) (.cons (.refl _) (.nil)))))))) (by decide) (cy rfl (hv)))))))))) ?_))
 ·(try simp only[a3.down,simprocAttr]);refine dv (Ao ak (i64.wrap (dd+a6)) (hP.length:Int) _ hW) rfl rfl (by simp only[a3.down,simprocAttr,gw,gx,gy,dg, @bB _ ax ax (λ_=>fu _), @bB _ aQ aQ (λ_=>iu _), @bB _ bo a0 (λ_=>nQ _), @bB _ bo a0 (λ_=>nQ _)]<;>rfl) rfl (inr (Ab _)) ?_;simp only[a3.down,simprocAttr];exact cq trivial
 obtain⟨Dj,kk,h⟩:=aM h;(try simp only[jW.down,Nat.zero_add,Nat.add_zero,reduceAdd]at kk);refine N4 _ [(0,.ai (.agg [.int .i64 dd,.slice (dA.map ax),.slice (dt.map a4)])),(1,.ai (.agg [.int .i64 a6,.slice (a7.map ax),.slice (cF.map a4)])),(2,.ai (.agg [.slice (hP.map ax),.slice (ic.map aQ),.str ie,.slice (ig.map a0),.slice (ij.map a0)])),(3,.ai (.agg [.slice (ik.map ax),.slice (il.map aQ),.str im,.slice (iq.map a0),.slice (ir.map a0)])),(4,.str ed),(10,.ai (.agg [.ah,.ah,.str ([]:ahz),.ah,.ah])),(53,.ad 1 (aa.a5.map ax)),(55,.ad 1 (aL.a5.map ax)),(58,.slice (aa.aW.map a0))] [(12,.ai (.agg [.hole,.ad 2 (aa.Guard.map aQ),.str aa.Name,.slice (aa.aW.map a0),.ad 1 (aa.Next.map bo)])),(14,.ai (.agg [.hole,.ad 2 (aL.Guard.map aQ),.str aL.Name,.ad 1 (aL.aW.map bo),.ad 1 (aL.Next.map bo)]))] [(0,.ai (.agg [.int .i64 dd,.slice (dA.map ax),.slice (dt.map a4)])),(1,.ai (.agg [.int .i64 a6,.slice (a7.map ax),.slice (cF.map a4)])),(2,.ai (.agg [.slice (hP.map ax),.slice (ic.map aQ),.str ie,.slice (ig.map a0),.slice (ij.map a0)])),(3,.ai (.agg [.slice (ik.map ax),.slice (il.map aQ),.str im,.slice (iq.map a0),.slice (ir.map a0)])),(10,.ai (.agg [.ah,.ah,.str ([]:ahz),.ah,.ah])),(12,.ai (.agg [.hole,.ad 2 (aa.Guard.map aQ),.str aa.Name,.slice (aa.aW.map a0),.ad 1 (aa.Next.map bo)])),(14,.ai (.agg [.hole,.ad 2 (aL.Guard.map aQ),.str aL.Name,.ad 1 (aL.aW.map bo),.ad 1 (aL.Next.map bo)])),(15,.ai (.agg [.ad 1 ((aa.a5++aL.a5).map ax),.ah,.str ed,.slice (aa.aW.map a0),.ah]))] ⟨_,⟨_,_,rfl,rfl,rfl,rfl,λ_ h=>h,rfl,inl ⟨rfl,rfl⟩⟩,⟨_,⟨_,_,rfl,rfl,rfl,rfl,λ_ h=>h,rfl,inl ⟨rfl,rfl⟩⟩,⟨_,⟨_,_,rfl,rfl,rfl,rfl,λ_ h=>h,rfl,inr ⟨rfl,rfl⟩⟩,rfl⟩⟩⟩ rfl rfl rfl rfl (λP a9=>?_) ?_
 .simp only[b2.down,simprocAttr,OJ.down,kk,cW,bM,hM];refine⟨gJ (by kernel_rfl),?_⟩;(try simp only[fm.down,simprocAttr,OJ.down,kk,cW,bM,hM]at a9⊢);exact a9
 refine df (cx [(0,.ai (.agg [.int .i64 dd,.slice (dA.map ax),.slice (dt.map a4)])),(1,.ai (.agg [.int .i64 a6,.slice (a7.map ax),.slice (cF.map a4)])),(2,.ai (.agg [.slice (hP.map ax),.slice (ic.map aQ),.str ie,.slice (ig.map a0),.slice (ij.map a0)])),(3,.ai (.agg [.slice (ik.map ax),.slice (il.map aQ),.str im,.slice (iq.map a0),.slice (ir.map a0)])),(10,.ai (.agg [.ah,.ah,.str ([]:ahz),.ah,.ah])),(12,.ai (.agg [.hole,.hole,.str aa.Name,.slice (aa.aW.map a0),.ad 1 (aa.Next.map bo)])),(14,.ai (.agg [.hole,.hole,.str aL.Name,.ad 1 (aL.aW.map bo),.ad 1 (aL.Next.map bo)])),(15,.ai (.agg [.ad 1 ((aa.a5++aL.a5).map ax),.ah,.str ed,.slice (aa.aW.map a0),.ah])),(16,.ad 1 ([aa.Guard,aL.Guard].map bo))] (λP a9=>?_) ?_)
 .simp only[a3.down,simprocAttr,Dc.down,cP,bM];(try simp only[fm.down,simprocAttr,Dc.down,cP,bM]at a9⊢);exact a9
 refine aR aD λ_ gU qj _=>ws [(0,.ai (.agg [.int .i64 dd,.slice (dA.map ax),.slice (dt.map a4)])),(1,.ai (.agg [.int .i64 a6,.slice (a7.map ax),.slice (cF.map a4)])),(2,.ai (.agg [.slice (hP.map ax),.slice (ic.map aQ),.str ie,.slice (ig.map a0),.slice (ij.map a0)])),(3,.ai (.agg [.slice (ik.map ax),.slice (il.map aQ),.str im,.slice (iq.map a0),.slice (ir.map a0)])),(10,.ai (.agg [.ah,.ah,.str ([]:ahz),.ah,.ah])),(12,.ai (.agg [.hole,.hole,.str aa.Name,.slice (aa.aW.map a0),.ad 1 (aa.Next.map bo)])),(14,.ai (.agg [.hole,.hole,.str aL.Name,.ad 1 (aL.aW.map bo),.ad 1 (aL.Next.map bo)])),(15,.ai (.agg [.ad 1 ((aa.a5++aL.a5).map ax),.ah,.str ed,.slice (aa.aW.map a0),.ah])),(16,.ad 1 ([aa.Guard,aL.Guard].map bo)),(17,.int .i64 0)] ?_;refine bI qj λAh _ e8 jC _=>?_;have abP:∀n nJ m8 kX,u3 ed dd dA dt a6 a7 cF hP ic ie ig ij ik il im iq ir aa aL n nJ m8 kX=some r->dc aj Oi Ah (an [(0,.ai (.agg [.int .i64 dd,.slice (dA.map ax),.slice (dt.map a4)])),(1,.ai (.agg [.int .i64 a6,.slice (a7.map ax),.slice (cF.map a4)])),(2,.ai (.agg [.slice (hP.map ax),.slice (ic.map aQ),.str ie,.slice (ig.map a0),.slice (ij.map a0)])),(3,.ai (.agg [.slice (ik.map ax),.slice (il.map aQ),.str im,.slice (iq.map a0),.slice (ir.map a0)])),(10,.ai (.agg [.ah,.ah,.str ([]:ahz),.ah,.ah])),(12,.ai (.agg [.hole,.hole,.str aa.Name,.slice (aa.aW.map a0),.ad 1 (aa.Next.map bo)])),(14,.ai (.agg [.hole,.hole,.str aL.Name,.ad 1 (nJ.map qg),.ad 1 (aL.Next.map bo)])),(15,.ai (.agg [.ad 1 ((aa.a5++aL.a5).map ax),.ah,.str ed,.slice (aa.aW.map a0),.ah])),(16,.ad 1 (m8.map bo)),(17,.int .i64 kX)]):=by
  refine dp λ_ abQ nJ m8 kX h=>dn e8 λ_ iV jY qe=>aR jY λ_ mH _ qf=>ws [(0,.ai (.agg [.int .i64 dd,.slice (dA.map ax),.slice (dt.map a4)])),(1,.ai (.agg [.int .i64 a6,.slice (a7.map ax),.slice (cF.map a4)])),(2,.ai (.agg [.slice (hP.map ax),.slice (ic.map aQ),.str ie,.slice (ig.map a0),.slice (ij.map a0)])),(3,.ai (.agg [.slice (ik.map ax),.slice (il.map aQ),.str im,.slice (iq.map a0),.slice (ir.map a0)])),(10,.ai (.agg [.ah,.ah,.str ([]:ahz),.ah,.ah])),(12,.ai (.agg [.hole,.hole,.str aa.Name,.slice (aa.aW.map a0),.ad 1 (aa.Next.map bo)])),(14,.ai (.agg [.hole,.hole,.str aL.Name,.ad 1 (nJ.map qg),.ad 1 (aL.Next.map bo)])),(15,.ai (.agg [.ad 1 ((aa.a5++aL.a5).map ax),.ah,.str ed,.slice (aa.aW.map a0),.ah])),(16,.ad 1 (m8.map bo)),(17,.int .i64 kX),(69,.bool (decide (kX<(aa.aW.length:Int))))] ?_;refine bg h (λme h=>?_) λme h=>?_
  .refine bf (mH _ (inl (aR jY λ_ nh sa _=>bI sa λ_ q8 _ _ _=>?_)));obtain⟨a2,gA,h⟩:=aM h;obtain⟨I4,iW,h⟩:=aM h;(try simp only[jW.down,Nat.zero_add,Nat.add_zero,reduceAdd]at iW);refine db (ab (show∀s,d_ aj s 102 [(0,.int .i64 2),(1,.int .i64 3)]=some (.agg [.int .i64 2,.int .i64 3],s)from λs=>by kernel_rfl) (ab (show∀s,c5 aj s 59 1 [(0,.agg [.int .i64 2,.int .i64 3])]=some (.ad 2 [.agg [.int .i64 2,.int .i64 3]],s)from λs=>by kernel_rfl) (ab gA (ab (@h0 aj 59 59 102 rfl rfl) (ab @ia (ab @ib (ab @fl (ab @h_ (ab @all_nil (ab iW (@hx _ aQ 2 λ_=>rfl))))))))))) [(0,.ai (.agg [.int .i64 dd,.slice (dA.map ax),.slice (dt.map a4)])),(1,.ai (.agg [.int .i64 a6,.slice (a7.map ax),.slice (cF.map a4)])),(2,.ai (.agg [.slice (hP.map ax),.slice (ic.map aQ),.str ie,.slice (ig.map a0),.slice (ij.map a0)])),(3,.ai (.agg [.slice (ik.map ax),.slice (il.map aQ),.str im,.slice (iq.map a0),.slice (ir.map a0)])),(10,.ai (.agg [.ah,.ah,.str ([]:ahz),.ah,.ah])),(12,.ai (.agg [.hole,.hole,.str aa.Name,.slice (aa.aW.map a0),.ad 1 (aa.Next.map bo)])),(14,.ai (.agg [.hole,.hole,.str aL.Name,.ad 1 (nJ.map qg),.ad 1 (aL.Next.map bo)])),(15,.ai (.agg [.ad 1 ((aa.a5++aL.a5).map ax),.ah,.str ed,.slice (aa.aW.map a0),.ah])),(16,.ad 1 (m8.map bo)),(17,.int .i64 kX),(18,.ad 2 (([(ar.mk 2 3)]++a2).map aQ))] ?_;obtain⟨aY,gq,h⟩:=aM h;obtain⟨I4,q7,h⟩:=aM h;obtain⟨I4,sc,h⟩:=aM h;(try simp only[kI.down,Nat.zero_add,Nat.add_zero,reduceAdd]at sc);obtain⟨I4,nU,h⟩:=aM h;(try simp only[kI.down,Nat.zero_add,Nat.add_zero,reduceAdd]at nU);refine hH (cx [(0,.ai (.agg [.int .i64 dd,.slice (dA.map ax),.slice (dt.map a4)])),(1,.ai (.agg [.int .i64 a6,.slice (a7.map ax),.slice (cF.map a4)])),(2,.ai (.agg [.slice (hP.map ax),.slice (ic.map aQ),.str ie,.slice (ig.map a0),.slice (ij.map a0)])),(3,.ai (.agg [.slice (ik.map ax),.slice (il.map aQ),.str im,.slice (iq.map a0),.slice (ir.map a0)])),(10,.ai (.agg [.ah,.ah,.str ([]:ahz),.ah,.ah])),(12,.ai (.agg [.hole,.hole,.str aa.Name,.slice (aa.aW.map a0),.ad 1 (aa.Next.map bo)])),(14,.ai (.agg [.hole,.hole,.str aL.Name,.ad 1 ((List.set nJ (Int.toNat kX) (true,aY.2)).map qg),.ad 1 (aL.Next.map bo)])),(15,.ai (.agg [.ad 1 ((aa.a5++aL.a5).map ax),.ah,.str ed,.slice (aa.aW.map a0),.ah])),(16,.ad 1 ((m8++[(([(ar.mk 2 3)]++a2)++aY.2)]).map bo)),(17,.int .i64 kX)] (λP a9=>?_) ?_)
   .simp only[a3.down,simprocAttr,gq,da gq,OK.down,(Oe q7),sc,cP,bM,nU];(try simp only[fm.down,simprocAttr,gq,da gq,OK.down,(Oe q7),sc,cP,bM,nU]at a9⊢);exact a9
   refine q8 _ (nh _ (inl (wr [(0,.ai (.agg [.int .i64 dd,.slice (dA.map ax),.slice (dt.map a4)])),(1,.ai (.agg [.int .i64 a6,.slice (a7.map ax),.slice (cF.map a4)])),(2,.ai (.agg [.slice (hP.map ax),.slice (ic.map aQ),.str ie,.slice (ig.map a0),.slice (ij.map a0)])),(3,.ai (.agg [.slice (ik.map ax),.slice (il.map aQ),.str im,.slice (iq.map a0),.slice (ir.map a0)])),(10,.ai (.agg [.ah,.ah,.str ([]:ahz),.ah,.ah])),(12,.ai (.agg [.hole,.hole,.str aa.Name,.slice (aa.aW.map a0),.ad 1 (aa.Next.map bo)])),(14,.ai (.agg [.hole,.hole,.str aL.Name,.ad 1 ((List.set nJ (Int.toNat kX) (true,aY.2)).map qg),.ad 1 (aL.Next.map bo)])),(15,.ai (.agg [.ad 1 ((aa.a5++aL.a5).map ax),.ah,.str ed,.slice (aa.aW.map a0),.ah])),(16,.ad 1 ((m8++[(([(ar.mk 2 3)]++a2)++aY.2)]).map bo)),(17,.int .i64 (i64.wrap (kX+1)))] ?_)));exact iV _ (inr ⟨_,cH rfl,abQ (List.set nJ (Int.toNat kX) (true,aY.2)) (m8++[(([(ar.mk 2 3)]++a2)++aY.2)]) (i64.wrap (kX+1)) h⟩)
  .refine dk (qf 0 _ (qe 0 _ (jC _ (gU _ (inl ?_)))));obtain⟨bj,iw,h⟩:=aM h;refine df (cx [(0,.ai (.agg [.int .i64 dd,.slice (dA.map ax),.slice (dt.map a4)])),(1,.ai (.agg [.int .i64 a6,.slice (a7.map ax),.slice (cF.map a4)])),(2,.ai (.agg [.slice (hP.map ax),.slice (ic.map aQ),.str ie,.slice (ig.map a0),.slice (ij.map a0)])),(3,.ai (.agg [.slice (ik.map ax),.slice (il.map aQ),.str im,.slice (iq.map a0),.slice (ir.map a0)])),(10,.ai (.agg [.ah,.ah,.str ([]:ahz),.ah,.ah])),(12,.ai (.agg [.hole,.hole,.str aa.Name,.slice (aa.aW.map a0),.ad 1 (aa.Next.map bo)])),(14,.ai (.agg [.hole,.hole,.str aL.Name,.ad 1 (nJ.map qg),.ad 1 (aL.Next.map bo)])),(15,.ai (.agg [.ad 1 ((aa.a5++aL.a5).map ax),.ad 2 (bj.map aQ),.str ed,.slice (aa.aW.map a0),.ah]))] (λP a9=>?_) ?_)
   ·(try simp only[a3.down,simprocAttr]);refine dv (abL m8 _ iw) rfl rfl (by simp only[a3.down,simprocAttr,gw,gx,gy,dg, @bB _ bo a0 (λ_=>nQ _)]<;>rfl) rfl (inr (iR (λ_=>r7 _) _)) ?_;simp only[a3.down,simprocAttr];exact cq trivial
   obtain⟨Dj,kg,h⟩:=aM h;(try simp only[jW.down,Nat.zero_add,Nat.add_zero,reduceAdd]at kg);refine db (ab (@h0 aj 60 60 59 rfl rfl) (ab @ia (ab @ib (ab @fl (ab @h_ (ab @all_nil (ab kg (@hx _ bo 1 λ_=>rfl)))))))) [(0,.ai (.agg [.int .i64 dd,.slice (dA.map ax),.slice (dt.map a4)])),(1,.ai (.agg [.int .i64 a6,.slice (a7.map ax),.slice (cF.map a4)])),(2,.ai (.agg [.slice (hP.map ax),.slice (ic.map aQ),.str ie,.slice (ig.map a0),.slice (ij.map a0)])),(3,.ai (.agg [.slice (ik.map ax),.slice (il.map aQ),.str im,.slice (iq.map a0),.slice (ir.map a0)])),(10,.ai (.agg [.ah,.ah,.str ([]:ahz),.ah,.ah])),(15,.ai (.agg [.ad 1 ((aa.a5++aL.a5).map ax),.ad 2 (bj.map aQ),.str ed,.slice (aa.aW.map a0),.ad 1 ((aa.Next++aL.Next).map bo)]))] ?_;refine ws [(0,.ai (.agg [.int .i64 dd,.slice (dA.map ax),.slice (dt.map a4)])),(1,.ai (.agg [.int .i64 a6,.slice (a7.map ax),.slice (cF.map a4)])),(2,.ai (.agg [.slice (hP.map ax),.slice (ic.map aQ),.str ie,.slice (ig.map a0),.slice (ij.map a0)])),(3,.ai (.agg [.slice (ik.map ax),.slice (il.map aQ),.str im,.slice (iq.map a0),.slice (ir.map a0)])),(10,.ai (.agg [.ad 1 ((aa.a5++aL.a5).map ax),.ad 2 (bj.map aQ),.str ed,.slice (aa.aW.map a0),.ad 1 ((aa.Next++aL.Next).map bo)]))] ?_;exact ko (aD _ (inl (mA [.agg [.ad 1 ((aa.a5++aL.a5).map ax),.ad 2 (bj.map aQ),.str ed,.slice (aa.aW.map a0),.ad 1 ((aa.Next++aL.Next).map bo)]] rfl (by cases gB h;rfl) (by decide) (m3 (kG (by cases gB h;rfl) rfl rfl rfl (kG (by cases gB h;rfl) rfl rfl rfl (kG (by cases gB h;rfl) rfl rfl rfl (kG (by cases gB h;rfl) rfl rfl rfl (lH (m4))))))))))
 obtain⟨n,h⟩:=ki h;exact kW (inr ⟨_,ht [] rfl (cy (t:=0) (d:=.ai (.agg [.int .i64 dd,.slice (dA.map ax),.slice (dt.map a4)])) rfl (cy (t:=1) (d:=.ai (.agg [.int .i64 a6,.slice (a7.map ax),.slice (cF.map a4)])) rfl (cy (t:=2) (d:=.ai (.agg [.slice (hP.map ax),.slice (ic.map aQ),.str ie,.slice (ig.map a0),.slice (ij.map a0)])) rfl (cy (t:=3) (d:=.ai (.agg [.slice (ik.map ax),.slice (il.map aQ),.str im,.slice (iq.map a0),.slice (ir.map a0)])) rfl (cy (t:=10) (d:=.ai (.agg [.ah,.ah,.str ([]:ahz),.ah,.ah])) rfl (cy (t:=12) (d:=.ai (.agg [.hole,.hole,.str aa.Name,.slice (aa.aW.map a0),.ad 1 (aa.Next.map bo)])) rfl (hg (t:=14) (d:=.ai (.agg [.hole,.hole,.str aL.Name,.ad 1 (aL.aW.map bo),.ad 1 (aL.Next.map bo)])) (bz:=.ai (.agg [.hole,.hole,.str aL.Name,.ad 1 ((List.map (λx=>(false,x)) aL.aW).map qg),.ad 1 (aL.Next.map bo)])) rfl rfl (.ai (.agg (.cons (.refl _) (.cons (.refl _) (.cons (.refl _) (.cons (BS Od _) (.cons (.refl _) (.nil)))))))) (by decide) (cy (t:=15) (d:=.ai (.agg [.ad 1 ((aa.a5++aL.a5).map ax),.ah,.str ed,.slice (aa.aW.map a0),.ah])) rfl (cy (t:=16) (d:=.ad 1 ([aa.Guard,aL.Guard].map bo)) rfl (cy (t:=17) (d:=.int .i64 0) rfl (hv))))))))))),abP n (List.map (λx=>(false,x)) aL.aW) [aa.Guard,aL.Guard] 0 h⟩)
theorem abR (dd dA dt a6 a7 cF aB r) (h:Ck dd dA dt a6 a7 cF aB=some r):bt aj 44 [.ai (.agg [.int .i64 dd,.slice (dA.map ax),.slice (dt.map a4)]),.ai (.agg [.int .i64 a6,.slice (a7.map ax),.slice (cF.map a4)]),.ad 3 (aB.map bU)] (.tuple [.agg [.int .i64 r.1,.ad 1 (r.2.1.map ax),.ad 5 (r.2.2.1.map a4)],.bool r.2.2.2]) [.ai (.agg [.int .i64 dd,.slice (dA.map ax),.slice (dt.map a4)]),.ai (.agg [.int .i64 a6,.slice (a7.map ax),.slice (cF.map a4)]),.ad 3 (aB.map bU)]:=by
 refine cc [0,1,2] [.cell 6 29,.tmp 7] Tryz.func44 Y1 λb6 aD b8=>aI ?_;obtain⟨aa,bb,h⟩:=aM h;refine df (cx [(0,.ai (.agg [.int .i64 dd,.slice (dA.map ax),.slice (dt.map a4)])),(1,.ai (.agg [.int .i64 a6,.slice (a7.map ax),.slice (cF.map a4)])),(2,.ad 3 (aB.map bU)),(6,.ai (.agg [.int .i64 0,.ah,.ah])),(8,.ai (eF aa))] (λP a9=>?_) ?_)
 ·(try simp only[a3.down,simprocAttr]);refine dv (aby (a8.mk dd dA dt) (a8.mk a6 a7 cF) _ bb) rfl rfl (by simp only[a3.down,simprocAttr,gw,gx,gy,dg, @bB _ ax ax (λ_=>fu _), @bB _ a4 a4 (λ_=>lo _), @bB _ ax ax (λ_=>fu _), @bB _ a4 a4 (λ_=>lo _)]<;>rfl) rfl (inr (ts _)) ?_;simp only[a3.down,simprocAttr];exact cq trivial
 refine aR aD λ_ gp cG a2=>aI ?_;refine bI cG λiM _ c8 eZ bj=>?_;have fL:∀n fZ kY,qb aB dd dA dt a6 a7 cF aa n fZ kY=some r->dc aj Om iM (an [(0,.ai (.agg [.int .i64 dd,.slice (dA.map ax),.slice (dt.map a4)])),(1,.ai (.agg [.int .i64 a6,.slice (a7.map ax),.slice (cF.map a4)])),(2,.ad 3 (aB.map bU)),(6,.ai (.agg [.int .i64 0,.ah,.ah])),(8,.ai (.agg [.int .i64 aa.aE,.ad 1 (aa.Start.map ax),.ad 5 (fZ.map a4)])),(9,.int .i64 kY)]):=by
  refine dp λkl fw fZ kY h=>dn c8 λ_ eG eR bq=>aR eR λ_ fK _ cn=>aI ?_;refine bg h (λh4 h=>?_) λh4 h=>?_
  .refine bf (fK _ (inl (aR eR λ_ dP gz _=>bI gz λ_ gU qj _ _=>aI ?_)));refine bI qj λAh _ e8 jC _=>?_;have abS:∀n ll l8 mD,r3 (qb aB dd dA dt a6 a7 cF aa kl) aB dd dA dt a6 a7 cF aa n ll l8 mD=some r->dc aj Ol Ah (an [(0,.ai (.agg [.int .i64 dd,.slice (dA.map ax),.slice (dt.map a4)])),(1,.ai (.agg [.int .i64 a6,.slice (a7.map ax),.slice (cF.map a4)])),(2,.ad 3 (aB.map bU)),(6,.ai (.agg [.int .i64 0,.ah,.ah])),(8,.ai (.agg [.int .i64 aa.aE,.ad 1 (aa.Start.map ax),.ad 5 (ll.map a4)])),(9,.int .i64 l8),(10,.int .i64 mD)]):=by
    refine dp λabT abU ll l8 mD h=>dn e8 λI3 iV jY qe=>aR jY λ_ mH _ qf=>aI ?_;refine bg h (λme h=>?_) λme h=>?_
    .refine bf (mH _ (inl ?_));have Pg:∀w4 w5 w6,Ci (qb aB dd dA dt a6 a7 cF aa kl) (r3 (qb aB dd dA dt a6 a7 cF aa kl) aB dd dA dt a6 a7 cF aa abT) aB dd dA dt a6 a7 cF aa w4 w5 w6=some r->bp aj Ok I3 (an [(0,.ai (.agg [.int .i64 dd,.slice (dA.map ax),.slice (dt.map a4)])),(1,.ai (.agg [.int .i64 a6,.slice (a7.map ax),.slice (cF.map a4)])),(2,.ad 3 (aB.map bU)),(6,.ai (.agg [.int .i64 0,.ah,.ah])),(8,.ai (.agg [.int .i64 aa.aE,.ad 1 (aa.Start.map ax),.ad 5 (w4.map a4)])),(9,.int .i64 w5),(10,.int .i64 w6)]):=by
      intro w4 w5 w6 h;refine fB ?_;exact iV _ (inr ⟨_,cH rfl,abU w4 w5 (i64.wrap (w6+1)) h⟩)
     refine aR jY λ_ nh sa _=>bI sa λ_ mb lO Aq _=>?_;obtain⟨ak,iW,h⟩:=aM h;refine db iW _ ?_;obtain⟨aL,gq,h⟩:=aM h;refine db gq _ ?_;obtain⟨a2,sc,h⟩:=aM h;refine df (cx [(0,.ai (.agg [.int .i64 dd,.slice (dA.map ax),.slice (dt.map a4)])),(1,.ai (.agg [.int .i64 a6,.slice (a7.map ax),.slice (cF.map a4)])),(2,.ad 3 (aB.map bU)),(6,.ai (.agg [.int .i64 0,.ah,.ah])),(8,.ai (.agg [.int .i64 aa.aE,.ad 1 (aa.Start.map ax),.ad 5 (ll.map a4)])),(9,.int .i64 l8),(10,.int .i64 mD),(11,.ai (a4 ak)),(12,.ai (a4 aL)),(13,.str a2)] (λP a9=>?_) ?_)
     ·(try simp only[a3.down,simprocAttr]);refine dv (abK aB ak.Name aL.Name _ sc) rfl rfl (by simp only[a3.down,simprocAttr,OL.down]<;>rfl) rfl (inr (by rfl)) ?_;simp only[a3.down,simprocAttr];exact cq trivial
     refine aR lO λ_ ox _ pb=>r_ (a2==([]:ahz)) [(0,.ai (.agg [.int .i64 dd,.slice (dA.map ax),.slice (dt.map a4)])),(1,.ai (.agg [.int .i64 a6,.slice (a7.map ax),.slice (cF.map a4)])),(2,.ad 3 (aB.map bU)),(6,.ai (.agg [.int .i64 0,.ah,.ah])),(8,.ai (.agg [.int .i64 aa.aE,.ad 1 (aa.Start.map ax),.ad 5 (ll.map a4)])),(9,.int .i64 l8),(10,.int .i64 mD),(11,.ai (a4 ak)),(12,.ai (a4 aL)),(13,.str a2),(65,.bool ((a2==([]:ahz))||((ak.aW.length:Int) !=(aL.aW.length:Int))))] ?_;refine bg h (λAp h=>?_) λAp h=>?_
     .exact dk (pb 3 _ (Aq _ (nh _ (inr ⟨_,cH rfl,Pg ll l8 mD h⟩))))
     .refine bf (ox _ (inl ?_));obtain⟨aY,mJ,h⟩:=aM h;obtain⟨ahi,kg,h⟩:=aM h;(try simp only[jW.down,Nat.zero_add,Nat.add_zero,reduceAdd]at kg);refine ka rfl (hZ [(0,.ai (.agg [.int .i64 dd,.slice (dA.map ax),.slice (dt.map a4)])),(1,.ai (.agg [.int .i64 a6,.slice (a7.map ax),.slice (cF.map a4)])),(2,.ad 3 (aB.map bU)),(6,.ai (.agg [.int .i64 0,.ah,.ah])),(8,.ai (.agg [.int .i64 aa.aE,.ad 1 (aa.Start.map ax),.ad 5 ((ll++[(aN.mk aY.1 aY.2.1 aY.2.2.1 aY.2.2.2.1 aY.2.2.2.2)]).map a4)])),(9,.int .i64 l8),(10,.int .i64 mD)] (λP a9=>?_) ?_)
      ·(try simp only[b2.down,simprocAttr,(show∀s,c5 aj s 27 1 [(0,.agg [.slice (aY.1.map ax),.slice (aY.2.1.map aQ),.str aY.2.2.1,.slice (aY.2.2.2.1.map a0),.slice (aY.2.2.2.2.map a0)])]=some (.ad 5 [.agg [.slice (aY.1.map ax),.slice (aY.2.1.map aQ),.str aY.2.2.1,.slice (aY.2.2.2.1.map a0),.slice (aY.2.2.2.2.map a0)]],s)from λs=>by kernel_rfl),OM.down,kg]);refine wg [⟨.h 0 [],true,_,_⟩,⟨.h 1 [],true,_,_⟩,⟨.h 11 [],true,_,_⟩,⟨.h 12 [],true,_,_⟩,⟨.str a2,false,_,.hole⟩] (((abO dd dA dt a6 a7 cF ak.a5 ak.Guard ak.Name ak.aW ak.Next aL.a5 aL.Guard aL.Name aL.aW aL.Next a2 _ mJ)).wide (s6 rfl rfl (by simp only[dg,I.share,I.shares, @bB _ ax ax (λ_=>fu _), @bB _ aQ aQ (λ_=>iu _), @bB _ a0 a0 (λ_=>jV _), @bB _ bo a0 (λ_=>nQ _)]<;>rfl)) rfl rfl) rfl rfl rfl (by simp only[b2.down,simprocAttr,(show∀s,c5 aj s 27 1 [(0,.agg [.slice (aY.1.map ax),.slice (aY.2.1.map aQ),.str aY.2.2.1,.slice (aY.2.2.2.1.map a0),.slice (aY.2.2.2.2.map a0)])]=some (.ad 5 [.agg [.slice (aY.1.map ax),.slice (aY.2.1.map aQ),.str aY.2.2.1,.slice (aY.2.2.2.1.map a0),.slice (aY.2.2.2.2.map a0)]],s)from λs=>by kernel_rfl), @h0 aj 27 27 62 rfl rfl,ia,ib,fl,h_,all_nil,kg, @hx _ a4 5 (λ_=>rfl),qT,o0,nF,gw,gx,gy,dg,or_true,true_or, @bB _ ax ax (λ_=>fu _), @bB _ a4 a4 (λ_=>lo _), @bB _ ax ax (λ_=>fu _), @bB _ a4 a4 (λ_=>lo _), @bB _ ax ax (λ_=>fu _), @bB _ aQ aQ (λ_=>iu _), @bB _ a0 a0 (λ_=>jV _), @bB _ a0 a0 (λ_=>jV _), @bB _ ax ax (λ_=>fu _), @bB _ aQ aQ (λ_=>iu _), @bB _ a0 a0 (λ_=>jV _), @bB _ a0 a0 (λ_=>jV _)]) rfl rfl (inl rfl) ?_;simp only[b2.down,simprocAttr,(show∀s,c5 aj s 27 1 [(0,.agg [.slice (aY.1.map ax),.slice (aY.2.1.map aQ),.str aY.2.2.1,.slice (aY.2.2.2.1.map a0),.slice (aY.2.2.2.2.map a0)])]=some (.ad 5 [.agg [.slice (aY.1.map ax),.slice (aY.2.1.map aQ),.str aY.2.2.1,.slice (aY.2.2.2.1.map a0),.slice (aY.2.2.2.2.map a0)]],s)from λs=>by kernel_rfl), @h0 aj 27 27 62 rfl rfl,ia,ib,fl,h_,all_nil,kg, @hx _ a4 5 (λ_=>rfl),l3];refine⟨gJ (by kernel_rfl),?_⟩;exact cq (ab (show∀s,c5 aj s 27 1 [(0,.agg [.slice (aY.1.map ax),.slice (aY.2.1.map aQ),.str aY.2.2.1,.slice (aY.2.2.2.1.map a0),.slice (aY.2.2.2.2.map a0)])]=some (.ad 5 [.agg [.slice (aY.1.map ax),.slice (aY.2.1.map aQ),.str aY.2.2.1,.slice (aY.2.2.2.1.map a0),.slice (aY.2.2.2.2.map a0)]],s)from λs=>by kernel_rfl) (ab OM.down kg))
      refine ws [(0,.ai (.agg [.int .i64 dd,.slice (dA.map ax),.slice (dt.map a4)])),(1,.ai (.agg [.int .i64 a6,.slice (a7.map ax),.slice (cF.map a4)])),(2,.ad 3 (aB.map bU)),(6,.ai (.agg [.int .i64 0,.ah,.ah])),(8,.ai (.agg [.int .i64 aa.aE,.ad 1 (aa.Start.map ax),.ad 5 ((ll++[(aN.mk aY.1 aY.2.1 aY.2.2.1 aY.2.2.2.1 aY.2.2.2.2)]).map a4)])),(9,.int .i64 l8),(10,.int .i64 mD),(78,.bool (decide (60<((ll++[(aN.mk aY.1 aY.2.1 aY.2.2.1 aY.2.2.2.1 aY.2.2.2.2)]).length:Int))))] ?_;refine bg h (λIL h=>?_) λIL h=>?_
      .refine db (show∀s,d_ aj s 29 []=some (.agg [.int .i64 0,.ah,.ah],s)from λs=>by kernel_rfl) _ ?_;exact ko (lO _ (inr ⟨[(6,.ai (.agg [.int .i64 0,.ad 1 [],.ad 5 []])),(7,.bool false),(0,.ai (.agg [.int .i64 dd,.slice (dA.map ax),.slice (dt.map a4)])),(1,.ai (.agg [.int .i64 a6,.slice (a7.map ax),.slice (cF.map a4)])),(2,.ad 3 (aB.map bU))],ht [] rfl (hg (t:=6) (d:=.ai (.agg [.int .i64 0,.ah,.ah])) rfl rfl (.ai (.agg (.cons (.refl _) (.cons (.fJ _) (.cons (.fJ _) (.nil)))))) (by decide) (cy rfl (cy rfl (cy rfl (cy rfl (hv)))))),mA [.agg [.int .i64 0,.ad 1 [],.ad 5 []],.bool false] rfl (by cases gB h;rfl) (by decide) (m3 (kG (by cases gB h;rfl) rfl rfl rfl (kG (by cases gB h;rfl) rfl rfl rfl (kG (by cases gB h;rfl) rfl rfl rfl (m4)))))⟩))
      .exact bf (mb _ (nh _ (inr ⟨_,cH rfl,Pg (ll++[(aN.mk aY.1 aY.2.1 aY.2.2.1 aY.2.2.2.1 aY.2.2.2.2)]) l8 mD h⟩)))
    .refine dk (qf 2 _ (qe 2 _ (jC _ (gU _ (dP _ (inl (fB ?_)))))));exact eG _ (inr ⟨_,cH rfl,fw ll (i64.wrap (l8+1)) h⟩)
   exact ew h λn h=>abS n fZ kY 0 h
  .refine dk (cn 0 _ (bq 0 _ (eZ _ (gp _ (inl ?_)))));obtain⟨bj,I5,h⟩:=aM h;refine ka rfl (hZ [(0,.ai (.agg [.int .i64 dd,.slice (dA.map ax),.slice (dt.map a4)])),(1,.ai (.agg [.int .i64 a6,.slice (a7.map ax),.slice (cF.map a4)])),(2,.ad 3 (aB.map bU)),(6,.ai (.agg [.int .i64 aa.aE,.ad 1 (aa.Start.map ax),.ad 5 (fZ.map a4)])),(7,.bool bj)] (λP a9=>?_) ?_)
   ·(try simp only[b2.down,simprocAttr]);refine ev (Di (a8.mk aa.aE aa.Start fZ) _ I5) rfl rfl (by simp only[b2.down,simprocAttr,Ae.down]<;>rfl) rfl (inr (by rfl)) ?_;simp only[b2.down,simprocAttr];refine⟨gJ (by kernel_rfl),?_⟩;exact cq trivial
   exact ko (aD _ (inl (mA [.agg [.int .i64 aa.aE,.ad 1 (aa.Start.map ax),.ad 5 (fZ.map a4)],.bool bj] rfl (by cases gB h;rfl) (by decide) (m3 (kG (by cases gB h;rfl) rfl rfl rfl (kG (by cases gB h;rfl) rfl rfl rfl (kG (by cases gB h;rfl) rfl rfl rfl (m4))))))))
 obtain⟨n,h⟩:=ki h;exact kW (inr ⟨_,ht [] rfl (cy (t:=0) (d:=.ai (.agg [.int .i64 dd,.slice (dA.map ax),.slice (dt.map a4)])) rfl (cy (t:=1) (d:=.ai (.agg [.int .i64 a6,.slice (a7.map ax),.slice (cF.map a4)])) rfl (cy (t:=2) (d:=.ad 3 (aB.map bU)) rfl (cy (t:=6) (d:=.ai (.agg [.int .i64 0,.ah,.ah])) rfl (hg (t:=8) (d:=.ai (eF aa)) (bz:=.ai (.agg [.int .i64 aa.aE,.ad 1 (aa.Start.map ax),.ad 5 (aa.aU.map a4)])) rfl rfl (.ai (.agg (.cons (.refl _) (.cons (.refl _) (.cons (.ad (M6 (λ_=>s6 rfl rfl (oq _)) _)) (.nil)))))) (by decide) (cy (t:=9) (d:=.int .i64 0) rfl (hv))))))),fL n aa.aU 0 h⟩)
theorem Ph (j J aB r) (h:Cl j J aB=some r):bt aj 17 [bw j,bw J,.ad 3 (aB.map bU)] (.tuple [.agg [.int .i64 r.1,.ad 1 (r.2.1.map ax),.ad 5 (r.2.2.1.map a4)],.int .i64 r.2.2.2]) [.hole,.hole,.ad 3 (aB.map bU)]:=by
 refine cc [0,1,2] [.cell 6 29,.tmp 7] Tryz.func17 Y2 λb6 aD b8=>aI ?_;refine aR aD λ_ cu bD ak=>?_;obtain⟨aa,cl,h⟩:=aM h;rcases gN h with⟨c9,h⟩|⟨c9,h⟩
 .refine df (cx [(2,.ad 3 (aB.map bU)),(3,.ai (bw j)),(4,.ai (bw J)),(6,.ai (.agg [.int .i64 0,.ah,.ah])),(15,.bool true)] (λP a9=>?_) ?_)
  .refine dv (Di j _ cl) rfl rfl (by simp only[a3.down,simprocAttr,(h1 c9),Ae.down]<;>rfl) rfl (inr (by rfl)) ?_;simp only[a3.down,simprocAttr,(h1 c9)];exact cq (h1 c9)
  refine jy rfl ?_;refine db (show∀s,d_ aj s 29 []=some (.agg [.int .i64 0,.ah,.ah],s)from λs=>by kernel_rfl) _ ?_;exact ko (bD _ (inr ⟨[(6,.ai (.agg [.int .i64 0,.ad 1 [],.ad 5 []])),(7,.int .i64 1),(2,.ad 3 (aB.map bU))],ht [] rfl (hg (t:=6) (d:=.ai (.agg [.int .i64 0,.ah,.ah])) rfl rfl (.ai (.agg (.cons (.refl _) (.cons (.fJ _) (.cons (.fJ _) (.nil)))))) (by decide) (cy rfl (cy rfl (hv)))),mA [.agg [.int .i64 0,.ad 1 [],.ad 5 []],.int .i64 1] rfl (by cases gB h;rfl) (by decide) (m3 (lH (lH (kG (by cases gB h;rfl) rfl rfl rfl (m4)))))⟩))
 .obtain⟨ak,b7,h⟩:=aM h;refine df (cx [(2,.ad 3 (aB.map bU)),(3,.ai (bw j)),(4,.ai (bw J)),(6,.ai (.agg [.int .i64 0,.ah,.ah])),(15,.bool (!ak))] (λP a9=>?_) ?_)
  .refine dv (Di j _ cl) rfl rfl (by simp only[a3.down,simprocAttr,(cg c9),Ae.down]<;>rfl) rfl (inr (by rfl)) ?_;simp only[a3.down,simprocAttr,(cg c9)];refine kE (Di J _ b7) rfl rfl (by simp only[a3.down,simprocAttr,(cg c9),Ae.down]<;>rfl) rfl (inr (by rfl)) ?_;simp only[a3.down,simprocAttr,(cg c9)];exact cq (cg c9)
  refine bg h (λdx h=>?_) λdx h=>?_
  .refine db (show∀s,d_ aj s 29 []=some (.agg [.int .i64 0,.ah,.ah],s)from λs=>by kernel_rfl) _ ?_;exact ko (bD _ (inr ⟨[(6,.ai (.agg [.int .i64 0,.ad 1 [],.ad 5 []])),(7,.int .i64 1),(2,.ad 3 (aB.map bU))],ht [] rfl (hg (t:=6) (d:=.ai (.agg [.int .i64 0,.ah,.ah])) rfl rfl (.ai (.agg (.cons (.refl _) (.cons (.fJ _) (.cons (.fJ _) (.nil)))))) (by decide) (cy rfl (cy rfl (hv)))),mA [.agg [.int .i64 0,.ad 1 [],.ad 5 []],.int .i64 1] rfl (by cases gB h;rfl) (by decide) (m3 (lH (lH (kG (by cases gB h;rfl) rfl rfl rfl (m4)))))⟩))
  .refine bf (cu _ (inl (aR aD λ_ cD c3 _=>?_)));obtain⟨aL,eo,h⟩:=aM h;refine df (cx [(2,.ad 3 (aB.map bU)),(3,.ai (bw j)),(4,.ai (bw J)),(6,.ai (.agg [.int .i64 0,.ah,.ah])),(19,.bool (!aL))] (λP a9=>?_) ?_)
   ·(try simp only[a3.down,simprocAttr]);refine dv (aa4 aB _ eo) rfl rfl (by simp only[a3.down,simprocAttr,OL.down]<;>rfl) rfl (inr (by rfl)) ?_;simp only[a3.down,simprocAttr];exact cq trivial
   refine bg h (λkf h=>?_) λkf h=>?_
   .refine db (show∀s,d_ aj s 29 []=some (.agg [.int .i64 0,.ah,.ah],s)from λs=>by kernel_rfl) _ ?_;exact ko (c3 _ (inr ⟨[(6,.ai (.agg [.int .i64 0,.ad 1 [],.ad 5 []])),(7,.int .i64 2),(2,.ad 3 (aB.map bU))],ht [] rfl (hg (t:=6) (d:=.ai (.agg [.int .i64 0,.ah,.ah])) rfl rfl (.ai (.agg (.cons (.refl _) (.cons (.fJ _) (.cons (.fJ _) (.nil)))))) (by decide) (cy rfl (cy rfl (hv)))),mA [.agg [.int .i64 0,.ad 1 [],.ad 5 []],.int .i64 2] rfl (by cases gB h;rfl) (by decide) (m3 (lH (lH (kG (by cases gB h;rfl) rfl rfl rfl (m4)))))⟩))
   .refine bf (cD _ (inl ?_));obtain⟨a2,c4,h⟩:=aM h;refine df (cx [(2,.ad 3 (aB.map bU)),(6,.ai (.agg [.int .i64 0,.ah,.ah])),(8,.ai (.agg [.int .i64 a2.1,.ad 1 (a2.2.1.map ax),.ad 5 (a2.2.2.1.map a4)])),(9,.bool a2.2.2.2)] (λP a9=>?_) ?_)
    ·(try simp only[a3.down,simprocAttr]);refine p2 [⟨.h 3 [],true,_,_⟩,⟨.h 4 [],true,_,_⟩,⟨.h 2 [],true,_,_⟩] (abR j.aE j.Start j.aU J.aE J.Start J.aU aB _ c4) rfl rfl rfl (by simp only[a3.down,simprocAttr,qT,o0,nF,gw,gx,gy,dg,or_true,true_or, @bB _ ax ax (λ_=>fu _), @bB _ a4 a4 (λ_=>lo _), @bB _ ax ax (λ_=>fu _), @bB _ a4 a4 (λ_=>lo _), @bB _ bU bU (λ_=>q3 _)]) rfl rfl (inl rfl) ?_;simp only[a3.down,simprocAttr,l3];exact cq trivial
    refine aR aD λ_ qm mI _=>aI ?_;refine bg h (λlr h=>?_) λlr h=>?_
    .refine db (show∀s,d_ aj s 29 []=some (.agg [.int .i64 0,.ah,.ah],s)from λs=>by kernel_rfl) _ ?_;exact ko (mI _ (inr ⟨[(6,.ai (.agg [.int .i64 0,.ad 1 [],.ad 5 []])),(7,.int .i64 5),(2,.ad 3 (aB.map bU))],ht [] rfl (hg (t:=6) (d:=.ai (.agg [.int .i64 0,.ah,.ah])) rfl rfl (.ai (.agg (.cons (.refl _) (.cons (.fJ _) (.cons (.fJ _) (.nil)))))) (by decide) (cy rfl (cy rfl (hv)))),mA [.agg [.int .i64 0,.ad 1 [],.ad 5 []],.int .i64 5] rfl (by cases gB h;rfl) (by decide) (m3 (lH (lH (kG (by cases gB h;rfl) rfl rfl rfl (m4)))))⟩))
    .refine bf (qm _ (inl (aI ?_)));exact ko (aD _ (inl (mA [.agg [.int .i64 a2.1,.ad 1 (a2.2.1.map ax),.ad 5 (a2.2.2.1.map a4)],.int .i64 0] rfl (by cases gB h;rfl) (by decide) (m3 (lH (lH (kG (by cases gB h;rfl) rfl rfl rfl (m4))))))))
theorem oy (j J aB r) (h:og j J aB=some r):bt aj 61 [.int .i64 j,.int .i64 J,.int .i64 aB] (.bool r) []:=by
 refine cc [0,1,2] [.tmp 6] Tryz.func61 Y3 λb6 aD b8=>aI ?_;refine r_ (decide (J<=j)) [(6,.bool ((decide (J<=j))&&(decide (j<=aB))))] ?_;exact dX aD [.bool ((decide (J<=j))&&(decide (j<=aB)))]
theorem Pj (j r) (h:Cm j=some r):bt aj 156 [.int .i64 j] (.bool r) []:=by
 refine cc [0] [.tmp 2] Tryz.func156 Y4 λb6 aD b8=>aI ?_;obtain⟨aa,bb,h⟩:=aM h;refine ej (oy j 0 63 _ bb) _ ?_;exact dX aD [.bool aa]
theorem abV (j r) (h:Ha j=some r):bt aj 155 [.int .i64 j] (.bool r) []:=by
 refine cc [0] [.tmp 2] Tryz.func155 Y5 λb6 aD b8=>aI ?_;obtain⟨aa,bb,h⟩:=aM h;refine ej (Pj j _ bb) _ ?_;exact dX aD [.bool (!aa)]
theorem abW (j r) (h:Hb j=some r):bt aj 121 [.slice (j.map ax),.fn 155 []] (.int .i64 r) []:=by
 refine cc [0,1] [.tmp 4] Tryz.func121 Y6 λb6 aD b8=>aI ?_;refine aR aD λ_ cu bD ak=>aI ?_;refine bI bD λgV _ cG cX _=>?_;show bp aj (.loop ?gf) _ _;have gW:∀n eg,Cn j n eg=some r->dc aj ?gf gV (an [(0,.slice (j.map ax)),(1,.fn 155 []),(7,.int .i64 (j.length:Int)),(8,.int .i64 eg)]):=by
  refine dp λ_ gH eg h=>dn cG λ_ fM c1 aY=>aI ?_;refine aR c1 λ_ eG _ bq=>bg h (λdx h=>?_) λdx h=>?_
  .refine bf (eG _ (inl (aR c1 λ_ dQ dm _=>bI dm λ_ cD c3 _ _=>aI ?_)));obtain⟨aa,eB,h⟩:=aM h;obtain⟨ak,eH,h⟩:=aM h;refine hi eB (abV aa _ eH) _ ?_;refine bg h (λk3 h=>?_) λk3 h=>?_
   .exact bl c3 [.int .i64 eg]
   .refine bf (cD _ (dQ _ (inl (fB ?_))));exact fM _ (inr ⟨_,cH rfl,gH (i64.wrap (eg+1)) h⟩)
  .exact dk (bq 0 _ (aY 0 _ (cX _ (cu _ (inl (bl aD [.int .i64 (-1)]))))))
 exact ew h λn h=>gW n 0 h
theorem abX (j r) (h:Hc j=some r):bt aj 154 [.slice (j.map ax),.fn 155 []] (.bool r) []:=by
 refine cc [0,1] [.tmp 4] Tryz.func154 Y7 λb6 aD b8=>aI ?_;obtain⟨aa,bb,h⟩:=aM h;refine ej (abW j _ bb) _ ?_;exact dX aD [.bool (decide (0<=aa))]
theorem abY (j r) (h:Hd j=some r):bt aj 114 [.slice (j.map ax)] (.bool r) []:=by
 refine cc [0] [.tmp 2] Tryz.func114 Y8 λb6 aD b8=>aI ?_;obtain⟨aa,bb,h⟩:=aM h;refine ej (abX j _ bb) _ ?_;exact dX aD [.bool (!aa)]
theorem Pk (j J r) (h:Co j J=some r):bt aj 62 [bw j,.slice (J.map ax)] (.bool r) []:=by
 refine cc [0,1] [.tmp 4] Tryz.func62 Y9 λb6 aD b8=>aI ?_;rcases gN h with⟨jd,h⟩|⟨jd,h⟩
 .obtain⟨aa,cl,h⟩:=aM h;refine hi jd (abY J _ cl) _ ?_;exact dX aD [.bool aa]
 .refine db jd _ ?_;exact dX aD [.bool false]
theorem Pl (j r) (h:Cp j=some r):bt aj 116 [a4 j] (.bool r) []:=by
 refine cc [0] [.tmp 2] Tryz.func116 Y_ λb6 aD b8=>aI ?_;refine aI ?_;refine aR aD λ_ fC dS _=>aI ?_;refine bI dS λjD _ c1 c9 _=>?_;show bp aj (.loop ?gF) _ _;have fL:∀n bH kY,w7 j n bH kY=some r->dc aj ?gF jD (an [(1,.ai (a4 j)),(3,.int .i64 bH),(7,.slice (j.a5.map ax)),(8,.int .i64 (j.a5.length:Int)),(9,.int .i64 kY)]):=by
  refine dp λ_ fw bH kY h=>dn c1 λ_ dF c8 bj=>aI ?_;refine aR c8 λ_ fK _ cn=>bg h (λe7 h=>?_) λe7 h=>?_
  .refine bf (fK _ (inl (aR c8 λ_ cD c3 _=>bI c3 λ_ dP gz _ _=>?_)));obtain⟨aa,eB,h⟩:=aM h;refine db eB _ ?_;refine aR gz λ_ fX e8 _=>?_;obtain⟨ak,c4,h⟩:=aM h;refine ej (oy aa 1 7 _ c4) _ ?_;refine bg h (λjB h=>?_) λjB h=>?_
   .exact bl e8 [.bool false]
   .refine bf (fX _ (inl (fB ?_)));refine dP _ (cD _ (inl (fB ?_)));exact dF _ (inr ⟨_,cH rfl,fw (i64.wrap (bH*(i64.wrap (aa+1)))) (i64.wrap (kY+1)) h⟩)
  .refine dk (cn 0 _ (bj 0 _ (c9 _ (fC _ (inl (r_ (decide ((j.a5.length:Int)<=8)) [(2,.bool ((decide ((j.a5.length:Int)<=8))&&(decide (bH<=4096))))] ?_))))));exact dX aD [.bool ((decide ((j.a5.length:Int)<=8))&&(decide (bH<=4096)))]
 exact ew h λn h=>fL n 1 0 h
theorem abZ (j r) (h:Hf j=some r):bt aj 168 [.int .u8 (j.toNat:Int)] (.bool r) []:=by
 refine cc [0] [.tmp 2] Tryz.func168 Za λb6 aD b8=>aI ?_;refine r_ (decide (48<=(j.toNat:Int))) [(2,.bool ((decide (48<=(j.toNat:Int)))&&(decide ((j.toNat:Int)<=57))))] ?_;exact dX aD [.bool ((decide (48<=(j.toNat:Int)))&&(decide ((j.toNat:Int)<=57)))]
theorem Pm (j r) (h:Cr j=some r):bt aj 131 [.str j] (.bool r) []:=by
 refine cc [0] [.tmp 2] Tryz.func131 Zb λb6 aD b8=>aI ?_;refine aR aD λ_ cu bD ak=>aI ?_;refine bI bD λgV _ cG cX _=>?_;show bp aj (.loop ?gf) _ _;have gW:∀n gT,th j n gT=some r->dc aj ?gf gV (an [(0,.str j),(6,.int .i64 (j.length:Int)),(7,.int .i64 gT)]):=by
  refine dp λ_ gH gT h=>dn cG λ_ fM c1 aY=>aI ?_;refine aR c1 λ_ eG _ bq=>bg h (λdx h=>?_) λdx h=>?_
  .refine bf (eG _ (inl (aR c1 λ_ dQ dm _=>bI dm λ_ cD c3 _ _=>aI ?_)));obtain⟨aa,eB,h⟩:=aM h;refine Da (decide (97<=(aa.toNat:Int))) eB [(0,.str j),(3,.int .i64 gT),(4,.bool ((decide (97<=(aa.toNat:Int)))&&(decide ((aa.toNat:Int)<=122)))),(6,.int .i64 (j.length:Int)),(7,.int .i64 gT)] ?_;rcases gN h with⟨k3,h⟩|⟨k3,h⟩
   .rcases gN h with⟨mf,h⟩|⟨mf,h⟩
    .refine db (ab k3 mf) _ ?_;refine jy rfl ?_;exact bl c3 [.bool false]
    .obtain⟨ak,ga,h⟩:=aM h;refine hi (ab k3 (ab mf eB)) (abZ aa _ ga) _ ?_;refine bg h (λlr h=>?_) λlr h=>?_
     .exact bl c3 [.bool false]
     .refine bf (cD _ (dQ _ (inl (fB ?_))));exact fM _ (inr ⟨_,cH rfl,gH (i64.wrap (gT+1)) h⟩)
   .refine db k3 _ ?_;refine rT rfl ?_;refine bf (cD _ (dQ _ (inl (fB ?_))));exact fM _ (inr ⟨_,cH rfl,gH (i64.wrap (gT+1)) h⟩)
  .refine dk (bq 0 _ (aY 0 _ (cX _ (cu _ (inl (r_ (decide (1<=(j.length:Int))) [(2,.bool ((decide (1<=(j.length:Int)))&&(decide ((j.length:Int)<=10))))] ?_))))));exact dX aD [.bool ((decide (1<=(j.length:Int)))&&(decide ((j.length:Int)<=10)))]
 exact ew h λn h=>gW n 0 h
theorem mi (j r) (h:r4 j=some r):bt aj 92 [.str j] (.bool r) []:=by
 refine cc [0] [.tmp 2] Tryz.func92 Zc λb6 aD b8=>aI ?_;obtain⟨aa,bb,h⟩:=aM h;refine df (cx [(2,.bool (aa&&(!(j==([116,97,117]:ahz)))))] (λP a9=>?_) ?_)
 .rcases Bool.eq_false_or_eq_true (aa)with k_|k_
  ·(try simp only[a3.down,simprocAttr,k_]);refine dv (Pm j _ bb) (hK:= ?_);simp only[a3.down,simprocAttr,k_];exact cq k_
  ·(try simp only[a3.down,simprocAttr,k_]);refine dv (Pm j _ bb) (hK:= ?_);simp only[a3.down,simprocAttr,k_];exact cq k_
 exact dX aD [.bool (aa&&(!(j==([116,97,117]:ahz))))]
theorem Pn (J r) (h:zG J=some r):bt aj 145 [.ah,.int .i64 J] (.ad 1 []) []:=by
 refine cc [] [.tmp 4] Tryz.func145 Zd λb6 aD b8=>aI ?_;have Ar:Hg J=some r->bp aj Oo b6 (an [(0,.ah),(1,.int .i64 J),(6,.bool (decide (J<0)))]):=by
  intro h;have tx:Cs=some r->bp aj On b6 (an [(0,.ad 1 [])]):=by
   intro h;exact bl aD [.ad 1 []]
  refine aR aD λ_ fC _ _=>db (ab @wj λs x h=> @wi aj s 60 59 x rfl h) _ ?_;refine aI ?_;refine bg h (λn2 h=>?_) λn2 h=>?_
  .obtain⟨Po,gQ,h⟩:=aM h;refine hH (cx [(0,.ad 1 [])] (λP a9=>?_) ?_)
   .simp only[a3.down,simprocAttr,ON.down,pr gQ,iE,-Int.reduceNatCast',o1];(try simp only[fm.down,simprocAttr,ON.down,pr gQ,iE,-Int.reduceNatCast',o1]at a9⊢);exact a9
   exact fC _ (inr ⟨_,cH rfl,tx h⟩)
  .exact bf (fC _ (inr ⟨_,ht [] rfl (hg (t:=0) (d:=.ah) (bz:=.ad 1 []) rfl rfl (.fJ _) (by decide) (hv)),tx h⟩))
 refine aR aD λ_ cu _ _=>aI ?_;refine bg h (λk5 h=>?_) λk5 h=>?_
 .cases h
 .exact bf (cu _ (inr ⟨_,cH rfl,Ar h⟩))
theorem ab0 (j r) (h:Ct j=some r):bt aj 102 [.slice (j.map lN)] (.ad 1 (r.map a0)) []:=by
 refine cc [0] [.tmp 2] Tryz.func102 Ze λb6 aD b8=>aI ?_;refine aI ?_;refine aR aD λ_ fC dS aL=>aI ?_;refine bI dS λjD _ c1 c9 _=>?_;show bp aj (.loop ?gF) _ _;have fL:∀n bH eh,u5 j n bH eh=some r->dc aj ?gF jD (an [(0,.slice (j.map lN)),(3,.int .i64 bH),(9,.slice (j.map lN)),(10,.int .i64 (j.length:Int)),(11,.int .i64 eh)]):=by
  refine dp λkl fw bH eh h=>dn c1 λiM dF c8 bj=>aI ?_;refine aR c8 λ_ fK _ cn=>bg h (λe7 h=>?_) λe7 h=>?_
  .refine bf (fK _ (inl ?_));show bp aj (.seq _ ?vj) _ _;have vo:∀i5 i6 ln,Hh (u5 j kl) j i5 i6 ln=some r->bp aj ?vj iM (an [(0,.slice (j.map lN)),(3,.int .i64 i5),(9,.slice (j.map lN)),(10,.int .i64 (j.length:Int)),(11,.int .i64 i6),(20,.bool ln)]):=by
    intro i5 i6 ln h;refine fB ?_;exact dF _ (inr ⟨_,cH rfl,fw i5 (i64.wrap (i6+1)) h⟩)
   refine aR c8 λ_ cD c3 _=>bI c3 λ_ gU _ _ _=>?_;obtain⟨aa,eH,h⟩:=aM h;refine db eH _ ?_;refine aI ?_;refine aI ?_;refine bg h (λjB h=>?_) λjB h=>?_
   .cases h
   .exact bf (gU _ (cD _ (inr ⟨_,cH rfl,vo (i64.wrap (bH+(aa.length:Int))) eh (decide ((i64.wrap (bH+(aa.length:Int)))<0)) h⟩)))
  .refine dk (cn 0 _ (bj 0 _ (c9 _ (fC _ (inl ?_)))));obtain⟨ak,iL,h⟩:=aM h;refine ej (Pn bH _ iL) _ ?_;refine aR aD λ_ mb lO _=>aI ?_;refine bI lO λvp _ ra el _=>?_;show bp aj (.loop ?qo) _ _;have vq:∀n eV eO,u4 j n eV eO=some r->dc aj ?qo vp (an [(6,.ad 1 (eV.map a0)),(25,.slice (j.map lN)),(26,.int .i64 (j.length:Int)),(27,.int .i64 eO)]):=by
    refine dp λ_ vr eV eO h=>dn ra λ_ k4 mc mF=>aI ?_;refine aR mc λ_ sd _ pa=>bg h (λmh h=>?_) λmh h=>?_
    .refine bf (sd _ (inl (aR mc λ_ ox vt _=>bI vt λ_ q9 _ _ _=>?_)));obtain⟨aL,iw,h⟩:=aM h;refine db iw _ ?_;obtain⟨Dj,kg,h⟩:=aM h;(try simp only[jW.down,Nat.zero_add,Nat.add_zero,reduceAdd]at kg);refine ou (ab (@h0 aj 60 60 59 rfl rfl) (ab @ia (ab @ib (ab @fl (ab @h_ (ab @all_nil (ab kg (@hx _ a0 1 λ_=>rfl)))))))) [(6,.ad 1 ((eV++aL).map a0)),(25,.slice (j.map lN)),(26,.int .i64 (j.length:Int)),(27,.int .i64 eO)] ?_;refine q9 _ (ox _ (inl (wr [(6,.ad 1 ((eV++aL).map a0)),(25,.slice (j.map lN)),(26,.int .i64 (j.length:Int)),(27,.int .i64 (i64.wrap (eO+1)))] ?_)));exact k4 _ (inr ⟨_,cH rfl,vr (eV++aL) (i64.wrap (eO+1)) h⟩)
    .exact dk (pa 2 _ (mF 2 _ (el _ (mb _ (inl (bl aD [.ad 1 (eV.map a0)]))))))
   exact ew h λn h=>vq n [] 0 h
 exact ew h λn h=>fL n 0 0 h
theorem I6 (j r) (h:w8 j=some r):bt aj 118 [a4 j] (.ad 1 (r.map a0)) []:=by
 refine cc [0] [.tmp 2] Tryz.func118 Zf λb6 aD b8=>aI ?_;obtain⟨aa,bb,h⟩:=aM h;refine df (cx [(2,.ad 1 (aa.map a0))] (λP a9=>?_) ?_)
 ·(try simp only[a3.down,simprocAttr,(show∀s,c5 aj s 60 1 [(0,.slice (j.Guard.map aQ))]=some (.ad 1 [.slice (j.Guard.map aQ)],s)from λs=>by kernel_rfl),IA.down,I.shares,(show∀s,c5 aj s 161 3 [(0,.slice [.slice (j.Guard.map aQ)]),(1,.slice (j.aW.map a0)),(2,.slice (j.Next.map a0))]=some (.ad 1 [.slice [.slice (j.Guard.map aQ)],.slice (j.aW.map a0),.slice (j.Next.map a0)],s)from λs=>by kernel_rfl)]);refine dv (ab0 [[j.Guard],j.aW,j.Next] _ bb) (hK:= ?_);simp only[a3.down,simprocAttr,(show∀s,c5 aj s 60 1 [(0,.slice (j.Guard.map aQ))]=some (.ad 1 [.slice (j.Guard.map aQ)],s)from λs=>by kernel_rfl),IA.down,I.shares,(show∀s,c5 aj s 161 3 [(0,.slice [.slice (j.Guard.map aQ)]),(1,.slice (j.aW.map a0)),(2,.slice (j.Next.map a0))]=some (.ad 1 [.slice [.slice (j.Guard.map aQ)],.slice (j.aW.map a0),.slice (j.Next.map a0)],s)from λs=>by kernel_rfl)];exact cq (ab (show∀s,c5 aj s 60 1 [(0,.slice (j.Guard.map aQ))]=some (.ad 1 [.slice (j.Guard.map aQ)],s)from λs=>by kernel_rfl) (ab IA.down (show∀s,c5 aj s 161 3 [(0,.slice [.slice (j.Guard.map aQ)]),(1,.slice (j.aW.map a0)),(2,.slice (j.Next.map a0))]=some (.ad 1 [.slice [.slice (j.Guard.map aQ)],.slice (j.aW.map a0),.slice (j.Next.map a0)],s)from λs=>by kernel_rfl)))
 exact dX aD [.ad 1 (aa.map a0)]
theorem ab1 (j J r) (h:Cu j J=some r):bt aj 158 [aQ j,.int .i64 J] (.bool r) []:=by
 refine cc [0,1] [.tmp 4] Tryz.func158 Zg λb6 aD b8=>aI ?_;refine aR aD λ_ cu bD ak=>aI ?_;refine bI bD λ_ gp cG _ _=>aI ?_;refine bg h (λeZ h=>?_) λeZ h=>?_
 .obtain⟨aa,hW,h⟩:=aM h;refine ej (Pj j.Value _ hW) _ ?_;exact dX cG [.bool aa]
 .refine aI ?_;refine bg h (λh4 h=>?_) λh4 h=>?_
  .obtain⟨ak,eo,h⟩:=aM h;refine ej (oy j.Value 0 (i64.wrap (J-1)) _ eo) _ ?_;exact dX cG [.bool ak]
  .refine aI ?_;refine bg h (λjC h=>?_) λjC h=>?_
   .obtain⟨aL,c4,h⟩:=aM h;refine ej (oy j.Value 0 8 _ c4) _ ?_;exact dX cG [.bool aL]
   .refine aI ?_;refine bg h (λme h=>?_) λme h=>?_
    .exact bl cG [.bool (j.Value==0)]
    .exact bf (gp _ (cu _ (inl (bl aD [.bool false]))))
theorem ab2 (j r) (h:Hk j=some r):bt aj 159 [aQ j] (.int .i64 r) []:=by
 refine cc [0] [.tmp 2] Tryz.func159 Zh λb6 aD b8=>aI ?_;refine aR aD λ_ cu bD _=>aI ?_;refine bI bD λ_ gp cG _ _=>aI ?_;refine bg h (λeZ h=>?_) λeZ h=>?_
 .exact bl cG [.int .i64 2]
 .refine aI ?_;refine bg h (λe7 h=>?_) λe7 h=>?_
  .exact bl cG [.int .i64 1]
  .exact bf (gp _ (cu _ (inl (bl aD [.int .i64 0]))))
theorem ab3 (j J aB r) (h:Cv j J aB=some r):bt aj 120 [.slice (j.map aQ),.int .i64 J,.int .i64 aB] (.bool r) []:=by
 refine cc [0,1,2] [.tmp 6] Tryz.func120 Zi λb6 aD b8=>aI ?_;refine aR aD λ_ cu bD ak=>?_;obtain⟨aa,cl,h⟩:=aM h;rcases gN h with⟨c9,h⟩|⟨c9,h⟩
 .refine hi (h1 c9) (oy J 0 29 _ cl) _ ?_;refine jy rfl ?_;exact bl bD [.bool false]
 .obtain⟨ak,b7,h⟩:=aM h;rcases gN h with⟨dx,h⟩|⟨dx,h⟩
  .refine df (cx [(0,.slice (j.map aQ)),(1,.int .i64 J),(24,.bool true)] (λP a9=>?_) ?_)
   ·(try simp only[a3.down,simprocAttr,(cg c9),(h1 dx)]);refine dv (oy J 0 29 _ cl) (hK:= ?_);simp only[a3.down,simprocAttr,(cg c9),(h1 dx)];refine kE (oy aB 1 60 _ b7) (hK:= ?_);simp only[a3.down,simprocAttr,(cg c9),(h1 dx)];exact cq (ab (cg c9) (h1 dx))
   refine jy rfl ?_;exact bl bD [.bool false]
  .obtain⟨aL,kk,h⟩:=aM h;refine df (cx [(0,.slice (j.map aQ)),(1,.int .i64 J),(24,.bool (!aL))] (λP a9=>?_) ?_)
   ·(try simp only[a3.down,simprocAttr,(cg c9),(cg dx)]);refine dv (oy J 0 29 _ cl) (hK:= ?_);simp only[a3.down,simprocAttr,(cg c9),(cg dx)];refine kE (oy aB 1 60 _ b7) (hK:= ?_);simp only[a3.down,simprocAttr,(cg c9),(cg dx)];refine kE (oy (j.length:Int) 1 aB _ kk) (hK:= ?_);simp only[a3.down,simprocAttr,(cg c9),(cg dx)];exact cq (ab (cg c9) (cg dx))
   refine bg h (λk5 h=>?_) λk5 h=>?_
   .exact bl bD [.bool false]
   .refine bf (cu _ (inl (aI ?_)));refine aR aD λ_ fX e8 _=>aI ?_;refine bI e8 λab4 _ tv mf _=>?_;show bp aj (.loop ?nd) _ _;have nf:∀n kb q1,w9 j J n kb q1=some r->dc aj ?nd ab4 (an [(1,.int .i64 J),(7,.int .i64 kb),(25,.slice (j.map aQ)),(26,.int .i64 (j.length:Int)),(27,.int .i64 q1)]):=by
     refine dp λ_ ng kb q1 h=>dn tv λ_ qm mI xD=>aI ?_;refine aR mI λ_ nh _ vh=>bg h (λhj h=>?_) λhj h=>?_
     .refine bf (nh _ (inl (aR mI λ_ mb lO _=>bI lO λ_ tz q_ _ _=>?_)));obtain⟨a2,ql,h⟩:=aM h;refine db ql _ ?_;refine aR q_ λ_ I7 Dk _=>?_;rcases gN h with⟨mh,h⟩|⟨mh,h⟩
      .refine db mh _ ?_;refine jy rfl ?_;exact bl Dk [.bool false]
      .obtain⟨aY,tA,h⟩:=aM h;refine hi mh (ab1 a2 J _ tA) _ ?_;refine bg h (λAp h=>?_) λAp h=>?_
       .exact bl Dk [.bool false]
       .refine bf (I7 _ (inl ?_));obtain⟨bj,kg,h⟩:=aM h;refine Iy (ab2 a2 _ kg) _ ?_;refine tz _ (mb _ (inl (fB ?_)));exact qm _ (inr ⟨_,cH rfl,ng (i64.wrap (kb+(i64.wrap (bj-1)))) (i64.wrap (q1+1)) h⟩)
     .exact dk (vh 0 _ (xD 0 _ (mf _ (fX _ (inl (bl aD [.bool (kb==0)]))))))
    exact ew h λn h=>nf n 1 0 h
theorem ab5 (j J aB r) (h:Cw j J aB=some r):bt aj 119 [.slice (j.map aQ),.ref (.int .i64 J),.ref (a4 aB)] (.bool r) []:=by
 refine cc [0,1,2] [.tmp 4] Tryz.func119 Zj λb6 aD b8=>aI ?_;obtain⟨aa,bb,h⟩:=aM h;refine ej (ab3 j (i64.wrap (J+(aB.a5.length:Int))) 60 _ bb) _ ?_;exact dX aD [.bool (!aa)]
theorem ab6 (j a6 a7 r) (h:Hm j a6 a7=some r):bt aj 157 [.slice (j.map a0),.fn 119 [.ref (.int .i64 a6),.ref (a4 a7)]] (.int .i64 r) []:=by
 refine cc [0,1] [.tmp 4] Tryz.func157 Zk λb6 aD b8=>aI ?_;refine aR aD λ_ cu bD ak=>aI ?_;refine bI bD λgV _ cG cX _=>?_;show bp aj (.loop ?gf) _ _;have gW:∀n eg,Cx j a6 a7 n eg=some r->dc aj ?gf gV (an [(0,.slice (j.map a0)),(1,.fn 119 [.ref (.int .i64 a6),.ref (a4 a7)]),(7,.int .i64 (j.length:Int)),(8,.int .i64 eg)]):=by
  refine dp λ_ gH eg h=>dn cG λ_ fM c1 aY=>aI ?_;refine aR c1 λ_ eG _ bq=>bg h (λdx h=>?_) λdx h=>?_
  .refine bf (eG _ (inl (aR c1 λ_ dQ dm _=>bI dm λ_ cD c3 _ _=>aI ?_)));obtain⟨aa,eB,h⟩:=aM h;obtain⟨ak,eH,h⟩:=aM h;refine hi eB (ab5 aa a6 a7 _ eH) _ ?_;refine bg h (λk3 h=>?_) λk3 h=>?_
   .exact bl c3 [.int .i64 eg]
   .refine bf (cD _ (dQ _ (inl (fB ?_))));exact fM _ (inr ⟨_,cH rfl,gH (i64.wrap (eg+1)) h⟩)
  .exact dk (bq 0 _ (aY 0 _ (cX _ (cu _ (inl (bl aD [.int .i64 (-1)]))))))
 exact ew h λn h=>gW n 0 h
theorem I8 (j a6 a7 r) (h:u6 j a6 a7=some r):bt aj 117 [.slice (j.map a0),.fn 119 [.ref (.int .i64 a6),.ref (a4 a7)]] (.bool r) []:=by
 refine cc [0,1] [.tmp 4] Tryz.func117 Zl λb6 aD b8=>aI ?_;obtain⟨aa,bb,h⟩:=aM h;refine ej (ab6 j a6 a7 _ bb) _ ?_;exact dX aD [.bool (decide (0<=aa))]
theorem ab7 (j J r) (h:Cy j J=some r):bt aj 65 [a4 j,.int .i64 J] (.bool r) []:=by
 refine cc [0,1] [.tmp 4] Tryz.func65 Zn λb6 aD b8=>aI ?_;refine aR aD λ_ cu bD ak=>?_;obtain⟨aa,cl,h⟩:=aM h;refine df (cx [(2,.ai (a4 j)),(3,.ai (.int .i64 J)),(15,.bool ((!aa)||((j.Next.length:Int) !=J)))] (λP a9=>?_) ?_)
 .rcases Bool.eq_false_or_eq_true (aa)with tc|tc
  ·(try simp only[a3.down,simprocAttr,tc]);refine dv (Pl j _ cl) (hK:= ?_);simp only[a3.down,simprocAttr,tc];exact cq tc
  ·(try simp only[a3.down,simprocAttr,tc]);refine dv (Pl j _ cl) (hK:= ?_);simp only[a3.down,simprocAttr,tc];exact cq tc
 refine bg h (λeZ h=>?_) λeZ h=>?_
 .exact bl bD [.bool false]
 .refine bf (cu _ (inl (aR aD λ_ fK hR cn=>aI ?_)));rcases gN h with⟨k5,h⟩|⟨k5,h⟩
  .rcases gN h with⟨hQ,h⟩|⟨hQ,h⟩
   .refine db (ab k5 hQ) _ ?_;refine jy rfl ?_;exact bl hR [.bool false]
   .rcases gN h with⟨jC,h⟩|⟨jC,h⟩
    .refine db (ab k5 (ab hQ jC)) _ ?_;refine jy rfl ?_;exact bl hR [.bool false]
    .obtain⟨ak,c4,h⟩:=aM h;refine hi (ab k5 (ab hQ jC)) (mi j.Name _ c4) _ ?_;refine bg h (λjB h=>?_) λjB h=>?_
     .exact bl hR [.bool false]
     .refine bf (fK _ (inl ?_));obtain⟨aL,iL,h⟩:=aM h;obtain⟨a2,eI,h⟩:=aM h;refine df (cx [(4,.bool (!a2))] (λP a9=>?_) ?_)
      ·(try simp only[a3.down,simprocAttr]);refine dv (I6 j _ iL) (hK:= ?_);simp only[a3.down,simprocAttr];refine dv (I8 aL J j _ eI) rfl rfl (by simp only[a3.down,simprocAttr,IB.down]<;>rfl) rfl (inr (by rfl)) ?_;simp only[a3.down,simprocAttr];exact cq trivial
      exact dX aD [.bool (!a2)]
  .rcases gN h with⟨ow,h⟩|⟨ow,h⟩
   .obtain⟨aY,iW,h⟩:=aM h;refine hi (ab k5 ow) (mi j.Name _ iW) _ ?_;refine bg h (λpg h=>?_) λpg h=>?_
    .exact bl hR [.bool false]
    .refine bf (fK _ (inl ?_));obtain⟨bj,sc,h⟩:=aM h;obtain⟨bq,nU,h⟩:=aM h;refine df (cx [(4,.bool (!bq))] (λP a9=>?_) ?_)
     ·(try simp only[a3.down,simprocAttr]);refine dv (I6 j _ sc) (hK:= ?_);simp only[a3.down,simprocAttr];refine dv (I8 bj J j _ nU) rfl rfl (by simp only[a3.down,simprocAttr,IB.down]<;>rfl) rfl (inr (by rfl)) ?_;simp only[a3.down,simprocAttr];exact cq trivial
     exact dX aD [.bool (!bq)]
   .refine db (ab k5 ow) _ ?_;refine rT rfl ?_;refine bf (fK _ (inl ?_));obtain⟨cn,sb,h⟩:=aM h;obtain⟨cC,iw,h⟩:=aM h;refine df (cx [(4,.bool (!cC))] (λP a9=>?_) ?_)
    ·(try simp only[a3.down,simprocAttr]);refine dv (I6 j _ sb) (hK:= ?_);simp only[a3.down,simprocAttr];refine dv (I8 cn J j _ iw) rfl rfl (by simp only[a3.down,simprocAttr,IB.down]<;>rfl) rfl (inr (by rfl)) ?_;simp only[a3.down,simprocAttr];exact cq trivial
    exact dX aD [.bool (!cC)]
theorem ab8 (j J r) (h:Cz j J=some r):bt aj 64 [a4 j,.ref (bw J)] (.bool r) []:=by
 refine cc [0,1] [.tmp 3] Tryz.func64 Zo λb6 aD b8=>aI ?_;obtain⟨aa,bb,h⟩:=aM h;refine ej (ab7 j J.aE _ bb) _ ?_;exact dX aD [.bool (!aa)]
theorem ab9 (j J r) (h:Hn j J=some r):bt aj 115 [.slice (j.map a4),.fn 64 [.ref (bw J)]] (.int .i64 r) []:=by
 refine cc [0,1] [.tmp 4] Tryz.func115 Zp λb6 aD b8=>aI ?_;refine aR aD λ_ cu bD ak=>aI ?_;refine bI bD λgV _ cG cX _=>?_;show bp aj (.loop ?gf) _ _;have gW:∀n eg,CA j J n eg=some r->dc aj ?gf gV (an [(0,.slice (j.map a4)),(1,.fn 64 [.ref (bw J)]),(7,.int .i64 (j.length:Int)),(8,.int .i64 eg)]):=by
  refine dp λ_ gH eg h=>dn cG λ_ fM c1 aY=>aI ?_;refine aR c1 λ_ eG _ bq=>bg h (λdx h=>?_) λdx h=>?_
  .refine bf (eG _ (inl (aR c1 λ_ dQ dm _=>bI dm λ_ cD c3 _ _=>aI ?_)));obtain⟨aa,eB,h⟩:=aM h;obtain⟨ak,eH,h⟩:=aM h;refine hi eB (ab8 aa J _ eH) _ ?_;refine bg h (λk3 h=>?_) λk3 h=>?_
   .exact bl c3 [.int .i64 eg]
   .refine bf (cD _ (dQ _ (inl (fB ?_))));exact fM _ (inr ⟨_,cH rfl,gH (i64.wrap (eg+1)) h⟩)
  .exact dk (bq 0 _ (aY 0 _ (cX _ (cu _ (inl (bl aD [.int .i64 (-1)]))))))
 exact ew h λn h=>gW n 0 h
theorem ab_ (j J r) (h:Ho j J=some r):bt aj 63 [.slice (j.map a4),.fn 64 [.ref (bw J)]] (.bool r) []:=by
 refine cc [0,1] [.tmp 4] Tryz.func63 Iw λb6 aD b8=>aI ?_;obtain⟨aa,bb,h⟩:=aM h;refine ej (ab9 j J _ bb) _ ?_;exact dX aD [.bool (decide (0<=aa))]
theorem Dl (j r) (h:w_ j=some r):bt aj 32 [bw j] (.bool r) []:=by
 refine cc [0] [.tmp 2] Tryz.func32 Zq λb6 aD b8=>aI ?_;refine aR aD λ_ cu bD ak=>?_;obtain⟨aa,cl,h⟩:=aM h;rcases gN h with⟨c9,h⟩|⟨c9,h⟩
 .refine hi (h1 c9) (oy j.aE 0 21 _ cl) _ ?_;refine jy rfl ?_;exact bl bD [.bool false]
 .obtain⟨ak,b7,h⟩:=aM h;refine df (cx [(1,.ai (bw j)),(19,.bool ((!ak)||(decide (60<(j.aU.length:Int)))))] (λP a9=>?_) ?_)
  .rcases Bool.eq_false_or_eq_true (ak)with lu|lu
   ·(try simp only[a3.down,simprocAttr,(cg c9),lu]);refine dv (oy j.aE 0 21 _ cl) (hK:= ?_);simp only[a3.down,simprocAttr,(cg c9),lu];refine kE (Pk j j.Start _ b7) (hK:= ?_);simp only[a3.down,simprocAttr,(cg c9),lu];exact cq (ab (cg c9) lu)
   ·(try simp only[a3.down,simprocAttr,(cg c9),lu]);refine dv (oy j.aE 0 21 _ cl) (hK:= ?_);simp only[a3.down,simprocAttr,(cg c9),lu];refine kE (Pk j j.Start _ b7) (hK:= ?_);simp only[a3.down,simprocAttr,(cg c9),lu];exact cq (ab (cg c9) lu)
  refine bg h (λe7 h=>?_) λe7 h=>?_
  .exact bl bD [.bool false]
  .refine bf (cu _ (inl ?_));obtain⟨aL,eo,h⟩:=aM h;refine df (cx [(2,.bool (!aL))] (λP a9=>?_) ?_)
   ·(try simp only[a3.down,simprocAttr]);refine dv (ab_ j.aU j _ eo) rfl rfl (by simp only[a3.down,simprocAttr,Ae.down]<;>rfl) rfl (inr (by rfl)) ?_;simp only[a3.down,simprocAttr];exact cq trivial
   exact dX aD [.bool (!aL)]
theorem Pp (j r) (h:CB j=some r):bt aj 186 [.str j] (.bool r) []:=by
 refine cc [0] [.tmp 2] Tryz.func186 Zr λb6 aD b8=>aI ?_;exact bl aD [.bool false]
theorem aca (j J r) (h:CC j J=some r):bt aj 169 [.str j,.str J] (.int .i64 r) []:=by
 refine cc [0,1] [.tmp 4] Tryz.func169 Zs λb6 aD b8=>aI ?_;obtain⟨aa,bb,h⟩:=aM h;refine ej (Pp j _ bb) _ ?_;obtain⟨ak,cR,h⟩:=aM h;refine ej (Pp J _ cR) _ ?_;refine aR aD λ_ dF c8 _=>aI ?_;refine bg h (λdx h=>?_) λdx h=>?_
 .refine aR c8 λ_ dQ dm _=>aI ?_;refine bg h (λk5 h=>?_) λk5 h=>?_
  .exact bl dm [.int .i64 0]
  .exact bf (dQ _ (inl (bl c8 [.int .i64 (-1)])))
 .refine bf (dF _ (inl (aR aD λ_ fX e8 _=>aI ?_)));refine bg h (λmf h=>?_) λmf h=>?_
  .exact bl e8 [.int .i64 1]
  .refine bf (fX _ (inl (aR aD λ_ vl tw _=>aI ?_)));refine bg h (λhj h=>?_) λhj h=>?_
   .exact bl tw [.int .i64 (-1)]
   .refine bf (vl _ (inl (aR aD λ_ tz q_ _=>aI ?_)));refine bg h (λpg h=>?_) λpg h=>?_
    .exact bl q_ [.int .i64 1]
    .exact bf (tz _ (inl (bl aD [.int .i64 0])))
theorem acb (j J r) (h:CE j J=some r):bt aj 132 [.slice (j.map ks),.slice (J.map ks)] (.int .i64 r) []:=by
 refine cc [0,1] [.tmp 4] Tryz.func132 Zt λb6 aD b8=>aI ?_;refine aR aD λ_ cu bD ak=>aI ?_;refine bI bD λgV _ cG cX _=>?_;show bp aj (.loop ?gf) _ _;have gW:∀n o9,CD j J n o9=some r->dc aj ?gf gV (an [(0,.slice (j.map ks)),(1,.slice (J.map ks)),(9,.slice (j.map ks)),(10,.int .i64 (j.length:Int)),(11,.int .i64 o9)]):=by
  refine dp λ_ gH o9 h=>dn cG λ_ fM c1 aY=>aI ?_;refine aR c1 λ_ eG _ bq=>bg h (λdx h=>?_) λdx h=>?_
  .refine bf (eG _ (inl (aR c1 λ_ dQ dm _=>bI dm λ_ cD c3 _ _=>?_)));obtain⟨aa,eo,h⟩:=aM h;refine db eo _ ?_;refine aR c3 λ_ hS h5 _=>aI ?_;refine bg h (λk3 h=>?_) λk3 h=>?_
   .exact bl h5 [.int .i64 1]
   .refine bf (hS _ (inl ?_));obtain⟨ak,ga,h⟩:=aM h;refine db ga _ ?_;obtain⟨aL,iL,h⟩:=aM h;refine ej (aca aa ak _ iL) _ ?_;refine aI ?_;refine bg h (λow h=>?_) λow h=>?_
    .exact bl c3 [.int .i64 aL]
    .refine bf (cD _ (dQ _ (inl (fB ?_))));exact fM _ (inr ⟨_,cH rfl,gH (i64.wrap (o9+1)) h⟩)
  .refine dk (bq 0 _ (aY 0 _ (cX _ (cu _ (inl (aR aD λ_ I7 Dk _=>aI ?_))))));refine bg h (λmh h=>?_) λmh h=>?_
   .exact bl Dk [.int .i64 (-1)]
   .exact bf (I7 _ (inl (bl aD [.int .i64 0])))
 exact ew h λn h=>gW n 0 h
theorem acd (j J r) (h:CF j J=some r):bt aj 93 [bU j,bU J] (.int .i64 r) []:=by
 refine cc [0,1] [.tmp 4] Tryz.func93 Zu λb6 aD b8=>aI ?_;obtain⟨aa,bb,h⟩:=aM h;refine df (cx [(4,.int .i64 aa)] (λP a9=>?_) ?_)
 ·(try simp only[a3.down,simprocAttr,(show∀s,c5 aj s 122 2 [(0,.str j.Left),(1,.str j.cf)]=some (.ad 1 [.str j.Left,.str j.cf],s)from λs=>by kernel_rfl),(show∀s,c5 aj s 122 2 [(0,.str J.Left),(1,.str J.cf)]=some (.ad 1 [.str J.Left,.str J.cf],s)from λs=>by kernel_rfl)]);refine dv (acb [j.Left,j.cf] [J.Left,J.cf] _ bb) rfl rfl (by simp only[a3.down,simprocAttr,(show∀s,c5 aj s 122 2 [(0,.str j.Left),(1,.str j.cf)]=some (.ad 1 [.str j.Left,.str j.cf],s)from λs=>by kernel_rfl),(show∀s,c5 aj s 122 2 [(0,.str J.Left),(1,.str J.cf)]=some (.ad 1 [.str J.Left,.str J.cf],s)from λs=>by kernel_rfl),gw,gx,gy,dg,I.shares, @bB _ ks ks (λ_=>C6 _), @bB _ ks ks (λ_=>C6 _)]<;>rfl) rfl (inr (by rfl)) ?_;simp only[a3.down,simprocAttr,(show∀s,c5 aj s 122 2 [(0,.str j.Left),(1,.str j.cf)]=some (.ad 1 [.str j.Left,.str j.cf],s)from λs=>by kernel_rfl),(show∀s,c5 aj s 122 2 [(0,.str J.Left),(1,.str J.cf)]=some (.ad 1 [.str J.Left,.str J.cf],s)from λs=>by kernel_rfl)];exact cq (ab (show∀s,c5 aj s 122 2 [(0,.str j.Left),(1,.str j.cf)]=some (.ad 1 [.str j.Left,.str j.cf],s)from λs=>by kernel_rfl) (show∀s,c5 aj s 122 2 [(0,.str J.Left),(1,.str J.cf)]=some (.ad 1 [.str J.Left,.str J.cf],s)from λs=>by kernel_rfl))
 exact dX aD [.int .i64 aa]
theorem ace (j J r) (h:Hp j J=some r):bt aj 95 [bU j,.ref (bU J)] (.bool r) []:=by
 refine cc [0,1] [.tmp 3] Tryz.func95 Zv λb6 aD b8=>aI ?_;refine r_ (j.Left==J.Result) [(3,.bool ((j.Left==J.Result)||(j.cf==J.Result)))] ?_;exact dX aD [.bool ((j.Left==J.Result)||(j.cf==J.Result))]
theorem acf (j J r) (h:Hr j J=some r):bt aj 133 [.slice (j.map bU),.fn 95 [.ref (bU J)]] (.int .i64 r) []:=by
 refine cc [0,1] [.tmp 4] Tryz.func133 Zw λb6 aD b8=>aI ?_;refine aR aD λ_ cu bD ak=>aI ?_;refine bI bD λgV _ cG cX _=>?_;show bp aj (.loop ?gf) _ _;have gW:∀n eg,zH j J n eg=some r->dc aj ?gf gV (an [(0,.slice (j.map bU)),(1,.fn 95 [.ref (bU J)]),(7,.int .i64 (j.length:Int)),(8,.int .i64 eg)]):=by
  refine dp λ_ gH eg h=>dn cG λ_ fM c1 aY=>aI ?_;refine aR c1 λ_ eG _ bq=>bg h (λdx h=>?_) λdx h=>?_
  .refine bf (eG _ (inl (aR c1 λ_ dQ dm _=>bI dm λ_ cD c3 _ _=>aI ?_)));obtain⟨aa,eB,h⟩:=aM h;obtain⟨ak,eH,h⟩:=aM h;refine hi eB (ace aa J _ eH) _ ?_;refine bg h (λk3 h=>?_) λk3 h=>?_
   .exact bl c3 [.int .i64 eg]
   .refine bf (cD _ (dQ _ (inl (fB ?_))));exact fM _ (inr ⟨_,cH rfl,gH (i64.wrap (eg+1)) h⟩)
  .exact dk (bq 0 _ (aY 0 _ (cX _ (cu _ (inl (bl aD [.int .i64 (-1)]))))))
 exact ew h λn h=>gW n 0 h
theorem Pq (j J r) (h:zI j J=some r):bt aj 94 [.slice (j.map bU),.fn 95 [.ref (bU J)]] (.bool r) []:=by
 refine cc [0,1] [.tmp 4] Tryz.func94 Zx λb6 aD b8=>aI ?_;obtain⟨aa,bb,h⟩:=aM h;refine ej (acf j J _ bb) _ ?_;exact dX aD [.bool (decide (0<=aa))]
theorem acg (j r) (h:CG j=some r):bt aj 46 [.slice (j.map bU)] (.bool r) []:=by
 refine cc [0] [.tmp 2] Tryz.func46 Zy λb6 aD b8=>aI ?_;refine aR aD λ_ cu bD _=>aI ?_;refine bI bD λgV _ cG cX _=>?_;show bp aj (.loop ?gf) _ _;have gW:∀n gT,xa j n gT=some r->dc aj ?gf gV (an [(0,.slice (j.map bU)),(5,.slice (j.map bU)),(6,.int .i64 (j.length:Int)),(7,.int .i64 gT)]):=by
  refine dp λ_ gH gT h=>dn cG λ_ fM c1 aY=>aI ?_;refine aR c1 λ_ eG _ bq=>bg h (λdx h=>?_) λdx h=>?_
  .refine bf (eG _ (inl (aR c1 λ_ dQ dm cC=>bI dm λ_ cD c3 _ dw=>?_)));obtain⟨aa,eo,h⟩:=aM h;refine db eo _ ?_;refine aR c3 λ_ hS h5 _=>?_;obtain⟨aY,gA,h⟩:=aM h;rcases gN h with⟨el,h⟩|⟨el,h⟩
   .refine ma (h1 el) (mi aa.Left _ gA) _ ?_;refine jy rfl ?_;exact bl h5 [.bool false]
   .obtain⟨bj,gq,h⟩:=aM h;rcases gN h with⟨gL,h⟩|⟨gL,h⟩
    .refine ka rfl (hZ [(0,.slice (j.map bU)),(4,.ai (bU aa)),(5,.slice (j.map bU)),(6,.int .i64 (j.length:Int)),(7,.int .i64 gT),(48,.bool true)] (λP a9=>?_) ?_)
     ·(try simp only[b2.down,simprocAttr,(cg el),(h1 gL)]);refine ev (mi aa.Left _ gA) (hK:= ?_);simp only[b2.down,simprocAttr,(cg el),(h1 gL)];refine m2 (mi aa.cf _ gq) (hK:= ?_);simp only[b2.down,simprocAttr,(cg el),(h1 gL)];refine⟨gJ (by kernel_rfl),?_⟩;exact cq (ab (cg el) (h1 gL))
     refine jy rfl ?_;exact bl h5 [.bool false]
    .obtain⟨bq,nU,h⟩:=aM h;rcases gN h with⟨jZ,h⟩|⟨jZ,h⟩
     .refine ka rfl (hZ [(0,.slice (j.map bU)),(4,.ai (bU aa)),(5,.slice (j.map bU)),(6,.int .i64 (j.length:Int)),(7,.int .i64 gT),(48,.bool true)] (λP a9=>?_) ?_)
      ·(try simp only[b2.down,simprocAttr,(cg el),(cg gL),(h1 jZ)]);refine ev (mi aa.Left _ gA) (hK:= ?_);simp only[b2.down,simprocAttr,(cg el),(cg gL),(h1 jZ)];refine m2 (mi aa.cf _ gq) (hK:= ?_);simp only[b2.down,simprocAttr,(cg el),(cg gL),(h1 jZ)];refine m2 (mi aa.Result _ nU) (hK:= ?_);simp only[b2.down,simprocAttr,(cg el),(cg gL),(h1 jZ)];refine⟨gJ (by kernel_rfl),?_⟩;exact cq (ab (cg el) (ab (cg gL) (h1 jZ)))
      refine jy rfl ?_;exact bl h5 [.bool false]
     .rcases gN h with⟨kt,h⟩|⟨kt,h⟩
      .refine ka rfl (hZ [(0,.slice (j.map bU)),(4,.ai (bU aa)),(5,.slice (j.map bU)),(6,.int .i64 (j.length:Int)),(7,.int .i64 gT),(48,.bool true)] (λP a9=>?_) ?_)
       ·(try simp only[b2.down,simprocAttr,(cg el),(cg gL),(cg jZ),kt]);refine ev (mi aa.Left _ gA) (hK:= ?_);simp only[b2.down,simprocAttr,(cg el),(cg gL),(cg jZ),kt];refine m2 (mi aa.cf _ gq) (hK:= ?_);simp only[b2.down,simprocAttr,(cg el),(cg gL),(cg jZ),kt];refine m2 (mi aa.Result _ nU) (hK:= ?_);simp only[b2.down,simprocAttr,(cg el),(cg gL),(cg jZ),kt];refine⟨gJ (by kernel_rfl),?_⟩;exact cq (ab (cg el) (ab (cg gL) (ab (cg jZ) kt)))
       refine jy rfl ?_;exact bl h5 [.bool false]
      .rcases gN h with⟨ph,h⟩|⟨ph,h⟩
       .obtain⟨cn,nT,h⟩:=aM h;obtain⟨cC,rb,h⟩:=aM h;refine ka rfl (hZ [(0,.slice (j.map bU)),(4,.ai (bU aa)),(5,.slice (j.map bU)),(6,.int .i64 (j.length:Int)),(7,.int .i64 gT),(48,.bool (decide (0<=cC)))] (λP a9=>?_) ?_)
        ·(try simp only[b2.down,simprocAttr,(cg el),(cg gL),(cg jZ),kt,ph,nT]);refine ev (mi aa.Left _ gA) (hK:= ?_);simp only[b2.down,simprocAttr,(cg el),(cg gL),(cg jZ),kt,ph,nT];refine m2 (mi aa.cf _ gq) (hK:= ?_);simp only[b2.down,simprocAttr,(cg el),(cg gL),(cg jZ),kt,ph,nT];refine m2 (mi aa.Result _ nU) (hK:= ?_);simp only[b2.down,simprocAttr,(cg el),(cg gL),(cg jZ),kt,ph,nT];refine m2 (acd cn aa _ rb) (hK:= ?_);simp only[b2.down,simprocAttr,(cg el),(cg gL),(cg jZ),kt,ph,nT];refine⟨gJ (by kernel_rfl),?_⟩;exact cq (ab (cg el) (ab (cg gL) (ab (cg jZ) (ab kt (ab ph nT)))))
        refine bg h (λI9 h=>?_) λI9 h=>?_
        .exact bl h5 [.bool false]
        .refine bf (hS _ (inl ?_));obtain⟨dw,I5,h⟩:=aM h;refine df (cx [(0,.slice (j.map bU)),(5,.slice (j.map bU)),(6,.int .i64 (j.length:Int)),(7,.int .i64 gT),(51,.bool dw)] (λP a9=>?_) ?_)
         ·(try simp only[a3.down,simprocAttr]);refine dv (Pq j aa _ I5) rfl rfl (by simp only[a3.down,simprocAttr,Dd.down]<;>rfl) rfl (inr (by rfl)) ?_;simp only[a3.down,simprocAttr];exact cq trivial
         refine bg h (λI_ h=>?_) λI_ h=>?_
         .exact bl c3 [.bool false]
         .refine bf (cD _ (dQ _ (inl (fB ?_))));exact fM _ (inr ⟨_,cH rfl,gH (i64.wrap (gT+1)) h⟩)
       .refine ka rfl (hZ [(0,.slice (j.map bU)),(4,.ai (bU aa)),(5,.slice (j.map bU)),(6,.int .i64 (j.length:Int)),(7,.int .i64 gT),(48,.bool false)] (λP a9=>?_) ?_)
        ·(try simp only[b2.down,simprocAttr,(cg el),(cg gL),(cg jZ),kt,ph]);refine ev (mi aa.Left _ gA) (hK:= ?_);simp only[b2.down,simprocAttr,(cg el),(cg gL),(cg jZ),kt,ph];refine m2 (mi aa.cf _ gq) (hK:= ?_);simp only[b2.down,simprocAttr,(cg el),(cg gL),(cg jZ),kt,ph];refine m2 (mi aa.Result _ nU) (hK:= ?_);simp only[b2.down,simprocAttr,(cg el),(cg gL),(cg jZ),kt,ph];refine⟨gJ (by kernel_rfl),?_⟩;exact cq (ab (cg el) (ab (cg gL) (ab (cg jZ) (ab kt ph))))
        refine rT rfl ?_;refine bf (hS _ (inl ?_));obtain⟨ey,xO,h⟩:=aM h;refine df (cx [(0,.slice (j.map bU)),(5,.slice (j.map bU)),(6,.int .i64 (j.length:Int)),(7,.int .i64 gT),(51,.bool ey)] (λP a9=>?_) ?_)
        ·(try simp only[a3.down,simprocAttr]);refine dv (Pq j aa _ xO) rfl rfl (by simp only[a3.down,simprocAttr,Dd.down]<;>rfl) rfl (inr (by rfl)) ?_;simp only[a3.down,simprocAttr];exact cq trivial
        refine bg h (λach h=>?_) λach h=>?_
        .exact bl c3 [.bool false]
        .refine bf (cD _ (dQ _ (inl (fB ?_))));exact fM _ (inr ⟨_,cH rfl,gH (i64.wrap (gT+1)) h⟩)
  .exact dk (bq 0 _ (aY 0 _ (cX _ (cu _ (inl (bl aD [.bool (decide ((j.length:Int)<=6))]))))))
 exact ew h λn h=>gW n 0 h
theorem aci (J r) (h:CI J=some r):bt aj 170 [.ah,.int .i64 J] (.ad 1 (r.map ax)) []:=by
 refine cc [] [.tmp 4] Tryz.func170 Zz λb6 aD b8=>aI ?_;have Ar:Ht J=some r->bp aj Ot b6 (an [(0,.ah),(1,.int .i64 J),(6,.bool (decide (J<0)))]):=by
  intro h;have tx:CH=some r->bp aj Oq b6 (an [(0,.ad 1 [])]):=by
   intro h;exact bl aD [.ad 1 []]
  refine aR aD λ_ fC _ _=>db (ab @wj λs x h=> @wi aj s 22 2 x rfl h) _ ?_;refine aI ?_;refine bg h (λn2 h=>?_) λn2 h=>?_
  .obtain⟨Po,gQ,h⟩:=aM h;refine hH (cx [(0,.ad 1 [])] (λP a9=>?_) ?_)
   .simp only[a3.down,simprocAttr,OO.down,pr gQ,iE,-Int.reduceNatCast',o1];(try simp only[fm.down,simprocAttr,OO.down,pr gQ,iE,-Int.reduceNatCast',o1]at a9⊢);exact a9
   exact fC _ (inr ⟨_,cH rfl,tx h⟩)
  .exact bf (fC _ (inr ⟨_,ht [] rfl (hg (t:=0) (d:=.ah) (bz:=.ad 1 []) rfl rfl (.fJ _) (by decide) (hv)),tx h⟩))
 refine aR aD λ_ cu _ _=>aI ?_;refine bg h (λk5 h=>?_) λk5 h=>?_
 .cases h
 .exact bf (cu _ (inr ⟨_,cH rfl,Ar h⟩))
theorem Pr (j r) (h:ti j=some r):bt aj 134 [.slice (j.map l_)] (.ad 1 (r.map ax)) []:=by
 refine cc [0] [.tmp 2] Tryz.func134 ZA λb6 aD b8=>aI ?_;refine aI ?_;refine aR aD λ_ fC dS aL=>aI ?_;refine bI dS λjD _ c1 c9 _=>?_;show bp aj (.loop ?gF) _ _;have fL:∀n bH eh,u9 j n bH eh=some r->dc aj ?gF jD (an [(0,.slice (j.map l_)),(3,.int .i64 bH),(9,.slice (j.map l_)),(10,.int .i64 (j.length:Int)),(11,.int .i64 eh)]):=by
  refine dp λkl fw bH eh h=>dn c1 λiM dF c8 bj=>aI ?_;refine aR c8 λ_ fK _ cn=>bg h (λe7 h=>?_) λe7 h=>?_
  .refine bf (fK _ (inl ?_));show bp aj (.seq _ ?vj) _ _;have vo:∀i5 i6 ln,Hu (u9 j kl) j i5 i6 ln=some r->bp aj ?vj iM (an [(0,.slice (j.map l_)),(3,.int .i64 i5),(9,.slice (j.map l_)),(10,.int .i64 (j.length:Int)),(11,.int .i64 i6),(20,.bool ln)]):=by
    intro i5 i6 ln h;refine fB ?_;exact dF _ (inr ⟨_,cH rfl,fw i5 (i64.wrap (i6+1)) h⟩)
   refine aR c8 λ_ cD c3 _=>bI c3 λ_ gU _ _ _=>?_;obtain⟨aa,eH,h⟩:=aM h;refine db eH _ ?_;refine aI ?_;refine aI ?_;refine bg h (λjB h=>?_) λjB h=>?_
   .cases h
   .exact bf (gU _ (cD _ (inr ⟨_,cH rfl,vo (i64.wrap (bH+(aa.length:Int))) eh (decide ((i64.wrap (bH+(aa.length:Int)))<0)) h⟩)))
  .refine dk (cn 0 _ (bj 0 _ (c9 _ (fC _ (inl ?_)))));obtain⟨ak,iL,h⟩:=aM h;refine ej (aci bH _ iL) _ ?_;refine aR aD λ_ mb lO _=>aI ?_;refine bI lO λvp _ ra el _=>?_;show bp aj (.loop ?qo) _ _;have vq:∀n eV eO,u7 j n eV eO=some r->dc aj ?qo vp (an [(6,.ad 1 (eV.map ax)),(25,.slice (j.map l_)),(26,.int .i64 (j.length:Int)),(27,.int .i64 eO)]):=by
    refine dp λ_ vr eV eO h=>dn ra λ_ k4 mc mF=>aI ?_;refine aR mc λ_ sd _ pa=>bg h (λmh h=>?_) λmh h=>?_
    .refine bf (sd _ (inl (aR mc λ_ ox vt _=>bI vt λ_ q9 _ _ _=>?_)));obtain⟨aL,iw,h⟩:=aM h;refine db iw _ ?_;obtain⟨Dj,kg,h⟩:=aM h;(try simp only[jW.down,Nat.zero_add,Nat.add_zero,reduceAdd]at kg);refine ou (ab (@h0 aj 22 22 2 rfl rfl) (ab @ia (ab @ib (ab @fl (ab @h_ (ab @all_nil (ab kg (@hx _ ax 1 λ_=>rfl)))))))) [(6,.ad 1 ((eV++aL).map ax)),(25,.slice (j.map l_)),(26,.int .i64 (j.length:Int)),(27,.int .i64 eO)] ?_;refine q9 _ (ox _ (inl (wr [(6,.ad 1 ((eV++aL).map ax)),(25,.slice (j.map l_)),(26,.int .i64 (j.length:Int)),(27,.int .i64 (i64.wrap (eO+1)))] ?_)));exact k4 _ (inr ⟨_,cH rfl,vr (eV++aL) (i64.wrap (eO+1)) h⟩)
    .exact dk (pa 2 _ (mF 2 _ (el _ (mb _ (inl (bl aD [.ad 1 (eV.map ax)]))))))
   exact ew h λn h=>vq n ak 0 h
 exact ew h λn h=>fL n 0 0 h
theorem Ps (j r) (h:zJ j=some r):bt aj 81 [.int .i64 j] (.ad 2 (r.map aQ)) []:=by
 refine cc [0] [.tmp 2] Tryz.func81 ZB λb6 aD b8=>aI ?_;refine db (ab (show∀s,d_ aj s 102 [(0,.int .i64 1),(1,.int .i64 j)]=some (.agg [.int .i64 1,.int .i64 j],s)from λs=>by kernel_rfl) (show∀s,c5 aj s 59 1 [(0,.agg [.int .i64 1,.int .i64 j])]=some (.ad 2 [.agg [.int .i64 1,.int .i64 j]],s)from λs=>by kernel_rfl)) _ ?_;exact dX aD [.ad 2 ([(ar.mk 1 j)].map aQ)]
theorem tB (j r) (h:qc j=some r):bt aj 68 [.slice (j.map ax)] (.ad 1 (r.map ax)) []:=by
 refine cc [0] [.tmp 2] Tryz.func68 ZC λb6 aD b8=>aI ?_;refine aR aD λ_ cu bD _=>?_;rcases gN h with⟨cX,h⟩|⟨cX,h⟩
 .refine df (cx [(0,.slice (j.map ax)),(4,.fo)] (λP a9=>?_) ?_)
  .simp only[a3.down,simprocAttr,pd.down,(BH cX)];exact cq (ab pd.down (BH cX))
  obtain⟨bC,h⟩:=DR h;refine FK rfl ?_ ?_
  .replace h:=bC;refine aI ?_;exact ko (bD _ (inr ⟨[(2,.ad 1 [])],ht [] rfl (hg (t:=2) (d:=.ah) rfl rfl (.fJ _) (by decide) (hv)),uR [.ad 1 []]⟩))
  .refine bf (cu _ (inl ?_));obtain⟨u8,hW,h⟩:=aM h;(try simp only[jW.down,Nat.zero_add,Nat.add_zero,reduceAdd]at hW);refine db (ab (show∀s,c5 aj s 22 0 []=some (.ad 1 [],s)from λs=>by kernel_rfl) (ab (@h0 aj 22 22 2 rfl rfl) (ab @ia (ab @ib (ab @fl (ab @h_ (ab @all_nil (ab hW (@hx _ ax 1 λ_=>rfl))))))))) _ ?_;exact dX aD [.ad 1 (j.map ax)]
 .refine df (cx [(0,.slice (j.map ax)),(4,.bool false)] (λP a9=>?_) ?_)
  .simp only[a3.down,simprocAttr,pd.down,(BI cX)];exact cq (ab pd.down (BI cX))
  refine rT rfl ?_;refine bf (cu _ (inl ?_));obtain⟨acj,kk,h⟩:=aM h;(try simp only[jW.down,Nat.zero_add,Nat.add_zero,reduceAdd]at kk);refine db (ab (show∀s,c5 aj s 22 0 []=some (.ad 1 [],s)from λs=>by kernel_rfl) (ab (@h0 aj 22 22 2 rfl rfl) (ab @ia (ab @ib (ab @fl (ab @h_ (ab @all_nil (ab kk (@hx _ ax 1 λ_=>rfl))))))))) _ ?_;exact dX aD [.ad 1 (j.map ax)]
theorem Pt (j J aB r) (h:Hx j J aB=some r):bt aj 171 [.int .i64 j,.ref (.int .i64 J),.ref (.int .i64 aB)] (FV (λy=>.ad 2 (y.map aQ)) r) []:=by
 refine cc [0,1,2] [.tmp 4] Tryz.func171 ZD λb6 aD b8=>aI ?_;refine aR aD λ_ cu bD _=>aI ?_;refine bg h (λcX h=>?_) λcX h=>?_
 .exact bl bD [.ah]
 .refine bf (cu _ (inl (db (ab (show∀s,d_ aj s 102 [(0,.int .i64 1),(1,.int .i64 (i64.wrap (j+aB)))]=some (.agg [.int .i64 1,.int .i64 (i64.wrap (j+aB))],s)from λs=>by kernel_rfl) (show∀s,c5 aj s 59 1 [(0,.agg [.int .i64 1,.int .i64 (i64.wrap (j+aB))])]=some (.ad 2 [.agg [.int .i64 1,.int .i64 (i64.wrap (j+aB))]],s)from λs=>by kernel_rfl)) _ ?_)));exact dX aD [.ad 2 ([(ar.mk 1 (i64.wrap (j+aB)))].map aQ)]
theorem ack (j a6 a7 r) (h:Hz j a6 a7=some r):bt aj 76 [.slice (j.map aQ),.fn 171 [.ref (.int .i64 a6),.ref (.int .i64 a7)]] (.ad 2 (r.map aQ)) []:=by
 refine cc [0,1] [.tmp 4] Tryz.func76 ZE λb6 aD b8=>aI ?_;refine aI ?_;refine aR aD λ_ fC dS aL=>aI ?_;refine bI dS λjD _ c1 c9 _=>?_;show bp aj (.loop ?gF) _ _;have fL:∀n bX eh,r6 j a6 a7 n bX eh=some r->dc aj ?gF jD (an [(1,.fn 171 [.ref (.int .i64 a6),.ref (.int .i64 a7)]),(5,.ad 2 (bX.map aQ)),(9,.slice (j.map aQ)),(10,.int .i64 (j.length:Int)),(11,.int .i64 eh)]):=by
  refine dp λkl fw bX eh h=>dn c1 λ_ dF c8 bj=>aI ?_;refine aR c8 λ_ fK _ cn=>bg h (λe7 h=>?_) λe7 h=>?_
  .refine bf (fK _ (inl (aR c8 λ_ cD c3 _=>bI c3 λJa dP gz _ _=>?_)));obtain⟨aa,eB,h⟩:=aM h;refine db eB _ ?_;refine aI ?_;refine aR gz λ_ iV _ _=>aI ?_;refine bg h (λjB h=>?_) λjB h=>?_
   .obtain⟨ak,hD,h⟩:=aM h;rcases VE h with⟨hj,h⟩|⟨aL,hj,h⟩
    .refine Iy (by have q:=(Pt aa.Value a6 a7 _ hD);simp only[hj,FV]at q;exact q) _ ?_;refine iV _ (inl ?_);show bp aj (.seq _ ?qo) _ _;have vu:∀kc kd kr,r5 (r6 j a6 a7 kl) j a6 a7 kc kd kr=some r->bp aj ?qo Ja (an [(1,.fn 171 [.ref (.int .i64 a6),.ref (.int .i64 a7)]),(5,.ad 2 (kc.map aQ)),(8,.ad 2 (kd.map aQ)),(9,.slice (j.map aQ)),(10,.int .i64 (j.length:Int)),(11,.int .i64 kr)]):=by
      intro kc kd kr h;obtain⟨abN,iW,h⟩:=aM h;(try simp only[jW.down,Nat.zero_add,Nat.add_zero,reduceAdd]at iW);refine ou (ab (@h0 aj 59 59 102 rfl rfl) (ab @ia (ab @ib (ab @fl (ab @h_ (ab @all_nil (ab iW (@hx _ aQ 2 λ_=>rfl)))))))) [(1,.fn 171 [.ref (.int .i64 a6),.ref (.int .i64 a7)]),(5,.ad 2 ((kc++kd).map aQ)),(9,.slice (j.map aQ)),(10,.int .i64 (j.length:Int)),(11,.int .i64 kr)] ?_;refine dP _ (cD _ (inl (wr [(1,.fn 171 [.ref (.int .i64 a6),.ref (.int .i64 a7)]),(5,.ad 2 ((kc++kd).map aQ)),(9,.slice (j.map aQ)),(10,.int .i64 (j.length:Int)),(11,.int .i64 (i64.wrap (kr+1)))] ?_)));exact dF _ (inr ⟨_,cH rfl,fw (kc++kd) (i64.wrap (kr+1)) h⟩)
     refine aR gz λ_ mb _ _=>db @FW _ ?_;refine jy rfl ?_;refine ou (show∀s,c5 aj s 59 1 [(0,.agg [.int .i64 aa.Kind,.int .i64 aa.Value])]=some (.ad 2 [.agg [.int .i64 aa.Kind,.int .i64 aa.Value]],s)from λs=>by kernel_rfl) _ ?_;exact mb _ (inr ⟨_,cH rfl,vu bX [aa] eh h⟩)
    .refine Iy (by have q:=(Pt aa.Value a6 a7 _ hD);simp only[hj,FV]at q;exact q) _ ?_;refine iV _ (inl ?_);show bp aj (.seq _ ?qo) _ _;have vu:∀kc kd kr,r5 (r6 j a6 a7 kl) j a6 a7 kc kd kr=some r->bp aj ?qo Ja (an [(1,.fn 171 [.ref (.int .i64 a6),.ref (.int .i64 a7)]),(5,.ad 2 (kc.map aQ)),(8,.ad 2 (kd.map aQ)),(9,.slice (j.map aQ)),(10,.int .i64 (j.length:Int)),(11,.int .i64 kr)]):=by
      intro kc kd kr h;obtain⟨ahj,tA,h⟩:=aM h;(try simp only[jW.down,Nat.zero_add,Nat.add_zero,reduceAdd]at tA);refine ou (ab (@h0 aj 59 59 102 rfl rfl) (ab @ia (ab @ib (ab @fl (ab @h_ (ab @all_nil (ab tA (@hx _ aQ 2 λ_=>rfl)))))))) [(1,.fn 171 [.ref (.int .i64 a6),.ref (.int .i64 a7)]),(5,.ad 2 ((kc++kd).map aQ)),(9,.slice (j.map aQ)),(10,.int .i64 (j.length:Int)),(11,.int .i64 kr)] ?_;refine dP _ (cD _ (inl (wr [(1,.fn 171 [.ref (.int .i64 a6),.ref (.int .i64 a7)]),(5,.ad 2 ((kc++kd).map aQ)),(9,.slice (j.map aQ)),(10,.int .i64 (j.length:Int)),(11,.int .i64 (i64.wrap (kr+1)))] ?_)));exact dF _ (inr ⟨_,cH rfl,fw (kc++kd) (i64.wrap (kr+1)) h⟩)
     refine aR gz λ_ qi _ _=>?_;rcases gN h with⟨nS,h⟩|⟨nS,h⟩
     .refine df (cx [(1,.fn 171 [.ref (.int .i64 a6),.ref (.int .i64 a7)]),(5,.ad 2 (bX.map aQ)),(7,.ai (aQ aa)),(8,.ad 2 (aL.map aQ)),(9,.slice (j.map aQ)),(10,.int .i64 (j.length:Int)),(11,.int .i64 eh),(23,.fo)] (λP a9=>?_) ?_)
      .simp only[a3.down,simprocAttr,pd.down,(M4 nS)];exact cq (ab pd.down (M4 nS))
      obtain⟨acm,h⟩:=DR h;refine FK rfl ?_ ?_
      .replace h:=acm;refine ou (show∀s,c5 aj s 59 1 [(0,.agg [.int .i64 aa.Kind,.int .i64 aa.Value])]=some (.ad 2 [.agg [.int .i64 aa.Kind,.int .i64 aa.Value]],s)from λs=>by kernel_rfl) _ ?_;exact qi _ (inr ⟨_,cH rfl,vu bX [aa] eh h⟩)
      .exact bf (qi _ (inr ⟨_,cH rfl,vu bX aL eh h⟩))
     .refine df (cx [(1,.fn 171 [.ref (.int .i64 a6),.ref (.int .i64 a7)]),(5,.ad 2 (bX.map aQ)),(7,.ai (aQ aa)),(8,.ad 2 (aL.map aQ)),(9,.slice (j.map aQ)),(10,.int .i64 (j.length:Int)),(11,.int .i64 eh),(23,.bool false)] (λP a9=>?_) ?_)
      .simp only[a3.down,simprocAttr,pd.down,(M5 nS)];exact cq (ab pd.down (M5 nS))
      refine rT rfl ?_;exact bf (qi _ (inr ⟨_,cH rfl,vu bX aL eh h⟩))
   .refine bf (iV _ (inl ?_));show bp aj (.seq _ ?qo) _ _;have vu:∀kc kd kr,r5 (r6 j a6 a7 kl) j a6 a7 kc kd kr=some r->bp aj ?qo Ja (an [(1,.fn 171 [.ref (.int .i64 a6),.ref (.int .i64 a7)]),(5,.ad 2 (kc.map aQ)),(8,.ad 2 (kd.map aQ)),(9,.slice (j.map aQ)),(10,.int .i64 (j.length:Int)),(11,.int .i64 kr)]):=by
     intro kc kd kr h;obtain⟨ahk,xN,h⟩:=aM h;(try simp only[jW.down,Nat.zero_add,Nat.add_zero,reduceAdd]at xN);refine ou (ab (@h0 aj 59 59 102 rfl rfl) (ab @ia (ab @ib (ab @fl (ab @h_ (ab @all_nil (ab xN (@hx _ aQ 2 λ_=>rfl)))))))) [(1,.fn 171 [.ref (.int .i64 a6),.ref (.int .i64 a7)]),(5,.ad 2 ((kc++kd).map aQ)),(9,.slice (j.map aQ)),(10,.int .i64 (j.length:Int)),(11,.int .i64 kr)] ?_;refine dP _ (cD _ (inl (wr [(1,.fn 171 [.ref (.int .i64 a6),.ref (.int .i64 a7)]),(5,.ad 2 ((kc++kd).map aQ)),(9,.slice (j.map aQ)),(10,.int .i64 (j.length:Int)),(11,.int .i64 (i64.wrap (kr+1)))] ?_)));exact dF _ (inr ⟨_,cH rfl,fw (kc++kd) (i64.wrap (kr+1)) h⟩)
    refine aR gz λ_ acn _ _=>db @FW _ ?_;refine jy rfl ?_;refine ou (show∀s,c5 aj s 59 1 [(0,.agg [.int .i64 aa.Kind,.int .i64 aa.Value])]=some (.ad 2 [.agg [.int .i64 aa.Kind,.int .i64 aa.Value]],s)from λs=>by kernel_rfl) _ ?_;exact acn _ (inr ⟨_,cH rfl,vu bX [aa] eh h⟩)
  .exact dk (cn 0 _ (bj 0 _ (c9 _ (fC _ (inl (bl aD [.ad 2 (bX.map aQ)]))))))
 obtain⟨n,h⟩:=ki h;exact kW (inr ⟨_,ht [] rfl (cy (t:=1) (d:=.fn 171 [.ref (.int .i64 a6),.ref (.int .i64 a7)]) rfl (hg (t:=5) (d:=.ah) (bz:=.ad 2 []) rfl rfl (.fJ _) (by decide) (cy (t:=9) (d:=.slice (j.map aQ)) rfl (cy (t:=10) (d:=.int .i64 (j.length:Int)) rfl (cy (t:=11) (d:=.int .i64 0) rfl (hv)))))),fL n [] 0 h⟩)
theorem As (j J aB r) (h:tj j J aB=some r):bt aj 136 [.slice (j.map aQ),.int .i64 J,.int .i64 aB] (.ad 2 (r.map aQ)) []:=by
 refine cc [0,1,2] [.tmp 6] Tryz.func136 ZF λb6 aD b8=>aI ?_;obtain⟨aa,bb,h⟩:=aM h;refine df (cx [(6,.ad 2 (aa.map aQ))] (λP a9=>?_) ?_)
 ·(try simp only[a3.down,simprocAttr]);refine dv (ack j J aB _ bb) rfl rfl (by simp only[a3.down,simprocAttr,Dd.down]<;>rfl) rfl (inr (iR (λ_=>r7 _) _)) ?_;simp only[a3.down,simprocAttr];exact cq trivial
 exact dX aD [.ad 2 (aa.map aQ)]
theorem Pu (j J aB eb r) (h:zK j J aB eb=some r):bt aj 135 [a4 j,.slice (J.map aQ),.ref (bw aB),.ref (bw eb)] (.ad 2 (r.map aQ)) []:=by
 refine cc [0,1,2,3] [.tmp 6] Tryz.func135 ZG λb6 aD b8=>aI ?_;obtain⟨aa,bb,h⟩:=aM h;refine ej (As J aB.aE eb.aE _ bb) _ ?_;exact dX aD [.ad 2 (aa.map aQ)]
theorem Pv (j a6 a7 aB r) (h:zL j a6 a7 aB=some r):bt aj 75 [.slice (j.map a0),.ref (.fn 135 [.ref (bw a6),.ref (bw a7)]),.ref (a4 aB)] (.ad 1 (r.map bo)) []:=by
 refine cc [0,1,2] [.tmp 4] Tryz.func75 ZH λb6 aD b8=>aI ?_;refine aI ?_;refine aR aD λ_ fC dS _=>aI ?_;refine bI dS λjD _ c1 c9 _=>?_;show bp aj (.loop ?gF) _ _;have fL:∀n bX fi,xb j aB a6 a7 n bX fi=some r->dc aj ?gF jD (an [(1,.ref (.fn 135 [.ref (bw a6),.ref (bw a7)])),(2,.ref (a4 aB)),(5,.ad 1 (bX.map bo)),(8,.slice (j.map a0)),(9,.int .i64 (j.length:Int)),(10,.int .i64 fi)]):=by
  refine dp λ_ fw bX fi h=>dn c1 λ_ dF c8 bj=>aI ?_;refine aR c8 λ_ fK _ cn=>bg h (λe7 h=>?_) λe7 h=>?_
  .refine bf (fK _ (inl (aR c8 λ_ cD c3 _=>bI c3 λ_ dP _ _ _=>?_)));obtain⟨aa,eB,h⟩:=aM h;refine db eB _ ?_;obtain⟨ak,ez,h⟩:=aM h;obtain⟨Af,c4,h⟩:=aM h;(try simp only[kI.down,Nat.zero_add,Nat.add_zero,reduceAdd]at c4);refine hH (cx [(1,.ref (.fn 135 [.ref (bw a6),.ref (bw a7)])),(2,.ref (a4 aB)),(5,.ad 1 ((bX++[ak]).map bo)),(8,.slice (j.map a0)),(9,.int .i64 (j.length:Int)),(10,.int .i64 fi)] (λP a9=>?_) ?_)
   ·(try simp only[a3.down,simprocAttr,iv.down,cP,bM,c4]);refine dv (Pu aB aa a6 a7 _ ez) (hK:= ?_);simp only[a3.down,simprocAttr,iv.down,cP,bM,c4];(try simp only[fm.down,simprocAttr,iv.down,cP,bM,c4]at a9⊢);exact a9
   refine dP _ (cD _ (inl (wr [(1,.ref (.fn 135 [.ref (bw a6),.ref (bw a7)])),(2,.ref (a4 aB)),(5,.ad 1 ((bX++[ak]).map bo)),(8,.slice (j.map a0)),(9,.int .i64 (j.length:Int)),(10,.int .i64 (i64.wrap (fi+1)))] ?_)));exact dF _ (inr ⟨_,cH rfl,fw (bX++[ak]) (i64.wrap (fi+1)) h⟩)
  .exact dk (cn 0 _ (bj 0 _ (c9 _ (fC _ (inl (bl aD [.ad 1 (bX.map bo)]))))))
 obtain⟨n,h⟩:=ki h;exact kW (inr ⟨_,ht [] rfl (cy (t:=1) (d:=.ref (.fn 135 [.ref (bw a6),.ref (bw a7)])) rfl (cy (t:=2) (d:=.ref (a4 aB)) rfl (hg (t:=5) (d:=.ah) (bz:=.ad 1 []) rfl rfl (.fJ _) (by decide) (cy (t:=8) (d:=.slice (j.map a0)) rfl (cy (t:=9) (d:=.int .i64 (j.length:Int)) rfl (cy (t:=10) (d:=.int .i64 0) rfl (hv))))))),fL n [] 0 h⟩)
theorem aco (j a6 a7 r) (h:zM j a6 a7=some r):bt aj 35 [bw j,.fn 135 [.ref (bw a6),.ref (bw a7)]] (eF r) []:=by
 refine cc [0,1] [.cell 4 29] Tryz.func35 ZJ λb6 aD b8=>db (ab @m5 (show∀s,h8 s (.fn 135 [.ref (.agg [.int .i64 a6.aE,.slice (a6.Start.map ax),.slice (a6.aU.map a4)]),.ref (.agg [.int .i64 a7.aE,.slice (a7.Start.map ax),.slice (a7.aU.map a4)])])=some (.ref (.fn 135 [.ref (.agg [.int .i64 a6.aE,.slice (a6.Start.map ax),.slice (a6.aU.map a4)]),.ref (.agg [.int .i64 a7.aE,.slice (a7.Start.map ax),.slice (a7.aU.map a4)])]),s)from λs=>rfl)) _ ?_;obtain⟨aa,bb,h⟩:=aM h;refine ma (ab (@lG aj 29 [(2,0),(22,1),(27,2)] [(.int .i64 0),.ah,.ah] rfl rfl (by kernel_rfl)) (ab @i2 (ab @i3 (ab @dV (ab @fl (ab @List.nil_append.{0} @List.cons_append.{0})))))) (tB j.Start _ bb) _ ?_;refine aR aD λ_ gp cG a2=>aI ?_;refine bI cG λiM _ c8 eZ bj=>?_;have fL:∀n bX fj,xc j a6 a7 aa n bX fj=some r->dc aj Ou iM (an [(3,.ref (.fn 135 [.ref (bw a6),.ref (bw a7)])),(4,.ai (.agg [.int .i64 0,.ah,.ah])),(5,.ai (.agg [.int .i64 j.aE,.ad 1 (aa.map ax),.ad 5 (bX.map b9)])),(16,.slice (j.aU.map a4)),(17,.int .i64 (j.aU.length:Int)),(18,.int .i64 fj)]):=by
  refine dp λ_ fw bX fj h=>dn c8 λ_ eG eR bq=>aI ?_;refine aR eR λ_ dQ _ cC=>bg h (λh4 h=>?_) λh4 h=>?_
  .refine bf (dQ _ (inl (aR eR λ_ dP gz _=>bI gz λ_ gU _ _ _=>?_)));obtain⟨ak,eH,h⟩:=aM h;refine db eH _ ?_;refine aI ?_;obtain⟨aL,f_,h⟩:=aM h;obtain⟨a2,ga,h⟩:=aM h;obtain⟨aY,hD,h⟩:=aM h;obtain⟨bj,iL,h⟩:=aM h;obtain⟨Jb,eI,h⟩:=aM h;(try simp only[kI.down,Nat.zero_add,Nat.add_zero,reduceAdd]at eI);refine sZ rfl (hZ [(3,.ref (.fn 135 [.ref (bw a6),.ref (bw a7)])),(4,.ai (.agg [.int .i64 0,.ah,.ah])),(5,.ai (.agg [.int .i64 j.aE,.ad 1 (aa.map ax),.ad 5 ((bX++[(aN.mk aL a2 ak.Name aY bj)]).map b9)])),(16,.slice (j.aU.map a4)),(17,.int .i64 (j.aU.length:Int)),(18,.int .i64 fj)] (λP a9=>?_) ?_)
   ·(try simp only[b2.down,simprocAttr,jX.down,cW,bM,cP,eI]);refine ev (tB ak.a5 _ f_) (hK:= ?_);simp only[b2.down,simprocAttr,jX.down,cW,bM,cP,eI];refine ev (Pu ak ak.Guard a6 a7 _ ga) (hK:= ?_);simp only[b2.down,simprocAttr,jX.down,cW,bM,cP,eI];refine ev (Pv ak.aW a6 a7 ak _ hD) rfl rfl (by simp only[b2.down,simprocAttr,tt.down,cW,bM,cP,eI]<;>rfl) rfl (inr (iR (λ_=>pc _) _)) ?_;simp only[b2.down,simprocAttr,jX.down,cW,bM,cP,eI];refine ev (Pv ak.Next a6 a7 ak _ iL) rfl rfl (by simp only[b2.down,simprocAttr,tt.down,cW,bM,cP,eI]<;>rfl) rfl (inr (iR (λ_=>pc _) _)) ?_;simp only[b2.down,simprocAttr,jX.down,cW,bM,cP,eI];refine⟨gJ (by kernel_rfl),?_⟩;(try simp only[fm.down,simprocAttr,jX.down,cW,bM,cP,eI]at a9⊢);exact a9
   refine gU _ (dP _ (inl (wr [(3,.ref (.fn 135 [.ref (bw a6),.ref (bw a7)])),(4,.ai (.agg [.int .i64 0,.ah,.ah])),(5,.ai (.agg [.int .i64 j.aE,.ad 1 (aa.map ax),.ad 5 ((bX++[(aN.mk aL a2 ak.Name aY bj)]).map b9)])),(16,.slice (j.aU.map a4)),(17,.int .i64 (j.aU.length:Int)),(18,.int .i64 (i64.wrap (fj+1)))] ?_)));exact eG _ (inr ⟨_,cH rfl,fw (bX++[(aN.mk aL a2 ak.Name aY bj)]) (i64.wrap (fj+1)) h⟩)
  .exact dk (cC 0 _ (bq 0 _ (eZ _ (gp _ (inl (bl aD [eF (a8.mk j.aE aa bX)]))))))
 obtain⟨n,h⟩:=ki h;exact kW (inr ⟨_,ht [] rfl (cy (t:=3) (d:=.ref (.fn 135 [.ref (bw a6),.ref (bw a7)])) rfl (cy (t:=4) (d:=.ai (.agg [.int .i64 0,.ah,.ah])) rfl (hg (t:=5) (d:=.ai (.agg [.int .i64 j.aE,.ad 1 (aa.map ax),.ah])) (bz:=.ai (.agg [.int .i64 j.aE,.ad 1 (aa.map ax),.ad 5 []])) rfl rfl (.ai (.agg (.cons (.refl _) (.cons (.refl _) (.cons (.fJ _) (.nil)))))) (by decide) (cy (t:=16) (d:=.slice (j.aU.map a4)) rfl (cy (t:=17) (d:=.int .i64 (j.aU.length:Int)) rfl (cy (t:=18) (d:=.int .i64 0) rfl (hv))))))),fL n [] 0 h⟩)
theorem Pw (j r) (h:zN j=some r):bt aj 172 [.slice (j.map aQ)] (.ad 2 (r.map aQ)) []:=by
 refine cc [0] [.tmp 2] Tryz.func172 ZK λb6 aD b8=>aI ?_;refine aR aD λ_ cu bD _=>?_;rcases gN h with⟨cX,h⟩|⟨cX,h⟩
 .refine df (cx [(0,.slice (j.map aQ)),(4,.fo)] (λP a9=>?_) ?_)
  .simp only[a3.down,simprocAttr,pd.down,(BH cX)];exact cq (ab pd.down (BH cX))
  obtain⟨bC,h⟩:=DR h;refine FK rfl ?_ ?_
  .replace h:=bC;refine aI ?_;exact ko (bD _ (inr ⟨[(2,.ad 2 [])],ht [] rfl (hg (t:=2) (d:=.ah) rfl rfl (.fJ _) (by decide) (hv)),uR [.ad 2 []]⟩))
  .refine bf (cu _ (inl ?_));obtain⟨u8,hW,h⟩:=aM h;(try simp only[jW.down,Nat.zero_add,Nat.add_zero,reduceAdd]at hW);refine db (ab (show∀s,c5 aj s 59 0 []=some (.ad 2 [],s)from λs=>by kernel_rfl) (ab (@h0 aj 59 59 102 rfl rfl) (ab @ia (ab @ib (ab @fl (ab @h_ (ab @all_nil (ab hW (@hx _ aQ 2 λ_=>rfl))))))))) _ ?_;exact dX aD [.ad 2 (j.map aQ)]
 .refine df (cx [(0,.slice (j.map aQ)),(4,.bool false)] (λP a9=>?_) ?_)
  .simp only[a3.down,simprocAttr,pd.down,(BI cX)];exact cq (ab pd.down (BI cX))
  refine rT rfl ?_;refine bf (cu _ (inl ?_));obtain⟨acj,kk,h⟩:=aM h;(try simp only[jW.down,Nat.zero_add,Nat.add_zero,reduceAdd]at kk);refine db (ab (show∀s,c5 aj s 59 0 []=some (.ad 2 [],s)from λs=>by kernel_rfl) (ab (@h0 aj 59 59 102 rfl rfl) (ab @ia (ab @ib (ab @fl (ab @h_ (ab @all_nil (ab kk (@hx _ aQ 2 λ_=>rfl))))))))) _ ?_;exact dX aD [.ad 2 (j.map aQ)]
theorem Px (j r) (h:zO j=some r):bt aj 137 [.slice (j.map a0)] (.ad 1 (r.map bo)) []:=by
 refine cc [0] [.tmp 2] Tryz.func137 ZL λb6 aD b8=>aI ?_;refine aI ?_;refine aR aD λ_ fC dS _=>aI ?_;refine bI dS λjD _ c1 c9 _=>?_;show bp aj (.loop ?gF) _ _;have fL:∀n bH fZ,xd j n bH fZ=some r->dc aj ?gF jD (an [(3,.ad 1 (bH.map bo)),(6,.slice (j.map a0)),(7,.int .i64 (j.length:Int)),(8,.int .i64 fZ)]):=by
  refine dp λ_ fw bH fZ h=>dn c1 λ_ dF c8 bj=>aI ?_;refine aR c8 λ_ fK _ cn=>bg h (λe7 h=>?_) λe7 h=>?_
  .refine bf (fK _ (inl (aR c8 λ_ cD c3 _=>bI c3 λ_ dP _ _ _=>?_)));obtain⟨aa,eB,h⟩:=aM h;refine db eB _ ?_;obtain⟨ak,ez,h⟩:=aM h;obtain⟨Af,c4,h⟩:=aM h;(try simp only[kI.down,Nat.zero_add,Nat.add_zero,reduceAdd]at c4);refine hH (cx [(3,.ad 1 ((bH++[ak]).map bo)),(6,.slice (j.map a0)),(7,.int .i64 (j.length:Int)),(8,.int .i64 fZ)] (λP a9=>?_) ?_)
   ·(try simp only[a3.down,simprocAttr,iv.down,cP,bM,c4]);refine dv (Pw aa _ ez) (hK:= ?_);simp only[a3.down,simprocAttr,iv.down,cP,bM,c4];(try simp only[fm.down,simprocAttr,iv.down,cP,bM,c4]at a9⊢);exact a9
   refine dP _ (cD _ (inl (wr [(3,.ad 1 ((bH++[ak]).map bo)),(6,.slice (j.map a0)),(7,.int .i64 (j.length:Int)),(8,.int .i64 (i64.wrap (fZ+1)))] ?_)));exact dF _ (inr ⟨_,cH rfl,fw (bH++[ak]) (i64.wrap (fZ+1)) h⟩)
  .exact dk (cn 0 _ (bj 0 _ (c9 _ (fC _ (inl (bl aD [.ad 1 (bH.map bo)]))))))
 obtain⟨n,h⟩:=ki h;exact kW (inr ⟨_,ht [] rfl (hg (t:=3) (d:=.ah) (bz:=.ad 1 []) rfl rfl (.fJ _) (by decide) (cy (t:=6) (d:=.slice (j.map a0)) rfl (cy (t:=7) (d:=.int .i64 (j.length:Int)) rfl (cy (t:=8) (d:=.int .i64 0) rfl (hv))))),fL n [] 0 h⟩)
theorem Jc (j r) (h:tk j=some r):bt aj 102 [.ad 1 (j.map nR)] (.ad 1 (r.map bo)) [.hole]:=by
 refine cc [0] [.tmp 2] Tryz.func102 ZM λb6 aD b8=>aI ?_;refine aI ?_;refine aR aD λ_ fC dS aL=>aI ?_;refine bI dS λjD _ c1 c9 _=>?_;have fL:∀n bH eh,va j n bH eh=some r->dc aj Ow jD (an [(0,.ad 1 (j.map nR)),(3,.int .i64 bH),(9,.h 0 []),(10,.int .i64 (j.length:Int)),(11,.int .i64 eh)]):=by
  refine dp λkl fw bH eh h=>dn c1 λiM dF c8 bj=>aI ?_;refine aR c8 λ_ fK _ cn=>bg h (λe7 h=>?_) λe7 h=>?_
  .refine bf (fK _ (inl ?_));have vo:∀i5 i6 ln,HD (va j kl) j i5 i6 ln=some r->bp aj Ov iM (an [(0,.ad 1 (j.map nR)),(3,.int .i64 i5),(9,.h 0 []),(10,.int .i64 (j.length:Int)),(11,.int .i64 i6),(20,.bool ln)]):=by
    intro i5 i6 ln h;refine fB ?_;exact dF _ (inr ⟨_,cH rfl,fw i5 (i64.wrap (i6+1)) h⟩)
   refine aR c8 λ_ cD c3 _=>bI c3 λ_ gU _ _ _=>?_;obtain⟨aa,eH,h⟩:=aM h;refine db (ab eH (ab (da eH) @BL)) _ ?_;refine db (da eH) _ ?_;refine aI ?_;refine bg h (λjB h=>?_) λjB h=>?_
   .cases h
   .exact bf (gU _ (cD _ (inr ⟨_,cH rfl,vo (i64.wrap (bH+(aa.length:Int))) eh (decide ((i64.wrap (bH+(aa.length:Int)))<0)) h⟩)))
  .refine dk (cn 0 _ (bj 0 _ (c9 _ (fC _ (inl ?_)))));obtain⟨ak,iL,h⟩:=aM h;refine ej (Pn bH _ iL) _ ?_;refine aR aD λ_ mb lO _=>aI ?_;refine bI lO λvp _ ra el _=>?_;have vq:∀n o_ eV eO,u_ j n o_ eV eO=some r->dc aj Ox vp (an [(0,.ad 1 (o_.map r8)),(6,.ad 1 (eV.map bo)),(25,.h 0 []),(26,.int .i64 (j.length:Int)),(27,.int .i64 eO)]):=by
    refine dp λ_ vr o_ eV eO h=>dn ra λ_ k4 mc mF=>aI ?_;refine aR mc λ_ sd _ pa=>bg h (λmh h=>?_) λmh h=>?_
    .refine bf (sd _ (inl (aR mc λ_ ox vt _=>bI vt λ_ q9 _ _ _=>?_)));obtain⟨aL,iw,h⟩:=aM h;obtain⟨Py,mJ,h⟩:=aM h;refine df (cx [(0,.ad 1 (o_.map r8)),(6,.ad 1 (eV.map bo)),(8,.h 0 [Int.toNat eO]),(25,.h 0 []),(26,.int .i64 (j.length:Int)),(27,.int .i64 eO)] (λP a9=>?_) ?_)
     .simp only[a3.down,simprocAttr,iw,da iw,C9,Il,(C_ mJ),BL];exact cq (ab iw (ab (da iw) (ab @C9 (ab @Il (ab (C_ mJ) @BL)))))
     obtain⟨Py,nT,h⟩:=aM h;(try simp only[jW.down,Nat.zero_add,Nat.add_zero,reduceAdd]at nT);refine hH (cx [(0,.ad 1 ((List.set o_ (Int.toNat eO) (true,aL.2)).map r8)),(6,.ad 1 ((eV++aL.2).map bo)),(25,.h 0 []),(26,.int .i64 (j.length:Int)),(27,.int .i64 eO)] (λP a9=>?_) ?_)
     .simp only[a3.down,simprocAttr,OP.down,da iw,(C_ mJ),nT];exact cq (ab OP.down (ab (da iw) (ab (C_ mJ) nT)))
     refine q9 _ (ox _ (inl (wr [(0,.ad 1 ((List.set o_ (Int.toNat eO) (true,aL.2)).map r8)),(6,.ad 1 ((eV++aL.2).map bo)),(25,.h 0 []),(26,.int .i64 (j.length:Int)),(27,.int .i64 (i64.wrap (eO+1)))] ?_)));exact k4 _ (inr ⟨_,cH rfl,vr (List.set o_ (Int.toNat eO) (true,aL.2)) (eV++aL.2) (i64.wrap (eO+1)) h⟩)
    .refine dk (pa 2 _ (mF 2 _ (el _ (mb _ (inl (aI ?_))))));exact ko (aD _ (inl (mA [.ad 1 (eV.map bo)] rfl (by cases gB h;rfl) (by decide) (m3 (lH (m4))))))
   obtain⟨n,h⟩:=ki h;exact kW (inr ⟨_,Ve [0] [] rfl rfl (Vg (t:=0) (d:=.ad 1 (j.map nR)) (bz:=.ad 1 ((List.map (λx=>(false,x)) j).map r8)) rfl rfl (BS C9 _) rfl rfl (by decide) (BE (t:=6) (d:=.ad 1 []) rfl (BE (t:=25) (d:=.h 0 []) rfl (BE (t:=26) (d:=.int .i64 (j.length:Int)) rfl (BE (t:=27) (d:=.int .i64 0) rfl (Vf)))))),vq n (List.map (λx=>(false,x)) j) [] 0 h⟩)
 exact ew h λn h=>fL n 0 0 h
theorem Pz (j J aB r) (h:zP j J aB=some r):bt aj 138 [a4 j,.slice (J.map aQ),.ref (bw aB)] (.ad 2 (r.map aQ)) []:=by
 refine cc [0,1,2] [.tmp 5] Tryz.func138 ZN λb6 aD b8=>aI ?_;obtain⟨aa,bb,h⟩:=aM h;refine ej (As J 0 aB.aE _ bb) _ ?_;exact dX aD [.ad 2 (aa.map aQ)]
theorem PA (j J aB r) (h:zQ j J aB=some r):bt aj 75 [.slice (j.map a0),.ref (.fn 138 [.ref (bw J)]),.ref (a4 aB)] (.ad 1 (r.map bo)) []:=by
 refine cc [0,1,2] [.tmp 4] Tryz.func75 ZO λb6 aD b8=>aI ?_;refine aI ?_;refine aR aD λ_ fC dS _=>aI ?_;refine bI dS λjD _ c1 c9 _=>?_;show bp aj (.loop ?gF) _ _;have fL:∀n bX fi,xe j J aB n bX fi=some r->dc aj ?gF jD (an [(1,.ref (.fn 138 [.ref (bw J)])),(2,.ref (a4 aB)),(5,.ad 1 (bX.map bo)),(8,.slice (j.map a0)),(9,.int .i64 (j.length:Int)),(10,.int .i64 fi)]):=by
  refine dp λ_ fw bX fi h=>dn c1 λ_ dF c8 bj=>aI ?_;refine aR c8 λ_ fK _ cn=>bg h (λe7 h=>?_) λe7 h=>?_
  .refine bf (fK _ (inl (aR c8 λ_ cD c3 _=>bI c3 λ_ dP _ _ _=>?_)));obtain⟨aa,eB,h⟩:=aM h;refine db eB _ ?_;obtain⟨ak,ez,h⟩:=aM h;obtain⟨Af,c4,h⟩:=aM h;(try simp only[kI.down,Nat.zero_add,Nat.add_zero,reduceAdd]at c4);refine hH (cx [(1,.ref (.fn 138 [.ref (bw J)])),(2,.ref (a4 aB)),(5,.ad 1 ((bX++[ak]).map bo)),(8,.slice (j.map a0)),(9,.int .i64 (j.length:Int)),(10,.int .i64 fi)] (λP a9=>?_) ?_)
   ·(try simp only[a3.down,simprocAttr,iv.down,cP,bM,c4]);refine dv (Pz aB aa J _ ez) (hK:= ?_);simp only[a3.down,simprocAttr,iv.down,cP,bM,c4];(try simp only[fm.down,simprocAttr,iv.down,cP,bM,c4]at a9⊢);exact a9
   refine dP _ (cD _ (inl (wr [(1,.ref (.fn 138 [.ref (bw J)])),(2,.ref (a4 aB)),(5,.ad 1 ((bX++[ak]).map bo)),(8,.slice (j.map a0)),(9,.int .i64 (j.length:Int)),(10,.int .i64 (i64.wrap (fi+1)))] ?_)));exact dF _ (inr ⟨_,cH rfl,fw (bX++[ak]) (i64.wrap (fi+1)) h⟩)
  .exact dk (cn 0 _ (bj 0 _ (c9 _ (fC _ (inl (bl aD [.ad 1 (bX.map bo)]))))))
 obtain⟨n,h⟩:=ki h;exact kW (inr ⟨_,ht [] rfl (cy (t:=1) (d:=.ref (.fn 138 [.ref (bw J)])) rfl (cy (t:=2) (d:=.ref (a4 aB)) rfl (hg (t:=5) (d:=.ah) (bz:=.ad 1 []) rfl rfl (.fJ _) (by decide) (cy (t:=8) (d:=.slice (j.map a0)) rfl (cy (t:=9) (d:=.int .i64 (j.length:Int)) rfl (cy (t:=10) (d:=.int .i64 0) rfl (hv))))))),fL n [] 0 h⟩)
theorem acp (j J r) (h:CJ j J=some r):bt aj 35 [bw j,.fn 138 [.ref (bw J)]] (eF r) []:=by
 refine cc [0,1] [.cell 4 29] Tryz.func35 ZQ λb6 aD b8=>db (ab @m5 (show∀s,h8 s (.fn 138 [.ref (.agg [.int .i64 J.aE,.slice (J.Start.map ax),.slice (J.aU.map a4)])])=some (.ref (.fn 138 [.ref (.agg [.int .i64 J.aE,.slice (J.Start.map ax),.slice (J.aU.map a4)])]),s)from λs=>rfl)) _ ?_;obtain⟨aa,bb,h⟩:=aM h;refine ma (ab (@lG aj 29 [(2,0),(22,1),(27,2)] [(.int .i64 0),.ah,.ah] rfl rfl (by kernel_rfl)) (ab @i2 (ab @i3 (ab @dV (ab @fl (ab @List.nil_append.{0} @List.cons_append.{0})))))) (tB j.Start _ bb) _ ?_;refine aR aD λ_ gp cG a2=>aI ?_;refine bI cG λiM _ c8 eZ bj=>?_;have fL:∀n bX fj,xf j J aa n bX fj=some r->dc aj Oy iM (an [(3,.ref (.fn 138 [.ref (bw J)])),(4,.ai (.agg [.int .i64 0,.ah,.ah])),(5,.ai (.agg [.int .i64 j.aE,.ad 1 (aa.map ax),.ad 5 (bX.map b9)])),(16,.slice (j.aU.map a4)),(17,.int .i64 (j.aU.length:Int)),(18,.int .i64 fj)]):=by
  refine dp λ_ fw bX fj h=>dn c8 λ_ eG eR bq=>aI ?_;refine aR eR λ_ dQ _ cC=>bg h (λh4 h=>?_) λh4 h=>?_
  .refine bf (dQ _ (inl (aR eR λ_ dP gz _=>bI gz λ_ gU _ _ _=>?_)));obtain⟨ak,eH,h⟩:=aM h;refine db eH _ ?_;refine aI ?_;obtain⟨aL,f_,h⟩:=aM h;obtain⟨a2,ga,h⟩:=aM h;obtain⟨aY,hD,h⟩:=aM h;obtain⟨bj,iL,h⟩:=aM h;obtain⟨Jb,eI,h⟩:=aM h;(try simp only[kI.down,Nat.zero_add,Nat.add_zero,reduceAdd]at eI);refine sZ rfl (hZ [(3,.ref (.fn 138 [.ref (bw J)])),(4,.ai (.agg [.int .i64 0,.ah,.ah])),(5,.ai (.agg [.int .i64 j.aE,.ad 1 (aa.map ax),.ad 5 ((bX++[(aN.mk aL a2 ak.Name aY bj)]).map b9)])),(16,.slice (j.aU.map a4)),(17,.int .i64 (j.aU.length:Int)),(18,.int .i64 fj)] (λP a9=>?_) ?_)
   ·(try simp only[b2.down,simprocAttr,jX.down,cW,bM,cP,eI]);refine ev (tB ak.a5 _ f_) (hK:= ?_);simp only[b2.down,simprocAttr,jX.down,cW,bM,cP,eI];refine ev (Pz ak ak.Guard J _ ga) (hK:= ?_);simp only[b2.down,simprocAttr,jX.down,cW,bM,cP,eI];refine ev (PA ak.aW J ak _ hD) rfl rfl (by simp only[b2.down,simprocAttr,tt.down,cW,bM,cP,eI]<;>rfl) rfl (inr (iR (λ_=>pc _) _)) ?_;simp only[b2.down,simprocAttr,jX.down,cW,bM,cP,eI];refine ev (PA ak.Next J ak _ iL) rfl rfl (by simp only[b2.down,simprocAttr,tt.down,cW,bM,cP,eI]<;>rfl) rfl (inr (iR (λ_=>pc _) _)) ?_;simp only[b2.down,simprocAttr,jX.down,cW,bM,cP,eI];refine⟨gJ (by kernel_rfl),?_⟩;(try simp only[fm.down,simprocAttr,jX.down,cW,bM,cP,eI]at a9⊢);exact a9
   refine gU _ (dP _ (inl (wr [(3,.ref (.fn 138 [.ref (bw J)])),(4,.ai (.agg [.int .i64 0,.ah,.ah])),(5,.ai (.agg [.int .i64 j.aE,.ad 1 (aa.map ax),.ad 5 ((bX++[(aN.mk aL a2 ak.Name aY bj)]).map b9)])),(16,.slice (j.aU.map a4)),(17,.int .i64 (j.aU.length:Int)),(18,.int .i64 (i64.wrap (fj+1)))] ?_)));exact eG _ (inr ⟨_,cH rfl,fw (bX++[(aN.mk aL a2 ak.Name aY bj)]) (i64.wrap (fj+1)) h⟩)
  .exact dk (cC 0 _ (bq 0 _ (eZ _ (gp _ (inl (bl aD [eF (a8.mk j.aE aa bX)]))))))
 obtain⟨n,h⟩:=ki h;exact kW (inr ⟨_,ht [] rfl (cy (t:=3) (d:=.ref (.fn 138 [.ref (bw J)])) rfl (cy (t:=4) (d:=.ai (.agg [.int .i64 0,.ah,.ah])) rfl (hg (t:=5) (d:=.ai (.agg [.int .i64 j.aE,.ad 1 (aa.map ax),.ah])) (bz:=.ai (.agg [.int .i64 j.aE,.ad 1 (aa.map ax),.ad 5 []])) rfl rfl (.ai (.agg (.cons (.refl _) (.cons (.refl _) (.cons (.fJ _) (.nil)))))) (by decide) (cy (t:=16) (d:=.slice (j.aU.map a4)) rfl (cy (t:=17) (d:=.int .i64 (j.aU.length:Int)) rfl (cy (t:=18) (d:=.int .i64 0) rfl (hv))))))),fL n [] 0 h⟩)
end Go.Proofs.YtndfcecbamffaaaGreat
