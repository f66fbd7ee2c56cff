/- Part of a proof that a law returns true for every input. No condition. -/
import Derived.Test.YtpddiknnnoomoaaSl
namespace Go.Proofs.Ytpddiknnnoomoaa
open Go Go.bV Go.eF
set_option maxRecDepth 100000
set_option maxHeartbeats 1400000
set_option linter.unusedSimpArgs false
set_option linter.unusedVariables false
theorem fm (fx:List Nat) (dt:List ResultVar) {f:FuncId} {fn:Func} {c:Code} {cX:ah} {ins outs:List j} {r:j} (bk:a1.P.funcs[f]? =some fn) (R:cB ⟨fn.ntmps,fx⟩ c=some cX.strip)
 (vz:∀Q:Exit→af→Prop,(∀s,dZ (bV.Ends a1 fx dt r outs) s→Q .ret s)→(∀s,dZ (bV.Ends a1 fx dt r outs) s→Q .normal s)→b7 a1 cX Q (J (num 0 ins))) (I:fn.body=some c:=by rfl) (ht:(fn.name== "runtime.NumGoroutine")=false:=by rfl) (aV:ins.length≤fn.ntmps:=by exact Nat.le_of_ble_eq_true rfl) (dN:fn.results.toList=dt:=by rfl) (an:cX.plain=true:=by kernel_rfl):cb a1 f ins r outs:=
 cb.AZ HE dt (num 0 ins) bk I ht R aV dN rfl vz an
def gL:=PLift.up (And.intro @k9 (And.intro @dF (And.intro @A6 (And.intro @hB (And.intro @k_ @aM.eq_1)))))
theorem ws {Q:Exit→af→Prop} {l:List (Nat×j)} {ros:List bm} {k:List Nat} {b:ah} (cR:List (Nat×j)) (ai:b7 a1 b Q (J cR)) (h:∀P:List (Nat×j)→Prop,P cR→bF a1 (J l) ros none (fun _ s=>P (fS k s)):=by
 intro P aJ
 simp only[bt.down,simprocAttr,gL.down]
 (try simp only[b8.down,simprocAttr,gL.down]at aJ⊢)
 exact aJ):b7 a1 (.seq (.db ros (some k)) b) Q (J l):=
 eg (dn cR (h) ai)
theorem kr {Q:Exit→af→Prop} {l:List (Nat×j)} {ros:List bm} {k:List Nat} {b:ah} {g:FuncId} {ds:List j} {r:j} (ok:cb a1 g ds r []) (cR:List (Nat×j)) (ai:b7 a1 b Q (J cR)) (h:cb a1 g ds r []→∀P:List (Nat×j)→Prop,P cR→bF a1 (J l) ros none (fun _ s=>P (fS k s)):=by
 intro n8 P aJ
 (try simp only[bt.down,simprocAttr,gL.down])
 refine gw n8 rfl rfl rfl rfl (.inl (by rfl)) ?_
 simp only[bt.down,simprocAttr,gL.down]
 (try simp only[b8.down,simprocAttr,gL.down]at aJ⊢)
 exact aJ):b7 a1 (.seq (.db ros (some k)) b) Q (J l):=
 eg (dn cR (h ok) ai)
theorem eP {F:Prop} (aR:F) {Q:Exit→af→Prop} {l:List (Nat×j)} {ros:List bm} {k:List Nat} {b:ah} (cR:List (Nat×j)) (ai:b7 a1 b Q (J cR)) (h:F→∀P:List (Nat×j)→Prop,P cR→bF a1 (J l) ros none (fun _ s=>P (fS k s)):=by
 intro aR P aJ
 simp only[bt.down,simprocAttr,gL.down,aR]
 (try simp only[b8.down,simprocAttr,gL.down,aR]at aJ⊢)
 exact aJ):b7 a1 (.seq (.db ros (some k)) b) Q (J l):=
 eg (dn cR (h aR) ai)
theorem wV {F:Prop} (aR:F) {Q:Exit→af→Prop} {l:List (Nat×j)} {ros:List bm} {k:List Nat} {b:ah} {g:FuncId} {ds:List j} {r:j} (ok:cb a1 g ds r []) (cR:List (Nat×j)) (ai:b7 a1 b Q (J cR)) (h:cb a1 g ds r []→F→∀P:List (Nat×j)→Prop,P cR→bF a1 (J l) ros none (fun _ s=>P (fS k s)):=by
 intro n8 aR P aJ
 (try simp only[bt.down,simprocAttr,gL.down,aR])
 refine gw n8 rfl rfl rfl rfl (.inl (by rfl)) ?_
 simp only[bt.down,simprocAttr,gL.down,aR]
 (try simp only[b8.down,simprocAttr,gL.down,aR]at aJ⊢)
 exact aJ):b7 a1 (.seq (.db ros (some k)) b) Q (J l):=
 eg (dn cR (h ok aR) ai)
theorem wr {Q:Exit→af→Prop} {l:List (Nat×j)} {ros:List bm} {k:List Nat} (cR:List (Nat×j)) (ai:Q .normal (J cR)) (h:∀P:List (Nat×j)→Prop,P cR→bF a1 (J l) ros none (fun _ s=>P (fS k s)):=by
 intro P aJ
 simp only[bt.down,simprocAttr,gL.down]
 (try simp only[b8.down,simprocAttr,gL.down]at aJ⊢)
 exact aJ):b7 a1 (.db ros (some k)) Q (J l):=
 mM (dn cR (h) ai)
theorem Qg {Q:Exit→af→Prop} {l:List (Nat×j)} {ros:List bm} {k:List Nat} {g:FuncId} {ds:List j} {r:j} (ok:cb a1 g ds r []) (cR:List (Nat×j)) (ai:Q .normal (J cR)) (h:cb a1 g ds r []→∀P:List (Nat×j)→Prop,P cR→bF a1 (J l) ros none (fun _ s=>P (fS k s)):=by
 intro n8 P aJ
 (try simp only[bt.down,simprocAttr,gL.down])
 refine gw n8 rfl rfl rfl rfl (.inl (by rfl)) ?_
 simp only[bt.down,simprocAttr,gL.down]
 (try simp only[b8.down,simprocAttr,gL.down]at aJ⊢)
 exact aJ):b7 a1 (.db ros (some k)) Q (J l):=
 mM (dn cR (h ok) ai)
theorem NF {F:Prop} (aR:F) {Q:Exit→af→Prop} {l:List (Nat×j)} {ros:List bm} {k:List Nat} (cR:List (Nat×j)) (ai:Q .normal (J cR)) (h:F→∀P:List (Nat×j)→Prop,P cR→bF a1 (J l) ros none (fun _ s=>P (fS k s)):=by
 intro aR P aJ
 simp only[bt.down,simprocAttr,gL.down,aR]
 (try simp only[b8.down,simprocAttr,gL.down,aR]at aJ⊢)
 exact aJ):b7 a1 (.db ros (some k)) Q (J l):=
 mM (dn cR (h aR) ai)
theorem Qh {F:Prop} (aR:F) {Q:Exit→af→Prop} {l:List (Nat×j)} {ros:List bm} {k:List Nat} {g:FuncId} {ds:List j} {r:j} (ok:cb a1 g ds r []) (cR:List (Nat×j)) (ai:Q .normal (J cR)) (h:cb a1 g ds r []→F→∀P:List (Nat×j)→Prop,P cR→bF a1 (J l) ros none (fun _ s=>P (fS k s)):=by
 intro n8 aR P aJ
 (try simp only[bt.down,simprocAttr,gL.down,aR])
 refine gw n8 rfl rfl rfl rfl (.inl (by rfl)) ?_
 simp only[bt.down,simprocAttr,gL.down,aR]
 (try simp only[b8.down,simprocAttr,gL.down,aR]at aJ⊢)
 exact aJ):b7 a1 (.db ros (some k)) Q (J l):=
 mM (dn cR (h ok aR) ai)
def ft:=PLift.up (And.intro @dF (And.intro @A6 (And.intro @hB @aM.eq_1)))
theorem wW (a0:UInt8) (r:Bool) (h:rf a0=some r):cb a1 75 [.int .u8 (a0.toNat:Int)] (.bool r) []:=by
 refine fm [0] [.tmp 2] Try.func75 HK (fun fo bC fc=> ?_)
 refine ws _ ?_
 refine eg (dn [(2,.bool ((decide (97≤(a0.toNat:Int)))&&(decide ((a0.toNat:Int)≤122))))] (fun P aJ=> ?_) ?_)
 ·rcases Bool.eq_false_or_eq_true (decide (97≤(a0.toNat:Int)))with ee|ee
  ·simp only[bt.down,simprocAttr,ee]
   (try simp only[b8.down,simprocAttr,ee]at aJ⊢);exact aJ
  ·simp only[bt.down,simprocAttr,ee]
   (try simp only[b8.down,simprocAttr,ee]at aJ⊢);exact aJ
 exact ct (bC _ (.inl (cA [.bool ((decide (97≤(a0.toNat:Int)))&&(decide ((a0.toNat:Int)≤122)))])))
theorem NG (a0:UInt8) (r:Bool) (h:wB a0=some r):cb a1 76 [.int .u8 (a0.toNat:Int)] (.bool r) []:=by
 refine fm [0] [.tmp 2] Try.func76 HN (fun fo bC fc=> ?_)
 refine ws _ ?_
 refine eg (dn [(2,.bool ((decide (48≤(a0.toNat:Int)))&&(decide ((a0.toNat:Int)≤57))))] (fun P aJ=> ?_) ?_)
 ·rcases Bool.eq_false_or_eq_true (decide (48≤(a0.toNat:Int)))with ee|ee
  ·simp only[bt.down,simprocAttr,ee]
   (try simp only[b8.down,simprocAttr,ee]at aJ⊢);exact aJ
  ·simp only[bt.down,simprocAttr,ee]
   (try simp only[b8.down,simprocAttr,ee]at aJ⊢);exact aJ
 exact ct (bC _ (.inl (cA [.bool ((decide (48≤(a0.toNat:Int)))&&(decide ((a0.toNat:Int)≤57)))])))
theorem BH (a0:List UInt8) (r:Bool) (h:sY a0=some r):cb a1 39 [.str a0] (.bool r) []:=by
 refine fm [0] [.tmp 2] Try.func39 H0 (fun fo bC fc=> ?_)
 refine ws _ ?_
 refine ch bC (fun iQ eX cw a8=> ?_)
 rcases jV h with⟨dL,h⟩|⟨dL,h⟩
 ·refine eP dL _ ?_
  refine q8 rfl ?_
  refine ws _ ?_
  exact ct (cw _ (.inl (cA [.bool false])))
 ·rcases jV h with⟨kS,h⟩|⟨kS,h⟩
  ·refine eP (And.intro dL kS) _ ?_
   refine q8 rfl ?_
   refine ws _ ?_
   exact ct (cw _ (.inl (cA [.bool false])))
  ·obtain⟨aU,iE,h⟩:=bW h
   obtain⟨a8,h3,h⟩:=bW h
   refine eg (dn [(0,.str a0),(16,.bool (!a8))] (fun P aJ=> ?_) ?_)
   ·simp only[bt.down,simprocAttr,dF,dL,kS,iE]
    refine sP (wW aU _ h3) rfl rfl rfl rfl (.inl (by rfl)) ?_
    simp only[bt.down,simprocAttr,dF,dL,kS,iE]
    (try simp only[b8.down,simprocAttr,dL,kS,iE]at aJ⊢);exact aJ
   refine cN h (fun hT h=> ?_) (fun hT h=> ?_)
   ·refine ws _ ?_
    exact ct (cw _ (.inl (cA [.bool false])))
   ·refine cK (eX _ (.inl ?_))
    refine ch bC (fun BI rC rD BJ=> ?_)
    refine ws _ ?_
    refine eZ rD (fun pW l3 n9 mW rE=> ?_)
    have rF:∀(n:Nat) (eG:Int),pE a0 n eG=some r→gv a1 Ba pW (J [(0,.str a0),(3,.int .i64 eG)]):=by
     intro ks
     induction ks with
     |zero=>intro eG h;cases(show none=some r from h)
     |succ ks pX=>
      intro eG h
      replace h:sX (pE a0 ks) a0 eG=some r:=h
      refine iq n9 (fun tt n15 mX pY=> ?_)
      refine ch mX (fun BK n16 wX tu=> ?_)
      refine ws _ ?_
      refine cN h (fun wY h=> ?_) (fun wY h=> ?_)
      ·refine cK (n16 _ (.inl ?_))
       refine ch mX (fun BL n19 rG BM=> ?_)
       refine eZ rG (fun NH n20 wZ BN NI=> ?_)
       obtain⟨bQ,kt,h⟩:=bW h
       obtain⟨cC,BO,h⟩:=bW h
       rcases jV h with⟨lk,h⟩|⟨lk,h⟩
       ·obtain⟨cO,l4,h⟩:=bW h
        refine eg (dn [(0,.str a0),(3,.int .i64 eG),(34,.bool (!cO))] (fun P aJ=> ?_) ?_)
        ·simp only[bt.down,simprocAttr,dF,kt,(pB lk)]
         refine gw (wW bQ _ BO) rfl rfl rfl rfl (.inl (by rfl)) ?_
         simp only[bt.down,simprocAttr,dF,kt,(pB lk)]
         refine sP (NG bQ _ l4) rfl rfl rfl rfl (.inl (by rfl)) ?_
         simp only[bt.down,simprocAttr,dF,kt,(pB lk)]
         (try simp only[b8.down,simprocAttr,kt,(pB lk)]at aJ⊢);exact aJ
        refine cN h (fun w1 h=> ?_) (fun w1 h=> ?_)
        ·refine ws _ ?_
         exact ct (wZ _ (.inl (cA [.bool false])))
        ·refine cK (n20 _ (n19 _ (.inl ?_)))
         refine wr _ ?_
         exact n15 _ (.inr ⟨_,dc rfl,pX (IntKind.i64.wrap (eG+1)) h⟩)
       ·refine wV (And.intro kt (wx lk)) (wW bQ _ BO) _ ?_
        refine sM rfl ?_
        refine cK (n20 _ (n19 _ (.inl ?_)))
        refine wr _ ?_
        exact n15 _ (.inr ⟨_,dc rfl,pX (IntKind.i64.wrap (eG+1)) h⟩)
      ·refine hx (tu 0 _ (pY 0 _ (mW _ (rC _ (.inl ?_)))))
       refine ws _ ?_
       exact ct (bC _ (.inl (cA [.bool true])))
    obtain⟨n,h⟩:=hV h
    exact ik (.inr ⟨_,dc rfl,rF n 0 h⟩)
theorem NJ (a0:List UInt8) (aF:Int) (r:Int) (h:pI a0 aF=some r):cb a1 77 [.str a0,.int .i64 aF] (.int .i64 r) []:=by
 refine fm [0] [.tmp 4] Try.func77 Ih (fun fo bC fc=> ?_)
 refine ws _ ?_
 refine ch bC (fun iQ eX cw a8=> ?_)
 refine ws _ ?_
 refine eZ cw (fun ll l5 fq dL cC=> ?_)
 have n_:∀(n:Nat) (cW:Int) (cG:Int),hP a0 n cW cG=some r→gv a1 Bd ll (J [(0,.str a0),(1,.int .i64 cW),(5,.int .i64 cG)]):=by
  intro e6
  induction e6 with
  |zero=>intro cW cG h;cases(show none=some r from h)
  |succ e6 mY=>
   intro cW cG h
   replace h:rj (hP a0 e6) a0 cW cG=some r:=h
   refine iq fq (fun l6 ku gk cO=> ?_)
   refine ch gk (fun l7 gz gO cu=> ?_)
   refine ws _ ?_
   refine cN h (fun h8 h=> ?_) (fun h8 h=> ?_)
   ·refine cK (gz _ (.inl ?_))
    refine ch gk (fun rH jQ je jO=> ?_)
    refine eZ je (fun l8 ha iw hT ln=> ?_)
    obtain⟨aU,jq,h⟩:=bW h
    refine eP (And.intro jq (And.intro (@hy a1 5 2 .i64 rfl rfl) (@AV .i64 .u64 8 256 (by decide) (by decide)))) [(0,.str a0),(1,.int .i64 (bitsOf .xor .i64 cW (IntKind.i64.wrap ((aU.toNat:Int)*256)))),(5,.int .i64 cG)] ?_
    refine ws _ ?_
    refine eZ iw (fun pW l3 n9 mW rE=> ?_)
    have NK:∀(n:Nat) (hO:Int) (ir:Int) (iV:Int),la (hP a0 e6) a0 n hO ir iV=some r→gv a1 Bc pW (J [(0,.str a0),(1,.int .i64 hO),(5,.int .i64 ir),(6,.int .i64 iV)]):=by
     intro tv
     induction tv with
     |zero=>intro hO ir iV h;cases(show none=some r from h)
     |succ tv NL=>
      intro hO ir iV h
      replace h:ri (hP a0 e6) (la (hP a0 e6) a0 tv) a0 hO ir iV=some r:=h
      refine iq n9 (fun tt n15 mX pY=> ?_)
      refine ch mX (fun BK n16 wX tu=> ?_)
      refine ws _ ?_
      refine cN h (fun wY h=> ?_) (fun wY h=> ?_)
      ·refine cK (n16 _ (.inl ?_))
       have BP:∀(pF:Int) (pG:Int) (pH:Int),rh (hP a0 e6) (la (hP a0 e6) a0 tv) a0 pF pG pH=some r→b7 a1 Bb tt (J [(0,.str a0),(1,.int .i64 pF),(5,.int .i64 pG),(6,.int .i64 pH)]):=by
        intro pF pG pH h
        refine wr _ ?_
        exact n15 _ (.inr ⟨_,dc rfl,NL pF pG (IntKind.i64.wrap (pH+1)) h⟩)
       refine ch mX (fun BL n19 rG BM=> ?_)
       refine eZ rG (fun BQ n21 BR jR NM=> ?_)
       refine eP (@AV .i64 .u64 1 2 (by decide) (by decide)) [(0,.str a0),(1,.int .i64 (IntKind.i64.wrap (hO*2))),(5,.int .i64 ir),(6,.int .i64 iV)] ?_
       refine ws _ ?_
       refine cN h (fun lk h=> ?_) (fun lk h=> ?_)
       ·refine wr _ ?_
        exact n21 _ (n19 _ (.inr ⟨_,dc rfl,BP (bitsOf .xor .i64 (bitsOf .and .i64 (IntKind.i64.wrap (hO*2)) 65535) 4129) ir iV h⟩))
       ·exact cK (n21 _ (n19 _ (.inr ⟨_,dc rfl,BP (IntKind.i64.wrap (hO*2)) ir iV h⟩)))
      ·refine hx (tu 2 _ (pY 2 _ (mW _ (ha _ (jQ _ (.inl ?_))))))
       refine wr _ ?_
       exact ku _ (.inr ⟨_,dc rfl,mY hO (IntKind.i64.wrap (ir+1)) h⟩)
    obtain⟨n,h⟩:=hV h
    exact ik (.inr ⟨_,dc rfl,NK n (bitsOf .xor .i64 cW (IntKind.i64.wrap ((aU.toNat:Int)*256))) cG 0 h⟩)
   ·refine hx (cu 0 _ (cO 0 _ (dL _ (eX _ (.inl ?_)))))
    refine ws _ ?_
    exact ct (bC _ (.inl (cA [.int .i64 cW])))
 obtain⟨n,h⟩:=hV h
 exact ik (.inr ⟨_,dc rfl,n_ n aF 0 h⟩)
theorem BS (a0:Int) (aF:Int) (cj:Int) (r:Bool) (h:s0 a0 aF cj=some r):cb a1 78 [.int .i64 a0,.int .i64 aF,.int .i64 cj] (.bool r) []:=by
 refine fm [0,1,2] [.tmp 6] Try.func78 Ik (fun fo bC fc=> ?_)
 refine ws _ ?_
 refine eg (dn [(6,.bool ((decide (aF≤a0))&&(decide (a0≤cj))))] (fun P aJ=> ?_) ?_)
 ·rcases Bool.eq_false_or_eq_true (decide (aF≤a0))with ee|ee
  ·simp only[bt.down,simprocAttr,ee]
   (try simp only[b8.down,simprocAttr,ee]at aJ⊢);exact aJ
  ·simp only[bt.down,simprocAttr,ee]
   (try simp only[b8.down,simprocAttr,ee]at aJ⊢);exact aJ
 exact ct (bC _ (.inl (cA [.bool ((decide (aF≤a0))&&(decide (a0≤cj)))])))
theorem NN (a0:List UInt8) (r:Int×Int) (h:rk a0=some r):cb a1 40 [.str a0] (.tuple [.int .i64 r.1,.int .i64 r.2]) []:=by
 refine fm [0] [.tmp 2,.tmp 3] Try.func40 Iz (fun fo bC fc=> ?_)
 refine ws _ ?_
 refine ws _ ?_
 refine ch bC (fun NO w2 gD bQ=> ?_)
 refine ws _ ?_
 refine cN h (fun jt h=> ?_) (fun jt h=> ?_)
 ·refine ws _ ?_
  exact ct (gD _ (.inl (cA [.int .i64 0,.int .i64 11])))
 ·refine cK (w2 _ (.inl ?_))
  refine ch bC (fun mZ ix iD eH=> ?_)
  obtain⟨aU,h3,h⟩:=bW h
  obtain⟨a8,j5,h⟩:=bW h
  obtain⟨bQ,ns,h⟩:=bW h
  obtain⟨cC,jq,h⟩:=bW h
  refine kk rfl (i_ [(0,.str a0),(4,.int .i64 (a0.length:Int)),(27,.bool (a8 !=(IntKind.i64.wrap ((IntKind.i64.wrap ((bQ.toNat:Int)*256))+(cC.toNat:Int)))))] (fun P aJ=> ?_) ?_)
  ·simp only[gI.down,simprocAttr,dF,h3,ns, @hy a1 5 2 .i64 rfl rfl,jq]
   refine pg (NJ aU 65535 _ j5) rfl rfl rfl rfl (.inl (by rfl)) ?_
   simp only[gI.down,simprocAttr,dF,h3,ns, @hy a1 5 2 .i64 rfl rfl,jq]
   refine⟨jb (by kernel_rfl),?_⟩
   (try simp only[b8.down,simprocAttr,h3,ns, @hy a1 5 2 .i64 rfl rfl,jq]at aJ⊢);exact aJ
  refine cN h (fun tw h=> ?_) (fun tw h=> ?_)
  ·refine ws _ ?_
   exact ct (iD _ (.inl (cA [.int .i64 0,.int .i64 10])))
  ·refine cK (ix _ (.inl ?_))
   obtain⟨cO,iy,h⟩:=bW h
   refine eP (And.intro iy (@hy a1 5 2 .i64 rfl rfl)) _ ?_
   refine ch bC (fun Qi n17 NP Qj=> ?_)
   obtain⟨cu,lo,h⟩:=bW h
   refine eg (dn [(5,.int .i64 (cO.toNat:Int)),(37,.bool ((!cu)||(decide (6000<(a0.length:Int)))))] (fun P aJ=> ?_) ?_)
   ·rcases Bool.eq_false_or_eq_true (cu)with oa|oa
    ·simp only[bt.down,simprocAttr,oa]
     refine gw (BS (cO.toNat:Int) 1 3 _ lo) rfl rfl rfl rfl (.inl (by rfl)) ?_
     simp only[bt.down,simprocAttr,oa]
     (try simp only[b8.down,simprocAttr,oa]at aJ⊢);exact aJ
    ·simp only[bt.down,simprocAttr,oa]
     refine gw (BS (cO.toNat:Int) 1 3 _ lo) rfl rfl rfl rfl (.inl (by rfl)) ?_
     simp only[bt.down,simprocAttr,oa]
     (try simp only[b8.down,simprocAttr,oa]at aJ⊢);exact aJ
   refine cN h (fun jR h=> ?_) (fun jR h=> ?_)
   ·refine ws _ ?_
    exact ct (NP _ (.inl (cA [.int .i64 0,.int .i64 9])))
   ·refine cK (n17 _ (.inl ?_))
    refine ws _ ?_
    exact ct (bC _ (.inl (cA [.int .i64 (cO.toNat:Int),.int .i64 0])))
theorem NQ (a0:List UInt8) (aF:Int) (r:aP×Int×Bool) (h:s3 a0 aF=some r):cb a1 30 [.str a0,.int .i64 aF] (.tuple [aM r.1,.int .i64 r.2.1,.bool r.2.2]) []:=by
 refine fm [0,1] [.cell 4 35,.tmp 5,.tmp 6] Try.func30 IY (fun fo bC fc=> ?_)
 refine ws _ ?_
 refine ch bC (fun iQ eX cw a8=> ?_)
 rcases jV h with⟨dL,h⟩|⟨dL,h⟩
 ·refine eP dL _ ?_
  refine q8 rfl ?_
  refine eP (show∀s,cL a1 s 35 []=some (.agg [.str ([]:List UInt8),.str ([]:List UInt8)],s)from fun s=>by kernel_rfl) _ ?_
  exact ct (cw _ (.inl (cA [aM (aP.mk ([]:List UInt8) ([]:List UInt8)),.int .i64 aF,.bool false])))
 ·obtain⟨aU,bl,h⟩:=bW h
  refine eP (And.intro dL bl) _ ?_
  refine cN h (fun uH h=> ?_) (fun uH h=> ?_)
  ·refine eP (show∀s,cL a1 s 35 []=some (.agg [.str ([]:List UInt8),.str ([]:List UInt8)],s)from fun s=>by kernel_rfl) _ ?_
   exact ct (cw _ (.inl (cA [aM (aP.mk ([]:List UInt8) ([]:List UInt8)),.int .i64 aF,.bool false])))
  ·refine cK (eX _ (.inl ?_))
   obtain⟨a8,j5,h⟩:=bW h
   refine eP (And.intro j5 (@hy a1 5 3 .i64 rfl rfl)) _ ?_
   refine ws _ ?_
   refine ch bC (fun BI rC rD BJ=> ?_)
   refine eg (dn [(0,.str a0),(1,.int .i64 aF),(4,.bc (.agg [.str ([]:List UInt8),.str ([]:List UInt8)])),(7,.int .i64 (a8.toNat:Int)),(8,.int .i64 (IntKind.i64.wrap (aF+2))),(43,.bool ((decide (10<(a8.toNat:Int)))||(decide ((a0.length:Int)<(IntKind.i64.wrap ((IntKind.i64.wrap ((IntKind.i64.wrap (aF+2))+(a8.toNat:Int)))+2))))))] (fun P aJ=> ?_) ?_)
   ·rcases Bool.eq_false_or_eq_true (decide (10<(a8.toNat:Int)))with kv|kv
    ·simp only[bt.down,simprocAttr,dF,kv]
     (try simp only[b8.down,simprocAttr,kv]at aJ⊢);exact aJ
    ·simp only[bt.down,simprocAttr,dF,kv]
     (try simp only[b8.down,simprocAttr,kv]at aJ⊢);exact aJ
   refine cN h (fun rI h=> ?_) (fun rI h=> ?_)
   ·refine eP (show∀s,cL a1 s 35 []=some (.agg [.str ([]:List UInt8),.str ([]:List UInt8)],s)from fun s=>by kernel_rfl) _ ?_
    exact ct (rD _ (.inl (cA [aM (aP.mk ([]:List UInt8) ([]:List UInt8)),.int .i64 aF,.bool false])))
   ·refine cK (rC _ (.inl ?_))
    obtain⟨bQ,kx,h⟩:=bW h
    refine eP (And.intro kx (show∀s,cL a1 s 35 [(0,.str bQ)]=some (.agg [.str bQ,.str ([]:List UInt8)],s)from fun s=>by kernel_rfl)) _ ?_
    refine ws _ ?_
    obtain⟨cC,m0,h⟩:=bW h
    obtain⟨cO,kt,h⟩:=bW h
    refine kk rfl (i_ [(0,.str a0),(1,.int .i64 aF),(4,.bc (.agg [.str ([]:List UInt8),.str ([]:List UInt8)])),(8,.int .i64 (IntKind.i64.wrap ((IntKind.i64.wrap (aF+2))+(a8.toNat:Int)))),(9,.bc (.agg [.str bQ,.str ([]:List UInt8)])),(10,.int .i64 (IntKind.i64.wrap ((IntKind.i64.wrap ((cC.toNat:Int)*256))+(cO.toNat:Int))))] (fun P aJ=> ?_) ?_)
    ·simp only[gI.down,simprocAttr,dF,m0, @hy a1 5 3 .i64 rfl rfl,kt]
     refine⟨jb (by kernel_rfl),?_⟩
     (try simp only[b8.down,simprocAttr,m0, @hy a1 5 3 .i64 rfl rfl,kt]at aJ⊢);exact aJ
    refine ws _ ?_
    refine ch bC (fun BT n24 w3 tx=> ?_)
    obtain⟨cu,BU,h⟩:=bW h
    refine eg (dn [(0,.str a0),(1,.int .i64 aF),(4,.bc (.agg [.str ([]:List UInt8),.str ([]:List UInt8)])),(8,.int .i64 (IntKind.i64.wrap ((IntKind.i64.wrap ((IntKind.i64.wrap (aF+2))+(a8.toNat:Int)))+2))),(9,.bc (.agg [.str bQ,.str ([]:List UInt8)])),(10,.int .i64 (IntKind.i64.wrap ((IntKind.i64.wrap ((cC.toNat:Int)*256))+(cO.toNat:Int)))),(80,.bool ((!cu)||(decide ((a0.length:Int)<(IntKind.i64.wrap ((IntKind.i64.wrap ((IntKind.i64.wrap ((IntKind.i64.wrap (aF+2))+(a8.toNat:Int)))+2))+(IntKind.i64.wrap ((IntKind.i64.wrap ((cC.toNat:Int)*256))+(cO.toNat:Int)))))))))] (fun P aJ=> ?_) ?_)
    ·rcases Bool.eq_false_or_eq_true (cu)with ob|ob
     ·simp only[bt.down,simprocAttr,dF,hB,ob]
      refine gw (BH bQ _ BU) rfl rfl rfl rfl (.inl (by rfl)) ?_
      simp only[bt.down,simprocAttr,dF,hB,ob]
      (try simp only[b8.down,simprocAttr,ob]at aJ⊢);exact aJ
     ·simp only[bt.down,simprocAttr,dF,hB,ob]
      refine gw (BH bQ _ BU) rfl rfl rfl rfl (.inl (by rfl)) ?_
      simp only[bt.down,simprocAttr,dF,hB,ob]
      (try simp only[b8.down,simprocAttr,ob]at aJ⊢);exact aJ
    refine cN h (fun hU h=> ?_) (fun hU h=> ?_)
    ·refine eP (show∀s,cL a1 s 35 []=some (.agg [.str ([]:List UInt8),.str ([]:List UInt8)],s)from fun s=>by kernel_rfl) _ ?_
     exact ct (w3 _ (.inl (cA [aM (aP.mk ([]:List UInt8) ([]:List UInt8)),.int .i64 aF,.bool false])))
    ·refine cK (n24 _ (.inl ?_))
     obtain⟨eH,w4,h⟩:=bW h
     refine eP w4 _ ?_
     obtain⟨hQ,NR,h⟩:=bW h
     refine kr (NN eH _ NR) _ ?_
     refine ws _ ?_
     exact ct (bC _ (.inl (cA [aM (aP.mk bQ eH),.int .i64 (IntKind.i64.wrap ((IntKind.i64.wrap ((IntKind.i64.wrap ((IntKind.i64.wrap (aF+2))+(a8.toNat:Int)))+2))+(IntKind.i64.wrap ((IntKind.i64.wrap ((cC.toNat:Int)*256))+(cO.toNat:Int))))),.bool (hQ.2==0)])))
theorem NS (a0:List aP) (aF:aP) (r:(List aP)) (h:pM a0 aF=some r):cb a1 31 [.slice (a0.map aM),aM aF] (.aK 2 (r.map aM)) []:=by
 refine fm [0,1] [.tmp 4] Try.func31 Jd (fun fo bC fc=> ?_)
 refine ws _ ?_
 refine eP (show∀s,c0 a1 s 22 0 []=some (.aK 2 [],s)from fun s=>by kernel_rfl) _ ?_
 refine ws _ ?_
 refine ch bC (fun ll l5 fq cC=> ?_)
 refine ws _ ?_
 refine eZ fq (fun l7 gz gO kS cu=> ?_)
 have NT:∀(n:Nat) (fJ:List aP) (ld:Bool) (gJ:Int),lW a0 aF n fJ ld gJ=some r→gv a1 Bg l7 (J [(0,.slice (a0.map aM)),(3,.bc (aM aF)),(5,.aK 2 (fJ.map aM)),(6,.bool ld),(7,.int .i64 gJ)]):=by
  intro kU
  induction kU with
  |zero=>intro fJ ld gJ h;cases(show none=some r from h)
  |succ kU NU=>
   intro fJ ld gJ h
   replace h:s6 (lW a0 aF kU) a0 aF fJ ld gJ=some r:=h
   refine iq gO (fun mZ ix iD eH=> ?_)
   refine ch iD (fun rJ rK pZ hQ=> ?_)
   refine ws _ ?_
   refine cN h (fun hT h=> ?_) (fun hT h=> ?_)
   ·refine cK (rK _ (.inl ?_))
    have BV:∀(gi:List aP) (pJ:Bool) (pK:Int),s4 (lW a0 aF kU) a0 aF gi pJ pK=some r→b7 a1 Bf mZ (J [(0,.slice (a0.map aM)),(3,.bc (aM aF)),(5,.aK 2 (gi.map aM)),(6,.bool pJ),(7,.int .i64 pK)]):=by
     intro gi pJ pK h
     refine wr _ ?_
     exact ix _ (.inr ⟨_,dc rfl,NU gi pJ (IntKind.i64.wrap (pK+1)) h⟩)
    refine ch iD (fun tz jS ky rL=> ?_)
    refine eZ ky (fun rM lp m1 tw rN=> ?_)
    have w5:∀(ko:List aP) (lb:Bool) (kp:Int),rl (lW a0 aF kU) a0 aF ko lb kp=some r→b7 a1 Be rM (J [(0,.slice (a0.map aM)),(3,.bc (aM aF)),(5,.aK 2 (ko.map aM)),(6,.bool lb),(7,.int .i64 kp)]):=by
     intro ko lb kp h
     obtain⟨aU,iy,h⟩:=bW h
     refine kk rfl (i_ [(0,.slice (a0.map aM)),(3,.bc (aM aF)),(5,.aK 2 (ko.map aM)),(6,.bool lb),(7,.int .i64 kp),(38,.bool (!(aU.Name==aF.Name)))] (fun P aJ=> ?_) ?_)
     ·simp only[gI.down,simprocAttr,ft.down,iy]
      refine⟨jb (by kernel_rfl),?_⟩
      (try simp only[b8.down,simprocAttr,aM,iy]at aJ⊢);exact aJ
     refine cN h (fun kz h=> ?_) (fun kz h=> ?_)
     ·obtain⟨Qk,lo,h⟩:=bW h
      (try simp only[ru.down,Nat.reduceAdd]at lo)
      refine mM (dn [(0,.slice (a0.map aM)),(3,.bc (aM aF)),(5,.aK 2 ((ko++[aU]).map aM)),(6,.bool lb),(7,.int .i64 kp)] (fun P aJ=> ?_) ?_)
      ·simp only[bt.down,simprocAttr,ft.down,iy,(show∀s,c0 a1 s 22 1 [(0,.agg [.str aU.Name,.str aU.dP])]=some (.aK 2 [.agg [.str aU.Name,.str aU.dP]],s)from fun s=>by kernel_rfl), @pj a1 22 22 35 rfl rfl,pk,pn,po,all_cons,all_nil,lo, @ph _ aM 2 (fun _=>rfl)]
       (try simp only[b8.down,simprocAttr,aM,iy,(show∀s,c0 a1 s 22 1 [(0,.agg [.str aU.Name,.str aU.dP])]=some (.aK 2 [.agg [.str aU.Name,.str aU.dP]],s)from fun s=>by kernel_rfl), @pj a1 22 22 35 rfl rfl,pk,pn,po,all_cons,all_nil,lo, @ph _ aM 2 (fun _=>rfl)]at aJ⊢);exact aJ
      exact lp _ (jS _ (.inr ⟨_,dc rfl,BV (ko++[aU]) lb kp h⟩))
     ·exact cK (lp _ (jS _ (.inr ⟨_,dc rfl,BV ko lb kp h⟩)))
    refine ch m1 (fun pW l3 n9 rE=> ?_)
    rcases jV h with⟨jR,h⟩|⟨jR,h⟩
    ·obtain⟨a8,kt,h⟩:=bW h
     refine kk rfl (i_ [(0,.slice (a0.map aM)),(3,.bc (aM aF)),(5,.aK 2 (fJ.map aM)),(6,.bool false),(7,.int .i64 gJ),(26,.bool (!(Op.bytesLess a8.Name aF.Name)))] (fun P aJ=> ?_) ?_)
     ·simp only[gI.down,simprocAttr,ft.down,(pB jR),kt]
      refine⟨jb (by kernel_rfl),?_⟩
      (try simp only[b8.down,simprocAttr,aM,(pB jR),kt]at aJ⊢);exact aJ
     refine cN h (fun w6 h=> ?_) (fun w6 h=> ?_)
     ·obtain⟨Ql,l4,h⟩:=bW h
      (try simp only[ru.down,Nat.reduceAdd]at l4)
      refine eg (dn [(0,.slice (a0.map aM)),(3,.bc (aM aF)),(5,.aK 2 ((fJ++[aF]).map aM)),(7,.int .i64 gJ)] (fun P aJ=> ?_) ?_)
      ·simp only[bt.down,simprocAttr,ft.down,(show∀s,c0 a1 s 22 1 [(0,.agg [.str aF.Name,.str aF.dP])]=some (.aK 2 [.agg [.str aF.Name,.str aF.dP]],s)from fun s=>by kernel_rfl), @pj a1 22 22 35 rfl rfl,pk,pn,po,all_cons,all_nil,l4, @ph _ aM 2 (fun _=>rfl)]
       (try simp only[b8.down,simprocAttr,aM,(show∀s,c0 a1 s 22 1 [(0,.agg [.str aF.Name,.str aF.dP])]=some (.aK 2 [.agg [.str aF.Name,.str aF.dP]],s)from fun s=>by kernel_rfl), @pj a1 22 22 35 rfl rfl,pk,pn,po,all_cons,all_nil,l4, @ph _ aM 2 (fun _=>rfl)]at aJ⊢);exact aJ
      refine wr [(0,.slice (a0.map aM)),(3,.bc (aM aF)),(5,.aK 2 ((fJ++[aF]).map aM)),(6,.bool true),(7,.int .i64 gJ)] ?_
      exact l3 _ (.inr ⟨_,dc rfl,w5 (fJ++[aF]) true gJ h⟩)
     ·exact cK (l3 _ (.inr ⟨_,dc rfl,w5 fJ false gJ h⟩))
    ·refine kk rfl (i_ [(0,.slice (a0.map aM)),(3,.bc (aM aF)),(5,.aK 2 (fJ.map aM)),(6,.bool true),(7,.int .i64 gJ),(26,.bool false)] (fun P aJ=> ?_) ?_)
     ·simp only[gI.down,simprocAttr,ft.down,(wx jR)]
      refine⟨jb (by kernel_rfl),?_⟩
      (try simp only[b8.down,simprocAttr,aM,(wx jR)]at aJ⊢);exact aJ
     refine sM rfl ?_
     exact cK (l3 _ (.inr ⟨_,dc rfl,w5 fJ true gJ h⟩))
   ·refine hx (hQ 0 _ (eH 0 _ (kS _ (l5 _ (.inl ?_)))))
    have BW:∀(pL:List aP),s5 pL=some r→b7 a1 Bh fo (J [(5,.aK 2 (pL.map aM))]):=by
     intro pL h
     refine ws _ ?_
     exact ct (bC _ (.inl (cA [.aK 2 (pL.map aM)])))
    refine ch bC (fun NV n27 BX NW=> ?_)
    refine ws _ ?_
    refine cN h (fun oc h=> ?_) (fun oc h=> ?_)
    ·obtain⟨u32,m2,h⟩:=bW h
     (try simp only[ru.down,Nat.reduceAdd]at m2)
     refine mM (dn [(5,.aK 2 ((fJ++[aF]).map aM))] (fun P aJ=> ?_) ?_)
     ·simp only[bt.down,simprocAttr,ft.down,(show∀s,c0 a1 s 22 1 [(0,.agg [.str aF.Name,.str aF.dP])]=some (.aK 2 [.agg [.str aF.Name,.str aF.dP]],s)from fun s=>by kernel_rfl), @pj a1 22 22 35 rfl rfl,pk,pn,po,all_cons,all_nil,m2, @ph _ aM 2 (fun _=>rfl)]
      (try simp only[b8.down,simprocAttr,aM,(show∀s,c0 a1 s 22 1 [(0,.agg [.str aF.Name,.str aF.dP])]=some (.aK 2 [.agg [.str aF.Name,.str aF.dP]],s)from fun s=>by kernel_rfl), @pj a1 22 22 35 rfl rfl,pk,pn,po,all_cons,all_nil,m2, @ph _ aM 2 (fun _=>rfl)]at aJ⊢);exact aJ
     exact n27 _ (.inr ⟨_,dc rfl,BW (fJ++[aF]) h⟩)
    ·exact cK (n27 _ (.inr ⟨_,dc rfl,BW fJ h⟩))
 obtain⟨n,h⟩:=hV h
 exact ik (.inr ⟨_,dc rfl,NT n [] false 0 h⟩)
theorem NX (a0:List UInt8) (r:(List aP)×Int) (h:wD a0=some r):cb a1 7 [.str a0] (.tuple [.aK 2 (r.1.map aM),.int .i64 r.2]) []:=by
 refine fm [0] [.tmp 2,.tmp 3] Try.func7 JA (fun fo bC fc=> ?_)
 refine ws _ ?_
 refine eP (show∀s,c0 a1 s 22 0 []=some (.aK 2 [],s)from fun s=>by kernel_rfl) _ ?_
 refine ws _ ?_
 refine ch bC (fun ll l5 fq cC=> ?_)
 refine eZ fq (fun l6 ku gk jt cO=> ?_)
 have rO:∀(n:Nat) (dG:List aP) (d_:Int),lX a0 n dG d_=some r→gv a1 Bj l6 (J [(0,.str a0),(4,.aK 2 (dG.map aM)),(5,.int .i64 d_)]):=by
  intro gS
  induction gS with
  |zero=>intro dG d_ h;cases(show none=some r from h)
  |succ gS lq=>
   intro dG d_ h
   replace h:wC (lX a0 gS) a0 dG d_=some r:=h
   refine iq gk (fun l7 gz gO cu=> ?_)
   refine ch gO (fun mZ ix iD eH=> ?_)
   refine eg (dn [(0,.str a0),(4,.aK 2 (dG.map aM)),(5,.int .i64 d_),(20,.bool ((decide (d_<(a0.length:Int)))&&(decide ((dG.length:Int)<16))))] (fun P aJ=> ?_) ?_)
   ·rcases Bool.eq_false_or_eq_true (decide (d_<(a0.length:Int)))with gW|gW
    ·simp only[bt.down,simprocAttr,ft.down,gW]
     (try simp only[b8.down,simprocAttr,aM,gW]at aJ⊢);exact aJ
    ·simp only[bt.down,simprocAttr,ft.down,gW]
     (try simp only[b8.down,simprocAttr,aM,gW]at aJ⊢);exact aJ
   refine cN h (fun hT h=> ?_) (fun hT h=> ?_)
   ·refine cK (ix _ (.inl ?_))
    refine eZ gO (fun tz jS ky w7 rL=> ?_)
    obtain⟨aU,e7,h⟩:=bW h
    refine kr (NQ a0 d_ _ e7) _ ?_
    refine ch ky (fun pW l3 n9 rE=> ?_)
    refine ws _ ?_
    refine cN h (fun l9 h=> ?_) (fun l9 h=> ?_)
    ·refine ws _ ?_
     exact hx (rE 1 _ (w7 _ (gz _ (.inr ⟨_,dc rfl,lq dG (IntKind.i64.wrap (d_+1)) h⟩))))
    ·refine cK (l3 _ (.inl ?_))
     refine ws _ ?_
     refine ws _ ?_
     refine ch ky (fun NH n20 wZ NI=> ?_)
     refine ws _ ?_
     refine eZ wZ (fun tA n22 p0 rP w8=> ?_)
     have NY:∀(n:Nat) (gK:List aP) (lf:Bool) (hR:Int),mR (lX a0 gS) a0 aU n gK lf hR=some r→gv a1 Bi tA (J [(0,.str a0),(4,.aK 2 (gK.map aM)),(5,.int .i64 aU.2.1),(6,.bc (aM aU.1)),(9,.bool lf),(10,.int .i64 hR)]):=by
      intro w9
      induction w9 with
      |zero=>intro gK lf hR h;cases(show none=some r from h)
      |succ w9 BZ=>
       intro gK lf hR h
       replace h:s7 (lX a0 gS) (mR (lX a0 gS) a0 aU w9) a0 aU gK lf hR=some r:=h
       refine iq p0 (fun Qm n23 B0 NZ=> ?_)
       refine ch B0 (fun BT n24 w3 tx=> ?_)
       refine ws _ ?_
       refine cN h (fun w1 h=> ?_) (fun w1 h=> ?_)
       ·refine cK (n24 _ (.inl ?_))
        refine ch B0 (fun NV n27 BX NW=> ?_)
        refine eZ BX (fun N0 n28 N1 hU N2=> ?_)
        rcases jV h with⟨oc,h⟩|⟨oc,h⟩
        ·refine z7 rfl (i_ [(0,.str a0),(4,.aK 2 (gK.map aM)),(5,.int .i64 aU.2.1),(6,.bc (aM aU.1)),(9,.bool true),(10,.int .i64 hR)] (fun P aJ=> ?_) ?_)
         ·simp only[gI.down,simprocAttr,ft.down,oc]
          refine⟨jb (by kernel_rfl),?_⟩
          (try simp only[b8.down,simprocAttr,aM,oc]at aJ⊢);exact aJ
         refine n28 _ (n27 _ (.inl ?_))
         refine wr _ ?_
         exact n23 _ (.inr ⟨_,dc rfl,BZ gK true (IntKind.i64.wrap (hR+1)) h⟩)
        ·obtain⟨a8,m2,h⟩:=bW h
         refine z7 rfl (i_ [(0,.str a0),(4,.aK 2 (gK.map aM)),(5,.int .i64 aU.2.1),(6,.bc (aM aU.1)),(9,.bool (a8.Name==aU.1.Name)),(10,.int .i64 hR)] (fun P aJ=> ?_) ?_)
         ·simp only[gI.down,simprocAttr,ft.down,oc,m2,me m2]
          refine⟨jb (by kernel_rfl),?_⟩
          (try simp only[b8.down,simprocAttr,aM,oc,m2,me m2]at aJ⊢);exact aJ
         refine n28 _ (n27 _ (.inl ?_))
         refine wr _ ?_
         exact n23 _ (.inr ⟨_,dc rfl,BZ gK (a8.Name==aU.1.Name) (IntKind.i64.wrap (hR+1)) h⟩)
       ·refine hx (tx 2 _ (NZ 2 _ (rP _ (n20 _ (.inl ?_)))))
        refine ws _ ?_
        refine cN h (fun N3 h=> ?_) (fun N3 h=> ?_)
        ·obtain⟨bQ,N4,h⟩:=bW h
         refine mM (dn [(0,.str a0),(4,.aK 2 (bQ.map aM)),(5,.int .i64 aU.2.1)] (fun P aJ=> ?_) ?_)
         ·simp only[bt.down,simprocAttr,dF,hB,aM]
          refine gw (NS gK aU.1 _ N4) rfl rfl (by simp only[bt.down,simprocAttr,dF,hB,aM,iS,iT,iU,hL, @il _ aM aM (fun _=>iu _)]<;>rfl) rfl (.inr (GJ (fun _=>HH _) _)) ?_
          simp only[bt.down,simprocAttr,dF,hB,aM]
          (try simp only[b8.down,simprocAttr,aM]at aJ⊢);exact aJ
         exact jS _ (gz _ (.inr ⟨_,dc rfl,lq bQ aU.2.1 h⟩))
        ·exact cK (jS _ (gz _ (.inr ⟨_,dc rfl,lq gK aU.2.1 h⟩)))
     obtain⟨n,h⟩:=hV h
     exact ik (.inr ⟨_,dc rfl,NY n dG false 0 h⟩)
   ·refine hx (eH 0 _ (cu 0 _ (jt _ (l5 _ (.inl ?_)))))
    refine ch bC (fun Qn n38 N5 Qo=> ?_)
    refine ws _ ?_
    refine cN h (fun N6 h=> ?_) (fun N6 h=> ?_)
    ·refine ws _ ?_
     exact ct (N5 _ (.inr ⟨[(2,.aK 2 []),(3,.int .i64 3)],vU [] rfl (vW (t:=2) (d:=.bG) rfl rfl (.lO _) (by decide) (sQ rfl (vV))),cA [.aK 2 [],.int .i64 3]⟩))
    ·refine cK (n38 _ (.inl ?_))
     refine ws _ ?_
     exact ct (bC _ (.inl (cA [.aK 2 (dG.map aM),.int .i64 0])))
 obtain⟨n,h⟩:=hV h
 exact ik (.inr ⟨_,dc rfl,rO n [] 0 h⟩)
theorem tB (mT:List UInt8) (s8:Bool) (r:Int×(List UInt8)×Bool) (h:mS mT s8=some r):cb a1 70 [.bc (.agg [.str mT,.bool s8])] (.int .i64 r.1) [.bc (.agg [.str r.2.1,.bool r.2.2])]:=by
 refine fm [0] [.tmp 2] Try.func70 JJ (fun fo bC fc=> ?_)
 refine ws _ ?_
 refine ch bC (fun iQ eX cw a8=> ?_)
 refine ws _ ?_
 refine cN h (fun dL h=> ?_) (fun dL h=> ?_)
 ·refine ws _ ?_
  refine ws _ ?_
  exact ct (cw _ (.inl (sN [.int .i64 0] rfl (by cases mc h;rfl) (by decide) (v5 (v7 (by cases mc h;rfl) rfl rfl rfl (v8))))))
 ·refine cK (eX _ (.inl ?_))
  obtain⟨aU,iE,h⟩:=bW h
  refine eP iE _ ?_
  obtain⟨a8,j5,h⟩:=bW h
  refine eP j5 _ ?_
  refine eP (@hy a1 5 2 .i64 rfl rfl) _ ?_
  exact ct (bC _ (.inl (sN [.int .i64 (aU.toNat:Int)] rfl (by cases mc h;rfl) (by decide) (v5 (v7 (by cases mc h;rfl) rfl rfl rfl (v8))))))
theorem N7 (a0:UInt8) (r:Bool) (h:wE a0=some r):cb a1 79 [.int .u8 (a0.toNat:Int)] (.bool r) []:=by
 refine fm [0] [.tmp 2] Try.func79 JM (fun fo bC fc=> ?_)
 refine ws _ ?_
 refine eg (dn [(2,.bool ((decide (48≤(a0.toNat:Int)))&&(decide ((a0.toNat:Int)≤57))))] (fun P aJ=> ?_) ?_)
 ·rcases Bool.eq_false_or_eq_true (decide (48≤(a0.toNat:Int)))with ee|ee
  ·simp only[bt.down,simprocAttr,ee]
   (try simp only[b8.down,simprocAttr,ee]at aJ⊢);exact aJ
  ·simp only[bt.down,simprocAttr,ee]
   (try simp only[b8.down,simprocAttr,ee]at aJ⊢);exact aJ
 exact ct (bC _ (.inl (cA [.bool ((decide (48≤(a0.toNat:Int)))&&(decide ((a0.toNat:Int)≤57)))])))
theorem B1 (a0:List UInt8) (r:Bool) (h:s9 a0=some r):cb a1 42 [.str a0] (.bool r) []:=by
 refine fm [0] [.tmp 2] Try.func42 JY (fun fo bC fc=> ?_)
 refine ws _ ?_
 refine ch bC (fun iQ eX cw a8=> ?_)
 refine ws _ ?_
 refine eZ cw (fun ll l5 fq dL cC=> ?_)
 have n_:∀(n:Nat) (g9:Int),lY a0 n g9=some r→gv a1 Bk ll (J [(0,.str a0),(6,.int .i64 (a0.length:Int)),(7,.int .i64 g9)]):=by
  intro e6
  induction e6 with
  |zero=>intro g9 h;cases(show none=some r from h)
  |succ e6 mY=>
   intro g9 h
   replace h:rm (lY a0 e6) a0 g9=some r:=h
   refine iq fq (fun l6 ku gk cO=> ?_)
   refine ws _ ?_
   refine ch gk (fun mZ ix iD eH=> ?_)
   refine cN h (fun h8 h=> ?_) (fun h8 h=> ?_)
   ·refine cK (ix _ (.inl ?_))
    refine ch gk (fun rH jQ je jO=> ?_)
    refine eZ je (fun l8 ha iw hT ln=> ?_)
    refine ws _ ?_
    obtain⟨aU,e7,h⟩:=bW h
    refine eg (dn [(0,.str a0),(3,.int .i64 g9),(4,.bool ((decide (97≤(aU.toNat:Int)))&&(decide ((aU.toNat:Int)≤122)))),(6,.int .i64 (a0.length:Int)),(7,.int .i64 g9)] (fun P aJ=> ?_) ?_)
    ·rcases Bool.eq_false_or_eq_true (decide (97≤(aU.toNat:Int)))with kv|kv
     ·simp only[bt.down,simprocAttr,dF,e7,kv]
      (try simp only[b8.down,simprocAttr,e7,kv]at aJ⊢);exact aJ
     ·simp only[bt.down,simprocAttr,dF,e7,kv]
      (try simp only[b8.down,simprocAttr,e7,kv]at aJ⊢);exact aJ
    rcases jV h with⟨l9,h⟩|⟨l9,h⟩
    ·rcases jV h with⟨kz,h⟩|⟨kz,h⟩
     ·refine eP (And.intro l9 kz) _ ?_
      refine q8 rfl ?_
      refine ws _ ?_
      exact ct (iw _ (.inl (cA [.bool false])))
     ·obtain⟨a8,lo,h⟩:=bW h
      refine eg (dn [(0,.str a0),(6,.int .i64 (a0.length:Int)),(7,.int .i64 g9),(32,.bool (!a8))] (fun P aJ=> ?_) ?_)
      ·simp only[bt.down,simprocAttr,dF,l9,kz,e7]
       refine sP (N7 aU _ lo) rfl rfl rfl rfl (.inl (by rfl)) ?_
       simp only[bt.down,simprocAttr,dF,l9,kz,e7]
       (try simp only[b8.down,simprocAttr,l9,kz,e7]at aJ⊢);exact aJ
      refine cN h (fun BN h=> ?_) (fun BN h=> ?_)
      ·refine ws _ ?_
       exact ct (iw _ (.inl (cA [.bool false])))
      ·refine cK (ha _ (jQ _ (.inl ?_)))
       refine wr _ ?_
       exact ku _ (.inr ⟨_,dc rfl,mY (IntKind.i64.wrap (g9+1)) h⟩)
    ·refine eP l9 _ ?_
     refine sM rfl ?_
     refine cK (ha _ (jQ _ (.inl ?_)))
     refine wr _ ?_
     exact ku _ (.inr ⟨_,dc rfl,mY (IntKind.i64.wrap (g9+1)) h⟩)
   ·refine hx (eH 0 _ (cO 0 _ (dL _ (eX _ (.inl ?_)))))
    refine eg (dn [(2,.bool ((decide (1≤(a0.length:Int)))&&(decide ((a0.length:Int)≤10))))] (fun P aJ=> ?_) ?_)
    ·rcases Bool.eq_false_or_eq_true (decide (1≤(a0.length:Int)))with rQ|rQ
     ·simp only[bt.down,simprocAttr,dF,rQ]
      (try simp only[b8.down,simprocAttr,rQ]at aJ⊢);exact aJ
     ·simp only[bt.down,simprocAttr,dF,rQ]
      (try simp only[b8.down,simprocAttr,rQ]at aJ⊢);exact aJ
    exact ct (bC _ (.inl (cA [.bool ((decide (1≤(a0.length:Int)))&&(decide ((a0.length:Int)≤10)))])))
 obtain⟨n,h⟩:=hV h
 exact ik (.inr ⟨_,dc rfl,n_ n 0 h⟩)
theorem w_ (a0:Int) (aF:Int) (cj:Int) (r:Bool) (h:rn a0 aF cj=some r):cb a1 81 [.int .i64 a0,.int .i64 aF,.int .i64 cj] (.bool r) []:=by
 refine fm [0,1,2] [.tmp 6] Try.func81 J1 (fun fo bC fc=> ?_)
 refine ws _ ?_
 refine eg (dn [(6,.bool ((decide (aF≤a0))&&(decide (a0≤cj))))] (fun P aJ=> ?_) ?_)
 ·rcases Bool.eq_false_or_eq_true (decide (aF≤a0))with ee|ee
  ·simp only[bt.down,simprocAttr,ee]
   (try simp only[b8.down,simprocAttr,ee]at aJ⊢);exact aJ
  ·simp only[bt.down,simprocAttr,ee]
   (try simp only[b8.down,simprocAttr,ee]at aJ⊢);exact aJ
 exact ct (bC _ (.inl (cA [.bool ((decide (aF≤a0))&&(decide (a0≤cj)))])))
theorem N8 (a0:List UInt8) (aF:Int) (r:Int) (h:tb a0 aF=some r):cb a1 80 [.str a0,.int .i64 aF] (.int .i64 r) []:=by
 refine fm [0,1] [.tmp 4] Try.func80 Kk (fun fo bC fc=> ?_)
 refine ws _ ?_
 refine ch bC (fun iQ eX cw a8=> ?_)
 obtain⟨aU,b2,h⟩:=bW h
 refine kr (w_ aF 0 65535 _ b2) _ ?_
 refine cN h (fun jt h=> ?_) (fun jt h=> ?_)
 ·refine ws _ ?_
  exact ct (cw _ (.inl (cA [.int .i64 0])))
 ·refine cK (eX _ (.inl ?_))
  refine ws _ ?_
  refine ch bC (fun rJ rK pZ hQ=> ?_)
  refine ws _ ?_
  refine eZ pZ (fun l8 ha iw hT ln=> ?_)
  have N9:∀(n:Nat) (jL:Int) (jM:Int),jN a0 n jL jM=some r→gv a1 Bn l8 (J [(0,.str a0),(5,.int .i64 jL),(12,.int .i64 (a0.length:Int)),(13,.int .i64 jM)]):=by
   intro m3
   induction m3 with
   |zero=>intro jL jM h;cases(show none=some r from h)
   |succ m3 N_=>
    intro jL jM h
    replace h:wG (jN a0 m3) a0 jL jM=some r:=h
    refine iq iw (fun tz jS ky rL=> ?_)
    refine ws _ ?_
    refine ch ky (fun rM lp m1 rN=> ?_)
    refine cN h (fun mW h=> ?_) (fun mW h=> ?_)
    ·refine cK (lp _ (.inl ?_))
     refine ch ky (fun tt n15 mX pY=> ?_)
     refine eZ mX (fun BK n16 wX l9 tu=> ?_)
     refine ws _ ?_
     obtain⟨a8,lo,h⟩:=bW h
     refine eP (And.intro lo (@hy a1 5 2 .i64 rfl rfl)) _ ?_
     refine ws _ ?_
     refine eZ wX (fun BQ n21 BR jR NM=> ?_)
     have Oa:∀(n:Nat) (gi:Int) (iW:Int) (jc:Int),n1 (jN a0 m3) a0 n gi iW jc=some r→gv a1 Bm BQ (J [(0,.str a0),(5,.int .i64 gi),(12,.int .i64 (a0.length:Int)),(13,.int .i64 iW),(23,.int .i64 jc)]):=by
      intro m32
      induction m32 with
      |zero=>intro gi iW jc h;cases(show none=some r from h)
      |succ m32 Ob=>
       intro gi iW jc h
       replace h:wF (jN a0 m3) (n1 (jN a0 m3) a0 m32) a0 gi iW jc=some r:=h
       refine iq BR (fun tA n22 p0 w8=> ?_)
       refine ws _ ?_
       refine ch p0 (fun BT n24 w3 tx=> ?_)
       refine cN h (fun Oc h=> ?_) (fun Oc h=> ?_)
       ·refine cK (n24 _ (.inl ?_))
        have B2:∀(pN:Int) (pO:Int) (pP:Int),s_ (jN a0 m3) (n1 (jN a0 m3) a0 m32) a0 pN pO pP=some r→b7 a1 Bl tA (J [(0,.str a0),(5,.int .i64 pN),(12,.int .i64 (a0.length:Int)),(13,.int .i64 pO),(23,.int .i64 pP)]):=by
         intro pN pO pP h
         refine wr _ ?_
         exact n22 _ (.inr ⟨_,dc rfl,Ob pN pO (IntKind.i64.wrap (pP+1)) h⟩)
        refine ch p0 (fun B3 n26 rR B4=> ?_)
        refine eZ rR (fun N0 n28 N1 hU N2=> ?_)
        refine ws _ ?_
        refine ws _ ?_
        refine cN h (fun Od h=> ?_) (fun Od h=> ?_)
        ·refine wr _ ?_
         exact n28 _ (n26 _ (.inr ⟨_,dc rfl,B2 (bitsOf .xor .i64 (bitsOf .and .i64 (IntKind.i64.wrap (gi*2)) 65535) 4129) iW jc h⟩))
        ·exact cK (n28 _ (n26 _ (.inr ⟨_,dc rfl,B2 (IntKind.i64.wrap (gi*2)) iW jc h⟩)))
       ·refine hx (tx 2 _ (w8 2 _ (jR _ (n16 _ (n15 _ (.inl ?_))))))
        refine wr _ ?_
        exact jS _ (.inr ⟨_,dc rfl,N_ gi (IntKind.i64.wrap (iW+1)) h⟩)
     obtain⟨n,h⟩:=hV h
     exact ik (.inr ⟨_,dc rfl,Oa n (bitsOf .xor .i64 jL (IntKind.i64.wrap ((a8.toNat:Int)*256))) jM 0 h⟩)
    ·refine hx (rN 0 _ (rL 0 _ (hT _ (rK _ (.inl ?_)))))
     refine ws _ ?_
     exact ct (bC _ (.inl (cA [.int .i64 jL])))
  obtain⟨n,h⟩:=hV h
  exact ik (.inr ⟨_,dc rfl,N9 n aF 0 h⟩)
theorem Oe (a0:List UInt8) (r:Int×Int) (h:tc a0=some r):cb a1 43 [.str a0] (.tuple [.int .i64 r.1,.int .i64 r.2]) []:=by
 refine fm [0] [.tmp 2,.tmp 3] Try.func43 Kz (fun fo bC fc=> ?_)
 refine ws _ ?_
 refine ch bC (fun iQ eX cw a8=> ?_)
 refine ws _ ?_
 refine cN h (fun dL h=> ?_) (fun dL h=> ?_)
 ·refine ws _ ?_
  exact ct (cw _ (.inl (cA [.int .i64 0,.int .i64 11])))
 ·refine cK (eX _ (.inl ?_))
  obtain⟨aU,bf,h⟩:=bW h
  refine eP bf _ ?_
  obtain⟨a8,h3,h⟩:=bW h
  refine kr (N8 aU 65535 _ h3) _ ?_
  obtain⟨bQ,ns,h⟩:=bW h
  refine eP (And.intro ns (@hy a1 5 2 .i64 rfl rfl)) _ ?_
  refine ch bC (fun BI rC rD BJ=> ?_)
  refine eZ rD (fun rM lp m1 tw rN=> ?_)
  obtain⟨cC,m4,h⟩:=bW h
  obtain⟨cO,iy,h⟩:=bW h
  refine kk rfl (i_ [(0,.str a0),(6,.int .i64 (bQ.toNat:Int)),(20,.bool ((IntKind.i64.wrap ((IntKind.i64.wrap ((cC.toNat:Int)*256))+(cO.toNat:Int))) !=a8))] (fun P aJ=> ?_) ?_)
  ·simp only[gI.down,simprocAttr,dF,m4, @hy a1 5 2 .i64 rfl rfl,iy]
   refine⟨jb (by kernel_rfl),?_⟩
   (try simp only[b8.down,simprocAttr,m4, @hy a1 5 2 .i64 rfl rfl,iy]at aJ⊢);exact aJ
  refine cN h (fun kz h=> ?_) (fun kz h=> ?_)
  ·refine ws _ ?_
   exact ct (m1 _ (.inl (cA [.int .i64 0,.int .i64 10])))
  ·obtain⟨cu,m5,h⟩:=bW h
   refine eg (dn [(6,.int .i64 (bQ.toNat:Int)),(37,.bool ((!cu)||(decide (6000<(a0.length:Int)))))] (fun P aJ=> ?_) ?_)
   ·rcases Bool.eq_false_or_eq_true (cu)with jf|jf
    ·simp only[bt.down,simprocAttr,dF,jf]
     refine gw (w_ (bQ.toNat:Int) 1 3 _ m5) rfl rfl rfl rfl (.inl (by rfl)) ?_
     simp only[bt.down,simprocAttr,dF,jf]
     (try simp only[b8.down,simprocAttr,jf]at aJ⊢);exact aJ
    ·simp only[bt.down,simprocAttr,dF,jf]
     refine gw (w_ (bQ.toNat:Int) 1 3 _ m5) rfl rfl rfl rfl (.inl (by rfl)) ?_
     simp only[bt.down,simprocAttr,dF,jf]
     (try simp only[b8.down,simprocAttr,jf]at aJ⊢);exact aJ
   refine cN h (fun rP h=> ?_) (fun rP h=> ?_)
   ·refine ws _ ?_
    exact ct (m1 _ (.inl (cA [.int .i64 0,.int .i64 9])))
   ·refine cK (lp _ (rC _ (.inl ?_)))
    refine ws _ ?_
    exact ct (bC _ (.inl (cA [.int .i64 (bQ.toNat:Int),.int .i64 0])))
theorem Of (a0:List UInt8) (r:Bool) (h:td a0=some r):cb a1 71 [.str a0] (.bool r) []:=by
 refine fm [0] [.tmp 2] Try.func71 KD (fun fo bC fc=> ?_)
 refine ws _ ?_
 obtain⟨aU,bb,h⟩:=bW h
 refine kr (Oe a0 _ bb) _ ?_
 refine ws _ ?_
 exact ct (bC _ (.inl (cA [.bool (aU.2==0)])))
theorem Og (a0:List UInt8) (r:aP×Int×Bool) (h:te a0=some r):cb a1 32 [.str a0] (.tuple [aM r.1,.int .i64 r.2.1,.bool r.2.2]) []:=by
 refine fm [0] [.cell 2 35,.tmp 3,.tmp 4] Try.func32 KT (fun fo bC fc=> ?_)
 refine ws _ ?_
 refine eP (show∀s,cL a1 s 98 [(0,.str a0)]=some (.agg [.str a0,.bool false],s)from fun s=>by kernel_rfl) _ ?_
 obtain⟨aU,b2,h⟩:=bW h
 refine eg (dn [(0,.str a0),(2,.bc (.agg [.str ([]:List UInt8),.str ([]:List UInt8)])),(5,.bc (.agg [.str aU.2.1,.bool aU.2.2])),(6,.int .i64 aU.1)] (fun P aJ=> ?_) ?_)
 ·simp only[bt.down,simprocAttr]
  refine pr [⟨.h 5 [],true,_,_⟩] (tB a0 false _ b2) rfl rfl rfl (by simp only[bt.down,simprocAttr,nX,pt,pv,iS,iT,iU,hL,or_true,true_or]) rfl rfl (.inl rfl) ?_
  simp only[bt.down,simprocAttr,pw]
  (try simp only[b8.down,simprocAttr]at aJ⊢);exact aJ
 obtain⟨a8,bl,h⟩:=bW h
 refine eg (dn [(0,.str a0),(2,.bc (.agg [.str ([]:List UInt8),.str ([]:List UInt8)])),(5,.bc (.agg [.str a8.2.1,.bool a8.2.2])),(6,.int .i64 aU.1),(7,.int .i64 a8.1)] (fun P aJ=> ?_) ?_)
 ·simp only[bt.down,simprocAttr]
  refine pr [⟨.h 5 [],true,_,_⟩] (tB aU.2.1 aU.2.2 _ bl) rfl rfl rfl (by simp only[bt.down,simprocAttr,nX,pt,pv,iS,iT,iU,hL,or_true,true_or]) rfl rfl (.inl rfl) ?_
  simp only[bt.down,simprocAttr,pw]
  (try simp only[b8.down,simprocAttr]at aJ⊢);exact aJ
 refine ch bC (fun mZ ix iD eH=> ?_)
 refine eg (dn [(0,.str a0),(2,.bc (.agg [.str ([]:List UInt8),.str ([]:List UInt8)])),(5,.bc (.agg [.str a8.2.1,.bool a8.2.2])),(7,.int .i64 a8.1),(26,.bool ((aU.1 !=35)||(decide ((a8.2.1.length:Int)<a8.1))))] (fun P aJ=> ?_) ?_)
 ·rcases Bool.eq_false_or_eq_true (aU.1 !=35)with gW|gW
  ·simp only[bt.down,simprocAttr,k9,dF,k_,gW]
   (try simp only[b8.down,simprocAttr,gW]at aJ⊢);exact aJ
  ·simp only[bt.down,simprocAttr,k9,dF,k_,gW]
   (try simp only[b8.down,simprocAttr,gW]at aJ⊢);exact aJ
 refine cN h (fun hT h=> ?_) (fun hT h=> ?_)
 ·refine eP (show∀s,cL a1 s 35 []=some (.agg [.str ([]:List UInt8),.str ([]:List UInt8)],s)from fun s=>by kernel_rfl) _ ?_
  exact ct (iD _ (.inl (cA [aM (aP.mk ([]:List UInt8) ([]:List UInt8)),.int .i64 0,.bool false])))
 ·refine cK (ix _ (.inl ?_))
  obtain⟨bQ,e7,h⟩:=bW h
  refine eP (And.intro e7 (show∀s,cL a1 s 35 [(0,.str bQ)]=some (.agg [.str bQ,.str ([]:List UInt8)],s)from fun s=>by kernel_rfl)) _ ?_
  obtain⟨cC,m4,h⟩:=bW h
  refine eP m4 _ ?_
  obtain⟨cO,jT,h⟩:=bW h
  obtain⟨cu,kx,h⟩:=bW h
  refine eg (dn [(0,.str a0),(2,.bc (.agg [.str ([]:List UInt8),.str ([]:List UInt8)])),(5,.bc (.agg [.str cu.2.1,.bool cu.2.2])),(7,.int .i64 (IntKind.i64.wrap ((IntKind.i64.wrap (cO.1*256))+cu.1))),(8,.bc (.agg [.str bQ,.str ([]:List UInt8)]))] (fun P aJ=> ?_) ?_)
  ·simp only[bt.down,simprocAttr]
   refine pr [⟨.h 5 [],true,_,_⟩] (tB cC a8.2.2 _ jT) rfl rfl rfl (by simp only[bt.down,simprocAttr,nX,pt,pv,iS,iT,iU,hL,or_true,true_or]) rfl rfl (.inl rfl) ?_
   simp only[bt.down,simprocAttr,pw]
   refine pr [⟨.h 5 [],true,_,_⟩] (tB cO.2.1 cO.2.2 _ kx) rfl rfl rfl (by simp only[bt.down,simprocAttr,nX,pt,pv,iS,iT,iU,hL,or_true,true_or]) rfl rfl (.inl rfl) ?_
   simp only[bt.down,simprocAttr,pw]
   (try simp only[b8.down,simprocAttr]at aJ⊢);exact aJ
  refine ch bC (fun BL n19 rG BM=> ?_)
  refine eg (dn [(0,.str a0),(2,.bc (.agg [.str ([]:List UInt8),.str ([]:List UInt8)])),(5,.bc (.agg [.str cu.2.1,.bool cu.2.2])),(7,.int .i64 (IntKind.i64.wrap ((IntKind.i64.wrap (cO.1*256))+cu.1))),(8,.bc (.agg [.str bQ,.str ([]:List UInt8)])),(62,.bool (cu.2.2||(decide ((cu.2.1.length:Int)<(IntKind.i64.wrap ((IntKind.i64.wrap (cO.1*256))+cu.1))))))] (fun P aJ=> ?_) ?_)
  ·rcases Bool.eq_false_or_eq_true (cu.2.2)with jf|jf
   ·simp only[bt.down,simprocAttr,k9,dF,k_,jf]
    (try simp only[b8.down,simprocAttr,jf]at aJ⊢);exact aJ
   ·simp only[bt.down,simprocAttr,k9,dF,k_,jf]
    (try simp only[b8.down,simprocAttr,jf]at aJ⊢);exact aJ
  refine cN h (fun rP h=> ?_) (fun rP h=> ?_)
  ·refine eP (show∀s,cL a1 s 35 []=some (.agg [.str ([]:List UInt8),.str ([]:List UInt8)],s)from fun s=>by kernel_rfl) _ ?_
   exact ct (rG _ (.inl (cA [aM (aP.mk ([]:List UInt8) ([]:List UInt8)),.int .i64 0,.bool false])))
  ·refine cK (n19 _ (.inl ?_))
   obtain⟨eH,l4,h⟩:=bW h
   refine eP l4 _ ?_
   obtain⟨hQ,B5,h⟩:=bW h
   rcases jV h with⟨hU,h⟩|⟨hU,h⟩
   ·obtain⟨jO,Oh,h⟩:=bW h
    refine kk rfl (i_ [(2,.bc (.agg [.str bQ,.str eH])),(3,.int .i64 (IntKind.i64.wrap ((IntKind.i64.wrap ((a0.length:Int)-(cu.2.1.length:Int)))+(IntKind.i64.wrap ((IntKind.i64.wrap (cO.1*256))+cu.1))))),(4,.bool jO)] (fun P aJ=> ?_) ?_)
    ·simp only[gI.down,simprocAttr,k9,dF,hB,k_,hU]
     refine pg (B1 bQ _ B5) rfl rfl rfl rfl (.inl (by rfl)) ?_
     simp only[gI.down,simprocAttr,k9,dF,hB,k_,hU]
     refine GI (Of eH _ Oh) rfl rfl rfl rfl (.inl (by rfl)) ?_
     simp only[gI.down,simprocAttr,k9,dF,hB,k_,hU]
     refine⟨jb (by kernel_rfl),?_⟩
     (try simp only[b8.down,simprocAttr,hU]at aJ⊢);exact aJ
    exact ct (bC _ (.inl (cA [aM (aP.mk bQ eH),.int .i64 (IntKind.i64.wrap ((IntKind.i64.wrap ((a0.length:Int)-(cu.2.1.length:Int)))+(IntKind.i64.wrap ((IntKind.i64.wrap (cO.1*256))+cu.1)))),.bool jO])))
   ·refine kk rfl (i_ [(2,.bc (.agg [.str bQ,.str eH])),(3,.int .i64 (IntKind.i64.wrap ((IntKind.i64.wrap ((a0.length:Int)-(cu.2.1.length:Int)))+(IntKind.i64.wrap ((IntKind.i64.wrap (cO.1*256))+cu.1))))),(4,.bool false)] (fun P aJ=> ?_) ?_)
    ·simp only[gI.down,simprocAttr,k9,dF,hB,k_,hU]
     refine pg (B1 bQ _ B5) rfl rfl rfl rfl (.inl (by rfl)) ?_
     simp only[gI.down,simprocAttr,k9,dF,hB,k_,hU]
     refine⟨jb (by kernel_rfl),?_⟩
     (try simp only[b8.down,simprocAttr,hU]at aJ⊢);exact aJ
    exact ct (bC _ (.inl (cA [aM (aP.mk bQ eH),.int .i64 (IntKind.i64.wrap ((IntKind.i64.wrap ((a0.length:Int)-(cu.2.1.length:Int)))+(IntKind.i64.wrap ((IntKind.i64.wrap (cO.1*256))+cu.1)))),.bool false])))
theorem B6:∀a b,dQ a b=Lib.compareBytes a b
 |[],[]=>rfl
 |[],_::_=>rfl
 |_::_,[]=>rfl
 |a::x,b::y=>by simp only[dQ,Lib.compareBytes,B6 x y]
theorem Oi (a0:List UInt8) (aF:List UInt8) (r:Int) (h:A8 a0 aF=some r):cb a1 133 [.str a0,.str aF] (.int .i64 r) []:=by
 rw[show r=Lib.compareBytes a0 aF from(mc h).trans (B6 a0 aF)]
 exact GP Try.func133 (by kernel_rfl) (by kernel_rfl) (by kernel_rfl) (by kernel_rfl) a0 aF
theorem Oj (a0:List UInt8) (aF:List UInt8) (r:Int) (h:A9 a0 aF=some r):cb a1 105 [.str a0,.str aF] (.int .i64 r) []:=by
 refine fm [0,1] [.tmp 4] Try.func105 KW (fun fo bC fc=> ?_)
 refine ws _ ?_
 obtain⟨aU,bb,h⟩:=bW h
 refine kr (Oi a0 aF _ bb) _ ?_
 exact ct (bC _ (.inl (cA [.int .i64 aU])))
theorem Ok (a0:List UInt8) (aF:List UInt8) (r:Int) (h:A_ a0 aF=some r):cb a1 72 [.str a0,.str aF] (.int .i64 r) []:=by
 refine fm [0,1] [.tmp 4] Try.func72 KZ (fun fo bC fc=> ?_)
 refine ws _ ?_
 obtain⟨aU,bb,h⟩:=bW h
 refine kr (Oj a0 aF _ bb) _ ?_
 exact ct (bC _ (.inl (cA [.int .i64 aU])))
theorem B7 (a0:aP) (aF:List UInt8) (r:Int) (h:tf a0 aF=some r):cb a1 34 [aM a0,.str aF] (.int .i64 r) []:=by
 refine fm [0,1] [.tmp 4] Try.func34 K2 (fun fo bC fc=> ?_)
 refine ws _ ?_
 obtain⟨aU,bb,h⟩:=bW h
 refine kr (Ok a0.Name aF _ bb) _ ?_
 exact ct (bC _ (.inl (cA [.int .i64 aU])))
theorem Ol (a0:List aP) (aF:List UInt8) (r:Int×Bool) (h:wH a0 aF=some r):cb a1 33 [.slice (a0.map aM),.str aF,.fn 34 []] (.tuple [.int .i64 r.1,.bool r.2]) []:=by
 refine fm [0,1,2] [.tmp 6,.tmp 7] Try.func33 Ld (fun fo bC fc=> ?_)
 refine ws _ ?_
 refine ws _ ?_
 refine ws _ ?_
 refine ch bC (fun ll l5 fq cC=> ?_)
 refine eZ fq (fun l6 ku gk jt cO=> ?_)
 have rO:∀(n:Nat) (fK:Int) (g_:Int),n2 a0 aF n fK g_=some r→gv a1 Bo l6 (J [(0,.slice (a0.map aM)),(1,.str aF),(2,.fn 34 []),(8,.int .i64 (a0.length:Int)),(9,.int .i64 fK),(10,.int .i64 g_)]):=by
  intro gS
  induction gS with
  |zero=>intro fK g_ h;cases(show none=some r from h)
  |succ gS lq=>
   intro fK g_ h
   replace h:tg (n2 a0 aF gS) a0 aF fK g_=some r:=h
   refine iq gk (fun l7 gz gO cu=> ?_)
   refine ch gO (fun mZ ix iD eH=> ?_)
   refine ws _ ?_
   refine cN h (fun Om h=> ?_) (fun Om h=> ?_)
   ·refine cK (ix _ (.inl ?_))
    refine eZ gO (fun l8 ha iw hT ln=> ?_)
    refine eP (And.intro (@hy a1 3 100 .u64 rfl rfl) (And.intro (@Ht .u64 .u64 1 2 (by decide) (by decide)) (@hy a1 100 3 .i64 rfl rfl))) [(0,.slice (a0.map aM)),(1,.str aF),(2,.fn 34 []),(8,.int .i64 (a0.length:Int)),(9,.int .i64 fK),(10,.int .i64 g_),(11,.int .i64 (IntKind.i64.wrap (Int.fdiv (IntKind.u64.wrap (IntKind.i64.wrap (fK+g_))) 2)))] ?_
    obtain⟨aU,e7,h⟩:=bW h
    obtain⟨a8,rS,h⟩:=bW h
    refine wV e7 (B7 aU aF _ rS) _ ?_
    refine cN h (fun rI h=> ?_) (fun rI h=> ?_)
    ·refine wr _ ?_
     exact ha _ (gz _ (.inr ⟨_,dc rfl,lq (IntKind.i64.wrap ((IntKind.i64.wrap (Int.fdiv (IntKind.u64.wrap (IntKind.i64.wrap (fK+g_))) 2))+1)) g_ h⟩))
    ·refine wr _ ?_
     exact ha _ (gz _ (.inr ⟨_,dc rfl,lq fK (IntKind.i64.wrap (Int.fdiv (IntKind.u64.wrap (IntKind.i64.wrap (fK+g_))) 2)) h⟩))
   ·refine hx (eH 0 _ (cu 0 _ (jt _ (l5 _ (.inl ?_)))))
    rcases jV h with⟨od,h⟩|⟨od,h⟩
    ·obtain⟨bQ,m5,h⟩:=bW h
     obtain⟨cC,m0,h⟩:=bW h
     refine eg (dn [(6,.int .i64 fK),(7,.bool (cC==0))] (fun P aJ=> ?_) ?_)
     ·simp only[bt.down,simprocAttr,ft.down,od,m5]
      refine sP (B7 bQ aF _ m0) rfl rfl rfl rfl (.inl (by rfl)) ?_
      simp only[bt.down,simprocAttr,ft.down,od,m5]
      (try simp only[b8.down,simprocAttr,aM,od,m5]at aJ⊢);exact aJ
     exact ct (bC _ (.inl (cA [.int .i64 fK,.bool (cC==0)])))
    ·refine eP od _ ?_
     exact ct (bC _ (.inl (cA [.int .i64 fK,.bool false])))
 obtain⟨n,h⟩:=hV h
 exact ik (.inr ⟨_,dc rfl,rO n 0 (a0.length:Int) h⟩)
theorem On (a0:List aP) (aF:Int) (cj r:List aP) (h:pQ a0 aF cj=some r):cb a1 35 [.aK 2 (a0.map aM),.int .i64 aF,.aK 2 (cj.map aM)] (.aK 2 (r.map aM)) [.hole,.hole,.hole]:=Nu a0 aF cj r h
theorem B8 (a0:List UInt8) (r:(List aP)×Int) (h:th a0=some r):cb a1 8 [.str a0] (.tuple [.aK 2 (r.1.map aM),.int .i64 r.2]) []:=by
 refine fm [0] [.tmp 2,.tmp 3] Try.func8 Lv (fun fo bC fc=> ?_)
 refine ws _ ?_
 refine ws _ ?_
 refine ch bC (fun NO w2 gD bQ=> ?_)
 refine ws _ ?_
 refine eZ gD (fun l6 ku gk jt cO=> ?_)
 have rO:∀(n:Nat) (dG:List aP) (d_:Int),pR a0 n dG d_=some r→gv a1 Bp l6 (J [(0,.str a0),(4,.aK 2 (dG.map aM)),(5,.int .i64 d_)]):=by
  intro gS
  induction gS with
  |zero=>intro dG d_ h;cases(show none=some r from h)
  |succ gS lq=>
   intro dG d_ h
   replace h:wI (pR a0 gS) a0 dG d_=some r:=h
   refine iq gk (fun l7 gz gO cu=> ?_)
   refine ch gO (fun mZ ix iD eH=> ?_)
   refine eg (dn [(0,.str a0),(4,.aK 2 (dG.map aM)),(5,.int .i64 d_),(19,.bool ((decide (d_<(a0.length:Int)))&&(decide ((dG.length:Int)<16))))] (fun P aJ=> ?_) ?_)
   ·rcases Bool.eq_false_or_eq_true (decide (d_<(a0.length:Int)))with gW|gW
    ·simp only[bt.down,simprocAttr,ft.down,gW]
     (try simp only[b8.down,simprocAttr,aM,gW]at aJ⊢);exact aJ
    ·simp only[bt.down,simprocAttr,ft.down,gW]
     (try simp only[b8.down,simprocAttr,aM,gW]at aJ⊢);exact aJ
   refine cN h (fun hT h=> ?_) (fun hT h=> ?_)
   ·refine cK (ix _ (.inl ?_))
    refine eZ gO (fun tz jS ky w7 rL=> ?_)
    obtain⟨aU,e7,h⟩:=bW h
    obtain⟨a8,rS,h⟩:=bW h
    refine wV e7 (Og aU _ rS) _ ?_
    refine ch ky (fun tt n15 mX pY=> ?_)
    refine ws _ ?_
    refine cN h (fun kz h=> ?_) (fun kz h=> ?_)
    ·refine ws _ ?_
     exact hx (pY 1 _ (w7 _ (gz _ (.inr ⟨_,dc rfl,lq dG (IntKind.i64.wrap (d_+1)) h⟩))))
    ·refine cK (n15 _ (.inl ?_))
     refine ws _ ?_
     obtain⟨bQ,m0,h⟩:=bW h
     refine eg (dn [(0,.str a0),(4,.aK 2 (dG.map aM)),(5,.int .i64 (IntKind.i64.wrap (d_+a8.2.1))),(6,.bc (aM a8.1)),(9,.int .i64 bQ.1),(10,.bool bQ.2)] (fun P aJ=> ?_) ?_)
     ·simp only[bt.down,simprocAttr,dF,hB,aM]
      refine gw (Ol dG a8.1.Name _ m0) rfl rfl (by simp only[bt.down,simprocAttr,dF,hB,aM,iS,iT,iU,hL, @il _ aM aM (fun _=>iu _)]<;>rfl) rfl (.inr (by rfl)) ?_
      simp only[bt.down,simprocAttr,dF,hB,aM]
      (try simp only[b8.down,simprocAttr,aM]at aJ⊢);exact aJ
     refine ws _ ?_
     refine cN h (fun w6 h=> ?_) (fun w6 h=> ?_)
     ·obtain⟨cC,l4,h⟩:=bW h
      refine mM (dn [(0,.str a0),(4,.aK 2 (cC.map aM)),(5,.int .i64 (IntKind.i64.wrap (d_+a8.2.1)))] (fun P aJ=> ?_) ?_)
      ·simp only[bt.down,simprocAttr,ft.down,(show∀s,c0 a1 s 22 1 [(0,.agg [.str a8.1.Name,.str a8.1.dP])]=some (.aK 2 [.agg [.str a8.1.Name,.str a8.1.dP]],s)from fun s=>by kernel_rfl)]
       refine pr [⟨.h 4 [],true,_,.hole⟩,⟨.int .i64 bQ.1,false,_,.hole⟩,⟨.h 47 [],true,_,.hole⟩] (On dG bQ.1 [a8.1] _ l4) rfl rfl rfl (by simp only[bt.down,simprocAttr,ft.down,(show∀s,c0 a1 s 22 1 [(0,.agg [.str a8.1.Name,.str a8.1.dP])]=some (.aK 2 [.agg [.str a8.1.Name,.str a8.1.dP]],s)from fun s=>by kernel_rfl),nX,pt,pv,iS,iT,iU,hL,or_true,true_or, @il _ aM aM (fun _=>iu _),j.shares, @il _ aM aM (fun _=>iu _)]) rfl rfl (.inl rfl) ?_
       simp only[bt.down,simprocAttr,ft.down,(show∀s,c0 a1 s 22 1 [(0,.agg [.str a8.1.Name,.str a8.1.dP])]=some (.aK 2 [.agg [.str a8.1.Name,.str a8.1.dP]],s)from fun s=>by kernel_rfl),pw]
       (try simp only[b8.down,simprocAttr,aM,(show∀s,c0 a1 s 22 1 [(0,.agg [.str a8.1.Name,.str a8.1.dP])]=some (.aK 2 [.agg [.str a8.1.Name,.str a8.1.dP]],s)from fun s=>by kernel_rfl)]at aJ⊢);exact aJ
      exact jS _ (gz _ (.inr ⟨_,dc rfl,lq cC (IntKind.i64.wrap (d_+a8.2.1)) h⟩))
     ·exact cK (jS _ (gz _ (.inr ⟨_,dc rfl,lq dG (IntKind.i64.wrap (d_+a8.2.1)) h⟩)))
   ·refine hx (eH 0 _ (cu 0 _ (jt _ (w2 _ (.inl ?_)))))
    refine ch bC (fun B3 n26 rR B4=> ?_)
    refine ws _ ?_
    refine cN h (fun hU h=> ?_) (fun hU h=> ?_)
    ·refine ws _ ?_
     exact ct (rR _ (.inr ⟨[(2,.aK 2 []),(3,.int .i64 3)],vU [] rfl (vW (t:=2) (d:=.bG) rfl rfl (.lO _) (by decide) (sQ rfl (vV))),cA [.aK 2 [],.int .i64 3]⟩))
    ·refine cK (n26 _ (.inl ?_))
     refine ws _ ?_
     exact ct (bC _ (.inl (cA [.aK 2 (dG.map aM),.int .i64 0])))
 obtain⟨n,h⟩:=hV h
 exact ik (.inr ⟨_,vU [] rfl (sQ (t:=0) (d:=.str a0) rfl (vW (t:=4) (d:=.bG) (aT:=.aK 2 []) rfl rfl (.lO _) (by decide) (sQ (t:=5) (d:=.int .i64 0) rfl (vV)))),rO n [] 0 h⟩)
theorem Oo (a0:aP) (aF:aP) (r:Bool) (h:ti a0 aF=some r):cb a1 36 [aM a0,aM aF] (.bool r) []:=by
 refine fm [0,1] [.tmp 4] Try.func36 LG (fun fo bC fc=> ?_)
 refine ws _ ?_
 refine ch bC (fun iQ eX cw a8=> ?_)
 refine ws _ ?_
 refine cN h (fun dL h=> ?_) (fun dL h=> ?_)
 ·refine ws _ ?_
  exact ct (cw _ (.inl (cA [.bool false])))
 ·refine cK (eX _ (.inl ?_))
  refine ch bC (fun l7 gz gO cu=> ?_)
  refine ws _ ?_
  refine cN h (fun h8 h=> ?_) (fun h8 h=> ?_)
  ·refine ws _ ?_
   exact ct (gO _ (.inl (cA [.bool false])))
  ·refine cK (gz _ (.inl ?_))
   refine ws _ ?_
   exact ct (bC _ (.inl (cA [.bool true])))
theorem tC (a0:List aP) (aF:List aP) (r:Bool) (h:pT a0 aF=some r):cb a1 9 [.slice (a0.map aM),.slice (aF.map aM)] (.bool r) []:=by
 refine fm [0,1] [.tmp 4] Try.func9 gW (fun fo bC fc=> ?_)
 refine ws _ ?_
 refine ch bC (fun iQ eX cw a8=> ?_)
 refine ws _ ?_
 refine cN h (fun dL h=> ?_) (fun dL h=> ?_)
 ·refine ws _ ?_
  exact ct (cw _ (.inl (cA [.bool false])))
 ·refine cK (eX _ (.inl ?_))
  refine ch bC (fun l7 gz gO cu=> ?_)
  refine ws _ ?_
  refine eZ gO (fun rJ rK pZ h8 hQ=> ?_)
  have rF:∀(n:Nat) (iX:Int),pS a0 aF n iX=some r→gv a1 Bq rJ (J [(0,.slice (a0.map aM)),(1,.slice (aF.map aM)),(5,.int .i64 iX)]):=by
   intro ks
   induction ks with
   |zero=>intro iX h;cases(show none=some r from h)
   |succ ks pX=>
    intro iX h
    replace h:tj (pS a0 aF ks) a0 aF iX=some r:=h
    refine iq pZ (fun rH jQ je jO=> ?_)
    refine ch je (fun l8 ha iw ln=> ?_)
    refine ws _ ?_
    refine cN h (fun xa h=> ?_) (fun xa h=> ?_)
    ·refine cK (ha _ (.inl ?_))
     refine ch je (fun rM lp m1 rN=> ?_)
     refine eZ m1 (fun pW l3 n9 mW rE=> ?_)
     obtain⟨aU,iy,h⟩:=bW h
     obtain⟨a8,jT,h⟩:=bW h
     obtain⟨bQ,kx,h⟩:=bW h
     refine kk rfl (i_ [(0,.slice (a0.map aM)),(1,.slice (aF.map aM)),(5,.int .i64 iX),(26,.bool (!bQ))] (fun P aJ=> ?_) ?_)
     ·simp only[gI.down,simprocAttr,ft.down,iy,jT]
      refine pg (Oo aU a8 _ kx) rfl rfl rfl rfl (.inl (by rfl)) ?_
      simp only[gI.down,simprocAttr,ft.down,iy,jT]
      refine⟨jb (by kernel_rfl),?_⟩
      (try simp only[b8.down,simprocAttr,aM,iy,jT]at aJ⊢);exact aJ
     refine cN h (fun od h=> ?_) (fun od h=> ?_)
     ·refine ws _ ?_
      exact ct (n9 _ (.inl (cA [.bool false])))
     ·refine cK (l3 _ (lp _ (.inl ?_)))
      refine wr _ ?_
      exact jQ _ (.inr ⟨_,dc rfl,pX (IntKind.i64.wrap (iX+1)) h⟩)
    ·refine hx (ln 0 _ (jO 0 _ (h8 _ (gz _ (.inl ?_)))))
     refine ws _ ?_
     exact ct (bC _ (.inl (cA [.bool true])))
  obtain⟨n,h⟩:=hV h
  exact ik (.inr ⟨_,dc rfl,rF n 0 h⟩)
theorem tD (a0:Int) (r:(List UInt8)) (h:n3 a0=some r):cb a1 37 [.int .i64 a0] (.str r) []:=by
 refine fm [] [.tmp 2] Try.func37 L3 (fun fo bC fc=> ?_)
 refine ws _ ?_
 refine ch bC (fun iQ eX cw a8=> ?_)
 refine ws _ ?_
 refine cN h (fun dL h=> ?_) (fun dL h=> ?_)
 ·refine ws _ ?_
  exact ct (cw _ (.inl (cA [.str ([109,48]:List UInt8)])))
 ·refine cK (eX _ (.inl ?_))
  refine ws _ ?_
  refine ch bC (fun mZ ix iD eH=> ?_)
  refine eZ iD (fun rJ rK pZ h8 hQ=> ?_)
  have rF:∀(n:Nat) (gy:Int) (eG:List UInt8),mU n gy eG=some r→gv a1 Br rJ (J [(0,.int .i64 gy),(3,.str eG)]):=by
   intro ks
   induction ks with
   |zero=>intro gy eG h;cases(show none=some r from h)
   |succ ks pX=>
    intro gy eG h
    replace h:rp (mU ks) gy eG=some r:=h
    refine iq pZ (fun rH jQ je jO=> ?_)
    refine ch je (fun l8 ha iw ln=> ?_)
    refine ws _ ?_
    refine cN h (fun xa h=> ?_) (fun xa h=> ?_)
    ·refine cK (ha _ (.inl ?_))
     refine eZ je (fun rM lp m1 tw rN=> ?_)
     obtain⟨u16,m4,h⟩:=bW h
     (try simp only[ru.down,Nat.reduceAdd]at m4)
     refine eg (dn [(0,.int .i64 gy),(3,.str ([(lu (IntKind.i64.wrap (48+(Int.tmod gy 10))))]++eG))] (fun P aJ=> ?_) ?_)
     ·simp only[bt.down,simprocAttr,HF,HG,gP, @An .i64 10 (by decide), @hy a1 3 5 .u8 rfl rfl,(show∀s,c0 a1 s 103 1 [(0,.int .u8 (IntKind.u8.wrap (IntKind.i64.wrap (48+(Int.tmod gy 10)))))]=some (.aK 1 [.int .u8 (IntKind.u8.wrap (IntKind.i64.wrap (48+(Int.tmod gy 10))))],s)from fun s=>by kernel_rfl),(@Aj a1 103 9 5 rfl rfl rfl).2.2,Am,Ak,m4,sR,sS]
      (try simp only[b8.down,simprocAttr,gP, @An .i64 10 (by decide), @hy a1 3 5 .u8 rfl rfl,(show∀s,c0 a1 s 103 1 [(0,.int .u8 (IntKind.u8.wrap (IntKind.i64.wrap (48+(Int.tmod gy 10)))))]=some (.aK 1 [.int .u8 (IntKind.u8.wrap (IntKind.i64.wrap (48+(Int.tmod gy 10))))],s)from fun s=>by kernel_rfl),(@Aj a1 103 9 5 rfl rfl rfl).2.2,Am,Ak,m4,sR,sS]at aJ⊢);exact aJ
     refine NF (@GK .i64 10 (by decide)) [(0,.int .i64 (IntKind.i64.wrap (Int.tdiv gy 10))),(3,.str ([(lu (IntKind.i64.wrap (48+(Int.tmod gy 10))))]++eG))] ?_
     exact lp _ (jQ _ (.inr ⟨_,dc rfl,pX (IntKind.i64.wrap (Int.tdiv gy 10)) ([(lu (IntKind.i64.wrap (48+(Int.tmod gy 10))))]++eG) h⟩))
    ·refine hx (ln 0 _ (jO 0 _ (h8 _ (ix _ (.inl ?_)))))
     obtain⟨Qp,kx,h⟩:=bW h
     (try simp only[ru.down,Nat.reduceAdd]at kx)
     refine eg (dn [(2,.str (([109]:List UInt8)++eG))] (fun P aJ=> ?_) ?_)
     ·simp only[bt.down,simprocAttr,kx,sR,sS]
      (try simp only[b8.down,simprocAttr,kx,sR,sS]at aJ⊢);exact aJ
     exact ct (bC _ (.inl (cA [.str (([109]:List UInt8)++eG)])))
  obtain⟨n,h⟩:=hV h
  exact ik (.inr ⟨_,dc rfl,rF n a0 ([]:List UInt8) h⟩)
theorem Oq (a0:List aP) (aF:Int) (r:Int×(List aP)) (h:tl a0 aF=some r):cb a1 10 [.aK 2 (a0.map aM),.int .i64 aF] (.int .i64 r.1) [.aK 2 (r.2.map aM),.hole]:=by
 refine fm [0] [.tmp 4] Try.func10 Md (fun fo bC fc=> ?_)
 refine ws _ ?_
 refine ch bC (fun iQ eX cw a8=> ?_)
 refine ws _ ?_
 refine eZ cw (fun ll l5 fq dL cC=> ?_)
 have n_:∀(n:Nat) (gV:List aP) (cW:Int) (cG:Int),n4 n gV cW cG=some r→gv a1 Bs ll (J [(0,.aK 2 (gV.map aM)),(1,.int .i64 cW),(5,.int .i64 cG)]):=by
  intro e6
  induction e6 with
  |zero=>intro gV cW cG h;cases(show none=some r from h)
  |succ e6 mY=>
   intro gV cW cG h
   replace h:tk (n4 e6) gV cW cG=some r:=h
   refine iq fq (fun l6 ku gk cO=> ?_)
   refine ch gk (fun l7 gz gO cu=> ?_)
   refine ws _ ?_
   refine cN h (fun h8 h=> ?_) (fun h8 h=> ?_)
   ·refine cK (gz _ (.inl ?_))
    refine ch gk (fun rH jQ je jO=> ?_)
    refine eZ je (fun l8 ha iw hT ln=> ?_)
    obtain⟨aU,jq,h⟩:=bW h
    obtain⟨a8,e7,h⟩:=bW h
    refine eg (dn [(0,.aK 2 ((List.set gV (Int.toNat cG) (aP.mk aU a8.dP)).map aM)),(1,.int .i64 cW),(5,.int .i64 cG)] (fun P aJ=> ?_) ?_)
    ·simp only[bt.down,simprocAttr,ft.down,e7,me e7,pq,hK]
     refine gw (tD cW _ jq) rfl rfl rfl rfl (.inl (by rfl)) ?_
     simp only[bt.down,simprocAttr,ft.down,e7,me e7,pq,hK]
     (try simp only[b8.down,simprocAttr,aM,e7,me e7,pq,hK]at aJ⊢);exact aJ
    refine ws [(0,.aK 2 ((List.set gV (Int.toNat cG) (aP.mk aU a8.dP)).map aM)),(1,.int .i64 (IntKind.i64.wrap (cW+1))),(5,.int .i64 cG)] ?_
    obtain⟨bQ,iy,h⟩:=bW h
    obtain⟨cC,jT,h⟩:=bW h
    refine eg (dn [(0,.aK 2 ((List.set (List.set gV (Int.toNat cG) (aP.mk aU a8.dP)) (Int.toNat cG) (aP.mk cC.Name bQ)).map aM)),(1,.int .i64 (IntKind.i64.wrap (cW+1))),(5,.int .i64 cG)] (fun P aJ=> ?_) ?_)
    ·simp only[bt.down,simprocAttr,ft.down,jT,me jT,pq,hK]
     refine gw (tD (IntKind.i64.wrap (cW+1)) _ iy) rfl rfl rfl rfl (.inl (by rfl)) ?_
     simp only[bt.down,simprocAttr,ft.down,jT,me jT,pq,hK]
     (try simp only[b8.down,simprocAttr,aM,jT,me jT,pq,hK]at aJ⊢);exact aJ
    refine wr [(0,.aK 2 ((List.set (List.set gV (Int.toNat cG) (aP.mk aU a8.dP)) (Int.toNat cG) (aP.mk cC.Name bQ)).map aM)),(1,.int .i64 (IntKind.i64.wrap ((IntKind.i64.wrap (cW+1))+1))),(5,.int .i64 cG)] ?_
    refine ha _ (jQ _ (.inl ?_))
    refine wr [(0,.aK 2 ((List.set (List.set gV (Int.toNat cG) (aP.mk aU a8.dP)) (Int.toNat cG) (aP.mk cC.Name bQ)).map aM)),(1,.int .i64 (IntKind.i64.wrap ((IntKind.i64.wrap (cW+1))+1))),(5,.int .i64 (IntKind.i64.wrap (cG+1)))] ?_
    exact ku _ (.inr ⟨_,dc rfl,mY (List.set (List.set gV (Int.toNat cG) (aP.mk aU a8.dP)) (Int.toNat cG) (aP.mk cC.Name bQ)) (IntKind.i64.wrap ((IntKind.i64.wrap (cW+1))+1)) (IntKind.i64.wrap (cG+1)) h⟩)
   ·refine hx (cu 0 _ (cO 0 _ (dL _ (eX _ (.inl ?_)))))
    refine ws _ ?_
    exact ct (bC _ (.inl (sN [.int .i64 cW] rfl (by cases mc h;rfl) (by decide) (v5 (v7 (by cases mc h;rfl) rfl rfl rfl (GR (v8)))))))
 obtain⟨n,h⟩:=hV h
 exact ik (.inr ⟨_,dc rfl,n_ n a0 aF 0 h⟩)
theorem B9 (a0:List aP) (aF:Int) (r:Int) (h:rq a0 aF=some r):cb a1 11 [.slice (a0.map aM),.int .i64 aF] (.int .i64 r) []:=by
 refine fm [0] [.tmp 4] Try.func11 Ms (fun fo bC fc=> ?_)
 refine ws _ ?_
 refine ch bC (fun iQ eX cw a8=> ?_)
 refine ws _ ?_
 refine eZ cw (fun ll l5 fq dL cC=> ?_)
 have n_:∀(n:Nat) (cW:Int) (cG:Int),n5 a0 n cW cG=some r→gv a1 Bt ll (J [(0,.slice (a0.map aM)),(1,.int .i64 cW),(5,.int .i64 cG)]):=by
  intro e6
  induction e6 with
  |zero=>intro cW cG h;cases(show none=some r from h)
  |succ e6 mY=>
   intro cW cG h
   replace h:tm (n5 a0 e6) a0 cW cG=some r:=h
   refine iq fq (fun l6 ku gk cO=> ?_)
   refine ch gk (fun l7 gz gO cu=> ?_)
   refine ws _ ?_
   refine cN h (fun h8 h=> ?_) (fun h8 h=> ?_)
   ·refine cK (gz _ (.inl ?_))
    refine ch gk (fun rH jQ je jO=> ?_)
    refine eZ je (fun l8 ha iw hT ln=> ?_)
    refine ch iw (fun tz jS ky rL=> ?_)
    obtain⟨aU,e7,h⟩:=bW h
    obtain⟨a8,rS,h⟩:=bW h
    refine kk rfl (i_ [(0,.slice (a0.map aM)),(1,.int .i64 cW),(5,.int .i64 cG),(19,.bool (!(aU.Name==a8)))] (fun P aJ=> ?_) ?_)
    ·simp only[gI.down,simprocAttr,ft.down,e7]
     refine pg (tD cW _ rS) rfl rfl rfl rfl (.inl (by rfl)) ?_
     simp only[gI.down,simprocAttr,ft.down,e7]
     refine⟨jb (by kernel_rfl),?_⟩
     (try simp only[b8.down,simprocAttr,aM,e7]at aJ⊢);exact aJ
    refine cN h (fun rI h=> ?_) (fun rI h=> ?_)
    ·refine ws _ ?_
     exact ct (ky _ (.inl (cA [.int .i64 (-1)])))
    ·refine cK (jS _ (.inl ?_))
     refine ws _ ?_
     refine ch iw (fun Qq n18 Ot Qr=> ?_)
     obtain⟨bQ,m5,h⟩:=bW h
     refine kk rfl (i_ [(0,.slice (a0.map aM)),(1,.int .i64 (IntKind.i64.wrap (cW+1))),(5,.int .i64 cG),(29,.bool (!(aU.dP==bQ)))] (fun P aJ=> ?_) ?_)
     ·simp only[gI.down,simprocAttr,ft.down,e7]
      refine pg (tD (IntKind.i64.wrap (cW+1)) _ m5) rfl rfl rfl rfl (.inl (by rfl)) ?_
      simp only[gI.down,simprocAttr,ft.down,e7]
      refine⟨jb (by kernel_rfl),?_⟩
      (try simp only[b8.down,simprocAttr,aM,e7]at aJ⊢);exact aJ
     refine cN h (fun jR h=> ?_) (fun jR h=> ?_)
     ·refine ws _ ?_
      exact ct (Ot _ (.inl (cA [.int .i64 (-1)])))
     ·refine cK (n18 _ (.inl ?_))
      refine wr _ ?_
      refine ha _ (jQ _ (.inl ?_))
      refine wr _ ?_
      exact ku _ (.inr ⟨_,dc rfl,mY (IntKind.i64.wrap ((IntKind.i64.wrap (cW+1))+1)) (IntKind.i64.wrap (cG+1)) h⟩)
   ·refine hx (cu 0 _ (cO 0 _ (dL _ (eX _ (.inl ?_)))))
    refine ws _ ?_
    exact ct (bC _ (.inl (cA [.int .i64 cW])))
 obtain⟨n,h⟩:=hV h
 exact ik (.inr ⟨_,dc rfl,n_ n aF 0 h⟩)
theorem Ou (a0:List UInt8) (r:Bool) (h:wJ a0=some r):cb a1 3 [.str a0] (.bool r) []:=by
 refine fm [0] [.tmp 2] Try.func3 ee (fun fo bC fc=> ?_)
 refine ws _ ?_
 refine ch bC (fun iQ eX cw a8=> ?_)
 refine ws _ ?_
 refine cN h (fun dL h=> ?_) (fun dL h=> ?_)
 ·refine ws _ ?_
  exact ct (cw _ (.inl (cA [.bool true])))
 ·refine cK (eX _ (.inl ?_))
  obtain⟨aU,bf,h⟩:=bW h
  refine kr (NX a0 _ bf) _ ?_
  obtain⟨a8,h3,h⟩:=bW h
  refine kr (B8 a0 _ h3) _ ?_
  refine ch bC (fun l8 ha iw ln=> ?_)
  obtain⟨bQ,jq,h⟩:=bW h
  refine eg (dn [(0,.str a0),(3,.aK 2 (aU.1.map aM)),(4,.int .i64 aU.2),(5,.aK 2 (a8.1.map aM)),(32,.bool ((!bQ)||(a8.2 !=aU.2)))] (fun P aJ=> ?_) ?_)
  ·rcases Bool.eq_false_or_eq_true (bQ)with l_|l_
   ·simp only[bt.down,simprocAttr,aM,l_]
    refine gw (tC a8.1 aU.1 _ jq) rfl rfl (by simp only[bt.down,simprocAttr,aM,l_,iS,iT,iU,hL, @il _ aM aM (fun _=>iu _), @il _ aM aM (fun _=>iu _)]<;>rfl) rfl (.inr (by rfl)) ?_
    simp only[bt.down,simprocAttr,aM,l_]
    (try simp only[b8.down,simprocAttr,aM,l_]at aJ⊢);exact aJ
   ·simp only[bt.down,simprocAttr,aM,l_]
    refine gw (tC a8.1 aU.1 _ jq) rfl rfl (by simp only[bt.down,simprocAttr,aM,l_,iS,iT,iU,hL, @il _ aM aM (fun _=>iu _), @il _ aM aM (fun _=>iu _)]<;>rfl) rfl (.inr (by rfl)) ?_
    simp only[bt.down,simprocAttr,aM,l_]
    (try simp only[b8.down,simprocAttr,aM,l_]at aJ⊢);exact aJ
  refine cN h (fun mW h=> ?_) (fun mW h=> ?_)
  ·refine ws _ ?_
   exact ct (iw _ (.inl (cA [.bool false])))
  ·refine cK (ha _ (.inl ?_))
   refine ws _ ?_
   obtain⟨cC,kx,h⟩:=bW h
   refine eg (dn [(0,.str a0),(3,.aK 2 (aU.1.map aM)),(4,.int .i64 aU.2),(5,.aK 2 (cC.2.map aM)),(7,.int .i64 cC.1)] (fun P aJ=> ?_) ?_)
   ·simp only[bt.down,simprocAttr,aM]
    refine pr [⟨.h 5 [],true,_,_⟩,⟨.int .i64 1,false,_,.hole⟩] (Oq a8.1 1 _ kx) rfl rfl rfl (by simp only[bt.down,simprocAttr,aM,nX,pt,pv,iS,iT,iU,hL,or_true,true_or, @il _ aM aM (fun _=>iu _)]) rfl rfl (.inl rfl) ?_
    simp only[bt.down,simprocAttr,aM,pw]
    (try simp only[b8.down,simprocAttr,aM]at aJ⊢);exact aJ
   refine ws _ ?_
   obtain⟨cO,m0,h⟩:=bW h
   refine eg (dn [(0,.str a0),(3,.aK 2 (aU.1.map aM)),(4,.int .i64 aU.2),(5,.aK 2 (cC.2.map aM)),(7,.int .i64 cC.1),(8,.int .i64 cO)] (fun P aJ=> ?_) ?_)
   ·simp only[bt.down,simprocAttr,aM]
    refine gw (B9 cC.2 1 _ m0) rfl rfl (by simp only[bt.down,simprocAttr,aM,iS,iT,iU,hL, @il _ aM aM (fun _=>iu _)]<;>rfl) rfl (.inr (by rfl)) ?_
    simp only[bt.down,simprocAttr,aM]
    (try simp only[b8.down,simprocAttr,aM]at aJ⊢);exact aJ
   refine ch bC (fun tA n22 p0 w8=> ?_)
   refine ws _ ?_
   refine cN h (fun lk h=> ?_) (fun lk h=> ?_)
   ·refine ws _ ?_
    exact ct (p0 _ (.inl (cA [.bool false])))
   ·refine cK (n22 _ (.inl ?_))
    refine ch bC (fun B3 n26 rR B4=> ?_)
    refine ws _ ?_
    refine cN h (fun hU h=> ?_) (fun hU h=> ?_)
    ·refine ws _ ?_
     exact ct (rR _ (.inl (cA [.bool false])))
    ·refine cK (n26 _ (.inl ?_))
     obtain⟨cu,w4,h⟩:=bW h
     refine kr (B8 a0 _ w4) _ ?_
     refine ch bC (fun Qs n32 Ov Qt=> ?_)
     obtain⟨eH,B_,h⟩:=bW h
     refine eg (dn [(5,.aK 2 (cC.2.map aM)),(7,.int .i64 cC.1),(57,.bool ((!eH)||(cu.2 !=aU.2)))] (fun P aJ=> ?_) ?_)
     ·rcases Bool.eq_false_or_eq_true (eH)with ma|ma
      ·simp only[bt.down,simprocAttr,aM,ma]
       refine gw (tC cu.1 aU.1 _ B_) rfl rfl (by simp only[bt.down,simprocAttr,aM,ma,iS,iT,iU,hL, @il _ aM aM (fun _=>iu _), @il _ aM aM (fun _=>iu _)]<;>rfl) rfl (.inr (by rfl)) ?_
       simp only[bt.down,simprocAttr,aM,ma]
       (try simp only[b8.down,simprocAttr,aM,ma]at aJ⊢);exact aJ
      ·simp only[bt.down,simprocAttr,aM,ma]
       refine gw (tC cu.1 aU.1 _ B_) rfl rfl (by simp only[bt.down,simprocAttr,aM,ma,iS,iT,iU,hL, @il _ aM aM (fun _=>iu _), @il _ aM aM (fun _=>iu _)]<;>rfl) rfl (.inr (by rfl)) ?_
       simp only[bt.down,simprocAttr,aM,ma]
       (try simp only[b8.down,simprocAttr,aM,ma]at aJ⊢);exact aJ
     refine cN h (fun Ow h=> ?_) (fun Ow h=> ?_)
     ·refine ws _ ?_
      exact ct (Ov _ (.inl (cA [.bool false])))
     ·refine cK (n32 _ (.inl ?_))
      refine ws _ ?_
      obtain⟨hQ,Ox,h⟩:=bW h
      refine eg (dn [(7,.int .i64 cC.1),(8,.int .i64 hQ)] (fun P aJ=> ?_) ?_)
      ·simp only[bt.down,simprocAttr,aM]
       refine gw (B9 cC.2 1 _ Ox) rfl rfl (by simp only[bt.down,simprocAttr,aM,iS,iT,iU,hL, @il _ aM aM (fun _=>iu _)]<;>rfl) rfl (.inr (by rfl)) ?_
       simp only[bt.down,simprocAttr,aM]
       (try simp only[b8.down,simprocAttr,aM]at aJ⊢);exact aJ
      refine ch bC (fun Qu Oy Oz Qv=> ?_)
      refine ws _ ?_
      refine cN h (fun OA h=> ?_) (fun OA h=> ?_)
      ·refine ws _ ?_
       exact ct (Oz _ (.inl (cA [.bool false])))
      ·refine cK (Oy _ (.inl ?_))
       refine ch bC (fun Qw OB OC Qx=> ?_)
       refine ws _ ?_
       refine cN h (fun OD h=> ?_) (fun OD h=> ?_)
       ·refine ws _ ?_
        exact ct (OC _ (.inl (cA [.bool false])))
       ·refine cK (OB _ (.inl ?_))
        refine ws _ ?_
        exact ct (bC _ (.inl (cA [.bool true])))
end Go.Proofs.Ytpddiknnnoomoaa
