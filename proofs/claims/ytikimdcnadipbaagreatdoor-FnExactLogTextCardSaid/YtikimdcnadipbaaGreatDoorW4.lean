/- Part of a proof that a law returns true for every input. No condition. -/
import Derived.Test.YtikimdcnadipbaaGreatDoorSl
namespace Go.Proofs.YtikimdcnadipbaaGreatDoor
open Go Go.bZ Go.eL
set_option maxRecDepth 100000
set_option maxHeartbeats 800000
set_option linter.unusedSimpArgs false
set_option linter.unusedVariables false
theorem cU (fx:List Nat) (eg:List ResultVar) {f:FuncId} {fn:Func} {c:Code} {dF:ad} {ins outs:List I} {r:I} (bc:aO.P.funcs[f]? =some fn) (U:bR ⟨fn.ntmps,fx⟩ c=some dF.strip)
 (yd:∀Q:Exit→ag→Prop,(∀s,eo (bZ.Ends aO fx eg r outs) s→Q .ret s)→(∀s,eo (bZ.Ends aO fx eg r outs) s→Q .normal s)→ca aO dF Q (R (num 0 ins))) (J:fn.body=some c:=by rfl) (iz:(fn.name== "runtime.NumGoroutine")=false:=by rfl) (aQ:ins.length≤fn.ntmps:=by exact Nat.le_of_ble_eq_true rfl) (eu:fn.results.toList=eg:=by rfl) (ah:dF.plain=true:=by kernel_rfl):bj aO f ins r outs:=
 bj.D1 LX eg (num 0 ins) bc J iz U aQ eu rfl yd ah
def hB:=PLift.up (And.intro @h2 (And.intro @u9 (And.intro @eU (And.intro @mx (And.intro @u_ (And.intro @ot (And.intro @va (And.intro @k7 (And.intro @vb (And.intro @LY (And.intro @my (And.intro @ea.eq_1 (And.intro @b1.eq_1 (And.intro @b4.eq_1 (And.intro @fK.eq_1 @bW.eq_1)))))))))))))))
theorem ws {Q:Exit→ag→Prop} {l:List (Nat×I)} {ros:List bn} {k:List Nat} {b:ad} (cX:List (Nat×I)) (al:ca aO b Q (R cX)) (h:∀P:List (Nat×I)→Prop,P cX→bL aO (R l) ros none (fun _ s=>P (gA k s)):=by
 intro P aM
 simp only[bf.down,simprocAttr,hB.down]
 (try simp only[cm.down,simprocAttr,hB.down]at aM⊢)
 exact aM):ca aO (.seq (.cB ros (some k)) b) Q (R l):=
 dw (cQ cX (h) al)
theorem fo {Q:Exit→ag→Prop} {l:List (Nat×I)} {ros:List bn} {k:List Nat} {b:ad} {g:FuncId} {ds:List I} {r:I} (ok:bj aO g ds r []) (cX:List (Nat×I)) (al:ca aO b Q (R cX)) (h:bj aO g ds r []→∀P:List (Nat×I)→Prop,P cX→bL aO (R l) ros none (fun _ s=>P (gA k s)):=by
 intro pQ P aM
 (try simp only[bf.down,simprocAttr,hB.down])
 refine fa pQ rfl rfl rfl rfl (.inl (by rfl)) ?_
 simp only[bf.down,simprocAttr,hB.down]
 (try simp only[cm.down,simprocAttr,hB.down]at aM⊢)
 exact aM):ca aO (.seq (.cB ros (some k)) b) Q (R l):=
 dw (cQ cX (h ok) al)
theorem fz {F:Prop} (aW:F) {Q:Exit→ag→Prop} {l:List (Nat×I)} {ros:List bn} {k:List Nat} {b:ad} (cX:List (Nat×I)) (al:ca aO b Q (R cX)) (h:F→∀P:List (Nat×I)→Prop,P cX→bL aO (R l) ros none (fun _ s=>P (gA k s)):=by
 intro aW P aM
 simp only[bf.down,simprocAttr,hB.down,aW]
 (try simp only[cm.down,simprocAttr,hB.down,aW]at aM⊢)
 exact aM):ca aO (.seq (.cB ros (some k)) b) Q (R l):=
 dw (cQ cX (h aW) al)
theorem hK {F:Prop} (aW:F) {Q:Exit→ag→Prop} {l:List (Nat×I)} {ros:List bn} {k:List Nat} {b:ad} {g:FuncId} {ds:List I} {r:I} (ok:bj aO g ds r []) (cX:List (Nat×I)) (al:ca aO b Q (R cX)) (h:bj aO g ds r []→F→∀P:List (Nat×I)→Prop,P cX→bL aO (R l) ros none (fun _ s=>P (gA k s)):=by
 intro pQ aW P aM
 (try simp only[bf.down,simprocAttr,hB.down,aW])
 refine fa pQ rfl rfl rfl rfl (.inl (by rfl)) ?_
 simp only[bf.down,simprocAttr,hB.down,aW]
 (try simp only[cm.down,simprocAttr,hB.down,aW]at aM⊢)
 exact aM):ca aO (.seq (.cB ros (some k)) b) Q (R l):=
 dw (cQ cX (h ok aW) al)
theorem wr {Q:Exit→ag→Prop} {l:List (Nat×I)} {ros:List bn} {k:List Nat} (cX:List (Nat×I)) (al:Q .normal (R cX)) (h:∀P:List (Nat×I)→Prop,P cX→bL aO (R l) ros none (fun _ s=>P (gA k s)):=by
 intro P aM
 simp only[bf.down,simprocAttr,hB.down]
 (try simp only[cm.down,simprocAttr,hB.down]at aM⊢)
 exact aM):ca aO (.cB ros (some k)) Q (R l):=
 k6 (cQ cX (h) al)
theorem UY {Q:Exit→ag→Prop} {l:List (Nat×I)} {ros:List bn} {k:List Nat} {g:FuncId} {ds:List I} {r:I} (ok:bj aO g ds r []) (cX:List (Nat×I)) (al:Q .normal (R cX)) (h:bj aO g ds r []→∀P:List (Nat×I)→Prop,P cX→bL aO (R l) ros none (fun _ s=>P (gA k s)):=by
 intro pQ P aM
 (try simp only[bf.down,simprocAttr,hB.down])
 refine fa pQ rfl rfl rfl rfl (.inl (by rfl)) ?_
 simp only[bf.down,simprocAttr,hB.down]
 (try simp only[cm.down,simprocAttr,hB.down]at aM⊢)
 exact aM):ca aO (.cB ros (some k)) Q (R l):=
 k6 (cQ cX (h ok) al)
theorem v8 {F:Prop} (aW:F) {Q:Exit→ag→Prop} {l:List (Nat×I)} {ros:List bn} {k:List Nat} (cX:List (Nat×I)) (al:Q .normal (R cX)) (h:F→∀P:List (Nat×I)→Prop,P cX→bL aO (R l) ros none (fun _ s=>P (gA k s)):=by
 intro aW P aM
 simp only[bf.down,simprocAttr,hB.down,aW]
 (try simp only[cm.down,simprocAttr,hB.down,aW]at aM⊢)
 exact aM):ca aO (.cB ros (some k)) Q (R l):=
 k6 (cQ cX (h aW) al)
theorem YO {F:Prop} (aW:F) {Q:Exit→ag→Prop} {l:List (Nat×I)} {ros:List bn} {k:List Nat} {g:FuncId} {ds:List I} {r:I} (ok:bj aO g ds r []) (cX:List (Nat×I)) (al:Q .normal (R cX)) (h:bj aO g ds r []→F→∀P:List (Nat×I)→Prop,P cX→bL aO (R l) ros none (fun _ s=>P (gA k s)):=by
 intro pQ aW P aM
 (try simp only[bf.down,simprocAttr,hB.down,aW])
 refine fa pQ rfl rfl rfl rfl (.inl (by rfl)) ?_
 simp only[bf.down,simprocAttr,hB.down,aW]
 (try simp only[cm.down,simprocAttr,hB.down,aW]at aM⊢)
 exact aM):ca aO (.cB ros (some k)) Q (R l):=
 k6 (cQ cX (h ok aW) al)
def fG:=PLift.up (And.intro @h2 (And.intro @eU (And.intro @k7 @b4.eq_1)))
def iZ:=PLift.up (And.intro @b4.eq_1 @fK.eq_1)
theorem UZ (a0:fl) (aA:Int) (r:Int) (h:s5 a0 aA=some r):bj aO 36 [fK a0,.int .i64 aA] (.int .i64 r) []:=by
 refine cU [0] [.tmp 4] Tryz.func36 Mb (fun cH aR cS=> ?_)
 refine ws _ ?_
 refine ws _ ?_
 refine bz aR (fun tm lh e8 bI=> ?_)
 refine ws _ ?_
 refine b8 h (fun hS h=> ?_) (fun hS h=> ?_)
 ·refine ws _ ?_
  exact bp (e8 _ (.inl (bq [.int .i64 (-1)])))
 ·refine cb (lh _ (.inl ?_))
  refine ws _ ?_
  exact bp (aR _ (.inl (bq [.int .i64 (IntKind.i64.wrap (aA-(a0.Label.length:Int)))])))
theorem U0 (a0:List fl) (aA:Int) (r:Int) (h:vd a0 aA=some r):bj aO 17 [.slice (a0.map fK),.int .i64 aA] (.int .i64 r) []:=by
 refine cU [0] [.tmp 4] Tryz.func17 Mq (fun cH aR cS=> ?_)
 refine ws _ ?_
 refine ws _ ?_
 refine bz aR (fun tm lh e8 bI=> ?_)
 refine ws _ ?_
 refine b8 h (fun hS h=> ?_) (fun hS h=> ?_)
 ·refine ws _ ?_
  exact bp (e8 _ (.inl (bq [.int .i64 (-1)])))
 ·refine cb (lh _ (.inl ?_))
  refine bz aR (fun nA iC hn eh=> ?_)
  refine ws _ ?_
  refine dd hn (fun kz gO gh tn fF=> ?_)
  have tp:∀(n:Nat) (k8:Int) (gf:Int),vc a0 n k8 gf=some r→e_ aO Ei kz (R [(0,.slice (a0.map fK)),(1,.int .i64 k8),(5,.int .i64 gf)]):=by
   intro m16
   induction m16 with
   |zero=>intro k8 gf h;cases(show none=some r from h)
   |succ m16 tq=>
    intro k8 gf h
    replace h:Ec (vc a0 m16) a0 k8 gf=some r:=h
    refine gd gh (fun kA fU gi hz=> ?_)
    refine bz gi (fun nB iD i1 lQ=> ?_)
    refine ws _ ?_
    refine b8 h (fun lR h=> ?_) (fun lR h=> ?_)
    ·refine cb (iD _ (.inl ?_))
     refine bz gi (fun mG jG i6 nC=> ?_)
     refine dd i6 (fun oA ka jH kb oB=> ?_)
     obtain⟨aH,gj,h⟩:=aY h
     obtain⟨aU,iE,h⟩:=aY h
     refine hK gj (UZ aH k8 _ iE) _ ?_
     refine ws _ ?_
     refine b8 h (fun rv h=> ?_) (fun rv h=> ?_)
     ·refine ws _ ?_
      exact bp (jH _ (.inl (bq [.int .i64 (-1)])))
     ·refine cb (ka _ (jG _ (.inl ?_)))
      refine wr _ ?_
      exact fU _ (.inr ⟨_,cu rfl,tq aU (IntKind.i64.wrap (gf+1)) h⟩)
    ·refine ga (lQ 0 _ (hz 0 _ (tn _ (iC _ (.inl ?_)))))
     refine ws _ ?_
     exact bp (aR _ (.inl (bq [.int .i64 k8])))
  obtain⟨n,h⟩:=fW h
  exact gb (.inr ⟨_,cu rfl,tp n (IntKind.i64.wrap (aA-(a0.length:Int))) 0 h⟩)
theorem U1 (a0:fl) (r:b3) (h:s6 a0=some r):bj aO 39 [fK a0] (b4 r) []:=by
 refine cU [0] [.cell 2 68] Tryz.func39 My (fun cH aR cS=> ?_)
 refine ws _ ?_
 refine ws _ ?_
 refine ws _ ?_
 refine ws _ ?_
 refine ws _ ?_
 refine ws _ ?_
 refine ws _ ?_
 exact bp (aR _ (.inl (bq [b4 (b3.mk a0.Choice a0.dJ a0.Second a0.Label)])))
theorem zi (a0:List fl) (r:(List b3)) (h:q5 a0=some r):bj aO 19 [.slice (a0.map fK)] (.aG 4 (r.map b4)) []:=by
 refine cU [0] [.tmp 2] Tryz.func19 MH (fun cH aR cS=> ?_)
 refine ws _ ?_
 obtain⟨YP,aN,h⟩:=aY h
 refine dw (cQ [(0,.slice (a0.map fK)),(3,.aG 4 ((List.replicate (Int.toNat (a0.length:Int)) (b3.mk 0 0 0 ([]:List UInt8))).map b4))] (fun P aM=> ?_) ?_)
 ·simp only[bf.down,simprocAttr,h2,eU,u_,ot,va,k7,b4,fK,(hN aN).1,(hN aN).2.1,(hN aN).2.2,en,List.map_replicate,-Int.reduceNatCast']
  (try simp only[cm.down,simprocAttr,iZ.down,(hN aN).1,(hN aN).2.1,(hN aN).2.2,en,List.map_replicate,-Int.reduceNatCast']at aM⊢);exact aM
 refine bz aR (fun i7 h_ ef bV=> ?_)
 refine ws [(0,.slice (a0.map fK)),(3,.aG 4 ((List.replicate (Int.toNat (a0.length:Int)) (b3.mk 0 0 0 ([]:List UInt8))).map b4)),(4,.int .i64 0)] ?_
 refine dd ef (fun i_ hf fX cP e3=> ?_)
 have tr:∀(n:Nat) (jA:List b3) (eM:Int),ve a0 n jA eM=some r→e_ aO Ej i_ (R [(0,.slice (a0.map fK)),(3,.aG 4 (jA.map b4)),(4,.int .i64 eM)]):=by
  intro m8
  induction m8 with
  |zero=>intro jA eM h;cases(show none=some r from h)
  |succ m8 ts=>
   intro jA eM h
   replace h:Ed (ve a0 m8) a0 jA eM=some r:=h
   refine gd fX (fun nA iC hn eh=> ?_)
   refine bz hn (fun oC lS nD j5=> ?_)
   refine ws _ ?_
   refine b8 h (fun fV h=> ?_) (fun fV h=> ?_)
   ·refine cb (lS _ (.inl ?_))
    refine bz hn (fun nB iD i1 lQ=> ?_)
    refine dd i1 (fun v_ nE pR iF tt=> ?_)
    obtain⟨aH,kB,h⟩:=aY h
    obtain⟨aU,ja,h⟩:=aY h
    obtain⟨bI,jb,h⟩:=aY h
    refine k6 (cQ [(0,.slice (a0.map fK)),(3,.aG 4 ((List.set jA (Int.toNat eM) aU).map b4)),(4,.int .i64 eM)] (fun P aM=> ?_) ?_)
    ·simp only[bf.down,simprocAttr,h2,eU,u_,ot,va,k7,b4,fK,kB,jb,kg jb,mo,hr]
     refine fa (U1 aH _ ja) rfl rfl rfl rfl (.inl (by rfl)) ?_
     simp only[bf.down,simprocAttr,h2,eU,u_,ot,va,k7,b4,fK,kB,jb,kg jb,mo,hr]
     (try simp only[cm.down,simprocAttr,iZ.down,kB,jb,kg jb,mo,hr]at aM⊢);exact aM
    refine nE _ (iD _ (.inl ?_))
    refine wr [(0,.slice (a0.map fK)),(3,.aG 4 ((List.set jA (Int.toNat eM) aU).map b4)),(4,.int .i64 (IntKind.i64.wrap (eM+1)))] ?_
    exact iC _ (.inr ⟨_,cu rfl,ts (List.set jA (Int.toNat eM) aU) (IntKind.i64.wrap (eM+1)) h⟩)
   ·refine ga (j5 0 _ (eh 0 _ (cP _ (h_ _ (.inl ?_)))))
    refine ws _ ?_
    exact bp (aR _ (.inl (bq [.aG 4 (jA.map b4)])))
 obtain⟨n,h⟩:=fW h
 exact gb (.inr ⟨_,cu rfl,tr n (List.replicate (Int.toNat (a0.length:Int)) (b3.mk 0 0 0 ([]:List UInt8))) 0 h⟩)
theorem mH (a0:Int) (aA:Int) (a2:Int) (r:Bool) (h:pE a0 aA a2=some r):bj aO 46 [.int .i64 a0,.int .i64 aA,.int .i64 a2] (.bool r) []:=by
 refine cU [0,1,2] [.tmp 6] Tryz.func46 MJ (fun cH aR cS=> ?_)
 refine ws _ ?_
 refine dw (cQ [(6,.bool ((decide (aA≤a0))&&(decide (a0≤a2))))] (fun P aM=> ?_) ?_)
 ·rcases Bool.eq_false_or_eq_true (decide (aA≤a0))with eH|eH
  ·simp only[bf.down,simprocAttr,eH]
   (try simp only[cm.down,simprocAttr,eH]at aM⊢);exact aM
  ·simp only[bf.down,simprocAttr,eH]
   (try simp only[cm.down,simprocAttr,eH]at aM⊢);exact aM
 exact bp (aR _ (.inl (bq [.bool ((decide (aA≤a0))&&(decide (a0≤a2)))])))
theorem U2 (a0:List UInt8) (r:Int) (h:q6 a0=some r):bj aO 140 [.str a0] (.int .i64 r) []:=by
 refine cU [0] [.tmp 2] Tryz.func140 MT (fun cH aR cS=> ?_)
 refine ws _ ?_
 refine bz aR (fun hG dY cn aU=> ?_)
 refine ws _ ?_
 refine dd cn (fun i7 h_ ef ck bV=> ?_)
 have nF:∀(n:Nat) (j4:Int),nu a0 n j4=some r→e_ aO Ek i7 (R [(0,.str a0),(3,.int .i64 j4)]):=by
  intro m6
  induction m6 with
  |zero=>intro j4 h;cases(show none=some r from h)
  |succ m6 mI=>
   intro j4 h
   replace h:vf (nu a0 m6) a0 j4=some r:=h
   refine gd ef (fun oD jc gK dq=> ?_)
   refine bz gK (fun i_ hf fX e3=> ?_)
   refine ws _ ?_
   refine b8 h (fun dc h=> ?_) (fun dc h=> ?_)
   ·refine cb (hf _ (.inl ?_))
    refine bz gK (fun kz gO gh fF=> ?_)
    refine dd gh (fun kA fU gi fV hz=> ?_)
    obtain⟨aH,jj,h⟩:=aY h
    refine fz jj _ ?_
    refine b8 h (fun lR h=> ?_) (fun lR h=> ?_)
    ·refine ws _ ?_
     exact bp (gi _ (.inl (bq [.int .i64 j4])))
    ·refine cb (fU _ (gO _ (.inl ?_)))
     refine wr _ ?_
     exact jc _ (.inr ⟨_,cu rfl,mI (IntKind.i64.wrap (j4+1)) h⟩)
   ·refine ga (e3 0 _ (dq 0 _ (ck _ (dY _ (.inl ?_)))))
    refine ws _ ?_
    exact bp (aR _ (.inl (bq [.int .i64 (a0.length:Int)])))
 obtain⟨n,h⟩:=fW h
 exact gb (.inr ⟨_,cu rfl,nF n 0 h⟩)
theorem zj (a0:UInt8) (r:Bool) (h:s7 a0=some r):bj aO 135 [.int .u8 (a0.toNat:Int)] (.bool r) []:=by
 refine cU [0] [.tmp 2] Tryz.func135 MW (fun cH aR cS=> ?_)
 refine ws _ ?_
 refine dw (cQ [(2,.bool ((decide (97≤(a0.toNat:Int)))&&(decide ((a0.toNat:Int)≤122))))] (fun P aM=> ?_) ?_)
 ·rcases Bool.eq_false_or_eq_true (decide (97≤(a0.toNat:Int)))with eH|eH
  ·simp only[bf.down,simprocAttr,eH]
   (try simp only[cm.down,simprocAttr,eH]at aM⊢);exact aM
  ·simp only[bf.down,simprocAttr,eH]
   (try simp only[cm.down,simprocAttr,eH]at aM⊢);exact aM
 exact bp (aR _ (.inl (bq [.bool ((decide (97≤(a0.toNat:Int)))&&(decide ((a0.toNat:Int)≤122)))])))
theorem zk (a0:UInt8) (r:Bool) (h:q7 a0=some r):bj aO 136 [.int .u8 (a0.toNat:Int)] (.bool r) []:=by
 refine cU [0] [.tmp 2] Tryz.func136 MZ (fun cH aR cS=> ?_)
 refine ws _ ?_
 refine dw (cQ [(2,.bool ((decide (48≤(a0.toNat:Int)))&&(decide ((a0.toNat:Int)≤57))))] (fun P aM=> ?_) ?_)
 ·rcases Bool.eq_false_or_eq_true (decide (48≤(a0.toNat:Int)))with eH|eH
  ·simp only[bf.down,simprocAttr,eH]
   (try simp only[cm.down,simprocAttr,eH]at aM⊢);exact aM
  ·simp only[bf.down,simprocAttr,eH]
   (try simp only[cm.down,simprocAttr,eH]at aM⊢);exact aM
 exact bp (aR _ (.inl (bq [.bool ((decide (48≤(a0.toNat:Int)))&&(decide ((a0.toNat:Int)≤57)))])))
theorem zl (a0:List UInt8) (r:Bool) (h:s8 a0=some r):bj aO 115 [.str a0] (.bool r) []:=by
 refine cU [0] [.tmp 2] Tryz.func115 Nc (fun cH aR cS=> ?_)
 refine ws _ ?_
 refine bz aR (fun hG dY cn aU=> ?_)
 rcases gH h with⟨ck,h⟩|⟨ck,h⟩
 ·refine fz ck _ ?_
  refine mj rfl ?_
  refine ws _ ?_
  exact bp (cn _ (.inl (bq [.bool false])))
 ·rcases gH h with⟨cP,h⟩|⟨cP,h⟩
  ·refine fz (And.intro ck cP) _ ?_
   refine mj rfl ?_
   refine ws _ ?_
   exact bp (cn _ (.inl (bq [.bool false])))
  ·obtain⟨aH,gz,h⟩:=aY h
   obtain⟨aU,fi,h⟩:=aY h
   refine dw (cQ [(0,.str a0),(16,.bool (!aU))] (fun P aM=> ?_) ?_)
   ·simp only[bf.down,simprocAttr,eU,ck,cP,gz]
    refine h0 (zj aH _ fi) rfl rfl rfl rfl (.inl (by rfl)) ?_
    simp only[bf.down,simprocAttr,eU,ck,cP,gz]
    (try simp only[cm.down,simprocAttr,ck,cP,gz]at aM⊢);exact aM
   refine b8 h (fun fV h=> ?_) (fun fV h=> ?_)
   ·refine ws _ ?_
    exact bp (cn _ (.inl (bq [.bool false])))
   ·refine cb (dY _ (.inl ?_))
    refine bz aR (fun v_ nE pR tt=> ?_)
    refine ws _ ?_
    refine dd pR (fun mG jG i6 pS nC=> ?_)
    have tu:∀(n:Nat) (fE:Int),q9 a0 n fE=some r→e_ aO El mG (R [(0,.str a0),(3,.int .i64 fE)]):=by
     intro m14
     induction m14 with
     |zero=>intro fE h;cases(show none=some r from h)
     |succ m14 ry=>
      intro fE h
      replace h:vg (q9 a0 m14) a0 fE=some r:=h
      refine gd i6 (fun oA ka jH oB=> ?_)
      refine bz jH (fun rz kc lT oE=> ?_)
      refine ws _ ?_
      refine b8 h (fun lU h=> ?_) (fun lU h=> ?_)
      ·refine cb (kc _ (.inl ?_))
       refine bz jH (fun EZ pT wa zm=> ?_)
       refine dd wa (fun U3 wb zn rv U4=> ?_)
       obtain⟨bI,kd,h⟩:=aY h
       obtain⟨bV,kC,h⟩:=aY h
       rcases gH h with⟨lj,h⟩|⟨lj,h⟩
       ·obtain⟨dq,U5,h⟩:=aY h
        refine dw (cQ [(0,.str a0),(3,.int .i64 fE),(34,.bool (!dq))] (fun P aM=> ?_) ?_)
        ·simp only[bf.down,simprocAttr,eU,kd,(pC lj)]
         refine fa (zj bI _ kC) rfl rfl rfl rfl (.inl (by rfl)) ?_
         simp only[bf.down,simprocAttr,eU,kd,(pC lj)]
         refine h0 (zk bI _ U5) rfl rfl rfl rfl (.inl (by rfl)) ?_
         simp only[bf.down,simprocAttr,eU,kd,(pC lj)]
         (try simp only[cm.down,simprocAttr,kd,(pC lj)]at aM⊢);exact aM
        refine b8 h (fun E0 h=> ?_) (fun E0 h=> ?_)
        ·refine ws _ ?_
         exact bp (zn _ (.inl (bq [.bool false])))
        ·refine cb (wb _ (pT _ (.inl ?_)))
         refine wr _ ?_
         exact ka _ (.inr ⟨_,cu rfl,ry (IntKind.i64.wrap (fE+1)) h⟩)
       ·refine hK (And.intro kd (mw lj)) (zj bI _ kC) _ ?_
        refine sQ rfl ?_
        refine cb (wb _ (pT _ (.inl ?_)))
        refine wr _ ?_
        exact ka _ (.inr ⟨_,cu rfl,ry (IntKind.i64.wrap (fE+1)) h⟩)
      ·refine ga (oE 0 _ (oB 0 _ (pS _ (nE _ (.inl ?_)))))
       refine ws _ ?_
       exact bp (aR _ (.inl (bq [.bool true])))
    obtain⟨n,h⟩:=fW h
    exact gb (.inr ⟨_,cu rfl,tu n 0 h⟩)
theorem E1 (a0:List UInt8) (r:Bool) (h:vh a0=some r):bj aO 81 [.str a0] (.bool r) []:=by
 refine cU [0] [.tmp 2] Tryz.func81 Ng (fun cH aR cS=> ?_)
 refine ws _ ?_
 obtain⟨aH,aN,h⟩:=aY h
 refine dw (cQ [(2,.bool (aH&&(!(a0==([116,97,117]:List UInt8)))))] (fun P aM=> ?_) ?_)
 ·rcases Bool.eq_false_or_eq_true (aH)with hV|hV
  ·simp only[bf.down,simprocAttr,hV]
   refine fa (zl a0 _ aN) rfl rfl rfl rfl (.inl (by rfl)) ?_
   simp only[bf.down,simprocAttr,hV]
   (try simp only[cm.down,simprocAttr,hV]at aM⊢);exact aM
  ·simp only[bf.down,simprocAttr,hV]
   refine fa (zl a0 _ aN) rfl rfl rfl rfl (.inl (by rfl)) ?_
   simp only[bf.down,simprocAttr,hV]
   (try simp only[cm.down,simprocAttr,hV]at aM⊢);exact aM
 exact bp (aR _ (.inl (bq [.bool (aH&&(!(a0==([116,97,117]:List UInt8))))])))
theorem U6 (a0:List UInt8) (aA:UInt8) (r:(List (List UInt8))) (h:vk a0 aA=some r):bj aO 141 [.str a0,.int .u8 (aA.toNat:Int)] (.aG 1 (r.map bW)) []:=by
 refine cU [0,1] [.tmp 4] Tryz.func141 Nt (fun cH aR cS=> ?_)
 refine ws _ ?_
 refine fz (show∀s,cF aO s 138 0 []=some (.aG 1 [],s)from fun s=>by kernel_rfl) _ ?_
 refine ws _ ?_
 refine bz aR (fun i7 h_ ef bV=> ?_)
 refine ws _ ?_
 refine dd ef (fun i_ hf fX cP e3=> ?_)
 have zo:∀(n:Nat) (eN:List (List UInt8)) (k9:Int) (hx:Int),ou a0 aA n eN k9 hx=some r→e_ aO En i_ (R [(0,.str a0),(1,.int .u8 (aA.toNat:Int)),(5,.aG 1 (eN.map bW)),(6,.int .i64 k9),(7,.int .i64 hx)]):=by
  intro m10
  induction m10 with
  |zero=>intro eN k9 hx h;cases(show none=some r from h)
  |succ m10 zp=>
   intro eN k9 hx h
   replace h:vj (ou a0 aA m10) a0 aA eN k9 hx=some r:=h
   refine gd fX (fun nA iC hn eh=> ?_)
   refine bz hn (fun oC lS nD j5=> ?_)
   refine ws _ ?_
   refine b8 h (fun fV h=> ?_) (fun fV h=> ?_)
   ·refine cb (lS _ (.inl ?_))
    have E2:∀(q_:List (List UInt8)) (ra:Int) (rb:Int),vi (ou a0 aA m10) a0 aA q_ ra rb=some r→ca aO Em nA (R [(0,.str a0),(1,.int .u8 (aA.toNat:Int)),(5,.aG 1 (q_.map bW)),(6,.int .i64 ra),(7,.int .i64 rb)]):=by
     intro q_ ra rb h
     refine wr _ ?_
     exact iC _ (.inr ⟨_,cu rfl,zp q_ ra (IntKind.i64.wrap (rb+1)) h⟩)
    refine bz hn (fun nB iD i1 lQ=> ?_)
    refine dd i1 (fun tv nG pU lR tw=> ?_)
    obtain⟨aH,ja,h⟩:=aY h
    refine fz ja _ ?_
    refine b8 h (fun kD h=> ?_) (fun kD h=> ?_)
    ·obtain⟨aU,iE,h⟩:=aY h
     obtain⟨wc,iG,h⟩:=aY h
     (try simp only[gg.down,Nat.reduceAdd]at iG)
     refine dw (cQ [(0,.str a0),(1,.int .u8 (aA.toNat:Int)),(5,.aG 1 ((eN++[aU]).map bW)),(7,.int .i64 hx)] (fun P aM=> ?_) ?_)
     ·simp only[bf.down,simprocAttr,eU,my,bW,iE,(show∀s,cF aO s 138 1 [(0,.str aU)]=some (.aG 1 [.str aU],s)from fun s=>by kernel_rfl), @jZ aO 138 138 9 rfl rfl,j0,j1,j2,all_cons,all_nil,iG, @oi _ bW 1 (fun _=>rfl)]
      (try simp only[cm.down,simprocAttr,bW,iE,(show∀s,cF aO s 138 1 [(0,.str aU)]=some (.aG 1 [.str aU],s)from fun s=>by kernel_rfl), @jZ aO 138 138 9 rfl rfl,j0,j1,j2,all_cons,all_nil,iG, @oi _ bW 1 (fun _=>rfl)]at aM⊢);exact aM
     refine wr [(0,.str a0),(1,.int .u8 (aA.toNat:Int)),(5,.aG 1 ((eN++[aU]).map bW)),(6,.int .i64 (IntKind.i64.wrap (hx+1))),(7,.int .i64 hx)] ?_
     exact nG _ (iD _ (.inr ⟨_,cu rfl,E2 (eN++[aU]) (IntKind.i64.wrap (hx+1)) hx h⟩))
    ·exact cb (nG _ (iD _ (.inr ⟨_,cu rfl,E2 eN k9 hx h⟩)))
   ·refine ga (j5 0 _ (eh 0 _ (cP _ (h_ _ (.inl ?_)))))
    obtain⟨bI,kd,h⟩:=aY h
    obtain⟨YQ,kC,h⟩:=aY h
    (try simp only[gg.down,Nat.reduceAdd]at kC)
    refine dw (cQ [(4,.aG 1 ((eN++[bI]).map bW))] (fun P aM=> ?_) ?_)
    ·simp only[bf.down,simprocAttr,eU,my,bW,kd,(show∀s,cF aO s 138 1 [(0,.str bI)]=some (.aG 1 [.str bI],s)from fun s=>by kernel_rfl), @jZ aO 138 138 9 rfl rfl,j0,j1,j2,all_cons,all_nil,kC, @oi _ bW 1 (fun _=>rfl)]
     (try simp only[cm.down,simprocAttr,bW,kd,(show∀s,cF aO s 138 1 [(0,.str bI)]=some (.aG 1 [.str bI],s)from fun s=>by kernel_rfl), @jZ aO 138 138 9 rfl rfl,j0,j1,j2,all_cons,all_nil,kC, @oi _ bW 1 (fun _=>rfl)]at aM⊢);exact aM
    exact bp (aR _ (.inl (bq [.aG 1 ((eN++[bI]).map bW)])))
 obtain⟨n,h⟩:=fW h
 exact gb (.inr ⟨_,cu rfl,zo n [] 0 0 h⟩)
theorem U7 (a0:List UInt8) (r:Int×Bool) (h:vl a0=some r):bj aO 142 [.str a0] (.tuple [.int .i64 r.1,.bool r.2]) []:=by
 refine cU [0] [.tmp 2,.tmp 3] Tryz.func142 NO (fun cH aR cS=> ?_)
 refine ws _ ?_
 refine ws _ ?_
 have zq:∀(ey:Int),re a0 ey=some r→ca aO Eo cH (R [(0,.str a0),(4,.int .i64 ey)]):=by
  intro ey h
  refine bz aR (fun i7 h_ ef bV=> ?_)
  rcases gH h with⟨cP,h⟩|⟨cP,h⟩
  ·refine fz cP _ ?_
   refine mj rfl ?_
   refine ws _ ?_
   exact bp (ef _ (.inl (bq [.int .i64 0,.bool false])))
  ·rcases gH h with⟨dc,h⟩|⟨dc,h⟩
   ·refine fz (And.intro cP dc) _ ?_
    refine mj rfl ?_
    refine ws _ ?_
    exact bp (ef _ (.inl (bq [.int .i64 0,.bool false])))
   ·obtain⟨aH,gT,h⟩:=aY h
    rcases gH h with⟨oF,h⟩|⟨oF,h⟩
    ·refine fz (And.intro cP (And.intro dc (And.intro gT oF))) _ ?_
     refine b8 h (fun iF h=> ?_) (fun iF h=> ?_)
     ·refine ws _ ?_
      exact bp (ef _ (.inl (bq [.int .i64 0,.bool false])))
     ·refine cb (h_ _ (.inl ?_))
      refine ws _ ?_
      refine bz aR (fun oA ka jH oB=> ?_)
      refine ws _ ?_
      refine dd jH (fun zr tx zs oG E3=> ?_)
      have zt:∀(n:Nat) (gF:Int) (hI:Int),lO a0 ey n gF hI=some r→e_ aO zd zr (R [(0,.str a0),(4,.int .i64 ey),(5,.int .i64 gF),(6,.int .i64 hI)]):=by
       intro m24
       induction m24 with
       |zero=>intro gF hI h;cases(show none=some r from h)
       |succ m24 zu=>
        intro gF hI h
        replace h:s_ (lO a0 ey m24) a0 ey gF hI=some r:=h
        refine gd zs (fun U8 zv we E4=> ?_)
        refine bz we (fun EZ pT wa zm=> ?_)
        refine ws _ ?_
        refine b8 h (fun pV h=> ?_) (fun pV h=> ?_)
        ·refine cb (pT _ (.inl ?_))
         refine bz we (fun wg pW nH rA=> ?_)
         refine dd nH (fun U9 zw E5 YR E6=> ?_)
         refine bz E5 (fun wh pX tz wi=> ?_)
         obtain⟨aU,E7,h⟩:=aY h
         obtain⟨bI,zx,h⟩:=aY h
         refine hK E7 (zk aU _ zx) _ ?_
         refine b8 h (fun rB h=> ?_) (fun rB h=> ?_)
         ·refine ws _ ?_
          exact bp (tz _ (.inl (bq [.int .i64 0,.bool false])))
         ·refine cb (pX _ (.inl ?_))
          refine v8 (And.intro E7 (@qX aO 5 2 .i64 rfl rfl)) _ ?_
          refine zw _ (pW _ (.inl ?_))
          refine wr _ ?_
          exact zv _ (.inr ⟨_,cu rfl,zu (IntKind.i64.wrap ((IntKind.i64.wrap (10*gF))+(IntKind.i64.wrap (IntKind.u8.wrap ((aU.toNat:Int)-48))))) (IntKind.i64.wrap (hI+1)) h⟩)
        ·refine ga (zm 0 _ (E4 0 _ (oG _ (ka _ (.inl ?_)))))
         have tA:∀(lN:Int),s9 lN=some r→ca aO ze cH (R [(5,.int .i64 lN)]):=by
          intro lN h
          refine ws _ ?_
          exact bp (aR _ (.inl (bq [.int .i64 lN,.bool true])))
         refine bz aR (fun YS E8 YT YU=> ?_)
         refine ws _ ?_
         refine b8 h (fun U_ h=> ?_) (fun U_ h=> ?_)
         ·refine wr _ ?_
          exact E8 _ (.inr ⟨_,cu rfl,tA (IntKind.i64.wrap (0-gF)) h⟩)
         ·exact cb (E8 _ (.inr ⟨_,cu rfl,tA gF h⟩))
      obtain⟨n,h⟩:=fW h
      exact gb (.inr ⟨_,cu rfl,zt n 0 ey h⟩)
    ·refine fz (And.intro cP (And.intro dc (And.intro gT oF))) _ ?_
     refine sQ rfl ?_
     refine cb (h_ _ (.inl ?_))
     refine ws _ ?_
     refine bz aR (fun YV Va Vb YW=> ?_)
     refine ws _ ?_
     refine dd Vb (fun Vc YX Vd Ve YY=> ?_)
     have zt:∀(n:Nat) (gF:Int) (hI:Int),lO a0 ey n gF hI=some r→e_ aO zd Vc (R [(0,.str a0),(4,.int .i64 ey),(5,.int .i64 gF),(6,.int .i64 hI)]):=by
      intro m24
      induction m24 with
      |zero=>intro gF hI h;cases(show none=some r from h)
      |succ m24 zu=>
       intro gF hI h
       replace h:s_ (lO a0 ey m24) a0 ey gF hI=some r:=h
       refine gd Vd (fun YZ Vf E9 Vg=> ?_)
       refine bz E9 (fun Y0 Vh Y1 Vi=> ?_)
       refine ws _ ?_
       refine b8 h (fun Vj h=> ?_) (fun Vj h=> ?_)
       ·refine cb (Vh _ (.inl ?_))
        refine bz E9 (fun Y2 zy Vk Y3=> ?_)
        refine dd Vk (fun Y4 Vl Vm Y5 Y6=> ?_)
        refine bz Vm (fun Y7 Vn Vo Y8=> ?_)
        obtain⟨bV,E_,h⟩:=aY h
        obtain⟨dq,Vp,h⟩:=aY h
        refine hK E_ (zk bV _ Vp) _ ?_
        refine b8 h (fun Vq h=> ?_) (fun Vq h=> ?_)
        ·refine ws _ ?_
         exact bp (Vo _ (.inl (bq [.int .i64 0,.bool false])))
        ·refine cb (Vn _ (.inl ?_))
         refine v8 (And.intro E_ (@qX aO 5 2 .i64 rfl rfl)) _ ?_
         refine Vl _ (zy _ (.inl ?_))
         refine wr _ ?_
         exact Vf _ (.inr ⟨_,cu rfl,zu (IntKind.i64.wrap ((IntKind.i64.wrap (10*gF))+(IntKind.i64.wrap (IntKind.u8.wrap ((bV.toNat:Int)-48))))) (IntKind.i64.wrap (hI+1)) h⟩)
       ·refine ga (Vi 0 _ (Vg 0 _ (Ve _ (Va _ (.inl ?_)))))
        have tA:∀(lN:Int),s9 lN=some r→ca aO ze cH (R [(5,.int .i64 lN)]):=by
         intro lN h
         refine ws _ ?_
         exact bp (aR _ (.inl (bq [.int .i64 lN,.bool true])))
        refine bz aR (fun Y9 Fa Y_ Za=> ?_)
        refine ws _ ?_
        refine b8 h (fun Vr h=> ?_) (fun Vr h=> ?_)
        ·refine wr _ ?_
         exact Fa _ (.inr ⟨_,cu rfl,tA (IntKind.i64.wrap (0-gF)) h⟩)
        ·exact cb (Fa _ (.inr ⟨_,cu rfl,tA gF h⟩))
     obtain⟨n,h⟩:=fW h
     exact gb (.inr ⟨_,cu rfl,zt n 0 ey h⟩)
 refine bz aR (fun tm lh e8 bI=> ?_)
 rcases gH h with⟨zz,h⟩|⟨zz,h⟩
 ·obtain⟨e3,Vs,h⟩:=aY h
  refine fz (And.intro zz Vs) _ ?_
  refine b8 h (fun Vt h=> ?_) (fun Vt h=> ?_)
  ·refine wr _ ?_
   exact lh _ (.inr ⟨_,cu rfl,zq 1 h⟩)
  ·exact cb (lh _ (.inr ⟨_,cu rfl,zq 0 h⟩))
 ·refine fz zz _ ?_
  refine sQ rfl ?_
  exact cb (lh _ (.inr ⟨_,cu rfl,zq 0 h⟩))
theorem Vu (a0:List UInt8) (r:(List Int)×Bool) (h:ta a0=some r):bj aO 132 [.str a0] (.tuple [.aG 1 (r.1.map b1),.bool r.2]) []:=by
 refine cU [0] [.tmp 2,.tmp 3] Tryz.func132 N9 (fun cH aR cS=> ?_)
 refine ws _ ?_
 obtain⟨aH,aN,h⟩:=aY h
 refine fo (U2 a0 _ aN) _ ?_
 refine bz aR (fun i7 h_ ef bV=> ?_)
 refine ws _ ?_
 refine b8 h (fun cP h=> ?_) (fun cP h=> ?_)
 ·obtain⟨aU,gz,h⟩:=aY h
  refine hK (show∀s,cF aO s 22 0 []=some (.aG 1 [],s)from fun s=>by kernel_rfl) (zl a0 _ gz) _ ?_
  exact bp (ef _ (.inl (bq [.aG 1 [],.bool aU])))
 ·refine cb (h_ _ (.inl ?_))
  refine bz aR (fun kz gO gh fF=> ?_)
  obtain⟨bI,hp,h⟩:=aY h
  obtain⟨bV,jj,h⟩:=aY h
  rcases gH h with⟨lR,h⟩|⟨lR,h⟩
  ·refine hK (And.intro hp (pC lR)) (E1 bI _ jj) _ ?_
   refine mj rfl ?_
   refine ws _ ?_
   exact bp (gh _ (.inr ⟨[(2,.aG 1 []),(3,.bool false)],ml [] rfl (mn (t:=2) (d:=.bu) rfl rfl (.iR _) (by decide) (jY rfl (mm))),bq [.aG 1 [],.bool false]⟩))
  ·obtain⟨dq,ja,h⟩:=aY h
   refine hK (And.intro hp (And.intro (mw lR) ja)) (E1 bI _ jj) _ ?_
   refine b8 h (fun kD h=> ?_) (fun kD h=> ?_)
   ·refine ws _ ?_
    exact bp (gh _ (.inr ⟨[(2,.aG 1 []),(3,.bool false)],ml [] rfl (mn (t:=2) (d:=.bu) rfl rfl (.iR _) (by decide) (jY rfl (mm))),bq [.aG 1 [],.bool false]⟩))
   ·refine cb (gO _ (.inl ?_))
    obtain⟨e3,iG,h⟩:=aY h
    obtain⟨eh,oH,h⟩:=aY h
    refine hK iG (U6 e3 (44:UInt8) _ oH) _ ?_
    refine fz (show∀s,cF aO s 22 0 []=some (.aG 1 [],s)from fun s=>by kernel_rfl) _ ?_
    refine bz aR (fun wg pW nH rA=> ?_)
    refine ws _ ?_
    refine dd nH (fun wh pX tz lj wi=> ?_)
    have Vv:∀(n:Nat) (h3:List Int) (jB:Int),ov eh n h3 jB=some r→e_ aO Ep wh (R [(5,.aG 1 (eh.map bW)),(6,.aG 1 (h3.map b1)),(7,.int .i64 jB)]):=by
     intro zA
     induction zA with
     |zero=>intro h3 jB h;cases(show none=some r from h)
     |succ zA Vw=>
      intro h3 jB h
      replace h:vm (ov eh zA) eh h3 jB=some r:=h
      refine gd tz (fun Zb Vx Fb Vy=> ?_)
      refine bz Fb (fun zB oI rC tB=> ?_)
      refine ws _ ?_
      refine b8 h (fun rB h=> ?_) (fun rB h=> ?_)
      ·refine cb (oI _ (.inl ?_))
       refine bz Fb (fun Fe tC tD wj=> ?_)
       refine dd tD (fun Vz zC Ff Zc Fg=> ?_)
       obtain⟨j5,Fh,h⟩:=aY h
       obtain⟨fF,wk,h⟩:=aY h
       refine hK (And.intro Fh (kg Fh)) (U7 j5 _ wk) _ ?_
       refine bz Ff (fun VA zD zE VB=> ?_)
       rcases gH h with⟨tE,h⟩|⟨tE,h⟩
       ·refine fz (pC tE) _ ?_
        refine mj rfl ?_
        refine ws _ ?_
        exact bp (zE _ (.inr ⟨[(2,.aG 1 []),(3,.bool false)],ml [] rfl (mn (t:=2) (d:=.bu) rfl rfl (.iR _) (by decide) (jY rfl (mm))),bq [.aG 1 [],.bool false]⟩))
       ·obtain⟨hz,VC,h⟩:=aY h
        refine dw (cQ [(5,.aG 1 (eh.map bW)),(6,.aG 1 (h3.map b1)),(7,.int .i64 jB),(8,.int .i64 fF.1),(61,.bool (!hz))] (fun P aM=> ?_) ?_)
        ·simp only[bf.down,simprocAttr,b1,bW,(mw tE)]
         refine h0 (mH fF.1 0 63 _ VC) rfl rfl rfl rfl (.inl (by rfl)) ?_
         simp only[bf.down,simprocAttr,b1,bW,(mw tE)]
         (try simp only[cm.down,simprocAttr,b1,bW,(mw tE)]at aM⊢);exact aM
        refine b8 h (fun zF h=> ?_) (fun zF h=> ?_)
        ·refine ws _ ?_
         exact bp (zE _ (.inr ⟨[(2,.aG 1 []),(3,.bool false)],ml [] rfl (mn (t:=2) (d:=.bu) rfl rfl (.iR _) (by decide) (jY rfl (mm))),bq [.aG 1 [],.bool false]⟩))
        ·refine cb (zD _ (.inl ?_))
         obtain⟨VD,zG,h⟩:=aY h
         (try simp only[gg.down,Nat.reduceAdd]at zG)
         refine k6 (cQ [(5,.aG 1 (eh.map bW)),(6,.aG 1 ((h3++[fF.1]).map b1)),(7,.int .i64 jB)] (fun P aM=> ?_) ?_)
         ·simp only[bf.down,simprocAttr,h2,mx,b1,bW,(show∀s,cF aO s 22 1 [(0,.int .i64 fF.1)]=some (.aG 1 [.int .i64 fF.1],s)from fun s=>by kernel_rfl), @jZ aO 22 22 2 rfl rfl,j0,j1,j2,all_cons,all_nil,zG, @oi _ b1 1 (fun _=>rfl)]
          (try simp only[cm.down,simprocAttr,b1,bW,(show∀s,cF aO s 22 1 [(0,.int .i64 fF.1)]=some (.aG 1 [.int .i64 fF.1],s)from fun s=>by kernel_rfl), @jZ aO 22 22 2 rfl rfl,j0,j1,j2,all_cons,all_nil,zG, @oi _ b1 1 (fun _=>rfl)]at aM⊢);exact aM
         refine zC _ (tC _ (.inl ?_))
         refine wr [(5,.aG 1 (eh.map bW)),(6,.aG 1 ((h3++[fF.1]).map b1)),(7,.int .i64 (IntKind.i64.wrap (jB+1)))] ?_
         exact Vx _ (.inr ⟨_,cu rfl,Vw (h3++[fF.1]) (IntKind.i64.wrap (jB+1)) h⟩)
      ·refine ga (tB 0 _ (Vy 0 _ (lj _ (pW _ (.inl ?_)))))
       refine ws _ ?_
       exact bp (aR _ (.inl (bq [.aG 1 (h3.map b1),.bool (decide ((h3.length:Int)≤2))])))
    obtain⟨n,h⟩:=fW h
    exact gb (.inr ⟨_,cu rfl,Vv n [] 0 h⟩)
theorem VE (a0:List UInt8) (r:Bool) (h:mz a0=some r):bj aO 106 [.str a0] (.bool r) []:=by
 refine cU [0] [.tmp 2] Tryz.func106 Oc (fun cH aR cS=> ?_)
 refine ws _ ?_
 obtain⟨aH,aN,h⟩:=aY h
 refine fo (Vu a0 _ aN) _ ?_
 refine ws _ ?_
 exact bp (aR _ (.inl (bq [.bool aH.2])))
theorem VF (a0:b3) (r:Bool) (h:vn a0=some r):bj aO 69 [.ref (b4 a0)] (.bool r) []:=by
 refine cU [0] [.tmp 2] Tryz.func69 Of (fun cH aR cS=> ?_)
 refine ws _ ?_
 obtain⟨aH,aN,h⟩:=aY h
 rcases gH h with⟨ck,h⟩|⟨ck,h⟩
 ·obtain⟨aU,bN,h⟩:=aY h
  rcases gH h with⟨cP,h⟩|⟨cP,h⟩
  ·obtain⟨bI,ba,h⟩:=aY h
   rcases gH h with⟨dc,h⟩|⟨dc,h⟩
   ·obtain⟨bV,fi,h⟩:=aY h
    refine dw (cQ [(2,.bool bV)] (fun P aM=> ?_) ?_)
    ·simp only[bf.down,simprocAttr,fG.down,ck,cP,dc]
     refine fa (mH a0.Choice 0 199 _ aN) rfl rfl rfl rfl (.inl (by rfl)) ?_
     simp only[bf.down,simprocAttr,fG.down,ck,cP,dc]
     refine h0 (mH a0.dJ 0 2 _ bN) rfl rfl rfl rfl (.inl (by rfl)) ?_
     simp only[bf.down,simprocAttr,fG.down,ck,cP,dc]
     refine h0 (mH a0.Second (-1) 2 _ ba) rfl rfl rfl rfl (.inl (by rfl)) ?_
     simp only[bf.down,simprocAttr,fG.down,ck,cP,dc]
     refine h0 (VE a0.Label _ fi) rfl rfl rfl rfl (.inl (by rfl)) ?_
     simp only[bf.down,simprocAttr,fG.down,ck,cP,dc]
     (try simp only[cm.down,simprocAttr,b4,ck,cP,dc]at aM⊢);exact aM
    exact bp (aR _ (.inl (bq [.bool bV])))
   ·refine dw (cQ [(2,.bool false)] (fun P aM=> ?_) ?_)
    ·simp only[bf.down,simprocAttr,fG.down,ck,cP,dc]
     refine fa (mH a0.Choice 0 199 _ aN) rfl rfl rfl rfl (.inl (by rfl)) ?_
     simp only[bf.down,simprocAttr,fG.down,ck,cP,dc]
     refine h0 (mH a0.dJ 0 2 _ bN) rfl rfl rfl rfl (.inl (by rfl)) ?_
     simp only[bf.down,simprocAttr,fG.down,ck,cP,dc]
     refine h0 (mH a0.Second (-1) 2 _ ba) rfl rfl rfl rfl (.inl (by rfl)) ?_
     simp only[bf.down,simprocAttr,fG.down,ck,cP,dc]
     (try simp only[cm.down,simprocAttr,b4,ck,cP,dc]at aM⊢);exact aM
    exact bp (aR _ (.inl (bq [.bool false])))
  ·refine dw (cQ [(2,.bool false)] (fun P aM=> ?_) ?_)
   ·simp only[bf.down,simprocAttr,fG.down,ck,cP]
    refine fa (mH a0.Choice 0 199 _ aN) rfl rfl rfl rfl (.inl (by rfl)) ?_
    simp only[bf.down,simprocAttr,fG.down,ck,cP]
    refine h0 (mH a0.dJ 0 2 _ bN) rfl rfl rfl rfl (.inl (by rfl)) ?_
    simp only[bf.down,simprocAttr,fG.down,ck,cP]
    (try simp only[cm.down,simprocAttr,b4,ck,cP]at aM⊢);exact aM
   exact bp (aR _ (.inl (bq [.bool false])))
 ·refine hK ck (mH a0.Choice 0 199 _ aN) _ ?_
  exact bp (aR _ (.inl (bq [.bool false])))
theorem VG (a0:List b3) (r:Bool) (h:vp a0=some r):bj aO 37 [.slice (a0.map b4)] (.bool r) []:=by
 refine cU [0] [.tmp 2] Tryz.func37 Ou (fun cH aR cS=> ?_)
 refine ws _ ?_
 refine bz aR (fun hG dY cn aU=> ?_)
 refine ws _ ?_
 refine b8 h (fun ck h=> ?_) (fun ck h=> ?_)
 ·refine ws _ ?_
  exact bp (cn _ (.inl (bq [.bool false])))
 ·refine cb (dY _ (.inl ?_))
  refine bz aR (fun i_ hf fX e3=> ?_)
  refine ws _ ?_
  refine dd fX (fun oC lS nD dc j5=> ?_)
  have tu:∀(n:Nat) (fE:Int),pF a0 n fE=some r→e_ aO Er oC (R [(0,.slice (a0.map b4)),(3,.int .i64 fE)]):=by
   intro m14
   induction m14 with
   |zero=>intro fE h;cases(show none=some r from h)
   |succ m14 ry=>
    intro fE h
    replace h:vo (pF a0 m14) a0 fE=some r:=h
    refine gd nD (fun kz gO gh fF=> ?_)
    refine bz gh (fun kA fU gi hz=> ?_)
    refine ws _ ?_
    refine b8 h (fun iF h=> ?_) (fun iF h=> ?_)
    ·refine cb (fU _ (.inl ?_))
     refine bz gh (fun tv nG pU tw=> ?_)
     refine dd pU (fun mG jG i6 pS nC=> ?_)
     obtain⟨aH,jb,h⟩:=aY h
     obtain⟨aU,gj,h⟩:=aY h
     refine hK jb (VF aH _ gj) _ ?_
     refine b8 h (fun lU h=> ?_) (fun lU h=> ?_)
     ·refine ws _ ?_
      exact bp (i6 _ (.inl (bq [.bool false])))
     ·refine cb (jG _ (nG _ (.inl ?_)))
      refine wr _ ?_
      exact gO _ (.inr ⟨_,cu rfl,ry (IntKind.i64.wrap (fE+1)) h⟩)
    ·refine ga (hz 0 _ (fF 0 _ (dc _ (hf _ (.inl ?_)))))
     refine ws _ ?_
     exact bp (aR _ (.inl (bq [.bool true])))
  obtain⟨n,h⟩:=fW h
  exact gb (.inr ⟨_,cu rfl,tu n 0 h⟩)
theorem wm (a0:Int) (r:(List UInt8)) (h:ox a0=some r):bj aO 107 [.int .i64 a0] (.str r) []:=by
 refine cU [0] [.tmp 2] Tryz.func107 OR (fun cH aR cS=> ?_)
 refine ws _ ?_
 refine bz aR (fun hG dY cn aU=> ?_)
 refine ws _ ?_
 refine b8 h (fun ck h=> ?_) (fun ck h=> ?_)
 ·refine ws _ ?_
  exact bp (cn _ (.inl (bq [.str ([48]:List UInt8)])))
 ·refine cb (dY _ (.inl ?_))
  refine fz (show∀s,cF aO s 71 0 []=some (.aG 1 [],s)from fun s=>by kernel_rfl) _ ?_
  refine bz aR (fun nA iC hn eh=> ?_)
  refine ws _ ?_
  refine dd hn (fun kz gO gh tn fF=> ?_)
  have tp:∀(n:Nat) (h5:List UInt8) (h6:Int),jC a0 n h5 h6=some r→e_ aO Et kz (R [(0,.int .i64 a0),(3,.aG 1 (h5.map ea)),(4,.int .i64 h6)]):=by
   intro m16
   induction m16 with
   |zero=>intro h5 h6 h;cases(show none=some r from h)
   |succ m16 tq=>
    intro h5 h6 h
    replace h:rf (jC a0 m16) a0 h5 h6=some r:=h
    refine gd gh (fun kA fU gi hz=> ?_)
    refine bz gi (fun nB iD i1 lQ=> ?_)
    refine ws _ ?_
    refine b8 h (fun lR h=> ?_) (fun lR h=> ?_)
    ·refine cb (iD _ (.inl ?_))
     refine bz gi (fun mG jG i6 nC=> ?_)
     refine dd i6 (fun oA ka jH kb oB=> ?_)
     refine fz (@KF .i64 10 (by decide)) _ ?_
     have Fi:∀(nv:List UInt8) (ow:Int) (k_:Int),tb (jC a0 m16) a0 nv ow k_=some r→ca aO Es oA (R [(0,.int .i64 a0),(3,.aG 1 (nv.map ea)),(4,.int .i64 ow),(5,.int .i64 k_)]):=by
      intro nv ow k_ h
      obtain⟨wc,iG,h⟩:=aY h
      (try simp only[gg.down,Nat.reduceAdd]at iG)
      refine k6 (cQ [(0,.int .i64 a0),(3,.aG 1 ((nv++[(kF (IntKind.i64.wrap (48+k_)))]).map ea)),(4,.int .i64 ow)] (fun P aM=> ?_) ?_)
      ·simp only[bf.down,simprocAttr,u9,vb,ea, @qX aO 2 5 .u8 rfl rfl,(show∀s,cF aO s 71 1 [(0,.int .u8 (IntKind.u8.wrap (IntKind.i64.wrap (48+k_))))]=some (.aG 1 [.int .u8 (IntKind.u8.wrap (IntKind.i64.wrap (48+k_)))],s)from fun s=>by kernel_rfl), @jZ aO 71 71 5 rfl rfl,j0,j1,j2,all_cons,all_nil,iG,qW]
       (try simp only[cm.down,simprocAttr,ea, @qX aO 2 5 .u8 rfl rfl,(show∀s,cF aO s 71 1 [(0,.int .u8 (IntKind.u8.wrap (IntKind.i64.wrap (48+k_))))]=some (.aG 1 [.int .u8 (IntKind.u8.wrap (IntKind.i64.wrap (48+k_)))],s)from fun s=>by kernel_rfl), @jZ aO 71 71 5 rfl rfl,j0,j1,j2,all_cons,all_nil,iG,qW]at aM⊢);exact aM
      refine ka _ (jG _ (.inl ?_))
      refine v8 (@KE .i64 10 (by decide)) [(0,.int .i64 a0),(3,.aG 1 ((nv++[(kF (IntKind.i64.wrap (48+k_)))]).map ea)),(4,.int .i64 (IntKind.i64.wrap (Int.tdiv ow 10)))] ?_
      exact fU _ (.inr ⟨_,cu rfl,tq (nv++[(kF (IntKind.i64.wrap (48+k_)))]) (IntKind.i64.wrap (Int.tdiv ow 10)) h⟩)
     refine bz jH (fun zr tx zs E3=> ?_)
     refine ws _ ?_
     refine b8 h (fun zH h=> ?_) (fun zH h=> ?_)
     ·refine wr _ ?_
      exact tx _ (.inr ⟨_,cu rfl,Fi h5 h6 (IntKind.i64.wrap (0-(Int.tmod h6 10))) h⟩)
     ·exact cb (tx _ (.inr ⟨_,cu rfl,Fi h5 h6 (Int.tmod h6 10) h⟩))
    ·refine ga (lQ 0 _ (hz 0 _ (tn _ (iC _ (.inl ?_)))))
     have Fj:∀(h4:List UInt8),tc h4=some r→ca aO Ev cH (R [(3,.aG 1 (h4.map ea))]):=by
      intro h4 h
      refine fz (show∀s,cF aO s 71 0 []=some (.aG 1 [],s)from fun s=>by kernel_rfl) _ ?_
      refine bz aR (fun zB oI rC tB=> ?_)
      refine ws _ ?_
      refine dd rC (fun Fk zI Fl rB VH=> ?_)
      have VI:∀(n:Nat) (iU:List UInt8) (j6:Int),pG h4 n iU j6=some r→e_ aO Eu Fk (R [(3,.aG 1 (h4.map ea)),(6,.aG 1 (iU.map ea)),(7,.int .i64 j6)]):=by
       intro zJ
       induction zJ with
       |zero=>intro iU j6 h;cases(show none=some r from h)
       |succ zJ VJ=>
        intro iU j6 h
        replace h:vq (pG h4 zJ) h4 iU j6=some r:=h
        refine gd Fl (fun Fe tC tD wj=> ?_)
        refine bz tD (fun Vz zC Ff Fg=> ?_)
        refine ws _ ?_
        refine b8 h (fun VK h=> ?_) (fun VK h=> ?_)
        ·refine cb (zC _ (.inl ?_))
         refine bz tD (fun Zd VL VM Ze=> ?_)
         refine dd VM (fun VA zD zE Zf VB=> ?_)
         obtain⟨aH,rD,h⟩:=aY h
         obtain⟨Zg,zK,h⟩:=aY h
         (try simp only[gg.down,Nat.reduceAdd]at zK)
         refine k6 (cQ [(3,.aG 1 (h4.map ea)),(6,.aG 1 ((iU++[aH]).map ea)),(7,.int .i64 j6)] (fun P aM=> ?_) ?_)
         ·simp only[bf.down,simprocAttr,u9,vb,ea,rD,kg rD,(show∀s,cF aO s 71 1 [(0,.int .u8 (aH.toNat:Int))]=some (.aG 1 [.int .u8 (aH.toNat:Int)],s)from fun s=>by kernel_rfl), @jZ aO 71 71 5 rfl rfl,j0,j1,j2,all_cons,all_nil,zK,qW]
          (try simp only[cm.down,simprocAttr,ea,rD,kg rD,(show∀s,cF aO s 71 1 [(0,.int .u8 (aH.toNat:Int))]=some (.aG 1 [.int .u8 (aH.toNat:Int)],s)from fun s=>by kernel_rfl), @jZ aO 71 71 5 rfl rfl,j0,j1,j2,all_cons,all_nil,zK,qW]at aM⊢);exact aM
         refine zD _ (VL _ (.inl ?_))
         refine wr [(3,.aG 1 (h4.map ea)),(6,.aG 1 ((iU++[aH]).map ea)),(7,.int .i64 (IntKind.i64.wrap (j6-1)))] ?_
         exact tC _ (.inr ⟨_,cu rfl,VJ (iU++[aH]) (IntKind.i64.wrap (j6-1)) h⟩)
        ·refine ga (Fg 2 _ (wj 2 _ (rB _ (oI _ (.inl ?_)))))
         refine dw (cQ [(2,.str iU)] (fun P aM=> ?_) ?_)
         ·simp only[bf.down,simprocAttr,ea,(@Df aO 71 9 5 rfl rfl rfl).2.2,Di,Dg]
          (try simp only[cm.down,simprocAttr,ea,(@Df aO 71 9 5 rfl rfl rfl).2.2,Di,Dg]at aM⊢);exact aM
         exact bp (aR _ (.inl (bq [.str iU])))
      obtain⟨n,h⟩:=fW h
      exact gb (.inr ⟨_,cu rfl,VI n [] (IntKind.i64.wrap ((h4.length:Int)-1)) h⟩)
     refine bz aR (fun wh pX tz wi=> ?_)
     refine ws _ ?_
     refine b8 h (fun VN h=> ?_) (fun VN h=> ?_)
     ·obtain⟨VD,zL,h⟩:=aY h
      (try simp only[gg.down,Nat.reduceAdd]at zL)
      refine k6 (cQ [(3,.aG 1 ((h5++[(45:UInt8)]).map ea))] (fun P aM=> ?_) ?_)
      ·simp only[bf.down,simprocAttr,u9,vb,ea,(show∀s,cF aO s 71 1 [(0,.int .u8 45)]=some (.aG 1 [.int .u8 45],s)from fun s=>by kernel_rfl), @jZ aO 71 71 5 rfl rfl,j0,j1,j2,all_cons,all_nil,zL,qW]
       (try simp only[cm.down,simprocAttr,ea,(show∀s,cF aO s 71 1 [(0,.int .u8 45)]=some (.aG 1 [.int .u8 45],s)from fun s=>by kernel_rfl), @jZ aO 71 71 5 rfl rfl,j0,j1,j2,all_cons,all_nil,zL,qW]at aM⊢);exact aM
      exact pX _ (.inr ⟨_,cu rfl,Fj (h5++[(45:UInt8)]) h⟩)
     ·exact cb (pX _ (.inr ⟨_,cu rfl,Fj h5 h⟩))
  obtain⟨n,h⟩:=fW h
  exact gb (.inr ⟨_,cu rfl,tp n [] a0 h⟩)
theorem VO (a0:List UInt8) (aA:Int) (r:Int) (h:pH a0 aA=some r):bj aO 108 [.str a0,.int .i64 aA] (.int .i64 r) []:=by
 refine cU [0] [.tmp 4] Tryz.func108 O6 (fun cH aR cS=> ?_)
 refine ws _ ?_
 refine bz aR (fun hG dY cn aU=> ?_)
 refine ws _ ?_
 refine dd cn (fun i7 h_ ef ck bV=> ?_)
 have nF:∀(n:Nat) (ku:Int) (kv:Int),iW a0 n ku kv=some r→e_ aO Ey i7 (R [(0,.str a0),(1,.int .i64 ku),(5,.int .i64 kv)]):=by
  intro m6
  induction m6 with
  |zero=>intro ku kv h;cases(show none=some r from h)
  |succ m6 mI=>
   intro ku kv h
   replace h:tf (iW a0 m6) a0 ku kv=some r:=h
   refine gd ef (fun oD jc gK dq=> ?_)
   refine bz gK (fun i_ hf fX e3=> ?_)
   refine ws _ ?_
   refine b8 h (fun dc h=> ?_) (fun dc h=> ?_)
   ·refine cb (hf _ (.inl ?_))
    refine bz gK (fun kz gO gh fF=> ?_)
    refine dd gh (fun kA fU gi fV hz=> ?_)
    obtain⟨aH,jj,h⟩:=aY h
    refine fz (And.intro jj (And.intro (@qX aO 5 2 .i64 rfl rfl) (@DX .i64 .u64 8 256 (by decide) (by decide)))) [(0,.str a0),(1,.int .i64 (bitsOf .xor .i64 ku (IntKind.i64.wrap ((aH.toNat:Int)*256)))),(5,.int .i64 kv)] ?_
    refine ws _ ?_
    refine dd gi (fun mG jG i6 pS nC=> ?_)
    have VP:∀(n:Nat) (iV:Int) (jD:Int) (j7:Int),mA (iW a0 m6) a0 n iV jD j7=some r→e_ aO Ex mG (R [(0,.str a0),(1,.int .i64 iV),(5,.int .i64 jD),(6,.int .i64 j7)]):=by
     intro m20
     induction m20 with
     |zero=>intro iV jD j7 h;cases(show none=some r from h)
     |succ m20 VQ=>
      intro iV jD j7 h
      replace h:te (iW a0 m6) (mA (iW a0 m6) a0 m20) a0 iV jD j7=some r:=h
      refine gd i6 (fun oA ka jH oB=> ?_)
      refine bz jH (fun rz kc lT oE=> ?_)
      refine ws _ ?_
      refine b8 h (fun lU h=> ?_) (fun lU h=> ?_)
      ·refine cb (kc _ (.inl ?_))
       have Fm:∀(rh:Int) (ri:Int) (rj:Int),td (iW a0 m6) (mA (iW a0 m6) a0 m20) a0 rh ri rj=some r→ca aO Ew oA (R [(0,.str a0),(1,.int .i64 rh),(5,.int .i64 ri),(6,.int .i64 rj)]):=by
        intro rh ri rj h
        refine wr _ ?_
        exact ka _ (.inr ⟨_,cu rfl,VQ rh ri (IntKind.i64.wrap (rj+1)) h⟩)
       refine bz jH (fun EZ pT wa zm=> ?_)
       refine dd wa (fun wo wq wt pV Fo=> ?_)
       refine fz (@DX .i64 .u64 1 2 (by decide) (by decide)) [(0,.str a0),(1,.int .i64 (IntKind.i64.wrap (iV*2))),(5,.int .i64 jD),(6,.int .i64 j7)] ?_
       refine ws _ ?_
       refine b8 h (fun lj h=> ?_) (fun lj h=> ?_)
       ·refine wr _ ?_
        exact wq _ (pT _ (.inr ⟨_,cu rfl,Fm (bitsOf .xor .i64 (bitsOf .and .i64 (IntKind.i64.wrap (iV*2)) 65535) 4129) jD j7 h⟩))
       ·exact cb (wq _ (pT _ (.inr ⟨_,cu rfl,Fm (IntKind.i64.wrap (iV*2)) jD j7 h⟩)))
      ·refine ga (oE 2 _ (oB 2 _ (pS _ (fU _ (gO _ (.inl ?_))))))
       refine wr _ ?_
       exact jc _ (.inr ⟨_,cu rfl,mI iV (IntKind.i64.wrap (jD+1)) h⟩)
    obtain⟨n,h⟩:=fW h
    exact gb (.inr ⟨_,cu rfl,VP n (bitsOf .xor .i64 ku (IntKind.i64.wrap ((aH.toNat:Int)*256))) kv 0 h⟩)
   ·refine ga (e3 0 _ (dq 0 _ (ck _ (dY _ (.inl ?_)))))
    refine ws _ ?_
    exact bp (aR _ (.inl (bq [.int .i64 ku])))
 obtain⟨n,h⟩:=fW h
 exact gb (.inr ⟨_,cu rfl,nF n aA 0 h⟩)
theorem VR (a0:b3) (aA:Int) (r:(List UInt8)×Int) (h:vt a0 aA=some r):bj aO 70 [.ref (b4 a0),.int .i64 aA] (.tuple [.str r.1,.int .i64 r.2]) []:=by
 refine cU [0,1] [.tmp 4,.tmp 5] Tryz.func70 O_ (fun cH aR cS=> ?_)
 refine ws _ ?_
 obtain⟨aH,aN,h⟩:=aY h
 obtain⟨pY,bt,h⟩:=aY h
 (try simp only[gg.down,Nat.reduceAdd]at bt)
 obtain⟨aU,bN,h⟩:=aY h
 obtain⟨pY,bh,h⟩:=aY h
 (try simp only[gg.down,Nat.reduceAdd]at bh)
 obtain⟨pY,ba,h⟩:=aY h
 (try simp only[gg.down,Nat.reduceAdd]at ba)
 obtain⟨bI,gz,h⟩:=aY h
 obtain⟨pY,fi,h⟩:=aY h
 (try simp only[gg.down,Nat.reduceAdd]at fi)
 obtain⟨pY,gT,h⟩:=aY h
 (try simp only[gg.down,Nat.reduceAdd]at gT)
 obtain⟨pY,hp,h⟩:=aY h
 (try simp only[gg.down,Nat.reduceAdd]at hp)
 refine uV rfl (uW [(1,.int .i64 aA),(6,.str ((((((aH++([32]:List UInt8))++aU)++([32]:List UInt8))++bI)++([32]:List UInt8))++a0.Label))] (fun P aM=> ?_) ?_)
 ·simp only[mr.down,simprocAttr,fG.down,bt,ht,hv,bh,ba,fi,gT,hp]
  refine sS (wm a0.Choice _ aN) rfl rfl rfl rfl (.inl (by rfl)) ?_
  simp only[mr.down,simprocAttr,fG.down,bt,ht,hv,bh,ba,fi,gT,hp]
  refine sS (wm a0.dJ _ bN) rfl rfl rfl rfl (.inl (by rfl)) ?_
  simp only[mr.down,simprocAttr,fG.down,bt,ht,hv,bh,ba,fi,gT,hp]
  refine sS (wm a0.Second _ gz) rfl rfl rfl rfl (.inl (by rfl)) ?_
  simp only[mr.down,simprocAttr,fG.down,bt,ht,hv,bh,ba,fi,gT,hp]
  refine⟨u3 (by kernel_rfl),?_⟩
  (try simp only[cm.down,simprocAttr,b4,bt,ht,hv,bh,ba,fi,gT,hp]at aM⊢);exact aM
 obtain⟨bV,fH,h⟩:=aY h
 refine fo (VO ((((((aH++([32]:List UInt8))++aU)++([32]:List UInt8))++bI)++([32]:List UInt8))++a0.Label) aA _ fH) [(6,.str ((((((aH++([32]:List UInt8))++aU)++([32]:List UInt8))++bI)++([32]:List UInt8))++a0.Label)),(7,.int .i64 bV)] ?_
 obtain⟨pY,ja,h⟩:=aY h
 (try simp only[gg.down,Nat.reduceAdd]at ja)
 obtain⟨dq,jb,h⟩:=aY h
 obtain⟨pY,gj,h⟩:=aY h
 (try simp only[gg.down,Nat.reduceAdd]at gj)
 refine dw (cQ [(4,.str ((((((((aH++([32]:List UInt8))++aU)++([32]:List UInt8))++bI)++([32]:List UInt8))++a0.Label)++([32]:List UInt8))++dq)),(5,.int .i64 bV)] (fun P aM=> ?_) ?_)
 ·simp only[bf.down,simprocAttr,ja,ht,hv,gj]
  refine fa (wm bV _ jb) rfl rfl rfl rfl (.inl (by rfl)) ?_
  simp only[bf.down,simprocAttr,ja,ht,hv,gj]
  (try simp only[cm.down,simprocAttr,ja,ht,hv,gj]at aM⊢);exact aM
 exact bp (aR _ (.inl (bq [.str ((((((((aH++([32]:List UInt8))++aU)++([32]:List UInt8))++bI)++([32]:List UInt8))++a0.Label)++([32]:List UInt8))++dq),.int .i64 bV])))
theorem VS (a0:List b3) (r:(List UInt8)) (h:vv a0=some r):bj aO 38 [.slice (a0.map b4)] (.str r) []:=by
 refine cU [0] [.tmp 2] Tryz.func38 Pm (fun cH aR cS=> ?_)
 refine ws _ ?_
 refine ws _ ?_
 refine ws _ ?_
 refine bz aR (fun i7 h_ ef bV=> ?_)
 refine ws _ ?_
 refine dd ef (fun i_ hf fX cP e3=> ?_)
 have zo:∀(n:Nat) (iX:List UInt8) (ey:Int) (eN:Int),pI a0 n iX ey eN=some r→e_ aO Ez i_ (R [(0,.slice (a0.map b4)),(3,.str iX),(4,.int .i64 ey),(5,.int .i64 eN)]):=by
  intro m10
  induction m10 with
  |zero=>intro iX ey eN h;cases(show none=some r from h)
  |succ m10 zp=>
   intro iX ey eN h
   replace h:vu (pI a0 m10) a0 iX ey eN=some r:=h
   refine gd fX (fun nA iC hn eh=> ?_)
   refine bz hn (fun oC lS nD j5=> ?_)
   refine ws _ ?_
   refine b8 h (fun fV h=> ?_) (fun fV h=> ?_)
   ·refine cb (lS _ (.inl ?_))
    refine bz hn (fun nB iD i1 lQ=> ?_)
    refine dd i1 (fun v_ nE pR iF tt=> ?_)
    obtain⟨aH,kB,h⟩:=aY h
    obtain⟨aU,ja,h⟩:=aY h
    refine hK kB (VR aH ey _ ja) _ ?_
    obtain⟨wc,gj,h⟩:=aY h
    (try simp only[gg.down,Nat.reduceAdd]at gj)
    obtain⟨wc,iE,h⟩:=aY h
    (try simp only[gg.down,Nat.reduceAdd]at iE)
    refine dw (cQ [(0,.slice (a0.map b4)),(3,.str (iX++(aU.1++([10]:List UInt8)))),(5,.int .i64 eN),(7,.int .i64 aU.2)] (fun P aM=> ?_) ?_)
    ·simp only[bf.down,simprocAttr,b4,gj,ht,hv,iE]
     (try simp only[cm.down,simprocAttr,b4,gj,ht,hv,iE]at aM⊢);exact aM
    refine wr [(0,.slice (a0.map b4)),(3,.str (iX++(aU.1++([10]:List UInt8)))),(4,.int .i64 aU.2),(5,.int .i64 eN)] ?_
    refine nE _ (iD _ (.inl ?_))
    refine wr [(0,.slice (a0.map b4)),(3,.str (iX++(aU.1++([10]:List UInt8)))),(4,.int .i64 aU.2),(5,.int .i64 (IntKind.i64.wrap (eN+1)))] ?_
    exact iC _ (.inr ⟨_,cu rfl,zp (iX++(aU.1++([10]:List UInt8))) aU.2 (IntKind.i64.wrap (eN+1)) h⟩)
   ·refine ga (j5 0 _ (eh 0 _ (cP _ (h_ _ (.inl ?_)))))
    refine ws _ ?_
    exact bp (aR _ (.inl (bq [.str iX])))
 obtain⟨n,h⟩:=fW h
 exact gb (.inr ⟨_,cu rfl,zo n ([]:List UInt8) 65535 0 h⟩)
theorem VT (a0:List b3) (r:(List UInt8)) (h:vw a0=some r):bj aO 18 [.slice (a0.map b4)] (.str r) []:=by
 refine cU [0] [.tmp 2] Tryz.func18 Ps (fun cH aR cS=> ?_)
 refine ws _ ?_
 refine bz aR (fun hG dY cn aU=> ?_)
 obtain⟨aH,bt,h⟩:=aY h
 refine fo (VG a0 _ bt) _ ?_
 refine b8 h (fun hS h=> ?_) (fun hS h=> ?_)
 ·refine ws _ ?_
  exact bp (cn _ (.inl (bq [.str ([]:List UInt8)])))
 ·refine cb (dY _ (.inl ?_))
  obtain⟨aU,gz,h⟩:=aY h
  refine fo (VS a0 _ gz) _ ?_
  exact bp (aR _ (.inl (bq [.str aU])))
theorem lV (a0:Int) (aA:Int) (a2:Int) (r:Bool) (h:nw a0 aA a2=some r):bj aO 56 [.int .i64 a0,.int .i64 aA,.int .i64 a2] (.bool r) []:=by
 refine cU [0,1,2] [.tmp 6] Tryz.func56 Pv (fun cH aR cS=> ?_)
 refine ws _ ?_
 refine dw (cQ [(6,.bool ((decide (aA≤a0))&&(decide (a0≤a2))))] (fun P aM=> ?_) ?_)
 ·rcases Bool.eq_false_or_eq_true (decide (aA≤a0))with eH|eH
  ·simp only[bf.down,simprocAttr,eH]
   (try simp only[cm.down,simprocAttr,eH]at aM⊢);exact aM
  ·simp only[bf.down,simprocAttr,eH]
   (try simp only[cm.down,simprocAttr,eH]at aM⊢);exact aM
 exact bp (aR _ (.inl (bq [.bool ((decide (aA≤a0))&&(decide (a0≤a2)))])))
theorem Fp:∀a c,lP a c=Lib.indexByte a c
 |[],_=>rfl
 |a::x,c=>by simp only[lP,Lib.indexByte,Fp x c]
theorem VU (a0:List UInt8) (aA:UInt8) (r:Int) (h:yY a0 aA=some r):bj aO 180 [.str a0,.int .u8 aA.toNat] (.int .i64 r) []:=by
 rw[show r=Lib.indexByte a0 aA from(wJ h).trans (Fp _ _)]
 exact Dy Tryz.func180 (by kernel_rfl) (by kernel_rfl) (by kernel_rfl) (E:=Extern.BytealgIndexByte.indexByte) (by kernel_rfl) a0 aA _ fun w=>by
  rw[Lib.run_indexByteString,show((aA.toNat:Int).toNat).toUInt8=aA from by simp]
theorem VV (a0:List UInt8) (aA:UInt8) (r:Int) (h:yZ a0 aA=some r):bj aO 170 [.str a0,.int .u8 (aA.toNat:Int)] (.int .i64 r) []:=by
 refine cU [0,1] [.tmp 4] Tryz.func170 Py (fun cH aR cS=> ?_)
 refine ws _ ?_
 obtain⟨aH,aN,h⟩:=aY h
 refine fo (VU a0 aA _ aN) _ ?_
 exact bp (aR _ (.inl (bq [.int .i64 aH])))
theorem Fq (a0:List UInt8) (aA:List UInt8) (r:Int) (h:nx a0 aA=some r):bj aO 161 [.str a0,.str aA] (.int .i64 r) []:=by
 refine cU [0,1] [.tmp 4] Tryz.func161 Qm (fun cH aR cS=> ?_)
 refine ws _ ?_
 refine ws _ ?_
 refine bz aR (fun tm lh e8 bI=> ?_)
 refine dd e8 (fun i7 h_ ef ck bV=> ?_)
 refine dw (cQ [(0,.str a0),(1,.str aA),(5,.int .i64 (aA.length:Int)),(16,.bool (((aA.length:Int)==0)||(aA==a0)))] (fun P aM=> ?_) ?_)
 ·rcases Bool.eq_false_or_eq_true ((aA.length:Int)==0)with tF|tF
  ·simp only[bf.down,simprocAttr,tF]
   (try simp only[cm.down,simprocAttr,tF]at aM⊢);exact aM
  ·simp only[bf.down,simprocAttr,tF]
   (try simp only[cm.down,simprocAttr,tF]at aM⊢);exact aM
 refine b8 h (fun se h=> ?_) (fun se h=> ?_)
 ·refine ws _ ?_
  exact bp (ef _ (.inl (bq [.int .i64 0])))
 ·refine ws _ ?_
  refine b8 h (fun fV h=> ?_) (fun fV h=> ?_)
  ·obtain⟨aH,jj,h⟩:=aY h
   obtain⟨aU,fH,h⟩:=aY h
   refine hK jj (VV a0 aH _ fH) _ ?_
   exact bp (ef _ (.inl (bq [.int .i64 aU])))
  ·refine ws _ ?_
   refine b8 h (fun kb h=> ?_) (fun kb h=> ?_)
   ·refine ws _ ?_
    exact bp (ef _ (.inl (bq [.int .i64 (-1)])))
   ·cases h
theorem VW (a0:List UInt8) (aA:List UInt8) (r:(List UInt8)×(List UInt8)×Bool) (h:vx a0 aA=some r):bj aO 152 [.str a0,.str aA] (.tuple [.str r.1,.str r.2.1,.bool r.2.2]) []:=by
 refine cU [0,1] [.tmp 4,.tmp 5,.tmp 6] Tryz.func152 Qs (fun cH aR cS=> ?_)
 refine ws _ ?_
 refine bz aR (fun hG dY cn aU=> ?_)
 obtain⟨aH,bt,h⟩:=aY h
 refine fo (Fq a0 aA _ bt) _ ?_
 refine ws _ ?_
 refine b8 h (fun cP h=> ?_) (fun cP h=> ?_)
 ·obtain⟨aU,gz,h⟩:=aY h
  obtain⟨bI,fi,h⟩:=aY h
  refine uV rfl (uW [(4,.str aU),(5,.str bI),(6,.bool true)] (fun P aM=> ?_) ?_)
  ·simp only[mr.down,simprocAttr,eU,gz,fi]
   refine⟨u3 (by kernel_rfl),?_⟩
   (try simp only[cm.down,simprocAttr,gz,fi]at aM⊢);exact aM
  exact bp (cn _ (.inl (bq [.str aU,.str bI,.bool true])))
 ·refine cb (dY _ (.inl ?_))
  refine ws _ ?_
  exact bp (aR _ (.inl (bq [.str a0,.str ([]:List UInt8),.bool false])))
theorem VX (a0:List UInt8) (aA:List UInt8) (r:(List UInt8)×(List UInt8)×Bool) (h:rk a0 aA=some r):bj aO 143 [.str a0,.str aA] (.tuple [.str r.1,.str r.2.1,.bool r.2.2]) []:=by
 refine cU [0,1] [.tmp 4,.tmp 5,.tmp 6] Tryz.func143 Qu (fun cH aR cS=> ?_)
 refine ws _ ?_
 obtain⟨aH,aN,h⟩:=aY h
 refine fo (VW a0 aA _ aN) _ ?_
 exact bp (aR _ (.inl (bq [.str aH.1,.str aH.2.1,.bool aH.2.2])))
theorem VY (a0:List UInt8) (aA:List UInt8) (r:Bool) (h:vy a0 aA=some r):bj aO 167 [.str a0,.str aA] (.bool r) []:=by
 refine cU [0,1] [.tmp 4] Tryz.func167 Qw (fun cH aR cS=> ?_)
 refine ws _ ?_
 rcases gH h with⟨gX,h⟩|⟨gX,h⟩
 ·obtain⟨aH,bt,h⟩:=aY h
  refine fz (And.intro gX bt) _ ?_
  exact bp (aR _ (.inl (bq [.bool (aH==aA)])))
 ·refine fz gX _ ?_
  exact bp (aR _ (.inl (bq [.bool false])))
theorem VZ (a0:List UInt8) (aA:List UInt8) (r:(List UInt8)) (h:vz a0 aA=some r):bj aO 155 [.str a0,.str aA] (.str r) []:=by
 refine cU [0,1] [.tmp 4] Tryz.func155 QC (fun cH aR cS=> ?_)
 refine ws _ ?_
 refine bz aR (fun hG dY cn aU=> ?_)
 obtain⟨aH,bt,h⟩:=aY h
 refine fo (VY a0 aA _ bt) _ ?_
 refine b8 h (fun hS h=> ?_) (fun hS h=> ?_)
 ·obtain⟨aU,ba,h⟩:=aY h
  refine fz ba _ ?_
  exact bp (cn _ (.inl (bq [.str aU])))
 ·refine cb (dY _ (.inl ?_))
  refine ws _ ?_
  exact bp (aR _ (.inl (bq [.str a0])))
theorem V0 (a0:List UInt8) (aA:List UInt8) (r:(List UInt8)) (h:strings_TrimSuffix a0 aA=some r):bj aO 146 [.str a0,.str aA] (.str r) []:=by
 refine cU [0,1] [.tmp 4] Tryz.func146 QE (fun cH aR cS=> ?_)
 refine ws _ ?_
 obtain⟨aH,aN,h⟩:=aY h
 refine fo (VZ a0 aA _ aN) _ ?_
 exact bp (aR _ (.inl (bq [.str aH])))
theorem V1 (a0:List UInt8) (aA:UInt8) (r:Int) (h:y0 a0 aA=some r):bj aO 179 [.str a0,.int .u8 aA.toNat] (.int .i64 r) []:=by
 rw[show r=((Lib.countByte a0 aA:Nat):Int)from wJ h]
 exact Dy Tryz.func179 (by kernel_rfl) (by kernel_rfl) (by kernel_rfl) (E:=Extern.BytealgCount.count) (by kernel_rfl) a0 aA _ fun w=>by
  rw[Lib.run_countString,show((aA.toNat:Int).toNat).toUInt8=aA from by simp]
theorem Fs (a0:List UInt8) (aA:List UInt8) (r:Int) (h:tg a0 aA=some r):bj aO 166 [.str a0,.str aA] (.int .i64 r) []:=by
 refine cU [0,1] [.tmp 4] Tryz.func166 QH (fun cH aR cS=> ?_)
 refine ws _ ?_
 obtain⟨aH,aN,h⟩:=aY h
 refine fo (Fq a0 aA _ aN) _ ?_
 exact bp (aR _ (.inl (bq [.int .i64 aH])))
theorem V2 (a0:List UInt8) (aA:List UInt8) (r:Int) (h:y1 a0 aA=some r):bj aO 165 [.str a0,.str aA] (.int .i64 r) []:=by
 refine cU [1] [.tmp 4] Tryz.func165 QW (fun cH aR cS=> ?_)
 refine ws _ ?_
 refine bz aR (fun hG dY cn aU=> ?_)
 refine ws _ ?_
 refine b8 h (fun ck h=> ?_) (fun ck h=> ?_)
 ·cases h
 ·refine cb (dY _ (.inl ?_))
  refine bz aR (fun i_ hf fX e3=> ?_)
  refine ws _ ?_
  refine b8 h (fun dc h=> ?_) (fun dc h=> ?_)
  ·obtain⟨aH,gT,h⟩:=aY h
   obtain⟨aU,hp,h⟩:=aY h
   refine hK gT (V1 a0 aH _ hp) _ ?_
   exact bp (fX _ (.inl (bq [.int .i64 aU])))
  ·refine cb (hf _ (.inl ?_))
   refine ws _ ?_
   refine dd aR (fun tv nG pU lR tw=> ?_)
   have V3:∀(n:Nat) (la:List UInt8) (lb:Int),vA aA n la lb=some r→e_ aO EA tv (R [(0,.str la),(1,.str aA),(5,.int .i64 lb)]):=by
    intro m21
    induction m21 with
    |zero=>intro la lb h;cases(show none=some r from h)
    |succ m21 V4=>
     intro la lb h
     replace h:Ee (vA aA m21) aA la lb=some r:=h
     refine gd pU (fun mG jG i6 nC=> ?_)
     refine dd i6 (fun oA ka jH kb oB=> ?_)
     obtain⟨bI,gj,h⟩:=aY h
     refine fo (Fs la aA _ gj) _ ?_
     refine bz jH (fun U8 zv we E4=> ?_)
     refine ws _ ?_
     refine b8 h (fun rv h=> ?_) (fun rv h=> ?_)
     ·refine ws _ ?_
      exact bp (we _ (.inl (bq [.int .i64 lb])))
     ·refine cb (zv _ (.inl ?_))
      refine ws _ ?_
      obtain⟨bV,oJ,h⟩:=aY h
      refine v8 oJ _ ?_
      exact ka _ (jG _ (.inr ⟨_,cu rfl,V4 bV (IntKind.i64.wrap (lb+1)) h⟩))
   obtain⟨n,h⟩:=fW h
   exact gb (.inr ⟨_,cu rfl,V3 n a0 0 h⟩)
theorem V5 (a0:List UInt8) (aA:List UInt8) (a2:Int) (a3:Int) (r:(List (List UInt8))) (h:y2 a0 aA a2 a3=some r):bj aO 154 [.str a0,.str aA,.int .i64 a2,.int .i64 a3] (.aG 1 (r.map bW)) []:=by
 refine cU [1,2] [.tmp 8] Tryz.func154 Rh (fun cH aR cS=> ?_)
 refine ws _ ?_
 refine bz aR (fun hG dY cn aU=> ?_)
 refine ws _ ?_
 refine b8 h (fun ck h=> ?_) (fun ck h=> ?_)
 ·refine ws _ ?_
  exact bp (cn _ (.inr ⟨[(8,.aG 1 [])],ml [] rfl (mn (t:=8) (d:=.bu) rfl rfl (.iR _) (by decide) (mm)),bq [.aG 1 []]⟩))
 ·refine cb (dY _ (.inl ?_))
  refine bz aR (fun i_ hf fX e3=> ?_)
  refine ws _ ?_
  refine b8 h (fun dc h=> ?_) (fun dc h=> ?_)
  ·cases h
  ·refine cb (hf _ (.inl ?_))
   have Ft:∀(e4:Int),vC a0 aA a2 e4=some r→ca aO ED cH (R [(0,.str a0),(1,.str aA),(2,.int .i64 a2),(3,.int .i64 e4)]):=by
    intro e4 h
    refine dw (cQ [(0,.str a0),(1,.str aA),(2,.int .i64 a2),(3,.int .i64 (fL false e4 (IntKind.i64.wrap ((a0.length:Int)+1))))] (fun P aM=> ?_) ?_)
    ·simp only[bf.down,simprocAttr,eU, @DF,DG]
     (try simp only[cm.down,simprocAttr, @DF,DG]at aM⊢);exact aM
    obtain⟨D5,fH,h⟩:=aY h
    refine dw (cQ [(0,.str a0),(1,.str aA),(2,.int .i64 a2),(3,.int .i64 (fL false e4 (IntKind.i64.wrap ((a0.length:Int)+1)))),(9,.aG 1 ((List.replicate (Int.toNat (fL false e4 (IntKind.i64.wrap ((a0.length:Int)+1)))) ([]:List UInt8)).map bW))] (fun P aM=> ?_) ?_)
    ·simp only[bf.down,simprocAttr,eU,my,bW,(hN fH).1,(hN fH).2.1,(hN fH).2.2,en,List.map_replicate,-Int.reduceNatCast']
     (try simp only[cm.down,simprocAttr,bW,(hN fH).1,(hN fH).2.1,(hN fH).2.2,en,List.map_replicate,-Int.reduceNatCast']at aM⊢);exact aM
    refine ws [(0,.str a0),(1,.str aA),(2,.int .i64 a2),(3,.int .i64 (IntKind.i64.wrap ((fL false e4 (IntKind.i64.wrap ((a0.length:Int)+1)))-1))),(9,.aG 1 ((List.replicate (Int.toNat (fL false e4 (IntKind.i64.wrap ((a0.length:Int)+1)))) ([]:List UInt8)).map bW))] ?_
    refine ws [(0,.str a0),(1,.str aA),(2,.int .i64 a2),(3,.int .i64 (IntKind.i64.wrap ((fL false e4 (IntKind.i64.wrap ((a0.length:Int)+1)))-1))),(9,.aG 1 ((List.replicate (Int.toNat (fL false e4 (IntKind.i64.wrap ((a0.length:Int)+1)))) ([]:List UInt8)).map bW)),(10,.int .i64 0)] ?_
    have Fu:∀(rl:List UInt8) (pJ:List (List UInt8)) (ny:Int),th a0 aA a2 e4 rl pJ ny=some r→ca aO EC cH (R [(0,.str rl),(1,.str aA),(2,.int .i64 a2),(3,.int .i64 (IntKind.i64.wrap ((fL false e4 (IntKind.i64.wrap ((a0.length:Int)+1)))-1))),(9,.aG 1 (pJ.map bW)),(10,.int .i64 ny)]):=by
     intro rl pJ ny h
     obtain⟨aH,iE,h⟩:=aY h
     refine dw (cQ [(9,.aG 1 ((List.set pJ (Int.toNat ny) rl).map bW)),(10,.int .i64 ny)] (fun P aM=> ?_) ?_)
     ·simp only[bf.down,simprocAttr,eU,my,bW,iE,kg iE,mo,hr]
      (try simp only[cm.down,simprocAttr,bW,iE,kg iE,mo,hr]at aM⊢);exact aM
     obtain⟨aU,oH,h⟩:=aY h
     refine dw (cQ [(8,.aG 1 (aU.map bW))] (fun P aM=> ?_) ?_)
     ·simp only[bf.down,simprocAttr,eU,my,bW,oH,(fun s y q=>(uZ aO s 138 y q).1),(fun s y q=>(uZ aO s 138 y q).2.1),oj]
      (try simp only[cm.down,simprocAttr,bW,oH,(fun s y q=>(uZ aO s 138 y q).1),(fun s y q=>(uZ aO s 138 y q).2.1),oj]at aM⊢);exact aM
     exact bp (aR _ (.inl (bq [.aG 1 (aU.map bW)])))
    refine bz aR (fun rz kc lT oE=> ?_)
    refine dd lT (fun wo wq wt pV Fo=> ?_)
    have V6:∀(n:Nat) (h7:List UInt8) (hA:List (List UInt8)) (fT:Int),oy a0 aA a2 e4 n h7 hA fT=some r→e_ aO EB wo (R [(0,.str h7),(1,.str aA),(2,.int .i64 a2),(3,.int .i64 (IntKind.i64.wrap ((fL false e4 (IntKind.i64.wrap ((a0.length:Int)+1)))-1))),(9,.aG 1 (hA.map bW)),(10,.int .i64 fT)]):=by
     intro zM
     induction zM with
     |zero=>intro h7 hA fT h;cases(show none=some r from h)
     |succ zM V7=>
      intro h7 hA fT h
      replace h:vB (oy a0 aA a2 e4 zM) a0 aA a2 e4 h7 hA fT=some r:=h
      refine gd wt (fun wg pW nH rA=> ?_)
      refine bz nH (fun U9 zw E5 E6=> ?_)
      refine ws _ ?_
      refine b8 h (fun zN h=> ?_) (fun zN h=> ?_)
      ·refine cb (zw _ (.inl ?_))
       refine dd nH (fun zB oI rC E0 tB=> ?_)
       obtain⟨bI,V8,h⟩:=aY h
       refine fo (Fs h7 aA _ V8) _ ?_
       refine bz rC (fun Fe tC tD wj=> ?_)
       refine ws _ ?_
       refine b8 h (fun zO h=> ?_) (fun zO h=> ?_)
       ·exact ga (wj 0 _ (tB 0 _ (by decide) (rA 0 _ (pV _ (kc _ (.inr ⟨_,cu rfl,Fu h7 hA fT h⟩))))))
       ·refine cb (tC _ (.inl ?_))
        obtain⟨bV,wk,h⟩:=aY h
        obtain⟨dq,wu,h⟩:=aY h
        refine dw (cQ [(0,.str h7),(1,.str aA),(2,.int .i64 a2),(3,.int .i64 (IntKind.i64.wrap ((fL false e4 (IntKind.i64.wrap ((a0.length:Int)+1)))-1))),(9,.aG 1 ((List.set hA (Int.toNat fT) bV).map bW)),(10,.int .i64 fT),(11,.int .i64 bI)] (fun P aM=> ?_) ?_)
        ·simp only[bf.down,simprocAttr,eU,my,bW,wk,wu,kg wu,mo,hr,(show(List.map bW hA).set (Int.toNat fT) (.str bV)=List.map bW (List.set hA (Int.toNat fT) bV)from(List.map_set ..).symm)]
         (try simp only[cm.down,simprocAttr,bW,wk,wu,kg wu,mo,hr]at aM⊢);exact aM
        obtain⟨e3,rD,h⟩:=aY h
        refine fz rD [(0,.str e3),(1,.str aA),(2,.int .i64 a2),(3,.int .i64 (IntKind.i64.wrap ((fL false e4 (IntKind.i64.wrap ((a0.length:Int)+1)))-1))),(9,.aG 1 ((List.set hA (Int.toNat fT) bV).map bW)),(10,.int .i64 fT)] ?_
        refine wr [(0,.str e3),(1,.str aA),(2,.int .i64 a2),(3,.int .i64 (IntKind.i64.wrap ((fL false e4 (IntKind.i64.wrap ((a0.length:Int)+1)))-1))),(9,.aG 1 ((List.set hA (Int.toNat fT) bV).map bW)),(10,.int .i64 (IntKind.i64.wrap (fT+1)))] ?_
        exact oI _ (pW _ (.inr ⟨_,cu rfl,V7 e3 (List.set hA (Int.toNat fT) bV) (IntKind.i64.wrap (fT+1)) h⟩))
      ·exact ga (E6 0 _ (rA 0 _ (pV _ (kc _ (.inr ⟨_,cu rfl,Fu h7 hA fT h⟩)))))
    obtain⟨n,h⟩:=fW h
    exact gb (.inr ⟨_,cu rfl,V6 n a0 (List.replicate (Int.toNat (fL false e4 (IntKind.i64.wrap ((a0.length:Int)+1)))) ([]:List UInt8)) 0 h⟩)
   refine bz aR (fun kA fU gi hz=> ?_)
   refine ws _ ?_
   refine b8 h (fun zF h=> ?_) (fun zF h=> ?_)
   ·obtain⟨eh,V9,h⟩:=aY h
    refine UY (V2 a0 aA _ V9) _ ?_
    exact fU _ (.inr ⟨_,cu rfl,Ft (IntKind.i64.wrap (eh+1)) h⟩)
   ·exact cb (fU _ (.inr ⟨_,cu rfl,Ft a3 h⟩))
theorem V_ (a0:List UInt8) (aA:List UInt8) (r:(List (List UInt8))) (h:vD a0 aA=some r):bj aO 145 [.str a0,.str aA] (.aG 1 (r.map bW)) []:=by
 refine cU [0,1] [.tmp 4] Tryz.func145 Rj (fun cH aR cS=> ?_)
 refine ws _ ?_
 obtain⟨aH,aN,h⟩:=aY h
 refine fo (V5 a0 aA 0 (-1) _ aN) _ ?_
 exact bp (aR _ (.inl (bq [.aG 1 (aH.map bW)])))
theorem Wa (a0:List UInt8) (r:Int×Bool) (h:vE a0=some r):bj aO 153 [.str a0] (.tuple [.int .i64 r.1,.bool r.2]) []:=UX a0 r h
theorem Wb (a0:List (List UInt8)) (r:(List Int)×Bool) (h:vG a0=some r):bj aO 144 [.slice (a0.map bW)] (.tuple [.aG 1 (r.1.map b1),.bool r.2]) []:=by
 refine cU [0] [.tmp 2,.tmp 3] Tryz.func144 Rx (fun cH aR cS=> ?_)
 refine ws _ ?_
 refine ws _ ?_
 refine bz aR (fun tm lh e8 bI=> ?_)
 refine ws _ ?_
 refine dd e8 (fun oD jc gK hS dq=> ?_)
 have tr:∀(n:Nat) (eM:List Int) (j8:Int),pK a0 n eM j8=some r→e_ aO EE oD (R [(4,.aG 1 (eM.map b1)),(9,.slice (a0.map bW)),(10,.int .i64 (a0.length:Int)),(11,.int .i64 j8)]):=by
  intro m8
  induction m8 with
  |zero=>intro eM j8 h;cases(show none=some r from h)
  |succ m8 ts=>
   intro eM j8 h
   replace h:vF (pK a0 m8) a0 eM j8=some r:=h
   refine gd gK (fun i_ hf fX e3=> ?_)
   refine ws _ ?_
   refine bz fX (fun oC lS nD j5=> ?_)
   refine b8 h (fun tn h=> ?_) (fun tn h=> ?_)
   ·refine cb (lS _ (.inl ?_))
    refine bz fX (fun kA fU gi hz=> ?_)
    refine dd gi (fun nB iD i1 oF lQ=> ?_)
    obtain⟨aH,fH,h⟩:=aY h
    refine fz fH _ ?_
    obtain⟨aU,ja,h⟩:=aY h
    refine fo (Wa aH _ ja) _ ?_
    refine bz i1 (fun rz kc lT oE=> ?_)
    refine ws _ ?_
    refine b8 h (fun lU h=> ?_) (fun lU h=> ?_)
    ·refine ws _ ?_
     exact bp (lT _ (.inr ⟨[(2,.aG 1 []),(3,.bool false)],ml [] rfl (mn (t:=2) (d:=.bu) rfl rfl (.iR _) (by decide) (jY rfl (mm))),bq [.aG 1 [],.bool false]⟩))
    ·refine cb (kc _ (.inl ?_))
     obtain⟨Zh,oK,h⟩:=aY h
     (try simp only[gg.down,Nat.reduceAdd]at oK)
     refine k6 (cQ [(4,.aG 1 ((eM++[aU.1]).map b1)),(9,.slice (a0.map bW)),(10,.int .i64 (a0.length:Int)),(11,.int .i64 j8)] (fun P aM=> ?_) ?_)
     ·simp only[bf.down,simprocAttr,h2,mx,b1,bW,(show∀s,cF aO s 22 1 [(0,.int .i64 aU.1)]=some (.aG 1 [.int .i64 aU.1],s)from fun s=>by kernel_rfl), @jZ aO 22 22 2 rfl rfl,j0,j1,j2,all_cons,all_nil,oK, @oi _ b1 1 (fun _=>rfl)]
      (try simp only[cm.down,simprocAttr,b1,bW,(show∀s,cF aO s 22 1 [(0,.int .i64 aU.1)]=some (.aG 1 [.int .i64 aU.1],s)from fun s=>by kernel_rfl), @jZ aO 22 22 2 rfl rfl,j0,j1,j2,all_cons,all_nil,oK, @oi _ b1 1 (fun _=>rfl)]at aM⊢);exact aM
     refine iD _ (fU _ (.inl ?_))
     refine wr [(4,.aG 1 ((eM++[aU.1]).map b1)),(9,.slice (a0.map bW)),(10,.int .i64 (a0.length:Int)),(11,.int .i64 (IntKind.i64.wrap (j8+1)))] ?_
     exact hf _ (.inr ⟨_,cu rfl,ts (eM++[aU.1]) (IntKind.i64.wrap (j8+1)) h⟩)
   ·refine ga (j5 0 _ (e3 0 _ (hS _ (lh _ (.inl ?_)))))
    refine ws _ ?_
    exact bp (aR _ (.inl (bq [.aG 1 (eM.map b1),.bool true])))
 obtain⟨n,h⟩:=fW h
 exact gb (.inr ⟨_,ml [] rfl (mn (t:=4) (d:=.bu) (aX:=.aG 1 []) rfl rfl (.iR _) (by decide) (jY (t:=9) (d:=.slice (a0.map bW)) rfl (jY (t:=10) (d:=.int .i64 (a0.length:Int)) rfl (jY (t:=11) (d:=.int .i64 0) rfl (mm))))),tr n [] 0 h⟩)
theorem Wc (a0:UInt8) (r:Bool) (h:y3 a0=some r):bj aO 137 [.int .u8 (a0.toNat:Int)] (.bool r) []:=by
 refine cU [0] [.tmp 2] Tryz.func137 RA (fun cH aR cS=> ?_)
 refine ws _ ?_
 refine dw (cQ [(2,.bool ((decide (48≤(a0.toNat:Int)))&&(decide ((a0.toNat:Int)≤57))))] (fun P aM=> ?_) ?_)
 ·rcases Bool.eq_false_or_eq_true (decide (48≤(a0.toNat:Int)))with eH|eH
  ·simp only[bf.down,simprocAttr,eH]
   (try simp only[cm.down,simprocAttr,eH]at aM⊢);exact aM
  ·simp only[bf.down,simprocAttr,eH]
   (try simp only[cm.down,simprocAttr,eH]at aM⊢);exact aM
 exact bp (aR _ (.inl (bq [.bool ((decide (48≤(a0.toNat:Int)))&&(decide ((a0.toNat:Int)≤57)))])))
theorem Fv (a0:List UInt8) (r:Bool) (h:vH a0=some r):bj aO 120 [.str a0] (.bool r) []:=by
 refine cU [0] [.tmp 2] Tryz.func120 RM (fun cH aR cS=> ?_)
 refine ws _ ?_
 refine bz aR (fun hG dY cn aU=> ?_)
 refine ws _ ?_
 refine dd cn (fun i7 h_ ef ck bV=> ?_)
 have nF:∀(n:Nat) (h8:Int),nz a0 n h8=some r→e_ aO EF i7 (R [(0,.str a0),(6,.int .i64 (a0.length:Int)),(7,.int .i64 h8)]):=by
  intro m6
  induction m6 with
  |zero=>intro h8 h;cases(show none=some r from h)
  |succ m6 mI=>
   intro h8 h
   replace h:ti (nz a0 m6) a0 h8=some r:=h
   refine gd ef (fun oD jc gK dq=> ?_)
   refine ws _ ?_
   refine bz gK (fun nA iC hn eh=> ?_)
   refine b8 h (fun dc h=> ?_) (fun dc h=> ?_)
   ·refine cb (iC _ (.inl ?_))
    refine bz gK (fun kz gO gh fF=> ?_)
    refine dd gh (fun kA fU gi fV hz=> ?_)
    refine ws _ ?_
    obtain⟨aH,fH,h⟩:=aY h
    refine dw (cQ [(0,.str a0),(3,.int .i64 h8),(4,.bool ((decide (97≤(aH.toNat:Int)))&&(decide ((aH.toNat:Int)≤122)))),(6,.int .i64 (a0.length:Int)),(7,.int .i64 h8)] (fun P aM=> ?_) ?_)
    ·rcases Bool.eq_false_or_eq_true (decide (97≤(aH.toNat:Int)))with tG|tG
     ·simp only[bf.down,simprocAttr,eU,fH,tG]
      (try simp only[cm.down,simprocAttr,fH,tG]at aM⊢);exact aM
     ·simp only[bf.down,simprocAttr,eU,fH,tG]
      (try simp only[cm.down,simprocAttr,fH,tG]at aM⊢);exact aM
    rcases gH h with⟨kD,h⟩|⟨kD,h⟩
    ·rcases gH h with⟨oG,h⟩|⟨oG,h⟩
     ·refine fz (And.intro kD oG) _ ?_
      refine mj rfl ?_
      refine ws _ ?_
      exact bp (gi _ (.inl (bq [.bool false])))
     ·obtain⟨aU,iG,h⟩:=aY h
      refine dw (cQ [(0,.str a0),(6,.int .i64 (a0.length:Int)),(7,.int .i64 h8),(32,.bool (!aU))] (fun P aM=> ?_) ?_)
      ·simp only[bf.down,simprocAttr,eU,kD,oG,fH]
       refine h0 (Wc aH _ iG) rfl rfl rfl rfl (.inl (by rfl)) ?_
       simp only[bf.down,simprocAttr,eU,kD,oG,fH]
       (try simp only[cm.down,simprocAttr,kD,oG,fH]at aM⊢);exact aM
      refine b8 h (fun rv h=> ?_) (fun rv h=> ?_)
      ·refine ws _ ?_
       exact bp (gi _ (.inl (bq [.bool false])))
      ·refine cb (fU _ (gO _ (.inl ?_)))
       refine wr _ ?_
       exact jc _ (.inr ⟨_,cu rfl,mI (IntKind.i64.wrap (h8+1)) h⟩)
    ·refine fz kD _ ?_
     refine sQ rfl ?_
     refine cb (fU _ (gO _ (.inl ?_)))
     refine wr _ ?_
     exact jc _ (.inr ⟨_,cu rfl,mI (IntKind.i64.wrap (h8+1)) h⟩)
   ·refine ga (eh 0 _ (dq 0 _ (ck _ (dY _ (.inl ?_)))))
    refine dw (cQ [(2,.bool ((decide (1≤(a0.length:Int)))&&(decide ((a0.length:Int)≤10))))] (fun P aM=> ?_) ?_)
    ·rcases Bool.eq_false_or_eq_true (decide (1≤(a0.length:Int)))with tH|tH
     ·simp only[bf.down,simprocAttr,eU,tH]
      (try simp only[cm.down,simprocAttr,tH]at aM⊢);exact aM
     ·simp only[bf.down,simprocAttr,eU,tH]
      (try simp only[cm.down,simprocAttr,tH]at aM⊢);exact aM
    exact bp (aR _ (.inl (bq [.bool ((decide (1≤(a0.length:Int)))&&(decide ((a0.length:Int)≤10)))])))
 obtain⟨n,h⟩:=fW h
 exact gb (.inr ⟨_,cu rfl,nF n 0 h⟩)
theorem zP (a0:List UInt8) (r:Bool) (h:vI a0=some r):bj aO 89 [.str a0] (.bool r) []:=by
 refine cU [0] [.tmp 2] Tryz.func89 RP (fun cH aR cS=> ?_)
 refine ws _ ?_
 obtain⟨aH,aN,h⟩:=aY h
 refine dw (cQ [(2,.bool (aH&&(!(a0==([116,97,117]:List UInt8)))))] (fun P aM=> ?_) ?_)
 ·rcases Bool.eq_false_or_eq_true (aH)with hV|hV
  ·simp only[bf.down,simprocAttr,hV]
   refine fa (Fv a0 _ aN) rfl rfl rfl rfl (.inl (by rfl)) ?_
   simp only[bf.down,simprocAttr,hV]
   (try simp only[cm.down,simprocAttr,hV]at aM⊢);exact aM
  ·simp only[bf.down,simprocAttr,hV]
   refine fa (Fv a0 _ aN) rfl rfl rfl rfl (.inl (by rfl)) ?_
   simp only[bf.down,simprocAttr,hV]
   (try simp only[cm.down,simprocAttr,hV]at aM⊢);exact aM
 exact bp (aR _ (.inl (bq [.bool (aH&&(!(a0==([116,97,117]:List UInt8))))])))
theorem Wd (a0:Int) (r:Bool) (h:y4 a0=some r):bj aO 96 [.int .i64 a0] (.bool r) []:=by
 refine cU [0] [.tmp 2] Tryz.func96 RS (fun cH aR cS=> ?_)
 refine ws _ ?_
 obtain⟨aH,aN,h⟩:=aY h
 refine fo (lV a0 0 63 _ aN) _ ?_
 exact bp (aR _ (.inl (bq [.bool aH])))
theorem We (a0:Int) (r:Bool) (h:y5 a0=some r):bj aO 95 [.int .i64 a0] (.bool r) []:=by
 refine cU [0] [.tmp 2] Tryz.func95 RV (fun cH aR cS=> ?_)
 refine ws _ ?_
 obtain⟨aH,aN,h⟩:=aY h
 refine fo (Wd a0 _ aN) _ ?_
 exact bp (aR _ (.inl (bq [.bool (!aH)])))
theorem Wf (a0:List Int) (r:Int) (h:y6 a0=some r):bj aO 125 [.slice (a0.map b1),.fn 95 []] (.int .i64 r) []:=by
 refine cU [0,1] [.tmp 4] Tryz.func125 R6 (fun cH aR cS=> ?_)
 refine ws _ ?_
 refine bz aR (fun hG dY cn aU=> ?_)
 refine ws _ ?_
 refine dd cn (fun i7 h_ ef ck bV=> ?_)
 have nF:∀(n:Nat) (fy:Int),pL a0 n fy=some r→e_ aO EG i7 (R [(0,.slice (a0.map b1)),(1,.fn 95 []),(7,.int .i64 (a0.length:Int)),(8,.int .i64 fy)]):=by
  intro m6
  induction m6 with
  |zero=>intro fy h;cases(show none=some r from h)
  |succ m6 mI=>
   intro fy h
   replace h:vJ (pL a0 m6) a0 fy=some r:=h
   refine gd ef (fun oD jc gK dq=> ?_)
   refine ws _ ?_
   refine bz gK (fun nA iC hn eh=> ?_)
   refine b8 h (fun dc h=> ?_) (fun dc h=> ?_)
   ·refine cb (iC _ (.inl ?_))
    refine bz gK (fun kz gO gh fF=> ?_)
    refine dd gh (fun kA fU gi fV hz=> ?_)
    refine ws _ ?_
    obtain⟨aH,fH,h⟩:=aY h
    obtain⟨aU,kB,h⟩:=aY h
    refine hK fH (We aH _ kB) _ ?_
    refine b8 h (fun kb h=> ?_) (fun kb h=> ?_)
    ·refine ws _ ?_
     exact bp (gi _ (.inl (bq [.int .i64 fy])))
    ·refine cb (fU _ (gO _ (.inl ?_)))
     refine wr _ ?_
     exact jc _ (.inr ⟨_,cu rfl,mI (IntKind.i64.wrap (fy+1)) h⟩)
   ·refine ga (eh 0 _ (dq 0 _ (ck _ (dY _ (.inl ?_)))))
    refine ws _ ?_
    exact bp (aR _ (.inl (bq [.int .i64 (-1)])))
 obtain⟨n,h⟩:=fW h
 exact gb (.inr ⟨_,cu rfl,nF n 0 h⟩)
theorem Wg (a0:List Int) (r:Bool) (h:y7 a0=some r):bj aO 94 [.slice (a0.map b1),.fn 95 []] (.bool r) []:=by
 refine cU [0,1] [.tmp 4] Tryz.func94 R9 (fun cH aR cS=> ?_)
 refine ws _ ?_
 obtain⟨aH,aN,h⟩:=aY h
 refine fo (Wf a0 _ aN) _ ?_
 exact bp (aR _ (.inl (bq [.bool (decide (0≤aH))])))
theorem Wh (a0:List Int) (r:Bool) (h:vK a0=some r):bj aO 60 [.slice (a0.map b1)] (.bool r) []:=by
 refine cU [0] [.tmp 2] Tryz.func60 Sb (fun cH aR cS=> ?_)
 refine ws _ ?_
 obtain⟨aH,aN,h⟩:=aY h
 refine fo (Wg a0 _ aN) _ ?_
 exact bp (aR _ (.inl (bq [.bool (!aH)])))
theorem Wi (a0 aA:Int) (r:List UInt8) (h:rm a0 aA=some r):bj aO 111 [.int .i64 a0,.int .i64 aA] (.str r) []:=UI a0 aA r h
theorem Fw (a0:Int) (r:(List UInt8)) (h:mB a0=some r):bj aO 75 [.int .i64 a0] (.str r) []:=by
 refine cU [0] [.tmp 2] Tryz.func75 Sd (fun cH aR cS=> ?_)
 refine ws _ ?_
 obtain⟨aH,aN,h⟩:=aY h
 refine fo (Wi a0 10 _ aN) _ ?_
 exact bp (aR _ (.inl (bq [.str aH])))
theorem Wj (a0:List (List UInt8)) (aA:List UInt8) (r:List UInt8) (h:strings_Join a0 aA=some r):bj aO 103 [.slice (a0.map bW),.str aA] (.str r) []:=UJ a0 aA r h
theorem Fx (a0:List Int) (aA:List UInt8) (r:(List UInt8)) (h:pM a0 aA=some r):bj aO 65 [.slice (a0.map b1),.str aA] (.str r) []:=by
 refine cU [0,1] [.tmp 4] Tryz.func65 So (fun cH aR cS=> ?_)
 refine ws _ ?_
 obtain⟨wc,aN,h⟩:=aY h
 refine dw (cQ [(0,.slice (a0.map b1)),(1,.str aA),(5,.aG 1 ((List.replicate (Int.toNat (a0.length:Int)) ([]:List UInt8)).map bW))] (fun P aM=> ?_) ?_)
 ·simp only[bf.down,simprocAttr,h2,eU,mx,my,b1,bW,(hN aN).1,(hN aN).2.1,(hN aN).2.2,en,List.map_replicate,-Int.reduceNatCast']
  (try simp only[cm.down,simprocAttr,b1,bW,(hN aN).1,(hN aN).2.1,(hN aN).2.2,en,List.map_replicate,-Int.reduceNatCast']at aM⊢);exact aM
 refine bz aR (fun i7 h_ ef bV=> ?_)
 refine ws [(1,.str aA),(5,.aG 1 ((List.replicate (Int.toNat (a0.length:Int)) ([]:List UInt8)).map bW)),(11,.slice (a0.map b1)),(12,.int .i64 (a0.length:Int)),(13,.int .i64 0)] ?_
 refine dd ef (fun i_ hf fX cP e3=> ?_)
 have tr:∀(n:Nat) (jE:List (List UInt8)) (hJ:Int),mC a0 aA n jE hJ=some r→e_ aO EH i_ (R [(1,.str aA),(5,.aG 1 (jE.map bW)),(11,.slice (a0.map b1)),(12,.int .i64 (a0.length:Int)),(13,.int .i64 hJ)]):=by
  intro m8
  induction m8 with
  |zero=>intro jE hJ h;cases(show none=some r from h)
  |succ m8 ts=>
   intro jE hJ h
   replace h:rn (mC a0 aA m8) a0 aA jE hJ=some r:=h
   refine gd fX (fun nA iC hn eh=> ?_)
   refine ws _ ?_
   refine bz hn (fun kz gO gh fF=> ?_)
   refine b8 h (fun fV h=> ?_) (fun fV h=> ?_)
   ·refine cb (gO _ (.inl ?_))
    refine bz hn (fun nB iD i1 lQ=> ?_)
    refine dd i1 (fun v_ nE pR iF tt=> ?_)
    obtain⟨aH,kB,h⟩:=aY h
    refine fz kB _ ?_
    obtain⟨aU,jb,h⟩:=aY h
    obtain⟨bI,gj,h⟩:=aY h
    refine k6 (cQ [(1,.str aA),(5,.aG 1 ((List.set jE (Int.toNat hJ) aU).map bW)),(11,.slice (a0.map b1)),(12,.int .i64 (a0.length:Int)),(13,.int .i64 hJ)] (fun P aM=> ?_) ?_)
    ·simp only[bf.down,simprocAttr,eU,my,b1,bW,gj,kg gj,mo,hr]
     refine fa (Fw aH _ jb) rfl rfl rfl rfl (.inl (by rfl)) ?_
     simp only[bf.down,simprocAttr,eU,my,b1,bW,gj,kg gj,mo,hr]
     (try simp only[cm.down,simprocAttr,b1,bW,gj,kg gj,mo,hr]at aM⊢);exact aM
    refine nE _ (iD _ (.inl ?_))
    refine wr [(1,.str aA),(5,.aG 1 ((List.set jE (Int.toNat hJ) aU).map bW)),(11,.slice (a0.map b1)),(12,.int .i64 (a0.length:Int)),(13,.int .i64 (IntKind.i64.wrap (hJ+1)))] ?_
    exact iC _ (.inr ⟨_,cu rfl,ts (List.set jE (Int.toNat hJ) aU) (IntKind.i64.wrap (hJ+1)) h⟩)
   ·refine ga (fF 0 _ (eh 0 _ (cP _ (h_ _ (.inl ?_)))))
    obtain⟨bV,oH,h⟩:=aY h
    refine dw (cQ [(4,.str bV)] (fun P aM=> ?_) ?_)
    ·simp only[bf.down,simprocAttr,b1,bW]
     refine fa (Wj jE aA _ oH) rfl rfl (by simp only[bf.down,simprocAttr,b1,bW,nm,nn,np,kr, @og _ bW bW (fun _=>Eh _)]<;>rfl) rfl (.inr (by rfl)) ?_
     simp only[bf.down,simprocAttr,b1,bW]
     (try simp only[cm.down,simprocAttr,b1,bW]at aM⊢);exact aM
    exact bp (aR _ (.inl (bq [.str bV])))
 obtain⟨n,h⟩:=fW h
 exact gb (.inr ⟨_,cu rfl,tr n (List.replicate (Int.toNat (a0.length:Int)) ([]:List UInt8)) 0 h⟩)
theorem Wk (a0:List UInt8) (aA:List Int) (r:(List UInt8)×Bool) (h:vL a0 aA=some r):bj aO 63 [.str a0,.slice (aA.map b1)] (.tuple [.str r.1,.bool r.2]) []:=by
 refine cU [0,1] [.tmp 4,.tmp 5] Tryz.func63 SB (fun cH aR cS=> ?_)
 refine ws _ ?_
 refine bz aR (fun hG dY cn aU=> ?_)
 refine dd cn (fun tm lh e8 gX bI=> ?_)
 refine ws _ ?_
 refine b8 h (fun hS h=> ?_) (fun hS h=> ?_)
 ·refine ws _ ?_
  exact bp (e8 _ (.inl (bq [.str ([116,97,117]:List UInt8),.bool ((aA.length:Int)==0)])))
 ·obtain⟨aU,fi,h⟩:=aY h
  rcases gH h with⟨fV,h⟩|⟨fV,h⟩
  ·refine hK (pC fV) (zP a0 _ fi) _ ?_
   refine mj rfl ?_
   refine ws _ ?_
   exact bp (e8 _ (.inl (bq [.str ([]:List UInt8),.bool false])))
  ·rcases gH h with⟨iF,h⟩|⟨iF,h⟩
   ·refine hK (And.intro (mw fV) iF) (zP a0 _ fi) _ ?_
    refine mj rfl ?_
    refine ws _ ?_
    exact bp (e8 _ (.inl (bq [.str ([]:List UInt8),.bool false])))
   ·obtain⟨bI,kB,h⟩:=aY h
    refine dw (cQ [(0,.str a0),(1,.slice (aA.map b1)),(12,.bool (!bI))] (fun P aM=> ?_) ?_)
    ·simp only[bf.down,simprocAttr,h2,mx,b1,(mw fV),iF]
     refine fa (zP a0 _ fi) rfl rfl rfl rfl (.inl (by rfl)) ?_
     simp only[bf.down,simprocAttr,h2,mx,b1,(mw fV),iF]
     refine h0 (Wh aA _ kB) rfl rfl rfl rfl (.inl (by rfl)) ?_
     simp only[bf.down,simprocAttr,h2,mx,b1,(mw fV),iF]
     (try simp only[cm.down,simprocAttr,b1,(mw fV),iF]at aM⊢);exact aM
    refine b8 h (fun kb h=> ?_) (fun kb h=> ?_)
    ·refine ws _ ?_
     exact bp (e8 _ (.inl (bq [.str ([]:List UInt8),.bool false])))
    ·refine ws _ ?_
     refine b8 h (fun lU h=> ?_) (fun lU h=> ?_)
     ·refine ws _ ?_
      exact bp (e8 _ (.inl (bq [.str a0,.bool true])))
     ·refine cb (lh _ (dY _ (.inl ?_)))
      obtain⟨Fy,oK,h⟩:=aY h
      (try simp only[gg.down,Nat.reduceAdd]at oK)
      obtain⟨bV,kd,h⟩:=aY h
      obtain⟨Fy,kC,h⟩:=aY h
      (try simp only[gg.down,Nat.reduceAdd]at kC)
      obtain⟨Fy,oJ,h⟩:=aY h
      (try simp only[gg.down,Nat.reduceAdd]at oJ)
      refine dw (cQ [(4,.str (((a0++([40]:List UInt8))++bV)++([41]:List UInt8))),(5,.bool true)] (fun P aM=> ?_) ?_)
      ·simp only[bf.down,simprocAttr,b1,oK,ht,hv,kC,oJ]
       refine fa (Fx aA ([44]:List UInt8) _ kd) rfl rfl rfl rfl (.inl (by rfl)) ?_
       simp only[bf.down,simprocAttr,b1,oK,ht,hv,kC,oJ]
       (try simp only[cm.down,simprocAttr,b1,oK,ht,hv,kC,oJ]at aM⊢);exact aM
      exact bp (aR _ (.inl (bq [.str (((a0++([40]:List UInt8))++bV)++([41]:List UInt8)),.bool true])))
theorem Wl (a0:List UInt8) (r:(List UInt8)×(List Int)×Bool) (h:vM a0=some r):bj aO 133 [.str a0] (.tuple [.str r.1,.aG 1 (r.2.1.map b1),.bool r.2.2]) []:=by
 refine cU [0] [.tmp 2,.tmp 3,.tmp 4] Tryz.func133 SQ (fun cH aR cS=> ?_)
 refine ws _ ?_
 obtain⟨aH,aN,h⟩:=aY h
 refine fo (VX a0 ([40]:List UInt8) _ aN) _ ?_
 refine ws _ ?_
 have Fz:∀(mD:List Int),tj a0 aH mD=some r→ca aO EI cH (R [(0,.str a0),(5,.str aH.1),(8,.aG 1 (mD.map b1))]):=by
  intro mD h
  refine bz aR (fun i_ hf fX e3=> ?_)
  obtain⟨aU,gz,h⟩:=aY h
  refine dw (cQ [(0,.str a0),(5,.str aH.1),(8,.aG 1 (mD.map b1)),(10,.str aU.1),(11,.bool aU.2)] (fun P aM=> ?_) ?_)
  ·simp only[bf.down,simprocAttr,b1]
   refine fa (Wk aH.1 mD _ gz) rfl rfl (by simp only[bf.down,simprocAttr,b1,nm,nn,np,kr, @og _ b1 b1 (fun _=>Eg _)]<;>rfl) rfl (.inr (by rfl)) ?_
   simp only[bf.down,simprocAttr,b1]
   (try simp only[cm.down,simprocAttr,b1]at aM⊢);exact aM
  refine dw (cQ [(5,.str aH.1),(8,.aG 1 (mD.map b1)),(40,.bool ((!aU.2)||(!(aU.1==a0))))] (fun P aM=> ?_) ?_)
  ·rcases Bool.eq_false_or_eq_true (aU.2)with tI|tI
   ·simp only[bf.down,simprocAttr,b1,tI]
    (try simp only[cm.down,simprocAttr,b1,tI]at aM⊢);exact aM
   ·simp only[bf.down,simprocAttr,b1,tI]
    (try simp only[cm.down,simprocAttr,b1,tI]at aM⊢);exact aM
  refine b8 h (fun oF h=> ?_) (fun oF h=> ?_)
  ·refine ws _ ?_
   exact bp (fX _ (.inr ⟨[(2,.str ([]:List UInt8)),(3,.aG 1 []),(4,.bool false)],ml [] rfl (jY rfl (mn (t:=3) (d:=.bu) rfl rfl (.iR _) (by decide) (jY rfl (mm)))),bq [.str ([]:List UInt8),.aG 1 [],.bool false]⟩))
  ·refine cb (hf _ (.inl ?_))
   refine ws _ ?_
   exact bp (aR _ (.inl (bq [.str aH.1,.aG 1 (mD.map b1),.bool true])))
 refine bz aR (fun oD jc gK dq=> ?_)
 refine ws _ ?_
 refine b8 h (fun kb h=> ?_) (fun kb h=> ?_)
 ·refine ws _ ?_
  obtain⟨bI,iE,h⟩:=aY h
  obtain⟨bV,iG,h⟩:=aY h
  obtain⟨dq,oH,h⟩:=aY h
  refine dw (cQ [(0,.str a0),(5,.str aH.1),(8,.aG 1 (dq.1.map b1)),(9,.bool dq.2)] (fun P aM=> ?_) ?_)
  ·simp only[bf.down,simprocAttr,b1,bW]
   refine fa (V0 aH.2.1 ([41]:List UInt8) _ iE) rfl rfl rfl rfl (.inl (by rfl)) ?_
   simp only[bf.down,simprocAttr,b1,bW]
   refine fa (V_ bI ([44]:List UInt8) _ iG) rfl rfl rfl rfl (.inl (by rfl)) ?_
   simp only[bf.down,simprocAttr,b1,bW]
   refine fa (Wb bV _ oH) rfl rfl (by simp only[bf.down,simprocAttr,b1,bW,nm,nn,np,kr, @og _ bW bW (fun _=>Eh _)]<;>rfl) rfl (.inr (by simp only[I.c_,I.kn, @KD _ b1 (fun _=>L5 _),Bool.and_self])) ?_
   simp only[bf.down,simprocAttr,b1,bW]
   (try simp only[cm.down,simprocAttr,b1,bW]at aM⊢);exact aM
  refine ws _ ?_
  refine b8 h (fun zH h=> ?_) (fun zH h=> ?_)
  ·refine ws _ ?_
   exact bp (gK _ (.inr ⟨[(2,.str ([]:List UInt8)),(3,.aG 1 []),(4,.bool false)],ml [] rfl (jY rfl (mn (t:=3) (d:=.bu) rfl rfl (.iR _) (by decide) (jY rfl (mm)))),bq [.str ([]:List UInt8),.aG 1 [],.bool false]⟩))
  ·exact cb (jc _ (.inr ⟨_,cu rfl,Fz dq.1 h⟩))
 ·exact cb (jc _ (.inr ⟨_,ml [] rfl (jY (t:=0) (d:=.str a0) rfl (jY (t:=5) (d:=.str aH.1) rfl (mn (t:=8) (d:=.bu) (aX:=.aG 1 []) rfl rfl (.iR _) (by decide) (mm)))),Fz [] h⟩))
theorem Wm (a0:List UInt8) (r:Bool) (h:pN a0=some r):bj aO 110 [.str a0] (.bool r) []:=by
 refine cU [0] [.tmp 2] Tryz.func110 SV (fun cH aR cS=> ?_)
 refine ws _ ?_
 obtain⟨aH,aN,h⟩:=aY h
 refine fo (Wl a0 _ aN) _ ?_
 refine ws _ ?_
 exact bp (aR _ (.inl (bq [.bool aH.2.2])))
theorem Wn (a0:b3) (r:Bool) (h:vN a0=some r):bj aO 73 [b4 a0] (.bool r) []:=by
 refine cU [0] [.tmp 2] Tryz.func73 SY (fun cH aR cS=> ?_)
 refine ws _ ?_
 obtain⟨aH,aN,h⟩:=aY h
 rcases gH h with⟨ck,h⟩|⟨ck,h⟩
 ·obtain⟨aU,bN,h⟩:=aY h
  rcases gH h with⟨cP,h⟩|⟨cP,h⟩
  ·obtain⟨bI,ba,h⟩:=aY h
   rcases gH h with⟨dc,h⟩|⟨dc,h⟩
   ·obtain⟨bV,fi,h⟩:=aY h
    refine dw (cQ [(2,.bool bV)] (fun P aM=> ?_) ?_)
    ·simp only[bf.down,simprocAttr,fG.down,ck,cP,dc]
     refine fa (lV a0.Choice 0 199 _ aN) rfl rfl rfl rfl (.inl (by rfl)) ?_
     simp only[bf.down,simprocAttr,fG.down,ck,cP,dc]
     refine h0 (lV a0.dJ 0 2 _ bN) rfl rfl rfl rfl (.inl (by rfl)) ?_
     simp only[bf.down,simprocAttr,fG.down,ck,cP,dc]
     refine h0 (lV a0.Second (-1) 2 _ ba) rfl rfl rfl rfl (.inl (by rfl)) ?_
     simp only[bf.down,simprocAttr,fG.down,ck,cP,dc]
     refine h0 (Wm a0.Label _ fi) rfl rfl rfl rfl (.inl (by rfl)) ?_
     simp only[bf.down,simprocAttr,fG.down,ck,cP,dc]
     (try simp only[cm.down,simprocAttr,b4,ck,cP,dc]at aM⊢);exact aM
    exact bp (aR _ (.inl (bq [.bool bV])))
   ·refine dw (cQ [(2,.bool false)] (fun P aM=> ?_) ?_)
    ·simp only[bf.down,simprocAttr,fG.down,ck,cP,dc]
     refine fa (lV a0.Choice 0 199 _ aN) rfl rfl rfl rfl (.inl (by rfl)) ?_
     simp only[bf.down,simprocAttr,fG.down,ck,cP,dc]
     refine h0 (lV a0.dJ 0 2 _ bN) rfl rfl rfl rfl (.inl (by rfl)) ?_
     simp only[bf.down,simprocAttr,fG.down,ck,cP,dc]
     refine h0 (lV a0.Second (-1) 2 _ ba) rfl rfl rfl rfl (.inl (by rfl)) ?_
     simp only[bf.down,simprocAttr,fG.down,ck,cP,dc]
     (try simp only[cm.down,simprocAttr,b4,ck,cP,dc]at aM⊢);exact aM
    exact bp (aR _ (.inl (bq [.bool false])))
  ·refine dw (cQ [(2,.bool false)] (fun P aM=> ?_) ?_)
   ·simp only[bf.down,simprocAttr,fG.down,ck,cP]
    refine fa (lV a0.Choice 0 199 _ aN) rfl rfl rfl rfl (.inl (by rfl)) ?_
    simp only[bf.down,simprocAttr,fG.down,ck,cP]
    refine h0 (lV a0.dJ 0 2 _ bN) rfl rfl rfl rfl (.inl (by rfl)) ?_
    simp only[bf.down,simprocAttr,fG.down,ck,cP]
    (try simp only[cm.down,simprocAttr,b4,ck,cP]at aM⊢);exact aM
   exact bp (aR _ (.inl (bq [.bool false])))
 ·refine hK ck (lV a0.Choice 0 199 _ aN) _ ?_
  exact bp (aR _ (.inl (bq [.bool false])))
theorem Wo (a0:b3) (r:Bool) (h:y8 a0=some r):bj aO 72 [b4 a0] (.bool r) []:=by
 refine cU [0] [.tmp 2] Tryz.func72 S0 (fun cH aR cS=> ?_)
 refine ws _ ?_
 obtain⟨aH,aN,h⟩:=aY h
 refine fo (Wn a0 _ aN) _ ?_
 exact bp (aR _ (.inl (bq [.bool (!aH)])))
theorem Wp (a0:List b3) (r:Int) (h:y9 a0=some r):bj aO 109 [.slice (a0.map b4),.fn 72 []] (.int .i64 r) []:=by
 refine cU [0,1] [.tmp 4] Tryz.func109 S_ (fun cH aR cS=> ?_)
 refine ws _ ?_
 refine bz aR (fun hG dY cn aU=> ?_)
 refine ws _ ?_
 refine dd cn (fun i7 h_ ef ck bV=> ?_)
 have nF:∀(n:Nat) (fy:Int),pO a0 n fy=some r→e_ aO EJ i7 (R [(0,.slice (a0.map b4)),(1,.fn 72 []),(7,.int .i64 (a0.length:Int)),(8,.int .i64 fy)]):=by
  intro m6
  induction m6 with
  |zero=>intro fy h;cases(show none=some r from h)
  |succ m6 mI=>
   intro fy h
   replace h:vO (pO a0 m6) a0 fy=some r:=h
   refine gd ef (fun oD jc gK dq=> ?_)
   refine ws _ ?_
   refine bz gK (fun nA iC hn eh=> ?_)
   refine b8 h (fun dc h=> ?_) (fun dc h=> ?_)
   ·refine cb (iC _ (.inl ?_))
    refine bz gK (fun kz gO gh fF=> ?_)
    refine dd gh (fun kA fU gi fV hz=> ?_)
    refine ws _ ?_
    obtain⟨aH,fH,h⟩:=aY h
    obtain⟨aU,kB,h⟩:=aY h
    refine hK fH (Wo aH _ kB) _ ?_
    refine b8 h (fun kb h=> ?_) (fun kb h=> ?_)
    ·refine ws _ ?_
     exact bp (gi _ (.inl (bq [.int .i64 fy])))
    ·refine cb (fU _ (gO _ (.inl ?_)))
     refine wr _ ?_
     exact jc _ (.inr ⟨_,cu rfl,mI (IntKind.i64.wrap (fy+1)) h⟩)
   ·refine ga (eh 0 _ (dq 0 _ (ck _ (dY _ (.inl ?_)))))
    refine ws _ ?_
    exact bp (aR _ (.inl (bq [.int .i64 (-1)])))
 obtain⟨n,h⟩:=fW h
 exact gb (.inr ⟨_,cu rfl,nF n 0 h⟩)
theorem Wq (a0:List b3) (r:Bool) (h:y_ a0=some r):bj aO 71 [.slice (a0.map b4),.fn 72 []] (.bool r) []:=by
 refine cU [0,1] [.tmp 4] Tryz.func71 Tc (fun cH aR cS=> ?_)
 refine ws _ ?_
 obtain⟨aH,aN,h⟩:=aY h
 refine fo (Wp a0 _ aN) _ ?_
 exact bp (aR _ (.inl (bq [.bool (decide (0≤aH))])))
theorem Wr (a0:List b3) (r:Bool) (h:vP a0=some r):bj aO 40 [.slice (a0.map b4)] (.bool r) []:=by
 refine cU [0] [.tmp 2] Tryz.func40 Te (fun cH aR cS=> ?_)
 refine ws _ ?_
 rcases gH h with⟨gX,h⟩|⟨gX,h⟩
 ·obtain⟨aH,bt,h⟩:=aY h
  refine dw (cQ [(2,.bool (!aH))] (fun P aM=> ?_) ?_)
  ·simp only[bf.down,simprocAttr,h2,eU,ot,k7,b4,gX]
   refine h0 (Wq a0 _ bt) rfl rfl rfl rfl (.inl (by rfl)) ?_
   simp only[bf.down,simprocAttr,h2,eU,ot,k7,b4,gX]
   (try simp only[cm.down,simprocAttr,b4,gX]at aM⊢);exact aM
  exact bp (aR _ (.inl (bq [.bool (!aH)])))
 ·refine fz gX _ ?_
  exact bp (aR _ (.inl (bq [.bool false])))
theorem Ws (a0:List UInt8) (aA:Int) (r:Int) (h:ru a0 aA=some r):bj aO 74 [.str a0,.int .i64 aA] (.int .i64 r) []:=by
 refine cU [0,1] [.tmp 4] Tryz.func74 Ty (fun cH aR cS=> ?_)
 refine ws _ ?_
 refine bz aR (fun hG dY cn aU=> ?_)
 obtain⟨aH,bt,h⟩:=aY h
 refine fo (lV aA 0 65535 _ bt) _ ?_
 refine b8 h (fun hS h=> ?_) (fun hS h=> ?_)
 ·refine ws _ ?_
  exact bp (cn _ (.inl (bq [.int .i64 0])))
 ·refine cb (dY _ (.inl ?_))
  refine ws _ ?_
  refine bz aR (fun oC lS nD j5=> ?_)
  refine ws _ ?_
  refine dd nD (fun kA fU gi fV hz=> ?_)
  have tp:∀(n:Nat) (gf:Int) (ld:Int),lf a0 n gf ld=some r→e_ aO EM kA (R [(0,.str a0),(5,.int .i64 gf),(12,.int .i64 (a0.length:Int)),(13,.int .i64 ld)]):=by
   intro m16
   induction m16 with
   |zero=>intro gf ld h;cases(show none=some r from h)
   |succ m16 tq=>
    intro gf ld h
    replace h:zb (lf a0 m16) a0 gf ld=some r:=h
    refine gd gi (fun nB iD i1 lQ=> ?_)
    refine ws _ ?_
    refine bz i1 (fun tv nG pU tw=> ?_)
    refine b8 h (fun pS h=> ?_) (fun pS h=> ?_)
    ·refine cb (nG _ (.inl ?_))
     refine bz i1 (fun oA ka jH oB=> ?_)
     refine dd jH (fun rz kc lT kD oE=> ?_)
     refine ws _ ?_
     obtain⟨aU,iG,h⟩:=aY h
     refine fz (And.intro iG (@qX aO 5 2 .i64 rfl rfl)) _ ?_
     refine ws _ ?_
     refine dd lT (fun wo wq wt pV Fo=> ?_)
     have Wt:∀(n:Nat) (jF:Int) (j9:Int) (kx:Int),pP (lf a0 m16) a0 n jF j9 kx=some r→e_ aO EL wo (R [(0,.str a0),(5,.int .i64 jF),(12,.int .i64 (a0.length:Int)),(13,.int .i64 j9),(23,.int .i64 kx)]):=by
      intro m32
      induction m32 with
      |zero=>intro jF j9 kx h;cases(show none=some r from h)
      |succ m32 Wu=>
       intro jF j9 kx h
       replace h:za (lf a0 m16) (pP (lf a0 m16) a0 m32) a0 jF j9 kx=some r:=h
       refine gd wt (fun wg pW nH rA=> ?_)
       refine ws _ ?_
       refine bz nH (fun wh pX tz wi=> ?_)
       refine b8 h (fun zN h=> ?_) (fun zN h=> ?_)
       ·refine cb (pX _ (.inl ?_))
        have FA:∀(rp:Int) (rq:Int) (rr:Int),vQ (lf a0 m16) (pP (lf a0 m16) a0 m32) a0 rp rq rr=some r→ca aO EK wg (R [(0,.str a0),(5,.int .i64 rp),(12,.int .i64 (a0.length:Int)),(13,.int .i64 rq),(23,.int .i64 rr)]):=by
         intro rp rq rr h
         refine wr _ ?_
         exact pW _ (.inr ⟨_,cu rfl,Wu rp rq (IntKind.i64.wrap (rr+1)) h⟩)
        refine bz nH (fun zB oI rC tB=> ?_)
        refine dd rC (fun Fk zI Fl rB VH=> ?_)
        refine ws _ ?_
        refine ws _ ?_
        refine b8 h (fun zO h=> ?_) (fun zO h=> ?_)
        ·refine wr _ ?_
         exact zI _ (oI _ (.inr ⟨_,cu rfl,FA (bitsOf .xor .i64 (bitsOf .and .i64 (IntKind.i64.wrap (jF*2)) 65535) 4129) j9 kx h⟩))
        ·exact cb (zI _ (oI _ (.inr ⟨_,cu rfl,FA (IntKind.i64.wrap (jF*2)) j9 kx h⟩)))
       ·refine ga (wi 2 _ (rA 2 _ (pV _ (kc _ (ka _ (.inl ?_))))))
        refine wr _ ?_
        exact iD _ (.inr ⟨_,cu rfl,tq jF (IntKind.i64.wrap (j9+1)) h⟩)
     obtain⟨n,h⟩:=fW h
     exact gb (.inr ⟨_,cu rfl,Wt n (bitsOf .xor .i64 gf (IntKind.i64.wrap ((aU.toNat:Int)*256))) ld 0 h⟩)
    ·refine ga (tw 0 _ (lQ 0 _ (fV _ (lS _ (.inl ?_)))))
     refine ws _ ?_
     exact bp (aR _ (.inl (bq [.int .i64 gf])))
  obtain⟨n,h⟩:=fW h
  exact gb (.inr ⟨_,cu rfl,tp n aA 0 h⟩)
theorem Wv (a0:b3) (aA:Int) (r:(List UInt8)×Int) (h:vS a0 aA=some r):bj aO 41 [b4 a0,.int .i64 aA] (.tuple [.str r.1,.int .i64 r.2]) []:=by
 refine cU [0] [.tmp 4,.tmp 5] Tryz.func41 TD (fun cH aR cS=> ?_)
 refine ws _ ?_
 obtain⟨aH,aN,h⟩:=aY h
 obtain⟨wv,bt,h⟩:=aY h
 (try simp only[gg.down,Nat.reduceAdd]at bt)
 obtain⟨wv,bN,h⟩:=aY h
 (try simp only[gg.down,Nat.reduceAdd]at bN)
 refine uV rfl (uW [(1,.int .i64 aA),(6,.str ((aH++([32]:List UInt8))++a0.Label))] (fun P aM=> ?_) ?_)
 ·simp only[mr.down,simprocAttr,h2,eU,mx,k7,b1,b4,(show∀s,cF aO s 22 3 [(0,.int .i64 a0.Choice),(1,.int .i64 a0.dJ),(2,.int .i64 a0.Second)]=some (.aG 1 [.int .i64 a0.Choice,.int .i64 a0.dJ,.int .i64 a0.Second],s)from fun s=>by kernel_rfl),bt,ht,hv,bN]
  refine sS (Fx [a0.Choice,a0.dJ,a0.Second] ([32]:List UInt8) _ aN) rfl rfl (by simp only[mr.down,simprocAttr,h2,eU,mx,k7,b1,b4,(show∀s,cF aO s 22 3 [(0,.int .i64 a0.Choice),(1,.int .i64 a0.dJ),(2,.int .i64 a0.Second)]=some (.aG 1 [.int .i64 a0.Choice,.int .i64 a0.dJ,.int .i64 a0.Second],s)from fun s=>by kernel_rfl),bt,ht,hv,bN,nm,nn,np,kr,I.shares, @og _ b1 b1 (fun _=>Eg _)]<;>rfl) rfl (.inr (by rfl)) ?_
  simp only[mr.down,simprocAttr,h2,eU,mx,k7,b1,b4,(show∀s,cF aO s 22 3 [(0,.int .i64 a0.Choice),(1,.int .i64 a0.dJ),(2,.int .i64 a0.Second)]=some (.aG 1 [.int .i64 a0.Choice,.int .i64 a0.dJ,.int .i64 a0.Second],s)from fun s=>by kernel_rfl),bt,ht,hv,bN]
  refine⟨u3 (by kernel_rfl),?_⟩
  (try simp only[cm.down,simprocAttr,b1,b4,(show∀s,cF aO s 22 3 [(0,.int .i64 a0.Choice),(1,.int .i64 a0.dJ),(2,.int .i64 a0.Second)]=some (.aG 1 [.int .i64 a0.Choice,.int .i64 a0.dJ,.int .i64 a0.Second],s)from fun s=>by kernel_rfl),bt,ht,hv,bN]at aM⊢);exact aM
 obtain⟨aU,ba,h⟩:=aY h
 refine fo (Ws ((aH++([32]:List UInt8))++a0.Label) aA _ ba) [(1,.int .i64 aU),(6,.str ((aH++([32]:List UInt8))++a0.Label))] ?_
 obtain⟨wv,fi,h⟩:=aY h
 (try simp only[gg.down,Nat.reduceAdd]at fi)
 obtain⟨bI,gT,h⟩:=aY h
 obtain⟨wv,hp,h⟩:=aY h
 (try simp only[gg.down,Nat.reduceAdd]at hp)
 obtain⟨wv,jj,h⟩:=aY h
 (try simp only[gg.down,Nat.reduceAdd]at jj)
 refine dw (cQ [(4,.str (((((aH++([32]:List UInt8))++a0.Label)++([32]:List UInt8))++bI)++([10]:List UInt8))),(5,.int .i64 aU)] (fun P aM=> ?_) ?_)
 ·simp only[bf.down,simprocAttr,fi,ht,hv,hp,jj]
  refine fa (Fw aU _ gT) rfl rfl rfl rfl (.inl (by rfl)) ?_
  simp only[bf.down,simprocAttr,fi,ht,hv,hp,jj]
  (try simp only[cm.down,simprocAttr,fi,ht,hv,hp,jj]at aM⊢);exact aM
 exact bp (aR _ (.inl (bq [.str (((((aH++([32]:List UInt8))++a0.Label)++([32]:List UInt8))++bI)++([10]:List UInt8)),.int .i64 aU])))
theorem Ww (a0 aA r:List UInt8) (h:tk a0 aA=some r):bj aO 42 [.b9 (.dM 73 5 a0),.str aA] .hole [.b9 (.dM 73 5 r),.hole]:=UK a0 aA r h
theorem Wx (a0 r:List UInt8) (h:vT a0=some r):bj aO 43 [.b9 (.dM 73 5 a0)] (.str r) [.hole]:=UL a0 r h
theorem Wy (a0:List b3) (r:(List UInt8)) (h:vV a0=some r):bj aO 20 [.slice (a0.map b4)] (.str r) []:=by
 refine cU [0] [.tmp 2] Tryz.func20 TS (fun cH aR cS=> ?_)
 refine ws _ ?_
 refine bz aR (fun hG dY cn aU=> ?_)
 obtain⟨aH,bt,h⟩:=aY h
 refine fo (Wr a0 _ bt) _ ?_
 refine b8 h (fun hS h=> ?_) (fun hS h=> ?_)
 ·refine ws _ ?_
  exact bp (cn _ (.inl (bq [.str ([]:List UInt8)])))
 ·refine cb (dY _ (.inl ?_))
  refine ws _ ?_
  refine ws _ ?_
  refine bz aR (fun kz gO gh fF=> ?_)
  refine ws _ ?_
  refine dd gh (fun nB iD i1 oF lQ=> ?_)
  have Wz:∀(n:Nat) (lg:List UInt8) (mE:Int) (ky:Int),oz a0 n lg mE ky=some r→e_ aO EN nB (R [(3,.b9 (.dM 73 5 lg)),(4,.int .i64 mE),(11,.slice (a0.map b4)),(12,.int .i64 (a0.length:Int)),(13,.int .i64 ky)]):=by
   intro m18
   induction m18 with
   |zero=>intro lg mE ky h;cases(show none=some r from h)
   |succ m18 WA=>
    intro lg mE ky h
    replace h:vU (oz a0 m18) a0 lg mE ky=some r:=h
    refine gd i1 (fun v_ nE pR tt=> ?_)
    refine ws _ ?_
    refine bz pR (fun mG jG i6 nC=> ?_)
    refine b8 h (fun kb h=> ?_) (fun kb h=> ?_)
    ·refine cb (jG _ (.inl ?_))
     refine bz pR (fun rz kc lT oE=> ?_)
     refine dd lT (fun zr tx zs oG E3=> ?_)
     obtain⟨aU,iG,h⟩:=aY h
     refine fz iG _ ?_
     refine ws _ ?_
     obtain⟨bI,kd,h⟩:=aY h
     refine fo (Wv aU mE _ kd) _ ?_
     obtain⟨bV,oJ,h⟩:=aY h
     refine k6 (cQ [(3,.b9 (.dM 73 5 bV)),(4,.int .i64 bI.2),(11,.slice (a0.map b4)),(12,.int .i64 (a0.length:Int)),(13,.int .i64 ky)] (fun P aM=> ?_) ?_)
     ·simp only[bf.down,simprocAttr,b4]
      refine DB [⟨.h 3 [],true,_,_⟩,⟨.str bI.1,false,_,.hole⟩] (Ww lg bI.1 _ oJ) rfl rfl rfl (by simp only[bf.down,simprocAttr,b4,yE,DC,DD,nm,nn,np,kr,or_true,true_or]) rfl rfl (.inl rfl) ?_
      simp only[bf.down,simprocAttr,b4,DE]
      (try simp only[cm.down,simprocAttr,b4]at aM⊢);exact aM
     refine tx _ (kc _ (.inl ?_))
     refine wr _ ?_
     exact nE _ (.inr ⟨_,cu rfl,WA bV bI.2 (IntKind.i64.wrap (ky+1)) h⟩)
    ·refine ga (nC 0 _ (tt 0 _ (oF _ (gO _ (.inl ?_)))))
     obtain⟨dq,zx,h⟩:=aY h
     refine dw (cQ [(2,.str dq)] (fun P aM=> ?_) ?_)
     ·refine DB [⟨.h 3 [],true,_,.hole⟩] (Wx lg _ zx) rfl rfl rfl (by simp only[bf.down,simprocAttr,b4,yE,DC,DD,nm,nn,np,kr,or_true,true_or]) rfl rfl (.inl rfl) ?_
      simp only[bf.down,simprocAttr,b4,DE]
      (try simp only[cm.down,simprocAttr,b4]at aM⊢);exact aM
     exact bp (aR _ (.inl (bq [.str dq])))
  obtain⟨n,h⟩:=fW h
  exact gb (.inr ⟨_,cu rfl,Wz n [] 65535 0 h⟩)
theorem WB (a0:b3) (aA:b3) (r:Bool) (h:tl a0 aA=some r):bj aO 44 [b4 a0,b4 aA] (.bool r) []:=by
 refine cU [0,1] [.tmp 4] Tryz.func44 T7 (fun cH aR cS=> ?_)
 refine ws _ ?_
 refine bz aR (fun hG dY cn aU=> ?_)
 refine ws _ ?_
 refine b8 h (fun ck h=> ?_) (fun ck h=> ?_)
 ·refine ws _ ?_
  exact bp (cn _ (.inl (bq [.bool false])))
 ·refine cb (dY _ (.inl ?_))
  refine bz aR (fun i_ hf fX e3=> ?_)
  refine ws _ ?_
  refine b8 h (fun dc h=> ?_) (fun dc h=> ?_)
  ·refine ws _ ?_
   exact bp (fX _ (.inl (bq [.bool false])))
  ·refine cb (hf _ (.inl ?_))
   refine bz aR (fun kA fU gi hz=> ?_)
   refine ws _ ?_
   refine b8 h (fun iF h=> ?_) (fun iF h=> ?_)
   ·refine ws _ ?_
    exact bp (gi _ (.inl (bq [.bool false])))
   ·refine cb (fU _ (.inl ?_))
    refine bz aR (fun mG jG i6 nC=> ?_)
    refine ws _ ?_
    refine b8 h (fun kD h=> ?_) (fun kD h=> ?_)
    ·refine ws _ ?_
     exact bp (i6 _ (.inl (bq [.bool false])))
    ·refine cb (jG _ (.inl ?_))
     refine ws _ ?_
     exact bp (aR _ (.inl (bq [.bool true])))
theorem WC (a0:List b3) (aA:List b3) (r:Bool) (h:vX a0 aA=some r):bj aO 21 [.slice (a0.map b4),.slice (aA.map b4)] (.bool r) []:=by
 refine cU [0,1] [.tmp 4] Tryz.func21 Ui (fun cH aR cS=> ?_)
 refine ws _ ?_
 refine bz aR (fun hG dY cn aU=> ?_)
 refine ws _ ?_
 refine b8 h (fun ck h=> ?_) (fun ck h=> ?_)
 ·refine ws _ ?_
  exact bp (cn _ (.inl (bq [.bool false])))
 ·refine cb (dY _ (.inl ?_))
  refine bz aR (fun i_ hf fX e3=> ?_)
  refine ws _ ?_
  refine dd fX (fun oC lS nD dc j5=> ?_)
  have tu:∀(n:Nat) (j_:Int),vW a0 aA n j_=some r→e_ aO EO oC (R [(0,.slice (a0.map b4)),(1,.slice (aA.map b4)),(5,.int .i64 j_)]):=by
   intro m14
   induction m14 with
   |zero=>intro j_ h;cases(show none=some r from h)
   |succ m14 ry=>
    intro j_ h
    replace h:Ef (vW a0 aA m14) a0 aA j_=some r:=h
    refine gd nD (fun kz gO gh fF=> ?_)
    refine bz gh (fun kA fU gi hz=> ?_)
    refine ws _ ?_
    refine b8 h (fun iF h=> ?_) (fun iF h=> ?_)
    ·refine cb (fU _ (.inl ?_))
     refine bz gh (fun tv nG pU tw=> ?_)
     refine dd pU (fun mG jG i6 pS nC=> ?_)
     obtain⟨aH,jb,h⟩:=aY h
     obtain⟨aU,gj,h⟩:=aY h
     obtain⟨bI,iE,h⟩:=aY h
     refine uV rfl (uW [(0,.slice (a0.map b4)),(1,.slice (aA.map b4)),(5,.int .i64 j_),(26,.bool (!bI))] (fun P aM=> ?_) ?_)
     ·simp only[mr.down,simprocAttr,h2,eU,ot,k7,b4,jb,gj]
      refine sS (WB aH aU _ iE) rfl rfl rfl rfl (.inl (by rfl)) ?_
      simp only[mr.down,simprocAttr,h2,eU,ot,k7,b4,jb,gj]
      refine⟨u3 (by kernel_rfl),?_⟩
      (try simp only[cm.down,simprocAttr,b4,jb,gj]at aM⊢);exact aM
     refine b8 h (fun WD h=> ?_) (fun WD h=> ?_)
     ·refine ws _ ?_
      exact bp (i6 _ (.inl (bq [.bool false])))
     ·refine cb (jG _ (nG _ (.inl ?_)))
      refine wr _ ?_
      exact gO _ (.inr ⟨_,cu rfl,ry (IntKind.i64.wrap (j_+1)) h⟩)
    ·refine ga (hz 0 _ (fF 0 _ (dc _ (hf _ (.inl ?_)))))
     refine ws _ ?_
     exact bp (aR _ (.inl (bq [.bool true])))
  obtain⟨n,h⟩:=fW h
  exact gb (.inr ⟨_,cu rfl,tu n 0 h⟩)
theorem WE (a0:List fl) (r:Bool) (h:zc a0=some r):bj aO 4 [.slice (a0.map fK)] (.bool r) []:=by
 refine cU [0] [.tmp 2] Tryz.func4 hV (fun cH aR cS=> ?_)
 refine ws _ ?_
 refine ws _ ?_
 obtain⟨aH,bt,h⟩:=aY h
 refine fo (U0 a0 1048576 _ bt) _ ?_
 refine bz aR (fun oD jc gK dq=> ?_)
 refine ws _ ?_
 refine b8 h (fun se h=> ?_) (fun se h=> ?_)
 ·refine ws _ ?_
  exact bp (gK _ (.inl (bq [.bool true])))
 ·refine cb (jc _ (.inl ?_))
  obtain⟨aU,gT,h⟩:=aY h
  obtain⟨bI,hp,h⟩:=aY h
  refine dw (cQ [(0,.slice (a0.map fK)),(4,.str bI)] (fun P aM=> ?_) ?_)
  ·simp only[bf.down,simprocAttr,iZ.down]
   refine fa (zi a0 _ gT) rfl rfl rfl rfl (.inl (by rfl)) ?_
   simp only[bf.down,simprocAttr,iZ.down]
   refine fa (VT aU _ hp) rfl rfl (by simp only[bf.down,simprocAttr,iZ.down,nm,nn,np,kr, @og _ b4 b4 (fun _=>vY _)]<;>rfl) rfl (.inr (by rfl)) ?_
   simp only[bf.down,simprocAttr,iZ.down]
   (try simp only[cm.down,simprocAttr,iZ.down]at aM⊢);exact aM
  obtain⟨bV,fH,h⟩:=aY h
  refine fo (zi a0 _ fH) _ ?_
  obtain⟨dq,ja,h⟩:=aY h
  refine dw (cQ [(0,.slice (a0.map fK)),(4,.str bI),(5,.aG 4 (bV.map b4)),(6,.str dq)] (fun P aM=> ?_) ?_)
  ·simp only[bf.down,simprocAttr,iZ.down]
   refine fa (Wy bV _ ja) rfl rfl (by simp only[bf.down,simprocAttr,iZ.down,nm,nn,np,kr, @og _ b4 b4 (fun _=>vY _)]<;>rfl) rfl (.inr (by rfl)) ?_
   simp only[bf.down,simprocAttr,iZ.down]
   (try simp only[cm.down,simprocAttr,iZ.down]at aM⊢);exact aM
  refine bz aR (fun rz kc lT oE=> ?_)
  refine ws _ ?_
  refine b8 h (fun lU h=> ?_) (fun lU h=> ?_)
  ·refine ws _ ?_
   exact bp (lT _ (.inl (bq [.bool false])))
  ·refine cb (kc _ (.inl ?_))
   refine bz aR (fun U3 wb zn U4=> ?_)
   obtain⟨e3,kd,h⟩:=aY h
   obtain⟨eh,kC,h⟩:=aY h
   refine dw (cQ [(26,.bool (!eh))] (fun P aM=> ?_) ?_)
   ·simp only[bf.down,simprocAttr,iZ.down]
    refine fa (zi a0 _ kd) rfl rfl rfl rfl (.inl (by rfl)) ?_
    simp only[bf.down,simprocAttr,iZ.down]
    refine fa (WC bV e3 _ kC) rfl rfl (by simp only[bf.down,simprocAttr,iZ.down,nm,nn,np,kr, @og _ b4 b4 (fun _=>vY _), @og _ b4 b4 (fun _=>vY _)]<;>rfl) rfl (.inr (by rfl)) ?_
    simp only[bf.down,simprocAttr,iZ.down]
    (try simp only[cm.down,simprocAttr,iZ.down]at aM⊢);exact aM
   refine b8 h (fun lj h=> ?_) (fun lj h=> ?_)
   ·refine ws _ ?_
    exact bp (zn _ (.inl (bq [.bool false])))
   ·refine cb (wb _ (.inl ?_))
    refine ws _ ?_
    exact bp (aR _ (.inl (bq [.bool true])))
end Go.Proofs.YtikimdcnadipbaaGreatDoor
