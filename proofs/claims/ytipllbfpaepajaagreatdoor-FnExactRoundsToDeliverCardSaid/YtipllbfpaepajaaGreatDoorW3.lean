/- Part of a proof that a law returns true for every input. No condition. -/
import Derived.Test.YtipllbfpaepajaaGreatDoorSl
namespace Go.Proofs.YtipllbfpaepajaaGreatDoor
open Go Go.b9 Go.e3
set_option maxRecDepth 100000
set_option maxHeartbeats 1200000
set_option linter.unusedSimpArgs false
set_option linter.unusedVariables false
theorem cN (fx:List Nat) (dK:List ResultVar) {f:FuncId} {fn:Func} {c:Code} {dD:ab} {ins outs:List I} {r:I} (bh:aS.P.funcs[f]? =some fn) (U:bV ⟨fn.ntmps,fx⟩ c=some dD.strip)
 (yn:∀Q:Exit→aj→Prop,(∀s,eD (b9.Ends aS fx dK r outs) s→Q .ret s)→(∀s,eD (b9.Ends aS fx dK r outs) s→Q .normal s)→b3 aS dD Q (J (num 0 ins))) (R:fn.body=some c:=by rfl) (iI:(fn.name== "runtime.NumGoroutine")=false:=by rfl) (aW:ins.length≤fn.ntmps:=by exact Nat.le_of_ble_eq_true rfl) (eG:fn.results.toList=dK:=by rfl) (ak:dD.plain=true:=by kernel_rfl):br aS f ins r outs:=
 br.D7 LF dK (num 0 ins) bh R iI U aW eG rfl yn ak
def hF:=PLift.up (And.intro @fO (And.intro @fJ (And.intro @jD (And.intro @tf (And.intro @mD (And.intro @j6 (And.intro @ba.eq_1 @bg.eq_1)))))))
theorem ws {Q:Exit→aj→Prop} {l:List (Nat×I)} {ros:List bm} {k:List Nat} {b:ab} (cV:List (Nat×I)) (ar:b3 aS b Q (J cV)) (h:∀P:List (Nat×I)→Prop,P cV→bK aS (J l) ros none (fun _ s=>P (gy k s)):=by
 intro P aH
 simp only[bf.down,simprocAttr,hF.down]
 (try simp only[b5.down,simprocAttr,hF.down]at aH⊢)
 exact aH):b3 aS (.seq (.ch ros (some k)) b) Q (J l):=
 dA (cI cV (h) ar)
theorem fg {Q:Exit→aj→Prop} {l:List (Nat×I)} {ros:List bm} {k:List Nat} {b:ab} {g:FuncId} {ds:List I} {r:I} (ok:br aS g ds r []) (cV:List (Nat×I)) (ar:b3 aS b Q (J cV)) (h:br aS g ds r []→∀P:List (Nat×I)→Prop,P cV→bK aS (J l) ros none (fun _ s=>P (gy k s)):=by
 intro p5 P aH
 (try simp only[bf.down,simprocAttr,hF.down])
 refine gi p5 rfl rfl rfl rfl (.inl (by rfl)) ?_
 simp only[bf.down,simprocAttr,hF.down]
 (try simp only[b5.down,simprocAttr,hF.down]at aH⊢)
 exact aH):b3 aS (.seq (.ch ros (some k)) b) Q (J l):=
 dA (cI cV (h ok) ar)
theorem f_ {F:Prop} (aX:F) {Q:Exit→aj→Prop} {l:List (Nat×I)} {ros:List bm} {k:List Nat} {b:ab} (cV:List (Nat×I)) (ar:b3 aS b Q (J cV)) (h:F→∀P:List (Nat×I)→Prop,P cV→bK aS (J l) ros none (fun _ s=>P (gy k s)):=by
 intro aX P aH
 simp only[bf.down,simprocAttr,hF.down,aX]
 (try simp only[b5.down,simprocAttr,hF.down,aX]at aH⊢)
 exact aH):b3 aS (.seq (.ch ros (some k)) b) Q (J l):=
 dA (cI cV (h aX) ar)
theorem iO {F:Prop} (aX:F) {Q:Exit→aj→Prop} {l:List (Nat×I)} {ros:List bm} {k:List Nat} {b:ab} {g:FuncId} {ds:List I} {r:I} (ok:br aS g ds r []) (cV:List (Nat×I)) (ar:b3 aS b Q (J cV)) (h:br aS g ds r []→F→∀P:List (Nat×I)→Prop,P cV→bK aS (J l) ros none (fun _ s=>P (gy k s)):=by
 intro p5 aX P aH
 (try simp only[bf.down,simprocAttr,hF.down,aX])
 refine gi p5 rfl rfl rfl rfl (.inl (by rfl)) ?_
 simp only[bf.down,simprocAttr,hF.down,aX]
 (try simp only[b5.down,simprocAttr,hF.down,aX]at aH⊢)
 exact aH):b3 aS (.seq (.ch ros (some k)) b) Q (J l):=
 dA (cI cV (h ok aX) ar)
theorem wr {Q:Exit→aj→Prop} {l:List (Nat×I)} {ros:List bm} {k:List Nat} (cV:List (Nat×I)) (ar:Q .normal (J cV)) (h:∀P:List (Nat×I)→Prop,P cV→bK aS (J l) ros none (fun _ s=>P (gy k s)):=by
 intro P aH
 simp only[bf.down,simprocAttr,hF.down]
 (try simp only[b5.down,simprocAttr,hF.down]at aH⊢)
 exact aH):b3 aS (.ch ros (some k)) Q (J l):=
 iK (cI cV (h) ar)
theorem EX {Q:Exit→aj→Prop} {l:List (Nat×I)} {ros:List bm} {k:List Nat} {g:FuncId} {ds:List I} {r:I} (ok:br aS g ds r []) (cV:List (Nat×I)) (ar:Q .normal (J cV)) (h:br aS g ds r []→∀P:List (Nat×I)→Prop,P cV→bK aS (J l) ros none (fun _ s=>P (gy k s)):=by
 intro p5 P aH
 (try simp only[bf.down,simprocAttr,hF.down])
 refine gi p5 rfl rfl rfl rfl (.inl (by rfl)) ?_
 simp only[bf.down,simprocAttr,hF.down]
 (try simp only[b5.down,simprocAttr,hF.down]at aH⊢)
 exact aH):b3 aS (.ch ros (some k)) Q (J l):=
 iK (cI cV (h ok) ar)
theorem zr {F:Prop} (aX:F) {Q:Exit→aj→Prop} {l:List (Nat×I)} {ros:List bm} {k:List Nat} (cV:List (Nat×I)) (ar:Q .normal (J cV)) (h:F→∀P:List (Nat×I)→Prop,P cV→bK aS (J l) ros none (fun _ s=>P (gy k s)):=by
 intro aX P aH
 simp only[bf.down,simprocAttr,hF.down,aX]
 (try simp only[b5.down,simprocAttr,hF.down,aX]at aH⊢)
 exact aH):b3 aS (.ch ros (some k)) Q (J l):=
 iK (cI cV (h aX) ar)
theorem Zj {F:Prop} (aX:F) {Q:Exit→aj→Prop} {l:List (Nat×I)} {ros:List bm} {k:List Nat} {g:FuncId} {ds:List I} {r:I} (ok:br aS g ds r []) (cV:List (Nat×I)) (ar:Q .normal (J cV)) (h:br aS g ds r []→F→∀P:List (Nat×I)→Prop,P cV→bK aS (J l) ros none (fun _ s=>P (gy k s)):=by
 intro p5 aX P aH
 (try simp only[bf.down,simprocAttr,hF.down,aX])
 refine gi p5 rfl rfl rfl rfl (.inl (by rfl)) ?_
 simp only[bf.down,simprocAttr,hF.down,aX]
 (try simp only[b5.down,simprocAttr,hF.down,aX]at aH⊢)
 exact aH):b3 aS (.ch ros (some k)) Q (J l):=
 iK (cI cV (h ok aX) ar)
def eK:=PLift.up (And.intro @ba.eq_1 @bg.eq_1)
def kd:=PLift.up (And.intro @fO (And.intro @tf @ba.eq_1))
theorem Vm (a0:List (List UInt8)) (ah:Int) (r:Int) (h:vk a0 ah=some r):br aS 9 [.slice (a0.map bg),.int .i64 ah] (.int .i64 r) []:=by
 refine cN [0] [.tmp 4] Tryz.func9 L0 (fun cl aR cu=> ?_)
 refine ws _ ?_
 refine ws _ ?_
 refine bu aR (fun tG lh fp aY=> ?_)
 refine ws _ ?_
 refine bL h (fun hK h=> ?_) (fun hK h=> ?_)
 ·refine ws _ ?_
  exact bo (fp _ (.inl (bt [.int .i64 (-1)])))
 ·refine bU (lh _ (.inl ?_))
  refine bu aR (fun lj fR gG dm=> ?_)
  refine ws _ ?_
  refine c_ gG (fun jc fv e9 tH eE=> ?_)
  have zs:∀(n:Nat) (kz:Int) (la:Int),vj a0 n kz la=some r→fE aS Ee jc (J [(0,.slice (a0.map bg)),(1,.int .i64 kz),(5,.int .i64 la)]):=by
   intro m16
   induction m16 with
   |zero=>intro kz la h;cases(show none=some r from h)
   |succ m16 zt=>
    intro kz la h
    replace h:D9 (vj a0 m16) a0 kz la=some r:=h
    refine gN e9 (fun ke fh ga fP=> ?_)
    refine bu ga (fun tI lk mJ mH=> ?_)
    refine ws _ ?_
    refine bL h (fun mK h=> ?_) (fun mK h=> ?_)
    ·refine bU (lk _ (.inl ?_))
     refine bu ga (fun p6 kG ll rQ=> ?_)
     refine c_ ll (fun wk lY mL jd rR=> ?_)
     obtain⟨aG,gU,h⟩:=bb h
     refine f_ gU _ ?_
     refine ws _ ?_
     refine bL h (fun zu h=> ?_) (fun zu h=> ?_)
     ·refine ws _ ?_
      exact bo (mL _ (.inl (bt [.int .i64 (-1)])))
     ·refine bU (lY _ (kG _ (.inl ?_)))
      refine wr _ ?_
      exact fh _ (.inr ⟨_,b0 rfl,zt (IntKind.i64.wrap (kz-(aG.length:Int))) (IntKind.i64.wrap (la+1)) h⟩)
    ·refine gL (mH 0 _ (fP 0 _ (tH _ (fR _ (.inl ?_)))))
     refine ws _ ?_
     exact bo (aR _ (.inl (bt [.int .i64 kz])))
  obtain⟨n,h⟩:=gF h
  exact gM (.inr ⟨_,b0 rfl,zs n (IntKind.i64.wrap (ah-(a0.length:Int))) 0 h⟩)
theorem zv (a0:List (List UInt8)) (r:(List (List UInt8))) (h:ri a0=some r):br aS 11 [.slice (a0.map bg)] (.aK 1 (r.map bg)) []:=by
 refine cN [0] [.tmp 2] Tryz.func11 L9 (fun cl aR cu=> ?_)
 refine ws _ ?_
 obtain⟨Vn,aL,h⟩:=bb h
 refine dA (cI [(0,.slice (a0.map bg)),(3,.aK 1 ((List.replicate (Int.toNat (a0.length:Int)) ([]:List UInt8)).map bg))] (fun P aH=> ?_) ?_)
 ·simp only[bf.down,simprocAttr,fJ,jD,bg,(gl aL).1,(gl aL).2.1,(gl aL).2.2,eh,List.map_replicate,-Int.reduceNatCast']
  (try simp only[b5.down,simprocAttr,bg,(gl aL).1,(gl aL).2.1,(gl aL).2.2,eh,List.map_replicate,-Int.reduceNatCast']at aH⊢);exact aH
 refine bu aR (fun hW gb dQ bE=> ?_)
 refine ws [(0,.slice (a0.map bg)),(3,.aK 1 ((List.replicate (Int.toNat (a0.length:Int)) ([]:List UInt8)).map bg)),(4,.int .i64 0)] ?_
 refine c_ dQ (fun ij fw fA ft cK=> ?_)
 have p7:∀(n:Nat) (ff:List (List UInt8)) (c1:Int),vl a0 n ff c1=some r→fE aS Ef ij (J [(0,.slice (a0.map bg)),(3,.aK 1 (ff.map bg)),(4,.int .i64 c1)]):=by
  intro m8
  induction m8 with
  |zero=>intro ff c1 h;cases(show none=some r from h)
  |succ m8 p8=>
   intro ff c1 h
   replace h:D_ (vl a0 m8) a0 ff c1=some r:=h
   refine gN fA (fun lj fR gG dm=> ?_)
   refine bu gG (fun kf hX je hl=> ?_)
   refine ws _ ?_
   refine bL h (fun gD h=> ?_) (fun gD h=> ?_)
   ·refine bU (hX _ (.inl ?_))
    refine bu gG (fun tI lk mJ mH=> ?_)
    refine c_ mJ (fun zw p9 wm gj zx=> ?_)
    obtain⟨aG,iP,h⟩:=bb h
    obtain⟨aU,gV,h⟩:=bb h
    refine iK (cI [(0,.slice (a0.map bg)),(3,.aK 1 ((List.set ff (Int.toNat c1) aG).map bg)),(4,.int .i64 c1)] (fun P aH=> ?_) ?_)
    ·simp only[bf.down,simprocAttr,fJ,jD,bg,iP,gV,kK gV,lQ,hj]
     (try simp only[b5.down,simprocAttr,bg,iP,gV,kK gV,lQ,hj]at aH⊢);exact aH
    refine p9 _ (lk _ (.inl ?_))
    refine wr [(0,.slice (a0.map bg)),(3,.aK 1 ((List.set ff (Int.toNat c1) aG).map bg)),(4,.int .i64 (IntKind.i64.wrap (c1+1)))] ?_
    exact fR _ (.inr ⟨_,b0 rfl,p8 (List.set ff (Int.toNat c1) aG) (IntKind.i64.wrap (c1+1)) h⟩)
   ·refine gL (hl 0 _ (dm 0 _ (ft _ (gb _ (.inl ?_)))))
    refine ws _ ?_
    exact bo (aR _ (.inl (bt [.aK 1 (ff.map bg)])))
 obtain⟨n,h⟩:=gF h
 exact gM (.inr ⟨_,b0 rfl,p7 n (List.replicate (Int.toNat (a0.length:Int)) ([]:List UInt8)) 0 h⟩)
theorem zy (a0:List Int) (r:(List Int)) (h:rj a0=some r):br aS 12 [.slice (a0.map ba)] (.aK 1 (r.map ba)) []:=by
 refine cN [0] [.tmp 2] Tryz.func12 Mg (fun cl aR cu=> ?_)
 refine ws _ ?_
 obtain⟨Vn,aL,h⟩:=bb h
 refine dA (cI [(0,.slice (a0.map ba)),(3,.aK 1 ((List.replicate (Int.toNat (a0.length:Int)) 0).map ba))] (fun P aH=> ?_) ?_)
 ·simp only[bf.down,simprocAttr,kd.down,(gl aL).1,(gl aL).2.1,(gl aL).2.2,eh,List.map_replicate,-Int.reduceNatCast']
  (try simp only[b5.down,simprocAttr,ba,(gl aL).1,(gl aL).2.1,(gl aL).2.2,eh,List.map_replicate,-Int.reduceNatCast']at aH⊢);exact aH
 refine bu aR (fun hW gb dQ bE=> ?_)
 refine ws [(0,.slice (a0.map ba)),(3,.aK 1 ((List.replicate (Int.toNat (a0.length:Int)) 0).map ba)),(4,.int .i64 0)] ?_
 refine c_ dQ (fun ij fw fA ft cK=> ?_)
 have p7:∀(n:Nat) (ff:List Int) (c1:Int),vm a0 n ff c1=some r→fE aS Eg ij (J [(0,.slice (a0.map ba)),(3,.aK 1 (ff.map ba)),(4,.int .i64 c1)]):=by
  intro m8
  induction m8 with
  |zero=>intro ff c1 h;cases(show none=some r from h)
  |succ m8 p8=>
   intro ff c1 h
   replace h:Ea (vm a0 m8) a0 ff c1=some r:=h
   refine gN fA (fun lj fR gG dm=> ?_)
   refine bu gG (fun kf hX je hl=> ?_)
   refine ws _ ?_
   refine bL h (fun gD h=> ?_) (fun gD h=> ?_)
   ·refine bU (hX _ (.inl ?_))
    refine bu gG (fun tI lk mJ mH=> ?_)
    refine c_ mJ (fun zw p9 wm gj zx=> ?_)
    obtain⟨aG,iP,h⟩:=bb h
    obtain⟨aU,gV,h⟩:=bb h
    refine iK (cI [(0,.slice (a0.map ba)),(3,.aK 1 ((List.set ff (Int.toNat c1) aG).map ba)),(4,.int .i64 c1)] (fun P aH=> ?_) ?_)
    ·simp only[bf.down,simprocAttr,kd.down,iP,gV,kK gV,lQ,hj]
     (try simp only[b5.down,simprocAttr,ba,iP,gV,kK gV,lQ,hj]at aH⊢);exact aH
    refine p9 _ (lk _ (.inl ?_))
    refine wr [(0,.slice (a0.map ba)),(3,.aK 1 ((List.set ff (Int.toNat c1) aG).map ba)),(4,.int .i64 (IntKind.i64.wrap (c1+1)))] ?_
    exact fR _ (.inr ⟨_,b0 rfl,p8 (List.set ff (Int.toNat c1) aG) (IntKind.i64.wrap (c1+1)) h⟩)
   ·refine gL (hl 0 _ (dm 0 _ (ft _ (gb _ (.inl ?_)))))
    refine ws _ ?_
    exact bo (aR _ (.inl (bt [.aK 1 (ff.map ba)])))
 obtain⟨n,h⟩:=gF h
 exact gM (.inr ⟨_,b0 rfl,p7 n (List.replicate (Int.toNat (a0.length:Int)) 0) 0 h⟩)
theorem Vo (a0:List UInt8) (r:Int) (h:rk a0=some r):br aS 176 [.str a0] (.int .i64 r) []:=by
 refine cN [0] [.tmp 2] Tryz.func176 Mq (fun cl aR cu=> ?_)
 refine ws _ ?_
 refine bu aR (fun hA dL cr aU=> ?_)
 refine ws _ ?_
 refine c_ cr (fun hW gb dQ dI bE=> ?_)
 have nN:∀(n:Nat) (j7:Int),nC a0 n j7=some r→fE aS Eh hW (J [(0,.str a0),(3,.int .i64 j7)]):=by
  intro m6
  induction m6 with
  |zero=>intro j7 h;cases(show none=some r from h)
  |succ m6 mM=>
   intro j7 h
   replace h:vn (nC a0 m6) a0 j7=some r:=h
   refine gN dQ (fun mN ik gq cc=> ?_)
   refine bu gq (fun ij fw fA cK=> ?_)
   refine ws _ ?_
   refine bL h (fun e6 h=> ?_) (fun e6 h=> ?_)
   ·refine bU (fw _ (.inl ?_))
    refine bu gq (fun jc fv e9 eE=> ?_)
    refine c_ e9 (fun ke fh ga gD fP=> ?_)
    obtain⟨aG,nZ,h⟩:=bb h
    refine f_ nZ _ ?_
    refine bL h (fun mK h=> ?_) (fun mK h=> ?_)
    ·refine ws _ ?_
     exact bo (ga _ (.inl (bt [.int .i64 j7])))
    ·refine bU (fh _ (fv _ (.inl ?_)))
     refine wr _ ?_
     exact ik _ (.inr ⟨_,b0 rfl,mM (IntKind.i64.wrap (j7+1)) h⟩)
   ·refine gL (cK 0 _ (cc 0 _ (dI _ (dL _ (.inl ?_)))))
    refine ws _ ?_
    exact bo (aR _ (.inl (bt [.int .i64 (a0.length:Int)])))
 obtain⟨n,h⟩:=gF h
 exact gM (.inr ⟨_,b0 rfl,nN n 0 h⟩)
theorem zz (a0:UInt8) (r:Bool) (h:tg a0=some r):br aS 143 [.int .u8 (a0.toNat:Int)] (.bool r) []:=by
 refine cN [0] [.tmp 2] Tryz.func143 Ms (fun cl aR cu=> ?_)
 refine ws _ ?_
 refine dA (cI [(2,.bool ((decide (97≤(a0.toNat:Int)))&&(decide ((a0.toNat:Int)≤122))))] (fun P aH=> ?_) ?_)
 ·rcases Bool.eq_false_or_eq_true (decide (97≤(a0.toNat:Int)))with eI|eI
  ·simp only[bf.down,simprocAttr,eI]
   (try simp only[b5.down,simprocAttr,eI]at aH⊢);exact aH
  ·simp only[bf.down,simprocAttr,eI]
   (try simp only[b5.down,simprocAttr,eI]at aH⊢);exact aH
 exact bo (aR _ (.inl (bt [.bool ((decide (97≤(a0.toNat:Int)))&&(decide ((a0.toNat:Int)≤122)))])))
theorem zA (a0:UInt8) (r:Bool) (h:rl a0=some r):br aS 144 [.int .u8 (a0.toNat:Int)] (.bool r) []:=by
 refine cN [0] [.tmp 2] Tryz.func144 Mv (fun cl aR cu=> ?_)
 refine ws _ ?_
 refine dA (cI [(2,.bool ((decide (48≤(a0.toNat:Int)))&&(decide ((a0.toNat:Int)≤57))))] (fun P aH=> ?_) ?_)
 ·rcases Bool.eq_false_or_eq_true (decide (48≤(a0.toNat:Int)))with eI|eI
  ·simp only[bf.down,simprocAttr,eI]
   (try simp only[b5.down,simprocAttr,eI]at aH⊢);exact aH
  ·simp only[bf.down,simprocAttr,eI]
   (try simp only[b5.down,simprocAttr,eI]at aH⊢);exact aH
 exact bo (aR _ (.inl (bt [.bool ((decide (48≤(a0.toNat:Int)))&&(decide ((a0.toNat:Int)≤57)))])))
theorem zB (a0:List UInt8) (r:Bool) (h:th a0=some r):br aS 94 [.str a0] (.bool r) []:=by
 refine cN [0] [.tmp 2] Tryz.func94 MI (fun cl aR cu=> ?_)
 refine ws _ ?_
 refine bu aR (fun hA dL cr aU=> ?_)
 rcases iq h with⟨dI,h⟩|⟨dI,h⟩
 ·refine f_ dI _ ?_
  refine k6 rfl ?_
  refine ws _ ?_
  exact bo (cr _ (.inl (bt [.bool false])))
 ·rcases iq h with⟨ft,h⟩|⟨ft,h⟩
  ·refine f_ (And.intro dI ft) _ ?_
   refine k6 rfl ?_
   refine ws _ ?_
   exact bo (cr _ (.inl (bt [.bool false])))
  ·obtain⟨aG,gX,h⟩:=bb h
   obtain⟨aU,h2,h⟩:=bb h
   refine dA (cI [(0,.str a0),(16,.bool (!aU))] (fun P aH=> ?_) ?_)
   ·simp only[bf.down,simprocAttr,fJ,dI,ft,gX]
    refine pI (zz aG _ h2) rfl rfl rfl rfl (.inl (by rfl)) ?_
    simp only[bf.down,simprocAttr,fJ,dI,ft,gX]
    (try simp only[b5.down,simprocAttr,dI,ft,gX]at aH⊢);exact aH
   refine bL h (fun gD h=> ?_) (fun gD h=> ?_)
   ·refine ws _ ?_
    exact bo (cr _ (.inl (bt [.bool false])))
   ·refine bU (dL _ (.inl ?_))
    refine bu aR (fun zw p9 wm zx=> ?_)
    refine ws _ ?_
    refine c_ wm (fun p6 kG ll oP rQ=> ?_)
    have p_:∀(n:Nat) (jE:Int),rm a0 n jE=some r→fE aS Ei p6 (J [(0,.str a0),(3,.int .i64 jE)]):=by
     intro m14
     induction m14 with
     |zero=>intro jE h;cases(show none=some r from h)
     |succ m14 oQ=>
      intro jE h
      replace h:vo (rm a0 m14) a0 jE=some r:=h
      refine gN ll (fun wk lY mL rR=> ?_)
      refine bu mL (fun zC oR tJ tK=> ?_)
      refine ws _ ?_
      refine bL h (fun kH h=> ?_) (fun kH h=> ?_)
      ·refine bU (oR _ (.inl ?_))
       refine bu mL (fun Vp wo EY EZ=> ?_)
       refine c_ EY (fun Vq qa E0 qb Vr=> ?_)
       obtain⟨aY,iQ,h⟩:=bb h
       obtain⟨bE,jf,h⟩:=bb h
       rcases iq h with⟨oS,h⟩|⟨oS,h⟩
       ·obtain⟨cc,Vs,h⟩:=bb h
        refine dA (cI [(0,.str a0),(3,.int .i64 jE),(34,.bool (!cc))] (fun P aH=> ?_) ?_)
        ·simp only[bf.down,simprocAttr,fJ,iQ,(pN oS)]
         refine gi (zz aY _ jf) rfl rfl rfl rfl (.inl (by rfl)) ?_
         simp only[bf.down,simprocAttr,fJ,iQ,(pN oS)]
         refine pI (zA aY _ Vs) rfl rfl rfl rfl (.inl (by rfl)) ?_
         simp only[bf.down,simprocAttr,fJ,iQ,(pN oS)]
         (try simp only[b5.down,simprocAttr,iQ,(pN oS)]at aH⊢);exact aH
        refine bL h (fun rS h=> ?_) (fun rS h=> ?_)
        ·refine ws _ ?_
         exact bo (E0 _ (.inl (bt [.bool false])))
        ·refine bU (qa _ (wo _ (.inl ?_)))
         refine wr _ ?_
         exact lY _ (.inr ⟨_,b0 rfl,oQ (IntKind.i64.wrap (jE+1)) h⟩)
       ·refine iO (And.intro iQ (mC oS)) (zz aY _ jf) _ ?_
        refine s_ rfl ?_
        refine bU (qa _ (wo _ (.inl ?_)))
        refine wr _ ?_
        exact lY _ (.inr ⟨_,b0 rfl,oQ (IntKind.i64.wrap (jE+1)) h⟩)
      ·refine gL (tK 0 _ (rR 0 _ (oP _ (p9 _ (.inl ?_)))))
       refine ws _ ?_
       exact bo (aR _ (.inl (bt [.bool true])))
    obtain⟨n,h⟩:=gF h
    exact gM (.inr ⟨_,b0 rfl,p_ n 0 h⟩)
theorem E1 (a0:List UInt8) (r:Bool) (h:vp a0=some r):br aS 177 [.str a0] (.bool r) []:=by
 refine cN [0] [.tmp 2] Tryz.func177 ML (fun cl aR cu=> ?_)
 refine ws _ ?_
 obtain⟨aG,aL,h⟩:=bb h
 refine dA (cI [(2,.bool (aG&&(!(a0==([116,97,117]:List UInt8)))))] (fun P aH=> ?_) ?_)
 ·rcases Bool.eq_false_or_eq_true (aG)with i1|i1
  ·simp only[bf.down,simprocAttr,i1]
   refine gi (zB a0 _ aL) rfl rfl rfl rfl (.inl (by rfl)) ?_
   simp only[bf.down,simprocAttr,i1]
   (try simp only[b5.down,simprocAttr,i1]at aH⊢);exact aH
  ·simp only[bf.down,simprocAttr,i1]
   refine gi (zB a0 _ aL) rfl rfl rfl rfl (.inl (by rfl)) ?_
   simp only[bf.down,simprocAttr,i1]
   (try simp only[b5.down,simprocAttr,i1]at aH⊢);exact aH
 exact bo (aR _ (.inl (bt [.bool (aG&&(!(a0==([116,97,117]:List UInt8))))])))
theorem Vt (a0:List UInt8) (ah:UInt8) (r:(List (List UInt8))) (h:vt a0 ah=some r):br aS 129 [.str a0,.int .u8 (ah.toNat:Int)] (.aK 1 (r.map bg)) []:=by
 refine cN [0,1] [.tmp 4] Tryz.func129 MX (fun cl aR cu=> ?_)
 refine ws _ ?_
 refine f_ (show∀s,df aS s 22 0 []=some (.aK 1 [],s)from fun s=>by kernel_rfl) _ ?_
 refine ws _ ?_
 refine bu aR (fun hW gb dQ bE=> ?_)
 refine ws _ ?_
 refine c_ dQ (fun ij fw fA ft cK=> ?_)
 have Vu:∀(n:Nat) (hT:List (List UInt8)) (gB:Int) (hC:Int),oD a0 ah n hT gB hC=some r→fE aS Ek ij (J [(0,.str a0),(1,.int .u8 (ah.toNat:Int)),(5,.aK 1 (hT.map bg)),(6,.int .i64 gB),(7,.int .i64 hC)]):=by
  intro m10
  induction m10 with
  |zero=>intro hT gB hC h;cases(show none=some r from h)
  |succ m10 Vv=>
   intro hT gB hC h
   replace h:vr (oD a0 ah m10) a0 ah hT gB hC=some r:=h
   refine gN fA (fun lj fR gG dm=> ?_)
   refine bu gG (fun kf hX je hl=> ?_)
   refine ws _ ?_
   refine bL h (fun gD h=> ?_) (fun gD h=> ?_)
   ·refine bU (hX _ (.inl ?_))
    have E2:∀(rn:List (List UInt8)) (rp:Int) (rq:Int),vq (oD a0 ah m10) a0 ah rn rp rq=some r→b3 aS Ej lj (J [(0,.str a0),(1,.int .u8 (ah.toNat:Int)),(5,.aK 1 (rn.map bg)),(6,.int .i64 rp),(7,.int .i64 rq)]):=by
     intro rn rp rq h
     refine wr _ ?_
     exact fR _ (.inr ⟨_,b0 rfl,Vv rn rp (IntKind.i64.wrap (rq+1)) h⟩)
    refine bu gG (fun tI lk mJ mH=> ?_)
    refine c_ mJ (fun oT jg ln mK qc=> ?_)
    obtain⟨aG,gV,h⟩:=bb h
    refine f_ gV _ ?_
    refine bL h (fun mO h=> ?_) (fun mO h=> ?_)
    ·obtain⟨aU,lZ,h⟩:=bb h
     obtain⟨Vw,nO,h⟩:=bb h
     (try simp only[p4.down,Nat.reduceAdd]at nO)
     refine dA (cI [(0,.str a0),(1,.int .u8 (ah.toNat:Int)),(5,.aK 1 ((hT++[aU]).map bg)),(7,.int .i64 hC)] (fun P aH=> ?_) ?_)
     ·simp only[bf.down,simprocAttr,fJ,jD,bg,lZ,(show∀s,df aS s 22 1 [(0,.str aU)]=some (.aK 1 [.str aU],s)from fun s=>by kernel_rfl), @oq aS 22 22 9 rfl rfl,ot,ou,ov,all_cons,all_nil,nO, @oo _ bg 1 (fun _=>rfl)]
      (try simp only[b5.down,simprocAttr,bg,lZ,(show∀s,df aS s 22 1 [(0,.str aU)]=some (.aK 1 [.str aU],s)from fun s=>by kernel_rfl), @oq aS 22 22 9 rfl rfl,ot,ou,ov,all_cons,all_nil,nO, @oo _ bg 1 (fun _=>rfl)]at aH⊢);exact aH
     refine wr [(0,.str a0),(1,.int .u8 (ah.toNat:Int)),(5,.aK 1 ((hT++[aU]).map bg)),(6,.int .i64 (IntKind.i64.wrap (hC+1))),(7,.int .i64 hC)] ?_
     exact jg _ (lk _ (.inr ⟨_,b0 rfl,E2 (hT++[aU]) (IntKind.i64.wrap (hC+1)) hC h⟩))
    ·exact bU (jg _ (lk _ (.inr ⟨_,b0 rfl,E2 hT gB hC h⟩)))
   ·refine gL (hl 0 _ (dm 0 _ (ft _ (gb _ (.inl ?_)))))
    obtain⟨aY,iQ,h⟩:=bb h
    obtain⟨Zk,jf,h⟩:=bb h
    (try simp only[p4.down,Nat.reduceAdd]at jf)
    refine dA (cI [(4,.aK 1 ((hT++[aY]).map bg))] (fun P aH=> ?_) ?_)
    ·simp only[bf.down,simprocAttr,fJ,jD,bg,iQ,(show∀s,df aS s 22 1 [(0,.str aY)]=some (.aK 1 [.str aY],s)from fun s=>by kernel_rfl), @oq aS 22 22 9 rfl rfl,ot,ou,ov,all_cons,all_nil,jf, @oo _ bg 1 (fun _=>rfl)]
     (try simp only[b5.down,simprocAttr,bg,iQ,(show∀s,df aS s 22 1 [(0,.str aY)]=some (.aK 1 [.str aY],s)from fun s=>by kernel_rfl), @oq aS 22 22 9 rfl rfl,ot,ou,ov,all_cons,all_nil,jf, @oo _ bg 1 (fun _=>rfl)]at aH⊢);exact aH
    exact bo (aR _ (.inl (bt [.aK 1 ((hT++[aY]).map bg)])))
 obtain⟨n,h⟩:=gF h
 exact gM (.inr ⟨_,b0 rfl,Vu n [] 0 0 h⟩)
theorem Vx (a0:List UInt8) (r:Int×Bool) (h:vu a0=some r):br aS 130 [.str a0] (.tuple [.int .i64 r.1,.bool r.2]) []:=by
 refine cN [0] [.tmp 2,.tmp 3] Tryz.func130 Nh (fun cl aR cu=> ?_)
 refine ws _ ?_
 refine ws _ ?_
 have rT:∀(fY:Int),rr a0 fY=some r→b3 aS El cl (J [(0,.str a0),(4,.int .i64 fY)]):=by
  intro fY h
  refine bu aR (fun hW gb dQ bE=> ?_)
  rcases iq h with⟨ft,h⟩|⟨ft,h⟩
  ·refine f_ ft _ ?_
   refine k6 rfl ?_
   refine ws _ ?_
   exact bo (dQ _ (.inl (bt [.int .i64 0,.bool false])))
  ·rcases iq h with⟨e6,h⟩|⟨e6,h⟩
   ·refine f_ (And.intro ft e6) _ ?_
    refine k6 rfl ?_
    refine ws _ ?_
    exact bo (dQ _ (.inl (bt [.int .i64 0,.bool false])))
   ·obtain⟨aG,jW,h⟩:=bb h
    rcases iq h with⟨il,h⟩|⟨il,h⟩
    ·refine f_ (And.intro ft (And.intro e6 (And.intro jW il))) _ ?_
     refine bL h (fun gj h=> ?_) (fun gj h=> ?_)
     ·refine ws _ ?_
      exact bo (dQ _ (.inl (bt [.int .i64 0,.bool false])))
     ·refine bU (gb _ (.inl ?_))
      refine ws _ ?_
      refine bu aR (fun wk lY mL rR=> ?_)
      refine ws _ ?_
      refine c_ mL (fun Vy Zl Vz qd Zm=> ?_)
      have zD:∀(n:Nat) (gO:Int) (hU:Int),lV a0 fY n gO hU=some r→fE aS zn Vy (J [(0,.str a0),(4,.int .i64 fY),(5,.int .i64 gO),(6,.int .i64 hU)]):=by
       intro m24
       induction m24 with
       |zero=>intro gO hU h;cases(show none=some r from h)
       |succ m24 zE=>
        intro gO hU h
        replace h:tj (lV a0 fY m24) a0 fY gO hU=some r:=h
        refine gN Vz (fun VA zF wq E3=> ?_)
        refine bu wq (fun Vp wo EY EZ=> ?_)
        refine ws _ ?_
        refine bL h (fun rU h=> ?_) (fun rU h=> ?_)
        ·refine bU (wo _ (.inl ?_))
         refine bu wq (fun E4 tL rV wt=> ?_)
         refine c_ rV (fun E5 tM wu E6 zG=> ?_)
         refine bu wu (fun E7 E8 zH VB=> ?_)
         obtain⟨aU,E9,h⟩:=bb h
         obtain⟨aY,VC,h⟩:=bb h
         refine iO E9 (zA aU _ VC) _ ?_
         refine bL h (fun zI h=> ?_) (fun zI h=> ?_)
         ·refine ws _ ?_
          exact bo (zH _ (.inl (bt [.int .i64 0,.bool false])))
         ·refine bU (E8 _ (.inl ?_))
          refine zr (And.intro E9 (@Dr aS 5 2 .i64 rfl rfl)) _ ?_
          refine tM _ (tL _ (.inl ?_))
          refine wr _ ?_
          exact zF _ (.inr ⟨_,b0 rfl,zE (IntKind.i64.wrap ((IntKind.i64.wrap (10*gO))+(IntKind.i64.wrap (IntKind.u8.wrap ((aU.toNat:Int)-48))))) (IntKind.i64.wrap (hU+1)) h⟩)
        ·refine gL (EZ 0 _ (E3 0 _ (qd _ (lY _ (.inl ?_)))))
         have tN:∀(lU:Int),ti lU=some r→b3 aS zo cl (J [(5,.int .i64 lU)]):=by
          intro lU h
          refine ws _ ?_
          exact bo (aR _ (.inl (bt [.int .i64 lU,.bool true])))
         refine bu aR (fun VD wv E_ VE=> ?_)
         refine ws _ ?_
         refine bL h (fun VF h=> ?_) (fun VF h=> ?_)
         ·refine wr _ ?_
          exact wv _ (.inr ⟨_,b0 rfl,tN (IntKind.i64.wrap (0-gO)) h⟩)
         ·exact bU (wv _ (.inr ⟨_,b0 rfl,tN gO h⟩))
      obtain⟨n,h⟩:=gF h
      exact gM (.inr ⟨_,b0 rfl,zD n 0 fY h⟩)
    ·refine f_ (And.intro ft (And.intro e6 (And.intro jW il))) _ ?_
     refine s_ rfl ?_
     refine bU (gb _ (.inl ?_))
     refine ws _ ?_
     refine bu aR (fun Zn VG VH Zo=> ?_)
     refine ws _ ?_
     refine c_ VH (fun VI Zp VJ zJ Zq=> ?_)
     have zD:∀(n:Nat) (gO:Int) (hU:Int),lV a0 fY n gO hU=some r→fE aS zn VI (J [(0,.str a0),(4,.int .i64 fY),(5,.int .i64 gO),(6,.int .i64 hU)]):=by
      intro m24
      induction m24 with
      |zero=>intro gO hU h;cases(show none=some r from h)
      |succ m24 zE=>
       intro gO hU h
       replace h:tj (lV a0 fY m24) a0 fY gO hU=some r:=h
       refine gN VJ (fun Zr VK Fa VL=> ?_)
       refine bu Fa (fun Zs VM Zt VN=> ?_)
       refine ws _ ?_
       refine bL h (fun VO h=> ?_) (fun VO h=> ?_)
       ·refine bU (VM _ (.inl ?_))
        refine bu Fa (fun Zu zK VP Zv=> ?_)
        refine c_ VP (fun Zw VQ VR Zx Zy=> ?_)
        refine bu VR (fun Zz VS VT ZA=> ?_)
        obtain⟨bE,wx,h⟩:=bb h
        obtain⟨cc,VU,h⟩:=bb h
        refine iO wx (zA bE _ VU) _ ?_
        refine bL h (fun VV h=> ?_) (fun VV h=> ?_)
        ·refine ws _ ?_
         exact bo (VT _ (.inl (bt [.int .i64 0,.bool false])))
        ·refine bU (VS _ (.inl ?_))
         refine zr (And.intro wx (@Dr aS 5 2 .i64 rfl rfl)) _ ?_
         refine VQ _ (zK _ (.inl ?_))
         refine wr _ ?_
         exact VK _ (.inr ⟨_,b0 rfl,zE (IntKind.i64.wrap ((IntKind.i64.wrap (10*gO))+(IntKind.i64.wrap (IntKind.u8.wrap ((bE.toNat:Int)-48))))) (IntKind.i64.wrap (hU+1)) h⟩)
       ·refine gL (VN 0 _ (VL 0 _ (zJ _ (VG _ (.inl ?_)))))
        have tN:∀(lU:Int),ti lU=some r→b3 aS zo cl (J [(5,.int .i64 lU)]):=by
         intro lU h
         refine ws _ ?_
         exact bo (aR _ (.inl (bt [.int .i64 lU,.bool true])))
        refine bu aR (fun ZB Fb ZC ZD=> ?_)
        refine ws _ ?_
        refine bL h (fun VW h=> ?_) (fun VW h=> ?_)
        ·refine wr _ ?_
         exact Fb _ (.inr ⟨_,b0 rfl,tN (IntKind.i64.wrap (0-gO)) h⟩)
        ·exact bU (Fb _ (.inr ⟨_,b0 rfl,tN gO h⟩))
     obtain⟨n,h⟩:=gF h
     exact gM (.inr ⟨_,b0 rfl,zD n 0 fY h⟩)
 refine bu aR (fun tG lh fp aY=> ?_)
 rcases iq h with⟨zL,h⟩|⟨zL,h⟩
 ·obtain⟨cK,VX,h⟩:=bb h
  refine f_ (And.intro zL VX) _ ?_
  refine bL h (fun VY h=> ?_) (fun VY h=> ?_)
  ·refine wr _ ?_
   exact lh _ (.inr ⟨_,b0 rfl,rT 1 h⟩)
  ·exact bU (lh _ (.inr ⟨_,b0 rfl,rT 0 h⟩))
 ·refine f_ zL _ ?_
  refine s_ rfl ?_
  exact bU (lh _ (.inr ⟨_,b0 rfl,rT 0 h⟩))
theorem Fe (a0:Int) (ah:Int) (a2:Int) (r:Bool) (h:tk a0 ah a2=some r):br aS 81 [.int .i64 a0,.int .i64 ah,.int .i64 a2] (.bool r) []:=by
 refine cN [0,1,2] [.tmp 6] Tryz.func81 Nk (fun cl aR cu=> ?_)
 refine ws _ ?_
 refine dA (cI [(6,.bool ((decide (ah≤a0))&&(decide (a0≤a2))))] (fun P aH=> ?_) ?_)
 ·rcases Bool.eq_false_or_eq_true (decide (ah≤a0))with eI|eI
  ·simp only[bf.down,simprocAttr,eI]
   (try simp only[b5.down,simprocAttr,eI]at aH⊢);exact aH
  ·simp only[bf.down,simprocAttr,eI]
   (try simp only[b5.down,simprocAttr,eI]at aH⊢);exact aH
 exact bo (aR _ (.inl (bt [.bool ((decide (ah≤a0))&&(decide (a0≤a2)))])))
theorem VZ (a0:List UInt8) (r:(List Int)×Bool) (h:tl a0=some r):br aS 120 [.str a0] (.tuple [.aK 1 (r.1.map ba),.bool r.2]) []:=by
 refine cN [0] [.tmp 2,.tmp 3] Tryz.func120 NI (fun cl aR cu=> ?_)
 refine ws _ ?_
 obtain⟨aG,aL,h⟩:=bb h
 refine fg (Vo a0 _ aL) _ ?_
 refine bu aR (fun hW gb dQ bE=> ?_)
 refine ws _ ?_
 refine bL h (fun ft h=> ?_) (fun ft h=> ?_)
 ·obtain⟨aU,gX,h⟩:=bb h
  refine iO (show∀s,df aS s 23 0 []=some (.aK 1 [],s)from fun s=>by kernel_rfl) (zB a0 _ gX) _ ?_
  exact bo (dQ _ (.inl (bt [.aK 1 [],.bool aU])))
 ·refine bU (gb _ (.inl ?_))
  refine bu aR (fun jc fv e9 eE=> ?_)
  obtain⟨aY,qm,h⟩:=bb h
  obtain⟨bE,nZ,h⟩:=bb h
  rcases iq h with⟨mK,h⟩|⟨mK,h⟩
  ·refine iO (And.intro qm (pN mK)) (E1 aY _ nZ) _ ?_
   refine k6 rfl ?_
   refine ws _ ?_
   exact bo (e9 _ (.inr ⟨[(2,.aK 1 []),(3,.bool false)],mv [] rfl (mx (t:=2) (d:=.bH) rfl rfl (.i_ _) (by decide) (j5 rfl (mw))),bt [.aK 1 [],.bool false]⟩))
  ·obtain⟨cc,gV,h⟩:=bb h
   refine iO (And.intro qm (And.intro (mC mK) gV)) (E1 aY _ nZ) _ ?_
   refine bL h (fun mO h=> ?_) (fun mO h=> ?_)
   ·refine ws _ ?_
    exact bo (e9 _ (.inr ⟨[(2,.aK 1 []),(3,.bool false)],mv [] rfl (mx (t:=2) (d:=.bH) rfl rfl (.i_ _) (by decide) (j5 rfl (mw))),bt [.aK 1 [],.bool false]⟩))
   ·refine bU (fv _ (.inl ?_))
    obtain⟨cK,nO,h⟩:=bb h
    obtain⟨dm,mP,h⟩:=bb h
    refine iO nO (Vt cK (44:UInt8) _ mP) _ ?_
    refine f_ (show∀s,df aS s 23 0 []=some (.aK 1 [],s)from fun s=>by kernel_rfl) _ ?_
    refine bu aR (fun E4 tL rV wt=> ?_)
    refine ws _ ?_
    refine c_ rV (fun E7 E8 zH oS VB=> ?_)
    have V0:∀(n:Nat) (h9:List Int) (jF:Int),oE dm n h9 jF=some r→fE aS Em E7 (J [(5,.aK 1 (dm.map bg)),(6,.aK 1 (h9.map ba)),(7,.int .i64 jF)]):=by
     intro zM
     induction zM with
     |zero=>intro h9 jF h;cases(show none=some r from h)
     |succ zM V1=>
      intro h9 jF h
      replace h:vv (oE dm zM) dm h9 jF=some r:=h
      refine gN zH (fun V2 zN wy Ff=> ?_)
      refine bu wy (fun V3 zO Fg zP=> ?_)
      refine ws _ ?_
      refine bL h (fun zI h=> ?_) (fun zI h=> ?_)
      ·refine bU (zO _ (.inl ?_))
       refine bu wy (fun Fh tO zQ wz=> ?_)
       refine c_ zQ (fun ZE V4 V5 Fi ZF=> ?_)
       obtain⟨hl,Fj,h⟩:=bb h
       obtain⟨eE,wA,h⟩:=bb h
       refine iO (And.intro Fj (kK Fj)) (Vx hl _ wA) _ ?_
       refine bu V5 (fun V6 zR wB V7=> ?_)
       rcases iq h with⟨qe,h⟩|⟨qe,h⟩
       ·refine f_ (pN qe) _ ?_
        refine k6 rfl ?_
        refine ws _ ?_
        exact bo (wB _ (.inr ⟨[(2,.aK 1 []),(3,.bool false)],mv [] rfl (mx (t:=2) (d:=.bH) rfl rfl (.i_ _) (by decide) (j5 rfl (mw))),bt [.aK 1 [],.bool false]⟩))
       ·obtain⟨fP,tP,h⟩:=bb h
        refine dA (cI [(5,.aK 1 (dm.map bg)),(6,.aK 1 (h9.map ba)),(7,.int .i64 jF),(8,.int .i64 eE.1),(61,.bool (!fP))] (fun P aH=> ?_) ?_)
        ·simp only[bf.down,simprocAttr,eK.down,(mC qe)]
         refine pI (Fe eE.1 0 63 _ tP) rfl rfl rfl rfl (.inl (by rfl)) ?_
         simp only[bf.down,simprocAttr,eK.down,(mC qe)]
         (try simp only[b5.down,simprocAttr,eK.down,(mC qe)]at aH⊢);exact aH
        refine bL h (fun zS h=> ?_) (fun zS h=> ?_)
        ·refine ws _ ?_
         exact bo (wB _ (.inr ⟨[(2,.aK 1 []),(3,.bool false)],mv [] rfl (mx (t:=2) (d:=.bH) rfl rfl (.i_ _) (by decide) (j5 rfl (mw))),bt [.aK 1 [],.bool false]⟩))
        ·refine bU (zR _ (.inl ?_))
         obtain⟨ZG,zT,h⟩:=bb h
         (try simp only[p4.down,Nat.reduceAdd]at zT)
         refine iK (cI [(5,.aK 1 (dm.map bg)),(6,.aK 1 ((h9++[eE.1]).map ba)),(7,.int .i64 jF)] (fun P aH=> ?_) ?_)
         ·simp only[bf.down,simprocAttr,fO,tf,ba,bg,(show∀s,df aS s 23 1 [(0,.int .i64 eE.1)]=some (.aK 1 [.int .i64 eE.1],s)from fun s=>by kernel_rfl), @oq aS 23 23 2 rfl rfl,ot,ou,ov,all_cons,all_nil,zT, @oo _ ba 1 (fun _=>rfl)]
          (try simp only[b5.down,simprocAttr,eK.down,(show∀s,df aS s 23 1 [(0,.int .i64 eE.1)]=some (.aK 1 [.int .i64 eE.1],s)from fun s=>by kernel_rfl), @oq aS 23 23 2 rfl rfl,ot,ou,ov,all_cons,all_nil,zT, @oo _ ba 1 (fun _=>rfl)]at aH⊢);exact aH
         refine V4 _ (tO _ (.inl ?_))
         refine wr [(5,.aK 1 (dm.map bg)),(6,.aK 1 ((h9++[eE.1]).map ba)),(7,.int .i64 (IntKind.i64.wrap (jF+1)))] ?_
         exact zN _ (.inr ⟨_,b0 rfl,V1 (h9++[eE.1]) (IntKind.i64.wrap (jF+1)) h⟩)
      ·refine gL (zP 0 _ (Ff 0 _ (oS _ (tL _ (.inl ?_)))))
       refine ws _ ?_
       exact bo (aR _ (.inl (bt [.aK 1 (h9.map ba),.bool (decide ((h9.length:Int)≤2))])))
    obtain⟨n,h⟩:=gF h
    exact gM (.inr ⟨_,b0 rfl,V0 n [] 0 h⟩)
theorem V8 (a0:List UInt8) (r:Bool) (h:mE a0=some r):br aS 80 [.str a0] (.bool r) []:=by
 refine cN [0] [.tmp 2] Tryz.func80 NL (fun cl aR cu=> ?_)
 refine ws _ ?_
 obtain⟨aG,aL,h⟩:=bb h
 refine fg (VZ a0 _ aL) _ ?_
 refine ws _ ?_
 exact bo (aR _ (.inl (bt [.bool aG.2])))
theorem V9 (a0:List (List UInt8)) (ah:List Int) (r:Int) (h:vy a0 ah=some r):br aS 49 [.slice (a0.map bg),.slice (ah.map ba)] (.int .i64 r) []:=by
 refine cN [0,1] [.tmp 4] Tryz.func49 N7 (fun cl aR cu=> ?_)
 refine ws _ ?_
 refine bu aR (fun hA dL cr aU=> ?_)
 refine ws _ ?_
 refine bL h (fun dI h=> ?_) (fun dI h=> ?_)
 ·refine ws _ ?_
  exact bo (cr _ (.inl (bt [.int .i64 2])))
 ·refine bU (dL _ (.inl ?_))
  refine bu aR (fun ij fw fA cK=> ?_)
  refine ws _ ?_
  refine c_ fA (fun kf hX je e6 hl=> ?_)
  have p_:∀(n:Nat) (eb:Int),pP a0 ah n eb=some r→fE aS En kf (J [(0,.slice (a0.map bg)),(1,.slice (ah.map ba)),(5,.int .i64 eb)]):=by
   intro m14
   induction m14 with
   |zero=>intro eb h;cases(show none=some r from h)
   |succ m14 oQ=>
    intro eb h
    replace h:vx (pP a0 ah m14) a0 ah eb=some r:=h
    refine gN je (fun jc fv e9 eE=> ?_)
    refine bu e9 (fun ke fh ga fP=> ?_)
    refine ws _ ?_
    refine bL h (fun gj h=> ?_) (fun gj h=> ?_)
    ·refine bU (fh _ (.inl ?_))
     refine bu e9 (fun oT jg ln qc=> ?_)
     refine c_ ln (fun p6 kG ll oP rQ=> ?_)
     obtain⟨aG,im,h⟩:=bb h
     obtain⟨aU,gU,h⟩:=bb h
     refine iO im (V8 aG _ gU) _ ?_
     refine bL h (fun kH h=> ?_) (fun kH h=> ?_)
     ·refine ws _ ?_
      exact bo (ll _ (.inl (bt [.int .i64 2])))
     ·refine bU (kG _ (jg _ (.inl ?_)))
      refine wr _ ?_
      exact fv _ (.inr ⟨_,b0 rfl,oQ (IntKind.i64.wrap (eb+1)) h⟩)
    ·refine gL (fP 0 _ (eE 0 _ (e6 _ (fw _ (.inl ?_)))))
     refine bu aR (fun Fk Fl zU V_=> ?_)
     refine ws _ ?_
     refine bL h (fun E6 h=> ?_) (fun E6 h=> ?_)
     ·refine ws _ ?_
      exact bo (zU _ (.inl (bt [.int .i64 7])))
     ·refine bU (Fl _ (.inl ?_))
      refine bu aR (fun V2 zN wy Ff=> ?_)
      refine ws _ ?_
      refine c_ wy (fun Fm tQ Fo wC Wa=> ?_)
      have Wb:∀(n:Nat) (lb:Int),pO ah n lb=some r→fE aS Eo Fm (J [(1,.slice (ah.map ba)),(6,.int .i64 lb)]):=by
       intro zV
       induction zV with
       |zero=>intro lb h;cases(show none=some r from h)
       |succ zV Wc=>
        intro lb h
        replace h:vw (pO ah zV) ah lb=some r:=h
        refine gN Fo (fun Wd zW wD Fp=> ?_)
        refine bu wD (fun Fh tO zQ wz=> ?_)
        refine ws _ ?_
        refine bL h (fun zX h=> ?_) (fun zX h=> ?_)
        ·refine bU (tO _ (.inl ?_))
         refine bu wD (fun VD wv E_ VE=> ?_)
         refine c_ E_ (fun ZH We Wf wE ZI=> ?_)
         obtain⟨aY,Wg,h⟩:=bb h
         obtain⟨bE,qf,h⟩:=bb h
         refine iO Wg (Fe aY 0 3 _ qf) _ ?_
         refine bL h (fun Wh h=> ?_) (fun Wh h=> ?_)
         ·refine ws _ ?_
          exact bo (Wf _ (.inl (bt [.int .i64 7])))
         ·refine bU (We _ (wv _ (.inl ?_)))
          refine wr _ ?_
          exact zW _ (.inr ⟨_,b0 rfl,Wc (IntKind.i64.wrap (lb+1)) h⟩)
        ·refine gL (wz 2 _ (Fp 2 _ (wC _ (zN _ (.inl ?_)))))
         refine ws _ ?_
         exact bo (aR _ (.inl (bt [.int .i64 0])))
      obtain⟨n,h⟩:=gF h
      exact gM (.inr ⟨_,b0 rfl,Wb n 0 h⟩)
  obtain⟨n,h⟩:=gF h
  exact gM (.inr ⟨_,b0 rfl,p_ n 0 h⟩)
theorem Fq (a0:Int) (ah:Int) (r:Int) (h:tm a0 ah=some r):br aS 121 [.int .i64 a0,.int .i64 ah] (.int .i64 r) []:=by
 refine cN [0,1] [.tmp 4] Tryz.func121 Oc (fun cl aR cu=> ?_)
 refine ws _ ?_
 refine bu aR (fun hA dL cr aU=> ?_)
 refine ws _ ?_
 refine bL h (fun dI h=> ?_) (fun dI h=> ?_)
 ·refine ws _ ?_
  exact bo (cr _ (.inl (bt [.int .i64 a0])))
 ·refine bU (dL _ (.inl ?_))
  refine ws _ ?_
  exact bo (aR _ (.inl (bt [.int .i64 ah])))
theorem wF (dM:Int) (eu:Int) (ed:Int) (dN:Int) (ei:Int) (ld:Int) (ah:Int) (r:Int×Int×Int×Int×Int×Int) (h:pQ dM eu ed dN ei ld ah=some r):br aS 122 [.a1 (.agg [.int .i64 dM,.int .i64 eu,.int .i64 ed,.int .i64 dN,.int .i64 ei,.int .i64 ld]),.int .i64 ah] (.tuple []) [.a1 (.agg [.int .i64 r.1,.int .i64 r.2.1,.int .i64 r.2.2.1,.int .i64 r.2.2.2.1,.int .i64 r.2.2.2.2.1,.int .i64 r.2.2.2.2.2]),.hole]:=by
 refine cN [0,1] [] Tryz.func122 Og (fun cl aR cu=> ?_)
 have Fs:∀(ru:Int),vz dM eu dN ei ld ru=some r→b3 aS Ep cl (J [(0,.a1 (.agg [.int .i64 dM,.int .i64 eu,.int .i64 ru,.int .i64 dN,.int .i64 ei,.int .i64 ld]))]):=by
  intro ru h
  refine wr _ ?_
  exact cu _ (.inl (k7 [] rfl (by cases gd h;rfl) (by decide) (lR (lS (by cases gd h;rfl) rfl rfl rfl (hS (lT))))))
 refine bu aR (fun ZJ jz ev aG=> ?_)
 refine ws _ ?_
 refine bL h (fun dI h=> ?_) (fun dI h=> ?_)
 ·refine wr _ ?_
  exact jz _ (.inr ⟨_,b0 rfl,Fs (IntKind.i64.wrap (ed+1)) h⟩)
 ·exact bU (jz _ (.inr ⟨_,b0 rfl,Fs ed h⟩))
theorem Wi (dM:Int) (eu:Int) (ed:Int) (dN:Int) (ei:Int) (ld:Int) (ah:Int) (a2:Int) (r:Int×Int×Int×Int×Int×Int) (h:tr dM eu ed dN ei ld ah a2=some r):br aS 82 [.a1 (.agg [.int .i64 dM,.int .i64 eu,.int .i64 ed,.int .i64 dN,.int .i64 ei,.int .i64 ld]),.int .i64 ah,.int .i64 a2] (.tuple []) [.a1 (.agg [.int .i64 r.1,.int .i64 r.2.1,.int .i64 r.2.2.1,.int .i64 r.2.2.2.1,.int .i64 r.2.2.2.2.1,.int .i64 r.2.2.2.2.2]),.hole,.hole]:=by
 refine cN [0,1,2] [] Tryz.func82 OR (fun cl aR cu=> ?_)
 refine ws _ ?_
 refine ws _ ?_
 refine ws _ ?_
 refine ws _ ?_
 refine ws _ ?_
 have Ft:∀(oG:Int),tq ah a2 dM ed dN oG=some r→b3 aS Eu cl (J [(0,.a1 (.agg [.int .i64 dM,.int .i64 oG,.int .i64 ed,.int .i64 (-1),.int .i64 (-1),.int .i64 (-1)])),(1,.int .i64 ah),(2,.int .i64 a2),(7,.int .i64 dN)]):=by
  intro oG h
  have tR:∀(iL:Int) (fF:Int) (jG:Int) (kB:Int) (jH:Int) (jI:Int),tp ah a2 iL fF jG kB jH jI=some r→b3 aS Et cl (J [(0,.a1 (.agg [.int .i64 iL,.int .i64 fF,.int .i64 jG,.int .i64 kB,.int .i64 jH,.int .i64 jI])),(1,.int .i64 ah),(2,.int .i64 a2)]):=by
   intro iL fF jG kB jH jI h
   have tS:∀(j8:Int) (j9:Int) (j_:Int) (ka:Int) (kA:Int) (h_:Int),oF a2 j8 j9 j_ ka kA h_=some r→b3 aS Es cl (J [(0,.a1 (.agg [.int .i64 j8,.int .i64 j9,.int .i64 j_,.int .i64 ka,.int .i64 kA,.int .i64 h_])),(2,.int .i64 a2)]):=by
    intro j8 j9 j_ ka kA h_ h
    refine bu aR (fun jc fv e9 eE=> ?_)
    refine ws _ ?_
    refine bL h (fun il h=> ?_) (fun il h=> ?_)
    ·exact bo (e9 _ (.inl (k7 [] rfl (by cases gd h;rfl) (by decide) (lR (lS (by cases gd h;rfl) rfl rfl rfl (hS (hS (lT))))))))
    ·refine bU (fv _ (.inl ?_))
     refine ws _ ?_
     refine c_ aR (fun oT jg ln mK qc=> ?_)
     have Fu:∀(tn:Bool),vA a2 j8 j9 j_ ka kA h_ tn=some r→b3 aS Er oT (J [(0,.a1 (.agg [.int .i64 j8,.int .i64 j9,.int .i64 j_,.int .i64 ka,.int .i64 kA,.int .i64 h_])),(86,.int .i64 a2),(87,.bool tn)]):=by
      intro tn h
      refine bL h (fun jd h=> ?_) (fun jd h=> ?_)
      ·obtain⟨aG,gU,h⟩:=bb h
       refine Df rfl (ny [(0,.a1 (.agg [.int .i64 j8,.int .i64 aG,.int .i64 j_,.int .i64 ka,.int .i64 kA,.int .i64 h_]))] (fun P aH=> ?_) ?_)
       ·simp only[jB.down,simprocAttr,fO,mD]
        refine KI (Fq j9 h_ _ gU) rfl rfl rfl rfl (.inl (by rfl)) ?_
        simp only[jB.down,simprocAttr,fO,mD]
        refine⟨mB (by kernel_rfl),?_⟩
        (try simp only[b5.down,simprocAttr]at aH⊢);exact aH
       exact jg _ (cu _ (.inl (k7 [] rfl (by cases gd h;rfl) (by decide) (lR (lS (by cases gd h;rfl) rfl rfl rfl (hS (hS (lT))))))))
      ·refine ws _ ?_
       refine bL h (fun zu h=> ?_) (fun zu h=> ?_)
       ·refine wr _ ?_
        exact jg _ (cu _ (.inl (k7 [] rfl (by cases gd h;rfl) (by decide) (lR (lS (by cases gd h;rfl) rfl rfl rfl (hS (hS (lT))))))))
       ·exact bU (jg _ (cu _ (.inl (k7 [] rfl (by cases gd h;rfl) (by decide) (lR (lS (by cases gd h;rfl) rfl rfl rfl (hS (hS (lT)))))))))
     refine bu ln (fun p6 kG ll rQ=> ?_)
     refine ws _ ?_
     refine bL h (fun rW h=> ?_) (fun rW h=> ?_)
     ·simp only[rW,U2.down]
      exact bU (kG _ (.inr ⟨_,b0 rfl,Fu true h⟩))
     ·refine wr _ ?_
      exact kG _ (.inr ⟨_,b0 rfl,Fu (a2==2) h⟩)
   refine bu aR (fun kf hX je hl=> ?_)
   refine pH rfl (ny [(0,.a1 (.agg [.int .i64 iL,.int .i64 fF,.int .i64 jG,.int .i64 kB,.int .i64 jH,.int .i64 jI])),(1,.int .i64 ah),(2,.int .i64 a2),(50,.bool (decide (fF<iL)))] (fun P aH=> ?_) ?_)
   ·simp only[jB.down,simprocAttr,fO,mD]
    refine⟨mB (by kernel_rfl),?_⟩
    (try simp only[b5.down,simprocAttr]at aH⊢);exact aH
   refine bL h (fun zY h=> ?_) (fun zY h=> ?_)
   ·refine ws _ ?_
    refine c_ je (fun Fm tQ Fo wC Wa=> ?_)
    refine ws _ ?_
    refine bL h (fun Wj h=> ?_) (fun Wj h=> ?_)
    ·obtain⟨aU,tT,h⟩:=bb h
     refine iK (cI [(0,.a1 (.agg [.int .i64 aU.1,.int .i64 aU.2.1,.int .i64 aU.2.2.1,.int .i64 aU.2.2.2.1,.int .i64 aU.2.2.2.2.1,.int .i64 aU.2.2.2.2.2])),(2,.int .i64 a2)] (fun P aH=> ?_) ?_)
     ·simp only[bf.down,simprocAttr,fO,mD]
      refine mz [⟨.h 0 [],true,_,_⟩,⟨.int .i64 fF,false,_,.hole⟩] (wF iL fF jG kB jH jI fF _ tT) rfl rfl rfl (by simp only[bf.down,simprocAttr,fO,mD,kx,k8,k9,hP,hQ,hR,hk,or_true,true_or]) rfl rfl (.inl rfl) ?_
      simp only[bf.down,simprocAttr,fO,mD,k_]
      (try simp only[b5.down,simprocAttr]at aH⊢);exact aH
     exact tQ _ (hX _ (.inr ⟨_,b0 rfl,tS aU.1 aU.2.1 aU.2.2.1 aU.2.2.2.1 aU.2.2.2.2.1 aU.2.2.2.2.2 h⟩))
    ·refine ws _ ?_
     refine bL h (fun wE h=> ?_) (fun wE h=> ?_)
     ·refine ws _ ?_
      obtain⟨aY,qf,h⟩:=bb h
      refine dA (cI [(0,.a1 (.agg [.int .i64 aY.1,.int .i64 aY.2.1,.int .i64 aY.2.2.1,.int .i64 aY.2.2.2.1,.int .i64 aY.2.2.2.2.1,.int .i64 aY.2.2.2.2.2])),(2,.int .i64 a2),(8,.int .i64 fF)] (fun P aH=> ?_) ?_)
      ·simp only[bf.down,simprocAttr]
       refine mz [⟨.h 0 [],true,_,_⟩,⟨.int .i64 fF,false,_,.hole⟩] (wF iL fF jG kB jH jI fF _ qf) rfl rfl rfl (by simp only[bf.down,simprocAttr,kx,k8,k9,hP,hQ,hR,hk,or_true,true_or]) rfl rfl (.inl rfl) ?_
       simp only[bf.down,simprocAttr,k_]
       (try simp only[b5.down,simprocAttr]at aH⊢);exact aH
      obtain⟨bE,tP,h⟩:=bb h
      refine iK (cI [(0,.a1 (.agg [.int .i64 bE.1,.int .i64 bE.2.1,.int .i64 bE.2.2.1,.int .i64 bE.2.2.2.1,.int .i64 bE.2.2.2.2.1,.int .i64 bE.2.2.2.2.2])),(2,.int .i64 a2)] (fun P aH=> ?_) ?_)
      ·simp only[bf.down,simprocAttr]
       refine mz [⟨.h 0 [],true,_,_⟩,⟨.int .i64 fF,false,_,.hole⟩] (wF aY.1 aY.2.1 aY.2.2.1 aY.2.2.2.1 aY.2.2.2.2.1 aY.2.2.2.2.2 fF _ tP) rfl rfl rfl (by simp only[bf.down,simprocAttr,kx,k8,k9,hP,hQ,hR,hk,or_true,true_or]) rfl rfl (.inl rfl) ?_
       simp only[bf.down,simprocAttr,k_]
       (try simp only[b5.down,simprocAttr]at aH⊢);exact aH
      exact tQ _ (hX _ (.inr ⟨_,b0 rfl,tS bE.1 bE.2.1 bE.2.2.1 bE.2.2.2.1 bE.2.2.2.2.1 bE.2.2.2.2.2 h⟩))
     ·refine ws _ ?_
      refine bL h (fun zJ h=> ?_) (fun zJ h=> ?_)
      ·refine wr _ ?_
       exact tQ _ (hX _ (.inr ⟨_,b0 rfl,tS iL fF jG fF jH jI h⟩))
      ·exact bU (tQ _ (hX _ (.inr ⟨_,b0 rfl,tS iL fF jG kB jH jI h⟩)))
   ·exact bU (hX _ (.inr ⟨_,b0 rfl,tS iL fF jG kB jH jI h⟩))
  refine bu aR (fun lj fR gG dm=> ?_)
  refine ws _ ?_
  refine bL h (fun Wk h=> ?_) (fun Wk h=> ?_)
  ·obtain⟨cc,zZ,h⟩:=bb h
   refine iK (cI [(0,.a1 (.agg [.int .i64 cc.1,.int .i64 cc.2.1,.int .i64 cc.2.2.1,.int .i64 cc.2.2.2.1,.int .i64 cc.2.2.2.2.1,.int .i64 cc.2.2.2.2.2])),(1,.int .i64 ah),(2,.int .i64 a2)] (fun P aH=> ?_) ?_)
   ·simp only[bf.down,simprocAttr]
    refine mz [⟨.h 0 [],true,_,_⟩,⟨.int .i64 dN,false,_,.hole⟩] (wF dM oG ed (-1) (-1) (-1) dN _ zZ) rfl rfl rfl (by simp only[bf.down,simprocAttr,kx,k8,k9,hP,hQ,hR,hk,or_true,true_or]) rfl rfl (.inl rfl) ?_
    simp only[bf.down,simprocAttr,k_]
    (try simp only[b5.down,simprocAttr]at aH⊢);exact aH
   exact fR _ (.inr ⟨_,b0 rfl,tR cc.1 cc.2.1 cc.2.2.1 cc.2.2.2.1 cc.2.2.2.2.1 cc.2.2.2.2.2 h⟩)
  ·exact bU (fR _ (.inr ⟨_,b0 rfl,tR dM oG ed (-1) (-1) (-1) h⟩))
 refine bu aR (fun ij fw fA cK=> ?_)
 refine ws _ ?_
 refine bL h (fun Wl h=> ?_) (fun Wl h=> ?_)
 ·obtain⟨cK,wx,h⟩:=bb h
  refine EX (Fq eu ei _ wx) _ ?_
  exact fw _ (.inr ⟨_,b0 rfl,Ft cK h⟩)
 ·exact bU (fw _ (.inr ⟨_,b0 rfl,Ft eu h⟩))
theorem Wm (a0:Int) (ah:List Int) (r:Int×Int×Int×Int×Int×Int×Int) (h:tv a0 ah=some r):br aS 50 [.int .i64 a0,.slice (ah.map ba)] (.tuple [.a1 (.agg [.int .i64 r.1,.int .i64 r.2.1,.int .i64 r.2.2.1,.int .i64 r.2.2.2.1,.int .i64 r.2.2.2.2.1,.int .i64 r.2.2.2.2.2.1]),.int .i64 r.2.2.2.2.2.2]) []:=by
 refine cN [0,1] [.tmp 4,.tmp 5] Tryz.func50 O6 (fun cl aR cu=> ?_)
 refine ws _ ?_
 refine f_ (show∀s,dH aS s 94 [(0,.int .i64 a0),(3,.int .i64 (-1)),(4,.int .i64 (-1)),(5,.int .i64 (-1))]=some (.agg [.int .i64 a0,.int .i64 0,.int .i64 0,.int .i64 (-1),.int .i64 (-1),.int .i64 (-1)],s)from fun s=>by kernel_rfl) _ ?_
 refine ws _ ?_
 have Fv:∀(rM:Int),tu a0 ah rM=some r→b3 aS Ey cl (J [(0,.int .i64 a0),(1,.slice (ah.map ba)),(6,.a1 (.agg [.int .i64 a0,.int .i64 0,.int .i64 0,.int .i64 (-1),.int .i64 (-1),.int .i64 (-1)])),(7,.int .i64 rM)]):=by
  intro rM h
  have Fw:∀(rv:Int) (ry:Int) (rz:Int) (rA:Int) (rB:Int) (rC:Int) (rD:Int) (vB:Int),y7 a0 ah rv ry rz rA rB rC rD vB=some r→b3 aS Ex cl (J [(0,.int .i64 a0),(1,.slice (ah.map ba)),(6,.a1 (.agg [.int .i64 rv,.int .i64 ry,.int .i64 rz,.int .i64 rA,.int .i64 rB,.int .i64 rC])),(7,.int .i64 rD),(8,.int .i64 vB)]):=by
   intro rv ry rz rA rB rC rD vB h
   refine ws _ ?_
   exact bo (aR _ (.inl (bt [.a1 (.agg [.int .i64 rv,.int .i64 ry,.int .i64 rz,.int .i64 rA,.int .i64 rB,.int .i64 rC]),.int .i64 rD])))
  refine bu aR (fun mN ik gq cc=> ?_)
  refine ws _ ?_
  refine c_ gq (fun kf hX je e6 hl=> ?_)
  have zs:∀(n:Nat) (jJ:Int) (ia:Int) (jK:Int) (ib:Int) (iM:Int) (jL:Int) (hD:Int) (gC:Int),lW a0 ah n jJ ia jK ib iM jL hD gC=some r→fE aS Ew kf (J [(0,.int .i64 a0),(1,.slice (ah.map ba)),(6,.a1 (.agg [.int .i64 jJ,.int .i64 ia,.int .i64 jK,.int .i64 ib,.int .i64 iM,.int .i64 jL])),(7,.int .i64 hD),(8,.int .i64 gC)]):=by
   intro m16
   induction m16 with
   |zero=>intro jJ ia jK ib iM jL hD gC h;cases(show none=some r from h)
   |succ m16 zt=>
    intro jJ ia jK ib iM jL hD gC h
    replace h:tt (lW a0 ah m16) a0 ah jJ ia jK ib iM jL hD gC=some r:=h
    refine gN je (fun jc fv e9 eE=> ?_)
    refine bu e9 (fun ke fh ga fP=> ?_)
    refine ws _ ?_
    refine bL h (fun gj h=> ?_) (fun gj h=> ?_)
    ·refine bU (fh _ (.inl ?_))
     have Fx:∀(rE:Int) (rF:Int) (rG:Int) (rH:Int) (rI:Int) (rJ:Int) (rK:Int) (rL:Int),ts (lW a0 ah m16) a0 ah rE rF rG rH rI rJ rK rL=some r→b3 aS Ev jc (J [(0,.int .i64 a0),(1,.slice (ah.map ba)),(6,.a1 (.agg [.int .i64 rE,.int .i64 rF,.int .i64 rG,.int .i64 rH,.int .i64 rI,.int .i64 rJ])),(7,.int .i64 rK),(8,.int .i64 rL)]):=by
      intro rE rF rG rH rI rJ rK rL h
      refine wr _ ?_
      exact fv _ (.inr ⟨_,b0 rfl,zt rE rF rG rH rI rJ rK (IntKind.i64.wrap (rL+1)) h⟩)
     refine bu e9 (fun oT jg ln qc=> ?_)
     refine c_ ln (fun wk lY mL jd rR=> ?_)
     refine bu mL (fun zC oR tJ tK=> ?_)
     refine dA (cI [(0,.int .i64 a0),(1,.slice (ah.map ba)),(6,.a1 (.agg [.int .i64 jJ,.int .i64 ia,.int .i64 jK,.int .i64 ib,.int .i64 iM,.int .i64 jL])),(7,.int .i64 hD),(8,.int .i64 gC),(41,.bool (((ia==a0)&&(decide (ib<0)))&&(decide (iM<0))))] (fun P aH=> ?_) ?_)
     ·(rcases Bool.eq_false_or_eq_true (ia==a0)with z1|z1)<;>(rcases Bool.eq_false_or_eq_true (decide (ib<0))with z6|z6)<;>
       (simp only[bf.down,simprocAttr,fO,mD,ba,z1,z6]
        (try simp only[b5.down,simprocAttr,ba,z1,z6]at aH⊢);exact aH)
     refine bL h (fun qb h=> ?_) (fun qb h=> ?_)
     ·exact gL (tK 0 _ (rR 0 _ (by decide) (qc 0 _ (eE 0 _ (e6 _ (ik _ (.inr ⟨_,b0 rfl,Fw jJ ia jK ib iM jL hD gC h⟩)))))))
     ·refine bU (oR _ (.inl ?_))
      obtain⟨aG,iQ,h⟩:=bb h
      obtain⟨aU,jf,h⟩:=bb h
      obtain⟨aY,mQ,h⟩:=bb h
      refine pH rfl (ny [(0,.int .i64 a0),(1,.slice (ah.map ba)),(6,.a1 (.agg [.int .i64 aY.1,.int .i64 aY.2.1,.int .i64 aY.2.2.1,.int .i64 aY.2.2.2.1,.int .i64 aY.2.2.2.2.1,.int .i64 aY.2.2.2.2.2])),(7,.int .i64 hD),(8,.int .i64 gC)] (fun P aH=> ?_) ?_)
      ·simp only[jB.down,simprocAttr,kd.down,iQ,jf]
       refine DL [⟨.h 6 [],true,_,_⟩,⟨.int .i64 aG,false,_,.hole⟩,⟨.int .i64 aU,false,_,.hole⟩] (Wi jJ ia jK ib iM jL aG aU _ mQ) rfl rfl rfl (by simp only[jB.down,simprocAttr,kd.down,iQ,jf,kx,k8,k9,hP,hQ,hR,hk,or_true,true_or]) rfl rfl (.inl rfl) ?_
       simp only[jB.down,simprocAttr,kd.down,iQ,jf,k_]
       refine⟨mB (by kernel_rfl),?_⟩
       (try simp only[b5.down,simprocAttr,ba,iQ,jf]at aH⊢);exact aH
      refine dA (cI [(0,.int .i64 a0),(1,.slice (ah.map ba)),(6,.a1 (.agg [.int .i64 aY.1,.int .i64 aY.2.1,.int .i64 aY.2.2.1,.int .i64 aY.2.2.2.1,.int .i64 aY.2.2.2.2.1,.int .i64 aY.2.2.2.2.2])),(7,.int .i64 hD),(8,.int .i64 gC),(64,.bool ((decide (hD<0))&&(aY.2.1==a0)))] (fun P aH=> ?_) ?_)
      ·rcases Bool.eq_false_or_eq_true (decide (hD<0))with tU|tU
       ·simp only[bf.down,simprocAttr,fO,mD,ba,tU]
        (try simp only[b5.down,simprocAttr,ba,tU]at aH⊢);exact aH
       ·simp only[bf.down,simprocAttr,fO,mD,ba,tU]
        (try simp only[b5.down,simprocAttr,ba,tU]at aH⊢);exact aH
      refine bL h (fun wC h=> ?_) (fun wC h=> ?_)
      ·refine wr _ ?_
       exact lY _ (jg _ (.inr ⟨_,b0 rfl,Fx aY.1 aY.2.1 aY.2.2.1 aY.2.2.2.1 aY.2.2.2.2.1 aY.2.2.2.2.2 (IntKind.i64.wrap (gC+1)) gC h⟩))
      ·exact bU (lY _ (jg _ (.inr ⟨_,b0 rfl,Fx aY.1 aY.2.1 aY.2.2.1 aY.2.2.2.1 aY.2.2.2.2.1 aY.2.2.2.2.2 hD gC h⟩)))
    ·exact gL (fP 0 _ (eE 0 _ (e6 _ (ik _ (.inr ⟨_,b0 rfl,Fw jJ ia jK ib iM jL hD gC h⟩)))))
  obtain⟨n,h⟩:=gF h
  exact gM (.inr ⟨_,b0 rfl,zs n a0 0 0 (-1) (-1) (-1) rM 0 h⟩)
 refine bu aR (fun hW gb dQ bE=> ?_)
 refine ws _ ?_
 refine bL h (fun Fi h=> ?_) (fun Fi h=> ?_)
 ·refine wr _ ?_
  exact gb _ (.inr ⟨_,b0 rfl,Fv 0 h⟩)
 ·exact bU (gb _ (.inr ⟨_,b0 rfl,Fv (-1) h⟩))
theorem Wn (a0:List (List UInt8)) (ah:List Int) (r:Int×Int) (h:vC a0 ah=some r):br aS 10 [.slice (a0.map bg),.slice (ah.map ba)] (.tuple [.int .i64 r.1,.int .i64 r.2]) []:=by
 refine cN [0,1] [.tmp 4,.tmp 5] Tryz.func10 p2 (fun cl aR cu=> ?_)
 refine ws _ ?_
 obtain⟨aG,aL,h⟩:=bb h
 refine fg (V9 a0 ah _ aL) _ ?_
 refine bu aR (fun hW gb dQ bE=> ?_)
 refine ws _ ?_
 refine bL h (fun ft h=> ?_) (fun ft h=> ?_)
 ·refine ws _ ?_
  exact bo (dQ _ (.inl (bt [.int .i64 0,.int .i64 aG])))
 ·refine bU (gb _ (.inl ?_))
  obtain⟨aU,h2,h⟩:=bb h
  refine fg (Wm (a0.length:Int) ah _ h2) _ ?_
  refine bu aR (fun ke fh ga fP=> ?_)
  refine ws _ ?_
  refine bL h (fun gj h=> ?_) (fun gj h=> ?_)
  ·refine ws _ ?_
   exact bo (ga _ (.inl (bt [.int .i64 0,.int .i64 3])))
  ·refine bU (fh _ (.inl ?_))
   refine ws _ ?_
   exact bo (aR _ (.inl (bt [.int .i64 aU.2.2.2.2.2.2,.int .i64 0])))
theorem Fy:∀a c,lX a c=Lib.indexByte a c
 |[],_=>rfl
 |a::x,c=>by simp only[lX,Lib.indexByte,Fy x c]
theorem Wo (a0:List UInt8) (ah:UInt8) (r:Int) (h:y8 a0 ah=some r):br aS 220 [.str a0,.int .u8 ah.toNat] (.int .i64 r) []:=by
 rw[show r=Lib.indexByte a0 ah from(gd h).trans (Fy _ _)]
 exact DH Tryz.func220 (by kernel_rfl) (by kernel_rfl) (by kernel_rfl) (E:=Extern.BytealgIndexByte.indexByte) (by kernel_rfl) a0 ah _ fun w=>by
  rw[Lib.run_indexByteString,show((ah.toNat:Int).toNat).toUInt8=ah from by simp]
theorem Wp (a0:List UInt8) (ah:UInt8) (r:Int) (h:y9 a0 ah=some r):br aS 181 [.str a0,.int .u8 (ah.toNat:Int)] (.int .i64 r) []:=by
 refine cN [0,1] [.tmp 4] Tryz.func181 Pj (fun cl aR cu=> ?_)
 refine ws _ ?_
 obtain⟨aG,aL,h⟩:=bb h
 refine fg (Wo a0 ah _ aL) _ ?_
 exact bo (aR _ (.inl (bt [.int .i64 aG])))
theorem Fz (a0:List UInt8) (ah:List UInt8) (r:Int) (h:nD a0 ah=some r):br aS 256 [.str a0,.str ah] (.int .i64 r) []:=by
 refine cN [0,1] [.tmp 4] Tryz.func256 P8 (fun cl aR cu=> ?_)
 refine ws _ ?_
 refine ws _ ?_
 refine bu aR (fun tG lh fp aY=> ?_)
 refine c_ fp (fun hW gb dQ dI bE=> ?_)
 refine dA (cI [(0,.str a0),(1,.str ah),(5,.int .i64 (ah.length:Int)),(16,.bool (((ah.length:Int)==0)||(ah==a0)))] (fun P aH=> ?_) ?_)
 ·rcases Bool.eq_false_or_eq_true ((ah.length:Int)==0)with tV|tV
  ·simp only[bf.down,simprocAttr,tV]
   (try simp only[b5.down,simprocAttr,tV]at aH⊢);exact aH
  ·simp only[bf.down,simprocAttr,tV]
   (try simp only[b5.down,simprocAttr,tV]at aH⊢);exact aH
 refine bL h (fun uH h=> ?_) (fun uH h=> ?_)
 ·refine ws _ ?_
  exact bo (dQ _ (.inl (bt [.int .i64 0])))
 ·refine ws _ ?_
  refine bL h (fun gD h=> ?_) (fun gD h=> ?_)
  ·obtain⟨aG,nZ,h⟩:=bb h
   obtain⟨aU,fK,h⟩:=bb h
   refine iO nZ (Wp a0 aG _ fK) _ ?_
   exact bo (dQ _ (.inl (bt [.int .i64 aU])))
  ·refine ws _ ?_
   refine bL h (fun jd h=> ?_) (fun jd h=> ?_)
   ·refine ws _ ?_
    exact bo (dQ _ (.inl (bt [.int .i64 (-1)])))
   ·cases h
theorem Wq (a0:List UInt8) (ah:List UInt8) (r:(List UInt8)×(List UInt8)×Bool) (h:vD a0 ah=some r):br aS 252 [.str a0,.str ah] (.tuple [.str r.1,.str r.2.1,.bool r.2.2]) []:=by
 refine cN [0,1] [.tmp 4,.tmp 5,.tmp 6] Tryz.func252 Qe (fun cl aR cu=> ?_)
 refine ws _ ?_
 refine bu aR (fun hA dL cr aU=> ?_)
 obtain⟨aG,bX,h⟩:=bb h
 refine fg (Fz a0 ah _ bX) _ ?_
 refine ws _ ?_
 refine bL h (fun ft h=> ?_) (fun ft h=> ?_)
 ·obtain⟨aU,gX,h⟩:=bb h
  obtain⟨aY,h2,h⟩:=bb h
  refine pH rfl (ny [(4,.str aU),(5,.str aY),(6,.bool true)] (fun P aH=> ?_) ?_)
  ·simp only[jB.down,simprocAttr,fJ,gX,h2]
   refine⟨mB (by kernel_rfl),?_⟩
   (try simp only[b5.down,simprocAttr,gX,h2]at aH⊢);exact aH
  exact bo (cr _ (.inl (bt [.str aU,.str aY,.bool true])))
 ·refine bU (dL _ (.inl ?_))
  refine ws _ ?_
  exact bo (aR _ (.inl (bt [.str a0,.str ([]:List UInt8),.bool false])))
theorem Wr (a0:List UInt8) (ah:List UInt8) (r:(List UInt8)×(List UInt8)×Bool) (h:rN a0 ah=some r):br aS 219 [.str a0,.str ah] (.tuple [.str r.1,.str r.2.1,.bool r.2.2]) []:=by
 refine cN [0,1] [.tmp 4,.tmp 5,.tmp 6] Tryz.func219 Qh (fun cl aR cu=> ?_)
 refine ws _ ?_
 obtain⟨aG,aL,h⟩:=bb h
 refine fg (Wq a0 ah _ aL) _ ?_
 exact bo (aR _ (.inl (bt [.str aG.1,.str aG.2.1,.bool aG.2.2])))
theorem Ws (a0:List UInt8) (ah:List UInt8) (r:Bool) (h:vE a0 ah=some r):br aS 184 [.str a0,.str ah] (.bool r) []:=by
 refine cN [0,1] [.tmp 4] Tryz.func184 Qk (fun cl aR cu=> ?_)
 refine ws _ ?_
 rcases iq h with⟨iY,h⟩|⟨iY,h⟩
 ·obtain⟨aG,bX,h⟩:=bb h
  refine f_ (And.intro iY bX) _ ?_
  exact bo (aR _ (.inl (bt [.bool (aG==ah)])))
 ·refine f_ iY _ ?_
  exact bo (aR _ (.inl (bt [.bool false])))
theorem Wt (a0:List UInt8) (ah:List UInt8) (r:(List UInt8)) (h:vF a0 ah=some r):br aS 138 [.str a0,.str ah] (.str r) []:=by
 refine cN [0,1] [.tmp 4] Tryz.func138 Qp (fun cl aR cu=> ?_)
 refine ws _ ?_
 refine bu aR (fun hA dL cr aU=> ?_)
 obtain⟨aG,bX,h⟩:=bb h
 refine fg (Ws a0 ah _ bX) _ ?_
 refine bL h (fun hK h=> ?_) (fun hK h=> ?_)
 ·obtain⟨aU,bj,h⟩:=bb h
  refine f_ bj _ ?_
  exact bo (cr _ (.inl (bt [.str aU])))
 ·refine bU (dL _ (.inl ?_))
  refine ws _ ?_
  exact bo (aR _ (.inl (bt [.str a0])))
theorem Wu (a0:List UInt8) (ah:List UInt8) (r:(List UInt8)) (h:strings_TrimSuffix a0 ah=some r):br aS 91 [.str a0,.str ah] (.str r) []:=by
 refine cN [0,1] [.tmp 4] Tryz.func91 Qr (fun cl aR cu=> ?_)
 refine ws _ ?_
 obtain⟨aG,aL,h⟩:=bb h
 refine fg (Wt a0 ah _ aL) _ ?_
 exact bo (aR _ (.inl (bt [.str aG])))
theorem Wv (a0:List UInt8) (ah:UInt8) (r:Int) (h:y_ a0 ah=some r):br aS 255 [.str a0,.int .u8 ah.toNat] (.int .i64 r) []:=by
 rw[show r=((Lib.countByte a0 ah:Nat):Int)from gd h]
 exact DH Tryz.func255 (by kernel_rfl) (by kernel_rfl) (by kernel_rfl) (E:=Extern.BytealgCount.count) (by kernel_rfl) a0 ah _ fun w=>by
  rw[Lib.run_countString,show((ah.toNat:Int).toNat).toUInt8=ah from by simp]
theorem FA (a0:List UInt8) (ah:List UInt8) (r:Int) (h:tw a0 ah=some r):br aS 223 [.str a0,.str ah] (.int .i64 r) []:=by
 refine cN [0,1] [.tmp 4] Tryz.func223 Qu (fun cl aR cu=> ?_)
 refine ws _ ?_
 obtain⟨aG,aL,h⟩:=bb h
 refine fg (Fz a0 ah _ aL) _ ?_
 exact bo (aR _ (.inl (bt [.int .i64 aG])))
theorem Ww (a0:List UInt8) (ah:List UInt8) (r:Int) (h:za a0 ah=some r):br aS 222 [.str a0,.str ah] (.int .i64 r) []:=by
 refine cN [1] [.tmp 4] Tryz.func222 QI (fun cl aR cu=> ?_)
 refine ws _ ?_
 refine bu aR (fun hA dL cr aU=> ?_)
 refine ws _ ?_
 refine bL h (fun dI h=> ?_) (fun dI h=> ?_)
 ·cases h
 ·refine bU (dL _ (.inl ?_))
  refine bu aR (fun ij fw fA cK=> ?_)
  refine ws _ ?_
  refine bL h (fun e6 h=> ?_) (fun e6 h=> ?_)
  ·obtain⟨aG,jW,h⟩:=bb h
   obtain⟨aU,qm,h⟩:=bb h
   refine iO jW (Wv a0 aG _ qm) _ ?_
   exact bo (fA _ (.inl (bt [.int .i64 aU])))
  ·refine bU (fw _ (.inl ?_))
   refine ws _ ?_
   refine c_ aR (fun oT jg ln mK qc=> ?_)
   have Wx:∀(n:Nat) (lf:List UInt8) (lg:Int),vG ah n lf lg=some r→fE aS Ez oT (J [(0,.str lf),(1,.str ah),(5,.int .i64 lg)]):=by
    intro m21
    induction m21 with
    |zero=>intro lf lg h;cases(show none=some r from h)
    |succ m21 Wy=>
     intro lf lg h
     replace h:Eb (vG ah m21) ah lf lg=some r:=h
     refine gN ln (fun p6 kG ll rQ=> ?_)
     refine c_ ll (fun wk lY mL jd rR=> ?_)
     obtain⟨aY,gU,h⟩:=bb h
     refine fg (FA lf ah _ gU) _ ?_
     refine bu mL (fun VA zF wq E3=> ?_)
     refine ws _ ?_
     refine bL h (fun qb h=> ?_) (fun qb h=> ?_)
     ·refine ws _ ?_
      exact bo (wq _ (.inl (bt [.int .i64 lg])))
     ·refine bU (zF _ (.inl ?_))
      refine ws _ ?_
      obtain⟨bE,mQ,h⟩:=bb h
      refine zr mQ _ ?_
      exact lY _ (kG _ (.inr ⟨_,b0 rfl,Wy bE (IntKind.i64.wrap (lg+1)) h⟩))
   obtain⟨n,h⟩:=gF h
   exact gM (.inr ⟨_,b0 rfl,Wx n a0 0 h⟩)
theorem Wz (a0:List UInt8) (ah:List UInt8) (a2:Int) (a3:Int) (r:(List (List UInt8))) (h:zb a0 ah a2 a3=some r):br aS 182 [.str a0,.str ah,.int .i64 a2,.int .i64 a3] (.aK 1 (r.map bg)) []:=by
 refine cN [1,2] [.tmp 8] Tryz.func182 Q4 (fun cl aR cu=> ?_)
 refine ws _ ?_
 refine bu aR (fun hA dL cr aU=> ?_)
 refine ws _ ?_
 refine bL h (fun dI h=> ?_) (fun dI h=> ?_)
 ·refine ws _ ?_
  exact bo (cr _ (.inr ⟨[(8,.aK 1 [])],mv [] rfl (mx (t:=8) (d:=.bH) rfl rfl (.i_ _) (by decide) (mw)),bt [.aK 1 []]⟩))
 ·refine bU (dL _ (.inl ?_))
  refine bu aR (fun ij fw fA cK=> ?_)
  refine ws _ ?_
  refine bL h (fun e6 h=> ?_) (fun e6 h=> ?_)
  ·cases h
  ·refine bU (fw _ (.inl ?_))
   have FB:∀(e8:Int),vI a0 ah a2 e8=some r→b3 aS EC cl (J [(0,.str a0),(1,.str ah),(2,.int .i64 a2),(3,.int .i64 e8)]):=by
    intro e8 h
    refine dA (cI [(0,.str a0),(1,.str ah),(2,.int .i64 a2),(3,.int .i64 (eo false e8 (IntKind.i64.wrap ((a0.length:Int)+1))))] (fun P aH=> ?_) ?_)
    ·simp only[bf.down,simprocAttr,fJ, @vd,ve]
     (try simp only[b5.down,simprocAttr, @vd,ve]at aH⊢);exact aH
    obtain⟨ZK,fK,h⟩:=bb h
    refine dA (cI [(0,.str a0),(1,.str ah),(2,.int .i64 a2),(3,.int .i64 (eo false e8 (IntKind.i64.wrap ((a0.length:Int)+1)))),(9,.aK 1 ((List.replicate (Int.toNat (eo false e8 (IntKind.i64.wrap ((a0.length:Int)+1)))) ([]:List UInt8)).map bg))] (fun P aH=> ?_) ?_)
    ·simp only[bf.down,simprocAttr,fJ,jD,bg,(gl fK).1,(gl fK).2.1,(gl fK).2.2,eh,List.map_replicate,-Int.reduceNatCast']
     (try simp only[b5.down,simprocAttr,bg,(gl fK).1,(gl fK).2.1,(gl fK).2.2,eh,List.map_replicate,-Int.reduceNatCast']at aH⊢);exact aH
    refine ws [(0,.str a0),(1,.str ah),(2,.int .i64 a2),(3,.int .i64 (IntKind.i64.wrap ((eo false e8 (IntKind.i64.wrap ((a0.length:Int)+1)))-1))),(9,.aK 1 ((List.replicate (Int.toNat (eo false e8 (IntKind.i64.wrap ((a0.length:Int)+1)))) ([]:List UInt8)).map bg))] ?_
    refine ws [(0,.str a0),(1,.str ah),(2,.int .i64 a2),(3,.int .i64 (IntKind.i64.wrap ((eo false e8 (IntKind.i64.wrap ((a0.length:Int)+1)))-1))),(9,.aK 1 ((List.replicate (Int.toNat (eo false e8 (IntKind.i64.wrap ((a0.length:Int)+1)))) ([]:List UInt8)).map bg)),(10,.int .i64 0)] ?_
    have FC:∀(rO:List UInt8) (pR:List (List UInt8)) (nE:Int),tx a0 ah a2 e8 rO pR nE=some r→b3 aS EB cl (J [(0,.str rO),(1,.str ah),(2,.int .i64 a2),(3,.int .i64 (IntKind.i64.wrap ((eo false e8 (IntKind.i64.wrap ((a0.length:Int)+1)))-1))),(9,.aK 1 (pR.map bg)),(10,.int .i64 nE)]):=by
     intro rO pR nE h
     obtain⟨aG,lZ,h⟩:=bb h
     refine dA (cI [(9,.aK 1 ((List.set pR (Int.toNat nE) rO).map bg)),(10,.int .i64 nE)] (fun P aH=> ?_) ?_)
     ·simp only[bf.down,simprocAttr,fJ,jD,bg,lZ,kK lZ,lQ,hj]
      (try simp only[b5.down,simprocAttr,bg,lZ,kK lZ,lQ,hj]at aH⊢);exact aH
     obtain⟨aU,mP,h⟩:=bb h
     refine dA (cI [(8,.aK 1 (aU.map bg))] (fun P aH=> ?_) ?_)
     ·simp only[bf.down,simprocAttr,fJ,jD,bg,mP,(fun s y q=>(va aS s 22 y q).1),(fun s y q=>(va aS s 22 y q).2.1),oz]
      (try simp only[b5.down,simprocAttr,bg,mP,(fun s y q=>(va aS s 22 y q).1),(fun s y q=>(va aS s 22 y q).2.1),oz]at aH⊢);exact aH
     exact bo (aR _ (.inl (bt [.aK 1 (aU.map bg)])))
    refine bu aR (fun zC oR tJ tK=> ?_)
    refine c_ tJ (fun Fk Fl zU rU V_=> ?_)
    have WA:∀(n:Nat) (ic:List UInt8) (hE:List (List UInt8)) (fZ:Int),oH a0 ah a2 e8 n ic hE fZ=some r→fE aS EA Fk (J [(0,.str ic),(1,.str ah),(2,.int .i64 a2),(3,.int .i64 (IntKind.i64.wrap ((eo false e8 (IntKind.i64.wrap ((a0.length:Int)+1)))-1))),(9,.aK 1 (hE.map bg)),(10,.int .i64 fZ)]):=by
     intro z7
     induction z7 with
     |zero=>intro ic hE fZ h;cases(show none=some r from h)
     |succ z7 WB=>
      intro ic hE fZ h
      replace h:vH (oH a0 ah a2 e8 z7) a0 ah a2 e8 ic hE fZ=some r:=h
      refine gN zU (fun E4 tL rV wt=> ?_)
      refine bu rV (fun E5 tM wu zG=> ?_)
      refine ws _ ?_
      refine bL h (fun zY h=> ?_) (fun zY h=> ?_)
      ·refine bU (tM _ (.inl ?_))
       refine c_ rV (fun V3 zO Fg rS zP=> ?_)
       obtain⟨aY,WC,h⟩:=bb h
       refine fg (FA ic ah _ WC) _ ?_
       refine bu Fg (fun Fh tO zQ wz=> ?_)
       refine ws _ ?_
       refine bL h (fun zX h=> ?_) (fun zX h=> ?_)
       ·exact gL (wz 0 _ (zP 0 _ (by decide) (wt 0 _ (rU _ (oR _ (.inr ⟨_,b0 rfl,FC ic hE fZ h⟩))))))
       ·refine bU (tO _ (.inl ?_))
        obtain⟨bE,wA,h⟩:=bb h
        obtain⟨cc,wG,h⟩:=bb h
        refine dA (cI [(0,.str ic),(1,.str ah),(2,.int .i64 a2),(3,.int .i64 (IntKind.i64.wrap ((eo false e8 (IntKind.i64.wrap ((a0.length:Int)+1)))-1))),(9,.aK 1 ((List.set hE (Int.toNat fZ) bE).map bg)),(10,.int .i64 fZ),(11,.int .i64 aY)] (fun P aH=> ?_) ?_)
        ·simp only[bf.down,simprocAttr,fJ,jD,bg,wA,wG,kK wG,lQ,hj,(show(List.map bg hE).set (Int.toNat fZ) (.str bE)=List.map bg (List.set hE (Int.toNat fZ) bE)from(List.map_set ..).symm)]
         (try simp only[b5.down,simprocAttr,bg,wA,wG,kK wG,lQ,hj]at aH⊢);exact aH
        obtain⟨cK,qf,h⟩:=bb h
        refine f_ qf [(0,.str cK),(1,.str ah),(2,.int .i64 a2),(3,.int .i64 (IntKind.i64.wrap ((eo false e8 (IntKind.i64.wrap ((a0.length:Int)+1)))-1))),(9,.aK 1 ((List.set hE (Int.toNat fZ) bE).map bg)),(10,.int .i64 fZ)] ?_
        refine wr [(0,.str cK),(1,.str ah),(2,.int .i64 a2),(3,.int .i64 (IntKind.i64.wrap ((eo false e8 (IntKind.i64.wrap ((a0.length:Int)+1)))-1))),(9,.aK 1 ((List.set hE (Int.toNat fZ) bE).map bg)),(10,.int .i64 (IntKind.i64.wrap (fZ+1)))] ?_
        exact zO _ (tL _ (.inr ⟨_,b0 rfl,WB cK (List.set hE (Int.toNat fZ) bE) (IntKind.i64.wrap (fZ+1)) h⟩))
      ·exact gL (zG 0 _ (wt 0 _ (rU _ (oR _ (.inr ⟨_,b0 rfl,FC ic hE fZ h⟩)))))
    obtain⟨n,h⟩:=gF h
    exact gM (.inr ⟨_,b0 rfl,WA n a0 (List.replicate (Int.toNat (eo false e8 (IntKind.i64.wrap ((a0.length:Int)+1)))) ([]:List UInt8)) 0 h⟩)
   refine bu aR (fun ke fh ga fP=> ?_)
   refine ws _ ?_
   refine bL h (fun zS h=> ?_) (fun zS h=> ?_)
   ·obtain⟨dm,WD,h⟩:=bb h
    refine EX (Ww a0 ah _ WD) _ ?_
    exact fh _ (.inr ⟨_,b0 rfl,FB (IntKind.i64.wrap (dm+1)) h⟩)
   ·exact bU (fh _ (.inr ⟨_,b0 rfl,FB a3 h⟩))
theorem WE (a0:List UInt8) (ah:List UInt8) (r:(List (List UInt8))) (h:vJ a0 ah=some r):br aS 135 [.str a0,.str ah] (.aK 1 (r.map bg)) []:=by
 refine cN [0,1] [.tmp 4] Tryz.func135 Q7 (fun cl aR cu=> ?_)
 refine ws _ ?_
 obtain⟨aG,aL,h⟩:=bb h
 refine fg (Wz a0 ah 0 (-1) _ aL) _ ?_
 exact bo (aR _ (.inl (bt [.aK 1 (aG.map bg)])))
theorem WG (a0:List UInt8) (r:Int×Bool) (h:vK a0=some r):br aS 183 [.str a0] (.tuple [.int .i64 r.1,.bool r.2]) []:=Vl a0 r h
theorem WH (a0:List (List UInt8)) (r:(List Int)×Bool) (h:vM a0=some r):br aS 136 [.slice (a0.map bg)] (.tuple [.aK 1 (r.1.map ba),.bool r.2]) []:=by
 refine cN [0] [.tmp 2,.tmp 3] Tryz.func136 Rk (fun cl aR cu=> ?_)
 refine ws _ ?_
 refine ws _ ?_
 refine bu aR (fun tG lh fp aY=> ?_)
 refine ws _ ?_
 refine c_ fp (fun mN ik gq hK cc=> ?_)
 have p7:∀(n:Nat) (c1:List Int) (kb:Int),pS a0 n c1 kb=some r→fE aS ED mN (J [(4,.aK 1 (c1.map ba)),(9,.slice (a0.map bg)),(10,.int .i64 (a0.length:Int)),(11,.int .i64 kb)]):=by
  intro m8
  induction m8 with
  |zero=>intro c1 kb h;cases(show none=some r from h)
  |succ m8 p8=>
   intro c1 kb h
   replace h:vL (pS a0 m8) a0 c1 kb=some r:=h
   refine gN gq (fun ij fw fA cK=> ?_)
   refine ws _ ?_
   refine bu fA (fun kf hX je hl=> ?_)
   refine bL h (fun tH h=> ?_) (fun tH h=> ?_)
   ·refine bU (hX _ (.inl ?_))
    refine bu fA (fun ke fh ga fP=> ?_)
    refine c_ ga (fun tI lk mJ il mH=> ?_)
    obtain⟨aG,fK,h⟩:=bb h
    refine f_ fK _ ?_
    obtain⟨aU,gV,h⟩:=bb h
    refine fg (WG aG _ gV) _ ?_
    refine bu mJ (fun zC oR tJ tK=> ?_)
    refine ws _ ?_
    refine bL h (fun kH h=> ?_) (fun kH h=> ?_)
    ·refine ws _ ?_
     exact bo (tJ _ (.inr ⟨[(2,.aK 1 []),(3,.bool false)],mv [] rfl (mx (t:=2) (d:=.bH) rfl rfl (.i_ _) (by decide) (j5 rfl (mw))),bt [.aK 1 [],.bool false]⟩))
    ·refine bU (oR _ (.inl ?_))
     obtain⟨ZL,oU,h⟩:=bb h
     (try simp only[p4.down,Nat.reduceAdd]at oU)
     refine iK (cI [(4,.aK 1 ((c1++[aU.1]).map ba)),(9,.slice (a0.map bg)),(10,.int .i64 (a0.length:Int)),(11,.int .i64 kb)] (fun P aH=> ?_) ?_)
     ·simp only[bf.down,simprocAttr,fO,tf,ba,bg,(show∀s,df aS s 23 1 [(0,.int .i64 aU.1)]=some (.aK 1 [.int .i64 aU.1],s)from fun s=>by kernel_rfl), @oq aS 23 23 2 rfl rfl,ot,ou,ov,all_cons,all_nil,oU, @oo _ ba 1 (fun _=>rfl)]
      (try simp only[b5.down,simprocAttr,eK.down,(show∀s,df aS s 23 1 [(0,.int .i64 aU.1)]=some (.aK 1 [.int .i64 aU.1],s)from fun s=>by kernel_rfl), @oq aS 23 23 2 rfl rfl,ot,ou,ov,all_cons,all_nil,oU, @oo _ ba 1 (fun _=>rfl)]at aH⊢);exact aH
     refine lk _ (fh _ (.inl ?_))
     refine wr [(4,.aK 1 ((c1++[aU.1]).map ba)),(9,.slice (a0.map bg)),(10,.int .i64 (a0.length:Int)),(11,.int .i64 (IntKind.i64.wrap (kb+1)))] ?_
     exact fw _ (.inr ⟨_,b0 rfl,p8 (c1++[aU.1]) (IntKind.i64.wrap (kb+1)) h⟩)
   ·refine gL (hl 0 _ (cK 0 _ (hK _ (lh _ (.inl ?_)))))
    refine ws _ ?_
    exact bo (aR _ (.inl (bt [.aK 1 (c1.map ba),.bool true])))
 obtain⟨n,h⟩:=gF h
 exact gM (.inr ⟨_,mv [] rfl (mx (t:=4) (d:=.bH) (aV:=.aK 1 []) rfl rfl (.i_ _) (by decide) (j5 (t:=9) (d:=.slice (a0.map bg)) rfl (j5 (t:=10) (d:=.int .i64 (a0.length:Int)) rfl (j5 (t:=11) (d:=.int .i64 0) rfl (mw))))),p7 n [] 0 h⟩)
theorem WI (a0:UInt8) (r:Bool) (h:zc a0=some r):br aS 195 [.int .u8 (a0.toNat:Int)] (.bool r) []:=by
 refine cN [0] [.tmp 2] Tryz.func195 Rn (fun cl aR cu=> ?_)
 refine ws _ ?_
 refine dA (cI [(2,.bool ((decide (48≤(a0.toNat:Int)))&&(decide ((a0.toNat:Int)≤57))))] (fun P aH=> ?_) ?_)
 ·rcases Bool.eq_false_or_eq_true (decide (48≤(a0.toNat:Int)))with eI|eI
  ·simp only[bf.down,simprocAttr,eI]
   (try simp only[b5.down,simprocAttr,eI]at aH⊢);exact aH
  ·simp only[bf.down,simprocAttr,eI]
   (try simp only[b5.down,simprocAttr,eI]at aH⊢);exact aH
 exact bo (aR _ (.inl (bt [.bool ((decide (48≤(a0.toNat:Int)))&&(decide ((a0.toNat:Int)≤57)))])))
theorem FD (a0:List UInt8) (r:Bool) (h:vN a0=some r):br aS 155 [.str a0] (.bool r) []:=by
 refine cN [0] [.tmp 2] Tryz.func155 Rz (fun cl aR cu=> ?_)
 refine ws _ ?_
 refine bu aR (fun hA dL cr aU=> ?_)
 refine ws _ ?_
 refine c_ cr (fun hW gb dQ dI bE=> ?_)
 have nN:∀(n:Nat) (ie:Int),nF a0 n ie=some r→fE aS EE hW (J [(0,.str a0),(6,.int .i64 (a0.length:Int)),(7,.int .i64 ie)]):=by
  intro m6
  induction m6 with
  |zero=>intro ie h;cases(show none=some r from h)
  |succ m6 mM=>
   intro ie h
   replace h:tz (nF a0 m6) a0 ie=some r:=h
   refine gN dQ (fun mN ik gq cc=> ?_)
   refine ws _ ?_
   refine bu gq (fun lj fR gG dm=> ?_)
   refine bL h (fun e6 h=> ?_) (fun e6 h=> ?_)
   ·refine bU (fR _ (.inl ?_))
    refine bu gq (fun jc fv e9 eE=> ?_)
    refine c_ e9 (fun ke fh ga gD fP=> ?_)
    refine ws _ ?_
    obtain⟨aG,fK,h⟩:=bb h
    refine dA (cI [(0,.str a0),(3,.int .i64 ie),(4,.bool ((decide (97≤(aG.toNat:Int)))&&(decide ((aG.toNat:Int)≤122)))),(6,.int .i64 (a0.length:Int)),(7,.int .i64 ie)] (fun P aH=> ?_) ?_)
    ·rcases Bool.eq_false_or_eq_true (decide (97≤(aG.toNat:Int)))with p3|p3
     ·simp only[bf.down,simprocAttr,fJ,fK,p3]
      (try simp only[b5.down,simprocAttr,fK,p3]at aH⊢);exact aH
     ·simp only[bf.down,simprocAttr,fJ,fK,p3]
      (try simp only[b5.down,simprocAttr,fK,p3]at aH⊢);exact aH
    rcases iq h with⟨mO,h⟩|⟨mO,h⟩
    ·rcases iq h with⟨qd,h⟩|⟨qd,h⟩
     ·refine f_ (And.intro mO qd) _ ?_
      refine k6 rfl ?_
      refine ws _ ?_
      exact bo (ga _ (.inl (bt [.bool false])))
     ·obtain⟨aU,nO,h⟩:=bb h
      refine dA (cI [(0,.str a0),(6,.int .i64 (a0.length:Int)),(7,.int .i64 ie),(32,.bool (!aU))] (fun P aH=> ?_) ?_)
      ·simp only[bf.down,simprocAttr,fJ,mO,qd,fK]
       refine pI (WI aG _ nO) rfl rfl rfl rfl (.inl (by rfl)) ?_
       simp only[bf.down,simprocAttr,fJ,mO,qd,fK]
       (try simp only[b5.down,simprocAttr,mO,qd,fK]at aH⊢);exact aH
      refine bL h (fun qb h=> ?_) (fun qb h=> ?_)
      ·refine ws _ ?_
       exact bo (ga _ (.inl (bt [.bool false])))
      ·refine bU (fh _ (fv _ (.inl ?_)))
       refine wr _ ?_
       exact ik _ (.inr ⟨_,b0 rfl,mM (IntKind.i64.wrap (ie+1)) h⟩)
    ·refine f_ mO _ ?_
     refine s_ rfl ?_
     refine bU (fh _ (fv _ (.inl ?_)))
     refine wr _ ?_
     exact ik _ (.inr ⟨_,b0 rfl,mM (IntKind.i64.wrap (ie+1)) h⟩)
   ·refine gL (dm 0 _ (cc 0 _ (dI _ (dL _ (.inl ?_)))))
    refine dA (cI [(2,.bool ((decide (1≤(a0.length:Int)))&&(decide ((a0.length:Int)≤10))))] (fun P aH=> ?_) ?_)
    ·rcases Bool.eq_false_or_eq_true (decide (1≤(a0.length:Int)))with l0|l0
     ·simp only[bf.down,simprocAttr,fJ,l0]
      (try simp only[b5.down,simprocAttr,l0]at aH⊢);exact aH
     ·simp only[bf.down,simprocAttr,fJ,l0]
      (try simp only[b5.down,simprocAttr,l0]at aH⊢);exact aH
    exact bo (aR _ (.inl (bt [.bool ((decide (1≤(a0.length:Int)))&&(decide ((a0.length:Int)≤10)))])))
 obtain⟨n,h⟩:=gF h
 exact gM (.inr ⟨_,b0 rfl,nN n 0 h⟩)
theorem z8 (a0:List UInt8) (r:Bool) (h:vO a0=some r):br aS 203 [.str a0] (.bool r) []:=by
 refine cN [0] [.tmp 2] Tryz.func203 RB (fun cl aR cu=> ?_)
 refine ws _ ?_
 obtain⟨aG,aL,h⟩:=bb h
 refine dA (cI [(2,.bool (aG&&(!(a0==([116,97,117]:List UInt8)))))] (fun P aH=> ?_) ?_)
 ·rcases Bool.eq_false_or_eq_true (aG)with i1|i1
  ·simp only[bf.down,simprocAttr,i1]
   refine gi (FD a0 _ aL) rfl rfl rfl rfl (.inl (by rfl)) ?_
   simp only[bf.down,simprocAttr,i1]
   (try simp only[b5.down,simprocAttr,i1]at aH⊢);exact aH
  ·simp only[bf.down,simprocAttr,i1]
   refine gi (FD a0 _ aL) rfl rfl rfl rfl (.inl (by rfl)) ?_
   simp only[bf.down,simprocAttr,i1]
   (try simp only[b5.down,simprocAttr,i1]at aH⊢);exact aH
 exact bo (aR _ (.inl (bt [.bool (aG&&(!(a0==([116,97,117]:List UInt8))))])))
theorem FE (a0:Int) (ah:Int) (a2:Int) (r:Bool) (h:tA a0 ah a2=some r):br aS 86 [.int .i64 a0,.int .i64 ah,.int .i64 a2] (.bool r) []:=by
 refine cN [0,1,2] [.tmp 6] Tryz.func86 RE (fun cl aR cu=> ?_)
 refine ws _ ?_
 refine dA (cI [(6,.bool ((decide (ah≤a0))&&(decide (a0≤a2))))] (fun P aH=> ?_) ?_)
 ·rcases Bool.eq_false_or_eq_true (decide (ah≤a0))with eI|eI
  ·simp only[bf.down,simprocAttr,eI]
   (try simp only[b5.down,simprocAttr,eI]at aH⊢);exact aH
  ·simp only[bf.down,simprocAttr,eI]
   (try simp only[b5.down,simprocAttr,eI]at aH⊢);exact aH
 exact bo (aR _ (.inl (bt [.bool ((decide (ah≤a0))&&(decide (a0≤a2)))])))
theorem WJ (a0:Int) (r:Bool) (h:zd a0=some r):br aS 202 [.int .i64 a0] (.bool r) []:=by
 refine cN [0] [.tmp 2] Tryz.func202 RH (fun cl aR cu=> ?_)
 refine ws _ ?_
 obtain⟨aG,aL,h⟩:=bb h
 refine fg (FE a0 0 63 _ aL) _ ?_
 exact bo (aR _ (.inl (bt [.bool aG])))
theorem WK (a0:Int) (r:Bool) (h:ze a0=some r):br aS 201 [.int .i64 a0] (.bool r) []:=by
 refine cN [0] [.tmp 2] Tryz.func201 RJ (fun cl aR cu=> ?_)
 refine ws _ ?_
 obtain⟨aG,aL,h⟩:=bb h
 refine fg (WJ a0 _ aL) _ ?_
 exact bo (aR _ (.inl (bt [.bool (!aG)])))
theorem WL (a0:List Int) (r:Int) (h:zf a0=some r):br aS 126 [.slice (a0.map ba),.fn 201 []] (.int .i64 r) []:=by
 refine cN [0,1] [.tmp 4] Tryz.func126 RU (fun cl aR cu=> ?_)
 refine ws _ ?_
 refine bu aR (fun hA dL cr aU=> ?_)
 refine ws _ ?_
 refine c_ cr (fun hW gb dQ dI bE=> ?_)
 have nN:∀(n:Nat) (dO:Int),pT a0 n dO=some r→fE aS EF hW (J [(0,.slice (a0.map ba)),(1,.fn 201 []),(7,.int .i64 (a0.length:Int)),(8,.int .i64 dO)]):=by
  intro m6
  induction m6 with
  |zero=>intro dO h;cases(show none=some r from h)
  |succ m6 mM=>
   intro dO h
   replace h:vP (pT a0 m6) a0 dO=some r:=h
   refine gN dQ (fun mN ik gq cc=> ?_)
   refine ws _ ?_
   refine bu gq (fun lj fR gG dm=> ?_)
   refine bL h (fun e6 h=> ?_) (fun e6 h=> ?_)
   ·refine bU (fR _ (.inl ?_))
    refine bu gq (fun jc fv e9 eE=> ?_)
    refine c_ e9 (fun ke fh ga gD fP=> ?_)
    refine ws _ ?_
    obtain⟨aG,fK,h⟩:=bb h
    obtain⟨aU,iP,h⟩:=bb h
    refine iO fK (WK aG _ iP) _ ?_
    refine bL h (fun jd h=> ?_) (fun jd h=> ?_)
    ·refine ws _ ?_
     exact bo (ga _ (.inl (bt [.int .i64 dO])))
    ·refine bU (fh _ (fv _ (.inl ?_)))
     refine wr _ ?_
     exact ik _ (.inr ⟨_,b0 rfl,mM (IntKind.i64.wrap (dO+1)) h⟩)
   ·refine gL (dm 0 _ (cc 0 _ (dI _ (dL _ (.inl ?_)))))
    refine ws _ ?_
    exact bo (aR _ (.inl (bt [.int .i64 (-1)])))
 obtain⟨n,h⟩:=gF h
 exact gM (.inr ⟨_,b0 rfl,nN n 0 h⟩)
theorem WM (a0:List Int) (r:Bool) (h:zg a0=some r):br aS 84 [.slice (a0.map ba),.fn 201 []] (.bool r) []:=by
 refine cN [0,1] [.tmp 4] Tryz.func84 RX (fun cl aR cu=> ?_)
 refine ws _ ?_
 obtain⟨aG,aL,h⟩:=bb h
 refine fg (WL a0 _ aL) _ ?_
 exact bo (aR _ (.inl (bt [.bool (decide (0≤aG))])))
theorem WN (a0:List Int) (r:Bool) (h:vQ a0=some r):br aS 160 [.slice (a0.map ba)] (.bool r) []:=by
 refine cN [0] [.tmp 2] Tryz.func160 RZ (fun cl aR cu=> ?_)
 refine ws _ ?_
 obtain⟨aG,aL,h⟩:=bb h
 refine fg (WM a0 _ aL) _ ?_
 exact bo (aR _ (.inl (bt [.bool (!aG)])))
theorem WO (a0 ah:Int) (r:List UInt8) (h:tB a0 ah=some r):br aS 185 [.int .i64 a0,.int .i64 ah] (.str r) []:=U_ a0 ah r h
theorem WQ (a0:Int) (r:(List UInt8)) (h:tC a0=some r):br aS 141 [.int .i64 a0] (.str r) []:=by
 refine cN [0] [.tmp 2] Tryz.func141 R1 (fun cl aR cu=> ?_)
 refine ws _ ?_
 obtain⟨aG,aL,h⟩:=bb h
 refine fg (WO a0 10 _ aL) _ ?_
 exact bo (aR _ (.inl (bt [.str aG])))
theorem WR (a0:List (List UInt8)) (ah:List UInt8) (r:List UInt8) (h:strings_Join a0 ah=some r):br aS 117 [.slice (a0.map bg),.str ah] (.str r) []:=Va a0 ah r h
theorem WS (a0:List Int) (ah:List UInt8) (r:(List UInt8)) (h:vS a0 ah=some r):br aS 139 [.slice (a0.map ba),.str ah] (.str r) []:=by
 refine cN [0,1] [.tmp 4] Tryz.func139 R_ (fun cl aR cu=> ?_)
 refine ws _ ?_
 obtain⟨Vw,aL,h⟩:=bb h
 refine dA (cI [(0,.slice (a0.map ba)),(1,.str ah),(5,.aK 1 ((List.replicate (Int.toNat (a0.length:Int)) ([]:List UInt8)).map bg))] (fun P aH=> ?_) ?_)
 ·simp only[bf.down,simprocAttr,fO,fJ,jD,tf,ba,bg,(gl aL).1,(gl aL).2.1,(gl aL).2.2,eh,List.map_replicate,-Int.reduceNatCast']
  (try simp only[b5.down,simprocAttr,eK.down,(gl aL).1,(gl aL).2.1,(gl aL).2.2,eh,List.map_replicate,-Int.reduceNatCast']at aH⊢);exact aH
 refine bu aR (fun hW gb dQ bE=> ?_)
 refine ws [(1,.str ah),(5,.aK 1 ((List.replicate (Int.toNat (a0.length:Int)) ([]:List UInt8)).map bg)),(11,.slice (a0.map ba)),(12,.int .i64 (a0.length:Int)),(13,.int .i64 0)] ?_
 refine c_ dQ (fun ij fw fA ft cK=> ?_)
 have p7:∀(n:Nat) (jM:List (List UInt8)) (hV:Int),pU a0 ah n jM hV=some r→fE aS EG ij (J [(1,.str ah),(5,.aK 1 (jM.map bg)),(11,.slice (a0.map ba)),(12,.int .i64 (a0.length:Int)),(13,.int .i64 hV)]):=by
  intro m8
  induction m8 with
  |zero=>intro jM hV h;cases(show none=some r from h)
  |succ m8 p8=>
   intro jM hV h
   replace h:vR (pU a0 ah m8) a0 ah jM hV=some r:=h
   refine gN fA (fun lj fR gG dm=> ?_)
   refine ws _ ?_
   refine bu gG (fun jc fv e9 eE=> ?_)
   refine bL h (fun gD h=> ?_) (fun gD h=> ?_)
   ·refine bU (fv _ (.inl ?_))
    refine bu gG (fun tI lk mJ mH=> ?_)
    refine c_ mJ (fun zw p9 wm gj zx=> ?_)
    obtain⟨aG,iP,h⟩:=bb h
    refine f_ iP _ ?_
    obtain⟨aU,im,h⟩:=bb h
    obtain⟨aY,gU,h⟩:=bb h
    refine iK (cI [(1,.str ah),(5,.aK 1 ((List.set jM (Int.toNat hV) aU).map bg)),(11,.slice (a0.map ba)),(12,.int .i64 (a0.length:Int)),(13,.int .i64 hV)] (fun P aH=> ?_) ?_)
    ·simp only[bf.down,simprocAttr,fJ,jD,ba,bg,gU,kK gU,lQ,hj]
     refine gi (WQ aG _ im) rfl rfl rfl rfl (.inl (by rfl)) ?_
     simp only[bf.down,simprocAttr,fJ,jD,ba,bg,gU,kK gU,lQ,hj]
     (try simp only[b5.down,simprocAttr,eK.down,gU,kK gU,lQ,hj]at aH⊢);exact aH
    refine p9 _ (lk _ (.inl ?_))
    refine wr [(1,.str ah),(5,.aK 1 ((List.set jM (Int.toNat hV) aU).map bg)),(11,.slice (a0.map ba)),(12,.int .i64 (a0.length:Int)),(13,.int .i64 (IntKind.i64.wrap (hV+1)))] ?_
    exact fR _ (.inr ⟨_,b0 rfl,p8 (List.set jM (Int.toNat hV) aU) (IntKind.i64.wrap (hV+1)) h⟩)
   ·refine gL (eE 0 _ (dm 0 _ (ft _ (gb _ (.inl ?_)))))
    obtain⟨bE,mP,h⟩:=bb h
    refine dA (cI [(4,.str bE)] (fun P aH=> ?_) ?_)
    ·simp only[bf.down,simprocAttr,eK.down]
     refine gi (WR jM ah _ mP) rfl rfl (by simp only[bf.down,simprocAttr,eK.down,hP,hQ,hR,hk, @lP _ bg bg (fun _=>rP _)]<;>rfl) rfl (.inr (by rfl)) ?_
     simp only[bf.down,simprocAttr,eK.down]
     (try simp only[b5.down,simprocAttr,eK.down]at aH⊢);exact aH
    exact bo (aR _ (.inl (bt [.str bE])))
 obtain⟨n,h⟩:=gF h
 exact gM (.inr ⟨_,b0 rfl,p7 n (List.replicate (Int.toNat (a0.length:Int)) ([]:List UInt8)) 0 h⟩)
theorem WT (a0:List UInt8) (ah:List Int) (r:(List UInt8)×Bool) (h:vT a0 ah=some r):br aS 161 [.str a0,.slice (ah.map ba)] (.tuple [.str r.1,.bool r.2]) []:=by
 refine cN [0,1] [.tmp 4,.tmp 5] Tryz.func161 Sl (fun cl aR cu=> ?_)
 refine ws _ ?_
 refine bu aR (fun hA dL cr aU=> ?_)
 refine c_ cr (fun tG lh fp iY aY=> ?_)
 refine ws _ ?_
 refine bL h (fun hK h=> ?_) (fun hK h=> ?_)
 ·refine ws _ ?_
  exact bo (fp _ (.inl (bt [.str ([116,97,117]:List UInt8),.bool ((ah.length:Int)==0)])))
 ·obtain⟨aU,h2,h⟩:=bb h
  rcases iq h with⟨gD,h⟩|⟨gD,h⟩
  ·refine iO (pN gD) (z8 a0 _ h2) _ ?_
   refine k6 rfl ?_
   refine ws _ ?_
   exact bo (fp _ (.inl (bt [.str ([]:List UInt8),.bool false])))
  ·rcases iq h with⟨gj,h⟩|⟨gj,h⟩
   ·refine iO (And.intro (mC gD) gj) (z8 a0 _ h2) _ ?_
    refine k6 rfl ?_
    refine ws _ ?_
    exact bo (fp _ (.inl (bt [.str ([]:List UInt8),.bool false])))
   ·obtain⟨aY,iP,h⟩:=bb h
    refine dA (cI [(0,.str a0),(1,.slice (ah.map ba)),(12,.bool (!aY))] (fun P aH=> ?_) ?_)
    ·simp only[bf.down,simprocAttr,kd.down,(mC gD),gj]
     refine gi (z8 a0 _ h2) rfl rfl rfl rfl (.inl (by rfl)) ?_
     simp only[bf.down,simprocAttr,kd.down,(mC gD),gj]
     refine pI (WN ah _ iP) rfl rfl rfl rfl (.inl (by rfl)) ?_
     simp only[bf.down,simprocAttr,kd.down,(mC gD),gj]
     (try simp only[b5.down,simprocAttr,ba,(mC gD),gj]at aH⊢);exact aH
    refine bL h (fun jd h=> ?_) (fun jd h=> ?_)
    ·refine ws _ ?_
     exact bo (fp _ (.inl (bt [.str ([]:List UInt8),.bool false])))
    ·refine ws _ ?_
     refine bL h (fun kH h=> ?_) (fun kH h=> ?_)
     ·refine ws _ ?_
      exact bo (fp _ (.inl (bt [.str a0,.bool true])))
     ·refine bU (lh _ (dL _ (.inl ?_)))
      obtain⟨FF,oU,h⟩:=bb h
      (try simp only[p4.down,Nat.reduceAdd]at oU)
      obtain⟨bE,iQ,h⟩:=bb h
      obtain⟨FF,jf,h⟩:=bb h
      (try simp only[p4.down,Nat.reduceAdd]at jf)
      obtain⟨FF,mQ,h⟩:=bb h
      (try simp only[p4.down,Nat.reduceAdd]at mQ)
      refine dA (cI [(4,.str (((a0++([40]:List UInt8))++bE)++([41]:List UInt8))),(5,.bool true)] (fun P aH=> ?_) ?_)
      ·simp only[bf.down,simprocAttr,ba,oU,yJ,yK,jf,mQ]
       refine gi (WS ah ([44]:List UInt8) _ iQ) rfl rfl rfl rfl (.inl (by rfl)) ?_
       simp only[bf.down,simprocAttr,ba,oU,yJ,yK,jf,mQ]
       (try simp only[b5.down,simprocAttr,ba,oU,yJ,yK,jf,mQ]at aH⊢);exact aH
      exact bo (aR _ (.inl (bt [.str (((a0++([40]:List UInt8))++bE)++([41]:List UInt8)),.bool true])))
theorem WU (a0:List UInt8) (r:(List UInt8)×(List Int)×Bool) (h:vU a0=some r):br aS 179 [.str a0] (.tuple [.str r.1,.aK 1 (r.2.1.map ba),.bool r.2.2]) []:=by
 refine cN [0] [.tmp 2,.tmp 3,.tmp 4] Tryz.func179 SC (fun cl aR cu=> ?_)
 refine ws _ ?_
 obtain⟨aG,aL,h⟩:=bb h
 refine fg (Wr a0 ([40]:List UInt8) _ aL) _ ?_
 refine ws _ ?_
 have tR:∀(mF:List Int),tD a0 aG mF=some r→b3 aS EH cl (J [(0,.str a0),(5,.str aG.1),(8,.aK 1 (mF.map ba))]):=by
  intro mF h
  refine bu aR (fun ij fw fA cK=> ?_)
  obtain⟨aU,gX,h⟩:=bb h
  refine dA (cI [(0,.str a0),(5,.str aG.1),(8,.aK 1 (mF.map ba)),(10,.str aU.1),(11,.bool aU.2)] (fun P aH=> ?_) ?_)
  ·simp only[bf.down,simprocAttr,ba]
   refine gi (WT aG.1 mF _ gX) rfl rfl (by simp only[bf.down,simprocAttr,ba,hP,hQ,hR,hk, @lP _ ba ba (fun _=>tF _)]<;>rfl) rfl (.inr (by rfl)) ?_
   simp only[bf.down,simprocAttr,ba]
   (try simp only[b5.down,simprocAttr,ba]at aH⊢);exact aH
  refine dA (cI [(5,.str aG.1),(8,.aK 1 (mF.map ba)),(40,.bool ((!aU.2)||(!(aU.1==a0))))] (fun P aH=> ?_) ?_)
  ·rcases Bool.eq_false_or_eq_true (aU.2)with p2|p2
   ·simp only[bf.down,simprocAttr,ba,p2]
    (try simp only[b5.down,simprocAttr,ba,p2]at aH⊢);exact aH
   ·simp only[bf.down,simprocAttr,ba,p2]
    (try simp only[b5.down,simprocAttr,ba,p2]at aH⊢);exact aH
  refine bL h (fun il h=> ?_) (fun il h=> ?_)
  ·refine ws _ ?_
   exact bo (fA _ (.inr ⟨[(2,.str ([]:List UInt8)),(3,.aK 1 []),(4,.bool false)],mv [] rfl (j5 rfl (mx (t:=3) (d:=.bH) rfl rfl (.i_ _) (by decide) (j5 rfl (mw)))),bt [.str ([]:List UInt8),.aK 1 [],.bool false]⟩))
  ·refine bU (fw _ (.inl ?_))
   refine ws _ ?_
   exact bo (aR _ (.inl (bt [.str aG.1,.aK 1 (mF.map ba),.bool true])))
 refine bu aR (fun mN ik gq cc=> ?_)
 refine ws _ ?_
 refine bL h (fun jd h=> ?_) (fun jd h=> ?_)
 ·refine ws _ ?_
  obtain⟨aY,lZ,h⟩:=bb h
  obtain⟨bE,nO,h⟩:=bb h
  obtain⟨cc,mP,h⟩:=bb h
  refine dA (cI [(0,.str a0),(5,.str aG.1),(8,.aK 1 (cc.1.map ba)),(9,.bool cc.2)] (fun P aH=> ?_) ?_)
  ·simp only[bf.down,simprocAttr,eK.down]
   refine gi (Wu aG.2.1 ([41]:List UInt8) _ lZ) rfl rfl rfl rfl (.inl (by rfl)) ?_
   simp only[bf.down,simprocAttr,eK.down]
   refine gi (WE aY ([44]:List UInt8) _ nO) rfl rfl rfl rfl (.inl (by rfl)) ?_
   simp only[bf.down,simprocAttr,eK.down]
   refine gi (WH bE _ mP) rfl rfl (by simp only[bf.down,simprocAttr,eK.down,hP,hQ,hR,hk, @lP _ bg bg (fun _=>rP _)]<;>rfl) rfl (.inr (by simp only[I.dc,I.lF, @KJ _ ba (fun _=>LL _),Bool.and_self])) ?_
   simp only[bf.down,simprocAttr,eK.down]
   (try simp only[b5.down,simprocAttr,eK.down]at aH⊢);exact aH
  refine ws _ ?_
  refine bL h (fun rW h=> ?_) (fun rW h=> ?_)
  ·refine ws _ ?_
   exact bo (gq _ (.inr ⟨[(2,.str ([]:List UInt8)),(3,.aK 1 []),(4,.bool false)],mv [] rfl (j5 rfl (mx (t:=3) (d:=.bH) rfl rfl (.i_ _) (by decide) (j5 rfl (mw)))),bt [.str ([]:List UInt8),.aK 1 [],.bool false]⟩))
  ·exact bU (ik _ (.inr ⟨_,b0 rfl,tR cc.1 h⟩))
 ·exact bU (ik _ (.inr ⟨_,mv [] rfl (j5 (t:=0) (d:=.str a0) rfl (j5 (t:=5) (d:=.str aG.1) rfl (mx (t:=8) (d:=.bH) (aV:=.aK 1 []) rfl rfl (.i_ _) (by decide) (mw)))),tR [] h⟩))
theorem WV (a0:List UInt8) (r:Bool) (h:pV a0=some r):br aS 125 [.str a0] (.bool r) []:=by
 refine cN [0] [.tmp 2] Tryz.func125 SG (fun cl aR cu=> ?_)
 refine ws _ ?_
 obtain⟨aG,aL,h⟩:=bb h
 refine fg (WU a0 _ aL) _ ?_
 refine ws _ ?_
 exact bo (aR _ (.inl (bt [.bool aG.2.2])))
theorem WW (a0:List UInt8) (r:Bool) (h:zh a0=some r):br aS 124 [.str a0] (.bool r) []:=by
 refine cN [0] [.tmp 2] Tryz.func124 SI (fun cl aR cu=> ?_)
 refine ws _ ?_
 obtain⟨aG,aL,h⟩:=bb h
 refine fg (WV a0 _ aL) _ ?_
 exact bo (aR _ (.inl (bt [.bool (!aG)])))
theorem WX (a0:List (List UInt8)) (r:Int) (h:zi a0=some r):br aS 178 [.slice (a0.map bg),.fn 124 []] (.int .i64 r) []:=by
 refine cN [0,1] [.tmp 4] Tryz.func178 SU (fun cl aR cu=> ?_)
 refine ws _ ?_
 refine bu aR (fun hA dL cr aU=> ?_)
 refine ws _ ?_
 refine c_ cr (fun hW gb dQ dI bE=> ?_)
 have nN:∀(n:Nat) (dO:Int),pW a0 n dO=some r→fE aS EI hW (J [(0,.slice (a0.map bg)),(1,.fn 124 []),(7,.int .i64 (a0.length:Int)),(8,.int .i64 dO)]):=by
  intro m6
  induction m6 with
  |zero=>intro dO h;cases(show none=some r from h)
  |succ m6 mM=>
   intro dO h
   replace h:vV (pW a0 m6) a0 dO=some r:=h
   refine gN dQ (fun mN ik gq cc=> ?_)
   refine ws _ ?_
   refine bu gq (fun lj fR gG dm=> ?_)
   refine bL h (fun e6 h=> ?_) (fun e6 h=> ?_)
   ·refine bU (fR _ (.inl ?_))
    refine bu gq (fun jc fv e9 eE=> ?_)
    refine c_ e9 (fun ke fh ga gD fP=> ?_)
    refine ws _ ?_
    obtain⟨aG,fK,h⟩:=bb h
    obtain⟨aU,iP,h⟩:=bb h
    refine iO fK (WW aG _ iP) _ ?_
    refine bL h (fun jd h=> ?_) (fun jd h=> ?_)
    ·refine ws _ ?_
     exact bo (ga _ (.inl (bt [.int .i64 dO])))
    ·refine bU (fh _ (fv _ (.inl ?_)))
     refine wr _ ?_
     exact ik _ (.inr ⟨_,b0 rfl,mM (IntKind.i64.wrap (dO+1)) h⟩)
   ·refine gL (dm 0 _ (cc 0 _ (dI _ (dL _ (.inl ?_)))))
    refine ws _ ?_
    exact bo (aR _ (.inl (bt [.int .i64 (-1)])))
 obtain⟨n,h⟩:=gF h
 exact gM (.inr ⟨_,b0 rfl,nN n 0 h⟩)
theorem WY (a0:List (List UInt8)) (r:Bool) (h:zj a0=some r):br aS 123 [.slice (a0.map bg),.fn 124 []] (.bool r) []:=by
 refine cN [0,1] [.tmp 4] Tryz.func123 SX (fun cl aR cu=> ?_)
 refine ws _ ?_
 obtain⟨aG,aL,h⟩:=bb h
 refine fg (WX a0 _ aL) _ ?_
 exact bo (aR _ (.inl (bt [.bool (decide (0≤aG))])))
theorem WZ (a0:List (List UInt8)) (r:Bool) (h:vW a0=some r):br aS 83 [.slice (a0.map bg)] (.bool r) []:=by
 refine cN [0] [.tmp 2] Tryz.func83 S0 (fun cl aR cu=> ?_)
 refine ws _ ?_
 obtain⟨aG,aL,h⟩:=bb h
 refine fg (WY a0 _ aL) _ ?_
 exact bo (aR _ (.inl (bt [.bool (!aG)])))
theorem W0 (a0:Int) (r:Bool) (h:zk a0=some r):br aS 85 [.int .i64 a0] (.bool r) []:=by
 refine cN [0] [.tmp 2] Tryz.func85 S2 (fun cl aR cu=> ?_)
 refine ws _ ?_
 obtain⟨aG,aL,h⟩:=bb h
 refine fg (FE a0 0 3 _ aL) _ ?_
 exact bo (aR _ (.inl (bt [.bool (!aG)])))
theorem W1 (a0:List Int) (r:Int) (h:zl a0=some r):br aS 126 [.slice (a0.map ba),.fn 85 []] (.int .i64 r) []:=by
 refine cN [0,1] [.tmp 4] Tryz.func126 Tc (fun cl aR cu=> ?_)
 refine ws _ ?_
 refine bu aR (fun hA dL cr aU=> ?_)
 refine ws _ ?_
 refine c_ cr (fun hW gb dQ dI bE=> ?_)
 have nN:∀(n:Nat) (dO:Int),pX a0 n dO=some r→fE aS EJ hW (J [(0,.slice (a0.map ba)),(1,.fn 85 []),(7,.int .i64 (a0.length:Int)),(8,.int .i64 dO)]):=by
  intro m6
  induction m6 with
  |zero=>intro dO h;cases(show none=some r from h)
  |succ m6 mM=>
   intro dO h
   replace h:vX (pX a0 m6) a0 dO=some r:=h
   refine gN dQ (fun mN ik gq cc=> ?_)
   refine ws _ ?_
   refine bu gq (fun lj fR gG dm=> ?_)
   refine bL h (fun e6 h=> ?_) (fun e6 h=> ?_)
   ·refine bU (fR _ (.inl ?_))
    refine bu gq (fun jc fv e9 eE=> ?_)
    refine c_ e9 (fun ke fh ga gD fP=> ?_)
    refine ws _ ?_
    obtain⟨aG,fK,h⟩:=bb h
    obtain⟨aU,iP,h⟩:=bb h
    refine iO fK (W0 aG _ iP) _ ?_
    refine bL h (fun jd h=> ?_) (fun jd h=> ?_)
    ·refine ws _ ?_
     exact bo (ga _ (.inl (bt [.int .i64 dO])))
    ·refine bU (fh _ (fv _ (.inl ?_)))
     refine wr _ ?_
     exact ik _ (.inr ⟨_,b0 rfl,mM (IntKind.i64.wrap (dO+1)) h⟩)
   ·refine gL (dm 0 _ (cc 0 _ (dI _ (dL _ (.inl ?_)))))
    refine ws _ ?_
    exact bo (aR _ (.inl (bt [.int .i64 (-1)])))
 obtain⟨n,h⟩:=gF h
 exact gM (.inr ⟨_,b0 rfl,nN n 0 h⟩)
theorem W2 (a0:List Int) (r:Bool) (h:vY a0=some r):br aS 84 [.slice (a0.map ba),.fn 85 []] (.bool r) []:=by
 refine cN [0,1] [.tmp 4] Tryz.func84 Tf (fun cl aR cu=> ?_)
 refine ws _ ?_
 obtain⟨aG,aL,h⟩:=bb h
 refine fg (W1 a0 _ aL) _ ?_
 exact bo (aR _ (.inl (bt [.bool (decide (0≤aG))])))
theorem W3 (a0:List (List UInt8)) (ah:List Int) (r:Int) (h:vZ a0 ah=some r):br aS 51 [.slice (a0.map bg),.slice (ah.map ba)] (.int .i64 r) []:=by
 refine cN [0,1] [.tmp 4] Tryz.func51 Tn (fun cl aR cu=> ?_)
 refine ws _ ?_
 refine bu aR (fun hA dL cr aU=> ?_)
 refine c_ cr (fun tG lh fp iY aY=> ?_)
 rcases iq h with⟨hK,h⟩|⟨hK,h⟩
 ·refine f_ hK _ ?_
  refine k6 rfl ?_
  refine ws _ ?_
  exact bo (fp _ (.inl (bt [.int .i64 2])))
 ·obtain⟨aG,bj,h⟩:=bb h
  refine dA (cI [(1,.slice (ah.map ba)),(5,.bool (!aG))] (fun P aH=> ?_) ?_)
  ·simp only[bf.down,simprocAttr,fJ,jD,ba,bg,hK]
   refine pI (WZ a0 _ bj) rfl rfl rfl rfl (.inl (by rfl)) ?_
   simp only[bf.down,simprocAttr,fJ,jD,ba,bg,hK]
   (try simp only[b5.down,simprocAttr,eK.down,hK]at aH⊢);exact aH
  refine bL h (fun e6 h=> ?_) (fun e6 h=> ?_)
  ·refine ws _ ?_
   exact bo (fp _ (.inl (bt [.int .i64 2])))
  ·rcases iq h with⟨il,h⟩|⟨il,h⟩
   ·refine f_ il _ ?_
    refine k6 rfl ?_
    refine ws _ ?_
    exact bo (fp _ (.inl (bt [.int .i64 7])))
   ·obtain⟨aU,fK,h⟩:=bb h
    refine dA (cI [(14,.bool aU)] (fun P aH=> ?_) ?_)
    ·simp only[bf.down,simprocAttr,kd.down,il]
     refine pI (W2 ah _ fK) rfl rfl rfl rfl (.inl (by rfl)) ?_
     simp only[bf.down,simprocAttr,kd.down,il]
     (try simp only[b5.down,simprocAttr,ba,il]at aH⊢);exact aH
    refine bL h (fun oP h=> ?_) (fun oP h=> ?_)
    ·refine ws _ ?_
     exact bo (fp _ (.inl (bt [.int .i64 7])))
    ·refine bU (lh _ (dL _ (.inl ?_)))
     refine ws _ ?_
     exact bo (aR _ (.inl (bt [.int .i64 0])))
theorem FG (dM:Int) (eu:Int) (ed:Int) (dN:Int) (ei:Int) (ah:Int) (r:Int×Int×Int×Int×Int) (h:tE dM eu ed dN ei ah=some r):br aS 127 [.a1 (.agg [.int .i64 dM,.int .i64 eu,.int .i64 ed,.int .i64 dN,.int .i64 ei]),.int .i64 ah] (.tuple []) [.a1 (.agg [.int .i64 r.1,.int .i64 r.2.1,.int .i64 r.2.2.1,.int .i64 r.2.2.2.1,.int .i64 r.2.2.2.2]),.hole]:=by
 refine cN [0,1] [] Tryz.func127 To (fun cl aR cu=> ?_)
 refine iK (cI [(0,.a1 (.agg [.int .i64 dM,.int .i64 (eo true eu ah),.int .i64 ed,.int .i64 dN,.int .i64 ei]))] (fun P aH=> ?_) ?_)
 ·simp only[bf.down,simprocAttr,fO,j6, @vd,ve]
  (try simp only[b5.down,simprocAttr, @vd,ve]at aH⊢);exact aH
 exact cu _ (.inl (k7 [] rfl (by cases gd h;rfl) (by decide) (lR (lS (by cases gd h;rfl) rfl rfl rfl (hS (lT))))))
theorem wH (dM:Int) (eu:Int) (ed:Int) (dN:Int) (ei:Int) (ah:Int) (r:Int×Int×Int×Int×Int×Int) (h:pZ dM eu ed dN ei ah=some r):br aS 128 [.a1 (.agg [.int .i64 dM,.int .i64 eu,.int .i64 ed,.int .i64 dN,.int .i64 ei]),.int .i64 ah] (.int .i64 r.1) [.a1 (.agg [.int .i64 r.2.1,.int .i64 r.2.2.1,.int .i64 r.2.2.2.1,.int .i64 r.2.2.2.2.1,.int .i64 r.2.2.2.2.2]),.hole]:=by
 refine cN [0,1] [.tmp 4] Tryz.func128 Tt (fun cl aR cu=> ?_)
 refine ws _ ?_
 have FH:∀(pY:Int),v7 dM eu dN ei pY=some r→b3 aS EK cl (J [(0,.a1 (.agg [.int .i64 dM,.int .i64 eu,.int .i64 pY,.int .i64 dN,.int .i64 ei]))]):=by
  intro pY h
  refine ws _ ?_
  exact bo (aR _ (.inl (k7 [.int .i64 pY] rfl (by cases gd h;rfl) (by decide) (lR (lS (by cases gd h;rfl) rfl rfl rfl (hS (lT)))))))
 refine bu aR (fun hA dL cr aU=> ?_)
 refine ws _ ?_
 refine bL h (fun hK h=> ?_) (fun hK h=> ?_)
 ·refine wr _ ?_
  exact dL _ (.inr ⟨_,b0 rfl,FH (IntKind.i64.wrap (ed+1)) h⟩)
 ·exact bU (dL _ (.inr ⟨_,b0 rfl,FH ed h⟩))
theorem W4 (dM:Int) (eu:Int) (ed:Int) (dN:Int) (ei:Int) (ah:Int) (a2:Int) (r:Int×Int×Int×Int×Int) (h:wa dM eu ed dN ei ah a2=some r):br aS 87 [.a1 (.agg [.int .i64 dM,.int .i64 eu,.int .i64 ed,.int .i64 dN,.int .i64 ei]),.int .i64 ah,.int .i64 a2] (.tuple []) [.a1 (.agg [.int .i64 r.1,.int .i64 r.2.1,.int .i64 r.2.2.1,.int .i64 r.2.2.2.1,.int .i64 r.2.2.2.2]),.hole,.hole]:=by
 refine cN [0,1,2] [] Tryz.func87 TT (fun cl aR cu=> ?_)
 refine ws _ ?_
 obtain⟨aG,aL,h⟩:=bb h
 refine dA (cI [(0,.a1 (.agg [.int .i64 aG.1,.int .i64 aG.2.1,.int .i64 aG.2.2.1,.int .i64 aG.2.2.2.1,.int .i64 aG.2.2.2.2])),(1,.int .i64 ah),(2,.int .i64 a2),(6,.int .i64 (-1))] (fun P aH=> ?_) ?_)
 ·simp only[bf.down,simprocAttr,fO,j6]
  refine mz [⟨.h 0 [],true,_,_⟩,⟨.int .i64 ei,false,_,.hole⟩] (FG dM eu ed dN ei ei _ aL) rfl rfl rfl (by simp only[bf.down,simprocAttr,fO,j6,kx,k8,k9,hP,hQ,hR,hk,or_true,true_or]) rfl rfl (.inl rfl) ?_
  simp only[bf.down,simprocAttr,fO,j6,k_]
  (try simp only[b5.down,simprocAttr]at aH⊢);exact aH
 have rT:∀(iN:Int) (fG:Int) (jN:Int) (v8:Int) (v_:Int) (gB:Int),nL ah a2 iN fG jN v8 v_ gB=some r→b3 aS EM cl (J [(0,.a1 (.agg [.int .i64 iN,.int .i64 fG,.int .i64 jN,.int .i64 v8,.int .i64 v_])),(1,.int .i64 ah),(2,.int .i64 a2),(6,.int .i64 gB)]):=by
  intro iN fG jN v8 v_ gB h
  refine ws _ ?_
  have tW:∀(nG:Int) (nH:Int) (nI:Int) (nJ:Int) (oJ:Int) (nK:Int),oI a2 nG nH nI nJ oJ nK=some r→b3 aS EL cl (J [(0,.a1 (.agg [.int .i64 nG,.int .i64 nH,.int .i64 nI,.int .i64 nJ,.int .i64 oJ])),(2,.int .i64 a2),(6,.int .i64 nK)]):=by
   intro nG nH nI nJ oJ nK h
   refine c_ aR (fun lj fR gG uH dm=> ?_)
   refine ws _ ?_
   refine bL h (fun tH h=> ?_) (fun tH h=> ?_)
   ·exact bU (fR _ (cu _ (.inl (k7 [] rfl (by cases gd h;rfl) (by decide) (lR (lS (by cases gd h;rfl) rfl rfl rfl (hS (hS (lT)))))))))
   ·refine ws _ ?_
    refine bL h (fun il h=> ?_) (fun il h=> ?_)
    ·refine wr _ ?_
     exact fR _ (cu _ (.inl (k7 [] rfl (by cases gd h;rfl) (by decide) (lR (lS (by cases gd h;rfl) rfl rfl rfl (hS (hS (lT))))))))
    ·refine ws _ ?_
     refine bL h (fun oP h=> ?_) (fun oP h=> ?_)
     ·obtain⟨aU,im,h⟩:=bb h
      refine iK (cI [(0,.a1 (.agg [.int .i64 aU.1,.int .i64 aU.2.1,.int .i64 aU.2.2.1,.int .i64 aU.2.2.2.1,.int .i64 aU.2.2.2.2]))] (fun P aH=> ?_) ?_)
      ·simp only[bf.down,simprocAttr]
       refine mz [⟨.h 0 [],true,_,_⟩,⟨.int .i64 nK,false,_,.hole⟩] (FG nG nH nI nJ oJ nK _ im) rfl rfl rfl (by simp only[bf.down,simprocAttr,kx,k8,k9,hP,hQ,hR,hk,or_true,true_or]) rfl rfl (.inl rfl) ?_
       simp only[bf.down,simprocAttr,k_]
       (try simp only[b5.down,simprocAttr]at aH⊢);exact aH
      exact fR _ (cu _ (.inl (k7 [] rfl (by cases gd h;rfl) (by decide) (lR (lS (by cases gd h;rfl) rfl rfl rfl (hS (hS (lT))))))))
     ·exact bU (fR _ (cu _ (.inl (k7 [] rfl (by cases gd h;rfl) (by decide) (lR (lS (by cases gd h;rfl) rfl rfl rfl (hS (hS (lT)))))))))
  refine bu aR (fun ij fw fA cK=> ?_)
  refine pH rfl (ny [(0,.a1 (.agg [.int .i64 iN,.int .i64 fG,.int .i64 jN,.int .i64 (-1),.int .i64 (-1)])),(1,.int .i64 ah),(2,.int .i64 a2),(6,.int .i64 gB),(39,.bool (decide (fG<iN)))] (fun P aH=> ?_) ?_)
  ·simp only[jB.down,simprocAttr,fO,j6]
   refine⟨mB (by kernel_rfl),?_⟩
   (try simp only[b5.down,simprocAttr]at aH⊢);exact aH
  refine bL h (fun kH h=> ?_) (fun kH h=> ?_)
  ·refine ws _ ?_
   refine c_ fA (fun Vq qa E0 qb Vr=> ?_)
   refine ws _ ?_
   refine bL h (fun rW h=> ?_) (fun rW h=> ?_)
   ·obtain⟨aY,mQ,h⟩:=bb h
    refine iK (cI [(0,.a1 (.agg [.int .i64 aY.2.1,.int .i64 aY.2.2.1,.int .i64 aY.2.2.2.1,.int .i64 aY.2.2.2.2.1,.int .i64 aY.2.2.2.2.2])),(2,.int .i64 a2),(6,.int .i64 aY.1)] (fun P aH=> ?_) ?_)
    ·simp only[bf.down,simprocAttr,fO,j6]
     refine mz [⟨.h 0 [],true,_,_⟩,⟨.int .i64 fG,false,_,.hole⟩] (wH iN fG jN (-1) (-1) fG _ mQ) rfl rfl rfl (by simp only[bf.down,simprocAttr,fO,j6,kx,k8,k9,hP,hQ,hR,hk,or_true,true_or]) rfl rfl (.inl rfl) ?_
     simp only[bf.down,simprocAttr,fO,j6,k_]
     (try simp only[b5.down,simprocAttr]at aH⊢);exact aH
    exact qa _ (fw _ (.inr ⟨_,b0 rfl,tW aY.2.1 aY.2.2.1 aY.2.2.2.1 aY.2.2.2.2.1 aY.2.2.2.2.2 aY.1 h⟩))
   ·refine ws _ ?_
    refine bL h (fun rS h=> ?_) (fun rS h=> ?_)
    ·refine ws _ ?_
     obtain⟨bE,W5,h⟩:=bb h
     refine dA (cI [(0,.a1 (.agg [.int .i64 bE.2.1,.int .i64 bE.2.2.1,.int .i64 bE.2.2.2.1,.int .i64 bE.2.2.2.2.1,.int .i64 bE.2.2.2.2.2])),(2,.int .i64 a2),(7,.int .i64 fG)] (fun P aH=> ?_) ?_)
     ·simp only[bf.down,simprocAttr]
      refine mz [⟨.h 0 [],true,_,_⟩,⟨.int .i64 fG,false,_,.hole⟩] (wH iN fG jN (-1) (-1) fG _ W5) rfl rfl rfl (by simp only[bf.down,simprocAttr,kx,k8,k9,hP,hQ,hR,hk,or_true,true_or]) rfl rfl (.inl rfl) ?_
      simp only[bf.down,simprocAttr,k_]
      (try simp only[b5.down,simprocAttr]at aH⊢);exact aH
     obtain⟨cc,tT,h⟩:=bb h
     refine iK (cI [(0,.a1 (.agg [.int .i64 cc.2.1,.int .i64 cc.2.2.1,.int .i64 cc.2.2.2.1,.int .i64 cc.2.2.2.2.1,.int .i64 cc.2.2.2.2.2])),(2,.int .i64 a2),(6,.int .i64 cc.1)] (fun P aH=> ?_) ?_)
     ·simp only[bf.down,simprocAttr]
      refine mz [⟨.h 0 [],true,_,_⟩,⟨.int .i64 fG,false,_,.hole⟩] (wH bE.2.1 bE.2.2.1 bE.2.2.2.1 bE.2.2.2.2.1 bE.2.2.2.2.2 fG _ tT) rfl rfl rfl (by simp only[bf.down,simprocAttr,kx,k8,k9,hP,hQ,hR,hk,or_true,true_or]) rfl rfl (.inl rfl) ?_
      simp only[bf.down,simprocAttr,k_]
      (try simp only[b5.down,simprocAttr]at aH⊢);exact aH
     exact qa _ (fw _ (.inr ⟨_,b0 rfl,tW cc.2.1 cc.2.2.1 cc.2.2.2.1 cc.2.2.2.2.1 cc.2.2.2.2.2 cc.1 h⟩))
    ·refine ws _ ?_
     refine bL h (fun wE h=> ?_) (fun wE h=> ?_)
     ·refine wr _ ?_
      exact qa _ (fw _ (.inr ⟨_,b0 rfl,tW iN fG jN fG (-1) gB h⟩))
     ·exact bU (qa _ (fw _ (.inr ⟨_,b0 rfl,tW iN fG jN (-1) (-1) gB h⟩)))
  ·exact bU (fw _ (.inr ⟨_,b0 rfl,tW iN fG jN (-1) (-1) gB h⟩))
 refine bu aR (fun hW gb dQ bE=> ?_)
 refine ws _ ?_
 refine bL h (fun qe h=> ?_) (fun qe h=> ?_)
 ·obtain⟨cK,tP,h⟩:=bb h
  refine iK (cI [(0,.a1 (.agg [.int .i64 cK.2.1,.int .i64 cK.2.2.1,.int .i64 cK.2.2.2.1,.int .i64 cK.2.2.2.2.1,.int .i64 cK.2.2.2.2.2])),(1,.int .i64 ah),(2,.int .i64 a2),(6,.int .i64 cK.1)] (fun P aH=> ?_) ?_)
  ·simp only[bf.down,simprocAttr,fO,j6]
   refine mz [⟨.h 0 [],true,_,_⟩,⟨.int .i64 aG.2.2.2.1,false,_,.hole⟩] (wH aG.1 aG.2.1 aG.2.2.1 aG.2.2.2.1 aG.2.2.2.2 aG.2.2.2.1 _ tP) rfl rfl rfl (by simp only[bf.down,simprocAttr,fO,j6,kx,k8,k9,hP,hQ,hR,hk,or_true,true_or]) rfl rfl (.inl rfl) ?_
   simp only[bf.down,simprocAttr,fO,j6,k_]
   (try simp only[b5.down,simprocAttr]at aH⊢);exact aH
  exact gb _ (.inr ⟨_,b0 rfl,rT cK.2.1 cK.2.2.1 cK.2.2.2.1 cK.2.2.2.2.1 cK.2.2.2.2.2 cK.1 h⟩)
 ·exact bU (gb _ (.inr ⟨_,b0 rfl,rT aG.1 aG.2.1 aG.2.2.1 aG.2.2.2.1 aG.2.2.2.2 (-1) h⟩))
theorem W6 (a0:List (List UInt8)) (ah:List Int) (r:Int×Int×Int×Int×Int×Int) (h:wb a0 ah=some r):br aS 52 [.slice (a0.map bg),.slice (ah.map ba)] (.tuple [.a1 (.agg [.int .i64 r.1,.int .i64 r.2.1,.int .i64 r.2.2.1,.int .i64 r.2.2.2.1,.int .i64 r.2.2.2.2.1]),.int .i64 r.2.2.2.2.2]) []:=by
 refine cN [0,1] [.tmp 4,.tmp 5] Tryz.func52 T5 (fun cl aR cu=> ?_)
 refine ws _ ?_
 refine f_ (show∀s,dH aS s 96 [(0,.int .i64 (a0.length:Int)),(3,.int .i64 (-1)),(4,.int .i64 (-1))]=some (.agg [.int .i64 (a0.length:Int),.int .i64 0,.int .i64 0,.int .i64 (-1),.int .i64 (-1)],s)from fun s=>by kernel_rfl) _ ?_
 refine ws _ ?_
 refine ws _ ?_
 refine c_ aR (fun mN ik gq hK cc=> ?_)
 have W7:∀(n:Nat) (jO:Int) (jP:Int) (kD:Int) (kE:Int) (kF:Int) (kc:Int) (jQ:Int),ig ah n jO jP kD kE kF kc jQ=some r→fE aS EO mN (J [(1,.slice (ah.map ba)),(6,.a1 (.agg [.int .i64 jO,.int .i64 jP,.int .i64 kD,.int .i64 kE,.int .i64 kF])),(7,.int .i64 kc),(8,.int .i64 jQ)]):=by
  intro m9
  induction m9 with
  |zero=>intro jO jP kD kE kF kc jQ h;cases(show none=some r from h)
  |succ m9 W8=>
   intro jO jP kD kE kF kc jQ h
   replace h:p0 (ig ah m9) ah jO jP kD kE kF kc jQ=some r:=h
   refine gN gq (fun ij fw fA cK=> ?_)
   refine bu fA (fun lj fR gG dm=> ?_)
   refine c_ gG (fun kf hX je e6 hl=> ?_)
   have FI:∀(oK:Int) (oL:Int) (oM:Int) (oN:Int) (oO:Int) (nM:Int) (mG:Int),kC (ig ah m9) ah oK oL oM oN oO nM mG=some r→b3 aS EN kf (J [(1,.slice (ah.map ba)),(6,.a1 (.agg [.int .i64 oK,.int .i64 oL,.int .i64 oM,.int .i64 oN,.int .i64 oO])),(7,.int .i64 nM),(8,.int .i64 mG)]):=by
    intro oK oL oM oN oO nM mG h
    refine bu je (fun ke fh ga fP=> ?_)
    refine ws _ ?_
    refine bL h (fun gj h=> ?_) (fun gj h=> ?_)
    ·refine ws _ ?_
     exact bo (ga _ (.inl (bt [.a1 (.agg [.int .i64 oK,.int .i64 oL,.int .i64 oM,.int .i64 oN,.int .i64 oO]),.int .i64 nM])))
    ·refine bU (fh _ (.inl ?_))
     obtain⟨aG,gV,h⟩:=bb h
     obtain⟨aU,im,h⟩:=bb h
     obtain⟨aY,gU,h⟩:=bb h
     refine Df rfl (ny [(1,.slice (ah.map ba)),(6,.a1 (.agg [.int .i64 aY.1,.int .i64 aY.2.1,.int .i64 aY.2.2.1,.int .i64 aY.2.2.2.1,.int .i64 aY.2.2.2.2])),(7,.int .i64 nM),(8,.int .i64 mG)] (fun P aH=> ?_) ?_)
     ·simp only[jB.down,simprocAttr,kd.down,gV,im]
      refine DL [⟨.h 6 [],true,_,_⟩,⟨.int .i64 aG,false,_,.hole⟩,⟨.int .i64 aU,false,_,.hole⟩] (W4 oK oL oM oN oO aG aU _ gU) rfl rfl rfl (by simp only[jB.down,simprocAttr,kd.down,gV,im,kx,k8,k9,hP,hQ,hR,hk,or_true,true_or]) rfl rfl (.inl rfl) ?_
      simp only[jB.down,simprocAttr,kd.down,gV,im,k_]
      refine⟨mB (by kernel_rfl),?_⟩
      (try simp only[b5.down,simprocAttr,ba,gV,im]at aH⊢);exact aH
     refine hX _ (fR _ (.inl ?_))
     refine wr _ ?_
     exact fw _ (.inr ⟨_,b0 rfl,W8 aY.1 aY.2.1 aY.2.2.1 aY.2.2.2.1 aY.2.2.2.2 nM (IntKind.i64.wrap (mG+1)) h⟩)
   refine bu je (fun jc fv e9 eE=> ?_)
   refine pH rfl (ny [(1,.slice (ah.map ba)),(6,.a1 (.agg [.int .i64 jO,.int .i64 jP,.int .i64 kD,.int .i64 kE,.int .i64 kF])),(7,.int .i64 kc),(8,.int .i64 jQ),(27,.bool ((decide (kc<0))&&(jP==jO)))] (fun P aH=> ?_) ?_)
   ·rcases Bool.eq_false_or_eq_true (decide (kc<0))with tX|tX
    ·simp only[jB.down,simprocAttr,fO,j6,ba,tX]
     refine⟨mB (by kernel_rfl),?_⟩
     (try simp only[b5.down,simprocAttr,ba,tX]at aH⊢);exact aH
    ·simp only[jB.down,simprocAttr,fO,j6,ba,tX]
     refine⟨mB (by kernel_rfl),?_⟩
     (try simp only[b5.down,simprocAttr,ba,tX]at aH⊢);exact aH
   refine bL h (fun rU h=> ?_) (fun rU h=> ?_)
   ·refine wr _ ?_
    exact fv _ (.inr ⟨_,b0 rfl,FI jO jP kD kE kF jQ jQ h⟩)
   ·exact bU (fv _ (.inr ⟨_,b0 rfl,FI jO jP kD kE kF kc jQ h⟩))
 obtain⟨n,h⟩:=gF h
 exact gM (.inr ⟨_,b0 rfl,W7 n (a0.length:Int) 0 0 (-1) (-1) (-1) 0 h⟩)
theorem W9 (a0:List (List UInt8)) (ah:List Int) (r:Int×Int) (h:wc a0 ah=some r):br aS 13 [.slice (a0.map bg),.slice (ah.map ba)] (.tuple [.int .i64 r.1,.int .i64 r.2]) []:=by
 refine cN [0,1] [.tmp 4,.tmp 5] Tryz.func13 Uf (fun cl aR cu=> ?_)
 refine ws _ ?_
 refine bu aR (fun hA dL cr aU=> ?_)
 obtain⟨aG,bX,h⟩:=bb h
 refine fg (W3 a0 ah _ bX) _ ?_
 refine ws _ ?_
 refine bL h (fun ft h=> ?_) (fun ft h=> ?_)
 ·refine ws _ ?_
  exact bo (cr _ (.inl (bt [.int .i64 0,.int .i64 aG])))
 ·refine bU (dL _ (.inl ?_))
  obtain⟨aU,h2,h⟩:=bb h
  refine fg (W6 a0 ah _ h2) _ ?_
  refine bu aR (fun ke fh ga fP=> ?_)
  refine ws _ ?_
  refine bL h (fun gj h=> ?_) (fun gj h=> ?_)
  ·refine ws _ ?_
   exact bo (ga _ (.inl (bt [.int .i64 0,.int .i64 3])))
  ·refine bU (fh _ (.inl ?_))
   refine ws _ ?_
   exact bo (aR _ (.inl (bt [.int .i64 aU.2.2.2.2.2,.int .i64 0])))
theorem W_ (a0:List (List UInt8)) (ah:List (List UInt8)) (r:Bool) (h:wg a0 ah=some r):br aS 14 [.slice (a0.map bg),.slice (ah.map bg)] (.bool r) []:=by
 refine cN [0,1] [.tmp 4] Tryz.func14 p3 (fun cl aR cu=> ?_)
 refine ws _ ?_
 refine bu aR (fun hA dL cr aU=> ?_)
 refine ws _ ?_
 refine bL h (fun dI h=> ?_) (fun dI h=> ?_)
 ·refine ws _ ?_
  exact bo (cr _ (.inl (bt [.bool false])))
 ·refine bU (dL _ (.inl ?_))
  refine bu aR (fun ij fw fA cK=> ?_)
  refine ws _ ?_
  refine c_ fA (fun kf hX je e6 hl=> ?_)
  have p_:∀(n:Nat) (eb:Int),we a0 ah n eb=some r→fE aS EP kf (J [(0,.slice (a0.map bg)),(1,.slice (ah.map bg)),(5,.int .i64 eb)]):=by
   intro m14
   induction m14 with
   |zero=>intro eb h;cases(show none=some r from h)
   |succ m14 oQ=>
    intro eb h
    replace h:Ec (we a0 ah m14) a0 ah eb=some r:=h
    refine gN je (fun jc fv e9 eE=> ?_)
    refine bu e9 (fun ke fh ga fP=> ?_)
    refine ws _ ?_
    refine bL h (fun gj h=> ?_) (fun gj h=> ?_)
    ·refine bU (fh _ (.inl ?_))
     refine bu e9 (fun oT jg ln qc=> ?_)
     refine c_ ln (fun p6 kG ll oP rQ=> ?_)
     obtain⟨aG,im,h⟩:=bb h
     obtain⟨aU,gU,h⟩:=bb h
     refine pH rfl (ny [(0,.slice (a0.map bg)),(1,.slice (ah.map bg)),(5,.int .i64 eb),(25,.bool (!(aG==aU)))] (fun P aH=> ?_) ?_)
     ·simp only[jB.down,simprocAttr,fJ,jD,bg,im,gU]
      refine⟨mB (by kernel_rfl),?_⟩
      (try simp only[b5.down,simprocAttr,bg,im,gU]at aH⊢);exact aH
     refine bL h (fun kH h=> ?_) (fun kH h=> ?_)
     ·refine ws _ ?_
      exact bo (ll _ (.inl (bt [.bool false])))
     ·refine bU (kG _ (jg _ (.inl ?_)))
      refine wr _ ?_
      exact fv _ (.inr ⟨_,b0 rfl,oQ (IntKind.i64.wrap (eb+1)) h⟩)
    ·refine gL (fP 0 _ (eE 0 _ (e6 _ (fw _ (.inl ?_)))))
     refine ws _ ?_
     exact bo (aR _ (.inl (bt [.bool true])))
  obtain⟨n,h⟩:=gF h
  exact gM (.inr ⟨_,b0 rfl,p_ n 0 h⟩)
theorem Xa (a0:List Int) (ah:List Int) (r:Bool) (h:wi a0 ah=some r):br aS 15 [.slice (a0.map ba),.slice (ah.map ba)] (.bool r) []:=by
 refine cN [0,1] [.tmp 4] Tryz.func15 UE (fun cl aR cu=> ?_)
 refine ws _ ?_
 refine bu aR (fun hA dL cr aU=> ?_)
 refine ws _ ?_
 refine bL h (fun dI h=> ?_) (fun dI h=> ?_)
 ·refine ws _ ?_
  exact bo (cr _ (.inl (bt [.bool false])))
 ·refine bU (dL _ (.inl ?_))
  refine bu aR (fun ij fw fA cK=> ?_)
  refine ws _ ?_
  refine c_ fA (fun kf hX je e6 hl=> ?_)
  have p_:∀(n:Nat) (eb:Int),wh a0 ah n eb=some r→fE aS ER kf (J [(0,.slice (a0.map ba)),(1,.slice (ah.map ba)),(5,.int .i64 eb)]):=by
   intro m14
   induction m14 with
   |zero=>intro eb h;cases(show none=some r from h)
   |succ m14 oQ=>
    intro eb h
    replace h:Ed (wh a0 ah m14) a0 ah eb=some r:=h
    refine gN je (fun jc fv e9 eE=> ?_)
    refine bu e9 (fun ke fh ga fP=> ?_)
    refine ws _ ?_
    refine bL h (fun gj h=> ?_) (fun gj h=> ?_)
    ·refine bU (fh _ (.inl ?_))
     refine bu e9 (fun oT jg ln qc=> ?_)
     refine c_ ln (fun p6 kG ll oP rQ=> ?_)
     obtain⟨aG,im,h⟩:=bb h
     obtain⟨aU,gU,h⟩:=bb h
     refine pH rfl (ny [(0,.slice (a0.map ba)),(1,.slice (ah.map ba)),(5,.int .i64 eb),(25,.bool (aG !=aU))] (fun P aH=> ?_) ?_)
     ·simp only[jB.down,simprocAttr,kd.down,im,gU]
      refine⟨mB (by kernel_rfl),?_⟩
      (try simp only[b5.down,simprocAttr,ba,im,gU]at aH⊢);exact aH
     refine bL h (fun kH h=> ?_) (fun kH h=> ?_)
     ·refine ws _ ?_
      exact bo (ll _ (.inl (bt [.bool false])))
     ·refine bU (kG _ (jg _ (.inl ?_)))
      refine wr _ ?_
      exact fv _ (.inr ⟨_,b0 rfl,oQ (IntKind.i64.wrap (eb+1)) h⟩)
    ·refine gL (fP 0 _ (eE 0 _ (e6 _ (fw _ (.inl ?_)))))
     refine ws _ ?_
     exact bo (aR _ (.inl (bt [.bool true])))
  obtain⟨n,h⟩:=gF h
  exact gM (.inr ⟨_,b0 rfl,p_ n 0 h⟩)
theorem Xb (a0:List (List UInt8)) (ah:List Int) (r:Bool) (h:zm a0 ah=some r):br aS 3 [.slice (a0.map bg),.slice (ah.map ba)] (.bool r) []:=by
 refine cN [0,1] [.tmp 4] Tryz.func3 eI (fun cl aR cu=> ?_)
 refine ws _ ?_
 refine bu aR (fun hA dL cr aU=> ?_)
 refine ws _ ?_
 refine bL h (fun dI h=> ?_) (fun dI h=> ?_)
 ·refine ws _ ?_
  exact bo (cr _ (.inl (bt [.bool true])))
 ·refine bU (dL _ (.inl ?_))
  refine ws _ ?_
  obtain⟨aG,gX,h⟩:=bb h
  refine fg (Vm a0 1048576 _ gX) _ ?_
  refine bu aR (fun jc fv e9 eE=> ?_)
  refine ws _ ?_
  refine bL h (fun il h=> ?_) (fun il h=> ?_)
  ·refine ws _ ?_
   exact bo (e9 _ (.inl (bt [.bool true])))
  ·refine bU (fv _ (.inl ?_))
   obtain⟨aU,iP,h⟩:=bb h
   obtain⟨aY,gV,h⟩:=bb h
   obtain⟨bE,im,h⟩:=bb h
   refine dA (cI [(0,.slice (a0.map bg)),(1,.slice (ah.map ba)),(6,.int .i64 bE.1),(7,.int .i64 bE.2)] (fun P aH=> ?_) ?_)
   ·simp only[bf.down,simprocAttr,eK.down]
    refine gi (zv a0 _ iP) rfl rfl rfl rfl (.inl (by rfl)) ?_
    simp only[bf.down,simprocAttr,eK.down]
    refine gi (zy ah _ gV) rfl rfl rfl rfl (.inl (by rfl)) ?_
    simp only[bf.down,simprocAttr,eK.down]
    refine gi (Wn aU aY _ im) rfl rfl (by simp only[bf.down,simprocAttr,eK.down,hP,hQ,hR,hk, @lP _ bg bg (fun _=>rP _), @lP _ ba ba (fun _=>tF _)]<;>rfl) rfl (.inr (by rfl)) ?_
    simp only[bf.down,simprocAttr,eK.down]
    (try simp only[b5.down,simprocAttr,eK.down]at aH⊢);exact aH
   obtain⟨cc,lZ,h⟩:=bb h
   refine fg (zv a0 _ lZ) _ ?_
   obtain⟨cK,mP,h⟩:=bb h
   refine fg (zy ah _ mP) _ ?_
   obtain⟨dm,iQ,h⟩:=bb h
   refine dA (cI [(0,.slice (a0.map bg)),(1,.slice (ah.map ba)),(6,.int .i64 bE.1),(7,.int .i64 bE.2),(8,.aK 1 (cc.map bg)),(9,.aK 1 (cK.map ba)),(10,.int .i64 dm.1),(11,.int .i64 dm.2)] (fun P aH=> ?_) ?_)
   ·simp only[bf.down,simprocAttr,eK.down]
    refine gi (W9 cc cK _ iQ) rfl rfl (by simp only[bf.down,simprocAttr,eK.down,hP,hQ,hR,hk, @lP _ bg bg (fun _=>rP _), @lP _ ba ba (fun _=>tF _)]<;>rfl) rfl (.inr (by rfl)) ?_
    simp only[bf.down,simprocAttr,eK.down]
    (try simp only[b5.down,simprocAttr,eK.down]at aH⊢);exact aH
   refine bu aR (fun E5 tM wu zG=> ?_)
   refine dA (cI [(0,.slice (a0.map bg)),(1,.slice (ah.map ba)),(8,.aK 1 (cc.map bg)),(9,.aK 1 (cK.map ba)),(45,.bool ((dm.1 !=bE.1)||(dm.2 !=bE.2)))] (fun P aH=> ?_) ?_)
   ·rcases Bool.eq_false_or_eq_true (dm.1 !=bE.1)with l0|l0
    ·simp only[bf.down,simprocAttr,eK.down,l0]
     (try simp only[b5.down,simprocAttr,eK.down,l0]at aH⊢);exact aH
    ·simp only[bf.down,simprocAttr,eK.down,l0]
     (try simp only[b5.down,simprocAttr,eK.down,l0]at aH⊢);exact aH
   refine bL h (fun rS h=> ?_) (fun rS h=> ?_)
   ·refine ws _ ?_
    exact bo (wu _ (.inl (bt [.bool false])))
   ·refine bU (tM _ (.inl ?_))
    refine bu aR (fun Wd zW wD Fp=> ?_)
    obtain⟨hl,Xc,h⟩:=bb h
    obtain⟨eE,tT,h⟩:=bb h
    refine dA (cI [(1,.slice (ah.map ba)),(9,.aK 1 (cK.map ba)),(50,.bool (!eE))] (fun P aH=> ?_) ?_)
    ·simp only[bf.down,simprocAttr,eK.down]
     refine gi (zv a0 _ Xc) rfl rfl rfl rfl (.inl (by rfl)) ?_
     simp only[bf.down,simprocAttr,eK.down]
     refine gi (W_ cc hl _ tT) rfl rfl (by simp only[bf.down,simprocAttr,eK.down,hP,hQ,hR,hk, @lP _ bg bg (fun _=>rP _), @lP _ bg bg (fun _=>rP _)]<;>rfl) rfl (.inr (by rfl)) ?_
     simp only[bf.down,simprocAttr,eK.down]
     (try simp only[b5.down,simprocAttr,eK.down]at aH⊢);exact aH
    refine bL h (fun Xd h=> ?_) (fun Xd h=> ?_)
    ·refine ws _ ?_
     exact bo (wD _ (.inl (bt [.bool false])))
    ·refine bU (zW _ (.inl ?_))
     refine bu aR (fun V6 zR wB V7=> ?_)
     obtain⟨fP,qf,h⟩:=bb h
     obtain⟨mH,Xe,h⟩:=bb h
     refine dA (cI [(55,.bool (!mH))] (fun P aH=> ?_) ?_)
     ·simp only[bf.down,simprocAttr,ba]
      refine gi (zy ah _ qf) rfl rfl rfl rfl (.inl (by rfl)) ?_
      simp only[bf.down,simprocAttr,ba]
      refine gi (Xa cK fP _ Xe) rfl rfl (by simp only[bf.down,simprocAttr,ba,hP,hQ,hR,hk, @lP _ ba ba (fun _=>tF _), @lP _ ba ba (fun _=>tF _)]<;>rfl) rfl (.inr (by rfl)) ?_
      simp only[bf.down,simprocAttr,ba]
      (try simp only[b5.down,simprocAttr,ba]at aH⊢);exact aH
     refine bL h (fun Xf h=> ?_) (fun Xf h=> ?_)
     ·refine ws _ ?_
      exact bo (wB _ (.inl (bt [.bool false])))
     ·refine bU (zR _ (.inl ?_))
      refine ws _ ?_
      exact bo (aR _ (.inl (bt [.bool true])))
end Go.Proofs.YtipllbfpaepajaaGreatDoor
