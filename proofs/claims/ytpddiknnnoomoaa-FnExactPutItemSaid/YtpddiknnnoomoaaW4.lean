/- Part of a proof that a law returns true for every input. No condition. -/
import Derived.Test.YtpddiknnnoomoaaSl
namespace Go.Proofs.Ytpddiknnnoomoaa
open Go Go.bZ Go.fm
set_option maxRecDepth 100000
set_option maxHeartbeats 1600000
set_option linter.unusedSimpArgs false
set_option linter.unusedVariables false
theorem eX (fx:List Nat) (dt:List ResultVar) {f:FuncId} {fn:Func} {c:Code} {c3:af} {ins outs:List j} {r:j} (bc:aZ.P.funcs[f]? =some fn) (R:cB ⟨fn.ntmps,fx⟩ c=some c3.strip)
 (wq:∀Q:Exit→ag→Prop,(∀s,dN (bZ.Ends aZ fx dt r outs) s→Q .ret s)→(∀s,dN (bZ.Ends aZ fx dt r outs) s→Q .normal s)→bW aZ c3 Q (J (num 0 ins))) (I:fn.body=some c:=by rfl) (h3:(fn.name== "runtime.NumGoroutine")=false:=by rfl) (aR:ins.length≤fn.ntmps:=by exact Nat.le_of_ble_eq_true rfl) (dP:fn.results.toList=dt:=by rfl) (an:c3.plain=true:=by kernel_rfl):b8 aZ f ins r outs:=
 b8.BN I7 dt (num 0 ins) bc I h3 R aR dP rfl wq an
def g5:=PLift.up (And.intro @fy (And.intro @r8 (And.intro @tI (And.intro @r9 (And.intro @nN (And.intro @aF.eq_1 @dz.eq_1))))))
theorem ws {Q:Exit→ag→Prop} {l:List (Nat×j)} {ros:List bh} {k:List Nat} {b:af} (cM:List (Nat×j)) (al:bW aZ b Q (J cM)) (h:∀P:List (Nat×j)→Prop,P cM→bz aZ (J l) ros none (fun _ s=>P (fL k s)):=by
 intro P aK
 simp only[bA.down,simprocAttr,g5.down]
 (try simp only[b_.down,simprocAttr,g5.down]at aK⊢)
 exact aK):bW aZ (.seq (.c6 ros (some k)) b) Q (J l):=
 ef (dm cM (h) al)
theorem h6 {Q:Exit→ag→Prop} {l:List (Nat×j)} {ros:List bh} {k:List Nat} {b:af} {g:FuncId} {ds:List j} {r:j} (ok:b8 aZ g ds r []) (cM:List (Nat×j)) (al:bW aZ b Q (J cM)) (h:b8 aZ g ds r []→∀P:List (Nat×j)→Prop,P cM→bz aZ (J l) ros none (fun _ s=>P (fL k s)):=by
 intro o4 P aK
 (try simp only[bA.down,simprocAttr,g5.down])
 refine gw o4 rfl rfl rfl rfl (.inl (by rfl)) ?_
 simp only[bA.down,simprocAttr,g5.down]
 (try simp only[b_.down,simprocAttr,g5.down]at aK⊢)
 exact aK):bW aZ (.seq (.c6 ros (some k)) b) Q (J l):=
 ef (dm cM (h ok) al)
theorem i5 {F:Prop} (aS:F) {Q:Exit→ag→Prop} {l:List (Nat×j)} {ros:List bh} {k:List Nat} {b:af} (cM:List (Nat×j)) (al:bW aZ b Q (J cM)) (h:F→∀P:List (Nat×j)→Prop,P cM→bz aZ (J l) ros none (fun _ s=>P (fL k s)):=by
 intro aS P aK
 simp only[bA.down,simprocAttr,g5.down,aS]
 (try simp only[b_.down,simprocAttr,g5.down,aS]at aK⊢)
 exact aK):bW aZ (.seq (.c6 ros (some k)) b) Q (J l):=
 ef (dm cM (h aS) al)
theorem sx {F:Prop} (aS:F) {Q:Exit→ag→Prop} {l:List (Nat×j)} {ros:List bh} {k:List Nat} {b:af} {g:FuncId} {ds:List j} {r:j} (ok:b8 aZ g ds r []) (cM:List (Nat×j)) (al:bW aZ b Q (J cM)) (h:b8 aZ g ds r []→F→∀P:List (Nat×j)→Prop,P cM→bz aZ (J l) ros none (fun _ s=>P (fL k s)):=by
 intro o4 aS P aK
 (try simp only[bA.down,simprocAttr,g5.down,aS])
 refine gw o4 rfl rfl rfl rfl (.inl (by rfl)) ?_
 simp only[bA.down,simprocAttr,g5.down,aS]
 (try simp only[b_.down,simprocAttr,g5.down,aS]at aK⊢)
 exact aK):bW aZ (.seq (.c6 ros (some k)) b) Q (J l):=
 ef (dm cM (h ok aS) al)
theorem wr {Q:Exit→ag→Prop} {l:List (Nat×j)} {ros:List bh} {k:List Nat} (cM:List (Nat×j)) (al:Q .normal (J cM)) (h:∀P:List (Nat×j)→Prop,P cM→bz aZ (J l) ros none (fun _ s=>P (fL k s)):=by
 intro P aK
 simp only[bA.down,simprocAttr,g5.down]
 (try simp only[b_.down,simprocAttr,g5.down]at aK⊢)
 exact aK):bW aZ (.c6 ros (some k)) Q (J l):=
 mF (dm cM (h) al)
theorem Se {Q:Exit→ag→Prop} {l:List (Nat×j)} {ros:List bh} {k:List Nat} {g:FuncId} {ds:List j} {r:j} (ok:b8 aZ g ds r []) (cM:List (Nat×j)) (al:Q .normal (J cM)) (h:b8 aZ g ds r []→∀P:List (Nat×j)→Prop,P cM→bz aZ (J l) ros none (fun _ s=>P (fL k s)):=by
 intro o4 P aK
 (try simp only[bA.down,simprocAttr,g5.down])
 refine gw o4 rfl rfl rfl rfl (.inl (by rfl)) ?_
 simp only[bA.down,simprocAttr,g5.down]
 (try simp only[b_.down,simprocAttr,g5.down]at aK⊢)
 exact aK):bW aZ (.c6 ros (some k)) Q (J l):=
 mF (dm cM (h ok) al)
theorem PJ {F:Prop} (aS:F) {Q:Exit→ag→Prop} {l:List (Nat×j)} {ros:List bh} {k:List Nat} (cM:List (Nat×j)) (al:Q .normal (J cM)) (h:F→∀P:List (Nat×j)→Prop,P cM→bz aZ (J l) ros none (fun _ s=>P (fL k s)):=by
 intro aS P aK
 simp only[bA.down,simprocAttr,g5.down,aS]
 (try simp only[b_.down,simprocAttr,g5.down,aS]at aK⊢)
 exact aK):bW aZ (.c6 ros (some k)) Q (J l):=
 mF (dm cM (h aS) al)
theorem Sf {F:Prop} (aS:F) {Q:Exit→ag→Prop} {l:List (Nat×j)} {ros:List bh} {k:List Nat} {g:FuncId} {ds:List j} {r:j} (ok:b8 aZ g ds r []) (cM:List (Nat×j)) (al:Q .normal (J cM)) (h:b8 aZ g ds r []→F→∀P:List (Nat×j)→Prop,P cM→bz aZ (J l) ros none (fun _ s=>P (fL k s)):=by
 intro o4 aS P aK
 (try simp only[bA.down,simprocAttr,g5.down,aS])
 refine gw o4 rfl rfl rfl rfl (.inl (by rfl)) ?_
 simp only[bA.down,simprocAttr,g5.down,aS]
 (try simp only[b_.down,simprocAttr,g5.down,aS]at aK⊢)
 exact aK):bW aZ (.c6 ros (some k)) Q (J l):=
 mF (dm cM (h ok aS) al)
def dA:=PLift.up (And.intro @fy (And.intro @r8 (And.intro @nN @aF.eq_1)))
def dQ:=PLift.up (And.intro @aF.eq_1 @dz.eq_1)
def gk:=PLift.up (And.intro @fy (And.intro @r9 (And.intro @aF.eq_1 @dz.eq_1)))
theorem CD (a0:eA) (aA:Int) (r:Int) (h:qn a0 aA=some r):b8 aZ 13 [dz a0,.int .i64 aA] (.int .i64 r) []:=by
 refine eX [0] [.tmp 4] Try.func13 Jj (fun eO bl eM=> ?_)
 refine ws _ ?_
 refine ws _ ?_
 refine bY bl (fun xy o5 fu cv=> ?_)
 refine ws _ ?_
 refine cz h (fun jj h=> ?_) (fun jj h=> ?_)
 ·refine ws _ ?_
  exact bS (fu _ (.inl (bU [.int .i64 (-1)])))
 ·refine cu (o5 _ (.inl ?_))
  refine ws _ ?_
  refine bY bl (fun mU l7 lf e5=> ?_)
  refine ws _ ?_
  refine cz h (fun hk h=> ?_) (fun hk h=> ?_)
  ·refine ws _ ?_
   exact bS (lf _ (.inl (bU [.int .i64 (-1)])))
  ·refine cu (l7 _ (.inl ?_))
   refine ws _ ?_
   exact bS (bl _ (.inl (bU [.int .i64 (IntKind.i64.wrap ((IntKind.i64.wrap (aA-(a0.Name.length:Int)))-(a0.ck.length:Int)))])))
theorem PK (a0:List eA) (aA:Int) (r:Int) (h:tK a0 aA=some r):b8 aZ 12 [.slice (a0.map dz),.int .i64 aA] (.int .i64 r) []:=by
 refine eX [0] [.tmp 4] Try.func12 Jy (fun eO bl eM=> ?_)
 refine ws _ ?_
 refine ws _ ?_
 refine bY bl (fun xy o5 fu cv=> ?_)
 refine ws _ ?_
 refine cz h (fun jj h=> ?_) (fun jj h=> ?_)
 ·refine ws _ ?_
  exact bS (fu _ (.inl (bU [.int .i64 (-1)])))
 ·refine cu (o5 _ (.inl ?_))
  refine bY bl (fun mV h7 ht gI=> ?_)
  refine ws _ ?_
  refine ez ht (fun mW hn g6 xz iC=> ?_)
  have xA:∀(n:Nat) (kp:Int) (fW:Int),tJ a0 n kp fW=some r→gG aZ B6 mW (J [(0,.slice (a0.map dz)),(1,.int .i64 kp),(5,.int .i64 fW)]):=by
   intro kt
   induction kt with
   |zero=>intro kp fW h;cases(show none=some r from h)
   |succ kt xB=>
    intro kp fW h
    replace h:B1 (tJ a0 kt) a0 kp fW=some r:=h
    refine iz g6 (fun lg gz gV hJ=> ?_)
    refine bY gV (fun sy ku lh k8=> ?_)
    refine ws _ ?_
    refine cz h (fun nS h=> ?_) (fun nS h=> ?_)
    ·refine cu (ku _ (.inl ?_))
     refine bY gV (fun nT jx jy gy=> ?_)
     refine ez jy (fun sA n15 kv gW k_=> ?_)
     obtain⟨bd,e6,h⟩:=bL h
     obtain⟨bP,jz,h⟩:=bL h
     refine sx e6 (CD bd kp _ jz) _ ?_
     refine ws _ ?_
     refine cz h (fun jA h=> ?_) (fun jA h=> ?_)
     ·refine ws _ ?_
      exact bS (kv _ (.inl (bU [.int .i64 (-1)])))
     ·refine cu (n15 _ (jx _ (.inl ?_)))
      refine wr _ ?_
      exact gz _ (.inr ⟨_,c7 rfl,xB bP (IntKind.i64.wrap (fW+1)) h⟩)
    ·refine ir (k8 0 _ (hJ 0 _ (xz _ (h7 _ (.inl ?_)))))
     refine ws _ ?_
     exact bS (bl _ (.inl (bU [.int .i64 kp])))
  obtain⟨n,h⟩:=h9 h
  exact iu (.inr ⟨_,c7 rfl,xA n (IntKind.i64.wrap (aA-(a0.length:Int))) 0 h⟩)
theorem qJ (a0:eA) (r:aP) (h:nP a0=some r):b8 aZ 16 [dz a0] (aF r) []:=by
 refine eX [0] [.cell 2 35] Try.func16 JE (fun eO bl eM=> ?_)
 refine ws _ ?_
 refine ws _ ?_
 refine ws _ ?_
 refine ws _ ?_
 refine ws _ ?_
 exact bS (bl _ (.inl (bU [aF (aP.mk a0.Name a0.ck)])))
theorem qK (a0:List eA) (r:(List aP)) (h:oR a0=some r):b8 aZ 15 [.slice (a0.map dz)] (.aH 2 (r.map aF)) []:=by
 refine eX [0] [.tmp 2] Try.func15 JN (fun eO bl eM=> ?_)
 refine ws _ ?_
 obtain⟨PL,a1,h⟩:=bL h
 refine ef (dm [(0,.slice (a0.map dz)),(3,.aH 2 ((List.replicate (Int.toNat (a0.length:Int)) (aP.mk ([]:List UInt8) ([]:List UInt8))).map aF))] (fun P aK=> ?_) ?_)
 ·simp only[bA.down,simprocAttr,fy,r8,tI,r9,nN,aF,dz,(pf a1).1,(pf a1).2.1,(pf a1).2.2,eV,List.map_replicate,-Int.reduceNatCast']
  (try simp only[b_.down,simprocAttr,dQ.down,(pf a1).1,(pf a1).2.1,(pf a1).2.2,eV,List.map_replicate,-Int.reduceNatCast']at aK⊢);exact aK
 refine bY bl (fun kx l8 fv cL=> ?_)
 refine ws [(0,.slice (a0.map dz)),(3,.aH 2 ((List.replicate (Int.toNat (a0.length:Int)) (aP.mk ([]:List UInt8) ([]:List UInt8))).map aF)),(4,.int .i64 0)] ?_
 refine ez fv (fun l9 iE hR jk eB=> ?_)
 have xC:∀(n:Nat) (i1:List aP) (hi:Int),tL a0 n i1 hi=some r→gG aZ B7 l9 (J [(0,.slice (a0.map dz)),(3,.aH 2 (i1.map aF)),(4,.int .i64 hi)]):=by
  intro ka
  induction ka with
  |zero=>intro i1 hi h;cases(show none=some r from h)
  |succ ka um=>
   intro i1 hi h
   replace h:B2 (tL a0 ka) a0 i1 hi=some r:=h
   refine iz hR (fun mV h7 ht gI=> ?_)
   refine bY ht (fun mU l7 lf e5=> ?_)
   refine ws _ ?_
   refine cz h (fun hk h=> ?_) (fun hk h=> ?_)
   ·refine cu (l7 _ (.inl ?_))
    refine bY ht (fun sy ku lh k8=> ?_)
    refine ez lh (fun xD o6 qL qM oZ=> ?_)
    obtain⟨bd,jB,h⟩:=bL h
    obtain⟨bP,nU,h⟩:=bL h
    obtain⟨cv,fz,h⟩:=bL h
    refine mF (dm [(0,.slice (a0.map dz)),(3,.aH 2 ((List.set i1 (Int.toNat hi) bP).map aF)),(4,.int .i64 hi)] (fun P aK=> ?_) ?_)
    ·simp only[bA.down,simprocAttr,fy,r8,tI,r9,nN,aF,dz,jB,fz,kA fz,k5,gR]
     refine gw (qJ bd _ nU) rfl rfl rfl rfl (.inl (by rfl)) ?_
     simp only[bA.down,simprocAttr,fy,r8,tI,r9,nN,aF,dz,jB,fz,kA fz,k5,gR]
     (try simp only[b_.down,simprocAttr,dQ.down,jB,fz,kA fz,k5,gR]at aK⊢);exact aK
    refine o6 _ (ku _ (.inl ?_))
    refine wr [(0,.slice (a0.map dz)),(3,.aH 2 ((List.set i1 (Int.toNat hi) bP).map aF)),(4,.int .i64 (IntKind.i64.wrap (hi+1)))] ?_
    exact h7 _ (.inr ⟨_,c7 rfl,um (List.set i1 (Int.toNat hi) bP) (IntKind.i64.wrap (hi+1)) h⟩)
   ·refine ir (e5 0 _ (gI 0 _ (jk _ (l8 _ (.inl ?_)))))
    refine ws _ ?_
    exact bS (bl _ (.inl (bU [.aH 2 (i1.map aF)])))
 obtain⟨n,h⟩:=h9 h
 exact iu (.inr ⟨_,c7 rfl,xC n (List.replicate (Int.toNat (a0.length:Int)) (aP.mk ([]:List UInt8) ([]:List UInt8))) 0 h⟩)
theorem xE (a0:UInt8) (r:Bool) (h:r_ a0=some r):b8 aZ 75 [.int .u8 (a0.toNat:Int)] (.bool r) []:=by
 refine eX [0] [.tmp 2] Try.func75 JQ (fun eO bl eM=> ?_)
 refine ws _ ?_
 refine ef (dm [(2,.bool ((decide (97≤(a0.toNat:Int)))&&(decide ((a0.toNat:Int)≤122))))] (fun P aK=> ?_) ?_)
 ·rcases Bool.eq_false_or_eq_true (decide (97≤(a0.toNat:Int)))with ew|ew
  ·simp only[bA.down,simprocAttr,ew]
   (try simp only[b_.down,simprocAttr,ew]at aK⊢);exact aK
  ·simp only[bA.down,simprocAttr,ew]
   (try simp only[b_.down,simprocAttr,ew]at aK⊢);exact aK
 exact bS (bl _ (.inl (bU [.bool ((decide (97≤(a0.toNat:Int)))&&(decide ((a0.toNat:Int)≤122)))])))
theorem PM (a0:UInt8) (r:Bool) (h:xf a0=some r):b8 aZ 76 [.int .u8 (a0.toNat:Int)] (.bool r) []:=by
 refine eX [0] [.tmp 2] Try.func76 JT (fun eO bl eM=> ?_)
 refine ws _ ?_
 refine ef (dm [(2,.bool ((decide (48≤(a0.toNat:Int)))&&(decide ((a0.toNat:Int)≤57))))] (fun P aK=> ?_) ?_)
 ·rcases Bool.eq_false_or_eq_true (decide (48≤(a0.toNat:Int)))with ew|ew
  ·simp only[bA.down,simprocAttr,ew]
   (try simp only[b_.down,simprocAttr,ew]at aK⊢);exact aK
  ·simp only[bA.down,simprocAttr,ew]
   (try simp only[b_.down,simprocAttr,ew]at aK⊢);exact aK
 exact bS (bl _ (.inl (bU [.bool ((decide (48≤(a0.toNat:Int)))&&(decide ((a0.toNat:Int)≤57)))])))
theorem uo (a0:List UInt8) (r:Bool) (h:sa a0=some r):b8 aZ 39 [.str a0] (.bool r) []:=by
 refine eX [0] [.tmp 2] Try.func39 J6 (fun eO bl eM=> ?_)
 refine ws _ ?_
 refine bY bl (fun iq eo cy bP=> ?_)
 rcases iF h with⟨dy,h⟩|⟨dy,h⟩
 ·refine i5 dy _ ?_
  refine nD rfl ?_
  refine ws _ ?_
  exact bS (cy _ (.inl (bU [.bool false])))
 ·rcases iF h with⟨jk,h⟩|⟨jk,h⟩
  ·refine i5 (And.intro dy jk) _ ?_
   refine nD rfl ?_
   refine ws _ ?_
   exact bS (cy _ (.inl (bU [.bool false])))
  ·obtain⟨bd,ie,h⟩:=bL h
   obtain⟨bP,hW,h⟩:=bL h
   refine ef (dm [(0,.str a0),(16,.bool (!bP))] (fun P aK=> ?_) ?_)
   ·simp only[bA.down,simprocAttr,fy,dy,jk,ie]
    refine qh (xE bd _ hW) rfl rfl rfl rfl (.inl (by rfl)) ?_
    simp only[bA.down,simprocAttr,fy,dy,jk,ie]
    (try simp only[b_.down,simprocAttr,dy,jk,ie]at aK⊢);exact aK
   refine cz h (fun hk h=> ?_) (fun hk h=> ?_)
   ·refine ws _ ?_
    exact bS (cy _ (.inl (bU [.bool false])))
   ·refine cu (eo _ (.inl ?_))
    refine bY bl (fun xD o6 qL oZ=> ?_)
    refine ws _ ?_
    refine ez qL (fun nT jx jy o7 gy=> ?_)
    have o8:∀(n:Nat) (c4:Int),qo a0 n c4=some r→gG aZ B8 nT (J [(0,.str a0),(3,.int .i64 c4)]):=by
     intro i6
     induction i6 with
     |zero=>intro c4 h;cases(show none=some r from h)
     |succ i6 mX=>
      intro c4 h
      replace h:tM (qo a0 i6) a0 c4=some r:=h
      refine iz jy (fun sA n15 kv k_=> ?_)
      refine bY kv (fun CE n16 xF mR=> ?_)
      refine ws _ ?_
      refine cz h (fun h8 h=> ?_) (fun h8 h=> ?_)
      ·refine cu (n16 _ (.inl ?_))
       refine bY kv (fun PN n19 xG qF=> ?_)
       refine ez xG (fun PO n20 xH jA qG=> ?_)
       obtain⟨cv,jC,h⟩:=bL h
       obtain⟨cL,uq,h⟩:=bL h
       rcases iF h with⟨mY,h⟩|⟨mY,h⟩
       ·obtain⟨ca,sB,h⟩:=bL h
        refine ef (dm [(0,.str a0),(3,.int .i64 c4),(34,.bool (!ca))] (fun P aK=> ?_) ?_)
        ·simp only[bA.down,simprocAttr,fy,jC,(iy mY)]
         refine gw (xE cv _ uq) rfl rfl rfl rfl (.inl (by rfl)) ?_
         simp only[bA.down,simprocAttr,fy,jC,(iy mY)]
         refine qh (PM cv _ sB) rfl rfl rfl rfl (.inl (by rfl)) ?_
         simp only[bA.down,simprocAttr,fy,jC,(iy mY)]
         (try simp only[b_.down,simprocAttr,jC,(iy mY)]at aK⊢);exact aK
        refine cz h (fun xI h=> ?_) (fun xI h=> ?_)
        ·refine ws _ ?_
         exact bS (xH _ (.inl (bU [.bool false])))
        ·refine cu (n20 _ (n19 _ (.inl ?_)))
         refine wr _ ?_
         exact n15 _ (.inr ⟨_,c7 rfl,mX (IntKind.i64.wrap (c4+1)) h⟩)
       ·refine sx (And.intro jC (fl mY)) (xE cv _ uq) _ ?_
        refine oJ rfl ?_
        refine cu (n20 _ (n19 _ (.inl ?_)))
        refine wr _ ?_
        exact n15 _ (.inr ⟨_,c7 rfl,mX (IntKind.i64.wrap (c4+1)) h⟩)
      ·refine ir (mR 0 _ (k_ 0 _ (o7 _ (o6 _ (.inl ?_)))))
       refine ws _ ?_
       exact bS (bl _ (.inl (bU [.bool true])))
    obtain⟨n,h⟩:=h9 h
    exact iu (.inr ⟨_,c7 rfl,o8 n 0 h⟩)
theorem PQ (a0:List UInt8) (aA:Int) (r:Int) (h:qt a0 aA=some r):b8 aZ 77 [.str a0,.int .i64 aA] (.int .i64 r) []:=by
 refine eX [0] [.tmp 4] Try.func77 Kk (fun eO bl eM=> ?_)
 refine ws _ ?_
 refine bY bl (fun iq eo cy bP=> ?_)
 refine ws _ ?_
 refine ez cy (fun kx l8 fv dy cL=> ?_)
 have mZ:∀(n:Nat) (c1:Int) (cN:Int),iB a0 n c1 cN=some r→gG aZ Ca kx (J [(0,.str a0),(1,.int .i64 c1),(5,.int .i64 cN)]):=by
  intro eG
  induction eG with
  |zero=>intro c1 cN h;cases(show none=some r from h)
  |succ eG lj=>
   intro c1 cN h
   replace h:sd (iB a0 eG) a0 c1 cN=some r:=h
   refine iz fv (fun o9 jD g0 ca=> ?_)
   refine bY g0 (fun l9 iE hR eB=> ?_)
   refine ws _ ?_
   refine cz h (fun hc h=> ?_) (fun hc h=> ?_)
   ·refine cu (iE _ (.inl ?_))
    refine bY g0 (fun mW hn g6 iC=> ?_)
    refine ez g6 (fun lg gz gV hk hJ=> ?_)
    obtain⟨bd,kM,h⟩:=bL h
    refine i5 (And.intro kM (And.intro (@jP aZ 5 2 .i64 rfl rfl) (@BJ .i64 .u64 8 256 (by decide) (by decide)))) [(0,.str a0),(1,.int .i64 (bitsOf .xor .i64 c1 (IntKind.i64.wrap ((bd.toNat:Int)*256)))),(5,.int .i64 cN)] ?_
    refine ws _ ?_
    refine ez gV (fun nT jx jy o7 gy=> ?_)
    have PR:∀(n:Nat) (iA:Int) (i2:Int) (ju:Int),lZ (iB a0 eG) a0 n iA i2 ju=some r→gG aZ B_ nT (J [(0,.str a0),(1,.int .i64 iA),(5,.int .i64 i2),(6,.int .i64 ju)]):=by
     intro ur
     induction ur with
     |zero=>intro iA i2 ju h;cases(show none=some r from h)
     |succ ur PS=>
      intro iA i2 ju h
      replace h:sc (iB a0 eG) (lZ (iB a0 eG) a0 ur) a0 iA i2 ju=some r:=h
      refine iz jy (fun sA n15 kv k_=> ?_)
      refine bY kv (fun CE n16 xF mR=> ?_)
      refine ws _ ?_
      refine cz h (fun h8 h=> ?_) (fun h8 h=> ?_)
      ·refine cu (n16 _ (.inl ?_))
       have CF:∀(qp:Int) (qq:Int) (qs:Int),sb (iB a0 eG) (lZ (iB a0 eG) a0 ur) a0 qp qq qs=some r→bW aZ B9 sA (J [(0,.str a0),(1,.int .i64 qp),(5,.int .i64 qq),(6,.int .i64 qs)]):=by
        intro qp qq qs h
        refine wr _ ?_
        exact n15 _ (.inr ⟨_,c7 rfl,PS qp qq (IntKind.i64.wrap (qs+1)) h⟩)
       refine bY kv (fun PN n19 xG qF=> ?_)
       refine ez xG (fun CG n21 CH g7 PT=> ?_)
       refine i5 (@BJ .i64 .u64 1 2 (by decide) (by decide)) [(0,.str a0),(1,.int .i64 (IntKind.i64.wrap (iA*2))),(5,.int .i64 i2),(6,.int .i64 ju)] ?_
       refine ws _ ?_
       refine cz h (fun mY h=> ?_) (fun mY h=> ?_)
       ·refine wr _ ?_
        exact n21 _ (n19 _ (.inr ⟨_,c7 rfl,CF (bitsOf .xor .i64 (bitsOf .and .i64 (IntKind.i64.wrap (iA*2)) 65535) 4129) i2 ju h⟩))
       ·exact cu (n21 _ (n19 _ (.inr ⟨_,c7 rfl,CF (IntKind.i64.wrap (iA*2)) i2 ju h⟩)))
      ·refine ir (mR 2 _ (k_ 2 _ (o7 _ (gz _ (hn _ (.inl ?_))))))
       refine wr _ ?_
       exact jD _ (.inr ⟨_,c7 rfl,lj iA (IntKind.i64.wrap (i2+1)) h⟩)
    obtain⟨n,h⟩:=h9 h
    exact iu (.inr ⟨_,c7 rfl,PR n (bitsOf .xor .i64 c1 (IntKind.i64.wrap ((bd.toNat:Int)*256))) cN 0 h⟩)
   ·refine ir (eB 0 _ (ca 0 _ (dy _ (eo _ (.inl ?_)))))
    refine ws _ ?_
    exact bS (bl _ (.inl (bU [.int .i64 c1])))
 obtain⟨n,h⟩:=h9 h
 exact iu (.inr ⟨_,c7 rfl,mZ n aA 0 h⟩)
theorem CI (a0:Int) (aA:Int) (cn:Int) (r:Bool) (h:tO a0 aA cn=some r):b8 aZ 78 [.int .i64 a0,.int .i64 aA,.int .i64 cn] (.bool r) []:=by
 refine eX [0,1,2] [.tmp 6] Try.func78 Kn (fun eO bl eM=> ?_)
 refine ws _ ?_
 refine ef (dm [(6,.bool ((decide (aA≤a0))&&(decide (a0≤cn))))] (fun P aK=> ?_) ?_)
 ·rcases Bool.eq_false_or_eq_true (decide (aA≤a0))with ew|ew
  ·simp only[bA.down,simprocAttr,ew]
   (try simp only[b_.down,simprocAttr,ew]at aK⊢);exact aK
  ·simp only[bA.down,simprocAttr,ew]
   (try simp only[b_.down,simprocAttr,ew]at aK⊢);exact aK
 exact bS (bl _ (.inl (bU [.bool ((decide (aA≤a0))&&(decide (a0≤cn)))])))
theorem xJ (a0:List UInt8) (r:Int×Int) (h:oS a0=some r):b8 aZ 40 [.str a0] (.tuple [.int .i64 r.1,.int .i64 r.2]) []:=by
 refine eX [0] [.tmp 2,.tmp 3] Try.func40 KB (fun eO bl eM=> ?_)
 refine ws _ ?_
 refine ws _ ?_
 refine bY bl (fun xy o5 fu cv=> ?_)
 refine ws _ ?_
 refine cz h (fun jj h=> ?_) (fun jj h=> ?_)
 ·refine ws _ ?_
  exact bS (fu _ (.inl (bU [.int .i64 0,.int .i64 11])))
 ·refine cu (o5 _ (.inl ?_))
  refine bY bl (fun mV h7 ht gI=> ?_)
  obtain⟨bd,hW,h⟩:=bL h
  obtain⟨bP,jJ,h⟩:=bL h
  obtain⟨cv,oa,h⟩:=bL h
  obtain⟨cL,kM,h⟩:=bL h
  refine iZ rfl (i0 [(0,.str a0),(4,.int .i64 (a0.length:Int)),(27,.bool (bP !=(IntKind.i64.wrap ((IntKind.i64.wrap ((cv.toNat:Int)*256))+(cL.toNat:Int)))))] (fun P aK=> ?_) ?_)
  ·simp only[c_.down,simprocAttr,fy,hW,oa, @jP aZ 5 2 .i64 rfl rfl,kM]
   refine gx (PQ bd 65535 _ jJ) rfl rfl rfl rfl (.inl (by rfl)) ?_
   simp only[c_.down,simprocAttr,fy,hW,oa, @jP aZ 5 2 .i64 rfl rfl,kM]
   refine⟨hh (by kernel_rfl),?_⟩
   (try simp only[b_.down,simprocAttr,hW,oa, @jP aZ 5 2 .i64 rfl rfl,kM]at aK⊢);exact aK
  refine cz h (fun nS h=> ?_) (fun nS h=> ?_)
  ·refine ws _ ?_
   exact bS (ht _ (.inl (bU [.int .i64 0,.int .i64 10])))
  ·refine cu (h7 _ (.inl ?_))
   obtain⟨ca,fz,h⟩:=bL h
   refine i5 (And.intro fz (@jP aZ 5 2 .i64 rfl rfl)) _ ?_
   refine bY bl (fun Sg n17 PU so=> ?_)
   obtain⟨eB,jE,h⟩:=bL h
   refine ef (dm [(5,.int .i64 (ca.toNat:Int)),(37,.bool ((!eB)||(decide (6000<(a0.length:Int)))))] (fun P aK=> ?_) ?_)
   ·rcases Bool.eq_false_or_eq_true (eB)with o_|o_
    ·simp only[bA.down,simprocAttr,o_]
     refine gw (CI (ca.toNat:Int) 1 3 _ jE) rfl rfl rfl rfl (.inl (by rfl)) ?_
     simp only[bA.down,simprocAttr,o_]
     (try simp only[b_.down,simprocAttr,o_]at aK⊢);exact aK
    ·simp only[bA.down,simprocAttr,o_]
     refine gw (CI (ca.toNat:Int) 1 3 _ jE) rfl rfl rfl rfl (.inl (by rfl)) ?_
     simp only[bA.down,simprocAttr,o_]
     (try simp only[b_.down,simprocAttr,o_]at aK⊢);exact aK
   refine cz h (fun g7 h=> ?_) (fun g7 h=> ?_)
   ·refine ws _ ?_
    exact bS (PU _ (.inl (bU [.int .i64 0,.int .i64 9])))
   ·refine cu (n17 _ (.inl ?_))
    refine ws _ ?_
    exact bS (bl _ (.inl (bU [.int .i64 (ca.toNat:Int),.int .i64 0])))
theorem PV (a0:List aP) (r:Bool) (h:tQ a0=some r):b8 aZ 38 [.slice (a0.map aF)] (.bool r) []:=by
 refine eX [0] [.tmp 2] Try.func38 KS (fun eO bl eM=> ?_)
 refine ws _ ?_
 refine bY bl (fun iq eo cy bP=> ?_)
 refine ws _ ?_
 refine cz h (fun dy h=> ?_) (fun dy h=> ?_)
 ·refine ws _ ?_
  exact bS (cy _ (.inl (bU [.bool false])))
 ·refine cu (eo _ (.inl ?_))
  refine bY bl (fun l9 iE hR eB=> ?_)
  refine ws _ ?_
  refine ez hR (fun mU l7 lf hc e5=> ?_)
  have o8:∀(n:Nat) (c4:Int),qu a0 n c4=some r→gG aZ Cb mU (J [(0,.slice (a0.map aF)),(3,.int .i64 c4)]):=by
   intro i6
   induction i6 with
   |zero=>intro c4 h;cases(show none=some r from h)
   |succ i6 mX=>
    intro c4 h
    replace h:tP (qu a0 i6) a0 c4=some r:=h
    refine iz lf (fun mW hn g6 iC=> ?_)
    refine bY g6 (fun lg gz gV hJ=> ?_)
    refine ws _ ?_
    refine cz h (fun qM h=> ?_) (fun qM h=> ?_)
    ·refine cu (gz _ (.inl ?_))
     refine bY g6 (fun qN jU l_ k9=> ?_)
     refine ez l_ (fun nT jx jy o7 gy=> ?_)
     refine bY jy (fun sA n15 kv k_=> ?_)
     obtain⟨bd,e6,h⟩:=bL h
     obtain⟨bP,jz,h⟩:=bL h
     rcases iF h with⟨hK,h⟩|⟨hK,h⟩
     ·refine iZ rfl (i0 [(0,.slice (a0.map aF)),(3,.int .i64 c4),(39,.bool true)] (fun P aK=> ?_) ?_)
      ·simp only[c_.down,simprocAttr,dA.down,e6,(iy hK)]
       refine gx (uo bd.Name _ jz) rfl rfl rfl rfl (.inl (by rfl)) ?_
       simp only[c_.down,simprocAttr,dA.down,e6,(iy hK)]
       refine⟨hh (by kernel_rfl),?_⟩
       (try simp only[b_.down,simprocAttr,aF,e6,(iy hK)]at aK⊢);exact aK
      refine nD rfl ?_
      refine ws _ ?_
      exact bS (kv _ (.inl (bU [.bool false])))
     ·rcases iF h with⟨g7,h⟩|⟨g7,h⟩
      ·obtain⟨cv,jC,h⟩:=bL h
       refine iZ rfl (i0 [(0,.slice (a0.map aF)),(3,.int .i64 c4),(39,.bool (!(Op.bytesLess cv.Name bd.Name)))] (fun P aK=> ?_) ?_)
       ·simp only[c_.down,simprocAttr,dA.down,e6,(fl hK),g7,jC]
        refine gx (uo bd.Name _ jz) rfl rfl rfl rfl (.inl (by rfl)) ?_
        simp only[c_.down,simprocAttr,dA.down,e6,(fl hK),g7,jC]
        refine⟨hh (by kernel_rfl),?_⟩
        (try simp only[b_.down,simprocAttr,aF,e6,(fl hK),g7,jC]at aK⊢);exact aK
       refine cz h (fun xK h=> ?_) (fun xK h=> ?_)
       ·refine ws _ ?_
        exact bS (kv _ (.inl (bU [.bool false])))
       ·refine cu (n15 _ (.inl ?_))
        obtain⟨cL,uu,h⟩:=bL h
        refine sx e6 (xJ bd.ck _ uu) _ ?_
        refine ws _ ?_
        refine cz h (fun uv h=> ?_) (fun uv h=> ?_)
        ·refine ws _ ?_
         exact bS (jy _ (.inl (bU [.bool false])))
        ·refine cu (jx _ (jU _ (.inl ?_)))
         refine wr _ ?_
         exact hn _ (.inr ⟨_,c7 rfl,mX (IntKind.i64.wrap (c4+1)) h⟩)
      ·refine iZ rfl (i0 [(0,.slice (a0.map aF)),(3,.int .i64 c4),(39,.bool false)] (fun P aK=> ?_) ?_)
       ·simp only[c_.down,simprocAttr,dA.down,e6,(fl hK),g7]
        refine gx (uo bd.Name _ jz) rfl rfl rfl rfl (.inl (by rfl)) ?_
        simp only[c_.down,simprocAttr,dA.down,e6,(fl hK),g7]
        refine⟨hh (by kernel_rfl),?_⟩
        (try simp only[b_.down,simprocAttr,aF,e6,(fl hK),g7]at aK⊢);exact aK
       refine oJ rfl ?_
       refine cu (n15 _ (.inl ?_))
       obtain⟨ca,pa,h⟩:=bL h
       refine sx e6 (xJ bd.ck _ pa) _ ?_
       refine ws _ ?_
       refine cz h (fun xL h=> ?_) (fun xL h=> ?_)
       ·refine ws _ ?_
        exact bS (jy _ (.inl (bU [.bool false])))
       ·refine cu (jx _ (jU _ (.inl ?_)))
        refine wr _ ?_
        exact hn _ (.inr ⟨_,c7 rfl,mX (IntKind.i64.wrap (c4+1)) h⟩)
    ·refine ir (hJ 0 _ (iC 0 _ (hc _ (iE _ (.inl ?_)))))
     refine ws _ ?_
     exact bS (bl _ (.inl (bU [.bool true])))
  obtain⟨n,h⟩:=h9 h
  exact iu (.inr ⟨_,c7 rfl,o8 n 0 h⟩)
theorem PW (a0:List aP) (aA:aP) (r:(List aP)) (h:tU a0 aA=some r):b8 aZ 31 [.slice (a0.map aF),aF aA] (.aH 2 (r.map aF)) []:=by
 refine eX [0,1] [.tmp 4] Try.func31 K8 (fun eO bl eM=> ?_)
 refine ws _ ?_
 refine i5 (show∀s,c0 aZ s 22 0 []=some (.aH 2 [],s)from fun s=>by kernel_rfl) _ ?_
 refine ws _ ?_
 refine bY bl (fun kx l8 fv cL=> ?_)
 refine ws _ ?_
 refine ez fv (fun l9 iE hR jk eB=> ?_)
 have PX:∀(n:Nat) (fX:List aP) (l1:Bool) (g4:Int),mP a0 aA n fX l1 g4=some r→gG aZ Ce l9 (J [(0,.slice (a0.map aF)),(3,.bm (aF aA)),(5,.aH 2 (fX.map aF)),(6,.bool l1),(7,.int .i64 g4)]):=by
  intro lF
  induction lF with
  |zero=>intro fX l1 g4 h;cases(show none=some r from h)
  |succ lF PY=>
   intro fX l1 g4 h
   replace h:tT (mP a0 aA lF) a0 aA fX l1 g4=some r:=h
   refine iz hR (fun mV h7 ht gI=> ?_)
   refine bY ht (fun mU l7 lf e5=> ?_)
   refine ws _ ?_
   refine cz h (fun hk h=> ?_) (fun hk h=> ?_)
   ·refine cu (l7 _ (.inl ?_))
    have CJ:∀(gH:List aP) (qv:Bool) (qw:Int),tR (mP a0 aA lF) a0 aA gH qv qw=some r→bW aZ Cd mV (J [(0,.slice (a0.map aF)),(3,.bm (aF aA)),(5,.aH 2 (gH.map aF)),(6,.bool qv),(7,.int .i64 qw)]):=by
     intro gH qv qw h
     refine wr _ ?_
     exact h7 _ (.inr ⟨_,c7 rfl,PY gH qv (IntKind.i64.wrap (qw+1)) h⟩)
    refine bY ht (fun sy ku lh k8=> ?_)
    refine ez lh (fun qN jU l_ nS k9=> ?_)
    have xM:∀(k6:List aP) (l0:Bool) (k7:Int),se (mP a0 aA lF) a0 aA k6 l0 k7=some r→bW aZ Cc qN (J [(0,.slice (a0.map aF)),(3,.bm (aF aA)),(5,.aH 2 (k6.map aF)),(6,.bool l0),(7,.int .i64 k7)]):=by
     intro k6 l0 k7 h
     obtain⟨bd,fz,h⟩:=bL h
     refine iZ rfl (i0 [(0,.slice (a0.map aF)),(3,.bm (aF aA)),(5,.aH 2 (k6.map aF)),(6,.bool l0),(7,.int .i64 k7),(38,.bool (!(bd.Name==aA.Name)))] (fun P aK=> ?_) ?_)
     ·simp only[c_.down,simprocAttr,dA.down,fz]
      refine⟨hh (by kernel_rfl),?_⟩
      (try simp only[b_.down,simprocAttr,aF,fz]at aK⊢);exact aK
     refine cz h (fun m0 h=> ?_) (fun m0 h=> ?_)
     ·obtain⟨Sh,jE,h⟩:=bL h
      (try simp only[o1.down,Nat.reduceAdd]at jE)
      refine mF (dm [(0,.slice (a0.map aF)),(3,.bm (aF aA)),(5,.aH 2 ((k6++[bd]).map aF)),(6,.bool l0),(7,.int .i64 k7)] (fun P aK=> ?_) ?_)
      ·simp only[bA.down,simprocAttr,dA.down,fz,(show∀s,c0 aZ s 22 1 [(0,.agg [.str bd.Name,.str bd.ck])]=some (.aH 2 [.agg [.str bd.Name,.str bd.ck]],s)from fun s=>by kernel_rfl), @lU aZ 22 22 35 rfl rfl,lV,lW,lX,all_cons,all_nil,jE, @lT _ aF 2 (fun _=>rfl)]
       (try simp only[b_.down,simprocAttr,aF,fz,(show∀s,c0 aZ s 22 1 [(0,.agg [.str bd.Name,.str bd.ck])]=some (.aH 2 [.agg [.str bd.Name,.str bd.ck]],s)from fun s=>by kernel_rfl), @lU aZ 22 22 35 rfl rfl,lV,lW,lX,all_cons,all_nil,jE, @lT _ aF 2 (fun _=>rfl)]at aK⊢);exact aK
      exact jU _ (ku _ (.inr ⟨_,c7 rfl,CJ (k6++[bd]) l0 k7 h⟩))
     ·exact cu (jU _ (ku _ (.inr ⟨_,c7 rfl,CJ k6 l0 k7 h⟩)))
    refine bY l_ (fun nT jx jy gy=> ?_)
    rcases iF h with⟨g7,h⟩|⟨g7,h⟩
    ·obtain⟨bP,jC,h⟩:=bL h
     refine iZ rfl (i0 [(0,.slice (a0.map aF)),(3,.bm (aF aA)),(5,.aH 2 (fX.map aF)),(6,.bool false),(7,.int .i64 g4),(26,.bool (!(Op.bytesLess bP.Name aA.Name)))] (fun P aK=> ?_) ?_)
     ·simp only[c_.down,simprocAttr,dA.down,(iy g7),jC]
      refine⟨hh (by kernel_rfl),?_⟩
      (try simp only[b_.down,simprocAttr,aF,(iy g7),jC]at aK⊢);exact aK
     refine cz h (fun xK h=> ?_) (fun xK h=> ?_)
     ·obtain⟨Si,sB,h⟩:=bL h
      (try simp only[o1.down,Nat.reduceAdd]at sB)
      refine ef (dm [(0,.slice (a0.map aF)),(3,.bm (aF aA)),(5,.aH 2 ((fX++[aA]).map aF)),(7,.int .i64 g4)] (fun P aK=> ?_) ?_)
      ·simp only[bA.down,simprocAttr,dA.down,(show∀s,c0 aZ s 22 1 [(0,.agg [.str aA.Name,.str aA.ck])]=some (.aH 2 [.agg [.str aA.Name,.str aA.ck]],s)from fun s=>by kernel_rfl), @lU aZ 22 22 35 rfl rfl,lV,lW,lX,all_cons,all_nil,sB, @lT _ aF 2 (fun _=>rfl)]
       (try simp only[b_.down,simprocAttr,aF,(show∀s,c0 aZ s 22 1 [(0,.agg [.str aA.Name,.str aA.ck])]=some (.aH 2 [.agg [.str aA.Name,.str aA.ck]],s)from fun s=>by kernel_rfl), @lU aZ 22 22 35 rfl rfl,lV,lW,lX,all_cons,all_nil,sB, @lT _ aF 2 (fun _=>rfl)]at aK⊢);exact aK
      refine wr [(0,.slice (a0.map aF)),(3,.bm (aF aA)),(5,.aH 2 ((fX++[aA]).map aF)),(6,.bool true),(7,.int .i64 g4)] ?_
      exact jx _ (.inr ⟨_,c7 rfl,xM (fX++[aA]) true g4 h⟩)
     ·exact cu (jx _ (.inr ⟨_,c7 rfl,xM fX false g4 h⟩))
    ·refine iZ rfl (i0 [(0,.slice (a0.map aF)),(3,.bm (aF aA)),(5,.aH 2 (fX.map aF)),(6,.bool true),(7,.int .i64 g4),(26,.bool false)] (fun P aK=> ?_) ?_)
     ·simp only[c_.down,simprocAttr,dA.down,(fl g7)]
      refine⟨hh (by kernel_rfl),?_⟩
      (try simp only[b_.down,simprocAttr,aF,(fl g7)]at aK⊢);exact aK
     refine oJ rfl ?_
     exact cu (jx _ (.inr ⟨_,c7 rfl,xM fX true g4 h⟩))
   ·refine ir (e5 0 _ (gI 0 _ (jk _ (l8 _ (.inl ?_)))))
    have CK:∀(qx:List aP),tS qx=some r→bW aZ Cf eO (J [(5,.aH 2 (qx.map aF))]):=by
     intro qx h
     refine ws _ ?_
     exact bS (bl _ (.inl (bU [.aH 2 (qx.map aF)])))
    refine bY bl (fun Sj n27 Sk Sl=> ?_)
    refine ws _ ?_
    refine cz h (fun xN h=> ?_) (fun xN h=> ?_)
    ·obtain⟨u32,pa,h⟩:=bL h
     (try simp only[o1.down,Nat.reduceAdd]at pa)
     refine mF (dm [(5,.aH 2 ((fX++[aA]).map aF))] (fun P aK=> ?_) ?_)
     ·simp only[bA.down,simprocAttr,dA.down,(show∀s,c0 aZ s 22 1 [(0,.agg [.str aA.Name,.str aA.ck])]=some (.aH 2 [.agg [.str aA.Name,.str aA.ck]],s)from fun s=>by kernel_rfl), @lU aZ 22 22 35 rfl rfl,lV,lW,lX,all_cons,all_nil,pa, @lT _ aF 2 (fun _=>rfl)]
      (try simp only[b_.down,simprocAttr,aF,(show∀s,c0 aZ s 22 1 [(0,.agg [.str aA.Name,.str aA.ck])]=some (.aH 2 [.agg [.str aA.Name,.str aA.ck]],s)from fun s=>by kernel_rfl), @lU aZ 22 22 35 rfl rfl,lV,lW,lX,all_cons,all_nil,pa, @lT _ aF 2 (fun _=>rfl)]at aK⊢);exact aK
     exact n27 _ (.inr ⟨_,c7 rfl,CK (fX++[aA]) h⟩)
    ·exact cu (n27 _ (.inr ⟨_,c7 rfl,CK fX h⟩))
 obtain⟨n,h⟩:=h9 h
 exact iu (.inr ⟨_,c7 rfl,PX n [] false 0 h⟩)
theorem CL (a0:List aP) (aA:aP) (r:(List aP)×Int) (h:tV a0 aA=some r):b8 aZ 14 [.slice (a0.map aF),aF aA] (.tuple [.aH 2 (r.1.map aF),.int .i64 r.2]) []:=by
 refine eX [0,1] [.tmp 4,.tmp 5] Try.func14 o0 (fun eO bl eM=> ?_)
 refine ws _ ?_
 refine bY bl (fun iq eo cy bP=> ?_)
 obtain⟨bd,b2,h⟩:=bL h
 refine h6 (PV a0 _ b2) _ ?_
 refine cz h (fun jj h=> ?_) (fun jj h=> ?_)
 ·refine ws _ ?_
  exact bS (cy _ (.inr ⟨[(4,.aH 2 []),(5,.int .i64 1)],mG [] rfl (mI (t:=4) (d:=.bt) rfl rfl (.iV _) (by decide) (nF rfl (mH))),bU [.aH 2 [],.int .i64 1]⟩))
 ·refine cu (eo _ (.inl ?_))
  refine bY bl (fun mV h7 ht gI=> ?_)
  obtain⟨bP,hW,h⟩:=bL h
  refine h6 (uo aA.Name _ hW) _ ?_
  refine cz h (fun hk h=> ?_) (fun hk h=> ?_)
  ·refine ws _ ?_
   exact bS (ht _ (.inr ⟨[(4,.aH 2 []),(5,.int .i64 2)],mG [] rfl (mI (t:=4) (d:=.bt) rfl rfl (.iV _) (by decide) (nF rfl (mH))),bU [.aH 2 [],.int .i64 2]⟩))
  ·refine cu (h7 _ (.inl ?_))
   obtain⟨cv,fF,h⟩:=bL h
   refine h6 (xJ aA.ck _ fF) _ ?_
   refine bY bl (fun nT jx jy gy=> ?_)
   refine ws _ ?_
   refine cz h (fun lk h=> ?_) (fun lk h=> ?_)
   ·refine ws _ ?_
    exact bS (jy _ (.inr ⟨[(4,.aH 2 []),(5,.int .i64 cv.2)],mG [] rfl (mI (t:=4) (d:=.bt) rfl rfl (.iV _) (by decide) (nF rfl (mH))),bU [.aH 2 [],.int .i64 cv.2]⟩))
   ·refine cu (jx _ (.inl ?_))
    obtain⟨cL,jE,h⟩:=bL h
    refine h6 (PW a0 aA _ jE) _ ?_
    refine bY bl (fun PO n20 xH qG=> ?_)
    refine ws _ ?_
    refine cz h (fun sC h=> ?_) (fun sC h=> ?_)
    ·refine ws _ ?_
     exact bS (xH _ (.inr ⟨[(4,.aH 2 []),(5,.int .i64 5)],mG [] rfl (mI (t:=4) (d:=.bt) rfl rfl (.iV _) (by decide) (nF rfl (mH))),bU [.aH 2 [],.int .i64 5]⟩))
    ·refine cu (n20 _ (.inl ?_))
     refine ws _ ?_
     exact bS (bl _ (.inl (bU [.aH 2 (cL.map aF),.int .i64 0])))
theorem PZ (a0:UInt8) (r:Bool) (h:xg a0=some r):b8 aZ 79 [.int .u8 (a0.toNat:Int)] (.bool r) []:=by
 refine eX [0] [.tmp 2] Try.func79 Lq (fun eO bl eM=> ?_)
 refine ws _ ?_
 refine ef (dm [(2,.bool ((decide (48≤(a0.toNat:Int)))&&(decide ((a0.toNat:Int)≤57))))] (fun P aK=> ?_) ?_)
 ·rcases Bool.eq_false_or_eq_true (decide (48≤(a0.toNat:Int)))with ew|ew
  ·simp only[bA.down,simprocAttr,ew]
   (try simp only[b_.down,simprocAttr,ew]at aK⊢);exact aK
  ·simp only[bA.down,simprocAttr,ew]
   (try simp only[b_.down,simprocAttr,ew]at aK⊢);exact aK
 exact bS (bl _ (.inl (bU [.bool ((decide (48≤(a0.toNat:Int)))&&(decide ((a0.toNat:Int)≤57)))])))
theorem sD (a0:List UInt8) (r:Bool) (h:sg a0=some r):b8 aZ 42 [.str a0] (.bool r) []:=by
 refine eX [0] [.tmp 2] Try.func42 LD (fun eO bl eM=> ?_)
 refine ws _ ?_
 refine bY bl (fun iq eo cy bP=> ?_)
 refine ws _ ?_
 refine ez cy (fun kx l8 fv dy cL=> ?_)
 have mZ:∀(n:Nat) (dU:Int),mQ a0 n dU=some r→gG aZ Cg kx (J [(0,.str a0),(6,.int .i64 (a0.length:Int)),(7,.int .i64 dU)]):=by
  intro eG
  induction eG with
  |zero=>intro dU h;cases(show none=some r from h)
  |succ eG lj=>
   intro dU h
   replace h:sf (mQ a0 eG) a0 dU=some r:=h
   refine iz fv (fun o9 jD g0 ca=> ?_)
   refine ws _ ?_
   refine bY g0 (fun mV h7 ht gI=> ?_)
   refine cz h (fun hc h=> ?_) (fun hc h=> ?_)
   ·refine cu (h7 _ (.inl ?_))
    refine bY g0 (fun mW hn g6 iC=> ?_)
    refine ez g6 (fun lg gz gV hk hJ=> ?_)
    refine ws _ ?_
    obtain⟨bd,fF,h⟩:=bL h
    refine ef (dm [(0,.str a0),(3,.int .i64 dU),(4,.bool ((decide (97≤(bd.toNat:Int)))&&(decide ((bd.toNat:Int)≤122)))),(6,.int .i64 (a0.length:Int)),(7,.int .i64 dU)] (fun P aK=> ?_) ?_)
    ·rcases Bool.eq_false_or_eq_true (decide (97≤(bd.toNat:Int)))with o0|o0
     ·simp only[bA.down,simprocAttr,fy,fF,o0]
      (try simp only[b_.down,simprocAttr,fF,o0]at aK⊢);exact aK
     ·simp only[bA.down,simprocAttr,fy,fF,o0]
      (try simp only[b_.down,simprocAttr,fF,o0]at aK⊢);exact aK
    rcases iF h with⟨lk,h⟩|⟨lk,h⟩
    ·rcases iF h with⟨m0,h⟩|⟨m0,h⟩
     ·refine i5 (And.intro lk m0) _ ?_
      refine nD rfl ?_
      refine ws _ ?_
      exact bS (gV _ (.inl (bU [.bool false])))
     ·obtain⟨bP,jE,h⟩:=bL h
      refine ef (dm [(0,.str a0),(6,.int .i64 (a0.length:Int)),(7,.int .i64 dU),(32,.bool (!bP))] (fun P aK=> ?_) ?_)
      ·simp only[bA.down,simprocAttr,fy,lk,m0,fF]
       refine qh (PZ bd _ jE) rfl rfl rfl rfl (.inl (by rfl)) ?_
       simp only[bA.down,simprocAttr,fy,lk,m0,fF]
       (try simp only[b_.down,simprocAttr,lk,m0,fF]at aK⊢);exact aK
      refine cz h (fun jA h=> ?_) (fun jA h=> ?_)
      ·refine ws _ ?_
       exact bS (gV _ (.inl (bU [.bool false])))
      ·refine cu (gz _ (hn _ (.inl ?_)))
       refine wr _ ?_
       exact jD _ (.inr ⟨_,c7 rfl,lj (IntKind.i64.wrap (dU+1)) h⟩)
    ·refine i5 lk _ ?_
     refine oJ rfl ?_
     refine cu (gz _ (hn _ (.inl ?_)))
     refine wr _ ?_
     exact jD _ (.inr ⟨_,c7 rfl,lj (IntKind.i64.wrap (dU+1)) h⟩)
   ·refine ir (gI 0 _ (ca 0 _ (dy _ (eo _ (.inl ?_)))))
    refine ef (dm [(2,.bool ((decide (1≤(a0.length:Int)))&&(decide ((a0.length:Int)≤10))))] (fun P aK=> ?_) ?_)
    ·rcases Bool.eq_false_or_eq_true (decide (1≤(a0.length:Int)))with sE|sE
     ·simp only[bA.down,simprocAttr,fy,sE]
      (try simp only[b_.down,simprocAttr,sE]at aK⊢);exact aK
     ·simp only[bA.down,simprocAttr,fy,sE]
      (try simp only[b_.down,simprocAttr,sE]at aK⊢);exact aK
    exact bS (bl _ (.inl (bU [.bool ((decide (1≤(a0.length:Int)))&&(decide ((a0.length:Int)≤10)))])))
 obtain⟨n,h⟩:=h9 h
 exact iu (.inr ⟨_,c7 rfl,mZ n 0 h⟩)
theorem xO (a0:Int) (aA:Int) (cn:Int) (r:Bool) (h:si a0 aA cn=some r):b8 aZ 81 [.int .i64 a0,.int .i64 aA,.int .i64 cn] (.bool r) []:=by
 refine eX [0,1,2] [.tmp 6] Try.func81 LH (fun eO bl eM=> ?_)
 refine ws _ ?_
 refine ef (dm [(6,.bool ((decide (aA≤a0))&&(decide (a0≤cn))))] (fun P aK=> ?_) ?_)
 ·rcases Bool.eq_false_or_eq_true (decide (aA≤a0))with ew|ew
  ·simp only[bA.down,simprocAttr,ew]
   (try simp only[b_.down,simprocAttr,ew]at aK⊢);exact aK
  ·simp only[bA.down,simprocAttr,ew]
   (try simp only[b_.down,simprocAttr,ew]at aK⊢);exact aK
 exact bS (bl _ (.inl (bU [.bool ((decide (aA≤a0))&&(decide (a0≤cn)))])))
theorem P0 (a0:List UInt8) (aA:Int) (r:Int) (h:tY a0 aA=some r):b8 aZ 80 [.str a0,.int .i64 aA] (.int .i64 r) []:=by
 refine eX [0,1] [.tmp 4] Try.func80 L2 (fun eO bl eM=> ?_)
 refine ws _ ?_
 refine bY bl (fun iq eo cy bP=> ?_)
 obtain⟨bd,b2,h⟩:=bL h
 refine h6 (xO aA 0 65535 _ b2) _ ?_
 refine cz h (fun jj h=> ?_) (fun jj h=> ?_)
 ·refine ws _ ?_
  exact bS (cy _ (.inl (bU [.int .i64 0])))
 ·refine cu (eo _ (.inl ?_))
  refine ws _ ?_
  refine bY bl (fun mU l7 lf e5=> ?_)
  refine ws _ ?_
  refine ez lf (fun lg gz gV hk hJ=> ?_)
  have xA:∀(n:Nat) (fW:Int) (kq:Int),kr a0 n fW kq=some r→gG aZ Cj lg (J [(0,.str a0),(5,.int .i64 fW),(12,.int .i64 (a0.length:Int)),(13,.int .i64 kq)]):=by
   intro kt
   induction kt with
   |zero=>intro fW kq h;cases(show none=some r from h)
   |succ kt xB=>
    intro fW kq h
    replace h:xi (kr a0 kt) a0 fW kq=some r:=h
    refine iz gV (fun sy ku lh k8=> ?_)
    refine ws _ ?_
    refine bY lh (fun qN jU l_ k9=> ?_)
    refine cz h (fun o7 h=> ?_) (fun o7 h=> ?_)
    ·refine cu (jU _ (.inl ?_))
     refine bY lh (fun sA n15 kv k_=> ?_)
     refine ez kv (fun CE n16 xF lk mR=> ?_)
     refine ws _ ?_
     obtain⟨bP,jE,h⟩:=bL h
     refine i5 (And.intro jE (@jP aZ 5 2 .i64 rfl rfl)) _ ?_
     refine ws _ ?_
     refine ez xF (fun CG n21 CH g7 PT=> ?_)
     have P1:∀(n:Nat) (gH:Int) (jv:Int) (jS:Int),oT (kr a0 kt) a0 n gH jv jS=some r→gG aZ Ci CG (J [(0,.str a0),(5,.int .i64 gH),(12,.int .i64 (a0.length:Int)),(13,.int .i64 jv),(23,.int .i64 jS)]):=by
      intro m32
      induction m32 with
      |zero=>intro gH jv jS h;cases(show none=some r from h)
      |succ m32 P2=>
       intro gH jv jS h
       replace h:xh (kr a0 kt) (oT (kr a0 kt) a0 m32) a0 gH jv jS=some r:=h
       refine iz CH (fun CM n22 uw CN=> ?_)
       refine ws _ ?_
       refine bY uw (fun CO n24 ux xP=> ?_)
       refine cz h (fun P3 h=> ?_) (fun P3 h=> ?_)
       ·refine cu (n24 _ (.inl ?_))
        have CP:∀(qy:Int) (qz:Int) (qA:Int),tW (kr a0 kt) (oT (kr a0 kt) a0 m32) a0 qy qz qA=some r→bW aZ Ch CM (J [(0,.str a0),(5,.int .i64 qy),(12,.int .i64 (a0.length:Int)),(13,.int .i64 qz),(23,.int .i64 qA)]):=by
         intro qy qz qA h
         refine wr _ ?_
         exact n22 _ (.inr ⟨_,c7 rfl,P2 qy qz (IntKind.i64.wrap (qA+1)) h⟩)
        refine bY uw (fun Sm n26 P4 So=> ?_)
        refine ez P4 (fun Sp n28 Sq uv Sr=> ?_)
        refine ws _ ?_
        refine ws _ ?_
        refine cz h (fun P5 h=> ?_) (fun P5 h=> ?_)
        ·refine wr _ ?_
         exact n28 _ (n26 _ (.inr ⟨_,c7 rfl,CP (bitsOf .xor .i64 (bitsOf .and .i64 (IntKind.i64.wrap (gH*2)) 65535) 4129) jv jS h⟩))
        ·exact cu (n28 _ (n26 _ (.inr ⟨_,c7 rfl,CP (IntKind.i64.wrap (gH*2)) jv jS h⟩)))
       ·refine ir (xP 2 _ (CN 2 _ (g7 _ (n16 _ (n15 _ (.inl ?_))))))
        refine wr _ ?_
        exact ku _ (.inr ⟨_,c7 rfl,xB gH (IntKind.i64.wrap (jv+1)) h⟩)
     obtain⟨n,h⟩:=h9 h
     exact iu (.inr ⟨_,c7 rfl,P1 n (bitsOf .xor .i64 fW (IntKind.i64.wrap ((bP.toNat:Int)*256))) kq 0 h⟩)
    ·refine ir (k9 0 _ (k8 0 _ (hk _ (l7 _ (.inl ?_)))))
     refine ws _ ?_
     exact bS (bl _ (.inl (bU [.int .i64 fW])))
  obtain⟨n,h⟩:=h9 h
  exact iu (.inr ⟨_,c7 rfl,xA n aA 0 h⟩)
theorem CQ (a0:List UInt8) (r:Int×Int) (h:sj a0=some r):b8 aZ 43 [.str a0] (.tuple [.int .i64 r.1,.int .i64 r.2]) []:=by
 refine eX [0] [.tmp 2,.tmp 3] Try.func43 Mg (fun eO bl eM=> ?_)
 refine ws _ ?_
 refine bY bl (fun iq eo cy bP=> ?_)
 refine ws _ ?_
 refine cz h (fun dy h=> ?_) (fun dy h=> ?_)
 ·refine ws _ ?_
  exact bS (cy _ (.inl (bU [.int .i64 0,.int .i64 11])))
 ·refine cu (eo _ (.inl ?_))
  obtain⟨bd,bk,h⟩:=bL h
  refine i5 bk _ ?_
  obtain⟨bP,hW,h⟩:=bL h
  refine h6 (P0 bd 65535 _ hW) _ ?_
  obtain⟨cv,oa,h⟩:=bL h
  refine i5 (And.intro oa (@jP aZ 5 2 .i64 rfl rfl)) _ ?_
  refine bY bl (fun xD o6 qL oZ=> ?_)
  refine ez qL (fun qN jU l_ nS k9=> ?_)
  obtain⟨cL,nU,h⟩:=bL h
  obtain⟨ca,fz,h⟩:=bL h
  refine iZ rfl (i0 [(0,.str a0),(6,.int .i64 (cv.toNat:Int)),(20,.bool ((IntKind.i64.wrap ((IntKind.i64.wrap ((cL.toNat:Int)*256))+(ca.toNat:Int))) !=bP))] (fun P aK=> ?_) ?_)
  ·simp only[c_.down,simprocAttr,fy,nU, @jP aZ 5 2 .i64 rfl rfl,fz]
   refine⟨hh (by kernel_rfl),?_⟩
   (try simp only[b_.down,simprocAttr,nU, @jP aZ 5 2 .i64 rfl rfl,fz]at aK⊢);exact aK
  refine cz h (fun m0 h=> ?_) (fun m0 h=> ?_)
  ·refine ws _ ?_
   exact bS (l_ _ (.inl (bU [.int .i64 0,.int .i64 10])))
  ·obtain⟨eB,ma,h⟩:=bL h
   refine ef (dm [(6,.int .i64 (cv.toNat:Int)),(37,.bool ((!eB)||(decide (6000<(a0.length:Int)))))] (fun P aK=> ?_) ?_)
   ·rcases Bool.eq_false_or_eq_true (eB)with pb|pb
    ·simp only[bA.down,simprocAttr,fy,pb]
     refine gw (xO (cv.toNat:Int) 1 3 _ ma) rfl rfl rfl rfl (.inl (by rfl)) ?_
     simp only[bA.down,simprocAttr,fy,pb]
     (try simp only[b_.down,simprocAttr,pb]at aK⊢);exact aK
    ·simp only[bA.down,simprocAttr,fy,pb]
     refine gw (xO (cv.toNat:Int) 1 3 _ ma) rfl rfl rfl rfl (.inl (by rfl)) ?_
     simp only[bA.down,simprocAttr,fy,pb]
     (try simp only[b_.down,simprocAttr,pb]at aK⊢);exact aK
   refine cz h (fun sC h=> ?_) (fun sC h=> ?_)
   ·refine ws _ ?_
    exact bS (l_ _ (.inl (bU [.int .i64 0,.int .i64 9])))
   ·refine cu (jU _ (o6 _ (.inl ?_)))
    refine ws _ ?_
    exact bS (bl _ (.inl (bU [.int .i64 (cv.toNat:Int),.int .i64 0])))
theorem xQ (a0:List UInt8) (r:Bool) (h:xj a0=some r):b8 aZ 71 [.str a0] (.bool r) []:=by
 refine eX [0] [.tmp 2] Try.func71 Mk (fun eO bl eM=> ?_)
 refine ws _ ?_
 obtain⟨bd,a1,h⟩:=bL h
 refine h6 (CQ a0 _ a1) _ ?_
 refine ws _ ?_
 exact bS (bl _ (.inl (bU [.bool (bd.2==0)])))
theorem P6 (a0:List aP) (r:Bool) (h:t_ a0=some r):b8 aZ 41 [.slice (a0.map aF)] (.bool r) []:=by
 refine eX [0] [.tmp 2] Try.func41 Mv (fun eO bl eM=> ?_)
 refine ws _ ?_
 refine bY bl (fun iq eo cy bP=> ?_)
 refine ws _ ?_
 refine ez cy (fun kx l8 fv dy cL=> ?_)
 have mZ:∀(n:Nat) (dU:Int),qB a0 n dU=some r→gG aZ Ck kx (J [(0,.slice (a0.map aF)),(5,.slice (a0.map aF)),(6,.int .i64 (a0.length:Int)),(7,.int .i64 dU)]):=by
  intro eG
  induction eG with
  |zero=>intro dU h;cases(show none=some r from h)
  |succ eG lj=>
   intro dU h
   replace h:tZ (qB a0 eG) a0 dU=some r:=h
   refine iz fv (fun o9 jD g0 ca=> ?_)
   refine ws _ ?_
   refine bY g0 (fun mV h7 ht gI=> ?_)
   refine cz h (fun hc h=> ?_) (fun hc h=> ?_)
   ·refine cu (h7 _ (.inl ?_))
    refine bY g0 (fun mW hn g6 iC=> ?_)
    refine ez g6 (fun lg gz gV hk hJ=> ?_)
    obtain⟨bd,kM,h⟩:=bL h
    refine i5 kM _ ?_
    obtain⟨bP,jB,h⟩:=bL h
    rcases iF h with⟨gW,h⟩|⟨gW,h⟩
    ·refine iZ rfl (i0 [(0,.slice (a0.map aF)),(5,.slice (a0.map aF)),(6,.int .i64 (a0.length:Int)),(7,.int .i64 dU),(36,.bool true)] (fun P aK=> ?_) ?_)
     ·simp only[c_.down,simprocAttr,dA.down,(iy gW)]
      refine gx (sD bd.Name _ jB) rfl rfl rfl rfl (.inl (by rfl)) ?_
      simp only[c_.down,simprocAttr,dA.down,(iy gW)]
      refine⟨hh (by kernel_rfl),?_⟩
      (try simp only[b_.down,simprocAttr,aF,(iy gW)]at aK⊢);exact aK
     refine nD rfl ?_
     refine ws _ ?_
     exact bS (gV _ (.inl (bU [.bool false])))
    ·obtain⟨cv,e6,h⟩:=bL h
     rcases iF h with⟨h8,h⟩|⟨h8,h⟩
     ·refine iZ rfl (i0 [(0,.slice (a0.map aF)),(5,.slice (a0.map aF)),(6,.int .i64 (a0.length:Int)),(7,.int .i64 dU),(36,.bool true)] (fun P aK=> ?_) ?_)
      ·simp only[c_.down,simprocAttr,dA.down,(fl gW),(iy h8)]
       refine gx (sD bd.Name _ jB) rfl rfl rfl rfl (.inl (by rfl)) ?_
       simp only[c_.down,simprocAttr,dA.down,(fl gW),(iy h8)]
       refine wP (xQ bd.ck _ e6) rfl rfl rfl rfl (.inl (by rfl)) ?_
       simp only[c_.down,simprocAttr,dA.down,(fl gW),(iy h8)]
       refine⟨hh (by kernel_rfl),?_⟩
       (try simp only[b_.down,simprocAttr,aF,(fl gW),(iy h8)]at aK⊢);exact aK
      refine nD rfl ?_
      refine ws _ ?_
      exact bS (gV _ (.inl (bU [.bool false])))
     ·rcases iF h with⟨jA,h⟩|⟨jA,h⟩
      ·obtain⟨cL,nV,h⟩:=bL h
       refine iZ rfl (i0 [(0,.slice (a0.map aF)),(5,.slice (a0.map aF)),(6,.int .i64 (a0.length:Int)),(7,.int .i64 dU),(36,.bool (Op.bytesLess bd.Name cL.Name||bd.Name==cL.Name))] (fun P aK=> ?_) ?_)
       ·simp only[c_.down,simprocAttr,dA.down,(fl gW),(fl h8),jA,nV]
        refine gx (sD bd.Name _ jB) rfl rfl rfl rfl (.inl (by rfl)) ?_
        simp only[c_.down,simprocAttr,dA.down,(fl gW),(fl h8),jA,nV]
        refine wP (xQ bd.ck _ e6) rfl rfl rfl rfl (.inl (by rfl)) ?_
        simp only[c_.down,simprocAttr,dA.down,(fl gW),(fl h8),jA,nV]
        refine⟨hh (by kernel_rfl),?_⟩
        (try simp only[b_.down,simprocAttr,aF,(fl gW),(fl h8),jA,nV]at aK⊢);exact aK
       refine cz h (fun sC h=> ?_) (fun sC h=> ?_)
       ·refine ws _ ?_
        exact bS (gV _ (.inl (bU [.bool false])))
       ·refine cu (gz _ (hn _ (.inl ?_)))
        refine wr _ ?_
        exact jD _ (.inr ⟨_,c7 rfl,lj (IntKind.i64.wrap (dU+1)) h⟩)
      ·refine iZ rfl (i0 [(0,.slice (a0.map aF)),(5,.slice (a0.map aF)),(6,.int .i64 (a0.length:Int)),(7,.int .i64 dU),(36,.bool false)] (fun P aK=> ?_) ?_)
       ·simp only[c_.down,simprocAttr,dA.down,(fl gW),(fl h8),jA]
        refine gx (sD bd.Name _ jB) rfl rfl rfl rfl (.inl (by rfl)) ?_
        simp only[c_.down,simprocAttr,dA.down,(fl gW),(fl h8),jA]
        refine wP (xQ bd.ck _ e6) rfl rfl rfl rfl (.inl (by rfl)) ?_
        simp only[c_.down,simprocAttr,dA.down,(fl gW),(fl h8),jA]
        refine⟨hh (by kernel_rfl),?_⟩
        (try simp only[b_.down,simprocAttr,aF,(fl gW),(fl h8),jA]at aK⊢);exact aK
       refine oJ rfl ?_
       refine cu (gz _ (hn _ (.inl ?_)))
       refine wr _ ?_
       exact jD _ (.inr ⟨_,c7 rfl,lj (IntKind.i64.wrap (dU+1)) h⟩)
   ·refine ir (gI 0 _ (ca 0 _ (dy _ (eo _ (.inl ?_)))))
    refine ws _ ?_
    exact bS (bl _ (.inl (bU [.bool (decide ((a0.length:Int)≤16))])))
 obtain⟨n,h⟩:=h9 h
 exact iu (.inr ⟨_,c7 rfl,mZ n 0 h⟩)
theorem P7 (a0:List aP) (r:(List aP)) (h:ua a0=some r):b8 aZ 44 [.slice (a0.map aF)] (.aH 2 (r.map aF)) []:=by
 refine eX [0] [.tmp 2] Try.func44 lb (fun eO bl eM=> ?_)
 refine ws _ ?_
 refine bY bl (fun iq eo cy bP=> ?_)
 rcases iF h with⟨dy,h⟩|⟨dy,h⟩
 ·refine ef (dm [(0,.slice (a0.map aF)),(4,.c2)] (fun P aK=> ?_) ?_)
  ·simp only[bA.down,simprocAttr,dA.down,tB,(Bp dy),tC]
   (try simp only[b_.down,simprocAttr,aF,tB,(Bp dy),tC]at aK⊢);exact aK
  obtain⟨a8,h⟩:=DE h
  refine HK rfl ?_ ?_
  ·replace h:=a8
   refine ws _ ?_
   exact bS (cy _ (.inr ⟨[(2,.aH 2 [])],mG [] rfl (mI (t:=2) (d:=.bt) rfl rfl (.iV _) (by decide) (mH)),bU [.aH 2 []]⟩))
  ·refine cu (eo _ (.inl ?_))
   obtain⟨u8,ie,h⟩:=bL h
   (try simp only[o1.down,Nat.reduceAdd]at ie)
   refine ef (dm [(2,.aH 2 (a0.map aF))] (fun P aK=> ?_) ?_)
   ·simp only[bA.down,simprocAttr,dA.down,(show∀s,c0 aZ s 22 0 []=some (.aH 2 [],s)from fun s=>by kernel_rfl), @lU aZ 22 22 35 rfl rfl,lV,lW,lX,all_cons,all_nil,ie, @lT _ aF 2 (fun _=>rfl)]
    (try simp only[b_.down,simprocAttr,aF,(show∀s,c0 aZ s 22 0 []=some (.aH 2 [],s)from fun s=>by kernel_rfl), @lU aZ 22 22 35 rfl rfl,lV,lW,lX,all_cons,all_nil,ie, @lT _ aF 2 (fun _=>rfl)]at aK⊢);exact aK
   exact bS (bl _ (.inl (bU [.aH 2 (a0.map aF)])))
 ·refine ef (dm [(0,.slice (a0.map aF)),(4,.bool false)] (fun P aK=> ?_) ?_)
  ·simp only[bA.down,simprocAttr,dA.down,tB,(Bq dy),tC]
   (try simp only[b_.down,simprocAttr,aF,tB,(Bq dy),tC]at aK⊢);exact aK
  refine oJ rfl ?_
  refine cu (eo _ (.inl ?_))
  obtain⟨Ss,jJ,h⟩:=bL h
  (try simp only[o1.down,Nat.reduceAdd]at jJ)
  refine ef (dm [(2,.aH 2 (a0.map aF))] (fun P aK=> ?_) ?_)
  ·simp only[bA.down,simprocAttr,dA.down,(show∀s,c0 aZ s 22 0 []=some (.aH 2 [],s)from fun s=>by kernel_rfl), @lU aZ 22 22 35 rfl rfl,lV,lW,lX,all_cons,all_nil,jJ, @lT _ aF 2 (fun _=>rfl)]
   (try simp only[b_.down,simprocAttr,aF,(show∀s,c0 aZ s 22 0 []=some (.aH 2 [],s)from fun s=>by kernel_rfl), @lU aZ 22 22 35 rfl rfl,lV,lW,lX,all_cons,all_nil,jJ, @lT _ aF 2 (fun _=>rfl)]at aK⊢);exact aK
  exact bS (bl _ (.inl (bU [.aH 2 (a0.map aF)])))
theorem CR:∀a b,eC a b=Lib.compareBytes a b
 |[],[]=>rfl
 |[],_::_=>rfl
 |_::_,[]=>rfl
 |a::x,b::y=>by simp only[eC,Lib.compareBytes,CR x y]
theorem P8 (a0:List UInt8) (aA:List UInt8) (r:Int) (h:B3 a0 aA=some r):b8 aZ 133 [.str a0,.str aA] (.int .i64 r) []:=by
 rw[show r=Lib.compareBytes a0 aA from(sL h).trans (CR a0 aA)]
 exact H3 Try.func133 (by kernel_rfl) (by kernel_rfl) (by kernel_rfl) (by kernel_rfl) a0 aA
theorem P9 (a0:List UInt8) (aA:List UInt8) (r:Int) (h:B4 a0 aA=some r):b8 aZ 105 [.str a0,.str aA] (.int .i64 r) []:=by
 refine eX [0,1] [.tmp 4] Try.func105 MD (fun eO bl eM=> ?_)
 refine ws _ ?_
 obtain⟨bd,a1,h⟩:=bL h
 refine h6 (P8 a0 aA _ a1) _ ?_
 exact bS (bl _ (.inl (bU [.int .i64 bd])))
theorem P_ (a0:List UInt8) (aA:List UInt8) (r:Int) (h:B5 a0 aA=some r):b8 aZ 72 [.str a0,.str aA] (.int .i64 r) []:=by
 refine eX [0,1] [.tmp 4] Try.func72 MG (fun eO bl eM=> ?_)
 refine ws _ ?_
 obtain⟨bd,a1,h⟩:=bL h
 refine h6 (P9 a0 aA _ a1) _ ?_
 exact bS (bl _ (.inl (bU [.int .i64 bd])))
theorem CS (a0:aP) (aA:List UInt8) (r:Int) (h:ub a0 aA=some r):b8 aZ 34 [aF a0,.str aA] (.int .i64 r) []:=by
 refine eX [0,1] [.tmp 4] Try.func34 MJ (fun eO bl eM=> ?_)
 refine ws _ ?_
 obtain⟨bd,a1,h⟩:=bL h
 refine h6 (P_ a0.Name aA _ a1) _ ?_
 exact bS (bl _ (.inl (bU [.int .i64 bd])))
theorem Qa (a0:List aP) (aA:List UInt8) (r:Int×Bool) (h:xk a0 aA=some r):b8 aZ 33 [.slice (a0.map aF),.str aA,.fn 34 []] (.tuple [.int .i64 r.1,.bool r.2]) []:=by
 refine eX [0,1,2] [.tmp 6,.tmp 7] Try.func33 MV (fun eO bl eM=> ?_)
 refine ws _ ?_
 refine ws _ ?_
 refine ws _ ?_
 refine bY bl (fun kx l8 fv cL=> ?_)
 refine ez fv (fun o9 jD g0 jj ca=> ?_)
 have xC:∀(n:Nat) (fY:Int) (hI:Int),oU a0 aA n fY hI=some r→gG aZ Cl o9 (J [(0,.slice (a0.map aF)),(1,.str aA),(2,.fn 34 []),(8,.int .i64 (a0.length:Int)),(9,.int .i64 fY),(10,.int .i64 hI)]):=by
  intro ka
  induction ka with
  |zero=>intro fY hI h;cases(show none=some r from h)
  |succ ka um=>
   intro fY hI h
   replace h:uc (oU a0 aA ka) a0 aA fY hI=some r:=h
   refine iz g0 (fun l9 iE hR eB=> ?_)
   refine bY hR (fun mV h7 ht gI=> ?_)
   refine ws _ ?_
   refine cz h (fun xz h=> ?_) (fun xz h=> ?_)
   ·refine cu (h7 _ (.inl ?_))
    refine ez hR (fun lg gz gV hk hJ=> ?_)
    refine i5 (And.intro (@jP aZ 3 100 .u64 rfl rfl) (And.intro (@IL .u64 .u64 1 2 (by decide) (by decide)) (@jP aZ 100 3 .i64 rfl rfl))) [(0,.slice (a0.map aF)),(1,.str aA),(2,.fn 34 []),(8,.int .i64 (a0.length:Int)),(9,.int .i64 fY),(10,.int .i64 hI),(11,.int .i64 (IntKind.i64.wrap (Int.fdiv (IntKind.u64.wrap (IntKind.i64.wrap (fY+hI))) 2)))] ?_
    obtain⟨bd,fF,h⟩:=bL h
    obtain⟨bP,jB,h⟩:=bL h
    refine sx fF (CS bd aA _ jB) _ ?_
    refine cz h (fun gW h=> ?_) (fun gW h=> ?_)
    ·refine wr _ ?_
     exact gz _ (iE _ (.inr ⟨_,c7 rfl,um (IntKind.i64.wrap ((IntKind.i64.wrap (Int.fdiv (IntKind.u64.wrap (IntKind.i64.wrap (fY+hI))) 2))+1)) hI h⟩))
    ·refine wr _ ?_
     exact gz _ (iE _ (.inr ⟨_,c7 rfl,um fY (IntKind.i64.wrap (Int.fdiv (IntKind.u64.wrap (IntKind.i64.wrap (fY+hI))) 2)) h⟩))
   ·refine ir (gI 0 _ (eB 0 _ (jj _ (l8 _ (.inl ?_)))))
    rcases iF h with⟨hK,h⟩|⟨hK,h⟩
    ·obtain⟨cv,ma,h⟩:=bL h
     obtain⟨cL,nV,h⟩:=bL h
     refine ef (dm [(6,.int .i64 fY),(7,.bool (cL==0))] (fun P aK=> ?_) ?_)
     ·simp only[bA.down,simprocAttr,dA.down,hK,ma]
      refine qh (CS cv aA _ nV) rfl rfl rfl rfl (.inl (by rfl)) ?_
      simp only[bA.down,simprocAttr,dA.down,hK,ma]
      (try simp only[b_.down,simprocAttr,aF,hK,ma]at aK⊢);exact aK
     exact bS (bl _ (.inl (bU [.int .i64 fY,.bool (cL==0)])))
    ·refine i5 hK _ ?_
     exact bS (bl _ (.inl (bU [.int .i64 fY,.bool false])))
 obtain⟨n,h⟩:=h9 h
 exact iu (.inr ⟨_,c7 rfl,xC n 0 (a0.length:Int) h⟩)
theorem Qb (a0:List aP) (aA:Int) (cn r:List aP) (h:qC a0 aA cn=some r):b8 aZ 35 [.aH 2 (a0.map aF),.int .i64 aA,.aH 2 (cn.map aF)] (.aH 2 (r.map aF)) [.hole,.hole,.hole]:=Pz a0 aA cn r h
theorem xR (a0:List aP) (aA:aP) (r:(List aP)×Int) (h:sk a0 aA=some r):b8 aZ 17 [.slice (a0.map aF),aF aA] (.tuple [.aH 2 (r.1.map aF),.int .i64 r.2]) []:=by
 refine eX [0,1] [.tmp 4,.tmp 5] Try.func17 Nh (fun eO bl eM=> ?_)
 refine ws _ ?_
 refine bY bl (fun iq eo cy bP=> ?_)
 refine ez cy (fun xy o5 fu kQ cv=> ?_)
 obtain⟨bd,cb,h⟩:=bL h
 refine h6 (P6 a0 _ cb) _ ?_
 refine cz h (fun jk h=> ?_) (fun jk h=> ?_)
 ·refine ws _ ?_
  exact bS (fu _ (.inr ⟨[(4,.aH 2 []),(5,.int .i64 1)],mG [] rfl (mI (t:=4) (d:=.bt) rfl rfl (.iV _) (by decide) (nF rfl (mH))),bU [.aH 2 [],.int .i64 1]⟩))
 ·obtain⟨bP,hW,h⟩:=bL h
  refine h6 (sD aA.Name _ hW) _ ?_
  refine cz h (fun hk h=> ?_) (fun hk h=> ?_)
  ·refine ws _ ?_
   exact bS (fu _ (.inr ⟨[(4,.aH 2 []),(5,.int .i64 2)],mG [] rfl (mI (t:=4) (d:=.bt) rfl rfl (.iV _) (by decide) (nF rfl (mH))),bU [.aH 2 [],.int .i64 2]⟩))
  ·refine cu (o5 _ (eo _ (.inl ?_)))
   refine bY bl (fun xD o6 qL oZ=> ?_)
   obtain⟨cv,jB,h⟩:=bL h
   refine h6 (CQ aA.ck _ jB) _ ?_
   refine ws _ ?_
   refine cz h (fun lk h=> ?_) (fun lk h=> ?_)
   ·refine ws _ ?_
    exact bS (qL _ (.inr ⟨[(4,.aH 2 []),(5,.int .i64 cv.2)],mG [] rfl (mI (t:=4) (d:=.bt) rfl rfl (.iV _) (by decide) (nF rfl (mH))),bU [.aH 2 [],.int .i64 cv.2]⟩))
   ·refine cu (o6 _ (.inl ?_))
    obtain⟨cL,jE,h⟩:=bL h
    refine h6 (P7 a0 _ jE) _ ?_
    obtain⟨ca,nV,h⟩:=bL h
    refine ef (dm [(3,.bm (aF aA)),(8,.aH 2 (cL.map aF)),(9,.int .i64 ca.1),(10,.bool ca.2)] (fun P aK=> ?_) ?_)
    ·simp only[bA.down,simprocAttr,fy,nN,aF]
     refine gw (Qa cL aA.Name _ nV) rfl rfl (by simp only[bA.down,simprocAttr,fy,nN,aF,hD,hE,hF,gS, @fO _ aF aF (fun _=>fP _)]<;>rfl) rfl (.inr (by rfl)) ?_
     simp only[bA.down,simprocAttr,fy,nN,aF]
     (try simp only[b_.down,simprocAttr,aF]at aK⊢);exact aK
    have CT:∀(qD:List aP),ud qD=some r→bW aZ Cm eO (J [(8,.aH 2 (qD.map aF))]):=by
     intro qD h
     refine ws _ ?_
     exact bS (bl _ (.inl (bU [.aH 2 (qD.map aF),.int .i64 0])))
    refine bY bl (fun CM n22 uw CN=> ?_)
    refine ez uw (fun CO n24 ux mY xP=> ?_)
    refine ws _ ?_
    refine cz h (fun xI h=> ?_) (fun xI h=> ?_)
    ·obtain⟨eB,uy,h⟩:=bL h
     refine mF (dm [(8,.aH 2 ((List.set cL (Int.toNat ca.1) aA).map aF))] (fun P aK=> ?_) ?_)
     ·simp only[bA.down,simprocAttr,dA.down,uy,kA uy,k5,gR]
      (try simp only[b_.down,simprocAttr,aF,uy,kA uy,k5,gR]at aK⊢);exact aK
     exact n24 _ (n22 _ (.inr ⟨_,c7 rfl,CT (List.set cL (Int.toNat ca.1) aA) h⟩))
    ·refine ws _ ?_
     refine cz h (fun xN h=> ?_) (fun xN h=> ?_)
     ·refine ws _ ?_
      exact bS (ux _ (.inr ⟨[(4,.aH 2 []),(5,.int .i64 5)],mG [] rfl (mI (t:=4) (d:=.bt) rfl rfl (.iV _) (by decide) (nF rfl (mH))),bU [.aH 2 [],.int .i64 5]⟩))
     ·obtain⟨gI,xS,h⟩:=bL h
      refine mF (dm [(8,.aH 2 (gI.map aF))] (fun P aK=> ?_) ?_)
      ·simp only[bA.down,simprocAttr,dA.down,(show∀s,c0 aZ s 22 1 [(0,.agg [.str aA.Name,.str aA.ck])]=some (.aH 2 [.agg [.str aA.Name,.str aA.ck]],s)from fun s=>by kernel_rfl)]
       refine wU [⟨.h 8 [],true,_,.hole⟩,⟨.int .i64 ca.1,false,_,.hole⟩,⟨.h 41 [],true,_,.hole⟩] (Qb cL ca.1 [aA] _ xS) rfl rfl rfl (by simp only[bA.down,simprocAttr,dA.down,(show∀s,c0 aZ s 22 1 [(0,.agg [.str aA.Name,.str aA.ck])]=some (.aH 2 [.agg [.str aA.Name,.str aA.ck]],s)from fun s=>by kernel_rfl),tA,wV,wW,hD,hE,hF,gS,or_true,true_or, @fO _ aF aF (fun _=>fP _),j.shares, @fO _ aF aF (fun _=>fP _)]) rfl rfl (.inl rfl) ?_
       simp only[bA.down,simprocAttr,dA.down,(show∀s,c0 aZ s 22 1 [(0,.agg [.str aA.Name,.str aA.ck])]=some (.aH 2 [.agg [.str aA.Name,.str aA.ck]],s)from fun s=>by kernel_rfl),wX]
       (try simp only[b_.down,simprocAttr,aF,(show∀s,c0 aZ s 22 1 [(0,.agg [.str aA.Name,.str aA.ck])]=some (.aH 2 [.agg [.str aA.Name,.str aA.ck]],s)from fun s=>by kernel_rfl)]at aK⊢);exact aK
      exact n24 _ (n22 _ (.inr ⟨_,c7 rfl,CT gI h⟩))
theorem Qc (a0:aP) (aA:aP) (r:Bool) (h:oV a0 aA=some r):b8 aZ 36 [aF a0,aF aA] (.bool r) []:=by
 refine eX [0,1] [.tmp 4] Try.func36 Nr (fun eO bl eM=> ?_)
 refine ws _ ?_
 refine bY bl (fun iq eo cy bP=> ?_)
 refine ws _ ?_
 refine cz h (fun dy h=> ?_) (fun dy h=> ?_)
 ·refine ws _ ?_
  exact bS (cy _ (.inl (bU [.bool false])))
 ·refine cu (eo _ (.inl ?_))
  refine bY bl (fun l9 iE hR eB=> ?_)
  refine ws _ ?_
  refine cz h (fun hc h=> ?_) (fun hc h=> ?_)
  ·refine ws _ ?_
   exact bS (hR _ (.inl (bU [.bool false])))
  ·refine cu (iE _ (.inl ?_))
   refine ws _ ?_
   exact bS (bl _ (.inl (bU [.bool true])))
theorem pc (a0:List aP) (aA:List aP) (r:Bool) (h:l3 a0 aA=some r):b8 aZ 9 [.slice (a0.map aF),.slice (aA.map aF)] (.bool r) []:=by
 refine eX [0,1] [.tmp 4] Try.func9 ND (fun eO bl eM=> ?_)
 refine ws _ ?_
 refine bY bl (fun iq eo cy bP=> ?_)
 refine ws _ ?_
 refine cz h (fun dy h=> ?_) (fun dy h=> ?_)
 ·refine ws _ ?_
  exact bS (cy _ (.inl (bU [.bool false])))
 ·refine cu (eo _ (.inl ?_))
  refine bY bl (fun l9 iE hR eB=> ?_)
  refine ws _ ?_
  refine ez hR (fun mU l7 lf hc e5=> ?_)
  have o8:∀(n:Nat) (jw:Int),qE a0 aA n jw=some r→gG aZ Cn mU (J [(0,.slice (a0.map aF)),(1,.slice (aA.map aF)),(5,.int .i64 jw)]):=by
   intro i6
   induction i6 with
   |zero=>intro jw h;cases(show none=some r from h)
   |succ i6 mX=>
    intro jw h
    replace h:ue (qE a0 aA i6) a0 aA jw=some r:=h
    refine iz lf (fun mW hn g6 iC=> ?_)
    refine bY g6 (fun lg gz gV hJ=> ?_)
    refine ws _ ?_
    refine cz h (fun qM h=> ?_) (fun qM h=> ?_)
    ·refine cu (gz _ (.inl ?_))
     refine bY g6 (fun qN jU l_ k9=> ?_)
     refine ez l_ (fun nT jx jy o7 gy=> ?_)
     obtain⟨bd,fz,h⟩:=bL h
     obtain⟨bP,e6,h⟩:=bL h
     obtain⟨cv,jz,h⟩:=bL h
     refine iZ rfl (i0 [(0,.slice (a0.map aF)),(1,.slice (aA.map aF)),(5,.int .i64 jw),(26,.bool (!cv))] (fun P aK=> ?_) ?_)
     ·simp only[c_.down,simprocAttr,dA.down,fz,e6]
      refine gx (Qc bd bP _ jz) rfl rfl rfl rfl (.inl (by rfl)) ?_
      simp only[c_.down,simprocAttr,dA.down,fz,e6]
      refine⟨hh (by kernel_rfl),?_⟩
      (try simp only[b_.down,simprocAttr,aF,fz,e6]at aK⊢);exact aK
     refine cz h (fun hK h=> ?_) (fun hK h=> ?_)
     ·refine ws _ ?_
      exact bS (jy _ (.inl (bU [.bool false])))
     ·refine cu (jx _ (jU _ (.inl ?_)))
      refine wr _ ?_
      exact hn _ (.inr ⟨_,c7 rfl,mX (IntKind.i64.wrap (jw+1)) h⟩)
    ·refine ir (hJ 0 _ (iC 0 _ (hc _ (iE _ (.inl ?_)))))
     refine ws _ ?_
     exact bS (bl _ (.inl (bU [.bool true])))
  obtain⟨n,h⟩:=h9 h
  exact iu (.inr ⟨_,c7 rfl,o8 n 0 h⟩)
theorem uz (a0:Int) (r:(List UInt8)) (h:oW a0=some r):b8 aZ 37 [.int .i64 a0] (.str r) []:=by
 refine eX [] [.tmp 2] Try.func37 NP (fun eO bl eM=> ?_)
 refine ws _ ?_
 refine bY bl (fun iq eo cy bP=> ?_)
 refine ws _ ?_
 refine cz h (fun dy h=> ?_) (fun dy h=> ?_)
 ·refine ws _ ?_
  exact bS (cy _ (.inl (bU [.str ([109,48]:List UInt8)])))
 ·refine cu (eo _ (.inl ?_))
  refine ws _ ?_
  refine bY bl (fun mV h7 ht gI=> ?_)
  refine ez ht (fun mU l7 lf hc e5=> ?_)
  have o8:∀(n:Nat) (gU:Int) (c4:List UInt8),nQ n gU c4=some r→gG aZ Co mU (J [(0,.int .i64 gU),(3,.str c4)]):=by
   intro i6
   induction i6 with
   |zero=>intro gU c4 h;cases(show none=some r from h)
   |succ i6 mX=>
    intro gU c4 h
    replace h:sl (nQ i6) gU c4=some r:=h
    refine iz lf (fun mW hn g6 iC=> ?_)
    refine bY g6 (fun lg gz gV hJ=> ?_)
    refine ws _ ?_
    refine cz h (fun qM h=> ?_) (fun qM h=> ?_)
    ·refine cu (gz _ (.inl ?_))
     refine ez g6 (fun qN jU l_ nS k9=> ?_)
     obtain⟨u16,nU,h⟩:=bL h
     (try simp only[o1.down,Nat.reduceAdd]at nU)
     refine ef (dm [(0,.int .i64 gU),(3,.str ([(mg (IntKind.i64.wrap (48+(Int.tmod gU 10))))]++c4))] (fun P aK=> ?_) ?_)
     ·simp only[bA.down,simprocAttr,I8,I9,ha, @A8 .i64 10 (by decide), @jP aZ 3 5 .u8 rfl rfl,(show∀s,c0 aZ s 103 1 [(0,.int .u8 (IntKind.u8.wrap (IntKind.i64.wrap (48+(Int.tmod gU 10)))))]=some (.aH 1 [.int .u8 (IntKind.u8.wrap (IntKind.i64.wrap (48+(Int.tmod gU 10))))],s)from fun s=>by kernel_rfl),(@A4 aZ 103 9 5 rfl rfl rfl).2.2,A7,A5,nU,tw,tx]
      (try simp only[b_.down,simprocAttr,ha, @A8 .i64 10 (by decide), @jP aZ 3 5 .u8 rfl rfl,(show∀s,c0 aZ s 103 1 [(0,.int .u8 (IntKind.u8.wrap (IntKind.i64.wrap (48+(Int.tmod gU 10)))))]=some (.aH 1 [.int .u8 (IntKind.u8.wrap (IntKind.i64.wrap (48+(Int.tmod gU 10))))],s)from fun s=>by kernel_rfl),(@A4 aZ 103 9 5 rfl rfl rfl).2.2,A7,A5,nU,tw,tx]at aK⊢);exact aK
     refine PJ (@HP .i64 10 (by decide)) [(0,.int .i64 (IntKind.i64.wrap (Int.tdiv gU 10))),(3,.str ([(mg (IntKind.i64.wrap (48+(Int.tmod gU 10))))]++c4))] ?_
     exact jU _ (hn _ (.inr ⟨_,c7 rfl,mX (IntKind.i64.wrap (Int.tdiv gU 10)) ([(mg (IntKind.i64.wrap (48+(Int.tmod gU 10))))]++c4) h⟩))
    ·refine ir (hJ 0 _ (iC 0 _ (hc _ (h7 _ (.inl ?_)))))
     obtain⟨PL,jz,h⟩:=bL h
     (try simp only[o1.down,Nat.reduceAdd]at jz)
     refine ef (dm [(2,.str (([109]:List UInt8)++c4))] (fun P aK=> ?_) ?_)
     ·simp only[bA.down,simprocAttr,jz,tw,tx]
      (try simp only[b_.down,simprocAttr,jz,tw,tx]at aK⊢);exact aK
     exact bS (bl _ (.inl (bU [.str (([109]:List UInt8)++c4)])))
  obtain⟨n,h⟩:=h9 h
  exact iu (.inr ⟨_,c7 rfl,o8 n a0 ([]:List UInt8) h⟩)
theorem CU (a0:List aP) (aA:Int) (r:Int×(List aP)) (h:sm a0 aA=some r):b8 aZ 10 [.aH 2 (a0.map aF),.int .i64 aA] (.int .i64 r.1) [.aH 2 (r.2.map aF),.hole]:=by
 refine eX [0] [.tmp 4] Try.func10 N0 (fun eO bl eM=> ?_)
 refine ws _ ?_
 refine bY bl (fun iq eo cy bP=> ?_)
 refine ws _ ?_
 refine ez cy (fun kx l8 fv dy cL=> ?_)
 have mZ:∀(n:Nat) (hj:List aP) (c1:Int) (cN:Int),oX n hj c1 cN=some r→gG aZ Cp kx (J [(0,.aH 2 (hj.map aF)),(1,.int .i64 c1),(5,.int .i64 cN)]):=by
  intro eG
  induction eG with
  |zero=>intro hj c1 cN h;cases(show none=some r from h)
  |succ eG lj=>
   intro hj c1 cN h
   replace h:uf (oX eG) hj c1 cN=some r:=h
   refine iz fv (fun o9 jD g0 ca=> ?_)
   refine bY g0 (fun l9 iE hR eB=> ?_)
   refine ws _ ?_
   refine cz h (fun hc h=> ?_) (fun hc h=> ?_)
   ·refine cu (iE _ (.inl ?_))
    refine bY g0 (fun mW hn g6 iC=> ?_)
    refine ez g6 (fun lg gz gV hk hJ=> ?_)
    obtain⟨bd,kM,h⟩:=bL h
    obtain⟨bP,fF,h⟩:=bL h
    refine ef (dm [(0,.aH 2 ((List.set hj (Int.toNat cN) (aP.mk bd bP.ck)).map aF)),(1,.int .i64 c1),(5,.int .i64 cN)] (fun P aK=> ?_) ?_)
    ·simp only[bA.down,simprocAttr,dA.down,fF,kA fF,k5,gR]
     refine gw (uz c1 _ kM) rfl rfl rfl rfl (.inl (by rfl)) ?_
     simp only[bA.down,simprocAttr,dA.down,fF,kA fF,k5,gR]
     (try simp only[b_.down,simprocAttr,aF,fF,kA fF,k5,gR]at aK⊢);exact aK
    refine ws [(0,.aH 2 ((List.set hj (Int.toNat cN) (aP.mk bd bP.ck)).map aF)),(1,.int .i64 (IntKind.i64.wrap (c1+1))),(5,.int .i64 cN)] ?_
    obtain⟨cv,fz,h⟩:=bL h
    obtain⟨cL,e6,h⟩:=bL h
    refine ef (dm [(0,.aH 2 ((List.set (List.set hj (Int.toNat cN) (aP.mk bd bP.ck)) (Int.toNat cN) (aP.mk cL.Name cv)).map aF)),(1,.int .i64 (IntKind.i64.wrap (c1+1))),(5,.int .i64 cN)] (fun P aK=> ?_) ?_)
    ·simp only[bA.down,simprocAttr,dA.down,e6,kA e6,k5,gR]
     refine gw (uz (IntKind.i64.wrap (c1+1)) _ fz) rfl rfl rfl rfl (.inl (by rfl)) ?_
     simp only[bA.down,simprocAttr,dA.down,e6,kA e6,k5,gR]
     (try simp only[b_.down,simprocAttr,aF,e6,kA e6,k5,gR]at aK⊢);exact aK
    refine wr [(0,.aH 2 ((List.set (List.set hj (Int.toNat cN) (aP.mk bd bP.ck)) (Int.toNat cN) (aP.mk cL.Name cv)).map aF)),(1,.int .i64 (IntKind.i64.wrap ((IntKind.i64.wrap (c1+1))+1))),(5,.int .i64 cN)] ?_
    refine gz _ (hn _ (.inl ?_))
    refine wr [(0,.aH 2 ((List.set (List.set hj (Int.toNat cN) (aP.mk bd bP.ck)) (Int.toNat cN) (aP.mk cL.Name cv)).map aF)),(1,.int .i64 (IntKind.i64.wrap ((IntKind.i64.wrap (c1+1))+1))),(5,.int .i64 (IntKind.i64.wrap (cN+1)))] ?_
    exact jD _ (.inr ⟨_,c7 rfl,lj (List.set (List.set hj (Int.toNat cN) (aP.mk bd bP.ck)) (Int.toNat cN) (aP.mk cL.Name cv)) (IntKind.i64.wrap ((IntKind.i64.wrap (c1+1))+1)) (IntKind.i64.wrap (cN+1)) h⟩)
   ·refine ir (eB 0 _ (ca 0 _ (dy _ (eo _ (.inl ?_)))))
    refine ws _ ?_
    exact bS (bl _ (.inl (A1 [.int .i64 c1] rfl (by cases sL h;rfl) (by decide) (H5 (H7 (by cases sL h;rfl) rfl rfl rfl (H6 (H8)))))))
 obtain⟨n,h⟩:=h9 h
 exact iu (.inr ⟨_,c7 rfl,mZ n a0 aA 0 h⟩)
theorem CV (a0:List aP) (aA:Int) (r:Int) (h:sn a0 aA=some r):b8 aZ 11 [.slice (a0.map aF),.int .i64 aA] (.int .i64 r) []:=by
 refine eX [0] [.tmp 4] Try.func11 Oe (fun eO bl eM=> ?_)
 refine ws _ ?_
 refine bY bl (fun iq eo cy bP=> ?_)
 refine ws _ ?_
 refine ez cy (fun kx l8 fv dy cL=> ?_)
 have mZ:∀(n:Nat) (c1:Int) (cN:Int),oY a0 n c1 cN=some r→gG aZ Cq kx (J [(0,.slice (a0.map aF)),(1,.int .i64 c1),(5,.int .i64 cN)]):=by
  intro eG
  induction eG with
  |zero=>intro c1 cN h;cases(show none=some r from h)
  |succ eG lj=>
   intro c1 cN h
   replace h:ug (oY a0 eG) a0 c1 cN=some r:=h
   refine iz fv (fun o9 jD g0 ca=> ?_)
   refine bY g0 (fun l9 iE hR eB=> ?_)
   refine ws _ ?_
   refine cz h (fun hc h=> ?_) (fun hc h=> ?_)
   ·refine cu (iE _ (.inl ?_))
    refine bY g0 (fun mW hn g6 iC=> ?_)
    refine ez g6 (fun lg gz gV hk hJ=> ?_)
    refine bY gV (fun sy ku lh k8=> ?_)
    obtain⟨bd,fF,h⟩:=bL h
    obtain⟨bP,jB,h⟩:=bL h
    refine iZ rfl (i0 [(0,.slice (a0.map aF)),(1,.int .i64 c1),(5,.int .i64 cN),(19,.bool (!(bd.Name==bP)))] (fun P aK=> ?_) ?_)
    ·simp only[c_.down,simprocAttr,dA.down,fF]
     refine gx (uz c1 _ jB) rfl rfl rfl rfl (.inl (by rfl)) ?_
     simp only[c_.down,simprocAttr,dA.down,fF]
     refine⟨hh (by kernel_rfl),?_⟩
     (try simp only[b_.down,simprocAttr,aF,fF]at aK⊢);exact aK
    refine cz h (fun gW h=> ?_) (fun gW h=> ?_)
    ·refine ws _ ?_
     exact bS (lh _ (.inl (bU [.int .i64 (-1)])))
    ·refine cu (ku _ (.inl ?_))
     refine ws _ ?_
     refine bY gV (fun St n18 Qd mS=> ?_)
     obtain⟨cv,ma,h⟩:=bL h
     refine iZ rfl (i0 [(0,.slice (a0.map aF)),(1,.int .i64 (IntKind.i64.wrap (c1+1))),(5,.int .i64 cN),(29,.bool (!(bd.ck==cv)))] (fun P aK=> ?_) ?_)
     ·simp only[c_.down,simprocAttr,dA.down,fF]
      refine gx (uz (IntKind.i64.wrap (c1+1)) _ ma) rfl rfl rfl rfl (.inl (by rfl)) ?_
      simp only[c_.down,simprocAttr,dA.down,fF]
      refine⟨hh (by kernel_rfl),?_⟩
      (try simp only[b_.down,simprocAttr,aF,fF]at aK⊢);exact aK
     refine cz h (fun g7 h=> ?_) (fun g7 h=> ?_)
     ·refine ws _ ?_
      exact bS (Qd _ (.inl (bU [.int .i64 (-1)])))
     ·refine cu (n18 _ (.inl ?_))
      refine wr _ ?_
      refine gz _ (hn _ (.inl ?_))
      refine wr _ ?_
      exact jD _ (.inr ⟨_,c7 rfl,lj (IntKind.i64.wrap ((IntKind.i64.wrap (c1+1))+1)) (IntKind.i64.wrap (cN+1)) h⟩)
   ·refine ir (eB 0 _ (ca 0 _ (dy _ (eo _ (.inl ?_)))))
    refine ws _ ?_
    exact bS (bl _ (.inl (bU [.int .i64 c1])))
 obtain⟨n,h⟩:=h9 h
 exact iu (.inr ⟨_,c7 rfl,mZ n aA 0 h⟩)
theorem Qe (a0:List eA) (aA:eA) (r:Bool) (h:xl a0 aA=some r):b8 aZ 4 [.slice (a0.map dz),dz aA] (.bool r) []:=by
 refine eX [0,1] [.tmp 4] Try.func4 zp (fun eO bl eM=> ?_)
 refine ws _ ?_
 refine ws _ ?_
 obtain⟨bd,b2,h⟩:=bL h
 refine h6 (PK a0 1048576 _ b2) _ ?_
 refine bY bl (fun o9 jD g0 ca=> ?_)
 refine ws _ ?_
 refine cz h (fun vv h=> ?_) (fun vv h=> ?_)
 ·refine ws _ ?_
  exact bS (g0 _ (.inl (bU [.bool true])))
 ·refine cu (jD _ (.inl ?_))
  obtain⟨bP,jJ,h⟩:=bL h
  refine h6 (CD aA bd _ jJ) _ ?_
  refine bY bl (fun sy ku lh k8=> ?_)
  refine ws _ ?_
  refine cz h (fun nS h=> ?_) (fun nS h=> ?_)
  ·refine ws _ ?_
   exact bS (lh _ (.inl (bU [.bool true])))
  ·refine cu (ku _ (.inl ?_))
   obtain⟨cv,fz,h⟩:=bL h
   obtain⟨cL,e6,h⟩:=bL h
   obtain⟨ca,jz,h⟩:=bL h
   refine BT 7 8 [0,1,2,3,4,5,6,8,7,9] rfl rfl [(0,.slice (a0.map dz)),(3,.bm (dz aA)),(6,.aH 2 (ca.1.map aF)),(7,.int .i64 ca.2)] (fun P aK=> ?_) (fun P aK=> ?_) ?_
   ·simp only[c_.down,simprocAttr,gk.down,gh]
    refine gx (qK a0 _ fz) rfl rfl rfl rfl (.inl (by rfl)) ?_
    simp only[c_.down,simprocAttr,gk.down,gh]
    refine gx (qJ aA _ e6) rfl rfl rfl rfl (.inl (by rfl)) ?_
    simp only[c_.down,simprocAttr,gk.down,gh]
    refine gx (CL cv cL _ jz) rfl rfl (by simp only[c_.down,simprocAttr,gk.down,gh,hD,hE,hF,gS, @fO _ aF aF (fun _=>fP _)]<;>rfl) rfl (.inr (by simp only[j.cS,j.il, @rZ _ aF (fun _=>sr _),Bool.and_self])) ?_
    simp only[c_.down,simprocAttr,gk.down,gh]
    refine⟨hh (by kernel_rfl),?_⟩
    (try simp only[b_.down,simprocAttr,dQ.down,gh]at aK⊢);exact aK
   ·simp only[nL,List.map_cons,List.map_nil,List.getD_cons_zero,List.getD_cons_succ,simprocAttr]
    simp only[c_.down,simprocAttr,gk.down,gh]
    refine gx (qK a0 _ fz) rfl rfl rfl rfl (.inl (by rfl)) ?_
    simp only[c_.down,simprocAttr,gk.down,gh]
    refine gx (qJ aA _ e6) rfl rfl rfl rfl (.inl (by rfl)) ?_
    simp only[c_.down,simprocAttr,gk.down,gh]
    refine gx (CL cv cL _ jz) rfl rfl (by simp only[c_.down,simprocAttr,gk.down,gh,hD,hE,hF,gS, @fO _ aF aF (fun _=>fP _)]<;>rfl) rfl (.inr (by simp only[j.cS,j.il, @rZ _ aF (fun _=>sr _),Bool.and_self])) ?_
    simp only[c_.down,simprocAttr,gk.down,gh]
    refine⟨hh (by kernel_rfl),?_⟩
    (try simp only[b_.down,simprocAttr,dQ.down,gh]at aK⊢);exact aK
   obtain⟨eB,ma,h⟩:=bL h
   refine h6 (qK a0 _ ma) _ ?_
   obtain⟨gI,jC,h⟩:=bL h
   obtain⟨e5,uq,h⟩:=bL h
   refine ef (dm [(0,.slice (a0.map dz)),(3,.bm (dz aA)),(6,.aH 2 (ca.1.map aF)),(7,.int .i64 ca.2),(8,.aH 2 (eB.map aF)),(9,.aH 2 (e5.1.map aF)),(10,.int .i64 e5.2)] (fun P aK=> ?_) ?_)
   ·simp only[bA.down,simprocAttr,gk.down]
    refine gw (qJ aA _ jC) rfl rfl rfl rfl (.inl (by rfl)) ?_
    simp only[bA.down,simprocAttr,gk.down]
    refine gw (xR eB gI _ uq) rfl rfl (by simp only[bA.down,simprocAttr,gk.down,hD,hE,hF,gS, @fO _ aF aF (fun _=>fP _)]<;>rfl) rfl (.inr (by simp only[j.cS,j.il, @rZ _ aF (fun _=>sr _),Bool.and_self])) ?_
    simp only[bA.down,simprocAttr,gk.down]
    (try simp only[b_.down,simprocAttr,dQ.down]at aK⊢);exact aK
   refine bY bl (fun CO n24 ux xP=> ?_)
   obtain⟨iC,uu,h⟩:=bL h
   refine ef (dm [(0,.slice (a0.map dz)),(3,.bm (dz aA)),(6,.aH 2 (ca.1.map aF)),(7,.int .i64 ca.2),(8,.aH 2 (eB.map aF)),(9,.aH 2 (e5.1.map aF)),(10,.int .i64 e5.2),(51,.bool ((!iC)||(e5.2 !=ca.2)))] (fun P aK=> ?_) ?_)
   ·rcases Bool.eq_false_or_eq_true (iC)with m1|m1
    ·simp only[bA.down,simprocAttr,dQ.down,m1]
     refine gw (pc e5.1 ca.1 _ uu) rfl rfl (by simp only[bA.down,simprocAttr,dQ.down,m1,hD,hE,hF,gS, @fO _ aF aF (fun _=>fP _), @fO _ aF aF (fun _=>fP _)]<;>rfl) rfl (.inr (by rfl)) ?_
     simp only[bA.down,simprocAttr,dQ.down,m1]
     (try simp only[b_.down,simprocAttr,dQ.down,m1]at aK⊢);exact aK
    ·simp only[bA.down,simprocAttr,dQ.down,m1]
     refine gw (pc e5.1 ca.1 _ uu) rfl rfl (by simp only[bA.down,simprocAttr,dQ.down,m1,hD,hE,hF,gS, @fO _ aF aF (fun _=>fP _), @fO _ aF aF (fun _=>fP _)]<;>rfl) rfl (.inr (by rfl)) ?_
     simp only[bA.down,simprocAttr,dQ.down,m1]
     (try simp only[b_.down,simprocAttr,dQ.down,m1]at aK⊢);exact aK
   refine cz h (fun uv h=> ?_) (fun uv h=> ?_)
   ·refine ws _ ?_
    exact bS (ux _ (.inl (bU [.bool false])))
   ·refine cu (n24 _ (.inl ?_))
    refine bY bl (fun Su n30 Qf Sv=> ?_)
    obtain⟨hJ,pa,h⟩:=bL h
    obtain⟨k8,xS,h⟩:=bL h
    refine ef (dm [(0,.slice (a0.map dz)),(3,.bm (dz aA)),(6,.aH 2 (ca.1.map aF)),(7,.int .i64 ca.2),(8,.aH 2 (eB.map aF)),(9,.aH 2 (e5.1.map aF)),(10,.int .i64 e5.2),(56,.bool (!k8))] (fun P aK=> ?_) ?_)
    ·simp only[bA.down,simprocAttr,dQ.down]
     refine gw (qK a0 _ pa) rfl rfl rfl rfl (.inl (by rfl)) ?_
     simp only[bA.down,simprocAttr,dQ.down]
     refine gw (pc eB hJ _ xS) rfl rfl (by simp only[bA.down,simprocAttr,dQ.down,hD,hE,hF,gS, @fO _ aF aF (fun _=>fP _), @fO _ aF aF (fun _=>fP _)]<;>rfl) rfl (.inr (by rfl)) ?_
     simp only[bA.down,simprocAttr,dQ.down]
     (try simp only[b_.down,simprocAttr,dQ.down]at aK⊢);exact aK
    refine cz h (fun xL h=> ?_) (fun xL h=> ?_)
    ·refine ws _ ?_
     exact bS (Qf _ (.inl (bU [.bool false])))
    ·refine cu (n30 _ (.inl ?_))
     refine ws _ ?_
     obtain⟨oZ,Qg,h⟩:=bL h
     refine ef (dm [(0,.slice (a0.map dz)),(3,.bm (dz aA)),(6,.aH 2 (ca.1.map aF)),(7,.int .i64 ca.2),(9,.aH 2 (e5.1.map aF)),(10,.int .i64 e5.2),(11,.int .i64 oZ.1)] (fun P aK=> ?_) ?_)
     ·simp only[bA.down,simprocAttr,dQ.down]
      refine wU [⟨.h 8 [],true,_,_⟩,⟨.int .i64 1,false,_,.hole⟩] (CU eB 1 _ Qg) rfl rfl rfl (by simp only[bA.down,simprocAttr,dQ.down,tA,wV,wW,hD,hE,hF,gS,or_true,true_or, @fO _ aF aF (fun _=>fP _)]) rfl rfl (.inl rfl) ?_
      simp only[bA.down,simprocAttr,dQ.down,wX]
      (try simp only[b_.down,simprocAttr,dQ.down]at aK⊢);exact aK
     refine bY bl (fun Sw n39 CW Sy=> ?_)
     rcases iF h with⟨mb,h⟩|⟨mb,h⟩
     ·refine i5 mb _ ?_
      refine nD rfl ?_
      refine ws _ ?_
      exact bS (CW _ (.inl (bU [.bool false])))
     ·obtain⟨k9,CX,h⟩:=bL h
      refine ef (dm [(0,.slice (a0.map dz)),(3,.bm (dz aA)),(6,.aH 2 (ca.1.map aF)),(7,.int .i64 ca.2),(9,.aH 2 (e5.1.map aF)),(72,.bool ((!k9)||(e5.2 !=ca.2)))] (fun P aK=> ?_) ?_)
      ·rcases Bool.eq_false_or_eq_true (k9)with lb|lb
       ·simp only[bA.down,simprocAttr,dQ.down,mb,lb]
        refine qh (pc e5.1 ca.1 _ CX) rfl rfl (by simp only[bA.down,simprocAttr,dQ.down,mb,lb,hD,hE,hF,gS, @fO _ aF aF (fun _=>fP _), @fO _ aF aF (fun _=>fP _)]<;>rfl) rfl (.inr (by rfl)) ?_
        simp only[bA.down,simprocAttr,dQ.down,mb,lb]
        (try simp only[b_.down,simprocAttr,dQ.down,mb,lb]at aK⊢);exact aK
       ·simp only[bA.down,simprocAttr,dQ.down,mb,lb]
        refine qh (pc e5.1 ca.1 _ CX) rfl rfl (by simp only[bA.down,simprocAttr,dQ.down,mb,lb,hD,hE,hF,gS, @fO _ aF aF (fun _=>fP _), @fO _ aF aF (fun _=>fP _)]<;>rfl) rfl (.inr (by rfl)) ?_
        simp only[bA.down,simprocAttr,dQ.down,mb,lb]
        (try simp only[b_.down,simprocAttr,dQ.down,mb,lb]at aK⊢);exact aK
      refine cz h (fun Qh h=> ?_) (fun Qh h=> ?_)
      ·refine ws _ ?_
       exact bS (CW _ (.inl (bU [.bool false])))
      ·refine cu (n39 _ (.inl ?_))
       refine ws _ ?_
       obtain⟨gy,Qi,h⟩:=bL h
       refine ef (dm [(0,.slice (a0.map dz)),(3,.bm (dz aA)),(6,.aH 2 (ca.1.map aF)),(7,.int .i64 ca.2),(9,.aH 2 (gy.2.map aF)),(12,.int .i64 gy.1)] (fun P aK=> ?_) ?_)
       ·simp only[bA.down,simprocAttr,dQ.down]
        refine wU [⟨.h 9 [],true,_,_⟩,⟨.int .i64 1,false,_,.hole⟩] (CU e5.1 1 _ Qi) rfl rfl rfl (by simp only[bA.down,simprocAttr,dQ.down,tA,wV,wW,hD,hE,hF,gS,or_true,true_or, @fO _ aF aF (fun _=>fP _)]) rfl rfl (.inl rfl) ?_
        simp only[bA.down,simprocAttr,dQ.down,wX]
        (try simp only[b_.down,simprocAttr,dQ.down]at aK⊢);exact aK
       refine ws _ ?_
       obtain⟨k_,Qj,h⟩:=bL h
       refine ef (dm [(0,.slice (a0.map dz)),(3,.bm (dz aA)),(6,.aH 2 (ca.1.map aF)),(7,.int .i64 ca.2),(9,.aH 2 (gy.2.map aF)),(12,.int .i64 gy.1),(13,.int .i64 k_)] (fun P aK=> ?_) ?_)
       ·simp only[bA.down,simprocAttr,dQ.down]
        refine gw (CV gy.2 1 _ Qj) rfl rfl (by simp only[bA.down,simprocAttr,dQ.down,hD,hE,hF,gS, @fO _ aF aF (fun _=>fP _)]<;>rfl) rfl (.inr (by rfl)) ?_
        simp only[bA.down,simprocAttr,dQ.down]
        (try simp only[b_.down,simprocAttr,dQ.down]at aK⊢);exact aK
       refine bY bl (fun Sz Qk Ql SA=> ?_)
       refine ws _ ?_
       refine cz h (fun Qm h=> ?_) (fun Qm h=> ?_)
       ·refine ws _ ?_
        exact bS (Ql _ (.inl (bU [.bool false])))
       ·refine cu (Qk _ (.inl ?_))
        refine bY bl (fun SB Qn Qo SC=> ?_)
        refine ws _ ?_
        refine cz h (fun Qp h=> ?_) (fun Qp h=> ?_)
        ·refine ws _ ?_
         exact bS (Qo _ (.inl (bU [.bool false])))
        ·refine cu (Qn _ (.inl ?_))
         obtain⟨mR,CY,h⟩:=bL h
         obtain⟨so,CZ,h⟩:=bL h
         obtain⟨mS,C0,h⟩:=bL h
         refine BT 7 8 [0,1,2,3,4,5,6,8,7,9] rfl rfl [(6,.aH 2 (ca.1.map aF)),(7,.int .i64 ca.2),(9,.aH 2 (gy.2.map aF)),(12,.int .i64 gy.1),(14,.aH 2 (mS.1.map aF)),(15,.int .i64 mS.2)] (fun P aK=> ?_) (fun P aK=> ?_) ?_
         ·simp only[c_.down,simprocAttr,gk.down,gh]
          refine gx (qK a0 _ CY) rfl rfl rfl rfl (.inl (by rfl)) ?_
          simp only[c_.down,simprocAttr,gk.down,gh]
          refine gx (qJ aA _ CZ) rfl rfl rfl rfl (.inl (by rfl)) ?_
          simp only[c_.down,simprocAttr,gk.down,gh]
          refine gx (xR mR so _ C0) rfl rfl (by simp only[c_.down,simprocAttr,gk.down,gh,hD,hE,hF,gS, @fO _ aF aF (fun _=>fP _)]<;>rfl) rfl (.inr (by simp only[j.cS,j.il, @rZ _ aF (fun _=>sr _),Bool.and_self])) ?_
          simp only[c_.down,simprocAttr,gk.down,gh]
          refine⟨hh (by kernel_rfl),?_⟩
          (try simp only[b_.down,simprocAttr,dQ.down,gh]at aK⊢);exact aK
         ·simp only[nL,List.map_cons,List.map_nil,List.getD_cons_zero,List.getD_cons_succ,simprocAttr]
          simp only[c_.down,simprocAttr,gk.down,gh]
          refine gx (qK a0 _ CY) rfl rfl rfl rfl (.inl (by rfl)) ?_
          simp only[c_.down,simprocAttr,gk.down,gh]
          refine gx (qJ aA _ CZ) rfl rfl rfl rfl (.inl (by rfl)) ?_
          simp only[c_.down,simprocAttr,gk.down,gh]
          refine gx (xR mR so _ C0) rfl rfl (by simp only[c_.down,simprocAttr,gk.down,gh,hD,hE,hF,gS, @fO _ aF aF (fun _=>fP _)]<;>rfl) rfl (.inr (by simp only[j.cS,j.il, @rZ _ aF (fun _=>sr _),Bool.and_self])) ?_
          simp only[c_.down,simprocAttr,gk.down,gh]
          refine⟨hh (by kernel_rfl),?_⟩
          (try simp only[b_.down,simprocAttr,dQ.down,gh]at aK⊢);exact aK
         refine bY bl (fun SD Qq Qr SE=> ?_)
         obtain⟨qF,C1,h⟩:=bL h
         refine ef (dm [(9,.aH 2 (gy.2.map aF)),(12,.int .i64 gy.1),(100,.bool ((!qF)||(mS.2 !=ca.2)))] (fun P aK=> ?_) ?_)
         ·rcases Bool.eq_false_or_eq_true (qF)with m2|m2
          ·simp only[bA.down,simprocAttr,aF,m2]
           refine gw (pc mS.1 ca.1 _ C1) rfl rfl (by simp only[bA.down,simprocAttr,aF,m2,hD,hE,hF,gS, @fO _ aF aF (fun _=>fP _), @fO _ aF aF (fun _=>fP _)]<;>rfl) rfl (.inr (by rfl)) ?_
           simp only[bA.down,simprocAttr,aF,m2]
           (try simp only[b_.down,simprocAttr,aF,m2]at aK⊢);exact aK
          ·simp only[bA.down,simprocAttr,aF,m2]
           refine gw (pc mS.1 ca.1 _ C1) rfl rfl (by simp only[bA.down,simprocAttr,aF,m2,hD,hE,hF,gS, @fO _ aF aF (fun _=>fP _), @fO _ aF aF (fun _=>fP _)]<;>rfl) rfl (.inr (by rfl)) ?_
           simp only[bA.down,simprocAttr,aF,m2]
           (try simp only[b_.down,simprocAttr,aF,m2]at aK⊢);exact aK
         refine cz h (fun Qs h=> ?_) (fun Qs h=> ?_)
         ·refine ws _ ?_
          exact bS (Qr _ (.inl (bU [.bool false])))
         ·refine cu (Qq _ (.inl ?_))
          refine ws _ ?_
          obtain⟨qG,Qt,h⟩:=bL h
          refine ef (dm [(12,.int .i64 gy.1),(13,.int .i64 qG)] (fun P aK=> ?_) ?_)
          ·simp only[bA.down,simprocAttr,aF]
           refine gw (CV gy.2 1 _ Qt) rfl rfl (by simp only[bA.down,simprocAttr,aF,hD,hE,hF,gS, @fO _ aF aF (fun _=>fP _)]<;>rfl) rfl (.inr (by rfl)) ?_
           simp only[bA.down,simprocAttr,aF]
           (try simp only[b_.down,simprocAttr,aF]at aK⊢);exact aK
          refine bY bl (fun SF Qu Qv SG=> ?_)
          refine ws _ ?_
          refine cz h (fun Qw h=> ?_) (fun Qw h=> ?_)
          ·refine ws _ ?_
           exact bS (Qv _ (.inl (bU [.bool false])))
          ·refine cu (Qu _ (.inl ?_))
           refine bY bl (fun SH Qx Qy SI=> ?_)
           refine ws _ ?_
           refine cz h (fun Qz h=> ?_) (fun Qz h=> ?_)
           ·refine ws _ ?_
            exact bS (Qy _ (.inl (bU [.bool false])))
           ·refine cu (Qx _ (.inl ?_))
            refine ws _ ?_
            exact bS (bl _ (.inl (bU [.bool true])))
end Go.Proofs.Ytpddiknnnoomoaa
