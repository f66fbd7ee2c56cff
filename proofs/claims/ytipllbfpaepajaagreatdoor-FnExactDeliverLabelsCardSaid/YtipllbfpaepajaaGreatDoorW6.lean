/- Part of a proof that a law returns true for every input. No condition. -/
import Derived.Test.YtipllbfpaepajaaGreatDoorSl
namespace Go.Proofs.YtipllbfpaepajaaGreatDoor
open Go Go.ca Go.ff
set_option maxRecDepth 100000
set_option maxHeartbeats 1400000
set_option linter.unusedSimpArgs false
set_option linter.unusedVariables false
theorem cJ (fx:List Nat) (dU:List ResultVar) {f:FuncId} {fn:Func} {c:Code} {dN:aa} {ins outs:List I} {r:I} (bk:aP.P.funcs[f]? =some fn) (U:bS ⟨fn.ntmps,fx⟩ c=some dN.strip)
 (y4:∀Q:Exit→aj→Prop,(∀s,eM (ca.Ends aP fx dU r outs) s→Q .ret s)→(∀s,eM (ca.Ends aP fx dU r outs) s→Q .normal s)→b1 aP dN Q (J (num 0 ins))) (R:fn.body=some c:=by rfl) (jc:(fn.name== "runtime.NumGoroutine")=false:=by rfl) (aW:ins.length≤fn.ntmps:=by exact Nat.le_of_ble_eq_true rfl) (eP:fn.results.toList=dU:=by rfl) (ak:dN.plain=true:=by kernel_rfl):bq aP f ins r outs:=
 bq.EX MK dU (num 0 ins) bk R jc U aW eP rfl y4 ak
def h0:=PLift.up (And.intro @fJ (And.intro @hc (And.intro @nj (And.intro @tN (And.intro @mv (And.intro @jD (And.intro @a7.eq_1 @aL.eq_1)))))))
theorem ws {Q:Exit→aj→Prop} {l:List (Nat×I)} {ros:List br} {k:List Nat} {b:aa} (c6:List (Nat×I)) (al:b1 aP b Q (J c6)) (h:∀P:List (Nat×I)→Prop,P c6→bN aP (J l) ros none (fun _ s=>P (gU k s)):=by
 intro P aC
 simp only[aV.down,simprocAttr,h0.down]
 (try simp only[bO.down,simprocAttr,h0.down]at aC⊢)
 exact aC):b1 aP (.seq (.b9 ros (some k)) b) Q (J l):=
 cP (cl c6 (h) al)
theorem fz {Q:Exit→aj→Prop} {l:List (Nat×I)} {ros:List br} {k:List Nat} {b:aa} {g:FuncId} {ds:List I} {r:I} (ok:bq aP g ds r []) (c6:List (Nat×I)) (al:b1 aP b Q (J c6)) (h:bq aP g ds r []→∀P:List (Nat×I)→Prop,P c6→bN aP (J l) ros none (fun _ s=>P (gU k s)):=by
 intro qB P aC
 (try simp only[aV.down,simprocAttr,h0.down])
 refine fe qB rfl rfl rfl rfl (.inl (by rfl)) ?_
 simp only[aV.down,simprocAttr,h0.down]
 (try simp only[bO.down,simprocAttr,h0.down]at aC⊢)
 exact aC):b1 aP (.seq (.b9 ros (some k)) b) Q (J l):=
 cP (cl c6 (h ok) al)
theorem gl {F:Prop} (a1:F) {Q:Exit→aj→Prop} {l:List (Nat×I)} {ros:List br} {k:List Nat} {b:aa} (c6:List (Nat×I)) (al:b1 aP b Q (J c6)) (h:F→∀P:List (Nat×I)→Prop,P c6→bN aP (J l) ros none (fun _ s=>P (gU k s)):=by
 intro a1 P aC
 simp only[aV.down,simprocAttr,h0.down,a1]
 (try simp only[bO.down,simprocAttr,h0.down,a1]at aC⊢)
 exact aC):b1 aP (.seq (.b9 ros (some k)) b) Q (J l):=
 cP (cl c6 (h a1) al)
theorem jl {F:Prop} (a1:F) {Q:Exit→aj→Prop} {l:List (Nat×I)} {ros:List br} {k:List Nat} {b:aa} {g:FuncId} {ds:List I} {r:I} (ok:bq aP g ds r []) (c6:List (Nat×I)) (al:b1 aP b Q (J c6)) (h:bq aP g ds r []→F→∀P:List (Nat×I)→Prop,P c6→bN aP (J l) ros none (fun _ s=>P (gU k s)):=by
 intro qB a1 P aC
 (try simp only[aV.down,simprocAttr,h0.down,a1])
 refine fe qB rfl rfl rfl rfl (.inl (by rfl)) ?_
 simp only[aV.down,simprocAttr,h0.down,a1]
 (try simp only[bO.down,simprocAttr,h0.down,a1]at aC⊢)
 exact aC):b1 aP (.seq (.b9 ros (some k)) b) Q (J l):=
 cP (cl c6 (h ok a1) al)
theorem wr {Q:Exit→aj→Prop} {l:List (Nat×I)} {ros:List br} {k:List Nat} (c6:List (Nat×I)) (al:Q .normal (J c6)) (h:∀P:List (Nat×I)→Prop,P c6→bN aP (J l) ros none (fun _ s=>P (gU k s)):=by
 intro P aC
 simp only[aV.down,simprocAttr,h0.down]
 (try simp only[bO.down,simprocAttr,h0.down]at aC⊢)
 exact aC):b1 aP (.b9 ros (some k)) Q (J l):=
 je (cl c6 (h) al)
theorem FU {Q:Exit→aj→Prop} {l:List (Nat×I)} {ros:List br} {k:List Nat} {g:FuncId} {ds:List I} {r:I} (ok:bq aP g ds r []) (c6:List (Nat×I)) (al:Q .normal (J c6)) (h:bq aP g ds r []→∀P:List (Nat×I)→Prop,P c6→bN aP (J l) ros none (fun _ s=>P (gU k s)):=by
 intro qB P aC
 (try simp only[aV.down,simprocAttr,h0.down])
 refine fe qB rfl rfl rfl rfl (.inl (by rfl)) ?_
 simp only[aV.down,simprocAttr,h0.down]
 (try simp only[bO.down,simprocAttr,h0.down]at aC⊢)
 exact aC):b1 aP (.b9 ros (some k)) Q (J l):=
 je (cl c6 (h ok) al)
theorem w8 {F:Prop} (a1:F) {Q:Exit→aj→Prop} {l:List (Nat×I)} {ros:List br} {k:List Nat} (c6:List (Nat×I)) (al:Q .normal (J c6)) (h:F→∀P:List (Nat×I)→Prop,P c6→bN aP (J l) ros none (fun _ s=>P (gU k s)):=by
 intro a1 P aC
 simp only[aV.down,simprocAttr,h0.down,a1]
 (try simp only[bO.down,simprocAttr,h0.down,a1]at aC⊢)
 exact aC):b1 aP (.b9 ros (some k)) Q (J l):=
 je (cl c6 (h a1) al)
theorem abQ {F:Prop} (a1:F) {Q:Exit→aj→Prop} {l:List (Nat×I)} {ros:List br} {k:List Nat} {g:FuncId} {ds:List I} {r:I} (ok:bq aP g ds r []) (c6:List (Nat×I)) (al:Q .normal (J c6)) (h:bq aP g ds r []→F→∀P:List (Nat×I)→Prop,P c6→bN aP (J l) ros none (fun _ s=>P (gU k s)):=by
 intro qB a1 P aC
 (try simp only[aV.down,simprocAttr,h0.down,a1])
 refine fe qB rfl rfl rfl rfl (.inl (by rfl)) ?_
 simp only[aV.down,simprocAttr,h0.down,a1]
 (try simp only[bO.down,simprocAttr,h0.down,a1]at aC⊢)
 exact aC):b1 aP (.b9 ros (some k)) Q (J l):=
 je (cl c6 (h ok a1) al)
def cG:=PLift.up (And.intro @a7.eq_1 @aL.eq_1)
def jm:=PLift.up (And.intro @hc (And.intro @nj @aL.eq_1))
def kg:=PLift.up (And.intro @fJ (And.intro @tN @a7.eq_1))
theorem Xv (a0:List (List UInt8)) (ah:Int) (r:Int) (h:vZ a0 ah=some r):bq aP 9 [.slice (a0.map aL),.int .i64 ah] (.int .i64 r) []:=by
 refine cJ [0] [.tmp 4] Tryz.func9 M7 (fun ch aQ cp=> ?_)
 refine ws _ ?_
 refine ws _ ?_
 refine bh aQ (fun uv lZ fj aZ=> ?_)
 refine ws _ ?_
 refine bA h (fun h9 h=> ?_) (fun h9 h=> ?_)
 ·refine ws _ ?_
  exact bj (fj _ (.inl (bl [.int .i64 (-1)])))
 ·refine bH (lZ _ (.inl ?_))
  refine bh aQ (fun lp fV gB cn=> ?_)
  refine ws _ ?_
  refine cT gB (fun h1 eN eu uw d_=> ?_)
  have Ae:∀(n:Nat) (ld:Int) (lT:Int),vY a0 n ld lT=some r→fc aP E5 h1 (J [(0,.slice (a0.map aL)),(1,.int .i64 ld),(5,.int .i64 lT)]):=by
   intro m16
   induction m16 with
   |zero=>intro ld lT h;cases(show none=some r from h)
   |succ m16 Af=>
    intro ld lT h
    replace h:EZ (vY a0 m16) a0 ld lT=some r:=h
    refine gj eu (fun jF e1 gm fK=> ?_)
    refine bh gm (fun sk kL l0 mA=> ?_)
    refine ws _ ?_
    refine bA h (fun mC h=> ?_) (fun mC h=> ?_)
    ·refine bH (kL _ (.inl ?_))
     refine bh gm (fun qC lq l1 nq=> ?_)
     refine cT l1 (fun w9 mD nt iL mB=> ?_)
     obtain⟨aI,hs,h⟩:=aX h
     refine gl hs _ ?_
     refine ws _ ?_
     refine bA h (fun Ag h=> ?_) (fun Ag h=> ?_)
     ·refine ws _ ?_
      exact bj (nt _ (.inl (bl [.int .i64 (-1)])))
     ·refine bH (mD _ (lq _ (.inl ?_)))
      refine wr _ ?_
      exact e1 _ (.inr ⟨_,bX rfl,Af (IntKind.i64.wrap (ld-(aI.length:Int))) (IntKind.i64.wrap (lT+1)) h⟩)
    ·refine gg (mA 0 _ (fK 0 _ (uw _ (fV _ (.inl ?_)))))
     refine ws _ ?_
     exact bj (aQ _ (.inl (bl [.int .i64 ld])))
  obtain⟨n,h⟩:=gb h
  exact gh (.inr ⟨_,bX rfl,Ae n (IntKind.i64.wrap (ah-(a0.length:Int))) 0 h⟩)
theorem w_ (a0:List (List UInt8)) (r:(List (List UInt8))) (h:qa a0=some r):bq aP 11 [.slice (a0.map aL)] (.aE 1 (r.map aL)) []:=by
 refine cJ [0] [.tmp 2] Tryz.func11 Ng (fun ch aQ cp=> ?_)
 refine ws _ ?_
 obtain⟨Xw,aK,h⟩:=aX h
 refine cP (cl [(0,.slice (a0.map aL)),(3,.aE 1 ((List.replicate (Int.toNat (a0.length:Int)) ([]:List UInt8)).map aL))] (fun P aC=> ?_) ?_)
 ·simp only[aV.down,simprocAttr,jm.down,(gL aK).1,(gL aK).2.1,(gL aK).2.2,er,List.map_replicate,-Int.reduceNatCast']
  (try simp only[bO.down,simprocAttr,aL,(gL aK).1,(gL aK).2.1,(gL aK).2.2,er,List.map_replicate,-Int.reduceNatCast']at aC⊢);exact aC
 refine bh aQ (fun gI fW dt a6=> ?_)
 refine ws [(0,.slice (a0.map aL)),(3,.aE 1 ((List.replicate (Int.toNat (a0.length:Int)) ([]:List UInt8)).map aL)),(4,.int .i64 0)] ?_
 refine cT dt (fun hJ eX fk fH cw=> ?_)
 have qD:∀(n:Nat) (fy:List (List UInt8)) (dc:Int),v7 a0 n fy dc=some r→fc aP E6 hJ (J [(0,.slice (a0.map aL)),(3,.aE 1 (fy.map aL)),(4,.int .i64 dc)]):=by
  intro m8
  induction m8 with
  |zero=>intro fy dc h;cases(show none=some r from h)
  |succ m8 qE=>
   intro fy dc h
   replace h:E0 (v7 a0 m8) a0 fy dc=some r:=h
   refine gj fk (fun lp fV gB cn=> ?_)
   refine bh gB (fun jG h2 iM hf=> ?_)
   refine ws _ ?_
   refine bA h (fun gn h=> ?_) (fun gn h=> ?_)
   ·refine bH (h2 _ (.inl ?_))
    refine bh gB (fun sk kL l0 mA=> ?_)
    refine cT l0 (fun Ah qF xa hh qu=> ?_)
    obtain⟨aI,il,h⟩:=aX h
    obtain⟨aT,gA,h⟩:=aX h
    refine je (cl [(0,.slice (a0.map aL)),(3,.aE 1 ((List.set fy (Int.toNat dc) aI).map aL)),(4,.int .i64 dc)] (fun P aC=> ?_) ?_)
    ·simp only[aV.down,simprocAttr,jm.down,il,gA,iR gA,jB,gx]
     (try simp only[bO.down,simprocAttr,aL,il,gA,iR gA,jB,gx]at aC⊢);exact aC
    refine qF _ (kL _ (.inl ?_))
    refine wr [(0,.slice (a0.map aL)),(3,.aE 1 ((List.set fy (Int.toNat dc) aI).map aL)),(4,.int .i64 (IntKind.i64.wrap (dc+1)))] ?_
    exact fV _ (.inr ⟨_,bX rfl,qE (List.set fy (Int.toNat dc) aI) (IntKind.i64.wrap (dc+1)) h⟩)
   ·refine gg (hf 0 _ (cn 0 _ (fH _ (fW _ (.inl ?_)))))
    refine ws _ ?_
    exact bj (aQ _ (.inl (bl [.aE 1 (fy.map aL)])))
 obtain⟨n,h⟩:=gb h
 exact gh (.inr ⟨_,bX rfl,qD n (List.replicate (Int.toNat (a0.length:Int)) ([]:List UInt8)) 0 h⟩)
theorem xb (a0:List Int) (r:(List Int)) (h:qb a0=some r):bq aP 12 [.slice (a0.map a7)] (.aE 1 (r.map a7)) []:=by
 refine cJ [0] [.tmp 2] Tryz.func12 Nq (fun ch aQ cp=> ?_)
 refine ws _ ?_
 obtain⟨Xw,aK,h⟩:=aX h
 refine cP (cl [(0,.slice (a0.map a7)),(3,.aE 1 ((List.replicate (Int.toNat (a0.length:Int)) 0).map a7))] (fun P aC=> ?_) ?_)
 ·simp only[aV.down,simprocAttr,kg.down,(gL aK).1,(gL aK).2.1,(gL aK).2.2,er,List.map_replicate,-Int.reduceNatCast']
  (try simp only[bO.down,simprocAttr,a7,(gL aK).1,(gL aK).2.1,(gL aK).2.2,er,List.map_replicate,-Int.reduceNatCast']at aC⊢);exact aC
 refine bh aQ (fun gI fW dt a6=> ?_)
 refine ws [(0,.slice (a0.map a7)),(3,.aE 1 ((List.replicate (Int.toNat (a0.length:Int)) 0).map a7)),(4,.int .i64 0)] ?_
 refine cT dt (fun hJ eX fk fH cw=> ?_)
 have qD:∀(n:Nat) (fy:List Int) (dc:Int),v8 a0 n fy dc=some r→fc aP E7 hJ (J [(0,.slice (a0.map a7)),(3,.aE 1 (fy.map a7)),(4,.int .i64 dc)]):=by
  intro m8
  induction m8 with
  |zero=>intro fy dc h;cases(show none=some r from h)
  |succ m8 qE=>
   intro fy dc h
   replace h:E1 (v8 a0 m8) a0 fy dc=some r:=h
   refine gj fk (fun lp fV gB cn=> ?_)
   refine bh gB (fun jG h2 iM hf=> ?_)
   refine ws _ ?_
   refine bA h (fun gn h=> ?_) (fun gn h=> ?_)
   ·refine bH (h2 _ (.inl ?_))
    refine bh gB (fun sk kL l0 mA=> ?_)
    refine cT l0 (fun Ah qF xa hh qu=> ?_)
    obtain⟨aI,il,h⟩:=aX h
    obtain⟨aT,gA,h⟩:=aX h
    refine je (cl [(0,.slice (a0.map a7)),(3,.aE 1 ((List.set fy (Int.toNat dc) aI).map a7)),(4,.int .i64 dc)] (fun P aC=> ?_) ?_)
    ·simp only[aV.down,simprocAttr,kg.down,il,gA,iR gA,jB,gx]
     (try simp only[bO.down,simprocAttr,a7,il,gA,iR gA,jB,gx]at aC⊢);exact aC
    refine qF _ (kL _ (.inl ?_))
    refine wr [(0,.slice (a0.map a7)),(3,.aE 1 ((List.set fy (Int.toNat dc) aI).map a7)),(4,.int .i64 (IntKind.i64.wrap (dc+1)))] ?_
    exact fV _ (.inr ⟨_,bX rfl,qE (List.set fy (Int.toNat dc) aI) (IntKind.i64.wrap (dc+1)) h⟩)
   ·refine gg (hf 0 _ (cn 0 _ (fH _ (fW _ (.inl ?_)))))
    refine ws _ ?_
    exact bj (aQ _ (.inl (bl [.aE 1 (fy.map a7)])))
 obtain⟨n,h⟩:=gb h
 exact gh (.inr ⟨_,bX rfl,qD n (List.replicate (Int.toNat (a0.length:Int)) 0) 0 h⟩)
theorem Xx (a0:List UInt8) (r:Int) (h:rS a0=some r):bq aP 176 [.str a0] (.int .i64 r) []:=by
 refine cJ [0] [.tmp 2] Tryz.func176 NA (fun ch aQ cp=> ?_)
 refine ws _ ?_
 refine bh aQ (fun gF db cd aT=> ?_)
 refine ws _ ?_
 refine cT cd (fun gI fW dt cY a6=> ?_)
 have kh:∀(n:Nat) (kD:Int),n5 a0 n kD=some r→fc aP E8 gI (J [(0,.str a0),(3,.int .i64 kD)]):=by
  intro m6
  induction m6 with
  |zero=>intro kD h;cases(show none=some r from h)
  |succ m6 jH=>
   intro kD h
   replace h:v_ (n5 a0 m6) a0 kD=some r:=h
   refine gj dt (fun lr gY e9 b5=> ?_)
   refine bh e9 (fun hJ eX fk cw=> ?_)
   refine ws _ ?_
   refine bA h (fun ey h=> ?_) (fun ey h=> ?_)
   ·refine bH (eX _ (.inl ?_))
    refine bh e9 (fun h1 eN eu d_=> ?_)
    refine cT eu (fun jF e1 gm gn fK=> ?_)
    obtain⟨aI,hx,h⟩:=aX h
    refine gl hx _ ?_
    refine bA h (fun mC h=> ?_) (fun mC h=> ?_)
    ·refine ws _ ?_
     exact bj (gm _ (.inl (bl [.int .i64 kD])))
    ·refine bH (e1 _ (eN _ (.inl ?_)))
     refine wr _ ?_
     exact gY _ (.inr ⟨_,bX rfl,jH (IntKind.i64.wrap (kD+1)) h⟩)
   ·refine gg (cw 0 _ (b5 0 _ (cY _ (db _ (.inl ?_)))))
    refine ws _ ?_
    exact bj (aQ _ (.inl (bl [.int .i64 (a0.length:Int)])))
 obtain⟨n,h⟩:=gb h
 exact gh (.inr ⟨_,bX rfl,kh n 0 h⟩)
theorem Ai (a0:UInt8) (r:Bool) (h:tO a0=some r):bq aP 143 [.int .u8 (a0.toNat:Int)] (.bool r) []:=by
 refine cJ [0] [.tmp 2] Tryz.func143 NC (fun ch aQ cp=> ?_)
 refine ws _ ?_
 refine cP (cl [(2,.bool ((decide (97≤(a0.toNat:Int)))&&(decide ((a0.toNat:Int)≤122))))] (fun P aC=> ?_) ?_)
 ·rcases Bool.eq_false_or_eq_true (decide (97≤(a0.toNat:Int)))with eZ|eZ
  ·simp only[aV.down,simprocAttr,eZ]
   (try simp only[bO.down,simprocAttr,eZ]at aC⊢);exact aC
  ·simp only[aV.down,simprocAttr,eZ]
   (try simp only[bO.down,simprocAttr,eZ]at aC⊢);exact aC
 exact bj (aQ _ (.inl (bl [.bool ((decide (97≤(a0.toNat:Int)))&&(decide ((a0.toNat:Int)≤122)))])))
theorem Aj (a0:UInt8) (r:Bool) (h:rT a0=some r):bq aP 144 [.int .u8 (a0.toNat:Int)] (.bool r) []:=by
 refine cJ [0] [.tmp 2] Tryz.func144 NG (fun ch aQ cp=> ?_)
 refine ws _ ?_
 refine cP (cl [(2,.bool ((decide (48≤(a0.toNat:Int)))&&(decide ((a0.toNat:Int)≤57))))] (fun P aC=> ?_) ?_)
 ·rcases Bool.eq_false_or_eq_true (decide (48≤(a0.toNat:Int)))with eZ|eZ
  ·simp only[aV.down,simprocAttr,eZ]
   (try simp only[bO.down,simprocAttr,eZ]at aC⊢);exact aC
  ·simp only[aV.down,simprocAttr,eZ]
   (try simp only[bO.down,simprocAttr,eZ]at aC⊢);exact aC
 exact bj (aQ _ (.inl (bl [.bool ((decide (48≤(a0.toNat:Int)))&&(decide ((a0.toNat:Int)≤57)))])))
theorem Ak (a0:List UInt8) (r:Bool) (h:tP a0=some r):bq aP 94 [.str a0] (.bool r) []:=by
 refine cJ [0] [.tmp 2] Tryz.func94 NT (fun ch aQ cp=> ?_)
 refine ws _ ?_
 refine bh aQ (fun gF db cd aT=> ?_)
 rcases h3 h with⟨cY,h⟩|⟨cY,h⟩
 ·refine gl cY _ ?_
  refine k3 rfl ?_
  refine ws _ ?_
  exact bj (cd _ (.inl (bl [.bool false])))
 ·rcases h3 h with⟨fH,h⟩|⟨fH,h⟩
  ·refine gl (And.intro cY fH) _ ?_
   refine k3 rfl ?_
   refine ws _ ?_
   exact bj (cd _ (.inl (bl [.bool false])))
  ·obtain⟨aI,gC,h⟩:=aX h
   obtain⟨aT,iw,h⟩:=aX h
   refine cP (cl [(0,.str a0),(16,.bool (!aT))] (fun P aC=> ?_) ?_)
   ·simp only[aV.down,simprocAttr,hc,cY,fH,gC]
    refine oV (Ai aI _ iw) rfl rfl rfl rfl (.inl (by rfl)) ?_
    simp only[aV.down,simprocAttr,hc,cY,fH,gC]
    (try simp only[bO.down,simprocAttr,cY,fH,gC]at aC⊢);exact aC
   refine bA h (fun gn h=> ?_) (fun gn h=> ?_)
   ·refine ws _ ?_
    exact bj (cd _ (.inl (bl [.bool false])))
   ·refine bH (db _ (.inl ?_))
    refine bh aQ (fun Ah qF xa qu=> ?_)
    refine ws _ ?_
    refine cT xa (fun qC lq l1 pf nq=> ?_)
    have oh:∀(n:Nat) (fg:Int),rU a0 n fg=some r→fc aP E9 qC (J [(0,.str a0),(3,.int .i64 fg)]):=by
     intro m14
     induction m14 with
     |zero=>intro fg h;cases(show none=some r from h)
     |succ m14 nu=>
      intro fg h
      replace h:wa (rU a0 m14) a0 fg=some r:=h
      refine gj l1 (fun w9 mD nt mB=> ?_)
      refine bh nt (fun Al pg ux hr=> ?_)
      refine ws _ ?_
      refine bA h (fun lu h=> ?_) (fun lu h=> ?_)
      ·refine bH (pg _ (.inl ?_))
       refine bh nt (fun Xy xc FV si=> ?_)
       refine cT FV (fun Xz qG FW qH ln=> ?_)
       obtain⟨aZ,jn,h⟩:=aX h
       obtain⟨a6,jI,h⟩:=aX h
       rcases h3 h with⟨ph,h⟩|⟨ph,h⟩
       ·obtain⟨b5,Am,h⟩:=aX h
        refine cP (cl [(0,.str a0),(3,.int .i64 fg),(34,.bool (!b5))] (fun P aC=> ?_) ?_)
        ·simp only[aV.down,simprocAttr,hc,jn,(p_ ph)]
         refine fe (Ai aZ _ jI) rfl rfl rfl rfl (.inl (by rfl)) ?_
         simp only[aV.down,simprocAttr,hc,jn,(p_ ph)]
         refine oV (Aj aZ _ Am) rfl rfl rfl rfl (.inl (by rfl)) ?_
         simp only[aV.down,simprocAttr,hc,jn,(p_ ph)]
         (try simp only[bO.down,simprocAttr,jn,(p_ ph)]at aC⊢);exact aC
        refine bA h (fun xd h=> ?_) (fun xd h=> ?_)
        ·refine ws _ ?_
         exact bj (FW _ (.inl (bl [.bool false])))
        ·refine bH (qG _ (xc _ (.inl ?_)))
         refine wr _ ?_
         exact mD _ (.inr ⟨_,bX rfl,nu (IntKind.i64.wrap (fg+1)) h⟩)
       ·refine jl (And.intro jn (ni ph)) (Ai aZ _ jI) _ ?_
        refine rM rfl ?_
        refine bH (qG _ (xc _ (.inl ?_)))
        refine wr _ ?_
        exact mD _ (.inr ⟨_,bX rfl,nu (IntKind.i64.wrap (fg+1)) h⟩)
      ·refine gg (hr 0 _ (mB 0 _ (pf _ (qF _ (.inl ?_)))))
       refine ws _ ?_
       exact bj (aQ _ (.inl (bl [.bool true])))
    obtain⟨n,h⟩:=gb h
    exact gh (.inr ⟨_,bX rfl,oh n 0 h⟩)
theorem FX (a0:List UInt8) (r:Bool) (h:wb a0=some r):bq aP 177 [.str a0] (.bool r) []:=by
 refine cJ [0] [.tmp 2] Tryz.func177 NW (fun ch aQ cp=> ?_)
 refine ws _ ?_
 obtain⟨aI,aK,h⟩:=aX h
 refine cP (cl [(2,.bool (aI&&(!(a0==([116,97,117]:List UInt8)))))] (fun P aC=> ?_) ?_)
 ·rcases Bool.eq_false_or_eq_true (aI)with jy|jy
  ·simp only[aV.down,simprocAttr,jy]
   refine fe (Ak a0 _ aK) rfl rfl rfl rfl (.inl (by rfl)) ?_
   simp only[aV.down,simprocAttr,jy]
   (try simp only[bO.down,simprocAttr,jy]at aC⊢);exact aC
  ·simp only[aV.down,simprocAttr,jy]
   refine fe (Ak a0 _ aK) rfl rfl rfl rfl (.inl (by rfl)) ?_
   simp only[aV.down,simprocAttr,jy]
   (try simp only[bO.down,simprocAttr,jy]at aC⊢);exact aC
 exact bj (aQ _ (.inl (bl [.bool (aI&&(!(a0==([116,97,117]:List UInt8))))])))
theorem XA (a0:List UInt8) (ah:UInt8) (r:(List (List UInt8))) (h:wg a0 ah=some r):bq aP 129 [.str a0,.int .u8 (ah.toNat:Int)] (.aE 1 (r.map aL)) []:=by
 refine cJ [0,1] [.tmp 4] Tryz.func129 N8 (fun ch aQ cp=> ?_)
 refine ws _ ?_
 refine gl (show∀s,cX aP s 22 0 []=some (.aE 1 [],s)from fun s=>by kernel_rfl) _ ?_
 refine ws _ ?_
 refine bh aQ (fun gI fW dt a6=> ?_)
 refine ws _ ?_
 refine cT dt (fun hJ eX fk fH cw=> ?_)
 have XB:∀(n:Nat) (ig:List (List UInt8)) (gW:Int) (hX:Int),o3 a0 ah n ig gW hX=some r→fc aP Fa hJ (J [(0,.str a0),(1,.int .u8 (ah.toNat:Int)),(5,.aE 1 (ig.map aL)),(6,.int .i64 gW),(7,.int .i64 hX)]):=by
  intro m10
  induction m10 with
  |zero=>intro ig gW hX h;cases(show none=some r from h)
  |succ m10 XC=>
   intro ig gW hX h
   replace h:we (o3 a0 ah m10) a0 ah ig gW hX=some r:=h
   refine gj fk (fun lp fV gB cn=> ?_)
   refine bh gB (fun jG h2 iM hf=> ?_)
   refine ws _ ?_
   refine bA h (fun gn h=> ?_) (fun gn h=> ?_)
   ·refine bH (h2 _ (.inl ?_))
    have FY:∀(rV:List (List UInt8)) (rW:Int) (rX:Int),wc (o3 a0 ah m10) a0 ah rV rW rX=some r→b1 aP E_ lp (J [(0,.str a0),(1,.int .u8 (ah.toNat:Int)),(5,.aE 1 (rV.map aL)),(6,.int .i64 rW),(7,.int .i64 rX)]):=by
     intro rV rW rX h
     refine wr _ ?_
     exact fV _ (.inr ⟨_,bX rfl,XC rV rW (IntKind.i64.wrap (rX+1)) h⟩)
    refine bh gB (fun sk kL l0 mA=> ?_)
    refine cT l0 (fun oi iN lv mC kK=> ?_)
    obtain⟨aI,gA,h⟩:=aX h
    refine gl gA _ ?_
    refine bA h (fun nv h=> ?_) (fun nv h=> ?_)
    ·obtain⟨aT,ki,h⟩:=aX h
     obtain⟨XD,oj,h⟩:=aX h
     (try simp only[lY.down,Nat.reduceAdd]at oj)
     refine cP (cl [(0,.str a0),(1,.int .u8 (ah.toNat:Int)),(5,.aE 1 ((ig++[aT]).map aL)),(7,.int .i64 hX)] (fun P aC=> ?_) ?_)
     ·simp only[aV.down,simprocAttr,jm.down,ki,(show∀s,cX aP s 22 1 [(0,.str aT)]=some (.aE 1 [.str aT],s)from fun s=>by kernel_rfl), @kz aP 22 22 9 rfl rfl,kA,kB,kC,all_cons,all_nil,oj, @jf _ aL 1 (fun _=>rfl)]
      (try simp only[bO.down,simprocAttr,aL,ki,(show∀s,cX aP s 22 1 [(0,.str aT)]=some (.aE 1 [.str aT],s)from fun s=>by kernel_rfl), @kz aP 22 22 9 rfl rfl,kA,kB,kC,all_cons,all_nil,oj, @jf _ aL 1 (fun _=>rfl)]at aC⊢);exact aC
     refine wr [(0,.str a0),(1,.int .u8 (ah.toNat:Int)),(5,.aE 1 ((ig++[aT]).map aL)),(6,.int .i64 (IntKind.i64.wrap (hX+1))),(7,.int .i64 hX)] ?_
     exact iN _ (kL _ (.inr ⟨_,bX rfl,FY (ig++[aT]) (IntKind.i64.wrap (hX+1)) hX h⟩))
    ·exact bH (iN _ (kL _ (.inr ⟨_,bX rfl,FY ig gW hX h⟩)))
   ·refine gg (hf 0 _ (cn 0 _ (fH _ (fW _ (.inl ?_)))))
    obtain⟨aZ,jn,h⟩:=aX h
    obtain⟨abR,jI,h⟩:=aX h
    (try simp only[lY.down,Nat.reduceAdd]at jI)
    refine cP (cl [(4,.aE 1 ((ig++[aZ]).map aL))] (fun P aC=> ?_) ?_)
    ·simp only[aV.down,simprocAttr,jm.down,jn,(show∀s,cX aP s 22 1 [(0,.str aZ)]=some (.aE 1 [.str aZ],s)from fun s=>by kernel_rfl), @kz aP 22 22 9 rfl rfl,kA,kB,kC,all_cons,all_nil,jI, @jf _ aL 1 (fun _=>rfl)]
     (try simp only[bO.down,simprocAttr,aL,jn,(show∀s,cX aP s 22 1 [(0,.str aZ)]=some (.aE 1 [.str aZ],s)from fun s=>by kernel_rfl), @kz aP 22 22 9 rfl rfl,kA,kB,kC,all_cons,all_nil,jI, @jf _ aL 1 (fun _=>rfl)]at aC⊢);exact aC
    exact bj (aQ _ (.inl (bl [.aE 1 ((ig++[aZ]).map aL)])))
 obtain⟨n,h⟩:=gb h
 exact gh (.inr ⟨_,bX rfl,XB n [] 0 0 h⟩)
theorem XE (a0:List UInt8) (r:Int×Bool) (h:wh a0=some r):bq aP 130 [.str a0] (.tuple [.int .i64 r.1,.bool r.2]) []:=by
 refine cJ [0] [.tmp 2,.tmp 3] Tryz.func130 Ot (fun ch aQ cp=> ?_)
 refine ws _ ?_
 refine ws _ ?_
 have sl:∀(gy:Int),rY a0 gy=some r→b1 aP Fb ch (J [(0,.str a0),(4,.int .i64 gy)]):=by
  intro gy h
  refine bh aQ (fun gI fW dt a6=> ?_)
  rcases h3 h with⟨fH,h⟩|⟨fH,h⟩
  ·refine gl fH _ ?_
   refine k3 rfl ?_
   refine ws _ ?_
   exact bj (dt _ (.inl (bl [.int .i64 0,.bool false])))
  ·rcases h3 h with⟨ey,h⟩|⟨ey,h⟩
   ·refine gl (And.intro fH ey) _ ?_
    refine k3 rfl ?_
    refine ws _ ?_
    exact bj (dt _ (.inl (bl [.int .i64 0,.bool false])))
   ·obtain⟨aI,ix,h⟩:=aX h
    rcases h3 h with⟨iO,h⟩|⟨iO,h⟩
    ·refine gl (And.intro fH (And.intro ey (And.intro ix iO))) _ ?_
     refine bA h (fun hh h=> ?_) (fun hh h=> ?_)
     ·refine ws _ ?_
      exact bj (dt _ (.inl (bl [.int .i64 0,.bool false])))
     ·refine bH (fW _ (.inl ?_))
      refine ws _ ?_
      refine bh aQ (fun w9 mD nt mB=> ?_)
      refine ws _ ?_
      refine cT nt (fun XF abS XG qI uu=> ?_)
      have An:∀(n:Nat) (hd:Int) (ij:Int),mx a0 gy n hd ij=some r→fc aP Aa XF (J [(0,.str a0),(4,.int .i64 gy),(5,.int .i64 hd),(6,.int .i64 ij)]):=by
       intro m24
       induction m24 with
       |zero=>intro hd ij h;cases(show none=some r from h)
       |succ m24 Ao=>
        intro hd ij h
        replace h:tR (mx a0 gy m24) a0 gy hd ij=some r:=h
        refine gj XG (fun XH Ap xe sg=> ?_)
        refine bh xe (fun Xy xc FV si=> ?_)
        refine ws _ ?_
        refine bA h (fun sn h=> ?_) (fun sn h=> ?_)
        ·refine bH (xc _ (.inl ?_))
         refine bh xe (fun FZ uy so og=> ?_)
         refine cT so (fun F1 uz xf F2 Aq=> ?_)
         refine bh xf (fun F3 F4 Ar XI=> ?_)
         obtain⟨aT,F5,h⟩:=aX h
         obtain⟨aZ,XJ,h⟩:=aX h
         refine jl F5 (Aj aT _ XJ) _ ?_
         refine bA h (fun uA h=> ?_) (fun uA h=> ?_)
         ·refine ws _ ?_
          exact bj (Ar _ (.inl (bl [.int .i64 0,.bool false])))
         ·refine bH (F4 _ (.inl ?_))
          refine w8 (And.intro F5 (@vM aP 5 2 .i64 rfl rfl)) _ ?_
          refine uz _ (uy _ (.inl ?_))
          refine wr _ ?_
          exact Ap _ (.inr ⟨_,bX rfl,Ao (IntKind.i64.wrap ((IntKind.i64.wrap (10*hd))+(IntKind.i64.wrap (IntKind.u8.wrap ((aT.toNat:Int)-48))))) (IntKind.i64.wrap (ij+1)) h⟩)
        ·refine gg (si 0 _ (sg 0 _ (qI _ (mD _ (.inl ?_)))))
         have uB:∀(mw:Int),tQ mw=some r→b1 aP Ab ch (J [(5,.int .i64 mw)]):=by
          intro mw h
          refine ws _ ?_
          exact bj (aQ _ (.inl (bl [.int .i64 mw,.bool true])))
         refine bh aQ (fun XK xg F6 XL=> ?_)
         refine ws _ ?_
         refine bA h (fun XM h=> ?_) (fun XM h=> ?_)
         ·refine wr _ ?_
          exact xg _ (.inr ⟨_,bX rfl,uB (IntKind.i64.wrap (0-hd)) h⟩)
         ·exact bH (xg _ (.inr ⟨_,bX rfl,uB hd h⟩))
      obtain⟨n,h⟩:=gb h
      exact gh (.inr ⟨_,bX rfl,An n 0 gy h⟩)
    ·refine gl (And.intro fH (And.intro ey (And.intro ix iO))) _ ?_
     refine rM rfl ?_
     refine bH (fW _ (.inl ?_))
     refine ws _ ?_
     refine bh aQ (fun abT XN XO abU=> ?_)
     refine ws _ ?_
     refine cT XO (fun XP abV XQ uC abW=> ?_)
     have An:∀(n:Nat) (hd:Int) (ij:Int),mx a0 gy n hd ij=some r→fc aP Aa XP (J [(0,.str a0),(4,.int .i64 gy),(5,.int .i64 hd),(6,.int .i64 ij)]):=by
      intro m24
      induction m24 with
      |zero=>intro hd ij h;cases(show none=some r from h)
      |succ m24 Ao=>
       intro hd ij h
       replace h:tR (mx a0 gy m24) a0 gy hd ij=some r:=h
       refine gj XQ (fun abX XR F7 XS=> ?_)
       refine bh F7 (fun abY XT abZ XU=> ?_)
       refine ws _ ?_
       refine bA h (fun XV h=> ?_) (fun XV h=> ?_)
       ·refine bH (XT _ (.inl ?_))
        refine bh F7 (fun ab0 As XW ab1=> ?_)
        refine cT XW (fun ab2 XX XY ab3 ab4=> ?_)
        refine bh XY (fun XZ At xh X0=> ?_)
        obtain⟨a6,xi,h⟩:=aX h
        obtain⟨b5,X1,h⟩:=aX h
        refine jl xi (Aj a6 _ X1) _ ?_
        refine bA h (fun X2 h=> ?_) (fun X2 h=> ?_)
        ·refine ws _ ?_
         exact bj (xh _ (.inl (bl [.int .i64 0,.bool false])))
        ·refine bH (At _ (.inl ?_))
         refine w8 (And.intro xi (@vM aP 5 2 .i64 rfl rfl)) _ ?_
         refine XX _ (As _ (.inl ?_))
         refine wr _ ?_
         exact XR _ (.inr ⟨_,bX rfl,Ao (IntKind.i64.wrap ((IntKind.i64.wrap (10*hd))+(IntKind.i64.wrap (IntKind.u8.wrap ((a6.toNat:Int)-48))))) (IntKind.i64.wrap (ij+1)) h⟩)
       ·refine gg (XU 0 _ (XS 0 _ (uC _ (XN _ (.inl ?_)))))
        have uB:∀(mw:Int),tQ mw=some r→b1 aP Ab ch (J [(5,.int .i64 mw)]):=by
         intro mw h
         refine ws _ ?_
         exact bj (aQ _ (.inl (bl [.int .i64 mw,.bool true])))
        refine bh aQ (fun ab5 F8 ab6 ab7=> ?_)
        refine ws _ ?_
        refine bA h (fun X3 h=> ?_) (fun X3 h=> ?_)
        ·refine wr _ ?_
         exact F8 _ (.inr ⟨_,bX rfl,uB (IntKind.i64.wrap (0-hd)) h⟩)
        ·exact bH (F8 _ (.inr ⟨_,bX rfl,uB hd h⟩))
     obtain⟨n,h⟩:=gb h
     exact gh (.inr ⟨_,bX rfl,An n 0 gy h⟩)
 refine bh aQ (fun uv lZ fj aZ=> ?_)
 rcases h3 h with⟨Au,h⟩|⟨Au,h⟩
 ·obtain⟨cw,X4,h⟩:=aX h
  refine gl (And.intro Au X4) _ ?_
  refine bA h (fun X5 h=> ?_) (fun X5 h=> ?_)
  ·refine wr _ ?_
   exact lZ _ (.inr ⟨_,bX rfl,sl 1 h⟩)
  ·exact bH (lZ _ (.inr ⟨_,bX rfl,sl 0 h⟩))
 ·refine gl Au _ ?_
  refine rM rfl ?_
  exact bH (lZ _ (.inr ⟨_,bX rfl,sl 0 h⟩))
theorem F9 (a0:Int) (ah:Int) (a2:Int) (r:Bool) (h:tS a0 ah a2=some r):bq aP 81 [.int .i64 a0,.int .i64 ah,.int .i64 a2] (.bool r) []:=by
 refine cJ [0,1,2] [.tmp 6] Tryz.func81 Ow (fun ch aQ cp=> ?_)
 refine ws _ ?_
 refine cP (cl [(6,.bool ((decide (ah≤a0))&&(decide (a0≤a2))))] (fun P aC=> ?_) ?_)
 ·rcases Bool.eq_false_or_eq_true (decide (ah≤a0))with eZ|eZ
  ·simp only[aV.down,simprocAttr,eZ]
   (try simp only[bO.down,simprocAttr,eZ]at aC⊢);exact aC
  ·simp only[aV.down,simprocAttr,eZ]
   (try simp only[bO.down,simprocAttr,eZ]at aC⊢);exact aC
 exact bj (aQ _ (.inl (bl [.bool ((decide (ah≤a0))&&(decide (a0≤a2)))])))
theorem X6 (a0:List UInt8) (r:(List Int)×Bool) (h:tT a0=some r):bq aP 120 [.str a0] (.tuple [.aE 1 (r.1.map a7),.bool r.2]) []:=by
 refine cJ [0] [.tmp 2,.tmp 3] Tryz.func120 OS (fun ch aQ cp=> ?_)
 refine ws _ ?_
 obtain⟨aI,aK,h⟩:=aX h
 refine fz (Xx a0 _ aK) _ ?_
 refine bh aQ (fun gI fW dt a6=> ?_)
 refine ws _ ?_
 refine bA h (fun fH h=> ?_) (fun fH h=> ?_)
 ·obtain⟨aT,gC,h⟩:=aX h
  refine jl (show∀s,cX aP s 23 0 []=some (.aE 1 [],s)from fun s=>by kernel_rfl) (Ak a0 _ gC) _ ?_
  exact bj (dt _ (.inl (bl [.aE 1 [],.bool aT])))
 ·refine bH (fW _ (.inl ?_))
  refine bh aQ (fun h1 eN eu d_=> ?_)
  obtain⟨aZ,kS,h⟩:=aX h
  obtain⟨a6,hx,h⟩:=aX h
  rcases h3 h with⟨mC,h⟩|⟨mC,h⟩
  ·refine jl (And.intro kS (p_ mC)) (FX aZ _ hx) _ ?_
   refine k3 rfl ?_
   refine ws _ ?_
   exact bj (eu _ (.inr ⟨[(2,.aE 1 []),(3,.bool false)],k4 [] rfl (k6 (t:=2) (d:=.bD) rfl rfl (.ib _) (by decide) (iD rfl (k5))),bl [.aE 1 [],.bool false]⟩))
  ·obtain⟨b5,gA,h⟩:=aX h
   refine jl (And.intro kS (And.intro (ni mC) gA)) (FX aZ _ hx) _ ?_
   refine bA h (fun nv h=> ?_) (fun nv h=> ?_)
   ·refine ws _ ?_
    exact bj (eu _ (.inr ⟨[(2,.aE 1 []),(3,.bool false)],k4 [] rfl (k6 (t:=2) (d:=.bD) rfl rfl (.ib _) (by decide) (iD rfl (k5))),bl [.aE 1 [],.bool false]⟩))
   ·refine bH (eN _ (.inl ?_))
    obtain⟨cw,oj,h⟩:=aX h
    obtain⟨cn,nw,h⟩:=aX h
    refine jl oj (XA cw (44:UInt8) _ nw) _ ?_
    refine gl (show∀s,cX aP s 23 0 []=some (.aE 1 [],s)from fun s=>by kernel_rfl) _ ?_
    refine bh aQ (fun FZ uy so og=> ?_)
    refine ws _ ?_
    refine cT so (fun F3 F4 Ar ph XI=> ?_)
    have X7:∀(n:Nat) (iE:List Int) (j5:Int),o4 cn n iE j5=some r→fc aP Fe F3 (J [(5,.aE 1 (cn.map aL)),(6,.aE 1 (iE.map a7)),(7,.int .i64 j5)]):=by
     intro Av
     induction Av with
     |zero=>intro iE j5 h;cases(show none=some r from h)
     |succ Av X8=>
      intro iE j5 h
      replace h:wi (o4 cn Av) cn iE j5=some r:=h
      refine gj Ar (fun X9 Aw xj F_=> ?_)
      refine bh xj (fun X_ Ax Ga Ay=> ?_)
      refine ws _ ?_
      refine bA h (fun uA h=> ?_) (fun uA h=> ?_)
      ·refine bH (Ax _ (.inl ?_))
       refine bh xj (fun Gb uD Az xk=> ?_)
       refine cT Az (fun Ya AA AB Gc Yb=> ?_)
       obtain⟨hf,xl,h⟩:=aX h
       obtain⟨d_,sq,h⟩:=aX h
       refine jl (And.intro xl (iR xl)) (XE hf _ sq) _ ?_
       refine bh AB (fun ab8 Yc Gd ab9=> ?_)
       rcases h3 h with⟨qJ,h⟩|⟨qJ,h⟩
       ·refine gl (p_ qJ) _ ?_
        refine k3 rfl ?_
        refine ws _ ?_
        exact bj (Gd _ (.inr ⟨[(2,.aE 1 []),(3,.bool false)],k4 [] rfl (k6 (t:=2) (d:=.bD) rfl rfl (.ib _) (by decide) (iD rfl (k5))),bl [.aE 1 [],.bool false]⟩))
       ·obtain⟨fK,qK,h⟩:=aX h
        refine cP (cl [(5,.aE 1 (cn.map aL)),(6,.aE 1 (iE.map a7)),(7,.int .i64 j5),(8,.int .i64 d_.1),(61,.bool (!fK))] (fun P aC=> ?_) ?_)
        ·simp only[aV.down,simprocAttr,cG.down,(ni qJ)]
         refine oV (F9 d_.1 0 63 _ qK) rfl rfl rfl rfl (.inl (by rfl)) ?_
         simp only[aV.down,simprocAttr,cG.down,(ni qJ)]
         (try simp only[bO.down,simprocAttr,cG.down,(ni qJ)]at aC⊢);exact aC
        refine bA h (fun AD h=> ?_) (fun AD h=> ?_)
        ·refine ws _ ?_
         exact bj (Gd _ (.inr ⟨[(2,.aE 1 []),(3,.bool false)],k4 [] rfl (k6 (t:=2) (d:=.bD) rfl rfl (.ib _) (by decide) (iD rfl (k5))),bl [.aE 1 [],.bool false]⟩))
        ·refine bH (Yc _ (.inl ?_))
         obtain⟨ab_,AE,h⟩:=aX h
         (try simp only[lY.down,Nat.reduceAdd]at AE)
         refine je (cl [(5,.aE 1 (cn.map aL)),(6,.aE 1 ((iE++[d_.1]).map a7)),(7,.int .i64 j5)] (fun P aC=> ?_) ?_)
         ·simp only[aV.down,simprocAttr,fJ,tN,a7,aL,(show∀s,cX aP s 23 1 [(0,.int .i64 d_.1)]=some (.aE 1 [.int .i64 d_.1],s)from fun s=>by kernel_rfl), @kz aP 23 23 2 rfl rfl,kA,kB,kC,all_cons,all_nil,AE, @jf _ a7 1 (fun _=>rfl)]
          (try simp only[bO.down,simprocAttr,cG.down,(show∀s,cX aP s 23 1 [(0,.int .i64 d_.1)]=some (.aE 1 [.int .i64 d_.1],s)from fun s=>by kernel_rfl), @kz aP 23 23 2 rfl rfl,kA,kB,kC,all_cons,all_nil,AE, @jf _ a7 1 (fun _=>rfl)]at aC⊢);exact aC
         refine AA _ (uD _ (.inl ?_))
         refine wr [(5,.aE 1 (cn.map aL)),(6,.aE 1 ((iE++[d_.1]).map a7)),(7,.int .i64 (IntKind.i64.wrap (j5+1)))] ?_
         exact Aw _ (.inr ⟨_,bX rfl,X8 (iE++[d_.1]) (IntKind.i64.wrap (j5+1)) h⟩)
      ·refine gg (Ay 0 _ (F_ 0 _ (ph _ (uy _ (.inl ?_)))))
       refine ws _ ?_
       exact bj (aQ _ (.inl (bl [.aE 1 (iE.map a7),.bool (decide ((iE.length:Int)≤2))])))
    obtain⟨n,h⟩:=gb h
    exact gh (.inr ⟨_,bX rfl,X7 n [] 0 h⟩)
theorem Yd (a0:List UInt8) (r:Bool) (h:nm a0=some r):bq aP 80 [.str a0] (.bool r) []:=by
 refine cJ [0] [.tmp 2] Tryz.func80 OV (fun ch aQ cp=> ?_)
 refine ws _ ?_
 obtain⟨aI,aK,h⟩:=aX h
 refine fz (X6 a0 _ aK) _ ?_
 refine ws _ ?_
 exact bj (aQ _ (.inl (bl [.bool aI.2])))
theorem Ye (a0:List (List UInt8)) (ah:List Int) (r:Int) (h:wm a0 ah=some r):bq aP 49 [.slice (a0.map aL),.slice (ah.map a7)] (.int .i64 r) []:=by
 refine cJ [0,1] [.tmp 4] Tryz.func49 Pg (fun ch aQ cp=> ?_)
 refine ws _ ?_
 refine bh aQ (fun gF db cd aT=> ?_)
 refine ws _ ?_
 refine bA h (fun cY h=> ?_) (fun cY h=> ?_)
 ·refine ws _ ?_
  exact bj (cd _ (.inl (bl [.int .i64 2])))
 ·refine bH (db _ (.inl ?_))
  refine bh aQ (fun hJ eX fk cw=> ?_)
  refine ws _ ?_
  refine cT fk (fun jG h2 iM ey hf=> ?_)
  have oh:∀(n:Nat) (ek:Int),qd a0 ah n ek=some r→fc aP Ff jG (J [(0,.slice (a0.map aL)),(1,.slice (ah.map a7)),(5,.int .i64 ek)]):=by
   intro m14
   induction m14 with
   |zero=>intro ek h;cases(show none=some r from h)
   |succ m14 nu=>
    intro ek h
    replace h:wk (qd a0 ah m14) a0 ah ek=some r:=h
    refine gj iM (fun h1 eN eu d_=> ?_)
    refine bh eu (fun jF e1 gm fK=> ?_)
    refine ws _ ?_
    refine bA h (fun hh h=> ?_) (fun hh h=> ?_)
    ·refine bH (e1 _ (.inl ?_))
     refine bh eu (fun oi iN lv kK=> ?_)
     refine cT lv (fun qC lq l1 pf nq=> ?_)
     obtain⟨aI,iP,h⟩:=aX h
     obtain⟨aT,hs,h⟩:=aX h
     refine jl iP (Yd aI _ hs) _ ?_
     refine bA h (fun lu h=> ?_) (fun lu h=> ?_)
     ·refine ws _ ?_
      exact bj (l1 _ (.inl (bl [.int .i64 2])))
     ·refine bH (lq _ (iN _ (.inl ?_)))
      refine wr _ ?_
      exact eN _ (.inr ⟨_,bX rfl,nu (IntKind.i64.wrap (ek+1)) h⟩)
    ·refine gg (fK 0 _ (d_ 0 _ (ey _ (eX _ (.inl ?_)))))
     refine bh aQ (fun Ge Gf AF sj=> ?_)
     refine ws _ ?_
     refine bA h (fun F2 h=> ?_) (fun F2 h=> ?_)
     ·refine ws _ ?_
      exact bj (AF _ (.inl (bl [.int .i64 7])))
     ·refine bH (Gf _ (.inl ?_))
      refine bh aQ (fun X9 Aw xj F_=> ?_)
      refine ws _ ?_
      refine cT xj (fun Gg uE Gh xm Yf=> ?_)
      have Yg:∀(n:Nat) (lU:Int),qc ah n lU=some r→fc aP Fg Gg (J [(1,.slice (ah.map a7)),(6,.int .i64 lU)]):=by
       intro AG
       induction AG with
       |zero=>intro lU h;cases(show none=some r from h)
       |succ AG Yh=>
        intro lU h
        replace h:wj (qc ah AG) ah lU=some r:=h
        refine gj Gh (fun aca Yi Gi Yj=> ?_)
        refine bh Gi (fun Gb uD Az xk=> ?_)
        refine ws _ ?_
        refine bA h (fun AH h=> ?_) (fun AH h=> ?_)
        ·refine bH (uD _ (.inl ?_))
         refine bh Gi (fun XK xg F6 XL=> ?_)
         refine cT F6 (fun acb Yk Yl xn acd=> ?_)
         obtain⟨aZ,Ym,h⟩:=aX h
         obtain⟨a6,uF,h⟩:=aX h
         refine jl Ym (F9 aZ 0 3 _ uF) _ ?_
         refine bA h (fun Yn h=> ?_) (fun Yn h=> ?_)
         ·refine ws _ ?_
          exact bj (Yl _ (.inl (bl [.int .i64 7])))
         ·refine bH (Yk _ (xg _ (.inl ?_)))
          refine wr _ ?_
          exact Yi _ (.inr ⟨_,bX rfl,Yh (IntKind.i64.wrap (lU+1)) h⟩)
        ·refine gg (xk 2 _ (Yj 2 _ (xm _ (Aw _ (.inl ?_)))))
         refine ws _ ?_
         exact bj (aQ _ (.inl (bl [.int .i64 0])))
      obtain⟨n,h⟩:=gb h
      exact gh (.inr ⟨_,bX rfl,Yg n 0 h⟩)
  obtain⟨n,h⟩:=gb h
  exact gh (.inr ⟨_,bX rfl,oh n 0 h⟩)
theorem Gj (a0:Int) (ah:Int) (r:Int) (h:tU a0 ah=some r):bq aP 121 [.int .i64 a0,.int .i64 ah] (.int .i64 r) []:=by
 refine cJ [0,1] [.tmp 4] Tryz.func121 Pn (fun ch aQ cp=> ?_)
 refine ws _ ?_
 refine bh aQ (fun gF db cd aT=> ?_)
 refine ws _ ?_
 refine bA h (fun cY h=> ?_) (fun cY h=> ?_)
 ·refine ws _ ?_
  exact bj (cd _ (.inl (bl [.int .i64 a0])))
 ·refine bH (db _ (.inl ?_))
  refine ws _ ?_
  exact bj (aQ _ (.inl (bl [.int .i64 ah])))
theorem xo (dV:Int) (eE:Int) (el:Int) (dW:Int) (et:Int) (lV:Int) (ah:Int) (r:Int×Int×Int×Int×Int×Int) (h:qe dV eE el dW et lV ah=some r):bq aP 122 [.a_ (.agg [.int .i64 dV,.int .i64 eE,.int .i64 el,.int .i64 dW,.int .i64 et,.int .i64 lV]),.int .i64 ah] (.tuple []) [.a_ (.agg [.int .i64 r.1,.int .i64 r.2.1,.int .i64 r.2.2.1,.int .i64 r.2.2.2.1,.int .i64 r.2.2.2.2.1,.int .i64 r.2.2.2.2.2]),.hole]:=by
 refine cJ [0,1] [] Tryz.func122 Pr (fun ch aQ cp=> ?_)
 have Gk:∀(ez:Int),wo dV eE dW et lV ez=some r→b1 aP Fh ch (J [(0,.a_ (.agg [.int .i64 dV,.int .i64 eE,.int .i64 ez,.int .i64 dW,.int .i64 et,.int .i64 lV]))]):=by
  intro ez h
  refine wr _ ?_
  exact cp _ (.inl (ky [] rfl (by cases fM h;rfl) (by decide) (k8 (k9 (by cases fM h;rfl) rfl rfl rfl (hH (k_))))))
 refine bh aQ (fun ace j0 eF aI=> ?_)
 refine ws _ ?_
 refine bA h (fun cY h=> ?_) (fun cY h=> ?_)
 ·refine wr _ ?_
  exact j0 _ (.inr ⟨_,bX rfl,Gk (IntKind.i64.wrap (el+1)) h⟩)
 ·exact bH (j0 _ (.inr ⟨_,bX rfl,Gk el h⟩))
theorem Yo (dV:Int) (eE:Int) (el:Int) (dW:Int) (et:Int) (lV:Int) (ah:Int) (a2:Int) (r:Int×Int×Int×Int×Int×Int) (h:tY dV eE el dW et lV ah a2=some r):bq aP 82 [.a_ (.agg [.int .i64 dV,.int .i64 eE,.int .i64 el,.int .i64 dW,.int .i64 et,.int .i64 lV]),.int .i64 ah,.int .i64 a2] (.tuple []) [.a_ (.agg [.int .i64 r.1,.int .i64 r.2.1,.int .i64 r.2.2.1,.int .i64 r.2.2.2.1,.int .i64 r.2.2.2.2.1,.int .i64 r.2.2.2.2.2]),.hole,.hole]:=by
 refine cJ [0,1,2] [] Tryz.func82 PZ (fun ch aQ cp=> ?_)
 refine ws _ ?_
 refine ws _ ?_
 refine ws _ ?_
 refine ws _ ?_
 refine ws _ ?_
 have Gl:∀(o6:Int),tX ah a2 dV el dW o6=some r→b1 aP Fl ch (J [(0,.a_ (.agg [.int .i64 dV,.int .i64 o6,.int .i64 el,.int .i64 (-1),.int .i64 (-1),.int .i64 (-1)])),(1,.int .i64 ah),(2,.int .i64 a2),(7,.int .i64 dW)]):=by
  intro o6 h
  have uG:∀(jh:Int) (fT:Int) (j6:Int) (lg:Int) (j7:Int) (j8:Int),tW ah a2 jh fT j6 lg j7 j8=some r→b1 aP Fk ch (J [(0,.a_ (.agg [.int .i64 jh,.int .i64 fT,.int .i64 j6,.int .i64 lg,.int .i64 j7,.int .i64 j8])),(1,.int .i64 ah),(2,.int .i64 a2)]):=by
   intro jh fT j6 lg j7 j8 h
   have uH:∀(kE:Int) (kF:Int) (kG:Int) (kH:Int) (lf:Int) (iF:Int),o5 a2 kE kF kG kH lf iF=some r→b1 aP Fj ch (J [(0,.a_ (.agg [.int .i64 kE,.int .i64 kF,.int .i64 kG,.int .i64 kH,.int .i64 lf,.int .i64 iF])),(2,.int .i64 a2)]):=by
    intro kE kF kG kH lf iF h
    refine bh aQ (fun h1 eN eu d_=> ?_)
    refine ws _ ?_
    refine bA h (fun iO h=> ?_) (fun iO h=> ?_)
    ·exact bj (eu _ (.inl (ky [] rfl (by cases fM h;rfl) (by decide) (k8 (k9 (by cases fM h;rfl) rfl rfl rfl (hH (hH (k_))))))))
    ·refine bH (eN _ (.inl ?_))
     refine ws _ ?_
     refine cT aQ (fun oi iN lv mC kK=> ?_)
     have Gm:∀(tV:Bool),wq a2 kE kF kG kH lf iF tV=some r→b1 aP Fi oi (J [(0,.a_ (.agg [.int .i64 kE,.int .i64 kF,.int .i64 kG,.int .i64 kH,.int .i64 lf,.int .i64 iF])),(86,.int .i64 a2),(87,.bool tV)]):=by
      intro tV h
      refine bA h (fun iL h=> ?_) (fun iL h=> ?_)
      ·obtain⟨aI,hs,h⟩:=aX h
       refine DY rfl (lS [(0,.a_ (.agg [.int .i64 kE,.int .i64 aI,.int .i64 kG,.int .i64 kH,.int .i64 lf,.int .i64 iF]))] (fun P aC=> ?_) ?_)
       ·simp only[hV.down,simprocAttr,fJ,mv]
        refine zp (Gj kF iF _ hs) rfl rfl rfl rfl (.inl (by rfl)) ?_
        simp only[hV.down,simprocAttr,fJ,mv]
        refine⟨lb (by kernel_rfl),?_⟩
        (try simp only[bO.down,simprocAttr]at aC⊢);exact aC
       exact iN _ (cp _ (.inl (ky [] rfl (by cases fM h;rfl) (by decide) (k8 (k9 (by cases fM h;rfl) rfl rfl rfl (hH (hH (k_))))))))
      ·refine ws _ ?_
       refine bA h (fun Ag h=> ?_) (fun Ag h=> ?_)
       ·refine wr _ ?_
        exact iN _ (cp _ (.inl (ky [] rfl (by cases fM h;rfl) (by decide) (k8 (k9 (by cases fM h;rfl) rfl rfl rfl (hH (hH (k_))))))))
       ·exact bH (iN _ (cp _ (.inl (ky [] rfl (by cases fM h;rfl) (by decide) (k8 (k9 (by cases fM h;rfl) rfl rfl rfl (hH (hH (k_)))))))))
     refine bh lv (fun qC lq l1 nq=> ?_)
     refine ws _ ?_
     refine bA h (fun sr h=> ?_) (fun sr h=> ?_)
     ·simp only[sr,Xa.down]
      exact bH (lq _ (.inr ⟨_,bX rfl,Gm true h⟩))
     ·refine wr _ ?_
      exact lq _ (.inr ⟨_,bX rfl,Gm (a2==2) h⟩)
   refine bh aQ (fun jG h2 iM hf=> ?_)
   refine nf rfl (lS [(0,.a_ (.agg [.int .i64 jh,.int .i64 fT,.int .i64 j6,.int .i64 lg,.int .i64 j7,.int .i64 j8])),(1,.int .i64 ah),(2,.int .i64 a2),(50,.bool (decide (fT<jh)))] (fun P aC=> ?_) ?_)
   ·simp only[hV.down,simprocAttr,fJ,mv]
    refine⟨lb (by kernel_rfl),?_⟩
    (try simp only[bO.down,simprocAttr]at aC⊢);exact aC
   refine bA h (fun AJ h=> ?_) (fun AJ h=> ?_)
   ·refine ws _ ?_
    refine cT iM (fun Gg uE Gh xm Yf=> ?_)
    refine ws _ ?_
    refine bA h (fun Yp h=> ?_) (fun Yp h=> ?_)
    ·obtain⟨aT,AK,h⟩:=aX h
     refine je (cl [(0,.a_ (.agg [.int .i64 aT.1,.int .i64 aT.2.1,.int .i64 aT.2.2.1,.int .i64 aT.2.2.2.1,.int .i64 aT.2.2.2.2.1,.int .i64 aT.2.2.2.2.2])),(2,.int .i64 a2)] (fun P aC=> ?_) ?_)
     ·simp only[aV.down,simprocAttr,fJ,mv]
      refine k7 [⟨.h 0 [],true,_,_⟩,⟨.int .i64 fT,false,_,.hole⟩] (xo jh fT j6 lg j7 j8 fT _ AK) rfl rfl rfl (by simp only[aV.down,simprocAttr,fJ,mv,jC,j2,j3,fZ,f_,ga,fI,or_true,true_or]) rfl rfl (.inl rfl) ?_
      simp only[aV.down,simprocAttr,fJ,mv,j4]
      (try simp only[bO.down,simprocAttr]at aC⊢);exact aC
     exact uE _ (h2 _ (.inr ⟨_,bX rfl,uH aT.1 aT.2.1 aT.2.2.1 aT.2.2.2.1 aT.2.2.2.2.1 aT.2.2.2.2.2 h⟩))
    ·refine ws _ ?_
     refine bA h (fun xn h=> ?_) (fun xn h=> ?_)
     ·refine ws _ ?_
      obtain⟨aZ,uF,h⟩:=aX h
      refine cP (cl [(0,.a_ (.agg [.int .i64 aZ.1,.int .i64 aZ.2.1,.int .i64 aZ.2.2.1,.int .i64 aZ.2.2.2.1,.int .i64 aZ.2.2.2.2.1,.int .i64 aZ.2.2.2.2.2])),(2,.int .i64 a2),(8,.int .i64 fT)] (fun P aC=> ?_) ?_)
      ·simp only[aV.down,simprocAttr]
       refine k7 [⟨.h 0 [],true,_,_⟩,⟨.int .i64 fT,false,_,.hole⟩] (xo jh fT j6 lg j7 j8 fT _ uF) rfl rfl rfl (by simp only[aV.down,simprocAttr,jC,j2,j3,fZ,f_,ga,fI,or_true,true_or]) rfl rfl (.inl rfl) ?_
       simp only[aV.down,simprocAttr,j4]
       (try simp only[bO.down,simprocAttr]at aC⊢);exact aC
      obtain⟨a6,qK,h⟩:=aX h
      refine je (cl [(0,.a_ (.agg [.int .i64 a6.1,.int .i64 a6.2.1,.int .i64 a6.2.2.1,.int .i64 a6.2.2.2.1,.int .i64 a6.2.2.2.2.1,.int .i64 a6.2.2.2.2.2])),(2,.int .i64 a2)] (fun P aC=> ?_) ?_)
      ·simp only[aV.down,simprocAttr]
       refine k7 [⟨.h 0 [],true,_,_⟩,⟨.int .i64 fT,false,_,.hole⟩] (xo aZ.1 aZ.2.1 aZ.2.2.1 aZ.2.2.2.1 aZ.2.2.2.2.1 aZ.2.2.2.2.2 fT _ qK) rfl rfl rfl (by simp only[aV.down,simprocAttr,jC,j2,j3,fZ,f_,ga,fI,or_true,true_or]) rfl rfl (.inl rfl) ?_
       simp only[aV.down,simprocAttr,j4]
       (try simp only[bO.down,simprocAttr]at aC⊢);exact aC
      exact uE _ (h2 _ (.inr ⟨_,bX rfl,uH a6.1 a6.2.1 a6.2.2.1 a6.2.2.2.1 a6.2.2.2.2.1 a6.2.2.2.2.2 h⟩))
     ·refine ws _ ?_
      refine bA h (fun uC h=> ?_) (fun uC h=> ?_)
      ·refine wr _ ?_
       exact uE _ (h2 _ (.inr ⟨_,bX rfl,uH jh fT j6 fT j7 j8 h⟩))
      ·exact bH (uE _ (h2 _ (.inr ⟨_,bX rfl,uH jh fT j6 lg j7 j8 h⟩)))
   ·exact bH (h2 _ (.inr ⟨_,bX rfl,uH jh fT j6 lg j7 j8 h⟩))
  refine bh aQ (fun lp fV gB cn=> ?_)
  refine ws _ ?_
  refine bA h (fun Yq h=> ?_) (fun Yq h=> ?_)
  ·obtain⟨b5,AL,h⟩:=aX h
   refine je (cl [(0,.a_ (.agg [.int .i64 b5.1,.int .i64 b5.2.1,.int .i64 b5.2.2.1,.int .i64 b5.2.2.2.1,.int .i64 b5.2.2.2.2.1,.int .i64 b5.2.2.2.2.2])),(1,.int .i64 ah),(2,.int .i64 a2)] (fun P aC=> ?_) ?_)
   ·simp only[aV.down,simprocAttr]
    refine k7 [⟨.h 0 [],true,_,_⟩,⟨.int .i64 dW,false,_,.hole⟩] (xo dV o6 el (-1) (-1) (-1) dW _ AL) rfl rfl rfl (by simp only[aV.down,simprocAttr,jC,j2,j3,fZ,f_,ga,fI,or_true,true_or]) rfl rfl (.inl rfl) ?_
    simp only[aV.down,simprocAttr,j4]
    (try simp only[bO.down,simprocAttr]at aC⊢);exact aC
   exact fV _ (.inr ⟨_,bX rfl,uG b5.1 b5.2.1 b5.2.2.1 b5.2.2.2.1 b5.2.2.2.2.1 b5.2.2.2.2.2 h⟩)
  ·exact bH (fV _ (.inr ⟨_,bX rfl,uG dV o6 el (-1) (-1) (-1) h⟩))
 refine bh aQ (fun hJ eX fk cw=> ?_)
 refine ws _ ?_
 refine bA h (fun Yr h=> ?_) (fun Yr h=> ?_)
 ·obtain⟨cw,xi,h⟩:=aX h
  refine FU (Gj eE et _ xi) _ ?_
  exact eX _ (.inr ⟨_,bX rfl,Gl cw h⟩)
 ·exact bH (eX _ (.inr ⟨_,bX rfl,Gl eE h⟩))
theorem Ys (a0:Int) (ah:List Int) (r:Int×Int×Int×Int×Int×Int×Int) (h:ub a0 ah=some r):bq aP 50 [.int .i64 a0,.slice (ah.map a7)] (.tuple [.a_ (.agg [.int .i64 r.1,.int .i64 r.2.1,.int .i64 r.2.2.1,.int .i64 r.2.2.2.1,.int .i64 r.2.2.2.2.1,.int .i64 r.2.2.2.2.2.1]),.int .i64 r.2.2.2.2.2.2]) []:=by
 refine cJ [0,1] [.tmp 4,.tmp 5] Tryz.func50 Qd (fun ch aQ cp=> ?_)
 refine ws _ ?_
 refine gl (show∀s,dR aP s 94 [(0,.int .i64 a0),(3,.int .i64 (-1)),(4,.int .i64 (-1)),(5,.int .i64 (-1))]=some (.agg [.int .i64 a0,.int .i64 0,.int .i64 0,.int .i64 (-1),.int .i64 (-1),.int .i64 (-1)],s)from fun s=>by kernel_rfl) _ ?_
 refine ws _ ?_
 have Gn:∀(sd:Int),ua a0 ah sd=some r→b1 aP Fq ch (J [(0,.int .i64 a0),(1,.slice (ah.map a7)),(6,.a_ (.agg [.int .i64 a0,.int .i64 0,.int .i64 0,.int .i64 (-1),.int .i64 (-1),.int .i64 (-1)])),(7,.int .i64 sd)]):=by
  intro sd h
  have Gp:∀(rZ:Int) (r0:Int) (r1:Int) (r2:Int) (r3:Int) (r4:Int) (r5:Int) (wt:Int),zN a0 ah rZ r0 r1 r2 r3 r4 r5 wt=some r→b1 aP Fp ch (J [(0,.int .i64 a0),(1,.slice (ah.map a7)),(6,.a_ (.agg [.int .i64 rZ,.int .i64 r0,.int .i64 r1,.int .i64 r2,.int .i64 r3,.int .i64 r4])),(7,.int .i64 r5),(8,.int .i64 wt)]):=by
   intro rZ r0 r1 r2 r3 r4 r5 wt h
   refine ws _ ?_
   exact bj (aQ _ (.inl (bl [.a_ (.agg [.int .i64 rZ,.int .i64 r0,.int .i64 r1,.int .i64 r2,.int .i64 r3,.int .i64 r4]),.int .i64 r5])))
  refine bh aQ (fun lr gY e9 b5=> ?_)
  refine ws _ ?_
  refine cT e9 (fun jG h2 iM ey hf=> ?_)
  have Ae:∀(n:Nat) (j9:Int) (iG:Int) (j_:Int) (iH:Int) (ji:Int) (ka:Int) (hY:Int) (gX:Int),my a0 ah n j9 iG j_ iH ji ka hY gX=some r→fc aP Fo jG (J [(0,.int .i64 a0),(1,.slice (ah.map a7)),(6,.a_ (.agg [.int .i64 j9,.int .i64 iG,.int .i64 j_,.int .i64 iH,.int .i64 ji,.int .i64 ka])),(7,.int .i64 hY),(8,.int .i64 gX)]):=by
   intro m16
   induction m16 with
   |zero=>intro j9 iG j_ iH ji ka hY gX h;cases(show none=some r from h)
   |succ m16 Af=>
    intro j9 iG j_ iH ji ka hY gX h
    replace h:t_ (my a0 ah m16) a0 ah j9 iG j_ iH ji ka hY gX=some r:=h
    refine gj iM (fun h1 eN eu d_=> ?_)
    refine bh eu (fun jF e1 gm fK=> ?_)
    refine ws _ ?_
    refine bA h (fun hh h=> ?_) (fun hh h=> ?_)
    ·refine bH (e1 _ (.inl ?_))
     have Gq:∀(r6:Int) (r7:Int) (r8:Int) (r9:Int) (r_:Int) (sa:Int) (sb:Int) (sc:Int),tZ (my a0 ah m16) a0 ah r6 r7 r8 r9 r_ sa sb sc=some r→b1 aP Fm h1 (J [(0,.int .i64 a0),(1,.slice (ah.map a7)),(6,.a_ (.agg [.int .i64 r6,.int .i64 r7,.int .i64 r8,.int .i64 r9,.int .i64 r_,.int .i64 sa])),(7,.int .i64 sb),(8,.int .i64 sc)]):=by
      intro r6 r7 r8 r9 r_ sa sb sc h
      refine wr _ ?_
      exact eN _ (.inr ⟨_,bX rfl,Af r6 r7 r8 r9 r_ sa sb (IntKind.i64.wrap (sc+1)) h⟩)
     refine bh eu (fun oi iN lv kK=> ?_)
     refine cT lv (fun w9 mD nt iL mB=> ?_)
     refine bh nt (fun Al pg ux hr=> ?_)
     refine cP (cl [(0,.int .i64 a0),(1,.slice (ah.map a7)),(6,.a_ (.agg [.int .i64 j9,.int .i64 iG,.int .i64 j_,.int .i64 iH,.int .i64 ji,.int .i64 ka])),(7,.int .i64 hY),(8,.int .i64 gX),(41,.bool (((iG==a0)&&(decide (iH<0)))&&(decide (ji<0))))] (fun P aC=> ?_) ?_)
     ·(rcases Bool.eq_false_or_eq_true (iG==a0)with AM|AM)<;>(rcases Bool.eq_false_or_eq_true (decide (iH<0))with AN|AN)<;>
       (simp only[aV.down,simprocAttr,fJ,mv,a7,AM,AN]
        (try simp only[bO.down,simprocAttr,a7,AM,AN]at aC⊢);exact aC)
     refine bA h (fun qH h=> ?_) (fun qH h=> ?_)
     ·exact gg (hr 0 _ (mB 0 _ (by decide) (kK 0 _ (d_ 0 _ (ey _ (gY _ (.inr ⟨_,bX rfl,Gp j9 iG j_ iH ji ka hY gX h⟩)))))))
     ·refine bH (pg _ (.inl ?_))
      obtain⟨aI,jn,h⟩:=aX h
      obtain⟨aT,jI,h⟩:=aX h
      obtain⟨aZ,nx,h⟩:=aX h
      refine nf rfl (lS [(0,.int .i64 a0),(1,.slice (ah.map a7)),(6,.a_ (.agg [.int .i64 aZ.1,.int .i64 aZ.2.1,.int .i64 aZ.2.2.1,.int .i64 aZ.2.2.2.1,.int .i64 aZ.2.2.2.2.1,.int .i64 aZ.2.2.2.2.2])),(7,.int .i64 hY),(8,.int .i64 gX)] (fun P aC=> ?_) ?_)
      ·simp only[hV.down,simprocAttr,kg.down,jn,jI]
       refine Ey [⟨.h 6 [],true,_,_⟩,⟨.int .i64 aI,false,_,.hole⟩,⟨.int .i64 aT,false,_,.hole⟩] (Yo j9 iG j_ iH ji ka aI aT _ nx) rfl rfl rfl (by simp only[hV.down,simprocAttr,kg.down,jn,jI,jC,j2,j3,fZ,f_,ga,fI,or_true,true_or]) rfl rfl (.inl rfl) ?_
       simp only[hV.down,simprocAttr,kg.down,jn,jI,j4]
       refine⟨lb (by kernel_rfl),?_⟩
       (try simp only[bO.down,simprocAttr,a7,jn,jI]at aC⊢);exact aC
      refine cP (cl [(0,.int .i64 a0),(1,.slice (ah.map a7)),(6,.a_ (.agg [.int .i64 aZ.1,.int .i64 aZ.2.1,.int .i64 aZ.2.2.1,.int .i64 aZ.2.2.2.1,.int .i64 aZ.2.2.2.2.1,.int .i64 aZ.2.2.2.2.2])),(7,.int .i64 hY),(8,.int .i64 gX),(64,.bool ((decide (hY<0))&&(aZ.2.1==a0)))] (fun P aC=> ?_) ?_)
      ·rcases Bool.eq_false_or_eq_true (decide (hY<0))with lo|lo
       ·simp only[aV.down,simprocAttr,fJ,mv,a7,lo]
        (try simp only[bO.down,simprocAttr,a7,lo]at aC⊢);exact aC
       ·simp only[aV.down,simprocAttr,fJ,mv,a7,lo]
        (try simp only[bO.down,simprocAttr,a7,lo]at aC⊢);exact aC
      refine bA h (fun xm h=> ?_) (fun xm h=> ?_)
      ·refine wr _ ?_
       exact mD _ (iN _ (.inr ⟨_,bX rfl,Gq aZ.1 aZ.2.1 aZ.2.2.1 aZ.2.2.2.1 aZ.2.2.2.2.1 aZ.2.2.2.2.2 (IntKind.i64.wrap (gX+1)) gX h⟩))
      ·exact bH (mD _ (iN _ (.inr ⟨_,bX rfl,Gq aZ.1 aZ.2.1 aZ.2.2.1 aZ.2.2.2.1 aZ.2.2.2.2.1 aZ.2.2.2.2.2 hY gX h⟩)))
    ·exact gg (fK 0 _ (d_ 0 _ (ey _ (gY _ (.inr ⟨_,bX rfl,Gp j9 iG j_ iH ji ka hY gX h⟩)))))
  obtain⟨n,h⟩:=gb h
  exact gh (.inr ⟨_,bX rfl,Ae n a0 0 0 (-1) (-1) (-1) sd 0 h⟩)
 refine bh aQ (fun gI fW dt a6=> ?_)
 refine ws _ ?_
 refine bA h (fun Gc h=> ?_) (fun Gc h=> ?_)
 ·refine wr _ ?_
  exact fW _ (.inr ⟨_,bX rfl,Gn 0 h⟩)
 ·exact bH (fW _ (.inr ⟨_,bX rfl,Gn (-1) h⟩))
theorem Yt (a0:List (List UInt8)) (ah:List Int) (r:(List (List UInt8))×Int×Int) (h:wu a0 ah=some r):bq aP 23 [.slice (a0.map aL),.slice (ah.map a7)] (.tuple [.aE 1 (r.1.map aL),.int .i64 r.2.1,.int .i64 r.2.2]) []:=by
 refine cJ [0,1] [.tmp 4,.tmp 5,.tmp 6] Tryz.func23 Ql (fun ch aQ cp=> ?_)
 refine ws _ ?_
 obtain⟨aI,aK,h⟩:=aX h
 refine fz (Ye a0 ah _ aK) _ ?_
 refine bh aQ (fun gI fW dt a6=> ?_)
 refine ws _ ?_
 refine bA h (fun fH h=> ?_) (fun fH h=> ?_)
 ·refine ws _ ?_
  exact bj (dt _ (.inr ⟨[(4,.aE 1 []),(5,.int .i64 0),(6,.int .i64 aI)],k4 [] rfl (k6 (t:=4) (d:=.bD) rfl rfl (.ib _) (by decide) (iD rfl (iD rfl (k5)))),bl [.aE 1 [],.int .i64 0,.int .i64 aI]⟩))
 ·refine bH (fW _ (.inl ?_))
  obtain⟨aT,iw,h⟩:=aX h
  refine fz (Ys (a0.length:Int) ah _ iw) _ ?_
  obtain⟨aZ,kS,h⟩:=aX h
  obtain⟨acf,hx,h⟩:=aX h
  (try simp only[lY.down,Nat.reduceAdd]at hx)
  refine nf rfl (lS [(4,.aE 1 (aZ.map aL)),(5,.int .i64 aT.2.1),(6,.int .i64 0)] (fun P aC=> ?_) ?_)
  ·simp only[hV.down,simprocAttr,fJ,hc,nj,mv,aL,(show∀s,cX aP s 22 0 []=some (.aE 1 [],s)from fun s=>by kernel_rfl),kS, @jf _ aL 1 (fun _=>rfl), @kz aP 22 22 9 rfl rfl,kA,kB,kC,all_cons,all_nil,hx]
   refine⟨lb (by kernel_rfl),?_⟩
   (try simp only[bO.down,simprocAttr,aL,(show∀s,cX aP s 22 0 []=some (.aE 1 [],s)from fun s=>by kernel_rfl),kS, @jf _ aL 1 (fun _=>rfl), @kz aP 22 22 9 rfl rfl,kA,kB,kC,all_cons,all_nil,hx]at aC⊢);exact aC
  exact bj (aQ _ (.inl (bl [.aE 1 (aZ.map aL),.int .i64 aT.2.1,.int .i64 0])))
theorem Gr:∀a c,mz a c=Lib.indexByte a c
 |[],_=>rfl
 |a::x,c=>by simp only[mz,Lib.indexByte,Gr x c]
theorem Yu (a0:List UInt8) (ah:UInt8) (r:Int) (h:zO a0 ah=some r):bq aP 220 [.str a0,.int .u8 ah.toNat] (.int .i64 r) []:=by
 rw[show r=Lib.indexByte a0 ah from(fM h).trans (Gr _ _)]
 exact Eu Tryz.func220 (by kernel_rfl) (by kernel_rfl) (by kernel_rfl) (E:=Extern.BytealgIndexByte.indexByte) (by kernel_rfl) a0 ah _ fun w=>by
  rw[Lib.run_indexByteString,show((ah.toNat:Int).toNat).toUInt8=ah from by simp]
theorem Yv (a0:List UInt8) (ah:UInt8) (r:Int) (h:zP a0 ah=some r):bq aP 181 [.str a0,.int .u8 (ah.toNat:Int)] (.int .i64 r) []:=by
 refine cJ [0,1] [.tmp 4] Tryz.func181 Qo (fun ch aQ cp=> ?_)
 refine ws _ ?_
 obtain⟨aI,aK,h⟩:=aX h
 refine fz (Yu a0 ah _ aK) _ ?_
 exact bj (aQ _ (.inl (bl [.int .i64 aI])))
theorem Gs (a0:List UInt8) (ah:List UInt8) (r:Int) (h:n6 a0 ah=some r):bq aP 256 [.str a0,.str ah] (.int .i64 r) []:=by
 refine cJ [0,1] [.tmp 4] Tryz.func256 Rb (fun ch aQ cp=> ?_)
 refine ws _ ?_
 refine ws _ ?_
 refine bh aQ (fun uv lZ fj aZ=> ?_)
 refine cT fj (fun gI fW dt cY a6=> ?_)
 refine cP (cl [(0,.str a0),(1,.str ah),(5,.int .i64 (ah.length:Int)),(16,.bool (((ah.length:Int)==0)||(ah==a0)))] (fun P aC=> ?_) ?_)
 ·rcases Bool.eq_false_or_eq_true ((ah.length:Int)==0)with qA|qA
  ·simp only[aV.down,simprocAttr,qA]
   (try simp only[bO.down,simprocAttr,qA]at aC⊢);exact aC
  ·simp only[aV.down,simprocAttr,qA]
   (try simp only[bO.down,simprocAttr,qA]at aC⊢);exact aC
 refine bA h (fun vj h=> ?_) (fun vj h=> ?_)
 ·refine ws _ ?_
  exact bj (dt _ (.inl (bl [.int .i64 0])))
 ·refine ws _ ?_
  refine bA h (fun gn h=> ?_) (fun gn h=> ?_)
  ·obtain⟨aI,hx,h⟩:=aX h
   obtain⟨aT,eJ,h⟩:=aX h
   refine jl hx (Yv a0 aI _ eJ) _ ?_
   exact bj (dt _ (.inl (bl [.int .i64 aT])))
  ·refine ws _ ?_
   refine bA h (fun iL h=> ?_) (fun iL h=> ?_)
   ·refine ws _ ?_
    exact bj (dt _ (.inl (bl [.int .i64 (-1)])))
   ·cases h
theorem Yw (a0:List UInt8) (ah:List UInt8) (r:(List UInt8)×(List UInt8)×Bool) (h:wv a0 ah=some r):bq aP 252 [.str a0,.str ah] (.tuple [.str r.1,.str r.2.1,.bool r.2.2]) []:=by
 refine cJ [0,1] [.tmp 4,.tmp 5,.tmp 6] Tryz.func252 Ri (fun ch aQ cp=> ?_)
 refine ws _ ?_
 refine bh aQ (fun gF db cd aT=> ?_)
 obtain⟨aI,b0,h⟩:=aX h
 refine fz (Gs a0 ah _ b0) _ ?_
 refine ws _ ?_
 refine bA h (fun fH h=> ?_) (fun fH h=> ?_)
 ·obtain⟨aT,gC,h⟩:=aX h
  obtain⟨aZ,iw,h⟩:=aX h
  refine nf rfl (lS [(4,.str aT),(5,.str aZ),(6,.bool true)] (fun P aC=> ?_) ?_)
  ·simp only[hV.down,simprocAttr,hc,gC,iw]
   refine⟨lb (by kernel_rfl),?_⟩
   (try simp only[bO.down,simprocAttr,gC,iw]at aC⊢);exact aC
  exact bj (cd _ (.inl (bl [.str aT,.str aZ,.bool true])))
 ·refine bH (db _ (.inl ?_))
  refine ws _ ?_
  exact bj (aQ _ (.inl (bl [.str a0,.str ([]:List UInt8),.bool false])))
theorem Yx (a0:List UInt8) (ah:List UInt8) (r:(List UInt8)×(List UInt8)×Bool) (h:se a0 ah=some r):bq aP 219 [.str a0,.str ah] (.tuple [.str r.1,.str r.2.1,.bool r.2.2]) []:=by
 refine cJ [0,1] [.tmp 4,.tmp 5,.tmp 6] Tryz.func219 Rl (fun ch aQ cp=> ?_)
 refine ws _ ?_
 obtain⟨aI,aK,h⟩:=aX h
 refine fz (Yw a0 ah _ aK) _ ?_
 exact bj (aQ _ (.inl (bl [.str aI.1,.str aI.2.1,.bool aI.2.2])))
theorem Yy (a0:List UInt8) (ah:List UInt8) (r:Bool) (h:wx a0 ah=some r):bq aP 184 [.str a0,.str ah] (.bool r) []:=by
 refine cJ [0,1] [.tmp 4] Tryz.func184 Ro (fun ch aQ cp=> ?_)
 refine ws _ ?_
 rcases h3 h with⟨jw,h⟩|⟨jw,h⟩
 ·obtain⟨aI,b0,h⟩:=aX h
  refine gl (And.intro jw b0) _ ?_
  exact bj (aQ _ (.inl (bl [.bool (aI==ah)])))
 ·refine gl jw _ ?_
  exact bj (aQ _ (.inl (bl [.bool false])))
theorem Yz (a0:List UInt8) (ah:List UInt8) (r:(List UInt8)) (h:wy a0 ah=some r):bq aP 138 [.str a0,.str ah] (.str r) []:=by
 refine cJ [0,1] [.tmp 4] Tryz.func138 Rt (fun ch aQ cp=> ?_)
 refine ws _ ?_
 refine bh aQ (fun gF db cd aT=> ?_)
 obtain⟨aI,b0,h⟩:=aX h
 refine fz (Yy a0 ah _ b0) _ ?_
 refine bA h (fun h9 h=> ?_) (fun h9 h=> ?_)
 ·obtain⟨aT,bn,h⟩:=aX h
  refine gl bn _ ?_
  exact bj (cd _ (.inl (bl [.str aT])))
 ·refine bH (db _ (.inl ?_))
  refine ws _ ?_
  exact bj (aQ _ (.inl (bl [.str a0])))
theorem YA (a0:List UInt8) (ah:List UInt8) (r:(List UInt8)) (h:strings_TrimSuffix a0 ah=some r):bq aP 91 [.str a0,.str ah] (.str r) []:=by
 refine cJ [0,1] [.tmp 4] Tryz.func91 Rv (fun ch aQ cp=> ?_)
 refine ws _ ?_
 obtain⟨aI,aK,h⟩:=aX h
 refine fz (Yz a0 ah _ aK) _ ?_
 exact bj (aQ _ (.inl (bl [.str aI])))
theorem YB (a0:List UInt8) (ah:UInt8) (r:Int) (h:zQ a0 ah=some r):bq aP 255 [.str a0,.int .u8 ah.toNat] (.int .i64 r) []:=by
 rw[show r=((Lib.countByte a0 ah:Nat):Int)from fM h]
 exact Eu Tryz.func255 (by kernel_rfl) (by kernel_rfl) (by kernel_rfl) (E:=Extern.BytealgCount.count) (by kernel_rfl) a0 ah _ fun w=>by
  rw[Lib.run_countString,show((ah.toNat:Int).toNat).toUInt8=ah from by simp]
theorem Gt (a0:List UInt8) (ah:List UInt8) (r:Int) (h:uc a0 ah=some r):bq aP 223 [.str a0,.str ah] (.int .i64 r) []:=by
 refine cJ [0,1] [.tmp 4] Tryz.func223 Ry (fun ch aQ cp=> ?_)
 refine ws _ ?_
 obtain⟨aI,aK,h⟩:=aX h
 refine fz (Gs a0 ah _ aK) _ ?_
 exact bj (aQ _ (.inl (bl [.int .i64 aI])))
theorem YC (a0:List UInt8) (ah:List UInt8) (r:Int) (h:zR a0 ah=some r):bq aP 222 [.str a0,.str ah] (.int .i64 r) []:=by
 refine cJ [1] [.tmp 4] Tryz.func222 RM (fun ch aQ cp=> ?_)
 refine ws _ ?_
 refine bh aQ (fun gF db cd aT=> ?_)
 refine ws _ ?_
 refine bA h (fun cY h=> ?_) (fun cY h=> ?_)
 ·cases h
 ·refine bH (db _ (.inl ?_))
  refine bh aQ (fun hJ eX fk cw=> ?_)
  refine ws _ ?_
  refine bA h (fun ey h=> ?_) (fun ey h=> ?_)
  ·obtain⟨aI,ix,h⟩:=aX h
   obtain⟨aT,kS,h⟩:=aX h
   refine jl ix (YB a0 aI _ kS) _ ?_
   exact bj (fk _ (.inl (bl [.int .i64 aT])))
  ·refine bH (eX _ (.inl ?_))
   refine ws _ ?_
   refine cT aQ (fun oi iN lv mC kK=> ?_)
   have YD:∀(n:Nat) (lW:List UInt8) (lX:Int),wz ah n lW lX=some r→fc aP Fs oi (J [(0,.str lW),(1,.str ah),(5,.int .i64 lX)]):=by
    intro m21
    induction m21 with
    |zero=>intro lW lX h;cases(show none=some r from h)
    |succ m21 YE=>
     intro lW lX h
     replace h:E2 (wz ah m21) ah lW lX=some r:=h
     refine gj lv (fun qC lq l1 nq=> ?_)
     refine cT l1 (fun w9 mD nt iL mB=> ?_)
     obtain⟨aZ,hs,h⟩:=aX h
     refine fz (Gt lW ah _ hs) _ ?_
     refine bh nt (fun XH Ap xe sg=> ?_)
     refine ws _ ?_
     refine bA h (fun qH h=> ?_) (fun qH h=> ?_)
     ·refine ws _ ?_
      exact bj (xe _ (.inl (bl [.int .i64 lX])))
     ·refine bH (Ap _ (.inl ?_))
      refine ws _ ?_
      obtain⟨a6,nx,h⟩:=aX h
      refine w8 nx _ ?_
      exact mD _ (lq _ (.inr ⟨_,bX rfl,YE a6 (IntKind.i64.wrap (lX+1)) h⟩))
   obtain⟨n,h⟩:=gb h
   exact gh (.inr ⟨_,bX rfl,YD n a0 0 h⟩)
theorem YF (a0:List UInt8) (ah:List UInt8) (a2:Int) (a3:Int) (r:(List (List UInt8))) (h:zS a0 ah a2 a3=some r):bq aP 182 [.str a0,.str ah,.int .i64 a2,.int .i64 a3] (.aE 1 (r.map aL)) []:=by
 refine cJ [1,2] [.tmp 8] Tryz.func182 R8 (fun ch aQ cp=> ?_)
 refine ws _ ?_
 refine bh aQ (fun gF db cd aT=> ?_)
 refine ws _ ?_
 refine bA h (fun cY h=> ?_) (fun cY h=> ?_)
 ·refine ws _ ?_
  exact bj (cd _ (.inr ⟨[(8,.aE 1 [])],k4 [] rfl (k6 (t:=8) (d:=.bD) rfl rfl (.ib _) (by decide) (k5)),bl [.aE 1 []]⟩))
 ·refine bH (db _ (.inl ?_))
  refine bh aQ (fun hJ eX fk cw=> ?_)
  refine ws _ ?_
  refine bA h (fun ey h=> ?_) (fun ey h=> ?_)
  ·cases h
  ·refine bH (eX _ (.inl ?_))
   have Gu:∀(fp:Int),wB a0 ah a2 fp=some r→b1 aP Fv ch (J [(0,.str a0),(1,.str ah),(2,.int .i64 a2),(3,.int .i64 fp)]):=by
    intro fp h
    refine cP (cl [(0,.str a0),(1,.str ah),(2,.int .i64 a2),(3,.int .i64 (eA false fp (IntKind.i64.wrap ((a0.length:Int)+1))))] (fun P aC=> ?_) ?_)
    ·simp only[aV.down,simprocAttr,hc, @vU,vV]
     (try simp only[bO.down,simprocAttr, @vU,vV]at aC⊢);exact aC
    obtain⟨acg,eJ,h⟩:=aX h
    refine cP (cl [(0,.str a0),(1,.str ah),(2,.int .i64 a2),(3,.int .i64 (eA false fp (IntKind.i64.wrap ((a0.length:Int)+1)))),(9,.aE 1 ((List.replicate (Int.toNat (eA false fp (IntKind.i64.wrap ((a0.length:Int)+1)))) ([]:List UInt8)).map aL))] (fun P aC=> ?_) ?_)
    ·simp only[aV.down,simprocAttr,jm.down,(gL eJ).1,(gL eJ).2.1,(gL eJ).2.2,er,List.map_replicate,-Int.reduceNatCast']
     (try simp only[bO.down,simprocAttr,aL,(gL eJ).1,(gL eJ).2.1,(gL eJ).2.2,er,List.map_replicate,-Int.reduceNatCast']at aC⊢);exact aC
    refine ws [(0,.str a0),(1,.str ah),(2,.int .i64 a2),(3,.int .i64 (IntKind.i64.wrap ((eA false fp (IntKind.i64.wrap ((a0.length:Int)+1)))-1))),(9,.aE 1 ((List.replicate (Int.toNat (eA false fp (IntKind.i64.wrap ((a0.length:Int)+1)))) ([]:List UInt8)).map aL))] ?_
    refine ws [(0,.str a0),(1,.str ah),(2,.int .i64 a2),(3,.int .i64 (IntKind.i64.wrap ((eA false fp (IntKind.i64.wrap ((a0.length:Int)+1)))-1))),(9,.aE 1 ((List.replicate (Int.toNat (eA false fp (IntKind.i64.wrap ((a0.length:Int)+1)))) ([]:List UInt8)).map aL)),(10,.int .i64 0)] ?_
    have Gv:∀(sf:List UInt8) (qf:List (List UInt8)) (n7:Int),ud a0 ah a2 fp sf qf n7=some r→b1 aP Fu ch (J [(0,.str sf),(1,.str ah),(2,.int .i64 a2),(3,.int .i64 (IntKind.i64.wrap ((eA false fp (IntKind.i64.wrap ((a0.length:Int)+1)))-1))),(9,.aE 1 (qf.map aL)),(10,.int .i64 n7)]):=by
     intro sf qf n7 h
     obtain⟨aI,ki,h⟩:=aX h
     refine cP (cl [(9,.aE 1 ((List.set qf (Int.toNat n7) sf).map aL)),(10,.int .i64 n7)] (fun P aC=> ?_) ?_)
     ·simp only[aV.down,simprocAttr,jm.down,ki,iR ki,jB,gx]
      (try simp only[bO.down,simprocAttr,aL,ki,iR ki,jB,gx]at aC⊢);exact aC
     obtain⟨aT,nw,h⟩:=aX h
     refine cP (cl [(8,.aE 1 (aT.map aL))] (fun P aC=> ?_) ?_)
     ·simp only[aV.down,simprocAttr,jm.down,nw,(fun s y q=>(vR aP s 22 y q).1),(fun s y q=>(vR aP s 22 y q).2.1),o0]
      (try simp only[bO.down,simprocAttr,aL,nw,(fun s y q=>(vR aP s 22 y q).1),(fun s y q=>(vR aP s 22 y q).2.1),o0]at aC⊢);exact aC
     exact bj (aQ _ (.inl (bl [.aE 1 (aT.map aL)])))
    refine bh aQ (fun Al pg ux hr=> ?_)
    refine cT ux (fun Ge Gf AF sn sj=> ?_)
    have YG:∀(n:Nat) (iI:List UInt8) (hZ:List (List UInt8)) (gz:Int),o7 a0 ah a2 fp n iI hZ gz=some r→fc aP Ft Ge (J [(0,.str iI),(1,.str ah),(2,.int .i64 a2),(3,.int .i64 (IntKind.i64.wrap ((eA false fp (IntKind.i64.wrap ((a0.length:Int)+1)))-1))),(9,.aE 1 (hZ.map aL)),(10,.int .i64 gz)]):=by
     intro AO
     induction AO with
     |zero=>intro iI hZ gz h;cases(show none=some r from h)
     |succ AO YH=>
      intro iI hZ gz h
      replace h:wA (o7 a0 ah a2 fp AO) a0 ah a2 fp iI hZ gz=some r:=h
      refine gj AF (fun FZ uy so og=> ?_)
      refine bh so (fun F1 uz xf Aq=> ?_)
      refine ws _ ?_
      refine bA h (fun AJ h=> ?_) (fun AJ h=> ?_)
      ·refine bH (uz _ (.inl ?_))
       refine cT so (fun X_ Ax Ga xd Ay=> ?_)
       obtain⟨aZ,YI,h⟩:=aX h
       refine fz (Gt iI ah _ YI) _ ?_
       refine bh Ga (fun Gb uD Az xk=> ?_)
       refine ws _ ?_
       refine bA h (fun AH h=> ?_) (fun AH h=> ?_)
       ·exact gg (xk 0 _ (Ay 0 _ (by decide) (og 0 _ (sn _ (pg _ (.inr ⟨_,bX rfl,Gv iI hZ gz h⟩))))))
       ·refine bH (uD _ (.inl ?_))
        obtain⟨a6,sq,h⟩:=aX h
        obtain⟨b5,xp,h⟩:=aX h
        refine cP (cl [(0,.str iI),(1,.str ah),(2,.int .i64 a2),(3,.int .i64 (IntKind.i64.wrap ((eA false fp (IntKind.i64.wrap ((a0.length:Int)+1)))-1))),(9,.aE 1 ((List.set hZ (Int.toNat gz) a6).map aL)),(10,.int .i64 gz),(11,.int .i64 aZ)] (fun P aC=> ?_) ?_)
        ·simp only[aV.down,simprocAttr,jm.down,sq,xp,iR xp,jB,gx,(show(List.map aL hZ).set (Int.toNat gz) (.str a6)=List.map aL (List.set hZ (Int.toNat gz) a6)from(List.map_set ..).symm)]
         (try simp only[bO.down,simprocAttr,aL,sq,xp,iR xp,jB,gx]at aC⊢);exact aC
        obtain⟨cw,uF,h⟩:=aX h
        refine gl uF [(0,.str cw),(1,.str ah),(2,.int .i64 a2),(3,.int .i64 (IntKind.i64.wrap ((eA false fp (IntKind.i64.wrap ((a0.length:Int)+1)))-1))),(9,.aE 1 ((List.set hZ (Int.toNat gz) a6).map aL)),(10,.int .i64 gz)] ?_
        refine wr [(0,.str cw),(1,.str ah),(2,.int .i64 a2),(3,.int .i64 (IntKind.i64.wrap ((eA false fp (IntKind.i64.wrap ((a0.length:Int)+1)))-1))),(9,.aE 1 ((List.set hZ (Int.toNat gz) a6).map aL)),(10,.int .i64 (IntKind.i64.wrap (gz+1)))] ?_
        exact Ax _ (uy _ (.inr ⟨_,bX rfl,YH cw (List.set hZ (Int.toNat gz) a6) (IntKind.i64.wrap (gz+1)) h⟩))
      ·exact gg (Aq 0 _ (og 0 _ (sn _ (pg _ (.inr ⟨_,bX rfl,Gv iI hZ gz h⟩)))))
    obtain⟨n,h⟩:=gb h
    exact gh (.inr ⟨_,bX rfl,YG n a0 (List.replicate (Int.toNat (eA false fp (IntKind.i64.wrap ((a0.length:Int)+1)))) ([]:List UInt8)) 0 h⟩)
   refine bh aQ (fun jF e1 gm fK=> ?_)
   refine ws _ ?_
   refine bA h (fun AD h=> ?_) (fun AD h=> ?_)
   ·obtain⟨cn,YJ,h⟩:=aX h
    refine FU (YC a0 ah _ YJ) _ ?_
    exact e1 _ (.inr ⟨_,bX rfl,Gu (IntKind.i64.wrap (cn+1)) h⟩)
   ·exact bH (e1 _ (.inr ⟨_,bX rfl,Gu a3 h⟩))
theorem YK (a0:List UInt8) (ah:List UInt8) (r:(List (List UInt8))) (h:wC a0 ah=some r):bq aP 135 [.str a0,.str ah] (.aE 1 (r.map aL)) []:=by
 refine cJ [0,1] [.tmp 4] Tryz.func135 Sa (fun ch aQ cp=> ?_)
 refine ws _ ?_
 obtain⟨aI,aK,h⟩:=aX h
 refine fz (YF a0 ah 0 (-1) _ aK) _ ?_
 exact bj (aQ _ (.inl (bl [.aE 1 (aI.map aL)])))
theorem YL (a0:List UInt8) (r:Int×Bool) (h:wD a0=some r):bq aP 183 [.str a0] (.tuple [.int .i64 r.1,.bool r.2]) []:=Xu a0 r h
theorem YM (a0:List (List UInt8)) (r:(List Int)×Bool) (h:wF a0=some r):bq aP 136 [.slice (a0.map aL)] (.tuple [.aE 1 (r.1.map a7),.bool r.2]) []:=by
 refine cJ [0] [.tmp 2,.tmp 3] Tryz.func136 Sp (fun ch aQ cp=> ?_)
 refine ws _ ?_
 refine ws _ ?_
 refine bh aQ (fun uv lZ fj aZ=> ?_)
 refine ws _ ?_
 refine cT fj (fun lr gY e9 h9 b5=> ?_)
 have qD:∀(n:Nat) (dc:List Int) (kI:Int),qg a0 n dc kI=some r→fc aP Fw lr (J [(4,.aE 1 (dc.map a7)),(9,.slice (a0.map aL)),(10,.int .i64 (a0.length:Int)),(11,.int .i64 kI)]):=by
  intro m8
  induction m8 with
  |zero=>intro dc kI h;cases(show none=some r from h)
  |succ m8 qE=>
   intro dc kI h
   replace h:wE (qg a0 m8) a0 dc kI=some r:=h
   refine gj e9 (fun hJ eX fk cw=> ?_)
   refine ws _ ?_
   refine bh fk (fun jG h2 iM hf=> ?_)
   refine bA h (fun uw h=> ?_) (fun uw h=> ?_)
   ·refine bH (h2 _ (.inl ?_))
    refine bh fk (fun jF e1 gm fK=> ?_)
    refine cT gm (fun sk kL l0 iO mA=> ?_)
    obtain⟨aI,eJ,h⟩:=aX h
    refine gl eJ _ ?_
    obtain⟨aT,gA,h⟩:=aX h
    refine fz (YL aI _ gA) _ ?_
    refine bh l0 (fun Al pg ux hr=> ?_)
    refine ws _ ?_
    refine bA h (fun lu h=> ?_) (fun lu h=> ?_)
    ·refine ws _ ?_
     exact bj (ux _ (.inr ⟨[(2,.aE 1 []),(3,.bool false)],k4 [] rfl (k6 (t:=2) (d:=.bD) rfl rfl (.ib _) (by decide) (iD rfl (k5))),bl [.aE 1 [],.bool false]⟩))
    ·refine bH (pg _ (.inl ?_))
     obtain⟨ach,pj,h⟩:=aX h
     (try simp only[lY.down,Nat.reduceAdd]at pj)
     refine je (cl [(4,.aE 1 ((dc++[aT.1]).map a7)),(9,.slice (a0.map aL)),(10,.int .i64 (a0.length:Int)),(11,.int .i64 kI)] (fun P aC=> ?_) ?_)
     ·simp only[aV.down,simprocAttr,fJ,tN,a7,aL,(show∀s,cX aP s 23 1 [(0,.int .i64 aT.1)]=some (.aE 1 [.int .i64 aT.1],s)from fun s=>by kernel_rfl), @kz aP 23 23 2 rfl rfl,kA,kB,kC,all_cons,all_nil,pj, @jf _ a7 1 (fun _=>rfl)]
      (try simp only[bO.down,simprocAttr,cG.down,(show∀s,cX aP s 23 1 [(0,.int .i64 aT.1)]=some (.aE 1 [.int .i64 aT.1],s)from fun s=>by kernel_rfl), @kz aP 23 23 2 rfl rfl,kA,kB,kC,all_cons,all_nil,pj, @jf _ a7 1 (fun _=>rfl)]at aC⊢);exact aC
     refine kL _ (e1 _ (.inl ?_))
     refine wr [(4,.aE 1 ((dc++[aT.1]).map a7)),(9,.slice (a0.map aL)),(10,.int .i64 (a0.length:Int)),(11,.int .i64 (IntKind.i64.wrap (kI+1)))] ?_
     exact eX _ (.inr ⟨_,bX rfl,qE (dc++[aT.1]) (IntKind.i64.wrap (kI+1)) h⟩)
   ·refine gg (hf 0 _ (cw 0 _ (h9 _ (lZ _ (.inl ?_)))))
    refine ws _ ?_
    exact bj (aQ _ (.inl (bl [.aE 1 (dc.map a7),.bool true])))
 obtain⟨n,h⟩:=gb h
 exact gh (.inr ⟨_,k4 [] rfl (k6 (t:=4) (d:=.bD) (aY:=.aE 1 []) rfl rfl (.ib _) (by decide) (iD (t:=9) (d:=.slice (a0.map aL)) rfl (iD (t:=10) (d:=.int .i64 (a0.length:Int)) rfl (iD (t:=11) (d:=.int .i64 0) rfl (k5))))),qD n [] 0 h⟩)
theorem YN (a0:UInt8) (r:Bool) (h:zT a0=some r):bq aP 195 [.int .u8 (a0.toNat:Int)] (.bool r) []:=by
 refine cJ [0] [.tmp 2] Tryz.func195 Ss (fun ch aQ cp=> ?_)
 refine ws _ ?_
 refine cP (cl [(2,.bool ((decide (48≤(a0.toNat:Int)))&&(decide ((a0.toNat:Int)≤57))))] (fun P aC=> ?_) ?_)
 ·rcases Bool.eq_false_or_eq_true (decide (48≤(a0.toNat:Int)))with eZ|eZ
  ·simp only[aV.down,simprocAttr,eZ]
   (try simp only[bO.down,simprocAttr,eZ]at aC⊢);exact aC
  ·simp only[aV.down,simprocAttr,eZ]
   (try simp only[bO.down,simprocAttr,eZ]at aC⊢);exact aC
 exact bj (aQ _ (.inl (bl [.bool ((decide (48≤(a0.toNat:Int)))&&(decide ((a0.toNat:Int)≤57)))])))
theorem Gw (a0:List UInt8) (r:Bool) (h:wG a0=some r):bq aP 155 [.str a0] (.bool r) []:=by
 refine cJ [0] [.tmp 2] Tryz.func155 SF (fun ch aQ cp=> ?_)
 refine ws _ ?_
 refine bh aQ (fun gF db cd aT=> ?_)
 refine ws _ ?_
 refine cT cd (fun gI fW dt cY a6=> ?_)
 have kh:∀(n:Nat) (iJ:Int),n8 a0 n iJ=some r→fc aP Fx gI (J [(0,.str a0),(6,.int .i64 (a0.length:Int)),(7,.int .i64 iJ)]):=by
  intro m6
  induction m6 with
  |zero=>intro iJ h;cases(show none=some r from h)
  |succ m6 jH=>
   intro iJ h
   replace h:ue (n8 a0 m6) a0 iJ=some r:=h
   refine gj dt (fun lr gY e9 b5=> ?_)
   refine ws _ ?_
   refine bh e9 (fun lp fV gB cn=> ?_)
   refine bA h (fun ey h=> ?_) (fun ey h=> ?_)
   ·refine bH (fV _ (.inl ?_))
    refine bh e9 (fun h1 eN eu d_=> ?_)
    refine cT eu (fun jF e1 gm gn fK=> ?_)
    refine ws _ ?_
    obtain⟨aI,eJ,h⟩:=aX h
    refine cP (cl [(0,.str a0),(3,.int .i64 iJ),(4,.bool ((decide (97≤(aI.toNat:Int)))&&(decide ((aI.toNat:Int)≤122)))),(6,.int .i64 (a0.length:Int)),(7,.int .i64 iJ)] (fun P aC=> ?_) ?_)
    ·rcases Bool.eq_false_or_eq_true (decide (97≤(aI.toNat:Int)))with qx|qx
     ·simp only[aV.down,simprocAttr,hc,eJ,qx]
      (try simp only[bO.down,simprocAttr,eJ,qx]at aC⊢);exact aC
     ·simp only[aV.down,simprocAttr,hc,eJ,qx]
      (try simp only[bO.down,simprocAttr,eJ,qx]at aC⊢);exact aC
    rcases h3 h with⟨nv,h⟩|⟨nv,h⟩
    ·rcases h3 h with⟨qI,h⟩|⟨qI,h⟩
     ·refine gl (And.intro nv qI) _ ?_
      refine k3 rfl ?_
      refine ws _ ?_
      exact bj (gm _ (.inl (bl [.bool false])))
     ·obtain⟨aT,oj,h⟩:=aX h
      refine cP (cl [(0,.str a0),(6,.int .i64 (a0.length:Int)),(7,.int .i64 iJ),(32,.bool (!aT))] (fun P aC=> ?_) ?_)
      ·simp only[aV.down,simprocAttr,hc,nv,qI,eJ]
       refine oV (YN aI _ oj) rfl rfl rfl rfl (.inl (by rfl)) ?_
       simp only[aV.down,simprocAttr,hc,nv,qI,eJ]
       (try simp only[bO.down,simprocAttr,nv,qI,eJ]at aC⊢);exact aC
      refine bA h (fun qH h=> ?_) (fun qH h=> ?_)
      ·refine ws _ ?_
       exact bj (gm _ (.inl (bl [.bool false])))
      ·refine bH (e1 _ (eN _ (.inl ?_)))
       refine wr _ ?_
       exact gY _ (.inr ⟨_,bX rfl,jH (IntKind.i64.wrap (iJ+1)) h⟩)
    ·refine gl nv _ ?_
     refine rM rfl ?_
     refine bH (e1 _ (eN _ (.inl ?_)))
     refine wr _ ?_
     exact gY _ (.inr ⟨_,bX rfl,jH (IntKind.i64.wrap (iJ+1)) h⟩)
   ·refine gg (cn 0 _ (b5 0 _ (cY _ (db _ (.inl ?_)))))
    refine cP (cl [(2,.bool ((decide (1≤(a0.length:Int)))&&(decide ((a0.length:Int)≤10))))] (fun P aC=> ?_) ?_)
    ·rcases Bool.eq_false_or_eq_true (decide (1≤(a0.length:Int)))with qy|qy
     ·simp only[aV.down,simprocAttr,hc,qy]
      (try simp only[bO.down,simprocAttr,qy]at aC⊢);exact aC
     ·simp only[aV.down,simprocAttr,hc,qy]
      (try simp only[bO.down,simprocAttr,qy]at aC⊢);exact aC
    exact bj (aQ _ (.inl (bl [.bool ((decide (1≤(a0.length:Int)))&&(decide ((a0.length:Int)≤10)))])))
 obtain⟨n,h⟩:=gb h
 exact gh (.inr ⟨_,bX rfl,kh n 0 h⟩)
theorem AP (a0:List UInt8) (r:Bool) (h:wH a0=some r):bq aP 203 [.str a0] (.bool r) []:=by
 refine cJ [0] [.tmp 2] Tryz.func203 SH (fun ch aQ cp=> ?_)
 refine ws _ ?_
 obtain⟨aI,aK,h⟩:=aX h
 refine cP (cl [(2,.bool (aI&&(!(a0==([116,97,117]:List UInt8)))))] (fun P aC=> ?_) ?_)
 ·rcases Bool.eq_false_or_eq_true (aI)with jy|jy
  ·simp only[aV.down,simprocAttr,jy]
   refine fe (Gw a0 _ aK) rfl rfl rfl rfl (.inl (by rfl)) ?_
   simp only[aV.down,simprocAttr,jy]
   (try simp only[bO.down,simprocAttr,jy]at aC⊢);exact aC
  ·simp only[aV.down,simprocAttr,jy]
   refine fe (Gw a0 _ aK) rfl rfl rfl rfl (.inl (by rfl)) ?_
   simp only[aV.down,simprocAttr,jy]
   (try simp only[bO.down,simprocAttr,jy]at aC⊢);exact aC
 exact bj (aQ _ (.inl (bl [.bool (aI&&(!(a0==([116,97,117]:List UInt8))))])))
theorem Gx (a0:Int) (ah:Int) (a2:Int) (r:Bool) (h:uf a0 ah a2=some r):bq aP 86 [.int .i64 a0,.int .i64 ah,.int .i64 a2] (.bool r) []:=by
 refine cJ [0,1,2] [.tmp 6] Tryz.func86 SK (fun ch aQ cp=> ?_)
 refine ws _ ?_
 refine cP (cl [(6,.bool ((decide (ah≤a0))&&(decide (a0≤a2))))] (fun P aC=> ?_) ?_)
 ·rcases Bool.eq_false_or_eq_true (decide (ah≤a0))with eZ|eZ
  ·simp only[aV.down,simprocAttr,eZ]
   (try simp only[bO.down,simprocAttr,eZ]at aC⊢);exact aC
  ·simp only[aV.down,simprocAttr,eZ]
   (try simp only[bO.down,simprocAttr,eZ]at aC⊢);exact aC
 exact bj (aQ _ (.inl (bl [.bool ((decide (ah≤a0))&&(decide (a0≤a2)))])))
theorem YO (a0:Int) (r:Bool) (h:zU a0=some r):bq aP 202 [.int .i64 a0] (.bool r) []:=by
 refine cJ [0] [.tmp 2] Tryz.func202 SN (fun ch aQ cp=> ?_)
 refine ws _ ?_
 obtain⟨aI,aK,h⟩:=aX h
 refine fz (Gx a0 0 63 _ aK) _ ?_
 exact bj (aQ _ (.inl (bl [.bool aI])))
theorem YP (a0:Int) (r:Bool) (h:zV a0=some r):bq aP 201 [.int .i64 a0] (.bool r) []:=by
 refine cJ [0] [.tmp 2] Tryz.func201 SP (fun ch aQ cp=> ?_)
 refine ws _ ?_
 obtain⟨aI,aK,h⟩:=aX h
 refine fz (YO a0 _ aK) _ ?_
 exact bj (aQ _ (.inl (bl [.bool (!aI)])))
theorem YQ (a0:List Int) (r:Int) (h:zW a0=some r):bq aP 126 [.slice (a0.map a7),.fn 201 []] (.int .i64 r) []:=by
 refine cJ [0,1] [.tmp 4] Tryz.func126 S1 (fun ch aQ cp=> ?_)
 refine ws _ ?_
 refine bh aQ (fun gF db cd aT=> ?_)
 refine ws _ ?_
 refine cT cd (fun gI fW dt cY a6=> ?_)
 have kh:∀(n:Nat) (dX:Int),qh a0 n dX=some r→fc aP Fy gI (J [(0,.slice (a0.map a7)),(1,.fn 201 []),(7,.int .i64 (a0.length:Int)),(8,.int .i64 dX)]):=by
  intro m6
  induction m6 with
  |zero=>intro dX h;cases(show none=some r from h)
  |succ m6 jH=>
   intro dX h
   replace h:wI (qh a0 m6) a0 dX=some r:=h
   refine gj dt (fun lr gY e9 b5=> ?_)
   refine ws _ ?_
   refine bh e9 (fun lp fV gB cn=> ?_)
   refine bA h (fun ey h=> ?_) (fun ey h=> ?_)
   ·refine bH (fV _ (.inl ?_))
    refine bh e9 (fun h1 eN eu d_=> ?_)
    refine cT eu (fun jF e1 gm gn fK=> ?_)
    refine ws _ ?_
    obtain⟨aI,eJ,h⟩:=aX h
    obtain⟨aT,il,h⟩:=aX h
    refine jl eJ (YP aI _ il) _ ?_
    refine bA h (fun iL h=> ?_) (fun iL h=> ?_)
    ·refine ws _ ?_
     exact bj (gm _ (.inl (bl [.int .i64 dX])))
    ·refine bH (e1 _ (eN _ (.inl ?_)))
     refine wr _ ?_
     exact gY _ (.inr ⟨_,bX rfl,jH (IntKind.i64.wrap (dX+1)) h⟩)
   ·refine gg (cn 0 _ (b5 0 _ (cY _ (db _ (.inl ?_)))))
    refine ws _ ?_
    exact bj (aQ _ (.inl (bl [.int .i64 (-1)])))
 obtain⟨n,h⟩:=gb h
 exact gh (.inr ⟨_,bX rfl,kh n 0 h⟩)
theorem YR (a0:List Int) (r:Bool) (h:zX a0=some r):bq aP 84 [.slice (a0.map a7),.fn 201 []] (.bool r) []:=by
 refine cJ [0,1] [.tmp 4] Tryz.func84 S4 (fun ch aQ cp=> ?_)
 refine ws _ ?_
 obtain⟨aI,aK,h⟩:=aX h
 refine fz (YQ a0 _ aK) _ ?_
 exact bj (aQ _ (.inl (bl [.bool (decide (0≤aI))])))
theorem YS (a0:List Int) (r:Bool) (h:wJ a0=some r):bq aP 160 [.slice (a0.map a7)] (.bool r) []:=by
 refine cJ [0] [.tmp 2] Tryz.func160 S6 (fun ch aQ cp=> ?_)
 refine ws _ ?_
 obtain⟨aI,aK,h⟩:=aX h
 refine fz (YR a0 _ aK) _ ?_
 exact bj (aQ _ (.inl (bl [.bool (!aI)])))
theorem YT (a0 ah:Int) (r:List UInt8) (h:ug a0 ah=some r):bq aP 185 [.int .i64 a0,.int .i64 ah] (.str r) []:=Xi a0 ah r h
theorem YU (a0:Int) (r:(List UInt8)) (h:uh a0=some r):bq aP 141 [.int .i64 a0] (.str r) []:=by
 refine cJ [0] [.tmp 2] Tryz.func141 S8 (fun ch aQ cp=> ?_)
 refine ws _ ?_
 obtain⟨aI,aK,h⟩:=aX h
 refine fz (YT a0 10 _ aK) _ ?_
 exact bj (aQ _ (.inl (bl [.str aI])))
theorem YV (a0:List (List UInt8)) (ah:List UInt8) (r:List UInt8) (h:strings_Join a0 ah=some r):bq aP 117 [.slice (a0.map aL),.str ah] (.str r) []:=Xj a0 ah r h
theorem YW (a0:List Int) (ah:List UInt8) (r:(List UInt8)) (h:wL a0 ah=some r):bq aP 139 [.slice (a0.map a7),.str ah] (.str r) []:=by
 refine cJ [0,1] [.tmp 4] Tryz.func139 Tg (fun ch aQ cp=> ?_)
 refine ws _ ?_
 obtain⟨XD,aK,h⟩:=aX h
 refine cP (cl [(0,.slice (a0.map a7)),(1,.str ah),(5,.aE 1 ((List.replicate (Int.toNat (a0.length:Int)) ([]:List UInt8)).map aL))] (fun P aC=> ?_) ?_)
 ·simp only[aV.down,simprocAttr,fJ,hc,nj,tN,a7,aL,(gL aK).1,(gL aK).2.1,(gL aK).2.2,er,List.map_replicate,-Int.reduceNatCast']
  (try simp only[bO.down,simprocAttr,cG.down,(gL aK).1,(gL aK).2.1,(gL aK).2.2,er,List.map_replicate,-Int.reduceNatCast']at aC⊢);exact aC
 refine bh aQ (fun gI fW dt a6=> ?_)
 refine ws [(1,.str ah),(5,.aE 1 ((List.replicate (Int.toNat (a0.length:Int)) ([]:List UInt8)).map aL)),(11,.slice (a0.map a7)),(12,.int .i64 (a0.length:Int)),(13,.int .i64 0)] ?_
 refine cT dt (fun hJ eX fk fH cw=> ?_)
 have qD:∀(n:Nat) (kb:List (List UInt8)) (ik:Int),qi a0 ah n kb ik=some r→fc aP Fz hJ (J [(1,.str ah),(5,.aE 1 (kb.map aL)),(11,.slice (a0.map a7)),(12,.int .i64 (a0.length:Int)),(13,.int .i64 ik)]):=by
  intro m8
  induction m8 with
  |zero=>intro kb ik h;cases(show none=some r from h)
  |succ m8 qE=>
   intro kb ik h
   replace h:wK (qi a0 ah m8) a0 ah kb ik=some r:=h
   refine gj fk (fun lp fV gB cn=> ?_)
   refine ws _ ?_
   refine bh gB (fun h1 eN eu d_=> ?_)
   refine bA h (fun gn h=> ?_) (fun gn h=> ?_)
   ·refine bH (eN _ (.inl ?_))
    refine bh gB (fun sk kL l0 mA=> ?_)
    refine cT l0 (fun Ah qF xa hh qu=> ?_)
    obtain⟨aI,il,h⟩:=aX h
    refine gl il _ ?_
    obtain⟨aT,iP,h⟩:=aX h
    obtain⟨aZ,hs,h⟩:=aX h
    refine je (cl [(1,.str ah),(5,.aE 1 ((List.set kb (Int.toNat ik) aT).map aL)),(11,.slice (a0.map a7)),(12,.int .i64 (a0.length:Int)),(13,.int .i64 ik)] (fun P aC=> ?_) ?_)
    ·simp only[aV.down,simprocAttr,hc,nj,a7,aL,hs,iR hs,jB,gx]
     refine fe (YU aI _ iP) rfl rfl rfl rfl (.inl (by rfl)) ?_
     simp only[aV.down,simprocAttr,hc,nj,a7,aL,hs,iR hs,jB,gx]
     (try simp only[bO.down,simprocAttr,cG.down,hs,iR hs,jB,gx]at aC⊢);exact aC
    refine qF _ (kL _ (.inl ?_))
    refine wr [(1,.str ah),(5,.aE 1 ((List.set kb (Int.toNat ik) aT).map aL)),(11,.slice (a0.map a7)),(12,.int .i64 (a0.length:Int)),(13,.int .i64 (IntKind.i64.wrap (ik+1)))] ?_
    exact fV _ (.inr ⟨_,bX rfl,qE (List.set kb (Int.toNat ik) aT) (IntKind.i64.wrap (ik+1)) h⟩)
   ·refine gg (d_ 0 _ (cn 0 _ (fH _ (fW _ (.inl ?_)))))
    obtain⟨a6,nw,h⟩:=aX h
    refine cP (cl [(4,.str a6)] (fun P aC=> ?_) ?_)
    ·simp only[aV.down,simprocAttr,cG.down]
     refine fe (YV kb ah _ nw) rfl rfl (by simp only[aV.down,simprocAttr,cG.down,fZ,f_,ga,fI, @gV _ aL aL (fun _=>jk _)]<;>rfl) rfl (.inr (by rfl)) ?_
     simp only[aV.down,simprocAttr,cG.down]
     (try simp only[bO.down,simprocAttr,cG.down]at aC⊢);exact aC
    exact bj (aQ _ (.inl (bl [.str a6])))
 obtain⟨n,h⟩:=gb h
 exact gh (.inr ⟨_,bX rfl,qD n (List.replicate (Int.toNat (a0.length:Int)) ([]:List UInt8)) 0 h⟩)
theorem YX (a0:List UInt8) (ah:List Int) (r:(List UInt8)×Bool) (h:wM a0 ah=some r):bq aP 161 [.str a0,.slice (ah.map a7)] (.tuple [.str r.1,.bool r.2]) []:=by
 refine cJ [0,1] [.tmp 4,.tmp 5] Tryz.func161 Ts (fun ch aQ cp=> ?_)
 refine ws _ ?_
 refine bh aQ (fun gF db cd aT=> ?_)
 refine cT cd (fun uv lZ fj jw aZ=> ?_)
 refine ws _ ?_
 refine bA h (fun h9 h=> ?_) (fun h9 h=> ?_)
 ·refine ws _ ?_
  exact bj (fj _ (.inl (bl [.str ([116,97,117]:List UInt8),.bool ((ah.length:Int)==0)])))
 ·obtain⟨aT,iw,h⟩:=aX h
  rcases h3 h with⟨gn,h⟩|⟨gn,h⟩
  ·refine jl (p_ gn) (AP a0 _ iw) _ ?_
   refine k3 rfl ?_
   refine ws _ ?_
   exact bj (fj _ (.inl (bl [.str ([]:List UInt8),.bool false])))
  ·rcases h3 h with⟨hh,h⟩|⟨hh,h⟩
   ·refine jl (And.intro (ni gn) hh) (AP a0 _ iw) _ ?_
    refine k3 rfl ?_
    refine ws _ ?_
    exact bj (fj _ (.inl (bl [.str ([]:List UInt8),.bool false])))
   ·obtain⟨aZ,il,h⟩:=aX h
    refine cP (cl [(0,.str a0),(1,.slice (ah.map a7)),(12,.bool (!aZ))] (fun P aC=> ?_) ?_)
    ·simp only[aV.down,simprocAttr,kg.down,(ni gn),hh]
     refine fe (AP a0 _ iw) rfl rfl rfl rfl (.inl (by rfl)) ?_
     simp only[aV.down,simprocAttr,kg.down,(ni gn),hh]
     refine oV (YS ah _ il) rfl rfl rfl rfl (.inl (by rfl)) ?_
     simp only[aV.down,simprocAttr,kg.down,(ni gn),hh]
     (try simp only[bO.down,simprocAttr,a7,(ni gn),hh]at aC⊢);exact aC
    refine bA h (fun iL h=> ?_) (fun iL h=> ?_)
    ·refine ws _ ?_
     exact bj (fj _ (.inl (bl [.str ([]:List UInt8),.bool false])))
    ·refine ws _ ?_
     refine bA h (fun lu h=> ?_) (fun lu h=> ?_)
     ·refine ws _ ?_
      exact bj (fj _ (.inl (bl [.str a0,.bool true])))
     ·refine bH (lZ _ (db _ (.inl ?_)))
      obtain⟨Gy,pj,h⟩:=aX h
      (try simp only[lY.down,Nat.reduceAdd]at pj)
      obtain⟨a6,jn,h⟩:=aX h
      obtain⟨Gy,jI,h⟩:=aX h
      (try simp only[lY.down,Nat.reduceAdd]at jI)
      obtain⟨Gy,nx,h⟩:=aX h
      (try simp only[lY.down,Nat.reduceAdd]at nx)
      refine cP (cl [(4,.str (((a0++([40]:List UInt8))++a6)++([41]:List UInt8))),(5,.bool true)] (fun P aC=> ?_) ?_)
      ·simp only[aV.down,simprocAttr,a7,pj,p4,p5,jI,nx]
       refine fe (YW ah ([44]:List UInt8) _ jn) rfl rfl rfl rfl (.inl (by rfl)) ?_
       simp only[aV.down,simprocAttr,a7,pj,p4,p5,jI,nx]
       (try simp only[bO.down,simprocAttr,a7,pj,p4,p5,jI,nx]at aC⊢);exact aC
      exact bj (aQ _ (.inl (bl [.str (((a0++([40]:List UInt8))++a6)++([41]:List UInt8)),.bool true])))
theorem YY (a0:List UInt8) (r:(List UInt8)×(List Int)×Bool) (h:wN a0=some r):bq aP 179 [.str a0] (.tuple [.str r.1,.aE 1 (r.2.1.map a7),.bool r.2.2]) []:=by
 refine cJ [0] [.tmp 2,.tmp 3,.tmp 4] Tryz.func179 TH (fun ch aQ cp=> ?_)
 refine ws _ ?_
 obtain⟨aI,aK,h⟩:=aX h
 refine fz (Yx a0 ([40]:List UInt8) _ aK) _ ?_
 refine ws _ ?_
 have uG:∀(nn:List Int),ui a0 aI nn=some r→b1 aP FA ch (J [(0,.str a0),(5,.str aI.1),(8,.aE 1 (nn.map a7))]):=by
  intro nn h
  refine bh aQ (fun hJ eX fk cw=> ?_)
  obtain⟨aT,gC,h⟩:=aX h
  refine cP (cl [(0,.str a0),(5,.str aI.1),(8,.aE 1 (nn.map a7)),(10,.str aT.1),(11,.bool aT.2)] (fun P aC=> ?_) ?_)
  ·simp only[aV.down,simprocAttr,a7]
   refine fe (YX aI.1 nn _ gC) rfl rfl (by simp only[aV.down,simprocAttr,a7,fZ,f_,ga,fI, @gV _ a7 a7 (fun _=>qv _)]<;>rfl) rfl (.inr (by rfl)) ?_
   simp only[aV.down,simprocAttr,a7]
   (try simp only[bO.down,simprocAttr,a7]at aC⊢);exact aC
  refine cP (cl [(5,.str aI.1),(8,.aE 1 (nn.map a7)),(40,.bool ((!aT.2)||(!(aT.1==a0))))] (fun P aC=> ?_) ?_)
  ·rcases Bool.eq_false_or_eq_true (aT.2)with uI|uI
   ·simp only[aV.down,simprocAttr,a7,uI]
    (try simp only[bO.down,simprocAttr,a7,uI]at aC⊢);exact aC
   ·simp only[aV.down,simprocAttr,a7,uI]
    (try simp only[bO.down,simprocAttr,a7,uI]at aC⊢);exact aC
  refine bA h (fun iO h=> ?_) (fun iO h=> ?_)
  ·refine ws _ ?_
   exact bj (fk _ (.inr ⟨[(2,.str ([]:List UInt8)),(3,.aE 1 []),(4,.bool false)],k4 [] rfl (iD rfl (k6 (t:=3) (d:=.bD) rfl rfl (.ib _) (by decide) (iD rfl (k5)))),bl [.str ([]:List UInt8),.aE 1 [],.bool false]⟩))
  ·refine bH (eX _ (.inl ?_))
   refine ws _ ?_
   exact bj (aQ _ (.inl (bl [.str aI.1,.aE 1 (nn.map a7),.bool true])))
 refine bh aQ (fun lr gY e9 b5=> ?_)
 refine ws _ ?_
 refine bA h (fun iL h=> ?_) (fun iL h=> ?_)
 ·refine ws _ ?_
  obtain⟨aZ,ki,h⟩:=aX h
  obtain⟨a6,oj,h⟩:=aX h
  obtain⟨b5,nw,h⟩:=aX h
  refine cP (cl [(0,.str a0),(5,.str aI.1),(8,.aE 1 (b5.1.map a7)),(9,.bool b5.2)] (fun P aC=> ?_) ?_)
  ·simp only[aV.down,simprocAttr,cG.down]
   refine fe (YA aI.2.1 ([41]:List UInt8) _ ki) rfl rfl rfl rfl (.inl (by rfl)) ?_
   simp only[aV.down,simprocAttr,cG.down]
   refine fe (YK aZ ([44]:List UInt8) _ oj) rfl rfl rfl rfl (.inl (by rfl)) ?_
   simp only[aV.down,simprocAttr,cG.down]
   refine fe (YM a6 _ nw) rfl rfl (by simp only[aV.down,simprocAttr,cG.down,fZ,f_,ga,fI, @gV _ aL aL (fun _=>jk _)]<;>rfl) rfl (.inr (by simp only[I.di,I.ku, @vL _ a7 (fun _=>MS _),Bool.and_self])) ?_
   simp only[aV.down,simprocAttr,cG.down]
   (try simp only[bO.down,simprocAttr,cG.down]at aC⊢);exact aC
  refine ws _ ?_
  refine bA h (fun sr h=> ?_) (fun sr h=> ?_)
  ·refine ws _ ?_
   exact bj (e9 _ (.inr ⟨[(2,.str ([]:List UInt8)),(3,.aE 1 []),(4,.bool false)],k4 [] rfl (iD rfl (k6 (t:=3) (d:=.bD) rfl rfl (.ib _) (by decide) (iD rfl (k5)))),bl [.str ([]:List UInt8),.aE 1 [],.bool false]⟩))
  ·exact bH (gY _ (.inr ⟨_,bX rfl,uG b5.1 h⟩))
 ·exact bH (gY _ (.inr ⟨_,k4 [] rfl (iD (t:=0) (d:=.str a0) rfl (iD (t:=5) (d:=.str aI.1) rfl (k6 (t:=8) (d:=.bD) (aY:=.aE 1 []) rfl rfl (.ib _) (by decide) (k5)))),uG [] h⟩))
theorem YZ (a0:List UInt8) (r:Bool) (h:qj a0=some r):bq aP 125 [.str a0] (.bool r) []:=by
 refine cJ [0] [.tmp 2] Tryz.func125 TL (fun ch aQ cp=> ?_)
 refine ws _ ?_
 obtain⟨aI,aK,h⟩:=aX h
 refine fz (YY a0 _ aK) _ ?_
 refine ws _ ?_
 exact bj (aQ _ (.inl (bl [.bool aI.2.2])))
theorem Y0 (a0:List UInt8) (r:Bool) (h:zY a0=some r):bq aP 124 [.str a0] (.bool r) []:=by
 refine cJ [0] [.tmp 2] Tryz.func124 TN (fun ch aQ cp=> ?_)
 refine ws _ ?_
 obtain⟨aI,aK,h⟩:=aX h
 refine fz (YZ a0 _ aK) _ ?_
 exact bj (aQ _ (.inl (bl [.bool (!aI)])))
theorem Y1 (a0:List (List UInt8)) (r:Int) (h:zZ a0=some r):bq aP 178 [.slice (a0.map aL),.fn 124 []] (.int .i64 r) []:=by
 refine cJ [0,1] [.tmp 4] Tryz.func178 TY (fun ch aQ cp=> ?_)
 refine ws _ ?_
 refine bh aQ (fun gF db cd aT=> ?_)
 refine ws _ ?_
 refine cT cd (fun gI fW dt cY a6=> ?_)
 have kh:∀(n:Nat) (dX:Int),qk a0 n dX=some r→fc aP FB gI (J [(0,.slice (a0.map aL)),(1,.fn 124 []),(7,.int .i64 (a0.length:Int)),(8,.int .i64 dX)]):=by
  intro m6
  induction m6 with
  |zero=>intro dX h;cases(show none=some r from h)
  |succ m6 jH=>
   intro dX h
   replace h:wO (qk a0 m6) a0 dX=some r:=h
   refine gj dt (fun lr gY e9 b5=> ?_)
   refine ws _ ?_
   refine bh e9 (fun lp fV gB cn=> ?_)
   refine bA h (fun ey h=> ?_) (fun ey h=> ?_)
   ·refine bH (fV _ (.inl ?_))
    refine bh e9 (fun h1 eN eu d_=> ?_)
    refine cT eu (fun jF e1 gm gn fK=> ?_)
    refine ws _ ?_
    obtain⟨aI,eJ,h⟩:=aX h
    obtain⟨aT,il,h⟩:=aX h
    refine jl eJ (Y0 aI _ il) _ ?_
    refine bA h (fun iL h=> ?_) (fun iL h=> ?_)
    ·refine ws _ ?_
     exact bj (gm _ (.inl (bl [.int .i64 dX])))
    ·refine bH (e1 _ (eN _ (.inl ?_)))
     refine wr _ ?_
     exact gY _ (.inr ⟨_,bX rfl,jH (IntKind.i64.wrap (dX+1)) h⟩)
   ·refine gg (cn 0 _ (b5 0 _ (cY _ (db _ (.inl ?_)))))
    refine ws _ ?_
    exact bj (aQ _ (.inl (bl [.int .i64 (-1)])))
 obtain⟨n,h⟩:=gb h
 exact gh (.inr ⟨_,bX rfl,kh n 0 h⟩)
theorem Y2 (a0:List (List UInt8)) (r:Bool) (h:z1 a0=some r):bq aP 123 [.slice (a0.map aL),.fn 124 []] (.bool r) []:=by
 refine cJ [0,1] [.tmp 4] Tryz.func123 T1 (fun ch aQ cp=> ?_)
 refine ws _ ?_
 obtain⟨aI,aK,h⟩:=aX h
 refine fz (Y1 a0 _ aK) _ ?_
 exact bj (aQ _ (.inl (bl [.bool (decide (0≤aI))])))
theorem Y3 (a0:List (List UInt8)) (r:Bool) (h:wP a0=some r):bq aP 83 [.slice (a0.map aL)] (.bool r) []:=by
 refine cJ [0] [.tmp 2] Tryz.func83 T4 (fun ch aQ cp=> ?_)
 refine ws _ ?_
 obtain⟨aI,aK,h⟩:=aX h
 refine fz (Y2 a0 _ aK) _ ?_
 exact bj (aQ _ (.inl (bl [.bool (!aI)])))
theorem Y4 (a0:Int) (r:Bool) (h:z6 a0=some r):bq aP 85 [.int .i64 a0] (.bool r) []:=by
 refine cJ [0] [.tmp 2] Tryz.func85 T6 (fun ch aQ cp=> ?_)
 refine ws _ ?_
 obtain⟨aI,aK,h⟩:=aX h
 refine fz (Gx a0 0 3 _ aK) _ ?_
 exact bj (aQ _ (.inl (bl [.bool (!aI)])))
theorem Y5 (a0:List Int) (r:Int) (h:z7 a0=some r):bq aP 126 [.slice (a0.map a7),.fn 85 []] (.int .i64 r) []:=by
 refine cJ [0,1] [.tmp 4] Tryz.func126 Ug (fun ch aQ cp=> ?_)
 refine ws _ ?_
 refine bh aQ (fun gF db cd aT=> ?_)
 refine ws _ ?_
 refine cT cd (fun gI fW dt cY a6=> ?_)
 have kh:∀(n:Nat) (dX:Int),ql a0 n dX=some r→fc aP FC gI (J [(0,.slice (a0.map a7)),(1,.fn 85 []),(7,.int .i64 (a0.length:Int)),(8,.int .i64 dX)]):=by
  intro m6
  induction m6 with
  |zero=>intro dX h;cases(show none=some r from h)
  |succ m6 jH=>
   intro dX h
   replace h:wQ (ql a0 m6) a0 dX=some r:=h
   refine gj dt (fun lr gY e9 b5=> ?_)
   refine ws _ ?_
   refine bh e9 (fun lp fV gB cn=> ?_)
   refine bA h (fun ey h=> ?_) (fun ey h=> ?_)
   ·refine bH (fV _ (.inl ?_))
    refine bh e9 (fun h1 eN eu d_=> ?_)
    refine cT eu (fun jF e1 gm gn fK=> ?_)
    refine ws _ ?_
    obtain⟨aI,eJ,h⟩:=aX h
    obtain⟨aT,il,h⟩:=aX h
    refine jl eJ (Y4 aI _ il) _ ?_
    refine bA h (fun iL h=> ?_) (fun iL h=> ?_)
    ·refine ws _ ?_
     exact bj (gm _ (.inl (bl [.int .i64 dX])))
    ·refine bH (e1 _ (eN _ (.inl ?_)))
     refine wr _ ?_
     exact gY _ (.inr ⟨_,bX rfl,jH (IntKind.i64.wrap (dX+1)) h⟩)
   ·refine gg (cn 0 _ (b5 0 _ (cY _ (db _ (.inl ?_)))))
    refine ws _ ?_
    exact bj (aQ _ (.inl (bl [.int .i64 (-1)])))
 obtain⟨n,h⟩:=gb h
 exact gh (.inr ⟨_,bX rfl,kh n 0 h⟩)
theorem Y6 (a0:List Int) (r:Bool) (h:wR a0=some r):bq aP 84 [.slice (a0.map a7),.fn 85 []] (.bool r) []:=by
 refine cJ [0,1] [.tmp 4] Tryz.func84 Uj (fun ch aQ cp=> ?_)
 refine ws _ ?_
 obtain⟨aI,aK,h⟩:=aX h
 refine fz (Y5 a0 _ aK) _ ?_
 exact bj (aQ _ (.inl (bl [.bool (decide (0≤aI))])))
theorem Y7 (a0:List (List UInt8)) (ah:List Int) (r:Int) (h:wS a0 ah=some r):bq aP 51 [.slice (a0.map aL),.slice (ah.map a7)] (.int .i64 r) []:=by
 refine cJ [0,1] [.tmp 4] Tryz.func51 Ur (fun ch aQ cp=> ?_)
 refine ws _ ?_
 refine bh aQ (fun gF db cd aT=> ?_)
 refine cT cd (fun uv lZ fj jw aZ=> ?_)
 rcases h3 h with⟨h9,h⟩|⟨h9,h⟩
 ·refine gl h9 _ ?_
  refine k3 rfl ?_
  refine ws _ ?_
  exact bj (fj _ (.inl (bl [.int .i64 2])))
 ·obtain⟨aI,bn,h⟩:=aX h
  refine cP (cl [(1,.slice (ah.map a7)),(5,.bool (!aI))] (fun P aC=> ?_) ?_)
  ·simp only[aV.down,simprocAttr,hc,nj,a7,aL,h9]
   refine oV (Y3 a0 _ bn) rfl rfl rfl rfl (.inl (by rfl)) ?_
   simp only[aV.down,simprocAttr,hc,nj,a7,aL,h9]
   (try simp only[bO.down,simprocAttr,cG.down,h9]at aC⊢);exact aC
  refine bA h (fun ey h=> ?_) (fun ey h=> ?_)
  ·refine ws _ ?_
   exact bj (fj _ (.inl (bl [.int .i64 2])))
  ·rcases h3 h with⟨iO,h⟩|⟨iO,h⟩
   ·refine gl iO _ ?_
    refine k3 rfl ?_
    refine ws _ ?_
    exact bj (fj _ (.inl (bl [.int .i64 7])))
   ·obtain⟨aT,eJ,h⟩:=aX h
    refine cP (cl [(14,.bool aT)] (fun P aC=> ?_) ?_)
    ·simp only[aV.down,simprocAttr,kg.down,iO]
     refine oV (Y6 ah _ eJ) rfl rfl rfl rfl (.inl (by rfl)) ?_
     simp only[aV.down,simprocAttr,kg.down,iO]
     (try simp only[bO.down,simprocAttr,a7,iO]at aC⊢);exact aC
    refine bA h (fun pf h=> ?_) (fun pf h=> ?_)
    ·refine ws _ ?_
     exact bj (fj _ (.inl (bl [.int .i64 7])))
    ·refine bH (lZ _ (db _ (.inl ?_)))
     refine ws _ ?_
     exact bj (aQ _ (.inl (bl [.int .i64 0])))
theorem Gz (dV:Int) (eE:Int) (el:Int) (dW:Int) (et:Int) (ah:Int) (r:Int×Int×Int×Int×Int) (h:uj dV eE el dW et ah=some r):bq aP 127 [.a_ (.agg [.int .i64 dV,.int .i64 eE,.int .i64 el,.int .i64 dW,.int .i64 et]),.int .i64 ah] (.tuple []) [.a_ (.agg [.int .i64 r.1,.int .i64 r.2.1,.int .i64 r.2.2.1,.int .i64 r.2.2.2.1,.int .i64 r.2.2.2.2]),.hole]:=by
 refine cJ [0,1] [] Tryz.func127 Us (fun ch aQ cp=> ?_)
 refine je (cl [(0,.a_ (.agg [.int .i64 dV,.int .i64 (eA true eE ah),.int .i64 el,.int .i64 dW,.int .i64 et]))] (fun P aC=> ?_) ?_)
 ·simp only[aV.down,simprocAttr,fJ,jD, @vU,vV]
  (try simp only[bO.down,simprocAttr, @vU,vV]at aC⊢);exact aC
 exact cp _ (.inl (ky [] rfl (by cases fM h;rfl) (by decide) (k8 (k9 (by cases fM h;rfl) rfl rfl rfl (hH (k_))))))
theorem xq (dV:Int) (eE:Int) (el:Int) (dW:Int) (et:Int) (ah:Int) (r:Int×Int×Int×Int×Int×Int) (h:qn dV eE el dW et ah=some r):bq aP 128 [.a_ (.agg [.int .i64 dV,.int .i64 eE,.int .i64 el,.int .i64 dW,.int .i64 et]),.int .i64 ah] (.int .i64 r.1) [.a_ (.agg [.int .i64 r.2.1,.int .i64 r.2.2.1,.int .i64 r.2.2.2.1,.int .i64 r.2.2.2.2.1,.int .i64 r.2.2.2.2.2]),.hole]:=by
 refine cJ [0,1] [.tmp 4] Tryz.func128 Ux (fun ch aQ cp=> ?_)
 refine ws _ ?_
 have GA:∀(qm:Int),wT dV eE dW et qm=some r→b1 aP FD ch (J [(0,.a_ (.agg [.int .i64 dV,.int .i64 eE,.int .i64 qm,.int .i64 dW,.int .i64 et]))]):=by
  intro qm h
  refine ws _ ?_
  exact bj (aQ _ (.inl (ky [.int .i64 qm] rfl (by cases fM h;rfl) (by decide) (k8 (k9 (by cases fM h;rfl) rfl rfl rfl (hH (k_)))))))
 refine bh aQ (fun gF db cd aT=> ?_)
 refine ws _ ?_
 refine bA h (fun h9 h=> ?_) (fun h9 h=> ?_)
 ·refine wr _ ?_
  exact db _ (.inr ⟨_,bX rfl,GA (IntKind.i64.wrap (el+1)) h⟩)
 ·exact bH (db _ (.inr ⟨_,bX rfl,GA el h⟩))
theorem Y8 (dV:Int) (eE:Int) (el:Int) (dW:Int) (et:Int) (ah:Int) (a2:Int) (r:Int×Int×Int×Int×Int) (h:wW dV eE el dW et ah a2=some r):bq aP 87 [.a_ (.agg [.int .i64 dV,.int .i64 eE,.int .i64 el,.int .i64 dW,.int .i64 et]),.int .i64 ah,.int .i64 a2] (.tuple []) [.a_ (.agg [.int .i64 r.1,.int .i64 r.2.1,.int .i64 r.2.2.1,.int .i64 r.2.2.2.1,.int .i64 r.2.2.2.2]),.hole,.hole]:=by
 refine cJ [0,1,2] [] Tryz.func87 UY (fun ch aQ cp=> ?_)
 refine ws _ ?_
 obtain⟨aI,aK,h⟩:=aX h
 refine cP (cl [(0,.a_ (.agg [.int .i64 aI.1,.int .i64 aI.2.1,.int .i64 aI.2.2.1,.int .i64 aI.2.2.2.1,.int .i64 aI.2.2.2.2])),(1,.int .i64 ah),(2,.int .i64 a2),(6,.int .i64 (-1))] (fun P aC=> ?_) ?_)
 ·simp only[aV.down,simprocAttr,fJ,jD]
  refine k7 [⟨.h 0 [],true,_,_⟩,⟨.int .i64 et,false,_,.hole⟩] (Gz dV eE el dW et et _ aK) rfl rfl rfl (by simp only[aV.down,simprocAttr,fJ,jD,jC,j2,j3,fZ,f_,ga,fI,or_true,true_or]) rfl rfl (.inl rfl) ?_
  simp only[aV.down,simprocAttr,fJ,jD,j4]
  (try simp only[bO.down,simprocAttr]at aC⊢);exact aC
 have sl:∀(jj:Int) (fU:Int) (kc:Int) (wU:Int) (wV:Int) (gW:Int),od ah a2 jj fU kc wU wV gW=some r→b1 aP FF ch (J [(0,.a_ (.agg [.int .i64 jj,.int .i64 fU,.int .i64 kc,.int .i64 wU,.int .i64 wV])),(1,.int .i64 ah),(2,.int .i64 a2),(6,.int .i64 gW)]):=by
  intro jj fU kc wU wV gW h
  refine ws _ ?_
  have uJ:∀(n9:Int) (n_:Int) (oa:Int) (ob:Int) (o9:Int) (oc:Int),o8 a2 n9 n_ oa ob o9 oc=some r→b1 aP FE ch (J [(0,.a_ (.agg [.int .i64 n9,.int .i64 n_,.int .i64 oa,.int .i64 ob,.int .i64 o9])),(2,.int .i64 a2),(6,.int .i64 oc)]):=by
   intro n9 n_ oa ob o9 oc h
   refine cT aQ (fun lp fV gB vj cn=> ?_)
   refine ws _ ?_
   refine bA h (fun uw h=> ?_) (fun uw h=> ?_)
   ·exact bH (fV _ (cp _ (.inl (ky [] rfl (by cases fM h;rfl) (by decide) (k8 (k9 (by cases fM h;rfl) rfl rfl rfl (hH (hH (k_)))))))))
   ·refine ws _ ?_
    refine bA h (fun iO h=> ?_) (fun iO h=> ?_)
    ·refine wr _ ?_
     exact fV _ (cp _ (.inl (ky [] rfl (by cases fM h;rfl) (by decide) (k8 (k9 (by cases fM h;rfl) rfl rfl rfl (hH (hH (k_))))))))
    ·refine ws _ ?_
     refine bA h (fun pf h=> ?_) (fun pf h=> ?_)
     ·obtain⟨aT,iP,h⟩:=aX h
      refine je (cl [(0,.a_ (.agg [.int .i64 aT.1,.int .i64 aT.2.1,.int .i64 aT.2.2.1,.int .i64 aT.2.2.2.1,.int .i64 aT.2.2.2.2]))] (fun P aC=> ?_) ?_)
      ·simp only[aV.down,simprocAttr]
       refine k7 [⟨.h 0 [],true,_,_⟩,⟨.int .i64 oc,false,_,.hole⟩] (Gz n9 n_ oa ob o9 oc _ iP) rfl rfl rfl (by simp only[aV.down,simprocAttr,jC,j2,j3,fZ,f_,ga,fI,or_true,true_or]) rfl rfl (.inl rfl) ?_
       simp only[aV.down,simprocAttr,j4]
       (try simp only[bO.down,simprocAttr]at aC⊢);exact aC
      exact fV _ (cp _ (.inl (ky [] rfl (by cases fM h;rfl) (by decide) (k8 (k9 (by cases fM h;rfl) rfl rfl rfl (hH (hH (k_))))))))
     ·exact bH (fV _ (cp _ (.inl (ky [] rfl (by cases fM h;rfl) (by decide) (k8 (k9 (by cases fM h;rfl) rfl rfl rfl (hH (hH (k_)))))))))
  refine bh aQ (fun hJ eX fk cw=> ?_)
  refine nf rfl (lS [(0,.a_ (.agg [.int .i64 jj,.int .i64 fU,.int .i64 kc,.int .i64 (-1),.int .i64 (-1)])),(1,.int .i64 ah),(2,.int .i64 a2),(6,.int .i64 gW),(39,.bool (decide (fU<jj)))] (fun P aC=> ?_) ?_)
  ·simp only[hV.down,simprocAttr,fJ,jD]
   refine⟨lb (by kernel_rfl),?_⟩
   (try simp only[bO.down,simprocAttr]at aC⊢);exact aC
  refine bA h (fun lu h=> ?_) (fun lu h=> ?_)
  ·refine ws _ ?_
   refine cT fk (fun Xz qG FW qH ln=> ?_)
   refine ws _ ?_
   refine bA h (fun sr h=> ?_) (fun sr h=> ?_)
   ·obtain⟨aZ,nx,h⟩:=aX h
    refine je (cl [(0,.a_ (.agg [.int .i64 aZ.2.1,.int .i64 aZ.2.2.1,.int .i64 aZ.2.2.2.1,.int .i64 aZ.2.2.2.2.1,.int .i64 aZ.2.2.2.2.2])),(2,.int .i64 a2),(6,.int .i64 aZ.1)] (fun P aC=> ?_) ?_)
    ·simp only[aV.down,simprocAttr,fJ,jD]
     refine k7 [⟨.h 0 [],true,_,_⟩,⟨.int .i64 fU,false,_,.hole⟩] (xq jj fU kc (-1) (-1) fU _ nx) rfl rfl rfl (by simp only[aV.down,simprocAttr,fJ,jD,jC,j2,j3,fZ,f_,ga,fI,or_true,true_or]) rfl rfl (.inl rfl) ?_
     simp only[aV.down,simprocAttr,fJ,jD,j4]
     (try simp only[bO.down,simprocAttr]at aC⊢);exact aC
    exact qG _ (eX _ (.inr ⟨_,bX rfl,uJ aZ.2.1 aZ.2.2.1 aZ.2.2.2.1 aZ.2.2.2.2.1 aZ.2.2.2.2.2 aZ.1 h⟩))
   ·refine ws _ ?_
    refine bA h (fun xd h=> ?_) (fun xd h=> ?_)
    ·refine ws _ ?_
     obtain⟨a6,Y9,h⟩:=aX h
     refine cP (cl [(0,.a_ (.agg [.int .i64 a6.2.1,.int .i64 a6.2.2.1,.int .i64 a6.2.2.2.1,.int .i64 a6.2.2.2.2.1,.int .i64 a6.2.2.2.2.2])),(2,.int .i64 a2),(7,.int .i64 fU)] (fun P aC=> ?_) ?_)
     ·simp only[aV.down,simprocAttr]
      refine k7 [⟨.h 0 [],true,_,_⟩,⟨.int .i64 fU,false,_,.hole⟩] (xq jj fU kc (-1) (-1) fU _ Y9) rfl rfl rfl (by simp only[aV.down,simprocAttr,jC,j2,j3,fZ,f_,ga,fI,or_true,true_or]) rfl rfl (.inl rfl) ?_
      simp only[aV.down,simprocAttr,j4]
      (try simp only[bO.down,simprocAttr]at aC⊢);exact aC
     obtain⟨b5,AK,h⟩:=aX h
     refine je (cl [(0,.a_ (.agg [.int .i64 b5.2.1,.int .i64 b5.2.2.1,.int .i64 b5.2.2.2.1,.int .i64 b5.2.2.2.2.1,.int .i64 b5.2.2.2.2.2])),(2,.int .i64 a2),(6,.int .i64 b5.1)] (fun P aC=> ?_) ?_)
     ·simp only[aV.down,simprocAttr]
      refine k7 [⟨.h 0 [],true,_,_⟩,⟨.int .i64 fU,false,_,.hole⟩] (xq a6.2.1 a6.2.2.1 a6.2.2.2.1 a6.2.2.2.2.1 a6.2.2.2.2.2 fU _ AK) rfl rfl rfl (by simp only[aV.down,simprocAttr,jC,j2,j3,fZ,f_,ga,fI,or_true,true_or]) rfl rfl (.inl rfl) ?_
      simp only[aV.down,simprocAttr,j4]
      (try simp only[bO.down,simprocAttr]at aC⊢);exact aC
     exact qG _ (eX _ (.inr ⟨_,bX rfl,uJ b5.2.1 b5.2.2.1 b5.2.2.2.1 b5.2.2.2.2.1 b5.2.2.2.2.2 b5.1 h⟩))
    ·refine ws _ ?_
     refine bA h (fun xn h=> ?_) (fun xn h=> ?_)
     ·refine wr _ ?_
      exact qG _ (eX _ (.inr ⟨_,bX rfl,uJ jj fU kc fU (-1) gW h⟩))
     ·exact bH (qG _ (eX _ (.inr ⟨_,bX rfl,uJ jj fU kc (-1) (-1) gW h⟩)))
  ·exact bH (eX _ (.inr ⟨_,bX rfl,uJ jj fU kc (-1) (-1) gW h⟩))
 refine bh aQ (fun gI fW dt a6=> ?_)
 refine ws _ ?_
 refine bA h (fun qJ h=> ?_) (fun qJ h=> ?_)
 ·obtain⟨cw,qK,h⟩:=aX h
  refine je (cl [(0,.a_ (.agg [.int .i64 cw.2.1,.int .i64 cw.2.2.1,.int .i64 cw.2.2.2.1,.int .i64 cw.2.2.2.2.1,.int .i64 cw.2.2.2.2.2])),(1,.int .i64 ah),(2,.int .i64 a2),(6,.int .i64 cw.1)] (fun P aC=> ?_) ?_)
  ·simp only[aV.down,simprocAttr,fJ,jD]
   refine k7 [⟨.h 0 [],true,_,_⟩,⟨.int .i64 aI.2.2.2.1,false,_,.hole⟩] (xq aI.1 aI.2.1 aI.2.2.1 aI.2.2.2.1 aI.2.2.2.2 aI.2.2.2.1 _ qK) rfl rfl rfl (by simp only[aV.down,simprocAttr,fJ,jD,jC,j2,j3,fZ,f_,ga,fI,or_true,true_or]) rfl rfl (.inl rfl) ?_
   simp only[aV.down,simprocAttr,fJ,jD,j4]
   (try simp only[bO.down,simprocAttr]at aC⊢);exact aC
  exact fW _ (.inr ⟨_,bX rfl,sl cw.2.1 cw.2.2.1 cw.2.2.2.1 cw.2.2.2.2.1 cw.2.2.2.2.2 cw.1 h⟩)
 ·exact bH (fW _ (.inr ⟨_,bX rfl,sl aI.1 aI.2.1 aI.2.2.1 aI.2.2.2.1 aI.2.2.2.2 (-1) h⟩))
theorem Y_ (a0:List (List UInt8)) (ah:List Int) (r:Int×Int×Int×Int×Int×Int) (h:wX a0 ah=some r):bq aP 52 [.slice (a0.map aL),.slice (ah.map a7)] (.tuple [.a_ (.agg [.int .i64 r.1,.int .i64 r.2.1,.int .i64 r.2.2.1,.int .i64 r.2.2.2.1,.int .i64 r.2.2.2.2.1]),.int .i64 r.2.2.2.2.2]) []:=by
 refine cJ [0,1] [.tmp 4,.tmp 5] Tryz.func52 qw (fun ch aQ cp=> ?_)
 refine ws _ ?_
 refine gl (show∀s,dR aP s 96 [(0,.int .i64 (a0.length:Int)),(3,.int .i64 (-1)),(4,.int .i64 (-1))]=some (.agg [.int .i64 (a0.length:Int),.int .i64 0,.int .i64 0,.int .i64 (-1),.int .i64 (-1)],s)from fun s=>by kernel_rfl) _ ?_
 refine ws _ ?_
 refine ws _ ?_
 refine cT aQ (fun lr gY e9 h9 b5=> ?_)
 have Za:∀(n:Nat) (kd:Int) (ke:Int) (lj:Int) (lk:Int) (ll:Int) (kJ:Int) (kf:Int),iK ah n kd ke lj lk ll kJ kf=some r→fc aP FH lr (J [(1,.slice (ah.map a7)),(6,.a_ (.agg [.int .i64 kd,.int .i64 ke,.int .i64 lj,.int .i64 lk,.int .i64 ll])),(7,.int .i64 kJ),(8,.int .i64 kf)]):=by
  intro m9
  induction m9 with
  |zero=>intro kd ke lj lk ll kJ kf h;cases(show none=some r from h)
  |succ m9 Zb=>
   intro kd ke lj lk ll kJ kf h
   replace h:qo (iK ah m9) ah kd ke lj lk ll kJ kf=some r:=h
   refine gj e9 (fun hJ eX fk cw=> ?_)
   refine bh fk (fun lp fV gB cn=> ?_)
   refine cT gB (fun jG h2 iM ey hf=> ?_)
   have GB:∀(o_:Int) (pa:Int) (pb:Int) (pc:Int) (pd:Int) (oe:Int) (np:Int),lh (iK ah m9) ah o_ pa pb pc pd oe np=some r→b1 aP FG jG (J [(1,.slice (ah.map a7)),(6,.a_ (.agg [.int .i64 o_,.int .i64 pa,.int .i64 pb,.int .i64 pc,.int .i64 pd])),(7,.int .i64 oe),(8,.int .i64 np)]):=by
    intro o_ pa pb pc pd oe np h
    refine bh iM (fun jF e1 gm fK=> ?_)
    refine ws _ ?_
    refine bA h (fun hh h=> ?_) (fun hh h=> ?_)
    ·refine ws _ ?_
     exact bj (gm _ (.inl (bl [.a_ (.agg [.int .i64 o_,.int .i64 pa,.int .i64 pb,.int .i64 pc,.int .i64 pd]),.int .i64 oe])))
    ·refine bH (e1 _ (.inl ?_))
     obtain⟨aI,gA,h⟩:=aX h
     obtain⟨aT,iP,h⟩:=aX h
     obtain⟨aZ,hs,h⟩:=aX h
     refine DY rfl (lS [(1,.slice (ah.map a7)),(6,.a_ (.agg [.int .i64 aZ.1,.int .i64 aZ.2.1,.int .i64 aZ.2.2.1,.int .i64 aZ.2.2.2.1,.int .i64 aZ.2.2.2.2])),(7,.int .i64 oe),(8,.int .i64 np)] (fun P aC=> ?_) ?_)
     ·simp only[hV.down,simprocAttr,kg.down,gA,iP]
      refine Ey [⟨.h 6 [],true,_,_⟩,⟨.int .i64 aI,false,_,.hole⟩,⟨.int .i64 aT,false,_,.hole⟩] (Y8 o_ pa pb pc pd aI aT _ hs) rfl rfl rfl (by simp only[hV.down,simprocAttr,kg.down,gA,iP,jC,j2,j3,fZ,f_,ga,fI,or_true,true_or]) rfl rfl (.inl rfl) ?_
      simp only[hV.down,simprocAttr,kg.down,gA,iP,j4]
      refine⟨lb (by kernel_rfl),?_⟩
      (try simp only[bO.down,simprocAttr,a7,gA,iP]at aC⊢);exact aC
     refine h2 _ (fV _ (.inl ?_))
     refine wr _ ?_
     exact eX _ (.inr ⟨_,bX rfl,Zb aZ.1 aZ.2.1 aZ.2.2.1 aZ.2.2.2.1 aZ.2.2.2.2 oe (IntKind.i64.wrap (np+1)) h⟩)
   refine bh iM (fun h1 eN eu d_=> ?_)
   refine nf rfl (lS [(1,.slice (ah.map a7)),(6,.a_ (.agg [.int .i64 kd,.int .i64 ke,.int .i64 lj,.int .i64 lk,.int .i64 ll])),(7,.int .i64 kJ),(8,.int .i64 kf),(27,.bool ((decide (kJ<0))&&(ke==kd)))] (fun P aC=> ?_) ?_)
   ·rcases Bool.eq_false_or_eq_true (decide (kJ<0))with uK|uK
    ·simp only[hV.down,simprocAttr,fJ,jD,a7,uK]
     refine⟨lb (by kernel_rfl),?_⟩
     (try simp only[bO.down,simprocAttr,a7,uK]at aC⊢);exact aC
    ·simp only[hV.down,simprocAttr,fJ,jD,a7,uK]
     refine⟨lb (by kernel_rfl),?_⟩
     (try simp only[bO.down,simprocAttr,a7,uK]at aC⊢);exact aC
   refine bA h (fun sn h=> ?_) (fun sn h=> ?_)
   ·refine wr _ ?_
    exact eN _ (.inr ⟨_,bX rfl,GB kd ke lj lk ll kf kf h⟩)
   ·exact bH (eN _ (.inr ⟨_,bX rfl,GB kd ke lj lk ll kJ kf h⟩))
 obtain⟨n,h⟩:=gb h
 exact gh (.inr ⟨_,bX rfl,Za n (a0.length:Int) 0 0 (-1) (-1) (-1) 0 h⟩)
theorem Zc (a0:List (List UInt8)) (r:(List (List UInt8))) (h:wY a0=some r):bq aP 57 [.slice (a0.map aL)] (.aE 1 (r.map aL)) []:=by
 refine cJ [0] [.tmp 2] Tryz.func57 Ve (fun ch aQ cp=> ?_)
 refine ws _ ?_
 refine bh aQ (fun gF db cd aT=> ?_)
 rcases h3 h with⟨cY,h⟩|⟨cY,h⟩
 ·refine cP (cl [(0,.slice (a0.map aL)),(4,.dk)] (fun P aC=> ?_) ?_)
  ·simp only[aV.down,simprocAttr,jm.down,vP,(Ez cY),vQ]
   (try simp only[bO.down,simprocAttr,aL,vP,(Ez cY),vQ]at aC⊢);exact aC
  obtain⟨ba,h⟩:=HF h
  refine LJ rfl ?_ ?_
  ·replace h:=ba
   refine ws _ ?_
   exact bj (cd _ (.inr ⟨[(2,.aE 1 [])],k4 [] rfl (k6 (t:=2) (d:=.bD) rfl rfl (.ib _) (by decide) (k5)),bl [.aE 1 []]⟩))
  ·refine bH (db _ (.inl ?_))
   obtain⟨u8,gC,h⟩:=aX h
   (try simp only[lY.down,Nat.reduceAdd]at gC)
   refine cP (cl [(2,.aE 1 (a0.map aL))] (fun P aC=> ?_) ?_)
   ·simp only[aV.down,simprocAttr,jm.down,(show∀s,cX aP s 22 0 []=some (.aE 1 [],s)from fun s=>by kernel_rfl), @kz aP 22 22 9 rfl rfl,kA,kB,kC,all_cons,all_nil,gC, @jf _ aL 1 (fun _=>rfl)]
    (try simp only[bO.down,simprocAttr,aL,(show∀s,cX aP s 22 0 []=some (.aE 1 [],s)from fun s=>by kernel_rfl), @kz aP 22 22 9 rfl rfl,kA,kB,kC,all_cons,all_nil,gC, @jf _ aL 1 (fun _=>rfl)]at aC⊢);exact aC
   exact bj (aQ _ (.inl (bl [.aE 1 (a0.map aL)])))
 ·refine cP (cl [(0,.slice (a0.map aL)),(4,.bool false)] (fun P aC=> ?_) ?_)
  ·simp only[aV.down,simprocAttr,jm.down,vP,(EA cY),vQ]
   (try simp only[bO.down,simprocAttr,aL,vP,(EA cY),vQ]at aC⊢);exact aC
  refine rM rfl ?_
  refine bH (db _ (.inl ?_))
  obtain⟨aci,ix,h⟩:=aX h
  (try simp only[lY.down,Nat.reduceAdd]at ix)
  refine cP (cl [(2,.aE 1 (a0.map aL))] (fun P aC=> ?_) ?_)
  ·simp only[aV.down,simprocAttr,jm.down,(show∀s,cX aP s 22 0 []=some (.aE 1 [],s)from fun s=>by kernel_rfl), @kz aP 22 22 9 rfl rfl,kA,kB,kC,all_cons,all_nil,ix, @jf _ aL 1 (fun _=>rfl)]
   (try simp only[bO.down,simprocAttr,aL,(show∀s,cX aP s 22 0 []=some (.aE 1 [],s)from fun s=>by kernel_rfl), @kz aP 22 22 9 rfl rfl,kA,kB,kC,all_cons,all_nil,ix, @jf _ aL 1 (fun _=>rfl)]at aC⊢);exact aC
  exact bj (aQ _ (.inl (bl [.aE 1 (a0.map aL)])))
theorem GC (a0:List (List UInt8)) (ah:List Int) (r:(List (List UInt8))×Int×Int) (h:uk a0 ah=some r):bq aP 24 [.slice (a0.map aL),.slice (ah.map a7)] (.tuple [.aE 1 (r.1.map aL),.int .i64 r.2.1,.int .i64 r.2.2]) []:=by
 refine cJ [0,1] [.tmp 4,.tmp 5,.tmp 6] Tryz.func24 Vl (fun ch aQ cp=> ?_)
 refine ws _ ?_
 refine bh aQ (fun gF db cd aT=> ?_)
 obtain⟨aI,b0,h⟩:=aX h
 refine fz (Y7 a0 ah _ b0) _ ?_
 refine ws _ ?_
 refine bA h (fun fH h=> ?_) (fun fH h=> ?_)
 ·refine ws _ ?_
  exact bj (cd _ (.inr ⟨[(4,.aE 1 []),(5,.int .i64 0),(6,.int .i64 aI)],k4 [] rfl (k6 (t:=4) (d:=.bD) rfl rfl (.ib _) (by decide) (iD rfl (iD rfl (k5)))),bl [.aE 1 [],.int .i64 0,.int .i64 aI]⟩))
 ·refine bH (db _ (.inl ?_))
  obtain⟨aT,iw,h⟩:=aX h
  refine fz (Y_ a0 ah _ iw) _ ?_
  obtain⟨aZ,kS,h⟩:=aX h
  obtain⟨a6,hx,h⟩:=aX h
  refine nf rfl (lS [(4,.aE 1 (a6.map aL)),(5,.int .i64 aT.2.1),(6,.int .i64 0)] (fun P aC=> ?_) ?_)
  ·simp only[hV.down,simprocAttr,fJ,hc,nj,jD,aL,kS, @jf _ aL 1 (fun _=>rfl)]
   refine zp (Zc aZ _ hx) rfl rfl rfl rfl (.inl (by rfl)) ?_
   simp only[hV.down,simprocAttr,fJ,hc,nj,jD,aL,kS, @jf _ aL 1 (fun _=>rfl)]
   refine⟨lb (by kernel_rfl),?_⟩
   (try simp only[bO.down,simprocAttr,aL,kS, @jf _ aL 1 (fun _=>rfl)]at aC⊢);exact aC
  exact bj (aQ _ (.inl (bl [.aE 1 (a6.map aL),.int .i64 aT.2.1,.int .i64 0])))
theorem xr (a0:List (List UInt8)) (ah:List (List UInt8)) (r:Bool) (h:qp a0 ah=some r):bq aP 14 [.slice (a0.map aL),.slice (ah.map aL)] (.bool r) []:=by
 refine cJ [0,1] [.tmp 4] Tryz.func14 qx (fun ch aQ cp=> ?_)
 refine ws _ ?_
 refine bh aQ (fun gF db cd aT=> ?_)
 refine ws _ ?_
 refine bA h (fun cY h=> ?_) (fun cY h=> ?_)
 ·refine ws _ ?_
  exact bj (cd _ (.inl (bl [.bool false])))
 ·refine bH (db _ (.inl ?_))
  refine bh aQ (fun hJ eX fk cw=> ?_)
  refine ws _ ?_
  refine cT fk (fun jG h2 iM ey hf=> ?_)
  have oh:∀(n:Nat) (ek:Int),wZ a0 ah n ek=some r→fc aP FI jG (J [(0,.slice (a0.map aL)),(1,.slice (ah.map aL)),(5,.int .i64 ek)]):=by
   intro m14
   induction m14 with
   |zero=>intro ek h;cases(show none=some r from h)
   |succ m14 nu=>
    intro ek h
    replace h:E3 (wZ a0 ah m14) a0 ah ek=some r:=h
    refine gj iM (fun h1 eN eu d_=> ?_)
    refine bh eu (fun jF e1 gm fK=> ?_)
    refine ws _ ?_
    refine bA h (fun hh h=> ?_) (fun hh h=> ?_)
    ·refine bH (e1 _ (.inl ?_))
     refine bh eu (fun oi iN lv kK=> ?_)
     refine cT lv (fun qC lq l1 pf nq=> ?_)
     obtain⟨aI,iP,h⟩:=aX h
     obtain⟨aT,hs,h⟩:=aX h
     refine nf rfl (lS [(0,.slice (a0.map aL)),(1,.slice (ah.map aL)),(5,.int .i64 ek),(25,.bool (!(aI==aT)))] (fun P aC=> ?_) ?_)
     ·simp only[hV.down,simprocAttr,jm.down,iP,hs]
      refine⟨lb (by kernel_rfl),?_⟩
      (try simp only[bO.down,simprocAttr,aL,iP,hs]at aC⊢);exact aC
     refine bA h (fun lu h=> ?_) (fun lu h=> ?_)
     ·refine ws _ ?_
      exact bj (l1 _ (.inl (bl [.bool false])))
     ·refine bH (lq _ (iN _ (.inl ?_)))
      refine wr _ ?_
      exact eN _ (.inr ⟨_,bX rfl,nu (IntKind.i64.wrap (ek+1)) h⟩)
    ·refine gg (fK 0 _ (d_ 0 _ (ey _ (eX _ (.inl ?_)))))
     refine ws _ ?_
     exact bj (aQ _ (.inl (bl [.bool true])))
  obtain⟨n,h⟩:=gb h
  exact gh (.inr ⟨_,bX rfl,oh n 0 h⟩)
theorem Zd (a0:List Int) (ah:List Int) (r:Bool) (h:w2 a0 ah=some r):bq aP 15 [.slice (a0.map a7),.slice (ah.map a7)] (.bool r) []:=by
 refine cJ [0,1] [.tmp 4] Tryz.func15 VK (fun ch aQ cp=> ?_)
 refine ws _ ?_
 refine bh aQ (fun gF db cd aT=> ?_)
 refine ws _ ?_
 refine bA h (fun cY h=> ?_) (fun cY h=> ?_)
 ·refine ws _ ?_
  exact bj (cd _ (.inl (bl [.bool false])))
 ·refine bH (db _ (.inl ?_))
  refine bh aQ (fun hJ eX fk cw=> ?_)
  refine ws _ ?_
  refine cT fk (fun jG h2 iM ey hf=> ?_)
  have oh:∀(n:Nat) (ek:Int),w1 a0 ah n ek=some r→fc aP FJ jG (J [(0,.slice (a0.map a7)),(1,.slice (ah.map a7)),(5,.int .i64 ek)]):=by
   intro m14
   induction m14 with
   |zero=>intro ek h;cases(show none=some r from h)
   |succ m14 nu=>
    intro ek h
    replace h:E4 (w1 a0 ah m14) a0 ah ek=some r:=h
    refine gj iM (fun h1 eN eu d_=> ?_)
    refine bh eu (fun jF e1 gm fK=> ?_)
    refine ws _ ?_
    refine bA h (fun hh h=> ?_) (fun hh h=> ?_)
    ·refine bH (e1 _ (.inl ?_))
     refine bh eu (fun oi iN lv kK=> ?_)
     refine cT lv (fun qC lq l1 pf nq=> ?_)
     obtain⟨aI,iP,h⟩:=aX h
     obtain⟨aT,hs,h⟩:=aX h
     refine nf rfl (lS [(0,.slice (a0.map a7)),(1,.slice (ah.map a7)),(5,.int .i64 ek),(25,.bool (aI !=aT))] (fun P aC=> ?_) ?_)
     ·simp only[hV.down,simprocAttr,kg.down,iP,hs]
      refine⟨lb (by kernel_rfl),?_⟩
      (try simp only[bO.down,simprocAttr,a7,iP,hs]at aC⊢);exact aC
     refine bA h (fun lu h=> ?_) (fun lu h=> ?_)
     ·refine ws _ ?_
      exact bj (l1 _ (.inl (bl [.bool false])))
     ·refine bH (lq _ (iN _ (.inl ?_)))
      refine wr _ ?_
      exact eN _ (.inr ⟨_,bX rfl,nu (IntKind.i64.wrap (ek+1)) h⟩)
    ·refine gg (fK 0 _ (d_ 0 _ (ey _ (eX _ (.inl ?_)))))
     refine ws _ ?_
     exact bj (aQ _ (.inl (bl [.bool true])))
  obtain⟨n,h⟩:=gb h
  exact gh (.inr ⟨_,bX rfl,oh n 0 h⟩)
theorem GD (a0:Int) (r:(List UInt8)) (h:uo a0=some r):bq aP 56 [.int .i64 a0] (.str r) []:=by
 refine cJ [] [.tmp 2] Tryz.func56 VV (fun ch aQ cp=> ?_)
 refine ws _ ?_
 refine bh aQ (fun gF db cd aT=> ?_)
 refine ws _ ?_
 refine bA h (fun cY h=> ?_) (fun cY h=> ?_)
 ·refine ws _ ?_
  exact bj (cd _ (.inl (bl [.str ([109,48]:List UInt8)])))
 ·refine bH (db _ (.inl ?_))
  refine ws _ ?_
  refine bh aQ (fun lp fV gB cn=> ?_)
  refine cT gB (fun jG h2 iM ey hf=> ?_)
  have oh:∀(n:Nat) (hI:Int) (fg:List UInt8),pe n hI fg=some r→fc aP FK jG (J [(0,.int .i64 hI),(3,.str fg)]):=by
   intro m14
   induction m14 with
   |zero=>intro hI fg h;cases(show none=some r from h)
   |succ m14 nu=>
    intro hI fg h
    replace h:um (pe m14) hI fg=some r:=h
    refine gj iM (fun h1 eN eu d_=> ?_)
    refine bh eu (fun jF e1 gm fK=> ?_)
    refine ws _ ?_
    refine bA h (fun hh h=> ?_) (fun hh h=> ?_)
    ·refine bH (e1 _ (.inl ?_))
     refine cT eu (fun oi iN lv mC kK=> ?_)
     obtain⟨u16,gA,h⟩:=aX h
     (try simp only[lY.down,Nat.reduceAdd]at gA)
     refine cP (cl [(0,.int .i64 hI),(3,.str ([(nE (IntKind.i64.wrap (48+(Int.tmod hI 10))))]++fg))] (fun P aC=> ?_) ?_)
     ·simp only[aV.down,simprocAttr,ML,MM,h8, @Ed .i64 10 (by decide), @vM aP 3 5 .u8 rfl rfl,(show∀s,cX aP s 143 1 [(0,.int .u8 (IntKind.u8.wrap (IntKind.i64.wrap (48+(Int.tmod hI 10)))))]=some (.aE 1 [.int .u8 (IntKind.u8.wrap (IntKind.i64.wrap (48+(Int.tmod hI 10))))],s)from fun s=>by kernel_rfl),(@D_ aP 143 9 5 rfl rfl rfl).2.2,Ec,Ea,gA,p4,p5]
      (try simp only[bO.down,simprocAttr,h8, @Ed .i64 10 (by decide), @vM aP 3 5 .u8 rfl rfl,(show∀s,cX aP s 143 1 [(0,.int .u8 (IntKind.u8.wrap (IntKind.i64.wrap (48+(Int.tmod hI 10)))))]=some (.aE 1 [.int .u8 (IntKind.u8.wrap (IntKind.i64.wrap (48+(Int.tmod hI 10))))],s)from fun s=>by kernel_rfl),(@D_ aP 143 9 5 rfl rfl rfl).2.2,Ec,Ea,gA,p4,p5]at aC⊢);exact aC
     refine w8 (@LO .i64 10 (by decide)) [(0,.int .i64 (IntKind.i64.wrap (Int.tdiv hI 10))),(3,.str ([(nE (IntKind.i64.wrap (48+(Int.tmod hI 10))))]++fg))] ?_
     exact iN _ (eN _ (.inr ⟨_,bX rfl,nu (IntKind.i64.wrap (Int.tdiv hI 10)) ([(nE (IntKind.i64.wrap (48+(Int.tmod hI 10))))]++fg) h⟩))
    ·refine gg (fK 0 _ (d_ 0 _ (ey _ (fV _ (.inl ?_)))))
     obtain⟨acj,ki,h⟩:=aX h
     (try simp only[lY.down,Nat.reduceAdd]at ki)
     refine cP (cl [(2,.str (([109]:List UInt8)++fg))] (fun P aC=> ?_) ?_)
     ·simp only[aV.down,simprocAttr,ki,p4,p5]
      (try simp only[bO.down,simprocAttr,ki,p4,p5]at aC⊢);exact aC
     exact bj (aQ _ (.inl (bl [.str (([109]:List UInt8)++fg)])))
  obtain⟨n,h⟩:=gb h
  exact gh (.inr ⟨_,bX rfl,oh n a0 ([]:List UInt8) h⟩)
theorem GF (a0:List (List UInt8)) (ah:Int) (r:Int×(List (List UInt8))) (h:uq a0 ah=some r):bq aP 25 [.aE 1 (a0.map aL),.int .i64 ah] (.int .i64 r.1) [.aE 1 (r.2.map aL),.hole]:=by
 refine cJ [0] [.tmp 4] Tryz.func25 qy (fun ch aQ cp=> ?_)
 refine ws _ ?_
 refine bh aQ (fun gF db cd aT=> ?_)
 refine ws _ ?_
 refine cT cd (fun gI fW dt cY a6=> ?_)
 have kh:∀(n:Nat) (ez:List (List UInt8)) (dj:Int) (dd:Int),qq n ez dj dd=some r→fc aP FL gI (J [(0,.aE 1 (ez.map aL)),(1,.int .i64 dj),(5,.int .i64 dd)]):=by
  intro m6
  induction m6 with
  |zero=>intro ez dj dd h;cases(show none=some r from h)
  |succ m6 jH=>
   intro ez dj dd h
   replace h:w3 (qq m6) ez dj dd=some r:=h
   refine gj dt (fun lr gY e9 b5=> ?_)
   refine bh e9 (fun hJ eX fk cw=> ?_)
   refine ws _ ?_
   refine bA h (fun ey h=> ?_) (fun ey h=> ?_)
   ·refine bH (eX _ (.inl ?_))
    refine bh e9 (fun h1 eN eu d_=> ?_)
    refine cT eu (fun jF e1 gm gn fK=> ?_)
    obtain⟨aI,hx,h⟩:=aX h
    obtain⟨aT,eJ,h⟩:=aX h
    refine cP (cl [(0,.aE 1 ((List.set ez (Int.toNat dd) aI).map aL)),(1,.int .i64 dj),(5,.int .i64 dd)] (fun P aC=> ?_) ?_)
    ·simp only[aV.down,simprocAttr,jm.down,eJ,iR eJ,jB,gx]
     refine fe (GD dj _ hx) rfl rfl rfl rfl (.inl (by rfl)) ?_
     simp only[aV.down,simprocAttr,jm.down,eJ,iR eJ,jB,gx]
     (try simp only[bO.down,simprocAttr,aL,eJ,iR eJ,jB,gx]at aC⊢);exact aC
    refine wr [(0,.aE 1 ((List.set ez (Int.toNat dd) aI).map aL)),(1,.int .i64 (IntKind.i64.wrap (dj+1))),(5,.int .i64 dd)] ?_
    refine e1 _ (eN _ (.inl ?_))
    refine wr [(0,.aE 1 ((List.set ez (Int.toNat dd) aI).map aL)),(1,.int .i64 (IntKind.i64.wrap (dj+1))),(5,.int .i64 (IntKind.i64.wrap (dd+1)))] ?_
    exact gY _ (.inr ⟨_,bX rfl,jH (List.set ez (Int.toNat dd) aI) (IntKind.i64.wrap (dj+1)) (IntKind.i64.wrap (dd+1)) h⟩)
   ·refine gg (cw 0 _ (b5 0 _ (cY _ (db _ (.inl ?_)))))
    refine ws _ ?_
    exact bj (aQ _ (.inl (ky [.int .i64 dj] rfl (by cases fM h;rfl) (by decide) (k8 (k9 (by cases fM h;rfl) rfl rfl rfl (hH (k_)))))))
 obtain⟨n,h⟩:=gb h
 exact gh (.inr ⟨_,bX rfl,kh n a0 ah 0 h⟩)
theorem Ze (a0:List Int) (ah:Int) (r:Int×(List Int)) (h:w5 a0 ah=some r):bq aP 26 [.aE 1 (a0.map a7),.int .i64 ah] (.int .i64 r.1) [.aE 1 (r.2.map a7),.hole]:=by
 refine cJ [0] [.tmp 4] Tryz.func26 lo (fun ch aQ cp=> ?_)
 refine ws _ ?_
 refine bh aQ (fun gF db cd aT=> ?_)
 refine ws _ ?_
 refine cT cd (fun gI fW dt cY a6=> ?_)
 have kh:∀(n:Nat) (ez:List Int) (dj:Int) (dd:Int),qs n ez dj dd=some r→fc aP FM gI (J [(0,.aE 1 (ez.map a7)),(1,.int .i64 dj),(5,.int .i64 dd)]):=by
  intro m6
  induction m6 with
  |zero=>intro ez dj dd h;cases(show none=some r from h)
  |succ m6 jH=>
   intro ez dj dd h
   replace h:w4 (qs m6) ez dj dd=some r:=h
   refine gj dt (fun lr gY e9 b5=> ?_)
   refine bh e9 (fun hJ eX fk cw=> ?_)
   refine ws _ ?_
   refine bA h (fun ey h=> ?_) (fun ey h=> ?_)
   ·refine bH (eX _ (.inl ?_))
    refine bh e9 (fun h1 eN eu d_=> ?_)
    refine cT eu (fun jF e1 gm gn fK=> ?_)
    obtain⟨aI,hx,h⟩:=aX h
    refine cP (cl [(0,.aE 1 ((List.set ez (Int.toNat dd) dj).map a7)),(1,.int .i64 dj),(5,.int .i64 dd)] (fun P aC=> ?_) ?_)
    ·simp only[aV.down,simprocAttr,kg.down,hx,iR hx,jB,gx]
     (try simp only[bO.down,simprocAttr,a7,hx,iR hx,jB,gx]at aC⊢);exact aC
    refine wr [(0,.aE 1 ((List.set ez (Int.toNat dd) dj).map a7)),(1,.int .i64 (IntKind.i64.wrap (dj+1))),(5,.int .i64 dd)] ?_
    refine e1 _ (eN _ (.inl ?_))
    refine wr [(0,.aE 1 ((List.set ez (Int.toNat dd) dj).map a7)),(1,.int .i64 (IntKind.i64.wrap (dj+1))),(5,.int .i64 (IntKind.i64.wrap (dd+1)))] ?_
    exact gY _ (.inr ⟨_,bX rfl,jH (List.set ez (Int.toNat dd) dj) (IntKind.i64.wrap (dj+1)) (IntKind.i64.wrap (dd+1)) h⟩)
   ·refine gg (cw 0 _ (b5 0 _ (cY _ (db _ (.inl ?_)))))
    refine ws _ ?_
    exact bj (aQ _ (.inl (ky [.int .i64 dj] rfl (by cases fM h;rfl) (by decide) (k8 (k9 (by cases fM h;rfl) rfl rfl rfl (hH (k_)))))))
 obtain⟨n,h⟩:=gb h
 exact gh (.inr ⟨_,bX rfl,kh n a0 ah 0 h⟩)
theorem GG (a0:List (List UInt8)) (ah:Int) (r:Int) (h:ur a0 ah=some r):bq aP 27 [.slice (a0.map aL),.int .i64 ah] (.int .i64 r) []:=by
 refine cJ [0] [.tmp 4] Tryz.func27 qz (fun ch aQ cp=> ?_)
 refine ws _ ?_
 refine bh aQ (fun gF db cd aT=> ?_)
 refine ws _ ?_
 refine cT cd (fun gI fW dt cY a6=> ?_)
 have kh:∀(n:Nat) (dj:Int) (dd:Int),qt a0 n dj dd=some r→fc aP FN gI (J [(0,.slice (a0.map aL)),(1,.int .i64 dj),(5,.int .i64 dd)]):=by
  intro m6
  induction m6 with
  |zero=>intro dj dd h;cases(show none=some r from h)
  |succ m6 jH=>
   intro dj dd h
   replace h:w6 (qt a0 m6) a0 dj dd=some r:=h
   refine gj dt (fun lr gY e9 b5=> ?_)
   refine bh e9 (fun hJ eX fk cw=> ?_)
   refine ws _ ?_
   refine bA h (fun ey h=> ?_) (fun ey h=> ?_)
   ·refine bH (eX _ (.inl ?_))
    refine bh e9 (fun h1 eN eu d_=> ?_)
    refine cT eu (fun jF e1 gm gn fK=> ?_)
    refine bh gm (fun sk kL l0 mA=> ?_)
    obtain⟨aI,eJ,h⟩:=aX h
    obtain⟨aT,il,h⟩:=aX h
    refine nf rfl (lS [(0,.slice (a0.map aL)),(1,.int .i64 dj),(5,.int .i64 dd),(18,.bool (!(aI==aT)))] (fun P aC=> ?_) ?_)
    ·simp only[hV.down,simprocAttr,jm.down,eJ]
     refine zp (GD dj _ il) rfl rfl rfl rfl (.inl (by rfl)) ?_
     simp only[hV.down,simprocAttr,jm.down,eJ]
     refine⟨lb (by kernel_rfl),?_⟩
     (try simp only[bO.down,simprocAttr,aL,eJ]at aC⊢);exact aC
    refine bA h (fun iL h=> ?_) (fun iL h=> ?_)
    ·refine ws _ ?_
     exact bj (l0 _ (.inl (bl [.int .i64 (-1)])))
    ·refine bH (kL _ (.inl ?_))
     refine wr _ ?_
     refine e1 _ (eN _ (.inl ?_))
     refine wr _ ?_
     exact gY _ (.inr ⟨_,bX rfl,jH (IntKind.i64.wrap (dj+1)) (IntKind.i64.wrap (dd+1)) h⟩)
   ·refine gg (cw 0 _ (b5 0 _ (cY _ (db _ (.inl ?_)))))
    refine ws _ ?_
    exact bj (aQ _ (.inl (bl [.int .i64 dj])))
 obtain⟨n,h⟩:=gb h
 exact gh (.inr ⟨_,bX rfl,kh n ah 0 h⟩)
theorem Zf (a0:List (List UInt8)) (ah:List Int) (r:Bool) (h:z8 a0 ah=some r):bq aP 6 [.slice (a0.map aL),.slice (ah.map a7)] (.bool r) []:=by
 refine cJ [0,1] [.tmp 4] Tryz.func6 qA (fun ch aQ cp=> ?_)
 refine ws _ ?_
 refine bh aQ (fun gF db cd aT=> ?_)
 refine ws _ ?_
 refine bA h (fun cY h=> ?_) (fun cY h=> ?_)
 ·refine ws _ ?_
  exact bj (cd _ (.inl (bl [.bool true])))
 ·refine bH (db _ (.inl ?_))
  refine ws _ ?_
  obtain⟨aI,gC,h⟩:=aX h
  refine fz (Xv a0 1048576 _ gC) _ ?_
  refine bh aQ (fun h1 eN eu d_=> ?_)
  refine ws _ ?_
  refine bA h (fun iO h=> ?_) (fun iO h=> ?_)
  ·refine ws _ ?_
   exact bj (eu _ (.inl (bl [.bool true])))
  ·refine bH (eN _ (.inl ?_))
   obtain⟨aT,il,h⟩:=aX h
   obtain⟨aZ,gA,h⟩:=aX h
   obtain⟨a6,iP,h⟩:=aX h
   refine cP (cl [(0,.slice (a0.map aL)),(1,.slice (ah.map a7)),(6,.aE 1 (a6.1.map aL)),(7,.int .i64 a6.2.1),(8,.int .i64 a6.2.2)] (fun P aC=> ?_) ?_)
   ·simp only[aV.down,simprocAttr,cG.down]
    refine fe (w_ a0 _ il) rfl rfl rfl rfl (.inl (by rfl)) ?_
    simp only[aV.down,simprocAttr,cG.down]
    refine fe (xb ah _ gA) rfl rfl rfl rfl (.inl (by rfl)) ?_
    simp only[aV.down,simprocAttr,cG.down]
    refine fe (Yt aT aZ _ iP) rfl rfl (by simp only[aV.down,simprocAttr,cG.down,fZ,f_,ga,fI, @gV _ aL aL (fun _=>jk _), @gV _ a7 a7 (fun _=>qv _)]<;>rfl) rfl (.inr (by simp only[I.di,I.ku, @vL _ aL (fun _=>z_ _),Bool.and_self])) ?_
    simp only[aV.down,simprocAttr,cG.down]
    (try simp only[bO.down,simprocAttr,cG.down]at aC⊢);exact aC
   obtain⟨b5,ki,h⟩:=aX h
   refine fz (w_ a0 _ ki) _ ?_
   obtain⟨cw,nw,h⟩:=aX h
   refine fz (xb ah _ nw) _ ?_
   obtain⟨cn,jn,h⟩:=aX h
   refine cP (cl [(0,.slice (a0.map aL)),(1,.slice (ah.map a7)),(6,.aE 1 (a6.1.map aL)),(7,.int .i64 a6.2.1),(8,.int .i64 a6.2.2),(9,.aE 1 (b5.map aL)),(10,.aE 1 (cw.map a7)),(11,.aE 1 (cn.1.map aL)),(12,.int .i64 cn.2.1),(13,.int .i64 cn.2.2)] (fun P aC=> ?_) ?_)
   ·simp only[aV.down,simprocAttr,cG.down]
    refine fe (GC b5 cw _ jn) rfl rfl (by simp only[aV.down,simprocAttr,cG.down,fZ,f_,ga,fI, @gV _ aL aL (fun _=>jk _), @gV _ a7 a7 (fun _=>qv _)]<;>rfl) rfl (.inr (by simp only[I.di,I.ku, @vL _ aL (fun _=>z_ _),Bool.and_self])) ?_
    simp only[aV.down,simprocAttr,cG.down]
    (try simp only[bO.down,simprocAttr,cG.down]at aC⊢);exact aC
   refine bh aQ (fun F1 uz xf Aq=> ?_)
   obtain⟨hf,Am,h⟩:=aX h
   refine cP (cl [(0,.slice (a0.map aL)),(1,.slice (ah.map a7)),(6,.aE 1 (a6.1.map aL)),(7,.int .i64 a6.2.1),(8,.int .i64 a6.2.2),(9,.aE 1 (b5.map aL)),(10,.aE 1 (cw.map a7)),(11,.aE 1 (cn.1.map aL)),(12,.int .i64 cn.2.1),(13,.int .i64 cn.2.2),(61,.bool (((!hf)||(cn.2.1 !=a6.2.1))||(cn.2.2 !=a6.2.2)))] (fun P aC=> ?_) ?_)
   ·(rcases Bool.eq_false_or_eq_true (hf)with lo|lo)<;>(rcases Bool.eq_false_or_eq_true (cn.2.1 !=a6.2.1)with qz|qz)<;>
     (simp only[aV.down,simprocAttr,cG.down,lo,qz]
      refine fe (xr cn.1 a6.1 _ Am) rfl rfl (by simp only[aV.down,simprocAttr,cG.down,lo,qz,fZ,f_,ga,fI, @gV _ aL aL (fun _=>jk _), @gV _ aL aL (fun _=>jk _)]<;>rfl) rfl (.inr (by rfl)) ?_
      simp only[aV.down,simprocAttr,cG.down,lo,qz]
      (try simp only[bO.down,simprocAttr,cG.down,lo,qz]at aC⊢);exact aC)
   refine bA h (fun uA h=> ?_) (fun uA h=> ?_)
   ·refine ws _ ?_
    exact bj (xf _ (.inl (bl [.bool false])))
   ·refine bH (uz _ (.inl ?_))
    refine bh aQ (fun Ya AA AB Yb=> ?_)
    obtain⟨d_,xl,h⟩:=aX h
    obtain⟨fK,sq,h⟩:=aX h
    refine cP (cl [(0,.slice (a0.map aL)),(1,.slice (ah.map a7)),(6,.aE 1 (a6.1.map aL)),(7,.int .i64 a6.2.1),(8,.int .i64 a6.2.2),(9,.aE 1 (b5.map aL)),(10,.aE 1 (cw.map a7)),(11,.aE 1 (cn.1.map aL)),(12,.int .i64 cn.2.1),(13,.int .i64 cn.2.2),(66,.bool (!fK))] (fun P aC=> ?_) ?_)
    ·simp only[aV.down,simprocAttr,cG.down]
     refine fe (w_ a0 _ xl) rfl rfl rfl rfl (.inl (by rfl)) ?_
     simp only[aV.down,simprocAttr,cG.down]
     refine fe (xr b5 d_ _ sq) rfl rfl (by simp only[aV.down,simprocAttr,cG.down,fZ,f_,ga,fI, @gV _ aL aL (fun _=>jk _), @gV _ aL aL (fun _=>jk _)]<;>rfl) rfl (.inr (by rfl)) ?_
     simp only[aV.down,simprocAttr,cG.down]
     (try simp only[bO.down,simprocAttr,cG.down]at aC⊢);exact aC
    refine bA h (fun Zg h=> ?_) (fun Zg h=> ?_)
    ·refine ws _ ?_
     exact bj (AB _ (.inl (bl [.bool false])))
    ·refine bH (AA _ (.inl ?_))
     refine bh aQ (fun ack Zh Zi acm=> ?_)
     obtain⟨mA,qK,h⟩:=aX h
     obtain⟨qu,Zj,h⟩:=aX h
     refine cP (cl [(0,.slice (a0.map aL)),(1,.slice (ah.map a7)),(6,.aE 1 (a6.1.map aL)),(7,.int .i64 a6.2.1),(8,.int .i64 a6.2.2),(9,.aE 1 (b5.map aL)),(10,.aE 1 (cw.map a7)),(11,.aE 1 (cn.1.map aL)),(12,.int .i64 cn.2.1),(13,.int .i64 cn.2.2),(71,.bool (!qu))] (fun P aC=> ?_) ?_)
     ·simp only[aV.down,simprocAttr,cG.down]
      refine fe (xb ah _ qK) rfl rfl rfl rfl (.inl (by rfl)) ?_
      simp only[aV.down,simprocAttr,cG.down]
      refine fe (Zd cw mA _ Zj) rfl rfl (by simp only[aV.down,simprocAttr,cG.down,fZ,f_,ga,fI, @gV _ a7 a7 (fun _=>qv _), @gV _ a7 a7 (fun _=>qv _)]<;>rfl) rfl (.inr (by rfl)) ?_
      simp only[aV.down,simprocAttr,cG.down]
      (try simp only[bO.down,simprocAttr,cG.down]at aC⊢);exact aC
     refine bA h (fun uC h=> ?_) (fun uC h=> ?_)
     ·refine ws _ ?_
      exact bj (Zi _ (.inl (bl [.bool false])))
     ·refine bH (Zh _ (.inl ?_))
      refine ws _ ?_
      obtain⟨kK,Zk,h⟩:=aX h
      refine cP (cl [(0,.slice (a0.map aL)),(1,.slice (ah.map a7)),(6,.aE 1 (a6.1.map aL)),(7,.int .i64 a6.2.1),(8,.int .i64 a6.2.2),(10,.aE 1 (cw.map a7)),(11,.aE 1 (cn.1.map aL)),(12,.int .i64 cn.2.1),(13,.int .i64 cn.2.2),(14,.int .i64 kK.1)] (fun P aC=> ?_) ?_)
      ·simp only[aV.down,simprocAttr,cG.down]
       refine k7 [⟨.h 9 [],true,_,_⟩,⟨.int .i64 1,false,_,.hole⟩] (GF b5 1 _ Zk) rfl rfl rfl (by simp only[aV.down,simprocAttr,cG.down,jC,j2,j3,fZ,f_,ga,fI,or_true,true_or, @gV _ aL aL (fun _=>jk _)]) rfl rfl (.inl rfl) ?_
       simp only[aV.down,simprocAttr,cG.down,j4]
       (try simp only[bO.down,simprocAttr,cG.down]at aC⊢);exact aC
      obtain⟨nq,Zl,h⟩:=aX h
      refine cP (cl [(0,.slice (a0.map aL)),(1,.slice (ah.map a7)),(6,.aE 1 (a6.1.map aL)),(7,.int .i64 a6.2.1),(8,.int .i64 a6.2.2),(11,.aE 1 (cn.1.map aL)),(12,.int .i64 cn.2.1),(13,.int .i64 cn.2.2),(14,.int .i64 nq.1)] (fun P aC=> ?_) ?_)
      ·simp only[aV.down,simprocAttr,cG.down]
       refine k7 [⟨.h 10 [],true,_,_⟩,⟨.int .i64 kK.1,false,_,.hole⟩] (Ze cw kK.1 _ Zl) rfl rfl rfl (by simp only[aV.down,simprocAttr,cG.down,jC,j2,j3,fZ,f_,ga,fI,or_true,true_or, @gV _ a7 a7 (fun _=>qv _)]) rfl rfl (.inl rfl) ?_
       simp only[aV.down,simprocAttr,cG.down,j4]
       (try simp only[bO.down,simprocAttr,cG.down]at aC⊢);exact aC
      refine bh aQ (fun XZ At xh X0=> ?_)
      rcases h3 h with⟨ss,h⟩|⟨ss,h⟩
      ·refine gl ss _ ?_
       refine k3 rfl ?_
       refine ws _ ?_
       exact bj (xh _ (.inl (bl [.bool false])))
      ·obtain⟨mB,Zm,h⟩:=aX h
       refine cP (cl [(0,.slice (a0.map aL)),(1,.slice (ah.map a7)),(6,.aE 1 (a6.1.map aL)),(7,.int .i64 a6.2.1),(8,.int .i64 a6.2.2),(11,.aE 1 (cn.1.map aL)),(95,.bool (((!mB)||(cn.2.1 !=a6.2.1))||(cn.2.2 !=a6.2.2)))] (fun P aC=> ?_) ?_)
       ·(rcases Bool.eq_false_or_eq_true (mB)with qw|qw)<;>(rcases Bool.eq_false_or_eq_true (cn.2.1 !=a6.2.1)with uL|uL)<;>
         (simp only[aV.down,simprocAttr,cG.down,ss,qw,uL]
          refine oV (xr cn.1 a6.1 _ Zm) rfl rfl (by simp only[aV.down,simprocAttr,cG.down,ss,qw,uL,fZ,f_,ga,fI, @gV _ aL aL (fun _=>jk _), @gV _ aL aL (fun _=>jk _)]<;>rfl) rfl (.inr (by rfl)) ?_
          simp only[aV.down,simprocAttr,cG.down,ss,qw,uL]
          (try simp only[bO.down,simprocAttr,cG.down,ss,qw,uL]at aC⊢);exact aC)
       refine bA h (fun Zn h=> ?_) (fun Zn h=> ?_)
       ·refine ws _ ?_
        exact bj (xh _ (.inl (bl [.bool false])))
       ·refine bH (At _ (.inl ?_))
        refine ws _ ?_
        obtain⟨hr,Zo,h⟩:=aX h
        refine cP (cl [(0,.slice (a0.map aL)),(1,.slice (ah.map a7)),(6,.aE 1 (a6.1.map aL)),(7,.int .i64 a6.2.1),(8,.int .i64 a6.2.2),(11,.aE 1 (hr.2.map aL)),(15,.int .i64 hr.1)] (fun P aC=> ?_) ?_)
        ·simp only[aV.down,simprocAttr,cG.down]
         refine k7 [⟨.h 11 [],true,_,_⟩,⟨.int .i64 1,false,_,.hole⟩] (GF cn.1 1 _ Zo) rfl rfl rfl (by simp only[aV.down,simprocAttr,cG.down,jC,j2,j3,fZ,f_,ga,fI,or_true,true_or, @gV _ aL aL (fun _=>jk _)]) rfl rfl (.inl rfl) ?_
         simp only[aV.down,simprocAttr,cG.down,j4]
         (try simp only[bO.down,simprocAttr,cG.down]at aC⊢);exact aC
        refine ws _ ?_
        obtain⟨uu,Zp,h⟩:=aX h
        refine cP (cl [(0,.slice (a0.map aL)),(1,.slice (ah.map a7)),(6,.aE 1 (a6.1.map aL)),(7,.int .i64 a6.2.1),(8,.int .i64 a6.2.2),(11,.aE 1 (hr.2.map aL)),(15,.int .i64 hr.1),(16,.int .i64 uu)] (fun P aC=> ?_) ?_)
        ·simp only[aV.down,simprocAttr,cG.down]
         refine fe (GG hr.2 1 _ Zp) rfl rfl (by simp only[aV.down,simprocAttr,cG.down,fZ,f_,ga,fI, @gV _ aL aL (fun _=>jk _)]<;>rfl) rfl (.inr (by rfl)) ?_
         simp only[aV.down,simprocAttr,cG.down]
         (try simp only[bO.down,simprocAttr,cG.down]at aC⊢);exact aC
        refine bh aQ (fun acn Zq Zr aco=> ?_)
        refine ws _ ?_
        refine bA h (fun Zs h=> ?_) (fun Zs h=> ?_)
        ·refine ws _ ?_
         exact bj (Zr _ (.inl (bl [.bool false])))
        ·refine bH (Zq _ (.inl ?_))
         refine bh aQ (fun acp Zt Zu acq=> ?_)
         refine ws _ ?_
         refine bA h (fun Zv h=> ?_) (fun Zv h=> ?_)
         ·refine ws _ ?_
          exact bj (Zu _ (.inl (bl [.bool false])))
         ·refine bH (Zt _ (.inl ?_))
          obtain⟨sg,Zw,h⟩:=aX h
          obtain⟨si,Zx,h⟩:=aX h
          obtain⟨ln,Zy,h⟩:=aX h
          refine cP (cl [(6,.aE 1 (a6.1.map aL)),(7,.int .i64 a6.2.1),(8,.int .i64 a6.2.2),(11,.aE 1 (hr.2.map aL)),(15,.int .i64 hr.1),(17,.aE 1 (ln.1.map aL)),(18,.int .i64 ln.2.1),(19,.int .i64 ln.2.2)] (fun P aC=> ?_) ?_)
          ·simp only[aV.down,simprocAttr,cG.down]
           refine fe (w_ a0 _ Zw) rfl rfl rfl rfl (.inl (by rfl)) ?_
           simp only[aV.down,simprocAttr,cG.down]
           refine fe (xb ah _ Zx) rfl rfl rfl rfl (.inl (by rfl)) ?_
           simp only[aV.down,simprocAttr,cG.down]
           refine fe (GC sg si _ Zy) rfl rfl (by simp only[aV.down,simprocAttr,cG.down,fZ,f_,ga,fI, @gV _ aL aL (fun _=>jk _), @gV _ a7 a7 (fun _=>qv _)]<;>rfl) rfl (.inr (by simp only[I.di,I.ku, @vL _ aL (fun _=>z_ _),Bool.and_self])) ?_
           simp only[aV.down,simprocAttr,cG.down]
           (try simp only[bO.down,simprocAttr,cG.down]at aC⊢);exact aC
          refine bh aQ (fun acr Zz ZA acs=> ?_)
          obtain⟨sj,ZB,h⟩:=aX h
          refine cP (cl [(11,.aE 1 (hr.2.map aL)),(15,.int .i64 hr.1),(129,.bool (((!sj)||(ln.2.1 !=a6.2.1))||(ln.2.2 !=a6.2.2)))] (fun P aC=> ?_) ?_)
          ·(rcases Bool.eq_false_or_eq_true (sj)with uM|uM)<;>(rcases Bool.eq_false_or_eq_true (ln.2.1 !=a6.2.1)with uN|uN)<;>
            (simp only[aV.down,simprocAttr,aL,uM,uN]
             refine fe (xr ln.1 a6.1 _ ZB) rfl rfl (by simp only[aV.down,simprocAttr,aL,uM,uN,fZ,f_,ga,fI, @gV _ aL aL (fun _=>jk _), @gV _ aL aL (fun _=>jk _)]<;>rfl) rfl (.inr (by rfl)) ?_
             simp only[aV.down,simprocAttr,aL,uM,uN]
             (try simp only[bO.down,simprocAttr,aL,uM,uN]at aC⊢);exact aC)
          refine bA h (fun ZC h=> ?_) (fun ZC h=> ?_)
          ·refine ws _ ?_
           exact bj (ZA _ (.inl (bl [.bool false])))
          ·refine bH (Zz _ (.inl ?_))
           refine ws _ ?_
           obtain⟨og,ZD,h⟩:=aX h
           refine cP (cl [(15,.int .i64 hr.1),(16,.int .i64 og)] (fun P aC=> ?_) ?_)
           ·simp only[aV.down,simprocAttr,aL]
            refine fe (GG hr.2 1 _ ZD) rfl rfl (by simp only[aV.down,simprocAttr,aL,fZ,f_,ga,fI, @gV _ aL aL (fun _=>jk _)]<;>rfl) rfl (.inr (by rfl)) ?_
            simp only[aV.down,simprocAttr,aL]
            (try simp only[bO.down,simprocAttr,aL]at aC⊢);exact aC
           refine bh aQ (fun acu ZE ZF acv=> ?_)
           refine ws _ ?_
           refine bA h (fun ZG h=> ?_) (fun ZG h=> ?_)
           ·refine ws _ ?_
            exact bj (ZF _ (.inl (bl [.bool false])))
           ·refine bH (ZE _ (.inl ?_))
            refine bh aQ (fun acw ZH ZI acx=> ?_)
            refine ws _ ?_
            refine bA h (fun ZJ h=> ?_) (fun ZJ h=> ?_)
            ·refine ws _ ?_
             exact bj (ZI _ (.inl (bl [.bool false])))
            ·refine bH (ZH _ (.inl ?_))
             refine ws _ ?_
             exact bj (aQ _ (.inl (bl [.bool true])))
end Go.Proofs.YtipllbfpaepajaaGreatDoor
