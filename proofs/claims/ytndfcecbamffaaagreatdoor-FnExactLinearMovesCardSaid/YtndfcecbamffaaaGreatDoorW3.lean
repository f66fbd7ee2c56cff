/- Part of a proof that a law returns true for every input. No condition. -/
import Derived.Test.YtndfcecbamffaaaGreatDoorSl
namespace Go.Proofs.YtndfcecbamffaaaGreatDoor
open Option Go.IntKind Nat Or
open Go Go.cG Go.mY
set_option maxRecDepth 100000
set_option maxHeartbeats 2400000
set_option linter.unusedSimpArgs false
set_option linter.unusedVariables false
theorem cq (fx:ace) (dw:List ResultVar) {f:FuncId} {fn:Func} {ins outs:acj} {r:j} (bf:ay.P.funcs[f]? =some fn) (df:aI)
 (CR:∀Q:Exit->ag->Prop,(∀s,c1 (cG.Ends ay fx dw r outs) s->Q .ret s)->(∀s,c1 (cG.Ends ay fx dw r outs) s->Q .normal s)->bw ay df Q (ah (num 0 ins))) (J:eI ⟨fn.ntmps,fx⟩ (fn.body.getD .skip)=some df.strip:=by kernel_rfl) (I:fn.body=some (fn.body.getD .skip):=by rfl) (i7:(fn.name== "runtime.NumGoroutine")=false:=by rfl) (aO:ins.length<=fn.ntmps:=by exact le_of_ble_eq_true rfl) (eO:fn.results.toList=dw:=by rfl) (ai:df.plain=true:=by kernel_rfl):bb ay f ins r outs:=
 bb.KG uW dw (num 0 ins) bf I i7 J aO eO rfl CR ai
theorem er {P:Nat->Prop} (s:∀m,P m->P (m+1)) (z:P 0:=by intros;rename_i h;cases(show none=some _ from h)):∀n,P n:=λn=>Nat.rec z s n
def E2:=PLift.up (ab @Tl (ab @Tm (ab @Tn (ab @To (ab @Tp (ab @Tq (ab @Tr (ab @Ts (ab @Tt (ab @Tu (ab @Tv (ab @Tw (ab @Tx (ab @Ty (ab @Tz (ab @TA (ab @TB (ab @TC (ab @TD (ab @TE (ab @TF (ab @TG (ab @TH (ab @TI (ab @TJ (ab @TK (ab @TL (ab @TM (ab @gD.eq_1 (ab @aC.eq_1 (ab @fF.eq_1 (ab @jZ.eq_1 (ab @dq.eq_1 (ab @bA.eq_1 (ab @EX (ab @ku.eq_1 (ab @hc.eq_1 (ab @hM.eq_1 (ab @gH.eq_1 (ab @lk.eq_1 (ab @b4.eq_1 (ab @ht.eq_1 (ab @ll.eq_1 (ab @kT.eq_1 (ab @EW (ab @oL.eq_1 (ab @ck.eq_1 (ab @fs.eq_1 (ab @T6 (ab @hN.eq_1 @h4.eq_1))))))))))))))))))))))))))))))))))))))))))))))))))
def aS:=PLift.up (ab @pF (ab Su.down E2.down))
def gn:=PLift.up (ab @pF (ab Sv.down E2.down))
def iG:=PLift.up (ab @pF (ab Sw.down E2.down))
theorem cx {F A:Prop} (f:F) (h:F->A:=by intro aZ;(try simp only[iG.down,simprocAttr,aZ,db,eJ,d_,dZ,j.dj,j.shares]at bp⊢);exact bp):A:=h f
theorem wr {Q l ros k} (bR:aci) (ak:Q .normal (ah bR)) (h:∀P:aci->Prop,P bR->ch ay (ah l) ros none (λ_ s=>P (eM k s)):=by
 intro P bp;simp only[aS.down,simprocAttr,db,eJ,d_,dZ];(try simp only[iG.down,simprocAttr,db,eJ,d_,dZ]at bp⊢);exact bp):bw ay (.dJ ros (some k)) Q (ah l):=
 jb (cD bR (h) ak)
theorem gg {Q l ros k} {bR:aci} (ak:Q .normal (ah bR)) (h:∀P:aci->Prop,P bR->ch ay (ah l) ros none (λ_ s=>P (eM k s)):=by
 intro P bp;simp only[aS.down,simprocAttr,db,eJ,d_,dZ];(try simp only[iG.down,simprocAttr,db,eJ,d_,dZ]at bp⊢);exact bp):bw ay (.dJ ros (some k)) Q (ah l):=
 jb (cD bR (h) ak)
theorem Wy {Q l ros k g ds r} (ok:bb ay g ds r []) (bR:aci) (ak:Q .normal (ah bR)) (h:bb ay g ds r []->∀P:aci->Prop,P bR->ch ay (ah l) ros none (λ_ s=>P (eM k s)):=by
 intro mD P bp;(try simp only[aS.down,simprocAttr,db,eJ,d_,dZ]);(first|refine dk mD rfl rfl rfl rfl (inl (by rfl)) ?_|refine lM mD rfl rfl rfl rfl (inl (by rfl)) ?_);simp only[aS.down,simprocAttr,db,eJ,d_,dZ];(try simp only[iG.down,simprocAttr,db,eJ,d_,dZ]at bp⊢);exact bp):bw ay (.dJ ros (some k)) Q (ah l):=
 jb (cD bR (h ok) ak)
theorem AO {Q l ros k g ds r} {F:Prop} (aZ:F) (ok:bb ay g ds r []) (bR:aci) (ak:Q .normal (ah bR)) (h:bb ay g ds r []->F->∀P:aci->Prop,P bR->ch ay (ah l) ros none (λ_ s=>P (eM k s)):=by
 intro mD aZ P bp;(try simp only[aS.down,simprocAttr,aZ,db,eJ,d_,dZ]);(first|refine dk mD rfl rfl rfl rfl (inl (by rfl)) ?_|refine lM mD rfl rfl rfl rfl (inl (by rfl)) ?_);simp only[aS.down,simprocAttr,aZ,db,eJ,d_,dZ];(try simp only[iG.down,simprocAttr,aZ,db,eJ,d_,dZ]at bp⊢);exact bp):bw ay (.dJ ros (some k)) Q (ah l):=
 jb (cD bR (h ok aZ) ak)
theorem LP {Q l ros k ey} {F:Prop} (aZ:F) (bR:aci) (ak:Q .normal (ah bR)) (h:F->∀P:aci->Prop,P bR->ch ay (ah l) ros (some []) (λacc s=>kd (pv ey) 0 [] (acc.getD []).reverse=true/\P (eM k s)):=by
 intro aZ P bp;simp only[gn.down,simprocAttr,aZ,db,eJ,d_,dZ];refine⟨pD (by kernel_rfl),?_⟩;(try simp only[iG.down,simprocAttr,aZ,db,eJ,d_,dZ]at bp⊢);exact bp) (hl:ey.length=ros.length:=by rfl):bw ay (.iZ ros ey (some k)) Q (ah l):=
 Jy hl (qj bR (h aZ) ak)
theorem qB {Q l ros k} {F:Prop} (aZ:F) (bR:aci) (ak:Q .normal (ah bR)) (h:F->∀P:aci->Prop,P bR->ch ay (ah l) ros none (λ_ s=>P (eM k s)):=by
 intro aZ P bp;simp only[aS.down,simprocAttr,aZ,db,eJ,d_,dZ];(try simp only[iG.down,simprocAttr,aZ,db,eJ,d_,dZ]at bp⊢);exact bp):bw ay (.dJ ros (some k)) Q (ah l):=
 jb (cD bR (h aZ) ak)
theorem ws {Q l ros k b} (bR:aci) (ak:bw ay b Q (ah bR)) (h:∀P:aci->Prop,P bR->ch ay (ah l) ros none (λ_ s=>P (eM k s)):=by
 intro P bp;simp only[aS.down,simprocAttr,db,eJ,d_,dZ];(try simp only[iG.down,simprocAttr,db,eJ,d_,dZ]at bp⊢);exact bp):bw ay (.seq (.dJ ros (some k)) b) Q (ah l):=
 dB (cD bR (h) ak)
theorem aJ {Q l ros k b} {bR:aci} (ak:bw ay b Q (ah bR)) (h:∀P:aci->Prop,P bR->ch ay (ah l) ros none (λ_ s=>P (eM k s)):=by
 intro P bp;simp only[aS.down,simprocAttr,db,eJ,d_,dZ];(try simp only[iG.down,simprocAttr,db,eJ,d_,dZ]at bp⊢);exact bp):bw ay (.seq (.dJ ros (some k)) b) Q (ah l):=
 dB (cD bR (h) ak)
theorem bu {Q l ros k fx dw r} {bR:aci} (iT:∀s,c1 (cG.Ends ay fx dw r []) s->Q .ret s) (ds:acj) (h:∀P:aci->Prop,P bR->ch ay (ah l) ros none (λ_ s=>P (eM k s)):=by
 intro P bp;simp only[aS.down,simprocAttr,db,eJ,d_,dZ];(try simp only[iG.down,simprocAttr,db,eJ,d_,dZ]at bp⊢);exact bp) (U:r=zl ds:=by cases fP (by assumption);rfl) (R:dw.map (ou ay (ah bR))=ds.map some:=by rfl) (aw:(dw.map ir).Nodup:=by decide):bw ay (.seq (.dJ ros (some k)) .ret) Q (ah l):=
 ws bR (cR iT ds U R aw) h
theorem dO {Q l ros k b g ds r} (ok:bb ay g ds r []) (bR:aci) (ak:bw ay b Q (ah bR)) (h:bb ay g ds r []->∀P:aci->Prop,P bR->ch ay (ah l) ros none (λ_ s=>P (eM k s)):=by
 intro mD P bp;(try simp only[aS.down,simprocAttr,db,eJ,d_,dZ]);(first|refine dk mD rfl rfl rfl rfl (inl (by rfl)) ?_|refine lM mD rfl rfl rfl rfl (inl (by rfl)) ?_);simp only[aS.down,simprocAttr,db,eJ,d_,dZ];(try simp only[iG.down,simprocAttr,db,eJ,d_,dZ]at bp⊢);exact bp):bw ay (.seq (.dJ ros (some k)) b) Q (ah l):=
 dB (cD bR (h ok) ak)
theorem ft {Q l ros k b g ds r} {F:Prop} (aZ:F) (ok:bb ay g ds r []) (bR:aci) (ak:bw ay b Q (ah bR)) (h:bb ay g ds r []->F->∀P:aci->Prop,P bR->ch ay (ah l) ros none (λ_ s=>P (eM k s)):=by
 intro mD aZ P bp;(try simp only[aS.down,simprocAttr,aZ,db,eJ,d_,dZ]);(first|refine dk mD rfl rfl rfl rfl (inl (by rfl)) ?_|refine lM mD rfl rfl rfl rfl (inl (by rfl)) ?_);simp only[aS.down,simprocAttr,aZ,db,eJ,d_,dZ];(try simp only[iG.down,simprocAttr,aZ,db,eJ,d_,dZ]at bp⊢);exact bp):bw ay (.seq (.dJ ros (some k)) b) Q (ah l):=
 dB (cD bR (h ok aZ) ak)
theorem tt {Q l ros k b ey g ds r} {F:Prop} (aZ:F) (ok:bb ay g ds r []) (bR:aci) (ak:bw ay b Q (ah bR)) (h:bb ay g ds r []->F->∀P:aci->Prop,P bR->ch ay (ah l) ros (some []) (λacc s=>kd (pv ey) 0 [] (acc.getD []).reverse=true/\P (eM k s)):=by
 intro mD aZ P bp;(try simp only[gn.down,simprocAttr,aZ,db,eJ,d_,dZ]);(first|refine mS mD rfl rfl rfl rfl (inl (by rfl)) ?_|refine zn mD rfl rfl rfl rfl (inl (by rfl)) ?_);simp only[gn.down,simprocAttr,aZ,db,eJ,d_,dZ];refine⟨pD (by kernel_rfl),?_⟩;(try simp only[iG.down,simprocAttr,aZ,db,eJ,d_,dZ]at bp⊢);exact bp) (hl:ey.length=ros.length:=by rfl):bw ay (.seq (.iZ ros ey (some k)) b) Q (ah l):=
 sL hl (qj bR (h ok aZ) ak)
theorem x5 {Q l ros k b ey} {F:Prop} (aZ:F) (bR:aci) (ak:bw ay b Q (ah bR)) (h:F->∀P:aci->Prop,P bR->ch ay (ah l) ros (some []) (λacc s=>kd (pv ey) 0 [] (acc.getD []).reverse=true/\P (eM k s)):=by
 intro aZ P bp;simp only[gn.down,simprocAttr,aZ,db,eJ,d_,dZ];refine⟨pD (by kernel_rfl),?_⟩;(try simp only[iG.down,simprocAttr,aZ,db,eJ,d_,dZ]at bp⊢);exact bp) (hl:ey.length=ros.length:=by rfl):bw ay (.seq (.iZ ros ey (some k)) b) Q (ah l):=
 sL hl (qj bR (h aZ) ak)
theorem et {Q l ros k b} {F:Prop} (aZ:F) (bR:aci) (ak:bw ay b Q (ah bR)) (h:F->∀P:aci->Prop,P bR->ch ay (ah l) ros none (λ_ s=>P (eM k s)):=by
 intro aZ P bp;simp only[aS.down,simprocAttr,aZ,db,eJ,d_,dZ];(try simp only[iG.down,simprocAttr,aZ,db,eJ,d_,dZ]at bp⊢);exact bp):bw ay (.seq (.dJ ros (some k)) b) Q (ah l):=
 dB (cD bR (h aZ) ak)
theorem tu {Q l ros k b} {F:Prop} (aZ:F) (bR:aci) (ak:bw ay b Q (ah bR)) (h:F->∀P:aci->Prop,P bR->ch ay (ah l) ros none (λ_ s=>P (eM k s)):=by
 intro aZ P bp;simp only[aS.down,simprocAttr,aZ,db,eJ,d_,dZ,-Int.reduceNatCast'];(try simp only[iG.down,simprocAttr,aZ,db,eJ,d_,dZ,-Int.reduceNatCast']at bp⊢);exact bp):bw ay (.seq (.dJ ros (some k)) b) Q (ah l):=
 dB (cD bR (h aZ) ak)
theorem tv {Q l ros k b} (e:Bool) (bR:aci) (ak:bw ay b Q (ah bR)) (h:∀c,e=c->∀P:aci->Prop,P bR->ch ay (ah l) ros none (λ_ s=>P (eM k s)):=by
 intro c aj P bp;cases c;all_goals
  (try simp only[List.length_replicate]at aj);simp only[aS.down,simprocAttr,aj,db,eJ,d_,dZ];(try simp only[iG.down,simprocAttr,aj,db,eJ,d_,dZ]at bp⊢);exact bp):bw ay (.seq (.dJ ros (some k)) b) Q (ah l):=
 dB (cD bR (h e rfl) ak)
theorem Wz {Q l ros k b} (e:Bool) {F:Prop} (aZ:F) (bR:aci) (ak:bw ay b Q (ah bR)) (h:F->∀c,e=c->∀P:aci->Prop,P bR->ch ay (ah l) ros none (λ_ s=>P (eM k s)):=by
 intro aZ c aj P bp;cases c;all_goals
  (try simp only[List.length_replicate]at aj);simp only[aS.down,simprocAttr,aj,aZ,db,eJ,d_,dZ];(try simp only[iG.down,simprocAttr,aj,aZ,db,eJ,d_,dZ]at bp⊢);exact bp):bw ay (.seq (.dJ ros (some k)) b) Q (ah l):=
 dB (cD bR (h aZ e rfl) ak)
def ji:=PLift.up (ab @List.length_append.{0} (ab @List.length_cons.{0} (ab @List.length_nil.{0} (ab @List.length_map.{0,0} @List.length_replicate.{0}))))
def rO:=PLift.up (ab @uD (ab @uE @mU))
def vy:=PLift.up (ab @hq (ab @hr (ab @hs (ab @dL (ab (@cP _ ck jZ (λ_=>x1 _)) (@cP _ ck jZ (λ_=>x1 _)))))))
def x6:=PLift.up (ab (@Db ay 53 [(9,0),(22,1)] [(.str []),.bc] rfl rfl (by kernel_rfl)) (ab @w7 (ab @w8 (ab @fj (ab @mn (ab @List.nil_append.{0} @List.cons_append.{0}))))))
def AP:=PLift.up (ab (@J0 ay 27 53 1 2 [(.agg [(.str []),.bc])] rfl rfl rfl (by kernel_rfl)) (ab @w7 (ab @w8 (ab @fj (ab @mn (ab @List.nil_append.{0} (ab @List.cons_append.{0} (ab (@oz ay 27 27 53 rfl rfl) (ab @oA (ab @oB (ab @oy (ab @all_nil (@qk _ ck 2 (λ_=>rfl))))))))))))))
def E3:=PLift.up (ab (@oz ay 22 22 2 rfl rfl) (ab @oA (ab @oB (ab @mn (ab @oy (ab @all_nil (@qk _ aC 1 (λ_=>rfl))))))))
def E4:=PLift.up (ab @hq (ab @hr (ab @hs (ab @dL (@cP _ aC aC (λ_=>gS _))))))
def E5:=PLift.up (ab (@Db ay 53 [(9,0),(22,1)] [(.str []),.bc] rfl rfl (by kernel_rfl)) (ab @w7 (ab @w8 (ab @fj (ab @mn (ab @List.nil_append.{0} (ab @List.cons_append.{0} (ab @hq (ab @hr (ab @hs (ab @dL (@cP _ aC aC (λ_=>gS _)))))))))))))
def E6:=PLift.up (ab @List.cons_append.{0} (ab @List.nil_append.{0} (ab @List.length_append.{0} (ab @List.length_cons.{0} (ab @List.length_nil.{0} (ab @List.length_map.{0,0} @List.length_replicate.{0}))))))
def E7:=PLift.up (ab @hq (ab @hr (ab @hs (ab @dL (ab (@cP _ aC aC (λ_=>gS _)) (@cP _ dq dq (λ_=>EU _)))))))
def E8:=PLift.up (ab @R8 (ab @R5 (ab @dL (ab @R4 (ab (@cP _ bA bA (λ_=>oK _)) (ab (@cP _ b4 b4 (λ_=>rM _)) (@cP _ ll ll (λ_=>T4 _))))))))
def E9:=PLift.up (ab @hq (ab @hr (ab @hs (ab @dL (ab (@cP _ b4 b4 (λ_=>rM _)) (ab (@cP _ aC aC (λ_=>gS _)) (ab (@cP _ bA bA (λ_=>oK _)) (ab (@cP _ b4 b4 (λ_=>rM _)) (@cP _ b4 b4 (λ_=>rM _))))))))))
def E_:=PLift.up (ab @mq (ab @pF (ab @List.cons_append.{0} @List.nil_append.{0})))
def Fa:=PLift.up (ab @hq (ab @hr (ab @hs (ab @dL (ab (@cP _ aC aC (λ_=>gS _)) (ab (@cP _ fs dq (λ_=>ts _)) (@cP _ aC aC (λ_=>gS _))))))))
def LQ:=PLift.up (ab @pz (ab @mo (ab @hq (ab @hr (ab @hs (ab @dL (ab @and_self (ab @and_true (ab @true_and (@cP _ aC aC (λ_=>gS _)))))))))))
def LR:=PLift.up (ab @pz (ab @oD (ab @mo (ab @hq (ab @hr (ab @hs (ab @dL (ab @or_true (ab @true_or (@cP _ aC aC (λ_=>gS _)))))))))))
def LS:=PLift.up (ab @hq (ab @hr (ab @hs (ab @dL (ab (@cP _ aC aC (λ_=>gS _)) (@cP _ aC aC (λ_=>gS _)))))))
def LU:=PLift.up (ab @zt (ab (λs x h=> @zs ay s 66 65 x rfl h) (ab @Kg (ab @Kf (ab @Kh (ab @Ka (ab @List.map_replicate.{0,0} (ab (λs y q=>(uC ay s 66 y q).1) (ab (λs y q=>(uC ay s 66 y q).2.1) (ab (λs y q=>(uC ay s 66 y q).2.2) @Ki))))))))))
def LV:=PLift.up (ab (@J0 ay 129 102 1 1 [.c6] rfl rfl rfl (by kernel_rfl)) (ab @w7 (ab @w8 (ab @fj (ab @mn (ab @List.nil_append.{0} (ab @List.cons_append.{0} (ab (@oz ay 129 129 102 rfl rfl) (ab @oA (ab @oB (ab @oy (ab @all_nil (@qk _ hN 1 (λ_=>rfl))))))))))))))
def LW:=PLift.up (ab @zt (ab (λs x h=> @zs ay s 22 2 x rfl h) (ab @Kg (ab @Kf (ab @Kh (ab @Ka (ab @List.map_replicate.{0,0} (ab (λs y q=>(uC ay s 22 y q).1) (ab (λs y q=>(uC ay s 22 y q).2.1) (ab (λs y q=>(uC ay s 22 y q).2.2) @Ki))))))))))
def LX:=PLift.up (ab @pz (ab @oD (ab @mo (ab @hq (ab @hr (ab @hs (ab @dL (ab @or_true (ab @true_or (ab @pF (ab @List.cons_append.{0} (ab @List.nil_append.{0} (@cP _ aC aC (λ_=>gS _))))))))))))))
def LY:=PLift.up (ab @oD (ab @mo (ab @hq (ab @hr (ab @hs (ab @dL (ab @or_true (ab @true_or (@cP _ bA bA (λ_=>oK _))))))))))
def LZ:=PLift.up (ab @oD (ab @mo (ab @hq (ab @hr (ab @hs (ab @dL (ab @or_true (ab @true_or (@cP _ aC aC (λ_=>gS _))))))))))
def L0:=PLift.up (ab @oD (ab @mo (ab @hq (ab @hr (ab @hs (ab @dL (ab @or_true (ab @true_or (@cP _ h4 b4 (λ_=>EV _))))))))))
def L1:=PLift.up (ab @hq (ab @hr (ab @hs (ab @dL (@cP _ ck jZ (λ_=>x1 _))))))
theorem L2 (a0 aa r) (h:xo a0 aa=some r):bb ay 16 [.slice (a0.map aC),.int .i64 aa] (.int .i64 r) []:=by
 refine cq [0] [.tmp 4] Tryz.func16 oN λcf aF cd=>aJ ?_;refine aJ ?_;refine aU aF λ_ gG cA _=>aJ ?_;refine ba h (λdp h=>?_) λdp h=>?_
 .exact bu cA [.int .i64 (-1)]
 .exact bt (gG _ (inl (bu aF [.int .i64 (i64.wrap (aa-(a0.length:Int)))])))
theorem L3 (a0 aa r) (h:uX a0 aa=some r):bb ay 54 [.slice (a0.map hM),.int .i64 aa] (.int .i64 r) []:=by
 refine cq [0] [.tmp 4] Tryz.func54 T8 λcf aF cd=>aJ ?_;refine aJ ?_;refine aU aF λ_ gG cA _=>aJ ?_;refine ba h (λdp h=>?_) λdp h=>?_
 .exact bu cA [.int .i64 (-1)]
 .exact bt (gG _ (inl (bu aF [.int .i64 (i64.wrap (aa-(a0.length:Int)))])))
theorem L4 (a0 aa r) (h:xp a0 aa=some r):bb ay 55 [.slice (a0.map ht),.int .i64 aa] (.int .i64 r) []:=by
 refine cq [0] [.tmp 4] Tryz.func55 T9 λcf aF cd=>aJ ?_;refine aJ ?_;refine aU aF λ_ gG cA _=>aJ ?_;refine ba h (λdp h=>?_) λdp h=>?_
 .exact bu cA [.int .i64 (-1)]
 .refine bt (gG _ (inl (aU aF λ_ fm fK _=>aJ ?_)));refine b7 fK λni _ dc e3 _=>?_;show bw ay (.loop ?oN) _ _;have nj:∀n jd je,DO a0 n jd je=some r->dK ay ?oN ni (ah [(0,.slice (a0.map ht)),(1,.int .i64 jd),(5,.int .i64 je)]):=by
   refine er λ_ nk jd je h=>ep dc λ_ c5 dT fa=>aU dT λ_ eY _ l0=>aJ ?_;refine ba h (λkV h=>?_) λkV h=>?_
   .refine bt (eY _ (inl (aU dT λ_ fW fA _=>b7 fA λ_ jG ln _ _=>?_)));obtain⟨af,e4,h⟩:=aL h;obtain⟨aA,gT,h⟩:=aL h;refine ft e4 (L3 af jd _ gT) _ ?_;refine aJ ?_;refine ba h (λtw h=>?_) λtw h=>?_
    .exact bu ln [.int .i64 (-1)]
    .refine bt (jG _ (fW _ (inl (gg ?_))));exact c5 _ (inr ⟨_,cY rfl,nk aA (i64.wrap (je+1)) h⟩)
   .exact ei (l0 0 _ (fa 0 _ (e3 _ (fm _ (inl (bu aF [.int .i64 jd]))))))
  exact eN h λn h=>nj n (i64.wrap (aa-(a0.length:Int))) 0 h
theorem WA (a0 aa r) (h:xq a0 aa=some r):bb ay 30 [hc a0,.int .i64 aa] (.int .i64 r) []:=by
 refine cq [0] [.tmp 4] Tryz.func30 T_ λcf aF cd=>aJ ?_;obtain⟨af,aP,h⟩:=aL h;refine dO (L2 a0.aY aa _ aP) _ ?_;refine aU aF λ_ gh cc bj=>aJ ?_;refine ba h (λfp h=>?_) λfp h=>?_
 .exact bu cc [.int .i64 (-1)]
 .refine bt (gh _ (inl ?_));obtain⟨aA,fC,h⟩:=aL h;refine dO (L3 a0.Guard af _ fC) _ ?_;refine aU aF λ_ c5 dT _=>aJ ?_;refine ba h (λfG h=>?_) λfG h=>?_
  .exact bu dT [.int .i64 (-1)]
  .refine bt (c5 _ (inl (aJ ?_)));refine aU aF λ_ jG ln _=>aJ ?_;refine ba h (λl1 h=>?_) λl1 h=>?_
   .exact bu ln [.int .i64 (-1)]
   .refine bt (jG _ (inl ?_));obtain⟨aX,h5,h⟩:=aL h;refine dO (L4 a0.bP (i64.wrap (aA-(a0.Name.length:Int))) _ h5) _ ?_;refine aU aF λ_ qC qD _=>aJ ?_;refine ba h (λjH h=>?_) λjH h=>?_
    .exact bu qD [.int .i64 (-1)]
    .refine bt (qC _ (inl ?_));obtain⟨bj,Fb,h⟩:=aL h;refine dO (L4 a0.Next aX _ Fb) _ ?_;refine aU aF λ_ Fe Ff _=>aJ ?_;refine ba h (λx7 h=>?_) λx7 h=>?_
     .exact bu Ff [.int .i64 (-1)]
     .exact bt (Fe _ (inl (bu aF [.int .i64 bj])))
theorem WB (a0 aa r) (h:zK a0 aa=some r):bb ay 17 [.slice (a0.map hc),.int .i64 aa] (.int .i64 r) []:=by
 refine cq [0] [.tmp 4] Tryz.func17 Ua λcf aF cd=>aJ ?_;refine aJ ?_;refine aU aF λ_ gG cA _=>aJ ?_;refine ba h (λdp h=>?_) λdp h=>?_
 .exact bu cA [.int .i64 (-1)]
 .refine bt (gG _ (inl (aU aF λ_ fm fK _=>aJ ?_)));refine b7 fK λni _ dc e3 _=>?_;show bw ay (.loop ?oN) _ _;have nj:∀n jd je,DP a0 n jd je=some r->dK ay ?oN ni (ah [(0,.slice (a0.map hc)),(1,.int .i64 jd),(5,.int .i64 je)]):=by
   refine er λ_ nk jd je h=>ep dc λ_ c5 dT fa=>aU dT λ_ eY _ l0=>aJ ?_;refine ba h (λkV h=>?_) λkV h=>?_
   .refine bt (eY _ (inl (aU dT λ_ fW fA _=>b7 fA λ_ jG ln _ _=>?_)));obtain⟨af,e4,h⟩:=aL h;obtain⟨aA,gT,h⟩:=aL h;refine ft e4 (WA af jd _ gT) _ ?_;refine aJ ?_;refine ba h (λtw h=>?_) λtw h=>?_
    .exact bu ln [.int .i64 (-1)]
    .refine bt (jG _ (fW _ (inl (gg ?_))));exact c5 _ (inr ⟨_,cY rfl,nk aA (i64.wrap (je+1)) h⟩)
   .exact ei (l0 0 _ (fa 0 _ (e3 _ (fm _ (inl (bu aF [.int .i64 jd]))))))
  exact eN h λn h=>nj n (i64.wrap (aa-(a0.length:Int))) 0 h
theorem WC (a0 aa r) (h:zL a0 aa=some r):bb ay 4 [ku a0,.int .i64 aa] (.int .i64 r) []:=by
 refine cq [0] [.tmp 4] Tryz.func4 hz λcf aF cd=>aJ ?_;obtain⟨af,aP,h⟩:=aL h;refine dO (L2 a0.Start aa _ aP) _ ?_;refine aU aF λ_ gh cc _=>aJ ?_;refine ba h (λfp h=>?_) λfp h=>?_
 .exact bu cc [.int .i64 (-1)]
 .refine bt (gh _ (inl ?_));obtain⟨aA,fC,h⟩:=aL h;refine dO (WB a0.cC af _ fC) _ ?_;refine aU aF λ_ c5 dT _=>aJ ?_;refine ba h (λfG h=>?_) λfG h=>?_
  .exact bu dT [.int .i64 (-1)]
  .exact bt (c5 _ (inl (bu aF [.int .i64 aA])))
theorem vz (a0 r) (h:qp a0=some r):bb ay 7 [.slice (a0.map aC)] (.ao 1 (r.map aC)) []:=by
 refine cq [0] [.tmp 2] Tryz.func7 ph λcf aF cd=>aJ ?_;obtain⟨WD,aP,h⟩:=aL h;refine tu (ab (n4 aP) @List.map_replicate.{0,0}) [(0,.slice (a0.map aC)),(3,.ao 1 ((List.replicate (Int.toNat (a0.length:Int)) 0).map aC))] ?_;refine aU aF λ_ gh cc _=>ws [(0,.slice (a0.map aC)),(3,.ao 1 ((List.replicate (Int.toNat (a0.length:Int)) 0).map aC)),(4,.int .i64 0)] ?_;refine b7 cc λl3 _ ek fp _=>?_;show bw ay (.loop ?iC) _ _;have jj:∀n ct c7,DQ a0 n ct c7=some r->dK ay ?iC l3 (ah [(0,.slice (a0.map aC)),(3,.ao 1 (ct.map aC)),(4,.int .i64 c7)]):=by
  refine er λ_ jk ct c7 h=>ep ek λ_ fm fK b9=>aU fK λ_ jl _ dM=>aJ ?_;refine ba h (λgx h=>?_) λgx h=>?_
  .refine bt (jl _ (inl (aU fK λ_ eY hE _=>b7 hE λ_ jm _ _ _=>?_)));obtain⟨af,fb,h⟩:=aL h;obtain⟨aA,e5,h⟩:=aL h;refine jb (cD [(0,.slice (a0.map aC)),(3,.ao 1 ((List.set ct (Int.toNat c7) af).map aC)),(4,.int .i64 c7)] (λP bp=>?_) ?_)
   .simp only[aS.down,simprocAttr,fb,e5,cV e5,fj,db];exact cx (ab fb (ab e5 (ab (cV e5) @fj)))
   refine jm _ (eY _ (inl (wr [(0,.slice (a0.map aC)),(3,.ao 1 ((List.set ct (Int.toNat c7) af).map aC)),(4,.int .i64 (i64.wrap (c7+1)))] ?_)));exact fm _ (inr ⟨_,cY rfl,jk (List.set ct (Int.toNat c7) af) (i64.wrap (c7+1)) h⟩)
  .exact ei (dM 0 _ (b9 0 _ (fp _ (gh _ (inl (bu aF [.ao 1 (ct.map aC)]))))))
 exact eN h λn h=>jj n (List.replicate (Int.toNat (a0.length:Int)) 0) 0 h
theorem WE (a0 r) (h:xr a0=some r):bb ay 91 [hM a0] (bA r) []:=by
 refine cq [0] [.cell 2 112] Tryz.func91 Ub λcf aF cd=>aJ ?_;refine aJ ?_;refine aJ ?_;refine aJ ?_;exact bu aF [bA (aM.mk a0.Kind a0.Value)]
theorem L5 (a0 r) (h:uY a0=some r):bb ay 62 [.slice (a0.map hM)] (.ao 2 (r.map bA)) []:=by
 refine cq [0] [.tmp 2] Tryz.func62 Uc λcf aF cd=>aJ ?_;obtain⟨Fg,aP,h⟩:=aL h;refine tu (ab (n4 aP) @List.map_replicate.{0,0}) [(0,.slice (a0.map hM)),(3,.ao 2 ((List.replicate (Int.toNat (a0.length:Int)) (aM.mk 0 0)).map bA))] ?_;refine aU aF λ_ gh cc _=>ws [(0,.slice (a0.map hM)),(3,.ao 2 ((List.replicate (Int.toNat (a0.length:Int)) (aM.mk 0 0)).map bA)),(4,.int .i64 0)] ?_;refine b7 cc λl3 _ ek fp _=>?_;show bw ay (.loop ?iC) _ _;have jj:∀n ct c7,DR a0 n ct c7=some r->dK ay ?iC l3 (ah [(0,.slice (a0.map hM)),(3,.ao 2 (ct.map bA)),(4,.int .i64 c7)]):=by
  refine er λ_ jk ct c7 h=>ep ek λ_ fm fK b9=>aU fK λ_ jl _ dM=>aJ ?_;refine ba h (λgx h=>?_) λgx h=>?_
  .refine bt (jl _ (inl (aU fK λ_ eY hE _=>b7 hE λ_ jm _ _ _=>?_)));obtain⟨af,fb,h⟩:=aL h;obtain⟨aA,e5,h⟩:=aL h;obtain⟨aX,dr,h⟩:=aL h;refine jb (cD [(0,.slice (a0.map hM)),(3,.ao 2 ((List.set ct (Int.toNat c7) aA).map bA)),(4,.int .i64 c7)] (λP bp=>?_) ?_)
   ·(try simp only[aS.down,simprocAttr,fb,dr,cV dr,fj,db]);refine dk (WE af _ e5) (hK:= ?_);simp only[aS.down,simprocAttr,fb,dr,cV dr,fj,db];exact cx (ab fb (ab dr (ab (cV dr) @fj)))
   refine jm _ (eY _ (inl (wr [(0,.slice (a0.map hM)),(3,.ao 2 ((List.set ct (Int.toNat c7) aA).map bA)),(4,.int .i64 (i64.wrap (c7+1)))] ?_)));exact fm _ (inr ⟨_,cY rfl,jk (List.set ct (Int.toNat c7) aA) (i64.wrap (c7+1)) h⟩)
  .exact ei (dM 0 _ (b9 0 _ (fp _ (gh _ (inl (bu aF [.ao 2 (ct.map bA)]))))))
 exact eN h λn h=>jj n (List.replicate (Int.toNat (a0.length:Int)) (aM.mk 0 0)) 0 h
theorem L6 (a0 r) (h:xt a0=some r):bb ay 63 [.slice (a0.map ht)] (.ao 1 (r.map h4)) []:=by
 refine cq [0] [.tmp 2] Tryz.func63 Ud λcf aF cd=>aJ ?_;obtain⟨Fg,aP,h⟩:=aL h;refine tu (ab (n4 aP) @List.map_replicate.{0,0}) [(0,.slice (a0.map ht)),(3,.ao 1 (List.replicate (Int.toNat (a0.length:Int)) .bc))] ?_;refine aU aF λ_ gh cc _=>ws [(0,.slice (a0.map ht)),(3,.ao 1 (List.replicate (Int.toNat (a0.length:Int)) .bc)),(4,.int .i64 0)] ?_;refine b7 cc λl3 _ ek fp _=>?_;show bw ay (.loop ?iC) _ _;have jj:∀n ct c7,DS a0 n ct c7=some r->dK ay ?iC l3 (ah [(0,.slice (a0.map ht)),(3,.ao 1 (ct.map h4)),(4,.int .i64 c7)]):=by
  refine er λ_ jk ct c7 h=>ep ek λ_ fm fK b9=>aU fK λ_ jl _ dM=>aJ ?_;refine ba h (λgx h=>?_) λgx h=>?_
  .refine bt (jl _ (inl (aU fK λ_ eY hE _=>b7 hE λ_ jm _ _ _=>?_)));obtain⟨af,fb,h⟩:=aL h;obtain⟨aA,e5,h⟩:=aL h;obtain⟨aX,dr,h⟩:=aL h;refine jb (cD [(0,.slice (a0.map ht)),(3,.ao 1 ((List.set ct (Int.toNat c7) aA).map h4)),(4,.int .i64 c7)] (λP bp=>?_) ?_)
   ·(try simp only[aS.down,simprocAttr,fb,dr,cV dr,fj,db]);refine dk (L5 af _ e5) (hK:= ?_);simp only[aS.down,simprocAttr,fb,dr,cV dr,fj,db];exact cx (ab fb (ab dr (ab (cV dr) @fj)))
   refine jm _ (eY _ (inl (wr [(0,.slice (a0.map ht)),(3,.ao 1 ((List.set ct (Int.toNat c7) aA).map h4)),(4,.int .i64 (i64.wrap (c7+1)))] ?_)));exact fm _ (inr ⟨_,cY rfl,jk (List.set ct (Int.toNat c7) aA) (i64.wrap (c7+1)) h⟩)
  .exact ei (dM 0 _ (b9 0 _ (fp _ (gh _ (inl (bu aF [.ao 1 (ct.map h4)]))))))
 obtain⟨n,h⟩:=qP h;exact w5 (inr ⟨_,nQ [] rfl (jF (t:=0) (d:=.slice (a0.map ht)) rfl (mT (t:=3) (d:=.ao 1 (List.replicate (Int.toNat (a0.length:Int)) .bc)) (bd:=.ao 1 ((List.replicate (Int.toNat (a0.length:Int)) []).map h4)) rfl rfl (JJ (u:=h4) (z:=[]) (.jD _) _) (by decide) (jF (t:=4) (d:=.int .i64 0) rfl (nR)))),jj n (List.replicate (Int.toNat (a0.length:Int)) []) 0 h⟩)
theorem WG (a0 r) (h:xu a0=some r):bb ay 40 [hc a0] (fs r) []:=by
 refine cq [0] [.cell 2 68] Tryz.func40 Ue λcf aF cd=>aJ ?_;refine aJ ?_;obtain⟨af,bQ,h⟩:=aL h;refine dO (vz a0.aY _ bQ) _ ?_;obtain⟨aA,bM,h⟩:=aL h;refine dO (L5 a0.Guard _ bM) _ ?_;refine aJ ?_;obtain⟨aX,fC,h⟩:=aL h;refine dO (L6 a0.bP _ fC) _ ?_;obtain⟨bj,sd,h⟩:=aL h;refine dO (L6 a0.Next _ sd) _ ?_;exact bu aF [fs (bN.mk af aA a0.Name aX bj)]
theorem WH (a0 r) (h:zM a0=some r):bb ay 21 [.slice (a0.map hc)] (.ao 5 (r.map fs)) []:=by
 refine cq [0] [.tmp 2] Tryz.func21 Uf λcf aF cd=>aJ ?_;obtain⟨Fg,aP,h⟩:=aL h;refine tu (ab (n4 aP) @List.map_replicate.{0,0}) [(0,.slice (a0.map hc)),(3,.ao 5 (List.replicate (Int.toNat (a0.length:Int)) (.agg [.bc,.bc,(.str []),.bc,.bc])))] ?_;refine aU aF λ_ gh cc _=>ws [(0,.slice (a0.map hc)),(3,.ao 5 (List.replicate (Int.toNat (a0.length:Int)) (.agg [.bc,.bc,(.str []),.bc,.bc]))),(4,.int .i64 0)] ?_;refine b7 cc λl3 _ ek fp _=>?_;show bw ay (.loop ?iC) _ _;have jj:∀n ct c7,DT a0 n ct c7=some r->dK ay ?iC l3 (ah [(0,.slice (a0.map hc)),(3,.ao 5 (ct.map fs)),(4,.int .i64 c7)]):=by
  refine er λ_ jk ct c7 h=>ep ek λ_ fm fK b9=>aU fK λ_ jl _ dM=>aJ ?_;refine ba h (λgx h=>?_) λgx h=>?_
  .refine bt (jl _ (inl (aU fK λ_ eY hE _=>b7 hE λ_ jm _ _ _=>?_)));obtain⟨af,fb,h⟩:=aL h;obtain⟨aA,e5,h⟩:=aL h;obtain⟨aX,dr,h⟩:=aL h;refine jb (cD [(0,.slice (a0.map hc)),(3,.ao 5 ((List.set ct (Int.toNat c7) aA).map fs)),(4,.int .i64 c7)] (λP bp=>?_) ?_)
   ·(try simp only[aS.down,simprocAttr,fb,dr,cV dr,fj,db]);refine dk (WG af _ e5) (hK:= ?_);simp only[aS.down,simprocAttr,fb,dr,cV dr,fj,db];exact cx (ab fb (ab dr (ab (cV dr) @fj)))
   refine jm _ (eY _ (inl (wr [(0,.slice (a0.map hc)),(3,.ao 5 ((List.set ct (Int.toNat c7) aA).map fs)),(4,.int .i64 (i64.wrap (c7+1)))] ?_)));exact fm _ (inr ⟨_,cY rfl,jk (List.set ct (Int.toNat c7) aA) (i64.wrap (c7+1)) h⟩)
  .exact ei (dM 0 _ (b9 0 _ (fp _ (gh _ (inl (bu aF [.ao 5 (ct.map fs)]))))))
 obtain⟨n,h⟩:=qP h;exact w5 (inr ⟨_,nQ [] rfl (jF (t:=0) (d:=.slice (a0.map hc)) rfl (mT (t:=3) (d:=.ao 5 (List.replicate (Int.toNat (a0.length:Int)) (.agg [.bc,.bc,(.str []),.bc,.bc]))) (bd:=.ao 5 ((List.replicate (Int.toNat (a0.length:Int)) (bN.mk [] [] ([]:aca) [] [])).map fs)) rfl rfl (JJ (u:=fs) (z:=(bN.mk [] [] ([]:aca) [] [])) (.agg (.cons (.jD _) (.cons (.jD _) (.cons (.refl _) (.cons (.jD _) (.cons (.jD _) (.nil))))))) _) (by decide) (jF (t:=4) (d:=.int .i64 0) rfl (nR)))),jj n (List.replicate (Int.toNat (a0.length:Int)) (bN.mk [] [] ([]:aca) [] [])) 0 h⟩)
theorem AQ (a0 r) (h:s5 a0=some r):bb ay 6 [ku a0] (oL r) []:=by
 refine cq [0] [.cell 2 32] Tryz.func6 e_ λcf aF cd=>aJ ?_;refine aJ ?_;refine aJ ?_;obtain⟨af,b_,h⟩:=aL h;refine dO (vz a0.Start _ b_) _ ?_;obtain⟨aA,bH,h⟩:=aL h;refine dO (WH a0.cC _ bH) _ ?_;exact bu aF [oL (ez.mk a0.dS af aA)]
theorem rP (a0 aa a2 r) (h:oF a0 aa a2=some r):bb ay 31 [.int .i64 a0,.int .i64 aa,.int .i64 a2] (.bool r) []:=by
 refine cq [0,1,2] [.tmp 6] Tryz.func31 Ug λcf aF cd=>aJ ?_;refine tv (decide (aa<=a0)) [(6,.bool ((decide (aa<=a0))&&(decide (a0<=a2))))] ?_;exact cR aF [.bool ((decide (aa<=a0))&&(decide (a0<=a2)))]
theorem WI (a0 r) (h:zN a0=some r):bb ay 33 [.slice (a0.map aC)] (.bool r) []:=by
 refine cq [0] [.tmp 2] Tryz.func33 x3 λcf aF cd=>aJ ?_;refine aU aF λ_ b6 bl aA=>aJ ?_;refine b7 bl λhd _ cc cK _=>?_;show bw ay (.loop ?e_) _ _;have hf:∀n pG,xv a0 n pG=some r->dK ay ?e_ hd (ah [(0,.slice (a0.map aC)),(3,.int .i64 pG)]):=by
  refine er λ_ gV pG h=>ep cc λ_ gp dn cu=>aU dn λ_ ed _ b2=>aJ ?_;refine ba h (λdz h=>?_) λdz h=>?_
  .refine bt (ed _ (inl (aU dn λ_ ee dc _=>b7 dc λ_ c5 dT _ _=>?_)));obtain⟨af,eK,h⟩:=aL h;obtain⟨aA,dX,h⟩:=aL h;refine ft eK (rP af 0 63 _ dX) _ ?_;refine ba h (λjn h=>?_) λjn h=>?_
   .exact bu dT [.bool false]
   .refine bt (c5 _ (ee _ (inl (gg ?_))));exact gp _ (inr ⟨_,cY rfl,gV (i64.wrap (pG+1)) h⟩)
  .exact ei (b2 0 _ (cu 0 _ (cK _ (b6 _ (inl (bu aF [.bool true]))))))
 exact eN h λn h=>hf n 0 h
theorem Fh (a0 aa r) (h:xw a0 aa=some r):bb ay 19 [.slice (a0.map aC),.int .i64 aa] (.bool r) []:=by
 refine cq [0,1] [.tmp 4] Tryz.func19 Uh λcf aF cd=>aJ ?_;rcases gr h with⟨iN,h⟩|⟨iN,h⟩
 .obtain⟨af,bQ,h⟩:=aL h;refine ft iN (WI a0 _ bQ) _ ?_;exact cR aF [.bool af]
 .refine et iN _ ?_;exact cR aF [.bool false]
theorem WJ (a0 r) (h:zO a0=some r):bb ay 56 [.slice (a0.map aC)] (.int .i64 r) []:=by
 refine cq [0] [.tmp 2] Tryz.func56 Ui λcf aF cd=>aJ ?_;refine aU aF λ_ b6 bl aA=>aJ ?_;refine ba h (λcK h=>?_) λcK h=>?_
 .exact bu bl [.int .i64 0]
 .refine bt (b6 _ (inl (aJ ?_)));refine aU aF λ_ fm fK _=>aJ ?_;refine b7 fK λni _ dc e3 _=>?_;show bw ay (.loop ?oN) _ _;have nj:∀n e2 fk,uZ a0 n e2 fk=some r->dK ay ?oN ni (ah [(0,.slice (a0.map aC)),(3,.int .i64 e2),(4,.int .i64 fk)]):=by
   refine er λ_ nk e2 fk h=>ep dc λ_ c5 dT fa=>aU dT λ_ eY _ l0=>aJ ?_;refine ba h (λkV h=>?_) λkV h=>?_
   .refine bt (eY _ (inl (aU dT λ_ fW fA _=>b7 fA λ_ jG ln _ _=>aU ln λ_ pO pP _=>?_)));obtain⟨af,gT,h⟩:=aL h;obtain⟨aA,h6,h⟩:=aL h;refine ft gT (rP af 1 7 _ h6) _ ?_;refine ba h (λtw h=>?_) λtw h=>?_
    .exact bu pP [.int .i64 0]
    .refine bt (pO _ (inl (qB gT _ ?_)));refine jG _ (fW _ (inl (gg ?_)));exact c5 _ (inr ⟨_,cY rfl,nk (i64.wrap (e2*(i64.wrap (af+1)))) (i64.wrap (fk+1)) h⟩)
   .refine ei (l0 0 _ (fa 0 _ (e3 _ (fm _ (inl (aU aF λ_ rQ tx _=>aJ ?_))))));refine ba h (λtz h=>?_) λtz h=>?_
    .exact bu tx [.int .i64 0]
    .exact bt (rQ _ (inl (bu aF [.int .i64 e2])))
  exact eN h λn h=>nj n 1 0 h
theorem WK (a0 aa r) (h:zP a0 aa=some r):bb ay 84 [.ref (bA a0),.int .i64 aa] (.bool r) []:=by
 refine cq [0,1] [.tmp 4] Tryz.func84 Uj λcf aF cd=>aJ ?_;refine aU aF λ_ b6 bl aA=>aJ ?_;refine b7 bl λ_ gh cc _ _=>aJ ?_;refine ba h (λfp h=>?_) λfp h=>?_
 .obtain⟨af,hy,h⟩:=aL h;refine dO (rP a0.Value 0 63 _ hy) _ ?_;exact cR cc [.bool af]
 .refine aJ ?_;refine ba h (λgx h=>?_) λgx h=>?_
  .obtain⟨aA,eK,h⟩:=aL h;refine dO (rP a0.Value 0 (i64.wrap (aa-1)) _ eK) _ ?_;exact cR cc [.bool aA]
  .refine aJ ?_;refine ba h (λjn h=>?_) λjn h=>?_
   .obtain⟨aX,dr,h⟩:=aL h;refine dO (rP a0.Value 0 8 _ dr) _ ?_;exact cR cc [.bool aX]
   .refine aJ ?_;refine ba h (λl4 h=>?_) λl4 h=>?_
    .exact bu cc [.bool (a0.Value==0)]
    .exact bt (gh _ (b6 _ (inl (bu aF [.bool false]))))
theorem L7 (a0 r) (h:zQ a0=some r):bb ay 85 [.ref (bA a0)] (.int .i64 r) []:=by
 refine cq [0] [.tmp 2] Tryz.func85 Uk λcf aF cd=>aJ ?_;refine aU aF λ_ b6 bl _=>aJ ?_;refine b7 bl λ_ gh cc _ _=>aJ ?_;refine ba h (λfp h=>?_) λfp h=>?_
 .exact bu cc [.int .i64 2]
 .refine aJ ?_;refine ba h (λe3 h=>?_) λe3 h=>?_
  .exact bu cc [.int .i64 1]
  .exact bt (gh _ (b6 _ (inl (bu aF [.int .i64 0]))))
theorem Fi (a0 aa a2 r) (h:xx a0 aa a2=some r):bb ay 57 [.slice (a0.map bA),.int .i64 aa,.int .i64 a2] (.bool r) []:=by
 refine cq [0,1,2] [.tmp 6] Tryz.func57 Ul λcf aF cd=>aJ ?_;refine aU aF λ_ b6 bl aA=>aJ ?_;refine ba h (λcK h=>?_) λcK h=>?_
 .exact bu bl [.bool false]
 .refine bt (b6 _ (inl (aJ ?_)));refine aU aF λ_ fm fK _=>aJ ?_;refine b7 fK λni _ dc e3 _=>?_;show bw ay (.loop ?oN) _ _;have nj:∀n iF pH,u0 a0 aa n iF pH=some r->dK ay ?oN ni (ah [(0,.slice (a0.map bA)),(1,.int .i64 aa),(7,.int .i64 iF),(8,.int .i64 pH)]):=by
   refine er λ_ nk iF pH h=>ep dc λ_ c5 dT fa=>aU dT λ_ eY _ l0=>aJ ?_;refine ba h (λkV h=>?_) λkV h=>?_
   .refine bt (eY _ (inl (aU dT λ_ fW fA _=>b7 fA λ_ jG ln _ _=>aU ln λ_ pO pP _=>?_)));rcases gr h with⟨l4,h⟩|⟨l4,h⟩
    .refine et l4 _ ?_;refine kM rfl ?_;exact bu pP [.bool false]
    .obtain⟨af,h5,h⟩:=aL h;obtain⟨aA,hF,h⟩:=aL h;refine ft (ab l4 h5) (WK af aa _ hF) _ ?_;refine ba h (λtA h=>?_) λtA h=>?_
     .exact bu pP [.bool false]
     .refine bt (pO _ (inl ?_));obtain⟨aX,hO,h⟩:=aL h;refine AO h5 (L7 af _ hO) _ ?_;refine jG _ (fW _ (inl (gg ?_)));exact c5 _ (inr ⟨_,cY rfl,nk (i64.wrap (iF+(i64.wrap (aX-1)))) (i64.wrap (pH+1)) h⟩)
   .exact ei (l0 0 _ (fa 0 _ (e3 _ (fm _ (inl (bu aF [.bool (iF==0)]))))))
  exact eN h λn h=>nj n 1 0 h
theorem vA (a0 aa r) (h:s6 a0 aa=some r):bb ay 59 [.slice (a0.map b4),.int .i64 aa] (.bool r) []:=by
 refine cq [0,1] [.tmp 4] Tryz.func59 Um λcf aF cd=>aJ ?_;refine aU aF λ_ b6 bl aA=>aJ ?_;refine b7 bl λhd _ cc cK _=>?_;show bw ay (.loop ?e_) _ _;have hf:∀n aW,xy a0 aa n aW=some r->dK ay ?e_ hd (ah [(0,.slice (a0.map b4)),(1,.int .i64 aa),(5,.int .i64 aW)]):=by
  refine er λ_ gV aW h=>ep cc λ_ gp dn cu=>aU dn λ_ ed _ b2=>aJ ?_;refine ba h (λdz h=>?_) λdz h=>?_
  .refine bt (ed _ (inl (aU dn λ_ ee dc _=>b7 dc λ_ c5 dT _ _=>?_)));obtain⟨af,eK,h⟩:=aL h;obtain⟨aA,dX,h⟩:=aL h;refine ft eK (Fi af aa 60 _ dX) _ ?_;refine ba h (λjn h=>?_) λjn h=>?_
   .exact bu dT [.bool false]
   .refine bt (c5 _ (ee _ (inl (gg ?_))));exact gp _ (inr ⟨_,cY rfl,gV (i64.wrap (aW+1)) h⟩)
  .exact ei (b2 0 _ (cu 0 _ (cK _ (b6 _ (inl (bu aF [.bool true]))))))
 exact eN h λn h=>hf n 0 h
theorem Fj (a0 r) (h:xz a0=some r):bb ay 107 [.int .u8 (a0.toNat:Int)] (.bool r) []:=by
 refine cq [0] [.tmp 2] Tryz.func107 Un λcf aF cd=>aJ ?_;refine tv (decide (97<=(a0.toNat:Int))) [(2,.bool ((decide (97<=(a0.toNat:Int)))&&(decide ((a0.toNat:Int)<=122))))] ?_;exact cR aF [.bool ((decide (97<=(a0.toNat:Int)))&&(decide ((a0.toNat:Int)<=122)))]
theorem WL (a0 r) (h:DY a0=some r):bb ay 108 [.int .u8 (a0.toNat:Int)] (.bool r) []:=by
 refine cq [0] [.tmp 2] Tryz.func108 Uo λcf aF cd=>aJ ?_;refine tv (decide (48<=(a0.toNat:Int))) [(2,.bool ((decide (48<=(a0.toNat:Int)))&&(decide ((a0.toNat:Int)<=57))))] ?_;exact cR aF [.bool ((decide (48<=(a0.toNat:Int)))&&(decide ((a0.toNat:Int)<=57)))]
theorem L8 (a0 r) (h:zR a0=some r):bb ay 86 [.str a0] (.bool r) []:=by
 refine cq [0] [.tmp 2] Tryz.func86 Up λcf aF cd=>aJ ?_;refine aU aF λ_ b6 bl aA=>?_;rcases gr h with⟨cK,h⟩|⟨cK,h⟩
 .refine et cK _ ?_;refine kM rfl ?_;exact bu bl [.bool false]
 .rcases gr h with⟨fp,h⟩|⟨fp,h⟩
  .refine et (ab cK fp) _ ?_;refine kM rfl ?_;exact bu bl [.bool false]
  .obtain⟨af,hy,h⟩:=aL h;obtain⟨aA,fC,h⟩:=aL h;refine ft (ab cK (ab fp hy)) (Fj af _ fC) _ ?_;refine ba h (λgx h=>?_) λgx h=>?_
   .exact bu bl [.bool false]
   .refine bt (b6 _ (inl (aU aF λ_ jm x8 _=>aJ ?_)));refine b7 x8 λWM _ fA jn _=>?_;show bw ay (.loop ?kU) _ _;have kW:∀n fq,xA a0 n fq=some r->dK ay ?kU WM (ah [(0,.str a0),(3,.int .i64 fq)]):=by
     refine er λ_ kx fq h=>ep fA λ_ jG ln rJ=>aU ln λ_ pO _ kt=>aJ ?_;refine ba h (λl4 h=>?_) λl4 h=>?_
     .refine bt (pO _ (inl (aU ln λ_ vB Fk _=>b7 Fk λ_ AR WN _ _=>?_)));obtain⟨aX,hv,h⟩:=aL h;obtain⟨bj,nm,h⟩:=aL h;rcases gr h with⟨pQ,h⟩|⟨pQ,h⟩
      .obtain⟨cu,hO,h⟩:=aL h;refine dB (cD [(0,.str a0),(3,.int .i64 fq),(34,.bool (!cu))] (λP bp=>?_) ?_)
       ·(try simp only[aS.down,simprocAttr,hv,(mX pQ)]);refine dk (Fj aX _ nm) (hK:= ?_);simp only[aS.down,simprocAttr,hv,(mX pQ)];refine lM (WL aX _ hO) (hK:= ?_);simp only[aS.down,simprocAttr,hv,(mX pQ)];exact cx (ab hv (mX pQ))
       refine ba h (λtz h=>?_) λtz h=>?_
       .exact bu WN [.bool false]
       .refine bt (AR _ (vB _ (inl (gg ?_))));exact jG _ (inr ⟨_,cY rfl,kx (i64.wrap (fq+1)) h⟩)
      .refine ft (ab hv (fN pQ)) (Fj aX _ nm) _ ?_;refine w4 rfl ?_;refine bt (AR _ (vB _ (inl (gg ?_))));exact jG _ (inr ⟨_,cY rfl,kx (i64.wrap (fq+1)) h⟩)
     .exact ei (kt 0 _ (rJ 0 _ (jn _ (jm _ (inl (bu aF [.bool true]))))))
    exact eN h λn h=>kW n 0 h
theorem L9 (a0 r) (h:zS a0=some r):bb ay 58 [.str a0] (.bool r) []:=by
 refine cq [0] [.tmp 2] Tryz.func58 Uq λcf aF cd=>aJ ?_;obtain⟨af,aP,h⟩:=aL h;refine dB (cD [(2,.bool (af&&(!(a0==([116,97,117]:aca)))))] (λP bp=>?_) ?_)
 .rcases Bool.eq_false_or_eq_true (af)with k8|k8
  ·(try simp only[aS.down,simprocAttr,k8]);refine dk (L8 a0 _ aP) (hK:= ?_);simp only[aS.down,simprocAttr,k8];exact cx k8
  ·(try simp only[aS.down,simprocAttr,k8]);refine dk (L8 a0 _ aP) (hK:= ?_);simp only[aS.down,simprocAttr,k8];exact cx k8
 exact cR aF [.bool (af&&(!(a0==([116,97,117]:aca))))]
theorem WO (a0 aa r) (h:zT a0 aa=some r):bb ay 32 [.ref (dq a0),.int .i64 aa] (.bool r) []:=by
 refine cq [0,1] [.tmp 4] Tryz.func32 Ut λcf aF cd=>aJ ?_;refine aU aF λ_ b6 bl aA=>?_;obtain⟨af,bQ,h⟩:=aL h;refine dO (WJ a0.aY _ bQ) _ ?_;refine ba h (λdp h=>?_) λdp h=>?_
 .exact bu bl [.bool false]
 .refine bt (b6 _ (inl (aJ ?_)));refine aU aF λ_ jl jI _=>?_;obtain⟨aA,lD,h⟩:=aL h;refine dB (cD [(0,.ref (dq a0)),(5,.int .i64 (i64.wrap (aa+(a0.aY.length:Int)))),(34,.bool ((!aA)||((a0.Next.length:Int) !=aa)))] (λP bp=>?_) ?_)
  .rcases Bool.eq_false_or_eq_true (aA)with tB|tB
   ·(try simp only[aS.down,simprocAttr,tB]);refine dk (Fi a0.Guard (i64.wrap (aa+(a0.aY.length:Int))) 60 _ lD) (hK:= ?_);simp only[aS.down,simprocAttr,tB];exact cx tB
   ·(try simp only[aS.down,simprocAttr,tB]);refine dk (Fi a0.Guard (i64.wrap (aa+(a0.aY.length:Int))) 60 _ lD) (hK:= ?_);simp only[aS.down,simprocAttr,tB];exact cx tB
  refine ba h (λfG h=>?_) λfG h=>?_
  .exact bu jI [.bool false]
  .refine bt (jl _ (inl (aU aF λ_ fW fA _=>?_)));rcases gr h with⟨kX,h⟩|⟨kX,h⟩
   .rcases gr h with⟨l1,h⟩|⟨l1,h⟩
    .refine et (ab kX l1) _ ?_;refine kM rfl ?_;exact bu fA [.bool false]
    .refine et (ab kX l1) _ ?_;refine ba h (λj0 h=>?_) λj0 h=>?_
     .exact bu fA [.bool false]
     .refine bt (fW _ (inl ?_));obtain⟨aX,hv,h⟩:=aL h;rcases gr h with⟨jH,h⟩|⟨jH,h⟩
      .obtain⟨bj,pR,h⟩:=aL h;refine dB (cD [(4,.bool bj)] (λP bp=>?_) ?_)
       ·(try simp only[aS.down,simprocAttr,jH]);refine dk (vA a0.bP (i64.wrap (aa+(a0.aY.length:Int))) _ hv) (hK:= ?_);simp only[aS.down,simprocAttr,jH];refine lM (vA a0.Next (i64.wrap (aa+(a0.aY.length:Int))) _ pR) (hK:= ?_);simp only[aS.down,simprocAttr,jH];exact cx jH
       exact cR aF [.bool bj]
      .refine ft jH (vA a0.bP (i64.wrap (aa+(a0.aY.length:Int))) _ hv) _ ?_;exact cR aF [.bool false]
   .obtain⟨cu,hO,h⟩:=aL h;rcases gr h with⟨tz,h⟩|⟨tz,h⟩
    .refine ft (ab kX (mX tz)) (L9 a0.Name _ hO) _ ?_;refine kM rfl ?_;exact bu fA [.bool false]
    .refine ft (ab kX (fN tz)) (L9 a0.Name _ hO) _ ?_;refine ba h (λFl h=>?_) λFl h=>?_
     .exact bu fA [.bool false]
     .refine bt (fW _ (inl ?_));obtain⟨b2,kY,h⟩:=aL h;rcases gr h with⟨rR,h⟩|⟨rR,h⟩
      .obtain⟨b9,oP,h⟩:=aL h;refine dB (cD [(4,.bool b9)] (λP bp=>?_) ?_)
       ·(try simp only[aS.down,simprocAttr,rR]);refine dk (vA a0.bP (i64.wrap (aa+(a0.aY.length:Int))) _ kY) (hK:= ?_);simp only[aS.down,simprocAttr,rR];refine lM (vA a0.Next (i64.wrap (aa+(a0.aY.length:Int))) _ oP) (hK:= ?_);simp only[aS.down,simprocAttr,rR];exact cx rR
       exact cR aF [.bool b9]
      .refine ft rR (vA a0.bP (i64.wrap (aa+(a0.aY.length:Int))) _ kY) _ ?_;exact cR aF [.bool false]
theorem WQ (a0 r) (h:zU a0=some r):bb ay 18 [.ref (fF a0)] (.bool r) []:=by
 refine cq [0] [.tmp 2] Tryz.func18 Uu λcf aF cd=>aJ ?_;refine aU aF λ_ b6 bl aA=>?_;obtain⟨af,bQ,h⟩:=aL h;rcases gr h with⟨dp,h⟩|⟨dp,h⟩
 .refine tt (mX dp) (rP a0.dS 0 21 _ bQ) _ ?_;refine kM rfl ?_;exact bu bl [.bool false]
 .obtain⟨aA,bH,h⟩:=aL h;refine sL rfl (qj [(0,.ref (fF a0)),(29,.bool ((!aA)||(decide (60<(a0.cC.length:Int)))))] (λP bp=>?_) ?_)
  .rcases Bool.eq_false_or_eq_true (aA)with j1|j1
   ·(try simp only[gn.down,simprocAttr,(fN dp),j1]);refine mS (rP a0.dS 0 21 _ bQ) (hK:= ?_);simp only[gn.down,simprocAttr,(fN dp),j1];refine zn (Fh a0.Start a0.dS _ bH) (hK:= ?_);simp only[gn.down,simprocAttr,(fN dp),j1];refine⟨pD (by kernel_rfl),?_⟩;exact cx (ab (fN dp) j1)
   ·(try simp only[gn.down,simprocAttr,(fN dp),j1]);refine mS (rP a0.dS 0 21 _ bQ) (hK:= ?_);simp only[gn.down,simprocAttr,(fN dp),j1];refine zn (Fh a0.Start a0.dS _ bH) (hK:= ?_);simp only[gn.down,simprocAttr,(fN dp),j1];refine⟨pD (by kernel_rfl),?_⟩;exact cx (ab (fN dp) j1)
  refine ba h (λe3 h=>?_) λe3 h=>?_
  .exact bu bl [.bool false]
  .refine bt (b6 _ (inl (aU aF λ_ eY hE _=>aJ ?_)));refine b7 hE λWR _ lo kV _=>?_;show bw ay (.loop ?kU) _ _;have kW:∀n fq,xB a0 n fq=some r->dK ay ?kU WR (ah [(0,.ref (fF a0)),(3,.int .i64 fq)]):=by
    refine er λ_ kx fq h=>ep lo λ_ fW fA rI=>aU fA λ_ jG _ rJ=>aJ ?_;refine ba h (λl1 h=>?_) λl1 h=>?_
    .refine bt (jG _ (inl (aU fA λ_ Fm Fo _=>b7 Fo λ_ vB Fk _ _=>?_)));obtain⟨aX,hF,h⟩:=aL h;obtain⟨bj,hv,h⟩:=aL h;refine tt hF (WO aX a0.dS _ hv) _ ?_;refine ba h (λjH h=>?_) λjH h=>?_
     .exact bu Fk [.bool false]
     .refine bt (vB _ (Fm _ (inl (gg ?_))));exact fW _ (inr ⟨_,cY rfl,kx (i64.wrap (fq+1)) h⟩)
    .exact ei (rJ 0 _ (rI 0 _ (kV _ (eY _ (inl (bu aF [.bool true]))))))
   exact eN h λn h=>kW n 0 h
theorem WS (a0 r) (h:zV a0=some r):bb ay 34 [.slice (a0.map aC)] (.ao 1 (r.map aC)) []:=by
 refine cq [0] [.tmp 2] Tryz.func34 Uv λcf aF cd=>aJ ?_;obtain⟨Ph,aP,h⟩:=aL h;(try simp only[ji.down,Nat.zero_add,Nat.add_zero,reduceAdd]at aP);refine et (ab (show∀s,eD ay s 22 0 []=some (.ao 1 [],s)from λs=>by kernel_rfl) (ab (@oz ay 22 22 2 rfl rfl) (ab @oA (ab @oB (ab @mn (ab @oy (ab @all_nil (ab aP (@qk _ aC 1 λ_=>rfl))))))))) _ ?_;exact cR aF [.ao 1 (a0.map aC)]
theorem qE (a0 r) (h:nW a0=some r):bb ay 87 [.bool a0] (.int .i64 r) []:=by
 refine cq [0] [.tmp 2] Tryz.func87 Uw λcf aF cd=>aJ ?_;refine aU aF λ_ b6 bl _=>aJ ?_;refine ba h (λcK h=>?_) λcK h=>?_
 .exact bu bl [.int .i64 1]
 .exact bt (b6 _ (inl (bu aF [.int .i64 0])))
theorem WT (a0 aa r) (h:zW a0 aa=some r):bb ay 88 [.slice (a0.map bA),.int .i64 aa] (.int .i64 r) []:=by
 refine cq [0] [.tmp 4] Tryz.func88 Ux λcf aF cd=>aJ ?_;refine aJ ?_;refine aU aF λ_ gG cA _=>b7 cA λhd _ cc cK _=>?_;show bw ay (.loop ?e_) _ _;have hf:∀n bW aW,u1 a0 n bW aW=some r->dK ay ?e_ hd (ah [(0,.slice (a0.map bA)),(1,.int .i64 bW),(5,.int .i64 aW)]):=by
  refine er λ_ gV bW aW h=>ep cc λ_ gp dn cu=>aU dn λ_ ed _ b2=>aJ ?_;refine ba h (λdz h=>?_) λdz h=>?_
  .refine bt (ed _ (inl (b7 dn λ_ ee _ _ _=>?_)));obtain⟨af,sd,h⟩:=aL h;obtain⟨aA,eK,h⟩:=aL h;refine ft sd (L7 af _ eK) _ ?_;refine gg ?_;exact ee _ (gp _ (inr ⟨_,cY rfl,gV (i64.wrap (bW+1)) (i64.wrap (aW+(i64.wrap (aA-1)))) h⟩))
  .exact ei (b2 0 _ (cu 0 _ (cK _ (gG _ (inl (bu aF [.int .i64 bW]))))))
 exact eN h λn h=>hf n aa 1 h
theorem WU (a0 aa a2 r) (h:zX a0 aa a2=some r):bb ay 89 [.int .i64 a0,.int .i64 aa,.int .i64 a2] (.int .i64 r) []:=by
 refine cq [0,1,2] [.tmp 6] Tryz.func89 Uy λcf aF cd=>aJ ?_;refine aU aF λ_ b6 bl aA=>aJ ?_;refine b7 bl λ_ gh cc _ bj=>aJ ?_;refine ba h (λfp h=>?_) λfp h=>?_
 .refine et (@rh .i64 64 (by decide)) _ ?_;exact cR cc [.int .i64 (Int.tmod (i64.wrap (aa+a2)) 64)]
 .refine aJ ?_;refine ba h (λe3 h=>?_) λe3 h=>?_
  .refine et (@rh .i64 64 (by decide)) _ ?_;exact cR cc [.int .i64 (Int.tmod (i64.wrap ((i64.wrap (aa-a2))+64)) 64)]
  .refine aJ ?_;refine ba h (λfG h=>?_) λfG h=>?_
   .refine et (@rh .i64 64 (by decide)) _ ?_;exact cR cc [.int .i64 (Int.tmod (i64.wrap (aa*a2)) 64)]
   .refine aJ ?_;refine ba h (λjJ h=>?_) λjJ h=>?_
    .obtain⟨af,e4,h⟩:=aL h;refine dO (qE (aa==a2) _ e4) _ ?_;exact cR cc [.int .i64 af]
    .refine aJ ?_;refine ba h (λj0 h=>?_) λj0 h=>?_
     .obtain⟨aA,hF,h⟩:=aL h;refine dO (qE (aa !=a2) _ hF) _ ?_;exact cR cc [.int .i64 aA]
     .refine aJ ?_;refine ba h (λjH h=>?_) λjH h=>?_
      .obtain⟨aX,hO,h⟩:=aL h;refine dO (qE (decide (aa<a2)) _ hO) _ ?_;exact cR cc [.int .i64 aX]
      .refine aJ ?_;refine ba h (λnn h=>?_) λnn h=>?_
       .obtain⟨bj,x9,h⟩:=aL h;refine dO (qE (decide (aa<=a2)) _ x9) _ ?_;exact cR cc [.int .i64 bj]
       .refine aJ ?_;refine ba h (λFp h=>?_) λFp h=>?_
        .rcases gr h with⟨qF,h⟩|⟨qF,h⟩
         .obtain⟨cu,Fq,h⟩:=aL h;refine ft qF (qE (a2 !=0) _ Fq) _ ?_;exact cR cc [.int .i64 cu]
         .obtain⟨b2,Fs,h⟩:=aL h;refine ft qF (qE false _ Fs) _ ?_;exact cR cc [.int .i64 b2]
        .refine bt (gh _ (b6 _ (inl ?_)));rcases gr h with⟨qG,h⟩|⟨qG,h⟩
         .obtain⟨b9,x_,h⟩:=aL h;refine ft qG (qE true _ x_) _ ?_;exact cR aF [.int .i64 b9]
         .obtain⟨dM,Ft,h⟩:=aL h;refine ft qG (qE (a2 !=0) _ Ft) _ ?_;exact cR aF [.int .i64 dM]
theorem WV (u2:acp->acd->Int->acg) (Fu:∀a0 aa a2 r,u2 a0 aa a2=some r->bb ay 60 [.slice (a0.map bA),.slice (aa.map aC),.int .i64 a2] (.int .i64 r) []) (a0 aa a2 r) (h:D2 u2 a0 aa a2=some r):bb ay 60 [.slice (a0.map bA),.slice (aa.map aC),.int .i64 a2] (.int .i64 r) []:=by
 refine cq [0,1,2] [.tmp 6] Tryz.func60 Uz λcf aF cd=>aJ ?_;refine aU aF λ_ b6 bl aA=>?_;obtain⟨af,bQ,h⟩:=aL h;refine et bQ _ ?_;refine b7 bl λ_ gp dn _ cu=>aJ ?_;refine ba h (λsq h=>?_) λsq h=>?_
 .refine et bQ _ ?_;exact cR dn [.int .i64 af.Value]
 .refine aJ ?_;refine ba h (λgx h=>?_) λgx h=>?_
  .obtain⟨aA,eK,h⟩:=aL h;refine et (ab bQ eK) _ ?_;exact cR dn [.int .i64 aA]
  .refine aJ ?_;refine ba h (λjn h=>?_) λjn h=>?_
   .obtain⟨aX,dr,h⟩:=aL h;obtain⟨bj,e4,h⟩:=aL h;refine dB (cD [(6,.int .i64 bj)] (λP bp=>?_) ?_)
    ·(try simp only[aS.down,simprocAttr]);refine dk (Fu a0 aa (i64.wrap (a2+1)) _ dr) (hK:= ?_);simp only[aS.down,simprocAttr];refine dk (qE (aX==0) _ e4) (hK:= ?_);simp only[aS.down,simprocAttr];exact cx trivial
    exact cR dn [.int .i64 bj]
   .refine bt (gp _ (b6 _ (inl ?_)));obtain⟨cu,h6,h⟩:=aL h;refine dO (Fu a0 aa (i64.wrap (a2+1)) _ h6) _ ?_;obtain⟨b2,hF,h⟩:=aL h;obtain⟨b9,hv,h⟩:=aL h;refine dB (cD [(0,.slice (a0.map bA)),(2,.int .i64 a2),(7,.int .i64 cu),(8,.int .i64 b9)] (λP bp=>?_) ?_)
    ·(try simp only[aS.down,simprocAttr]);refine dk (WT a0 (i64.wrap (a2+1)) _ hF) (hK:= ?_);simp only[aS.down,simprocAttr];refine dk (Fu a0 aa b2 _ hv) (hK:= ?_);simp only[aS.down,simprocAttr];exact cx trivial
    obtain⟨dM,pR,h⟩:=aL h;refine ft bQ (WU af.Value cu b9 _ pR) _ ?_;exact cR aF [.int .i64 dM]
theorem WW:∀n a0 aa a2 r,s7 n a0 aa a2=some r->bb ay 60 [.slice (a0.map bA),.slice (aa.map aC),.int .i64 a2] (.int .i64 r) []:=by
 intro n;induction n with
 |zero=>intro a0 aa a2 r h;cases(show none=some r from h)
 |succ n ih=>intro a0 aa a2 r h;exact WV (s7 n) ih a0 aa a2 r h
theorem WX (a0 aa a2 r) (h:D3 a0 aa a2=some r):bb ay 60 [.slice (a0.map bA),.slice (aa.map aC),.int .i64 a2] (.int .i64 r) []:=by
 obtain⟨n,h⟩:=qP h;exact WW n a0 aa a2 r h
theorem L_ (a0 aa r) (h:s8 a0 aa=some r):bb ay 35 [.slice (a0.map bA),.slice (aa.map aC)] (.int .i64 r) []:=by
 refine cq [0,1] [.tmp 4] Tryz.func35 UA λcf aF cd=>aJ ?_;obtain⟨af,aP,h⟩:=aL h;refine dO (WX a0 aa 0 _ aP) _ ?_;exact cR aF [.int .i64 af]
theorem Ma (a0 aa r) (h:s9 a0 aa=some r):bb ay 37 [.slice (a0.map b4),.slice (aa.map aC)] (.ao 1 (r.map aC)) []:=by
 refine cq [0,1] [.tmp 4] Tryz.func37 UB λcf aF cd=>aJ ?_;refine et (show∀s,eD ay s 22 0 []=some (.ao 1 [],s)from λs=>by kernel_rfl) _ ?_;refine aU aF λ_ gG cA _=>aJ ?_;refine b7 cA λoQ _ dn dp _=>?_;show bw ay (.loop ?iC) _ _;have jj:∀n eb iv,u3 a0 aa n eb iv=some r->dK ay ?iC oQ (ah [(0,.slice (a0.map b4)),(1,.slice (aa.map aC)),(5,.ao 1 (eb.map aC)),(6,.int .i64 iv)]):=by
  refine er λ_ jk eb iv h=>ep dn λ_ ed ek b2=>aU ek λ_ fm _ b9=>aJ ?_;refine ba h (λe3 h=>?_) λe3 h=>?_
  .refine bt (fm _ (inl (aU ek λ_ c5 dT _=>b7 dT λ_ eY _ _ _=>?_)));obtain⟨af,dX,h⟩:=aL h;obtain⟨aA,fb,h⟩:=aL h;obtain⟨u16,e5,h⟩:=aL h;(try simp only[ji.down,Nat.zero_add,Nat.add_zero,reduceAdd]at e5);refine AO (ab dX (ab (show∀s,eD ay s 22 1 [(0,.int .i64 aA)]=some (.ao 1 [.int .i64 aA],s)from λs=>by kernel_rfl) (ab (@oz ay 22 22 2 rfl rfl) (ab @oA (ab @oB (ab @mn (ab @oy (ab @all_nil (ab e5 (@qk _ aC 1 λ_=>rfl)))))))))) (L_ af aa _ fb) [(0,.slice (a0.map b4)),(1,.slice (aa.map aC)),(5,.ao 1 ((eb++[aA]).map aC)),(6,.int .i64 iv)] ?_;refine eY _ (c5 _ (inl (wr [(0,.slice (a0.map b4)),(1,.slice (aa.map aC)),(5,.ao 1 ((eb++[aA]).map aC)),(6,.int .i64 (i64.wrap (iv+1)))] ?_)));exact ed _ (inr ⟨_,cY rfl,jk (eb++[aA]) (i64.wrap (iv+1)) h⟩)
  .exact ei (b9 0 _ (b2 0 _ (dp _ (gG _ (inl (bu aF [.ao 1 (eb.map aC)]))))))
 exact eN h λn h=>jj n [] 0 h
theorem WY (a0 r) (h:xC a0=some r):bb ay 90 [.int .i64 a0] (.str r) []:=by
 refine cq [0] [.tmp 2] Tryz.func90 UC λcf aF cd=>aJ ?_;refine aU aF λ_ b6 bl _=>aJ ?_;refine ba h (λcK h=>?_) λcK h=>?_
 .exact bu bl [.str ([48]:aca)]
 .refine bt (b6 _ (inl (et (show∀s,eD ay s 85 0 []=some (.ao 1 [],s)from λs=>by kernel_rfl) _ ?_)));refine aU aF λ_ fm fK _=>aJ ?_;refine b7 fK λni _ dc e3 _=>?_;have nj:∀n e2 fk,qs a0 n e2 fk=some r->dK ay Ln ni (ah [(0,.int .i64 a0),(3,.ao 1 (e2.map gD)),(4,.int .i64 fk)]):=by
   refine er λm16 nk e2 fk h=>ep dc λ_ c5 dT fa=>aU dT λ_ eY _ l0=>aJ ?_;refine ba h (λkV h=>?_) λkV h=>?_
   .refine bt (eY _ (inl (aU dT λ_ fW fA _=>b7 fA λFv jG ln _ _=>et (@rh .i64 10 (by decide)) _ ?_)));have Mb:∀qq rr pI,zY (qs a0 m16) a0 qq rr pI=some r->bw ay Lm Fv (ah [(0,.int .i64 a0),(3,.ao 1 (qq.map gD)),(4,.int .i64 rr),(5,.int .i64 pI)]):=by
     intro qq rr pI h;obtain⟨WZ,h6,h⟩:=aL h;(try simp only[ji.down,Nat.zero_add,Nat.add_zero,reduceAdd]at h6);refine qB (ab (@JK ay 2 5 .u8 rfl rfl) (ab (show∀s,eD ay s 85 1 [(0,.int .u8 (u8.wrap (i64.wrap (48+pI))))]=some (.ao 1 [.int .u8 (u8.wrap (i64.wrap (48+pI)))],s)from λs=>by kernel_rfl) (ab (@oz ay 85 85 5 rfl rfl) (ab @oA (ab @oB (ab @mn (ab @oy (ab @all_nil (ab h6 @C8))))))))) [(0,.int .i64 a0),(3,.ao 1 ((qq++[(lx (i64.wrap (48+pI)))]).map gD)),(4,.int .i64 rr)] ?_;refine jG _ (fW _ (inl (qB (@JQ .i64 10 (by decide)) [(0,.int .i64 a0),(3,.ao 1 ((qq++[(lx (i64.wrap (48+pI)))]).map gD)),(4,.int .i64 (i64.wrap (Int.tdiv rr 10)))] ?_)));exact c5 _ (inr ⟨_,cY rfl,nk (qq++[(lx (i64.wrap (48+pI)))]) (i64.wrap (Int.tdiv rr 10)) h⟩)
    refine aU ln λ_ vC _ _=>aJ ?_;refine ba h (λtA h=>?_) λtA h=>?_
    .refine gg ?_;exact vC _ (inr ⟨_,cY rfl,Mb e2 fk (i64.wrap (0-(Int.tmod fk 10))) h⟩)
    .exact bt (vC _ (inr ⟨_,cY rfl,Mb e2 fk (Int.tmod fk 10) h⟩))
   .refine ei (l0 0 _ (fa 0 _ (e3 _ (fm _ (inl ?_)))));have Mc:∀lj,ru lj=some r->bw ay Lp cf (ah [(3,.ao 1 (lj.map gD))]):=by
     intro lj h;refine et (show∀s,eD ay s 85 0 []=some (.ao 1 [],s)from λs=>by kernel_rfl) _ ?_;refine aU aF λ_ ya W0 _=>aJ ?_;refine b7 W0 λW1 _ yb Fl _=>?_;have W2:∀n mZ nX,D5 lj n mZ nX=some r->dK ay Lo W1 (ah [(3,.ao 1 (lj.map gD)),(6,.ao 1 (mZ.map gD)),(7,.int .i64 nX)]):=by
      refine er λ_ W3 mZ nX h=>ep yb λ_ tC AU W4=>aU AU λ_ W5 _ W6=>aJ ?_;refine ba h (λrR h=>?_) λrR h=>?_
      .refine bt (W5 _ (inl (aU AU λ_ W7 W8 _=>b7 W8 λ_ W9 _ _ _=>?_)));obtain⟨af,Md,h⟩:=aL h;obtain⟨abL,AV,h⟩:=aL h;(try simp only[ji.down,Nat.zero_add,Nat.add_zero,reduceAdd]at AV);refine qB (ab Md (ab (cV Md) (ab (show∀s,eD ay s 85 1 [(0,.int .u8 (af.toNat:Int))]=some (.ao 1 [.int .u8 (af.toNat:Int)],s)from λs=>by kernel_rfl) (ab (@oz ay 85 85 5 rfl rfl) (ab @oA (ab @oB (ab @mn (ab @oy (ab @all_nil (ab AV @C8)))))))))) [(3,.ao 1 (lj.map gD)),(6,.ao 1 ((mZ++[af]).map gD)),(7,.int .i64 nX)] ?_;refine W9 _ (W7 _ (inl (wr [(3,.ao 1 (lj.map gD)),(6,.ao 1 ((mZ++[af]).map gD)),(7,.int .i64 (i64.wrap (nX-1)))] ?_)));exact tC _ (inr ⟨_,cY rfl,W3 (mZ++[af]) (i64.wrap (nX-1)) h⟩)
      .refine ei (W6 2 _ (W4 2 _ (Fl _ (ya _ (inl (et (ab ((@JM ay 85 9 5 rfl rfl rfl).2.2) (ab @JP @JN)) _ ?_))))));exact cR aF [.str mZ]
     exact eN h λn h=>W2 n [] (i64.wrap ((lj.length:Int)-1)) h
    refine aU aF λ_ rQ _ _=>aJ ?_;refine ba h (λFw h=>?_) λFw h=>?_
    .obtain⟨abM,AW,h⟩:=aL h;(try simp only[ji.down,Nat.zero_add,Nat.add_zero,reduceAdd]at AW);refine qB (ab (show∀s,eD ay s 85 1 [(0,.int .u8 45)]=some (.ao 1 [.int .u8 45],s)from λs=>by kernel_rfl) (ab (@oz ay 85 85 5 rfl rfl) (ab @oA (ab @oB (ab @mn (ab @oy (ab @all_nil (ab AW @C8)))))))) [(3,.ao 1 ((e2++[(45:UInt8)]).map gD))] ?_;exact rQ _ (inr ⟨_,cY rfl,Mc (e2++[(45:UInt8)]) h⟩)
    .exact bt (rQ _ (inr ⟨_,cY rfl,Mc e2 h⟩))
  exact eN h λn h=>nj n [] a0 h
theorem W_ (a0 r) (h:z1 a0=some r):bb ay 61 [.slice (a0.map aC)] (.str r) []:=by
 refine cq [0] [.tmp 2] Tryz.func61 UD λcf aF cd=>aJ ?_;refine aU aF λ_ b6 bl aA=>aJ ?_;refine ba h (λcK h=>?_) λcK h=>?_
 .exact bu bl [.str ([45]:aca)]
 .refine bt (b6 _ (inl (aJ ?_)));refine aU aF λ_ fm fK _=>aJ ?_;refine b7 fK λni _ dc e3 _=>?_;have nj:∀n e2 fk,s_ a0 n e2 fk=some r->dK ay Lr ni (ah [(0,.slice (a0.map aC)),(3,.str e2),(4,.int .i64 fk)]):=by
   refine er λm16 nk e2 fk h=>ep dc λ_ c5 dT fa=>aU dT λ_ eY _ l0=>aJ ?_;refine ba h (λkV h=>?_) λkV h=>?_
   .refine bt (eY _ (inl (aU dT λ_ fW fA _=>b7 fA λFv jG ln _ _=>?_)));have Me:∀qt qu,zZ (s_ a0 m16) a0 qt qu=some r->bw ay Lq Fv (ah [(0,.slice (a0.map aC)),(3,.str qt),(4,.int .i64 qu)]):=by
     intro qt qu h;obtain⟨af,gT,h⟩:=aL h;obtain⟨aA,h6,h⟩:=aL h;obtain⟨Xa,h5,h⟩:=aL h;(try simp only[ji.down,Nat.zero_add,Nat.add_zero,reduceAdd]at h5);refine AO (ab gT (ab h5 (ab @pw @px))) (WY af _ h6) [(0,.slice (a0.map aC)),(3,.str (qt++aA)),(4,.int .i64 qu)] ?_;refine jG _ (fW _ (inl (wr [(0,.slice (a0.map aC)),(3,.str (qt++aA)),(4,.int .i64 (i64.wrap (qu+1)))] ?_)));exact c5 _ (inr ⟨_,cY rfl,nk (qt++aA) (i64.wrap (qu+1)) h⟩)
    refine aU ln λ_ pO _ _=>aJ ?_;refine ba h (λjH h=>?_) λjH h=>?_
    .obtain⟨abN,hO,h⟩:=aL h;(try simp only[ji.down,Nat.zero_add,Nat.add_zero,reduceAdd]at hO);refine qB (ab hO (ab @pw @px)) [(0,.slice (a0.map aC)),(3,.str (e2++([44]:aca))),(4,.int .i64 fk)] ?_;exact pO _ (inr ⟨_,cY rfl,Me (e2++([44]:aca)) fk h⟩)
    .exact bt (pO _ (inr ⟨_,cY rfl,Me e2 fk h⟩))
   .exact ei (l0 0 _ (fa 0 _ (e3 _ (fm _ (inl (bu aF [.str e2]))))))
  exact eN h λn h=>nj n ([]:aca) 0 h
theorem Xb (a0 aa r) (h:xD a0 aa=some r):bb ay 36 [.str a0,.slice (aa.map aC)] (.str r) []:=by
 refine cq [0,1] [.tmp 4] Tryz.func36 UE λcf aF cd=>aJ ?_;refine aU aF λ_ b6 bl _=>aJ ?_;refine ba h (λcK h=>?_) λcK h=>?_
 .exact bu bl [.str a0]
 .refine bt (b6 _ (inl ?_));obtain⟨Mf,bH,h⟩:=aL h;(try simp only[ji.down,Nat.zero_add,Nat.add_zero,reduceAdd]at bH);obtain⟨af,hy,h⟩:=aL h;obtain⟨Mf,fC,h⟩:=aL h;(try simp only[ji.down,Nat.zero_add,Nat.add_zero,reduceAdd]at fC);obtain⟨Mf,lD,h⟩:=aL h;(try simp only[ji.down,Nat.zero_add,Nat.add_zero,reduceAdd]at lD);refine ft (ab bH (ab @pw (ab @px (ab fC lD)))) (W_ aa _ hy) [(4,.str (((a0++([40]:aca))++af)++([41]:aca)))] ?_;exact cR aF [.str (((a0++([40]:aca))++af)++([41]:aca))]
theorem Xc (a0 aa r) (h:z6 a0 aa=some r):bb ay 39 [.ao 1 (a0.map aC),.slice (aa.map aC)] (.bool r.1) [.ao 1 (r.2.map aC),.hole]:=by
 refine cq [0,1] [.tmp 4] Tryz.func39 UF λcf aF cd=>aJ ?_;refine aU aF λ_ b6 bl aA=>aJ ?_;refine b7 bl λhd _ cc cK _=>?_;show bw ay (.loop ?e_) _ _;have hf:∀n cl aW,u4 aa n cl aW=some r->dK ay ?e_ hd (ah [(0,.ao 1 (cl.map aC)),(1,.slice (aa.map aC)),(5,.int .i64 aW)]):=by
  refine er λ_ gV cl aW h=>ep cc λ_ gp dn cu=>aU dn λ_ ed _ b2=>aJ ?_;refine ba h (λdz h=>?_) λdz h=>?_
  .refine bt (ed _ (inl (aU dn λ_ ee dc _=>b7 dc λ_ c5 dT _ _=>aU dT λ_ eY hE _=>?_)));obtain⟨af,dX,h⟩:=aL h;obtain⟨aA,fb,h⟩:=aL h;refine x5 (ab dX (ab (cV dX) fb)) _ ?_;refine ba h (λjJ h=>?_) λjJ h=>?_
   .refine dB (cD [(0,.ao 1 ((List.set cl (Int.toNat aW) (i64.wrap (af+1))).map aC))] (λP bp=>?_) ?_)
    .simp only[aS.down,simprocAttr,dX,cV dX,fj,db];exact cx (ab dX (ab (cV dX) @fj))
    refine ws [(0,.ao 1 ((List.set cl (Int.toNat aW) (i64.wrap (af+1))).map aC)),(4,.bool true)] ?_;exact ld (hE _ (inl (lf [.bool true] rfl (by cases fP h;rfl) (by decide) (lN (ke (by cases fP h;rfl) rfl rfl rfl (jV (lO)))))))
   .refine bt (eY _ (inl (jb (cD [(0,.ao 1 ((List.set cl (Int.toNat aW) 0).map aC)),(1,.slice (aa.map aC)),(5,.int .i64 aW)] (λP bp=>?_) ?_))))
    .simp only[aS.down,simprocAttr,dX,cV dX,fj,db];exact cx (ab dX (ab (cV dX) @fj))
    refine c5 _ (ee _ (inl (wr [(0,.ao 1 ((List.set cl (Int.toNat aW) 0).map aC)),(1,.slice (aa.map aC)),(5,.int .i64 (i64.wrap (aW-1)))] ?_)));exact gp _ (inr ⟨_,cY rfl,gV (List.set cl (Int.toNat aW) 0) (i64.wrap (aW-1)) h⟩)
  .refine ei (b2 0 _ (cu 0 _ (cK _ (b6 _ (inl (aJ ?_))))));exact ld (aF _ (inl (lf [.bool false] rfl (by cases fP h;rfl) (by decide) (lN (ke (by cases fP h;rfl) rfl rfl rfl (jV (lO)))))))
 exact eN h λn h=>hf n a0 (i64.wrap ((a0.length:Int)-1)) h
theorem Xd (a0 aa r) (h:z7 a0 aa=some r):bb ay 38 [.slice (a0.map aC),.slice (aa.map aC)] (.bool r) []:=by
 refine cq [0,1] [.tmp 4] Tryz.func38 UG λcf aF cd=>aJ ?_;refine aU aF λ_ b6 bl aA=>aJ ?_;refine ba h (λcK h=>?_) λcK h=>?_
 .exact bu bl [.bool false]
 .refine bt (b6 _ (inl (aU aF λ_ ed ek _=>aJ ?_)));refine b7 ek λnp _ jI dz _=>?_;show bw ay (.loop ?kU) _ _;have kW:∀n c8,u5 a0 aa n c8=some r->dK ay ?kU np (ah [(0,.slice (a0.map aC)),(1,.slice (aa.map aC)),(5,.int .i64 c8)]):=by
   refine er λ_ kx c8 h=>ep jI λ_ ee dc dN=>aU dc λ_ c5 _ fa=>aJ ?_;refine ba h (λfG h=>?_) λfG h=>?_
   .refine bt (c5 _ (inl (aU dc λ_ l5 lo _=>b7 lo λ_ fW fA _ _=>?_)));obtain⟨af,dr,h⟩:=aL h;obtain⟨aA,e4,h⟩:=aL h;refine x5 (ab dr e4) _ ?_;refine ba h (λl4 h=>?_) λl4 h=>?_
    .exact bu fA [.bool false]
    .refine bt (fW _ (l5 _ (inl (gg ?_))));exact ee _ (inr ⟨_,cY rfl,kx (i64.wrap (c8+1)) h⟩)
   .exact ei (fa 0 _ (dN 0 _ (dz _ (ed _ (inl (bu aF [.bool true]))))))
  exact eN h λn h=>kW n 0 h
theorem Xe (a0 aa r) (h:xE a0 aa=some r):bb ay 20 [.ref (fF a0),.slice (aa.map aC)] (.ao 2 (r.map ck)) []:=by
 refine bb.S7 (fx:=[0,1]) uW [.tmp 4] [(0,.ref (fF a0)),(1,.slice (aa.map aC))] Tryz.func20 rfl rfl U5 (le_of_ble_eq_true rfl) U4 rfl rfl λcf aF cd=>?_;refine aJ ?_;refine et (show∀s,eD ay s 27 0 []=some (.ao 2 [],s)from λs=>by kernel_rfl) _ ?_;refine aU aF λ_ gG cA aX=>aJ ?_;refine b7 cA λoQ _ dn dp cu=>?_;have jj:∀n eb iv,oH a0 aa n eb iv=some r->dK ay Lv oQ (ah [(0,.ref (fF a0)),(1,.slice (aa.map aC)),(5,.ao 2 (eb.map ck)),(6,.int .i64 iv)]):=by
  refine er λm8 jk eb iv h=>ep dn λ_ ed ek b2=>aU ek λ_ fm _ b9=>aJ ?_;refine ba h (λe3 h=>?_) λe3 h=>?_
  .refine bt (fm _ (inl (aU ek λ_ c5 dT _=>b7 dT λ_ eY hE _ _=>?_)));obtain⟨af,dX,h⟩:=aL h;refine et dX _ ?_;obtain⟨Mg,e5,h⟩:=aL h;refine tu (ab (n4 e5) @List.map_replicate.{0,0}) [(0,.ref (fF a0)),(1,.slice (aa.map aC)),(5,.ao 2 (eb.map ck)),(6,.int .i64 iv),(7,.ref (dq af)),(8,.ao 1 ((List.replicate (Int.toNat (af.aY.length:Int)) 0).map aC))] ?_;refine b7 hE λFx _ pP kX _=>?_;have Xf:∀n na nb iw,oG (oH a0 aa m8) a0 aa af n na nb iw=some r->dK ay Lu Fx (ah [(0,.ref (fF a0)),(1,.slice (aa.map aC)),(5,.ao 2 (na.map ck)),(6,.int .i64 nb),(7,.ref (dq af)),(8,.ao 1 (iw.map aC))]):=by
    refine er λm22 Xg na nb iw h=>ep pP λ_ vC AX rK=>b7 AX λXh Fm Fo _ xY=>?_;obtain⟨aA,h5,h⟩:=aL h;obtain⟨Mg,hF,h⟩:=aL h;(try simp only[ji.down,Nat.zero_add,Nat.add_zero,reduceAdd]at hF);refine K2 [(0,.ref (fF a0)),(1,.slice (aa.map aC)),(5,.ao 2 (na.map ck)),(6,.int .i64 nb),(7,.ref (dq af)),(8,.ao 1 (iw.map aC)),(9,.ao 1 ((aA++iw).map aC))] [(1,.slice (aa.map aC)),(8,.slice (iw.map aC))] (.ao 1 ((aA++iw).map aC)) rfl (by simp only[j.b5,j.fU,Bool.and_self, @iP _ aC (λ_=>qA _)]) ?_ (λP bp=>?_) (λP bp=>?_) ?_
    .simp only[aS.down,simprocAttr,qo,LQ.down]
    ·(try simp only[aS.down,simprocAttr,E3.down,hF]);refine dk (WS aa _ h5) (hK:= ?_);simp only[aS.down,simprocAttr,E3.down,hF];exact cx (ab E3.down hF)
    .exact bp
    have Fy:∀qw qx u6,qv (oH a0 aa m8) (oG (oH a0 aa m8) a0 aa af m22) a0 aa af qw qx u6=some r->bw ay Lt Xh (ah [(0,.ref (fF a0)),(1,.slice (aa.map aC)),(5,.ao 2 (qw.map ck)),(6,.int .i64 qx),(7,.ref (dq af)),(8,.ao 1 (u6.map aC))]):=by
     intro qw qx u6 h;obtain⟨aX,pR,h⟩:=aL h;refine dB (cD [(0,.ref (fF a0)),(1,.slice (aa.map aC)),(5,.ao 2 (qw.map ck)),(6,.int .i64 qx),(7,.ref (dq af)),(8,.ao 1 (aX.2.map aC)),(103,.bool (!aX.1))] (λP bp=>?_) ?_)
     ·(try simp only[aS.down,simprocAttr]);refine oC [⟨.h 8 [],true,_,_⟩,⟨.slice (af.aY.map aC),false,_,.hole⟩] (Xc u6 af.aY _ pR) rfl rfl rfl (by simp only[aS.down,simprocAttr,LR.down]) rfl rfl (inl rfl) ?_;simp only[aS.down,simprocAttr,mq];exact cx trivial
     refine ba h (λFz h=>?_) λFz h=>?_
     .refine ei (xY 2 _ (by decide) (rK 2 _ (kX _ (eY _ (c5 _ (inl (gg ?_)))))));exact ed _ (inr ⟨_,cY rfl,jk qw (i64.wrap (qx+1)) h⟩)
     .exact bt (Fm _ (vC _ (inr ⟨_,cY rfl,Xg qw qx aX.2 h⟩)))
    refine aU Fo λ_ yc FA _=>?_;obtain⟨bj,FB,h⟩:=aL h;refine dB (cD [(0,.ref (fF a0)),(1,.slice (aa.map aC)),(5,.ao 2 (na.map ck)),(6,.int .i64 nb),(7,.ref (dq af)),(8,.ao 1 (iw.map aC)),(9,.ao 1 ((aA++iw).map aC)),(45,.bool (bj !=0))] (λP bp=>?_) ?_)
    ·(try simp only[aS.down,simprocAttr]);refine dk (L_ af.Guard (aA++iw) _ FB) rfl rfl (by simp only[aS.down,simprocAttr,E4.down]<;>rfl) rfl (inr (by rfl)) ?_;simp only[aS.down,simprocAttr];exact cx trivial
    refine ba h (λx7 h=>?_) λx7 h=>?_
    .obtain⟨cu,kY,h⟩:=aL h;obtain⟨b2,FC,h⟩:=aL h;obtain⟨b9,oP,h⟩:=aL h;refine sL rfl (qj [(0,.ref (fF a0)),(1,.slice (aa.map aC)),(5,.ao 2 (na.map ck)),(6,.int .i64 nb),(7,.ref (dq af)),(8,.ao 1 (iw.map aC)),(10,.aV (.agg [.str b2,.ao 1 (b9.map aC)]))] (λP bp=>?_) ?_)
     ·(try simp only[gn.down,simprocAttr,x6.down,eJ,d_]);refine mS (Ma af.bP (aA++iw) _ kY) rfl rfl (by simp only[gn.down,simprocAttr,E5.down,eJ,d_]<;>rfl) rfl (inr (iP (λ_=>qA _) _)) ?_;simp only[gn.down,simprocAttr,x6.down,eJ,d_];refine mS (Xb af.Name cu _ FC) rfl rfl (by simp only[gn.down,simprocAttr,E5.down,eJ,d_]<;>rfl) rfl (inr (by rfl)) ?_;simp only[gn.down,simprocAttr,x6.down,eJ,d_];refine mS (Ma af.Next (aA++iw) _ oP) rfl rfl (by simp only[gn.down,simprocAttr,E5.down,eJ,d_]<;>rfl) rfl (inr (iP (λ_=>qA _) _)) ?_;simp only[gn.down,simprocAttr,x6.down,eJ,d_];refine⟨pD (by kernel_rfl),?_⟩;exact cx x6.down
     refine aJ ?_;refine aU FA λ_ FD FE _=>aJ ?_;refine b7 FE λXi _ Xj qG _=>?_;have Xk:∀n jf ki kj kP kk rv lT,ta (oH a0 aa m8) (oG (oH a0 aa m8) a0 aa af m22) a0 aa af n jf ki kj kP kk rv lT=some r->dK ay Ls Xi (ah [(0,.ref (fF a0)),(1,.slice (aa.map aC)),(5,.ao 2 (jf.map ck)),(6,.int .i64 ki),(7,.ref (dq af)),(8,.ao 1 (kj.map aC)),(10,.aV (.agg [.str kP,.ao 1 (kk.map aC)])),(11,.bool rv),(12,.int .i64 lT)]):=by
      refine er λ_ FF jf ki kj kP kk rv lT h=>ep Xj λ_ FG Mh Xl=>aU Mh λ_ Xm _ Xn=>aJ ?_;refine ba h (λFw h=>?_) λFw h=>?_
      .refine bt (Xm _ (inl (aU Mh λ_ FH Xo _=>b7 Xo λ_ FI _ _ _=>?_)));rcases gr h with⟨tD,h⟩|⟨tD,h⟩
       .refine LP tD _ ?_;refine FI _ (FH _ (inl (gg ?_)));exact FG _ (inr ⟨_,cY rfl,FF jf ki kj kP kk true (i64.wrap (lT+1)) h⟩)
       .obtain⟨dM,pS,h⟩:=aL h;rcases gr h with⟨kZ,h⟩|⟨kZ,h⟩
        .obtain⟨dN,Xp,h⟩:=aL h;refine Jy rfl (qj [(0,.ref (fF a0)),(1,.slice (aa.map aC)),(5,.ao 2 (jf.map ck)),(6,.int .i64 ki),(7,.ref (dq af)),(8,.ao 1 (kj.map aC)),(10,.aV (.agg [.str kP,.ao 1 (kk.map aC)])),(11,.bool dN),(12,.int .i64 lT)] (λP bp=>?_) ?_)
         ·(try simp only[gn.down,simprocAttr,tD,pS,cV pS,kZ]);refine zn (Xd dM.Next kk _ Xp) rfl rfl (by simp only[gn.down,simprocAttr,tD,pS,cV pS,kZ,LS.down]<;>rfl) rfl (inr (by rfl)) ?_;simp only[gn.down,simprocAttr,tD,pS,cV pS,kZ];refine⟨pD (by kernel_rfl),?_⟩;exact cx (ab tD (ab pS (ab (cV pS) kZ)))
         refine FI _ (FH _ (inl (gg ?_)));exact FG _ (inr ⟨_,cY rfl,FF jf ki kj kP kk dN (i64.wrap (lT+1)) h⟩)
        .refine LP (ab tD (ab pS (ab (cV pS) kZ))) _ ?_;refine FI _ (FH _ (inl (gg ?_)));exact FG _ (inr ⟨_,cY rfl,FF jf ki kj kP kk false (i64.wrap (lT+1)) h⟩)
      .refine ei (Xn 4 _ (Xl 4 _ (qG _ (FD _ (inl (aJ ?_))))));refine ba h (λXq h=>?_) λXq h=>?_
       .obtain⟨Mg,FJ,h⟩:=aL h;(try simp only[E6.down,Nat.zero_add,Nat.add_zero,reduceAdd]at FJ);refine jb (cD [(0,.ref (fF a0)),(1,.slice (aa.map aC)),(5,.ao 2 ((jf++[(br.mk kP kk)]).map ck)),(6,.int .i64 ki),(7,.ref (dq af)),(8,.ao 1 (kj.map aC))] (λP bp=>?_) ?_)
        .simp only[aS.down,simprocAttr,AP.down,sO,d_,FJ];(try simp only[iG.down,simprocAttr,AP.down,sO,d_,FJ]at bp⊢);exact bp
        exact yc _ (inr ⟨_,cY rfl,Fy (jf++[(br.mk kP kk)]) ki kj h⟩)
       .exact bt (yc _ (inr ⟨_,cY rfl,Fy jf ki kj h⟩))
     exact eN h λn h=>Xk n na nb iw b2 b9 false 0 h
    .exact bt (yc _ (inr ⟨_,cY rfl,Fy na nb iw h⟩))
   exact eN h λn h=>Xf n eb iv (List.replicate (Int.toNat (af.aY.length:Int)) 0) h
  .exact ei (b9 0 _ (b2 0 _ (dp _ (gG _ (inl (bu aF [.ao 2 (eb.map ck)]))))))
 exact eN h λn h=>jj n [] 0 h
theorem Xr (a0 aa r) (h:z8 a0 aa=some r):bb ay 5 [fF a0,.slice (aa.map aC)] (.tuple [.ao 2 (r.1.map ck),.int .i64 r.2]) []:=by
 refine cq [0,1] [.tmp 4,.tmp 5] Tryz.func5 ka λcf aF cd=>aJ ?_;refine aU aF λ_ b6 bl aA=>?_;obtain⟨af,bQ,h⟩:=aL h;refine dB (cD [(1,.slice (aa.map aC)),(2,.aV (fF a0)),(7,.bool (!af))] (λP bp=>?_) ?_)
 .refine dk (WQ a0 _ bQ) rfl rfl (by simp only[aS.down,simprocAttr,E7.down]<;>rfl) rfl (inr (by rfl)) ?_;simp only[aS.down,simprocAttr];exact cx trivial
 refine ba h (λdp h=>?_) λdp h=>?_
 .refine aJ ?_;exact ld (bl _ (inr ⟨[(4,.ao 2 []),(5,.int .i64 1)],nQ [] rfl (mT (t:=4) (d:=.bc) rfl rfl (.jD _) (by decide) (jF rfl (nR))),xg [.ao 2 [],.int .i64 1]⟩))
 .refine bt (b6 _ (inl (aU aF λ_ fm fK _=>?_)));obtain⟨aA,fC,h⟩:=aL h;refine dO (Fh aa a0.dS _ fC) _ ?_;refine ba h (λgx h=>?_) λgx h=>?_
  .refine aJ ?_;exact ld (fK _ (inr ⟨[(4,.ao 2 []),(5,.int .i64 2)],nQ [] rfl (mT (t:=4) (d:=.bc) rfl rfl (.jD _) (by decide) (jF rfl (nR))),xg [.ao 2 [],.int .i64 2]⟩))
  .refine bt (fm _ (inl ?_));obtain⟨aX,dX,h⟩:=aL h;refine dB (cD [(4,.ao 2 (aX.map ck)),(5,.int .i64 0)] (λP bp=>?_) ?_)
   ·(try simp only[aS.down,simprocAttr]);refine dk (Xe a0 aa _ dX) rfl rfl (by simp only[aS.down,simprocAttr,E7.down]<;>rfl) rfl (inr (iP (λ_=>vx _) _)) ?_;simp only[aS.down,simprocAttr];exact cx trivial
   exact cR aF [.ao 2 (aX.map ck),.int .i64 0]
theorem nr (a0 aa a2 r) (h:nc a0 aa a2=some r):bb ay 41 [.int .i64 a0,.int .i64 aa,.int .i64 a2] (.bool r) []:=by
 refine cq [0,1,2] [.tmp 6] Tryz.func41 U6 λcf aF cd=>aJ ?_;refine tv (decide (aa<=a0)) [(6,.bool ((decide (aa<=a0))&&(decide (a0<=a2))))] ?_;exact cR aF [.bool ((decide (aa<=a0))&&(decide (a0<=a2)))]
theorem Mi (a0 r) (h:z_ a0=some r):bb ay 73 [.int .i64 a0] (.bool r) []:=by
 refine cq [0] [.tmp 2] Tryz.func73 U7 λcf aF cd=>aJ ?_;obtain⟨af,aP,h⟩:=aL h;refine dO (nr a0 0 63 _ aP) _ ?_;exact cR aF [.bool af]
theorem Xs (a0 r) (h:Aa a0=some r):bb ay 72 [.int .i64 a0] (.bool r) []:=by
 refine cq [0] [.tmp 2] Tryz.func72 U8 λcf aF cd=>aJ ?_;obtain⟨af,aP,h⟩:=aL h;refine dO (Mi a0 _ aP) _ ?_;exact cR aF [.bool (!af)]
theorem Xt (a0 r) (h:Ab a0=some r):bb ay 97 [.slice (a0.map aC),.fn 72 []] (.int .i64 r) []:=by
 refine cq [0,1] [.tmp 4] Tryz.func97 U9 λcf aF cd=>aJ ?_;refine aU aF λ_ b6 bl aA=>aJ ?_;refine b7 bl λhd _ cc cK _=>?_;show bw ay (.loop ?e_) _ _;have hf:∀n fE,xF a0 n fE=some r->dK ay ?e_ hd (ah [(0,.slice (a0.map aC)),(1,.fn 72 []),(7,.int .i64 (a0.length:Int)),(8,.int .i64 fE)]):=by
  refine er λ_ gV fE h=>ep cc λ_ gp dn cu=>aJ ?_;refine aU dn λ_ fm _ b9=>ba h (λdz h=>?_) λdz h=>?_
  .refine bt (fm _ (inl (aU dn λ_ ee dc _=>b7 dc λ_ c5 dT _ _=>aJ ?_)));obtain⟨af,dX,h⟩:=aL h;obtain⟨aA,fb,h⟩:=aL h;refine ft dX (Xs af _ fb) _ ?_;refine ba h (λjJ h=>?_) λjJ h=>?_
   .exact bu dT [.int .i64 fE]
   .refine bt (c5 _ (ee _ (inl (gg ?_))));exact gp _ (inr ⟨_,cY rfl,gV (i64.wrap (fE+1)) h⟩)
  .exact ei (b9 0 _ (cu 0 _ (cK _ (b6 _ (inl (bu aF [.int .i64 (-1)]))))))
 exact eN h λn h=>hf n 0 h
theorem Xu (a0 r) (h:Ac a0=some r):bb ay 71 [.slice (a0.map aC),.fn 72 []] (.bool r) []:=by
 refine cq [0,1] [.tmp 4] Tryz.func71 U_ λcf aF cd=>aJ ?_;obtain⟨af,aP,h⟩:=aL h;refine dO (Xt a0 _ aP) _ ?_;exact cR aF [.bool (decide (0<=af))]
theorem Mj (a0 r) (h:u7 a0=some r):bb ay 45 [.slice (a0.map aC)] (.bool r) []:=by
 refine cq [0] [.tmp 2] Tryz.func45 Va λcf aF cd=>aJ ?_;obtain⟨af,aP,h⟩:=aL h;refine dO (Xu a0 _ aP) _ ?_;exact cR aF [.bool (!af)]
theorem FK (a0 aa r) (h:xG a0 aa=some r):bb ay 23 [fF a0,.slice (aa.map aC)] (.bool r) []:=by
 refine cq [0,1] [.tmp 4] Tryz.func23 Vb λcf aF cd=>aJ ?_;rcases gr h with⟨iN,h⟩|⟨iN,h⟩
 .obtain⟨af,bQ,h⟩:=aL h;refine ft iN (Mj aa _ bQ) _ ?_;exact cR aF [.bool af]
 .refine et iN _ ?_;exact cR aF [.bool false]
theorem Mk (a0 r) (h:Ad a0=some r):bb ay 65 [dq a0] (.bool r) []:=by
 refine cq [0] [.tmp 2] Tryz.func65 Vc λcf aF cd=>aJ ?_;refine aJ ?_;refine aU aF λ_ gG cA _=>aJ ?_;refine b7 cA λoQ _ dn dp _=>?_;show bw ay (.loop ?iC) _ _;have jj:∀n ct pJ,u9 a0 n ct pJ=some r->dK ay ?iC oQ (ah [(1,.aV (dq a0)),(3,.int .i64 ct),(7,.slice (a0.aY.map aC)),(8,.int .i64 (a0.aY.length:Int)),(9,.int .i64 pJ)]):=by
  refine er λ_ jk ct pJ h=>ep dn λ_ ed ek b2=>aJ ?_;refine aU ek λ_ jl _ dM=>ba h (λe3 h=>?_) λe3 h=>?_
  .refine bt (jl _ (inl (aU ek λ_ c5 dT _=>b7 dT λ_ eY hE _ _=>?_)));obtain⟨af,dX,h⟩:=aL h;refine et dX _ ?_;refine aU hE λ_ fW fA _=>?_;obtain⟨aA,dr,h⟩:=aL h;refine dO (nr af 1 7 _ dr) _ ?_;refine ba h (λl1 h=>?_) λl1 h=>?_
   .exact bu fA [.bool false]
   .refine bt (fW _ (inl (gg ?_)));refine eY _ (c5 _ (inl (gg ?_)));exact ed _ (inr ⟨_,cY rfl,jk (i64.wrap (ct*(i64.wrap (af+1)))) (i64.wrap (pJ+1)) h⟩)
  .refine ei (dM 0 _ (b2 0 _ (dp _ (gG _ (inl (tv (decide ((a0.aY.length:Int)<=8)) [(2,.bool ((decide ((a0.aY.length:Int)<=8))&&(decide (ct<=4096))))] ?_))))));exact cR aF [.bool ((decide ((a0.aY.length:Int)<=8))&&(decide (ct<=4096)))]
 exact eN h λn h=>jj n 1 0 h
theorem Xv (a0 r) (h:Ef a0=some r):bb ay 109 [.int .u8 (a0.toNat:Int)] (.bool r) []:=by
 refine cq [0] [.tmp 2] Tryz.func109 Vd λcf aF cd=>aJ ?_;refine tv (decide (48<=(a0.toNat:Int))) [(2,.bool ((decide (48<=(a0.toNat:Int)))&&(decide ((a0.toNat:Int)<=57))))] ?_;exact cR aF [.bool ((decide (48<=(a0.toNat:Int)))&&(decide ((a0.toNat:Int)<=57)))]
theorem Ml (a0 r) (h:Af a0=some r):bb ay 92 [.str a0] (.bool r) []:=by
 refine cq [0] [.tmp 2] Tryz.func92 Ve λcf aF cd=>aJ ?_;refine aU aF λ_ b6 bl aA=>aJ ?_;refine b7 bl λhd _ cc cK _=>?_;show bw ay (.loop ?e_) _ _;have hf:∀n lU,ry a0 n lU=some r->dK ay ?e_ hd (ah [(0,.str a0),(6,.int .i64 (a0.length:Int)),(7,.int .i64 lU)]):=by
  refine er λ_ gV lU h=>ep cc λ_ gp dn cu=>aJ ?_;refine aU dn λ_ fm _ b9=>ba h (λdz h=>?_) λdz h=>?_
  .refine bt (fm _ (inl (aU dn λ_ ee dc _=>b7 dc λ_ c5 dT _ _=>aJ ?_)));obtain⟨af,dX,h⟩:=aL h;refine Wz (decide (97<=(af.toNat:Int))) dX [(0,.str a0),(3,.int .i64 lU),(4,.bool ((decide (97<=(af.toNat:Int)))&&(decide ((af.toNat:Int)<=122)))),(6,.int .i64 (a0.length:Int)),(7,.int .i64 lU)] ?_;rcases gr h with⟨jJ,h⟩|⟨jJ,h⟩
   .rcases gr h with⟨kX,h⟩|⟨kX,h⟩
    .refine et (ab jJ kX) _ ?_;refine kM rfl ?_;exact bu dT [.bool false]
    .obtain⟨aA,gT,h⟩:=aL h;refine ft (ab jJ (ab kX dX)) (Xv af _ gT) _ ?_;refine ba h (λj0 h=>?_) λj0 h=>?_
     .exact bu dT [.bool false]
     .refine bt (c5 _ (ee _ (inl (gg ?_))));exact gp _ (inr ⟨_,cY rfl,gV (i64.wrap (lU+1)) h⟩)
   .refine et jJ _ ?_;refine w4 rfl ?_;refine bt (c5 _ (ee _ (inl (gg ?_))));exact gp _ (inr ⟨_,cY rfl,gV (i64.wrap (lU+1)) h⟩)
  .refine ei (b9 0 _ (cu 0 _ (cK _ (b6 _ (inl (tv (decide (1<=(a0.length:Int))) [(2,.bool ((decide (1<=(a0.length:Int)))&&(decide ((a0.length:Int)<=10))))] ?_))))));exact cR aF [.bool ((decide (1<=(a0.length:Int)))&&(decide ((a0.length:Int)<=10)))]
 exact eN h λn h=>hf n 0 h
theorem yd (a0 r) (h:u_ a0=some r):bb ay 66 [.str a0] (.bool r) []:=by
 refine cq [0] [.tmp 2] Tryz.func66 Vf λcf aF cd=>aJ ?_;obtain⟨af,aP,h⟩:=aL h;refine dB (cD [(2,.bool (af&&(!(a0==([116,97,117]:aca)))))] (λP bp=>?_) ?_)
 .rcases Bool.eq_false_or_eq_true (af)with k8|k8
  ·(try simp only[aS.down,simprocAttr,k8]);refine dk (Ml a0 _ aP) (hK:= ?_);simp only[aS.down,simprocAttr,k8];exact cx k8
  ·(try simp only[aS.down,simprocAttr,k8]);refine dk (Ml a0 _ aP) (hK:= ?_);simp only[aS.down,simprocAttr,k8];exact cx k8
 exact cR aF [.bool (af&&(!(a0==([116,97,117]:aca))))]
theorem Xw (aa r) (h:Ah aa=some r):bb ay 110 [.bc,.int .i64 aa] (.ao 1 []) []:=by
 refine cq [] [.tmp 4] Tryz.func110 Vg λcf aF cd=>aJ ?_;have FL:Eg aa=some r->bw ay Ly cf (ah [(0,.bc),(1,.int .i64 aa),(6,.bool (decide (aa<0)))]):=by
  intro h;have ye:Ag=some r->bw ay Lx cf (ah [(0,.ao 1 [])]):=by
   intro h;exact bu aF [.ao 1 []]
  refine aU aF λ_ gG _ _=>et (ab @zt λs x h=> @zs ay s 66 65 x rfl h) _ ?_;refine aJ ?_;refine ba h (λsq h=>?_) λsq h=>?_
  .obtain⟨Xx,fC,h⟩:=aL h;refine jb (cD [(0,.ao 1 [])] (λP bp=>?_) ?_)
   .simp only[aS.down,simprocAttr,LU.down,n4 fC,hI,-Int.reduceNatCast',pA];(try simp only[iG.down,simprocAttr,LU.down,n4 fC,hI,-Int.reduceNatCast',pA]at bp⊢);exact bp
   exact gG _ (inr ⟨_,cY rfl,ye h⟩)
  .exact bt (gG _ (inr ⟨_,nQ [] rfl (mT (t:=0) (d:=.bc) (bd:=.ao 1 []) rfl rfl (.jD _) (by decide) (nR)),ye h⟩))
 refine aU aF λ_ b6 _ _=>aJ ?_;refine ba h (λlp h=>?_) λlp h=>?_
 .cases h
 .exact bt (b6 _ (inr ⟨_,cY rfl,FL h⟩))
theorem Xy (a0 r) (h:Ai a0=some r):bb ay 94 [.slice (a0.map ll)] (.ao 1 (r.map b4)) []:=by
 refine cq [0] [.tmp 2] Tryz.func94 Vh λcf aF cd=>aJ ?_;refine aJ ?_;refine aU aF λ_ gG cA aX=>aJ ?_;refine b7 cA λoQ _ dn dp _=>?_;show bw ay (.loop ?iC) _ _;have jj:∀n ct jg,td a0 n ct jg=some r->dK ay ?iC oQ (ah [(0,.slice (a0.map ll)),(3,.int .i64 ct),(9,.slice (a0.map ll)),(10,.int .i64 (a0.length:Int)),(11,.int .i64 jg)]):=by
  refine er λm8 jk ct jg h=>ep dn λl3 ed ek b2=>aJ ?_;refine aU ek λ_ jl _ dM=>ba h (λe3 h=>?_) λe3 h=>?_
  .refine bt (jl _ (inl ?_));show bw ay (.seq _ ?x4) _ _;have FM:∀nd nf qy,Eh (td a0 m8) a0 nd nf qy=some r->bw ay ?x4 l3 (ah [(0,.slice (a0.map ll)),(3,.int .i64 nd),(9,.slice (a0.map ll)),(10,.int .i64 (a0.length:Int)),(11,.int .i64 nf),(20,.bool qy)]):=by
    intro nd nf qy h;refine gg ?_;exact ed _ (inr ⟨_,cY rfl,jk nd (i64.wrap (nf+1)) h⟩)
   refine aU ek λ_ c5 dT _=>b7 dT λ_ jm _ _ _=>?_;obtain⟨af,fb,h⟩:=aL h;refine et fb _ ?_;refine aJ ?_;refine aJ ?_;refine ba h (λl1 h=>?_) λl1 h=>?_
   .cases h
   .exact bt (jm _ (c5 _ (inr ⟨_,cY rfl,FM (i64.wrap (ct+(af.length:Int))) jg (decide ((i64.wrap (ct+(af.length:Int)))<0)) h⟩)))
  .refine ei (dM 0 _ (b2 0 _ (dp _ (gG _ (inl ?_)))));obtain⟨aA,h5,h⟩:=aL h;refine dO (Xw ct _ h5) _ ?_;refine aU aF λ_ qC qD _=>aJ ?_;refine b7 qD λFN _ tE jH _=>?_;show bw ay (.loop ?x3) _ _;have FO:∀n hD h2,tc a0 n hD h2=some r->dK ay ?x3 FN (ah [(6,.ao 1 (hD.map b4)),(25,.slice (a0.map ll)),(26,.int .i64 (a0.length:Int)),(27,.int .i64 h2)]):=by
    refine er λ_ FP hD h2 h=>ep tE λ_ rQ tx FQ=>aJ ?_;refine aU tx λ_ ya _ FR=>ba h (λnn h=>?_) λnn h=>?_
    .refine bt (ya _ (inl (aU tx λ_ FT yb _=>b7 yb λ_ tC _ _ _=>?_)));obtain⟨aX,kY,h⟩:=aL h;refine et kY _ ?_;obtain⟨Xz,oP,h⟩:=aL h;(try simp only[ji.down,Nat.zero_add,Nat.add_zero,reduceAdd]at oP);refine qB (ab (@oz ay 66 66 65 rfl rfl) (ab @oA (ab @oB (ab @mn (ab @oy (ab @all_nil (ab oP (@qk _ b4 1 λ_=>rfl)))))))) [(6,.ao 1 ((hD++aX).map b4)),(25,.slice (a0.map ll)),(26,.int .i64 (a0.length:Int)),(27,.int .i64 h2)] ?_;refine tC _ (FT _ (inl (wr [(6,.ao 1 ((hD++aX).map b4)),(25,.slice (a0.map ll)),(26,.int .i64 (a0.length:Int)),(27,.int .i64 (i64.wrap (h2+1)))] ?_)));exact rQ _ (inr ⟨_,cY rfl,FP (hD++aX) (i64.wrap (h2+1)) h⟩)
    .exact ei (FR 2 _ (FQ 2 _ (jH _ (qC _ (inl (bu aF [.ao 1 (hD.map b4)]))))))
   exact eN h λn h=>FO n [] 0 h
 exact eN h λn h=>jj n 0 0 h
theorem FU (a0 r) (h:va a0=some r):bb ay 68 [dq a0] (.ao 1 (r.map b4)) []:=by
 refine cq [0] [.tmp 2] Tryz.func68 Vi λcf aF cd=>aJ ?_;obtain⟨af,aP,h⟩:=aL h;refine dB (cD [(2,.ao 1 (af.map b4))] (λP bp=>?_) ?_)
 ·(try simp only[aS.down,simprocAttr,(show∀s,eD ay s 66 1 [(0,.slice (a0.Guard.map bA))]=some (.ao 1 [.slice (a0.Guard.map bA)],s)from λs=>by kernel_rfl),E8.down,j.shares,(show∀s,eD ay s 144 3 [(0,.slice [.slice (a0.Guard.map bA)]),(1,.slice (a0.bP.map b4)),(2,.slice (a0.Next.map b4))]=some (.ao 1 [.slice [.slice (a0.Guard.map bA)],.slice (a0.bP.map b4),.slice (a0.Next.map b4)],s)from λs=>by kernel_rfl)]);refine dk (Xy [[a0.Guard],a0.bP,a0.Next] _ aP) (hK:= ?_);simp only[aS.down,simprocAttr,(show∀s,eD ay s 66 1 [(0,.slice (a0.Guard.map bA))]=some (.ao 1 [.slice (a0.Guard.map bA)],s)from λs=>by kernel_rfl),E8.down,j.shares,(show∀s,eD ay s 144 3 [(0,.slice [.slice (a0.Guard.map bA)]),(1,.slice (a0.bP.map b4)),(2,.slice (a0.Next.map b4))]=some (.ao 1 [.slice [.slice (a0.Guard.map bA)],.slice (a0.bP.map b4),.slice (a0.Next.map b4)],s)from λs=>by kernel_rfl)];exact cx (ab (show∀s,eD ay s 66 1 [(0,.slice (a0.Guard.map bA))]=some (.ao 1 [.slice (a0.Guard.map bA)],s)from λs=>by kernel_rfl) (ab E8.down (show∀s,eD ay s 144 3 [(0,.slice [.slice (a0.Guard.map bA)]),(1,.slice (a0.bP.map b4)),(2,.slice (a0.Next.map b4))]=some (.ao 1 [.slice [.slice (a0.Guard.map bA)],.slice (a0.bP.map b4),.slice (a0.Next.map b4)],s)from λs=>by kernel_rfl)))
 exact cR aF [.ao 1 (af.map b4)]
theorem XA (a0 aa r) (h:Aj a0 aa=some r):bb ay 95 [bA a0,.int .i64 aa] (.bool r) []:=by
 refine cq [0,1] [.tmp 4] Tryz.func95 Vj λcf aF cd=>aJ ?_;refine aU aF λ_ b6 bl aA=>aJ ?_;refine b7 bl λ_ gh cc _ _=>aJ ?_;refine ba h (λfp h=>?_) λfp h=>?_
 .obtain⟨af,hy,h⟩:=aL h;refine dO (Mi a0.Value _ hy) _ ?_;exact cR cc [.bool af]
 .refine aJ ?_;refine ba h (λgx h=>?_) λgx h=>?_
  .obtain⟨aA,eK,h⟩:=aL h;refine dO (nr a0.Value 0 (i64.wrap (aa-1)) _ eK) _ ?_;exact cR cc [.bool aA]
  .refine aJ ?_;refine ba h (λjn h=>?_) λjn h=>?_
   .obtain⟨aX,dr,h⟩:=aL h;refine dO (nr a0.Value 0 8 _ dr) _ ?_;exact cR cc [.bool aX]
   .refine aJ ?_;refine ba h (λl4 h=>?_) λl4 h=>?_
    .exact bu cc [.bool (a0.Value==0)]
    .exact bt (gh _ (b6 _ (inl (bu aF [.bool false]))))
theorem Mm (a0 r) (h:Ak a0=some r):bb ay 96 [bA a0] (.int .i64 r) []:=by
 refine cq [0] [.tmp 2] Tryz.func96 Vk λcf aF cd=>aJ ?_;refine aU aF λ_ b6 bl _=>aJ ?_;refine b7 bl λ_ gh cc _ _=>aJ ?_;refine ba h (λfp h=>?_) λfp h=>?_
 .exact bu cc [.int .i64 2]
 .refine aJ ?_;refine ba h (λe3 h=>?_) λe3 h=>?_
  .exact bu cc [.int .i64 1]
  .exact bt (gh _ (b6 _ (inl (bu aF [.int .i64 0]))))
theorem XB (a0 aa a2 r) (h:Al a0 aa a2=some r):bb ay 70 [.slice (a0.map bA),.int .i64 aa,.int .i64 a2] (.bool r) []:=by
 refine cq [0,1,2] [.tmp 6] Tryz.func70 Vl λcf aF cd=>aJ ?_;refine aU aF λ_ b6 bl aA=>?_;obtain⟨af,bQ,h⟩:=aL h;rcases gr h with⟨dp,h⟩|⟨dp,h⟩
 .refine ft (mX dp) (nr aa 0 29 _ bQ) _ ?_;refine kM rfl ?_;exact bu bl [.bool false]
 .obtain⟨aA,bH,h⟩:=aL h;rcases gr h with⟨dz,h⟩|⟨dz,h⟩
  .refine dB (cD [(0,.slice (a0.map bA)),(1,.int .i64 aa),(24,.bool true)] (λP bp=>?_) ?_)
   ·(try simp only[aS.down,simprocAttr,(fN dp),(mX dz)]);refine dk (nr aa 0 29 _ bQ) (hK:= ?_);simp only[aS.down,simprocAttr,(fN dp),(mX dz)];refine lM (nr a2 1 60 _ bH) (hK:= ?_);simp only[aS.down,simprocAttr,(fN dp),(mX dz)];exact cx (ab (fN dp) (mX dz))
   refine kM rfl ?_;exact bu bl [.bool false]
  .obtain⟨aX,lD,h⟩:=aL h;refine dB (cD [(0,.slice (a0.map bA)),(1,.int .i64 aa),(24,.bool (!aX))] (λP bp=>?_) ?_)
   ·(try simp only[aS.down,simprocAttr,(fN dp),(fN dz)]);refine dk (nr aa 0 29 _ bQ) (hK:= ?_);simp only[aS.down,simprocAttr,(fN dp),(fN dz)];refine lM (nr a2 1 60 _ bH) (hK:= ?_);simp only[aS.down,simprocAttr,(fN dp),(fN dz)];refine lM (nr (a0.length:Int) 1 a2 _ lD) (hK:= ?_);simp only[aS.down,simprocAttr,(fN dp),(fN dz)];exact cx (ab (fN dp) (fN dz))
   refine ba h (λlp h=>?_) λlp h=>?_
   .exact bu bl [.bool false]
   .refine bt (b6 _ (inl (aJ ?_)));refine aU aF λ_ fW fA _=>aJ ?_;refine b7 fA λFx _ pP kX _=>?_;show bw ay (.loop ?oN) _ _;have nj:∀n iF pK,vb a0 aa n iF pK=some r->dK ay ?oN Fx (ah [(1,.int .i64 aa),(7,.int .i64 iF),(25,.slice (a0.map bA)),(26,.int .i64 (a0.length:Int)),(27,.int .i64 pK)]):=by
     refine er λ_ nk iF pK h=>ep pP λ_ vC AX rK=>aJ ?_;refine aU AX λ_ vB _ xZ=>ba h (λtw h=>?_) λtw h=>?_
     .refine bt (vB _ (inl (aU AX λ_ qC qD _=>b7 qD λ_ yc FA _ _=>?_)));obtain⟨bj,pR,h⟩:=aL h;refine et pR _ ?_;refine aU FA λ_ XC Mn _=>?_;rcases gr h with⟨nn,h⟩|⟨nn,h⟩
      .refine et nn _ ?_;refine kM rfl ?_;exact bu Mn [.bool false]
      .obtain⟨cu,x9,h⟩:=aL h;refine ft nn (XA bj aa _ x9) _ ?_;refine ba h (λXD h=>?_) λXD h=>?_
       .exact bu Mn [.bool false]
       .refine bt (XC _ (inl ?_));obtain⟨b2,oP,h⟩:=aL h;refine Wy (Mm bj _ oP) _ ?_;refine yc _ (qC _ (inl (gg ?_)));exact vC _ (inr ⟨_,cY rfl,nk (i64.wrap (iF+(i64.wrap (b2-1)))) (i64.wrap (pK+1)) h⟩)
     .exact ei (xZ 0 _ (rK 0 _ (kX _ (fW _ (inl (bu aF [.bool (iF==0)]))))))
    exact eN h λn h=>nj n 1 0 h
theorem XE (a0 aa a2 r) (h:Am a0 aa a2=some r):bb ay 69 [.slice (a0.map bA),.ref (.int .i64 aa),.ref (dq a2)] (.bool r) []:=by
 refine cq [0,1,2] [.tmp 4] Tryz.func69 Vm λcf aF cd=>aJ ?_;obtain⟨af,aP,h⟩:=aL h;refine dO (XB a0 (i64.wrap (aa+(a2.aY.length:Int))) 60 _ aP) _ ?_;exact cR aF [.bool (!af)]
theorem XF (a0 ea dH r) (h:El a0 ea dH=some r):bb ay 93 [.slice (a0.map b4),.fn 69 [.ref (.int .i64 ea),.ref (dq dH)]] (.int .i64 r) []:=by
 refine cq [0,1] [.tmp 4] Tryz.func93 Vn λcf aF cd=>aJ ?_;refine aU aF λ_ b6 bl aA=>aJ ?_;refine b7 bl λhd _ cc cK _=>?_;show bw ay (.loop ?e_) _ _;have hf:∀n fE,An a0 ea dH n fE=some r->dK ay ?e_ hd (ah [(0,.slice (a0.map b4)),(1,.fn 69 [.ref (.int .i64 ea),.ref (dq dH)]),(7,.int .i64 (a0.length:Int)),(8,.int .i64 fE)]):=by
  refine er λ_ gV fE h=>ep cc λ_ gp dn cu=>aJ ?_;refine aU dn λ_ fm _ b9=>ba h (λdz h=>?_) λdz h=>?_
  .refine bt (fm _ (inl (aU dn λ_ ee dc _=>b7 dc λ_ c5 dT _ _=>aJ ?_)));obtain⟨af,dX,h⟩:=aL h;obtain⟨aA,fb,h⟩:=aL h;refine ft dX (XE af ea dH _ fb) _ ?_;refine ba h (λjJ h=>?_) λjJ h=>?_
   .exact bu dT [.int .i64 fE]
   .refine bt (c5 _ (ee _ (inl (gg ?_))));exact gp _ (inr ⟨_,cY rfl,gV (i64.wrap (fE+1)) h⟩)
  .exact ei (b9 0 _ (cu 0 _ (cK _ (b6 _ (inl (bu aF [.int .i64 (-1)]))))))
 exact eN h λn h=>hf n 0 h
theorem FV (a0 ea dH r) (h:te a0 ea dH=some r):bb ay 67 [.slice (a0.map b4),.fn 69 [.ref (.int .i64 ea),.ref (dq dH)]] (.bool r) []:=by
 refine cq [0,1] [.tmp 4] Tryz.func67 Vo λcf aF cd=>aJ ?_;obtain⟨af,aP,h⟩:=aL h;refine dO (XF a0 ea dH _ aP) _ ?_;exact cR aF [.bool (decide (0<=af))]
theorem XG (a0 aa r) (h:Ao a0 aa=some r):bb ay 44 [dq a0,.int .i64 aa] (.bool r) []:=by
 refine cq [0,1] [.tmp 4] Tryz.func44 Vq λcf aF cd=>aJ ?_;refine aU aF λ_ b6 bl aA=>?_;obtain⟨af,bQ,h⟩:=aL h;refine dB (cD [(2,.aV (dq a0)),(3,.aV (.int .i64 aa)),(15,.bool ((!af)||((a0.Next.length:Int) !=aa)))] (λP bp=>?_) ?_)
 .rcases Bool.eq_false_or_eq_true (af)with rp|rp
  ·(try simp only[aS.down,simprocAttr,rp]);refine dk (Mk a0 _ bQ) (hK:= ?_);simp only[aS.down,simprocAttr,rp];exact cx rp
  ·(try simp only[aS.down,simprocAttr,rp]);refine dk (Mk a0 _ bQ) (hK:= ?_);simp only[aS.down,simprocAttr,rp];exact cx rp
 refine ba h (λfp h=>?_) λfp h=>?_
 .exact bu bl [.bool false]
 .refine bt (b6 _ (inl (aU aF λ_ jl jI dM=>aJ ?_)));rcases gr h with⟨lp,h⟩|⟨lp,h⟩
  .rcases gr h with⟨fG,h⟩|⟨fG,h⟩
   .refine et (ab lp fG) _ ?_;refine kM rfl ?_;exact bu jI [.bool false]
   .rcases gr h with⟨jn,h⟩|⟨jn,h⟩
    .refine et (ab lp (ab fG jn)) _ ?_;refine kM rfl ?_;exact bu jI [.bool false]
    .obtain⟨aA,dr,h⟩:=aL h;refine ft (ab lp (ab fG jn)) (yd a0.Name _ dr) _ ?_;refine ba h (λl1 h=>?_) λl1 h=>?_
     .exact bu jI [.bool false]
     .refine bt (jl _ (inl ?_));obtain⟨aX,h5,h⟩:=aL h;obtain⟨bj,hF,h⟩:=aL h;refine dB (cD [(4,.bool (!bj))] (λP bp=>?_) ?_)
      ·(try simp only[aS.down,simprocAttr]);refine dk (FU a0 _ h5) (hK:= ?_);simp only[aS.down,simprocAttr];refine dk (FV aX aa a0 _ hF) rfl rfl (by simp only[aS.down,simprocAttr,E9.down]<;>rfl) rfl (inr (by rfl)) ?_;simp only[aS.down,simprocAttr];exact cx trivial
      exact cR aF [.bool (!bj)]
  .rcases gr h with⟨tA,h⟩|⟨tA,h⟩
   .obtain⟨cu,nm,h⟩:=aL h;refine ft (ab lp tA) (yd a0.Name _ nm) _ ?_;refine ba h (λpQ h=>?_) λpQ h=>?_
    .exact bu jI [.bool false]
    .refine bt (jl _ (inl ?_));obtain⟨b2,XH,h⟩:=aL h;obtain⟨b9,FB,h⟩:=aL h;refine dB (cD [(4,.bool (!b9))] (λP bp=>?_) ?_)
     ·(try simp only[aS.down,simprocAttr]);refine dk (FU a0 _ XH) (hK:= ?_);simp only[aS.down,simprocAttr];refine dk (FV b2 aa a0 _ FB) rfl rfl (by simp only[aS.down,simprocAttr,E9.down]<;>rfl) rfl (inr (by rfl)) ?_;simp only[aS.down,simprocAttr];exact cx trivial
     exact cR aF [.bool (!b9)]
   .refine et (ab lp tA) _ ?_;refine w4 rfl ?_;refine bt (jl _ (inl ?_));obtain⟨dM,XI,h⟩:=aL h;obtain⟨dN,kY,h⟩:=aL h;refine dB (cD [(4,.bool (!dN))] (λP bp=>?_) ?_)
    ·(try simp only[aS.down,simprocAttr]);refine dk (FU a0 _ XI) (hK:= ?_);simp only[aS.down,simprocAttr];refine dk (FV dM aa a0 _ kY) rfl rfl (by simp only[aS.down,simprocAttr,E9.down]<;>rfl) rfl (inr (by rfl)) ?_;simp only[aS.down,simprocAttr];exact cx trivial
    exact cR aF [.bool (!dN)]
theorem XJ (a0 aa r) (h:Ap a0 aa=some r):bb ay 43 [dq a0,.ref (fF aa)] (.bool r) []:=by
 refine cq [0,1] [.tmp 3] Tryz.func43 Vr λcf aF cd=>aJ ?_;obtain⟨af,aP,h⟩:=aL h;refine dO (XG a0 aa.dS _ aP) _ ?_;exact cR aF [.bool (!af)]
theorem XK (a0 aa r) (h:Em a0 aa=some r):bb ay 64 [.slice (a0.map dq),.fn 43 [.ref (fF aa)]] (.int .i64 r) []:=by
 refine cq [0,1] [.tmp 4] Tryz.func64 Vs λcf aF cd=>aJ ?_;refine aU aF λ_ b6 bl aA=>aJ ?_;refine b7 bl λhd _ cc cK _=>?_;show bw ay (.loop ?e_) _ _;have hf:∀n fE,Aq a0 aa n fE=some r->dK ay ?e_ hd (ah [(0,.slice (a0.map dq)),(1,.fn 43 [.ref (fF aa)]),(7,.int .i64 (a0.length:Int)),(8,.int .i64 fE)]):=by
  refine er λ_ gV fE h=>ep cc λ_ gp dn cu=>aJ ?_;refine aU dn λ_ fm _ b9=>ba h (λdz h=>?_) λdz h=>?_
  .refine bt (fm _ (inl (aU dn λ_ ee dc _=>b7 dc λ_ c5 dT _ _=>aJ ?_)));obtain⟨af,dX,h⟩:=aL h;obtain⟨aA,fb,h⟩:=aL h;refine ft dX (XJ af aa _ fb) _ ?_;refine ba h (λjJ h=>?_) λjJ h=>?_
   .exact bu dT [.int .i64 fE]
   .refine bt (c5 _ (ee _ (inl (gg ?_))));exact gp _ (inr ⟨_,cY rfl,gV (i64.wrap (fE+1)) h⟩)
  .exact ei (b9 0 _ (cu 0 _ (cK _ (b6 _ (inl (bu aF [.int .i64 (-1)]))))))
 exact eN h λn h=>hf n 0 h
theorem XL (a0 aa r) (h:En a0 aa=some r):bb ay 42 [.slice (a0.map dq),.fn 43 [.ref (fF aa)]] (.bool r) []:=by
 refine cq [0,1] [.tmp 4] Tryz.func42 Vt λcf aF cd=>aJ ?_;obtain⟨af,aP,h⟩:=aL h;refine dO (XK a0 aa _ aP) _ ?_;exact cR aF [.bool (decide (0<=af))]
theorem XM (a0 r) (h:Ar a0=some r):bb ay 22 [fF a0] (.bool r) []:=by
 refine cq [0] [.tmp 2] Tryz.func22 Vu λcf aF cd=>aJ ?_;refine aU aF λ_ b6 bl aA=>?_;obtain⟨af,bQ,h⟩:=aL h;rcases gr h with⟨dp,h⟩|⟨dp,h⟩
 .refine ft (mX dp) (nr a0.dS 0 21 _ bQ) _ ?_;refine kM rfl ?_;exact bu bl [.bool false]
 .obtain⟨aA,bH,h⟩:=aL h;refine dB (cD [(1,.aV (fF a0)),(19,.bool ((!aA)||(decide (60<(a0.cC.length:Int)))))] (λP bp=>?_) ?_)
  .rcases Bool.eq_false_or_eq_true (aA)with j1|j1
   ·(try simp only[aS.down,simprocAttr,(fN dp),j1]);refine dk (nr a0.dS 0 21 _ bQ) (hK:= ?_);simp only[aS.down,simprocAttr,(fN dp),j1];refine lM (FK a0 a0.Start _ bH) (hK:= ?_);simp only[aS.down,simprocAttr,(fN dp),j1];exact cx (ab (fN dp) j1)
   ·(try simp only[aS.down,simprocAttr,(fN dp),j1]);refine dk (nr a0.dS 0 21 _ bQ) (hK:= ?_);simp only[aS.down,simprocAttr,(fN dp),j1];refine lM (FK a0 a0.Start _ bH) (hK:= ?_);simp only[aS.down,simprocAttr,(fN dp),j1];exact cx (ab (fN dp) j1)
  refine ba h (λe3 h=>?_) λe3 h=>?_
  .exact bu bl [.bool false]
  .refine bt (b6 _ (inl ?_));obtain⟨aX,eK,h⟩:=aL h;refine dB (cD [(2,.bool (!aX))] (λP bp=>?_) ?_)
   ·(try simp only[aS.down,simprocAttr]);refine dk (XL a0.cC a0 _ eK) rfl rfl (by simp only[aS.down,simprocAttr,E7.down]<;>rfl) rfl (inr (by rfl)) ?_;simp only[aS.down,simprocAttr];exact cx trivial
   exact cR aF [.bool (!aX)]
theorem XN (pL:acp->Option (aM×(List bY)×acp)) (XO:∀a0 r,pL a0=some r->bb ay 98 [.slice (a0.map bA)] (.tuple [.aV (.agg [bA r.1,.ao 1 (r.2.1.map hN)]),.slice (r.2.2.map bA)]) []) (a0 r) (h:Ep pL a0=some r):bb ay 98 [.slice (a0.map bA)] (.tuple [.aV (.agg [bA r.1,.ao 1 (r.2.1.map hN)]),.slice (r.2.2.map bA)]) []:=by
 refine cq [0] [.tmp 2,.tmp 3] Tryz.func98 Vv λcf aF cd=>aJ ?_;obtain⟨af,aP,h⟩:=aL h;refine et (ab aP (show∀s,hi ay s 131 [(0,.agg [.int .i64 af.Kind,.int .i64 af.Value])]=some (.agg [.agg [.int .i64 af.Kind,.int .i64 af.Value],.bc],s)from λs=>by kernel_rfl)) _ ?_;obtain⟨aA,b_,h⟩:=aL h;refine et (ab b_ (@qk _ bA 2 λ_=>rfl)) _ ?_;refine aU aF λ_ ed ek _=>?_;obtain⟨aX,hy,h⟩:=aL h;refine ft aP (Mm af _ hy) _ ?_;refine b7 ek λni _ dc e3 _=>?_;show bw ay (.loop ?E0) _ _;have FW:∀n ng jh oI,tf pL af aX n ng jh oI=some r->dK ay ?E0 ni (ah [(4,.aV (.agg [bA af,.ao 1 (ng.map hN)])),(5,.slice (jh.map bA)),(17,.int .i64 aX),(18,.int .i64 oI)]):=by
  refine er λ_ FX ng jh oI h=>ep dc λ_ c5 dT fa=>aJ ?_;refine aU dT λ_ jm _ xX=>ba h (λkV h=>?_) λkV h=>?_
  .refine bt (jm _ (inl (aU dT λ_ fW fA _=>b7 fA λ_ jG _ _ _=>aJ ?_)));obtain⟨bj,gT,h⟩:=aL h;refine dO (XO jh _ gT) _ ?_;obtain⟨Xa,h5,h⟩:=aL h;(try simp only[E6.down,Nat.zero_add,Nat.add_zero,reduceAdd]at h5);refine jb (cD [(4,.aV (.agg [bA af,.ao 1 ((ng++[(bY.mk bj.1 bj.2.1)]).map hN)])),(5,.slice (bj.2.2.map bA)),(17,.int .i64 aX),(18,.int .i64 oI)] (λP bp=>?_) ?_)
   .simp only[aS.down,simprocAttr,LV.down,sO,d_,h5];(try simp only[iG.down,simprocAttr,LV.down,sO,d_,h5]at bp⊢);exact bp
   refine jG _ (fW _ (inl (wr [(4,.aV (.agg [bA af,.ao 1 ((ng++[(bY.mk bj.1 bj.2.1)]).map hN)])),(5,.slice (bj.2.2.map bA)),(17,.int .i64 aX),(18,.int .i64 (i64.wrap (oI+1)))] ?_)));exact c5 _ (inr ⟨_,cY rfl,FX (ng++[(bY.mk bj.1 bj.2.1)]) bj.2.2 (i64.wrap (oI+1)) h⟩)
  .exact ei (xX 0 _ (fa 0 _ (e3 _ (ed _ (inl (bu aF [.aV (.agg [bA af,.ao 1 (ng.map hN)]),.slice (jh.map bA)]))))))
 obtain⟨n,h⟩:=qP h;exact w5 (inr ⟨_,nQ [] rfl (mT (t:=4) (d:=.aV (.agg [bA af,.bc])) (bd:=.aV (.agg [bA af,.ao 1 []])) rfl rfl (.aV (.agg (.cons (.refl _) (.cons (.jD _) (.nil))))) (by decide) (jF (t:=5) (d:=.slice (aA.map bA)) rfl (jF (t:=17) (d:=.int .i64 aX) rfl (jF (t:=18) (d:=.int .i64 0) rfl (nR))))),FW n [] aA 0 h⟩)
theorem XP:∀n a0 r,vc n a0=some r->bb ay 98 [.slice (a0.map bA)] (.tuple [.aV (.agg [bA r.1,.ao 1 (r.2.1.map hN)]),.slice (r.2.2.map bA)]) []:=by
 intro n;induction n with
 |zero=>intro a0 r h;cases(show none=some r from h)
 |succ n ih=>intro a0 r h;exact XN (vc n) ih a0 r h
theorem XQ (a0 r) (h:Er a0=some r):bb ay 98 [.slice (a0.map bA)] (.tuple [.aV (.agg [bA r.1,.ao 1 (r.2.1.map hN)]),.slice (r.2.2.map bA)]) []:=by
 obtain⟨n,h⟩:=qP h;exact XP n a0 r h
theorem Mo (a0 r) (h:vd a0=some r):bb ay 74 [.slice (a0.map bA)] (.aV (.agg [bA r.1,.ao 1 (r.2.map hN)])) []:=by
 refine cq [0] [.tmp 2] Tryz.func74 Vw λcf aF cd=>aJ ?_;obtain⟨af,aP,h⟩:=aL h;refine dO (XQ a0 _ aP) _ ?_;exact bu aF [.aV (.agg [bA af.1,.ao 1 (af.2.1.map hN)])]
theorem XR (aa r) (h:At aa=some r):bb ay 99 [.bc,.int .i64 aa] (.ao 1 (r.map aC)) []:=by
 refine cq [] [.tmp 4] Tryz.func99 Vx λcf aF cd=>aJ ?_;have FL:Es aa=some r->bw ay LA cf (ah [(0,.bc),(1,.int .i64 aa),(6,.bool (decide (aa<0)))]):=by
  intro h;have ye:As=some r->bw ay Lz cf (ah [(0,.ao 1 [])]):=by
   intro h;exact bu aF [.ao 1 []]
  refine aU aF λ_ gG _ _=>et (ab @zt λs x h=> @zs ay s 22 2 x rfl h) _ ?_;refine aJ ?_;refine ba h (λsq h=>?_) λsq h=>?_
  .obtain⟨Xx,fC,h⟩:=aL h;refine jb (cD [(0,.ao 1 [])] (λP bp=>?_) ?_)
   .simp only[aS.down,simprocAttr,LW.down,n4 fC,hI,-Int.reduceNatCast',pA];(try simp only[iG.down,simprocAttr,LW.down,n4 fC,hI,-Int.reduceNatCast',pA]at bp⊢);exact bp
   exact gG _ (inr ⟨_,cY rfl,ye h⟩)
  .exact bt (gG _ (inr ⟨_,nQ [] rfl (mT (t:=0) (d:=.bc) (bd:=.ao 1 []) rfl rfl (.jD _) (by decide) (nR)),ye h⟩))
 refine aU aF λ_ b6 _ _=>aJ ?_;refine ba h (λlp h=>?_) λlp h=>?_
 .cases h
 .exact bt (b6 _ (inr ⟨_,cY rfl,FL h⟩))
theorem XS (a0 r) (h:xH a0=some r):bb ay 77 [.slice (a0.map lk)] (.ao 1 (r.map aC)) []:=by
 refine cq [0] [.tmp 2] Tryz.func77 Vy λcf aF cd=>aJ ?_;refine aJ ?_;refine aU aF λ_ gG cA aX=>aJ ?_;refine b7 cA λoQ _ dn dp _=>?_;show bw ay (.loop ?iC) _ _;have jj:∀n ct jg,th a0 n ct jg=some r->dK ay ?iC oQ (ah [(0,.slice (a0.map lk)),(3,.int .i64 ct),(9,.slice (a0.map lk)),(10,.int .i64 (a0.length:Int)),(11,.int .i64 jg)]):=by
  refine er λm8 jk ct jg h=>ep dn λl3 ed ek b2=>aJ ?_;refine aU ek λ_ jl _ dM=>ba h (λe3 h=>?_) λe3 h=>?_
  .refine bt (jl _ (inl ?_));show bw ay (.seq _ ?x4) _ _;have FM:∀nd nf qy,Et (th a0 m8) a0 nd nf qy=some r->bw ay ?x4 l3 (ah [(0,.slice (a0.map lk)),(3,.int .i64 nd),(9,.slice (a0.map lk)),(10,.int .i64 (a0.length:Int)),(11,.int .i64 nf),(20,.bool qy)]):=by
    intro nd nf qy h;refine gg ?_;exact ed _ (inr ⟨_,cY rfl,jk nd (i64.wrap (nf+1)) h⟩)
   refine aU ek λ_ c5 dT _=>b7 dT λ_ jm _ _ _=>?_;obtain⟨af,fb,h⟩:=aL h;refine et fb _ ?_;refine aJ ?_;refine aJ ?_;refine ba h (λl1 h=>?_) λl1 h=>?_
   .cases h
   .exact bt (jm _ (c5 _ (inr ⟨_,cY rfl,FM (i64.wrap (ct+(af.length:Int))) jg (decide ((i64.wrap (ct+(af.length:Int)))<0)) h⟩)))
  .refine ei (dM 0 _ (b2 0 _ (dp _ (gG _ (inl ?_)))));obtain⟨aA,h5,h⟩:=aL h;refine dO (XR ct _ h5) _ ?_;refine aU aF λ_ qC qD _=>aJ ?_;refine b7 qD λFN _ tE jH _=>?_;show bw ay (.loop ?x3) _ _;have FO:∀n hD h2,tg a0 n hD h2=some r->dK ay ?x3 FN (ah [(6,.ao 1 (hD.map aC)),(25,.slice (a0.map lk)),(26,.int .i64 (a0.length:Int)),(27,.int .i64 h2)]):=by
    refine er λ_ FP hD h2 h=>ep tE λ_ rQ tx FQ=>aJ ?_;refine aU tx λ_ ya _ FR=>ba h (λnn h=>?_) λnn h=>?_
    .refine bt (ya _ (inl (aU tx λ_ FT yb _=>b7 yb λ_ tC _ _ _=>?_)));obtain⟨aX,kY,h⟩:=aL h;refine et kY _ ?_;obtain⟨Xz,oP,h⟩:=aL h;(try simp only[ji.down,Nat.zero_add,Nat.add_zero,reduceAdd]at oP);refine qB (ab (@oz ay 22 22 2 rfl rfl) (ab @oA (ab @oB (ab @mn (ab @oy (ab @all_nil (ab oP (@qk _ aC 1 λ_=>rfl)))))))) [(6,.ao 1 ((hD++aX).map aC)),(25,.slice (a0.map lk)),(26,.int .i64 (a0.length:Int)),(27,.int .i64 h2)] ?_;refine tC _ (FT _ (inl (wr [(6,.ao 1 ((hD++aX).map aC)),(25,.slice (a0.map lk)),(26,.int .i64 (a0.length:Int)),(27,.int .i64 (i64.wrap (h2+1)))] ?_)));exact rQ _ (inr ⟨_,cY rfl,FP (hD++aX) (i64.wrap (h2+1)) h⟩)
    .exact ei (FR 2 _ (FQ 2 _ (jH _ (qC _ (inl (bu aF [.ao 1 (hD.map aC)]))))))
   exact eN h λn h=>FO n aA 0 h
 exact eN h λn h=>jj n 0 0 h
theorem qH (a0 r) (h:nY a0=some r):bb ay 100 [.bool a0] (.int .i64 r) []:=by
 refine cq [0] [.tmp 2] Tryz.func100 Vz λcf aF cd=>aJ ?_;refine aU aF λ_ b6 bl _=>aJ ?_;refine ba h (λcK h=>?_) λcK h=>?_
 .exact bu bl [.int .i64 1]
 .exact bt (b6 _ (inl (bu aF [.int .i64 0])))
theorem XT (a0 aa a2 r) (h:Au a0 aa a2=some r):bb ay 101 [.int .i64 a0,.int .i64 aa,.int .i64 a2] (.int .i64 r) []:=by
 refine cq [0,1,2] [.tmp 6] Tryz.func101 VA λcf aF cd=>aJ ?_;refine aU aF λ_ b6 bl aA=>aJ ?_;refine b7 bl λ_ gh cc _ bj=>aJ ?_;refine ba h (λfp h=>?_) λfp h=>?_
 .refine et (@rh .i64 64 (by decide)) _ ?_;exact cR cc [.int .i64 (Int.tmod (i64.wrap (aa+a2)) 64)]
 .refine aJ ?_;refine ba h (λe3 h=>?_) λe3 h=>?_
  .refine et (@rh .i64 64 (by decide)) _ ?_;exact cR cc [.int .i64 (Int.tmod (i64.wrap ((i64.wrap (aa-a2))+64)) 64)]
  .refine aJ ?_;refine ba h (λfG h=>?_) λfG h=>?_
   .refine et (@rh .i64 64 (by decide)) _ ?_;exact cR cc [.int .i64 (Int.tmod (i64.wrap (aa*a2)) 64)]
   .refine aJ ?_;refine ba h (λjJ h=>?_) λjJ h=>?_
    .obtain⟨af,e4,h⟩:=aL h;refine dO (qH (aa==a2) _ e4) _ ?_;exact cR cc [.int .i64 af]
    .refine aJ ?_;refine ba h (λj0 h=>?_) λj0 h=>?_
     .obtain⟨aA,hF,h⟩:=aL h;refine dO (qH (aa !=a2) _ hF) _ ?_;exact cR cc [.int .i64 aA]
     .refine aJ ?_;refine ba h (λjH h=>?_) λjH h=>?_
      .obtain⟨aX,hO,h⟩:=aL h;refine dO (qH (decide (aa<a2)) _ hO) _ ?_;exact cR cc [.int .i64 aX]
      .refine aJ ?_;refine ba h (λnn h=>?_) λnn h=>?_
       .obtain⟨bj,x9,h⟩:=aL h;refine dO (qH (decide (aa<=a2)) _ x9) _ ?_;exact cR cc [.int .i64 bj]
       .refine aJ ?_;refine ba h (λFp h=>?_) λFp h=>?_
        .rcases gr h with⟨qF,h⟩|⟨qF,h⟩
         .obtain⟨cu,Fq,h⟩:=aL h;refine ft qF (qH (a2 !=0) _ Fq) _ ?_;exact cR cc [.int .i64 cu]
         .obtain⟨b2,Fs,h⟩:=aL h;refine ft qF (qH false _ Fs) _ ?_;exact cR cc [.int .i64 b2]
        .refine bt (gh _ (b6 _ (inl ?_)));rcases gr h with⟨qG,h⟩|⟨qG,h⟩
         .obtain⟨b9,x_,h⟩:=aL h;refine ft qG (qH true _ x_) _ ?_;exact cR aF [.int .i64 b9]
         .obtain⟨dM,Ft,h⟩:=aL h;refine ft qG (qH (a2 !=0) _ Ft) _ ?_;exact cR aF [.int .i64 dM]
theorem XU (ve:bY->acd->acg) (FY:∀a0 aa r,ve a0 aa=some r->bb ay 78 [.ref (kv a0),.slice (aa.map aC)] (.int .i64 r) []) (a0 aa r) (h:Ew ve a0 aa=some r):bb ay 78 [.ref (kv a0),.slice (aa.map aC)] (.int .i64 r) []:=by
 refine cq [0,1] [.tmp 4] Tryz.func78 VB λcf aF cd=>ws [(0,.ref (kv a0)),(1,.slice (aa.map aC))] ?_;refine aU aF λ_ b6 bl aA=>ws [(0,.ref (kv a0)),(1,.slice (aa.map aC)),(9,.int .i64 a0.term.Kind)] ?_;refine b7 bl λ_ gh cc _ bj=>ws [(0,.ref (kv a0)),(1,.slice (aa.map aC)),(9,.int .i64 a0.term.Kind),(10,.bool (a0.term.Kind==0))] ?_;refine ba h (λfp h=>?_) λfp h=>?_
 .exact bu cc [.int .i64 a0.term.Value]
 .refine ws [(0,.ref (kv a0)),(1,.slice (aa.map aC)),(9,.int .i64 a0.term.Kind),(17,.bool (a0.term.Kind==1))] ?_;refine ba h (λe3 h=>?_) λe3 h=>?_
  .obtain⟨af,sd,h⟩:=aL h;refine et sd _ ?_;exact cR cc [.int .i64 af]
  .refine ws [(0,.ref (kv a0)),(1,.slice (aa.map aC)),(27,.bool (a0.term.Kind==3))] ?_;refine ba h (λkV h=>?_) λkV h=>?_
   .obtain⟨aA,e5,h⟩:=aL h;obtain⟨aX,dr,h⟩:=aL h;obtain⟨bj,e4,h⟩:=aL h;refine dB (cD [(4,.int .i64 bj)] (λP bp=>?_) ?_)
    ·(try simp only[aS.down,simprocAttr,e5]);refine dk (FY aA aa _ dr) rfl rfl (by simp only[aS.down,simprocAttr,e5,hq,hr,hs,dL]<;>rfl) rfl (inl (by rfl)) ?_;simp only[aS.down,simprocAttr,e5];refine dk (qH (aX==0) _ e4) (hK:= ?_);simp only[aS.down,simprocAttr,e5];exact cx e5
    exact cR cc [.int .i64 bj]
   .refine bt (gh _ (b6 _ (inl ?_)));obtain⟨cu,h6,h⟩:=aL h;obtain⟨b2,h5,h⟩:=aL h;obtain⟨b9,hF,h⟩:=aL h;obtain⟨dM,hv,h⟩:=aL h;obtain⟨dN,nm,h⟩:=aL h;refine sL rfl (qj [(4,.int .i64 dN)] (λP bp=>?_) ?_)
    ·(try simp only[gn.down,simprocAttr,h6,hF]);refine mS (FY cu aa _ h5) rfl rfl (by simp only[gn.down,simprocAttr,h6,hF,hq,hr,hs,dL]<;>rfl) rfl (inl (by rfl)) ?_;simp only[gn.down,simprocAttr,h6,hF];refine mS (FY b9 aa _ hv) rfl rfl (by simp only[gn.down,simprocAttr,h6,hF,hq,hr,hs,dL]<;>rfl) rfl (inl (by rfl)) ?_;simp only[gn.down,simprocAttr,h6,hF];refine mS (XT a0.term.Value b2 dM _ nm) (hK:= ?_);simp only[gn.down,simprocAttr,h6,hF];refine⟨pD (by kernel_rfl),?_⟩;exact cx (ab h6 hF)
    exact cR aF [.int .i64 dN]
theorem XV:∀n a0 aa r,ti n a0 aa=some r->bb ay 78 [.ref (kv a0),.slice (aa.map aC)] (.int .i64 r) []:=by
 intro n;induction n with
 |zero=>intro a0 aa r h;cases(show none=some r from h)
 |succ n ih=>intro a0 aa r h;exact XU (ti n) ih a0 aa r h
theorem Mp (a0 aa r) (h:xI a0 aa=some r):bb ay 78 [.ref (kv a0),.slice (aa.map aC)] (.int .i64 r) []:=by
 obtain⟨n,h⟩:=qP h;exact XV n a0 aa r h
theorem XW (a0 aa r) (h:vf a0 aa=some r):bb ay 79 [.slice (a0.map bA),.slice (aa.map aC)] (.int .i64 r) []:=by
 refine cq [0,1] [.tmp 4] Tryz.func79 VC λcf aF cd=>aJ ?_;obtain⟨af,aP,h⟩:=aL h;obtain⟨aA,bQ,h⟩:=aL h;refine dB (cD [(4,.int .i64 aA)] (λP bp=>?_) ?_)
 ·(try simp only[aS.down,simprocAttr]);refine dk (Mo a0 _ aP) (hK:= ?_);simp only[aS.down,simprocAttr];refine dk (Mp (bY.mk af.1 af.2) aa _ bQ) rfl rfl (by simp only[aS.down,simprocAttr,hq,hr,hs,dL, @cP _ hN gH (λ_=>EY _)]<;>rfl) rfl (inr (by rfl)) ?_;simp only[aS.down,simprocAttr];exact cx trivial
 exact cR aF [.int .i64 aA]
theorem Mq (a0 aa r) (h:xJ a0 aa=some r):bb ay 49 [.slice (a0.map b4),.slice (aa.map aC)] (.ao 1 (r.map aC)) []:=by
 refine cq [0,1] [.tmp 4] Tryz.func49 VD λcf aF cd=>aJ ?_;refine aJ ?_;refine aU aF λ_ gG cA _=>aJ ?_;refine b7 cA λoQ _ dn dp _=>?_;show bw ay (.loop ?iC) _ _;have jj:∀n eb nZ,vg a0 aa n eb nZ=some r->dK ay ?iC oQ (ah [(1,.slice (aa.map aC)),(5,.ao 1 (eb.map aC)),(8,.slice (a0.map b4)),(9,.int .i64 (a0.length:Int)),(10,.int .i64 nZ)]):=by
  refine er λ_ jk eb nZ h=>ep dn λ_ ed ek b2=>aJ ?_;refine aU ek λ_ jl _ dM=>ba h (λe3 h=>?_) λe3 h=>?_
  .refine bt (jl _ (inl (aU ek λ_ c5 dT _=>b7 dT λ_ eY _ _ _=>?_)));obtain⟨af,dX,h⟩:=aL h;refine et dX _ ?_;obtain⟨aA,e5,h⟩:=aL h;obtain⟨WD,dr,h⟩:=aL h;(try simp only[ji.down,Nat.zero_add,Nat.add_zero,reduceAdd]at dr);refine AO (ab (show∀s,eD ay s 22 1 [(0,.int .i64 aA)]=some (.ao 1 [.int .i64 aA],s)from λs=>by kernel_rfl) (ab (@oz ay 22 22 2 rfl rfl) (ab @oA (ab @oB (ab @mn (ab @oy (ab @all_nil (ab dr (@qk _ aC 1 λ_=>rfl))))))))) (XW af aa _ e5) [(1,.slice (aa.map aC)),(5,.ao 1 ((eb++[aA]).map aC)),(8,.slice (a0.map b4)),(9,.int .i64 (a0.length:Int)),(10,.int .i64 nZ)] ?_;refine eY _ (c5 _ (inl (wr [(1,.slice (aa.map aC)),(5,.ao 1 ((eb++[aA]).map aC)),(8,.slice (a0.map b4)),(9,.int .i64 (a0.length:Int)),(10,.int .i64 (i64.wrap (nZ+1)))] ?_)));exact ed _ (inr ⟨_,cY rfl,jk (eb++[aA]) (i64.wrap (nZ+1)) h⟩)
  .exact ei (dM 0 _ (b2 0 _ (dp _ (gG _ (inl (bu aF [.ao 1 (eb.map aC)]))))))
 obtain⟨n,h⟩:=qP h;exact w5 (inr ⟨_,nQ [] rfl (jF (t:=1) (d:=.slice (aa.map aC)) rfl (mT (t:=5) (d:=.bc) (bd:=.ao 1 []) rfl rfl (.jD _) (by decide) (jF (t:=8) (d:=.slice (a0.map b4)) rfl (jF (t:=9) (d:=.int .i64 (a0.length:Int)) rfl (jF (t:=10) (d:=.int .i64 0) rfl (nR)))))),jj n [] 0 h⟩)
theorem XX (a0 aa:Int) (r:aca) (h:xK a0 aa=some r):bb ay 102 [.int .i64 a0,.int .i64 aa] (.str r) []:=Ww a0 aa r h
theorem XY (a0 r) (h:xL a0=some r):bb ay 80 [.int .i64 a0] (.str r) []:=by
 refine cq [0] [.tmp 2] Tryz.func80 VE λcf aF cd=>aJ ?_;obtain⟨af,aP,h⟩:=aL h;refine dO (XX a0 10 _ aP) _ ?_;exact cR aF [.str af]
theorem XZ (a0:nq) (aa:aca) (r:aca) (h:strings_Join a0 aa=some r):bb ay 81 [.slice (a0.map kT),.str aa] (.str r) []:=Wx a0 aa r h
theorem Mr (a0 aa r) (h:vi a0 aa=some r):bb ay 50 [.slice (a0.map aC),.str aa] (.str r) []:=by
 refine cq [0,1] [.tmp 4] Tryz.func50 VF λcf aF cd=>aJ ?_;obtain⟨WZ,aP,h⟩:=aL h;refine tu (ab (n4 aP) @List.map_replicate.{0,0}) [(0,.slice (a0.map aC)),(1,.str aa),(5,.ao 1 ((List.replicate (Int.toNat (a0.length:Int)) ([]:aca)).map kT))] ?_;refine aU aF λ_ gh cc bj=>ws [(1,.str aa),(5,.ao 1 ((List.replicate (Int.toNat (a0.length:Int)) ([]:aca)).map kT)),(11,.slice (a0.map aC)),(12,.int .i64 (a0.length:Int)),(13,.int .i64 0)] ?_;refine b7 cc λl3 _ ek fp _=>?_;show bw ay (.loop ?iC) _ _;have jj:∀n eb kQ,vh a0 aa n eb kQ=some r->dK ay ?iC l3 (ah [(1,.str aa),(5,.ao 1 (eb.map kT)),(11,.slice (a0.map aC)),(12,.int .i64 (a0.length:Int)),(13,.int .i64 kQ)]):=by
  refine er λ_ jk eb kQ h=>ep ek λ_ fm fK b9=>aJ ?_;refine aU fK λ_ ee _ dN=>ba h (λgx h=>?_) λgx h=>?_
  .refine bt (ee _ (inl (aU fK λ_ eY hE _=>b7 hE λ_ jm _ _ _=>?_)));obtain⟨af,fb,h⟩:=aL h;refine et fb _ ?_;obtain⟨aA,dr,h⟩:=aL h;obtain⟨aX,e4,h⟩:=aL h;refine jb (cD [(1,.str aa),(5,.ao 1 ((List.set eb (Int.toNat kQ) aA).map kT)),(11,.slice (a0.map aC)),(12,.int .i64 (a0.length:Int)),(13,.int .i64 kQ)] (λP bp=>?_) ?_)
   ·(try simp only[aS.down,simprocAttr,e4,cV e4,fj,db]);refine dk (XY af _ dr) (hK:= ?_);simp only[aS.down,simprocAttr,e4,cV e4,fj,db];exact cx (ab e4 (ab (cV e4) @fj))
   refine jm _ (eY _ (inl (wr [(1,.str aa),(5,.ao 1 ((List.set eb (Int.toNat kQ) aA).map kT)),(11,.slice (a0.map aC)),(12,.int .i64 (a0.length:Int)),(13,.int .i64 (i64.wrap (kQ+1)))] ?_)));exact fm _ (inr ⟨_,cY rfl,jk (List.set eb (Int.toNat kQ) aA) (i64.wrap (kQ+1)) h⟩)
  .refine ei (dN 0 _ (b9 0 _ (fp _ (gh _ (inl ?_)))));obtain⟨bj,h5,h⟩:=aL h;refine dB (cD [(4,.str bj)] (λP bp=>?_) ?_)
   ·(try simp only[aS.down,simprocAttr]);refine dk (XZ eb aa _ h5) rfl rfl (by simp only[aS.down,simprocAttr,hq,hr,hs,dL, @cP _ kT kT (λ_=>T3 _)]<;>rfl) rfl (inr (by rfl)) ?_;simp only[aS.down,simprocAttr];exact cx trivial
   exact cR aF [.str bj]
 exact eN h λn h=>jj n (List.replicate (Int.toNat (a0.length:Int)) ([]:aca)) 0 h
theorem X0 (a0 aa r) (h:Av a0 aa=some r):bb ay 48 [.str a0,.slice (aa.map aC)] (.tuple [.str r.1,.bool r.2]) []:=by
 refine cq [0,1] [.tmp 4,.tmp 5] Tryz.func48 VH λcf aF cd=>aJ ?_;refine aU aF λ_ b6 bl aA=>b7 bl λ_ gG cA _ aX=>aJ ?_;refine ba h (λdp h=>?_) λdp h=>?_
 .exact bu cA [.str ([116,97,117]:aca),.bool ((aa.length:Int)==0)]
 .obtain⟨aA,fC,h⟩:=aL h;rcases gr h with⟨gx,h⟩|⟨gx,h⟩
  .refine ft (mX gx) (yd a0 _ fC) _ ?_;refine kM rfl ?_;exact bu cA [.str ([]:aca),.bool false]
  .rcases gr h with⟨fG,h⟩|⟨fG,h⟩
   .refine ft (ab (fN gx) fG) (yd a0 _ fC) _ ?_;refine kM rfl ?_;exact bu cA [.str ([]:aca),.bool false]
   .obtain⟨aX,fb,h⟩:=aL h;refine dB (cD [(0,.str a0),(1,.slice (aa.map aC)),(12,.bool (!aX))] (λP bp=>?_) ?_)
    ·(try simp only[aS.down,simprocAttr,(fN gx),fG]);refine dk (yd a0 _ fC) (hK:= ?_);simp only[aS.down,simprocAttr,(fN gx),fG];refine lM (Mj aa _ fb) (hK:= ?_);simp only[aS.down,simprocAttr,(fN gx),fG];exact cx (ab (fN gx) fG)
    refine ba h (λjJ h=>?_) λjJ h=>?_
    .exact bu cA [.str ([]:aca),.bool false]
    .refine aJ ?_;refine ba h (λl4 h=>?_) λl4 h=>?_
     .exact bu cA [.str a0,.bool true]
     .refine bt (gG _ (b6 _ (inl ?_)));obtain⟨Ms,hF,h⟩:=aL h;(try simp only[ji.down,Nat.zero_add,Nat.add_zero,reduceAdd]at hF);obtain⟨bj,hv,h⟩:=aL h;obtain⟨Ms,nm,h⟩:=aL h;(try simp only[ji.down,Nat.zero_add,Nat.add_zero,reduceAdd]at nm);obtain⟨Ms,pR,h⟩:=aL h;(try simp only[ji.down,Nat.zero_add,Nat.add_zero,reduceAdd]at pR);refine ft (ab hF (ab @pw (ab @px (ab nm pR)))) (Mr aa ([44]:aca) _ hv) [(4,.str (((a0++([40]:aca))++bj)++([41]:aca))),(5,.bool true)] ?_;exact cR aF [.str (((a0++([40]:aca))++bj)++([41]:aca)),.bool true]
theorem X1 (a0 ea dH fO mB mC a2 a3 r) (h:Aw a0 ea dH fO mB mC a2 a3=some r):bb ay 47 [.slice (a0.map aC),.ref (.agg [.slice (ea.map aC),.slice (dH.map bA),.str fO,.slice (mB.map b4),.slice (mC.map b4)]),.aV (.b3 (.mp a2)),.aV (.ao 2 (a3.map ck))] (.tuple []) [.hole,.hole,.aV (.b3 (.mp r.1)),.aV (.ao 2 (r.2.map ck))]:=by
 refine cq [0,1,2,3] [] Tryz.func47 VJ λcf aF cd=>?_;obtain⟨af,aN,h⟩:=aL h;obtain⟨aA,aP,h⟩:=aL h;refine sL rfl (qj [(0,.slice (a0.map aC)),(1,.ref (.agg [.slice (ea.map aC),.slice (dH.map bA),.str fO,.slice (mB.map b4),.slice (mC.map b4)])),(2,.aV (.b3 (.mp a2))),(3,.aV (.ao 2 (a3.map ck))),(5,.str aA.1)] (λP bp=>?_) ?_)
 ·(try simp only[gn.down,simprocAttr]);refine mS (Mq mB a0 _ aN) (hK:= ?_);simp only[gn.down,simprocAttr];refine mS (X0 fO af _ aP) rfl rfl (by simp only[gn.down,simprocAttr,E4.down]<;>rfl) rfl (inr (by rfl)) ?_;simp only[gn.down,simprocAttr];refine⟨pD (by kernel_rfl),?_⟩;exact cx trivial
 obtain⟨aX,b_,h⟩:=aL h;refine ft (ab (@Db ay 53 [(9,0),(22,1)] [(.str []),.bc] rfl rfl (by kernel_rfl)) (ab @w7 (ab @w8 (ab @fj (ab @mn (ab @List.nil_append.{0} @List.cons_append.{0})))))) (Mq mC a0 _ b_) _ ?_;obtain⟨Mt,bH,h⟩:=aL h;(try simp only[ji.down,Nat.zero_add,Nat.add_zero,reduceAdd]at bH);obtain⟨bj,hy,h⟩:=aL h;obtain⟨Mt,fC,h⟩:=aL h;(try simp only[ji.down,Nat.zero_add,Nat.add_zero,reduceAdd]at fC);refine dB (cD [(2,.aV (.b3 (.mp a2))),(3,.aV (.ao 2 (a3.map ck))),(7,.aV (.agg [.str aA.1,.ao 1 (aX.map aC)])),(8,.str ((aA.1++([32]:aca))++bj))] (λP bp=>?_) ?_)
 ·(try simp only[aS.down,simprocAttr,bH,pw,px,fC]);refine dk (Mr aX ([44]:aca) _ hy) rfl rfl (by simp only[aS.down,simprocAttr,bH,pw,px,fC,hq,hr,hs,dL, @cP _ aC aC (λ_=>gS _)]<;>rfl) rfl (inr (by rfl)) ?_;simp only[aS.down,simprocAttr,bH,pw,px,fC];exact cx (ab bH (ab @pw (ab @px fC)))
 refine et (ab @Sa (ab @Ke (show q1 ay 76=true from by kernel_rfl))) [(2,.aV (.b3 (.mp a2))),(3,.aV (.ao 2 (a3.map ck))),(7,.aV (.agg [.str aA.1,.ao 1 (aX.map aC)])),(8,.str ((aA.1++([32]:aca))++bj)),(34,.bool (!(jq ((aA.1++([32]:aca))++bj) a2)))] ?_;refine ba h (λlp h=>?_) λlp h=>?_
 .refine et (ab @Sb (ab @Ke (show q1 ay 76=true from by kernel_rfl))) [(2,.aV (.b3 (.mp (jr ((aA.1++([32]:aca))++bj) true a2)))),(3,.aV (.ao 2 (a3.map ck))),(7,.aV (.agg [.str aA.1,.ao 1 (aX.map aC)]))] ?_;obtain⟨Mt,fb,h⟩:=aL h;(try simp only[E6.down,Nat.zero_add,Nat.add_zero,reduceAdd]at fb);refine jb (cD [(2,.aV (.b3 (.mp (jr ((aA.1++([32]:aca))++bj) true a2)))),(3,.aV (.ao 2 ((a3++[(br.mk aA.1 aX)]).map ck)))] (λP bp=>?_) ?_)
  .simp only[aS.down,simprocAttr,AP.down,sO,d_,fb];(try simp only[iG.down,simprocAttr,AP.down,sO,d_,fb]at bp⊢);exact bp
  exact cd _ (inl (lf [] rfl (by cases fP h;rfl) (by decide) (lN (jV (jV (ke (by cases fP h;rfl) rfl rfl rfl (ke (by cases fP h;rfl) rfl rfl rfl (lO))))))))
 .exact bt (cd _ (inl (lf [] rfl (by cases fP h;rfl) (by decide) (lN (jV (jV (ke (by cases fP h;rfl) rfl rfl rfl (ke (by cases fP h;rfl) rfl rfl rfl (lO)))))))))
theorem X2 (a0 aa h3 a201 kR lV lW lX lY lZ pM pN r) (h:Ax a0 aa h3 a201 kR lV lW lX lY lZ pM pN=some r):bb ay 76 [.ao 1 (a0.map aC),.ref (.slice (aa.map aC)),.ref (.ref (.agg [.agg [.int .i64 h3,.int .i64 a201],.slice (kR.map gH)])),.cH (.a8 47 [.ref (.agg [.slice (lV.map aC),.slice (lW.map bA),.str lX,.slice (lY.map b4),.slice (lZ.map b4)]),.aV (.b3 (.mp pM)),.aV (.ao 2 (pN.map ck))])] (.bool r.1) [.ao 1 (a0.map aC),.hole,.hole,.cH (.a8 47 [.ref (.agg [.slice (r.2.1.map aC),.slice (r.2.2.1.map bA),.str r.2.2.2.1,.slice (r.2.2.2.2.1.map b4),.slice (r.2.2.2.2.2.1.map b4)]),.aV (.b3 (.mp r.2.2.2.2.2.2.1)),.aV (.ao 2 (r.2.2.2.2.2.2.2.map ck))])]:=by
 refine bb.Tj (fx:=[0,1,2,3]) uW [.tmp 5] [(0,.ao 1 (a0.map aC)),(1,.ref (.slice (aa.map aC))),(2,.ref (.ref (.agg [.agg [.int .i64 h3,.int .i64 a201],.slice (kR.map gH)]))),(3,.cH (.a8 47 [.ref (.agg [.slice (lV.map aC),.slice (lW.map bA),.str lX,.slice (lY.map b4),.slice (lZ.map b4)]),.aV (.b3 (.mp pM)),.aV (.ao 2 (pN.map ck))]))] Tryz.func76 rfl rfl VP (le_of_ble_eq_true rfl) VO rfl rfl λcf aF cd=>?_;refine aJ ?_;obtain⟨af,aP,h⟩:=aL h;refine K2 [(0,.ao 1 (a0.map aC)),(2,.ref (.ref (.agg [.agg [.int .i64 h3,.int .i64 a201],.slice (kR.map gH)]))),(3,.cH (.a8 47 [.ref (.agg [.slice (lV.map aC),.slice (lW.map bA),.str lX,.slice (lY.map b4),.slice (lZ.map b4)]),.aV (.b3 (.mp pM)),.aV (.ao 2 (pN.map ck))])),(6,.ao 1 (af.map aC))] [(0,.slice (a0.map aC)),(1,.ref (.slice (aa.map aC)))] (.ao 1 (af.map aC)) rfl (by simp only[j.b5,j.fU,Bool.and_self, @iP _ aC (λ_=>qA _)]) ?_ (λP bp=>?_) (λP bp=>?_) ?_
 .simp only[aS.down,simprocAttr,qo,LQ.down]
 ·(try simp only[aS.down,simprocAttr,(show∀s,eD ay s 127 2 [(0,.slice (aa.map aC)),(1,.slice (a0.map aC))]=some (.ao 1 [.slice (aa.map aC),.slice (a0.map aC)],s)from λs=>by kernel_rfl)]);refine dk (XS [aa,a0] _ aP) rfl rfl (by simp only[aS.down,simprocAttr,(show∀s,eD ay s 127 2 [(0,.slice (aa.map aC)),(1,.slice (a0.map aC))]=some (.ao 1 [.slice (aa.map aC),.slice (a0.map aC)],s)from λs=>by kernel_rfl),hq,hr,hs,dL, @cP _ aC aC (λ_=>gS _), @cP _ aC aC (λ_=>gS _),j.shares, @cP _ lk lk (λ_=>T2 _)]<;>rfl) rfl (inr (iP (λ_=>qA _) _)) ?_;simp only[aS.down,simprocAttr,(show∀s,eD ay s 127 2 [(0,.slice (aa.map aC)),(1,.slice (a0.map aC))]=some (.ao 1 [.slice (aa.map aC),.slice (a0.map aC)],s)from λs=>by kernel_rfl)];exact cx (show∀s,eD ay s 127 2 [(0,.slice (aa.map aC)),(1,.slice (a0.map aC))]=some (.ao 1 [.slice (aa.map aC),.slice (a0.map aC)],s)from λs=>by kernel_rfl)
 .exact bp
 have Mu:∀xM xN,Ez a0 lV lW lX lY lZ xM xN=some r->bw ay LB cf (ah [(0,.ao 1 (a0.map aC)),(3,.cH (.a8 47 [.ref (.agg [.slice (lV.map aC),.slice (lW.map bA),.str lX,.slice (lY.map b4),.slice (lZ.map b4)]),.aV (.b3 (.mp xM)),.aV (.ao 2 (xN.map ck))]))]):=by
  intro xM xN h;refine aJ ?_;exact ld (aF _ (inl (lf [.bool true] rfl (by cases fP h;rfl) (by decide) (lN (ke (by cases fP h;rfl) rfl rfl rfl (jV (jV (ke (by cases fP h;rfl) rfl rfl rfl (lO)))))))))
 refine aU aF λ_ gh _ _=>?_;obtain⟨aA,bH,h⟩:=aL h;refine dB (cD [(0,.ao 1 (a0.map aC)),(3,.cH (.a8 47 [.ref (.agg [.slice (lV.map aC),.slice (lW.map bA),.str lX,.slice (lY.map b4),.slice (lZ.map b4)]),.aV (.b3 (.mp pM)),.aV (.ao 2 (pN.map ck))])),(6,.ao 1 (af.map aC)),(14,.bool (aA !=0))] (λP bp=>?_) ?_)
 ·(try simp only[aS.down,simprocAttr]);refine dk (Mp (bY.mk (aM.mk h3 a201) kR) af _ bH) rfl rfl (by simp only[aS.down,simprocAttr,E4.down]<;>rfl) rfl (inr (by rfl)) ?_;simp only[aS.down,simprocAttr];exact cx trivial
 refine ba h (λdz h=>?_) λdz h=>?_
 .obtain⟨aX,lD,h⟩:=aL h;refine Ti [(0,.ao 1 (a0.map aC)),(3,.cH (.a8 47 [.ref (.agg [.slice (lV.map aC),.slice (lW.map bA),.str lX,.slice (lY.map b4),.slice (lZ.map b4)]),.aV (.b3 (.mp aX.1)),.aV (.ao 2 (aX.2.map ck))]))] (λP bp=>?_) ?_
  .refine⟨_,_,rfl,?_⟩;simp only[s4,sE,po,pF,K6,aC,bA,b4,ck];(try simp only[aS.down,simprocAttr]);refine KV [⟨.h 6 [],false,_,.hole⟩] [.hole,.aV (.b3 (.mp aX.1)),.aV (.ao 2 (aX.2.map ck))] (X1 af lV lW lX lY lZ pM pN _ lD) rfl rfl rfl (by simp only[aS.down,simprocAttr,LX.down]) rfl rfl rfl rfl ((inr (by simp only[rn,j.b5,j.fU,Bool.and_self,LL.down,Bool.true_or,Bool.false_or, @iP _ ck (λ_=>vx _)]))) ?_;simp only[aS.down,simprocAttr,E_.down];refine⟨_,_,rfl,?_⟩;simp only[clz,sE,po,pF,K6];exact cx trivial
  exact gh _ (inr ⟨_,cY rfl,Mu aX.1 aX.2 h⟩)
 .exact bt (gh _ (inr ⟨_,cY rfl,Mu pM pN h⟩))
theorem X3 (a0 ea dH fO mB mC a105 tk a107 tl a109 r) (h:Ay a0 ea dH fO mB mC a105 tk a107 tl a109=some r):bb ay 75 [.slice (a0.map aC),.a8 76 [.ref (.slice (ea.map aC)),.ref (.ref (.agg [bA dH,.slice (fO.map gH)])),.cH (.a8 47 [.ref (.agg [.slice (mB.map aC),.slice (mC.map bA),.str a105,.slice (tk.map b4),.slice (a107.map b4)]),.aV (.b3 (.mp tl)),.aV (.ao 2 (a109.map ck))])]] (.tuple []) [.hole,.a8 76 [.ref (.slice (r.1.map aC)),.ref (.ref (.agg [.agg [.int .i64 r.2.1,.int .i64 r.2.2.1],.slice (r.2.2.2.1.map gH)])),.cH (.a8 47 [.ref (.agg [.slice (r.2.2.2.2.1.map aC),.slice (r.2.2.2.2.2.1.map bA),.str r.2.2.2.2.2.2.1,.slice (r.2.2.2.2.2.2.2.1.map b4),.slice (r.2.2.2.2.2.2.2.2.1.map b4)]),.aV (.b3 (.mp r.2.2.2.2.2.2.2.2.2.1)),.aV (.ao 2 (r.2.2.2.2.2.2.2.2.2.2.map ck))])]]:=by
 refine bb.DD (fx:=[0,1]) uW [] [(0,.slice (a0.map aC)),(1,.a8 76 [.ref (.slice (ea.map aC)),.ref (.ref (.agg [bA dH,.slice (fO.map gH)])),.cH (.a8 47 [.ref (.agg [.slice (mB.map aC),.slice (mC.map bA),.str a105,.slice (tk.map b4),.slice (a107.map b4)]),.aV (.b3 (.mp tl)),.aV (.ao 2 (a109.map ck))])])] Tryz.func75 rfl rfl oO (le_of_ble_eq_true rfl) V0 rfl rfl λcf aF cd=>?_;obtain⟨abO,aN,h⟩:=aL h;refine tu (ab (n4 aN) @List.map_replicate.{0,0}) [(0,.slice (a0.map aC)),(1,.a8 76 [.ref (.slice (ea.map aC)),.ref (.ref (.agg [bA dH,.slice (fO.map gH)])),.cH (.a8 47 [.ref (.agg [.slice (mB.map aC),.slice (mC.map bA),.str a105,.slice (tk.map b4),.slice (a107.map b4)]),.aV (.b3 (.mp tl)),.aV (.ao 2 (a109.map ck))])]),(4,.ao 1 ((List.replicate (Int.toNat (a0.length:Int)) 0).map aC))] ?_;refine b7 aF λX4 _ cA iN aX=>?_;have X5:∀n rz rA rB rC rD rE rF nh,qz a0 ea dH fO n rz rA rB rC rD rE rF nh=some r->dK ay LF X4 (ah [(0,.slice (a0.map aC)),(1,.a8 76 [.ref (.slice (ea.map aC)),.ref (.ref (.agg [bA dH,.slice (fO.map gH)])),.cH (.a8 47 [.ref (.agg [.slice (rz.map aC),.slice (rA.map bA),.str rB,.slice (rC.map b4),.slice (rD.map b4)]),.aV (.b3 (.mp rE)),.aV (.ao 2 (rF.map ck))])]),(4,.ao 1 (nh.map aC))]):=by
  refine er λm3 Mv rz rA rB rC rD rE rF nh h=>ep cA λ_ gh cc bj=>aU cc λ_ gp _ cu=>?_;obtain⟨af,bH,h⟩:=aL h;refine SX [(0,.slice (a0.map aC)),(1,.a8 76 [.ref (.slice (ea.map aC)),.ref (.ref (.agg [bA dH,.slice (fO.map gH)])),.cH (.a8 47 [.ref (.agg [.slice (af.2.1.map aC),.slice (af.2.2.1.map bA),.str af.2.2.2.1,.slice (af.2.2.2.2.1.map b4),.slice (af.2.2.2.2.2.1.map b4)]),.aV (.b3 (.mp af.2.2.2.2.2.2.1)),.aV (.ao 2 (af.2.2.2.2.2.2.2.map ck))])]),(4,.ao 1 (nh.map aC)),(11,.bool af.1)] (λP bp=>?_) ?_
  ·(try simp only[aS.down,simprocAttr]);refine KV [⟨.h 4 [],true,_,_⟩] [.hole,.hole,.cH (.a8 47 [.ref (.agg [.slice (af.2.1.map aC),.slice (af.2.2.1.map bA),.str af.2.2.2.1,.slice (af.2.2.2.2.1.map b4),.slice (af.2.2.2.2.2.1.map b4)]),.aV (.b3 (.mp af.2.2.2.2.2.2.1)),.aV (.ao 2 (af.2.2.2.2.2.2.2.map ck))])] (X2 nh ea dH.Kind dH.Value fO rz rA rB rC rD rE rF _ bH) rfl rfl rfl (by simp only[aS.down,simprocAttr,LX.down]) rfl rfl rfl rfl (inl rfl) ?_;simp only[aS.down,simprocAttr,E_.down];exact cx trivial
  refine ba h (λdz h=>?_) λdz h=>?_
  .refine bt (gp _ (inl (b7 cc λ_ ee dc _ _=>aJ ?_)));refine aU dc λ_ eY hE _=>b7 hE λX6 _ x8 fG _=>?_;have X7:∀n kl km kn ko kp kq kr ks hL,tj (qz a0 ea dH fO m3) a0 ea dH fO n kl km kn ko kp kq kr ks hL=some r->dK ay LD X6 (ah [(0,.slice (a0.map aC)),(1,.a8 76 [.ref (.slice (ea.map aC)),.ref (.ref (.agg [bA dH,.slice (fO.map gH)])),.cH (.a8 47 [.ref (.agg [.slice (kl.map aC),.slice (km.map bA),.str kn,.slice (ko.map b4),.slice (kp.map b4)]),.aV (.b3 (.mp kq)),.aV (.ao 2 (kr.map ck))])]),(4,.ao 1 (ks.map aC)),(5,.int .i64 hL)]):=by
    refine er λ_ X8 kl km kn ko kp kq kr ks hL h=>ep x8 λ_ l5 lo rH=>aU lo λ_ fW _ rI=>?_;rcases gr h with⟨kX,h⟩|⟨kX,h⟩
    .obtain⟨aA,e4,h⟩:=aL h;obtain⟨aX,gT,h⟩:=aL h;refine x5 (ab kX (ab e4 (ab (cV e4) gT))) _ ?_;refine ba h (λj0 h=>?_) λj0 h=>?_
     .refine bt (fW _ (inl (b7 lo λ_ AR _ _ _=>dB (cD [(0,.slice (a0.map aC)),(1,.a8 76 [.ref (.slice (ea.map aC)),.ref (.ref (.agg [bA dH,.slice (fO.map gH)])),.cH (.a8 47 [.ref (.agg [.slice (kl.map aC),.slice (km.map bA),.str kn,.slice (ko.map b4),.slice (kp.map b4)]),.aV (.b3 (.mp kq)),.aV (.ao 2 (kr.map ck))])]),(4,.ao 1 ((List.set ks (Int.toNat hL) 0).map aC)),(5,.int .i64 hL)] (λP bp=>?_) ?_))))
      .simp only[aS.down,simprocAttr,e4,cV e4,fj,db];exact cx (ab e4 (ab (cV e4) @fj))
      refine wr [(0,.slice (a0.map aC)),(1,.a8 76 [.ref (.slice (ea.map aC)),.ref (.ref (.agg [bA dH,.slice (fO.map gH)])),.cH (.a8 47 [.ref (.agg [.slice (kl.map aC),.slice (km.map bA),.str kn,.slice (ko.map b4),.slice (kp.map b4)]),.aV (.b3 (.mp kq)),.aV (.ao 2 (kr.map ck))])]),(4,.ao 1 ((List.set ks (Int.toNat hL) 0).map aC)),(5,.int .i64 (i64.wrap (hL-1)))] ?_;exact AR _ (l5 _ (inr ⟨_,cY rfl,X8 kl km kn ko kp kq kr (List.set ks (Int.toNat hL) 0) (i64.wrap (hL-1)) h⟩))
     .refine ei (rI 2 _ (rH 2 _ (fG _ (eY _ (inl (aU dc λ_ FZ tE _=>aJ ?_))))));refine ba h (λFz h=>?_) λFz h=>?_
      .exact ld (tE _ (inl (lf [] rfl (by cases fP h;rfl) (by decide) (lN (jV (ke (by cases fP h;rfl) rfl rfl rfl (lO)))))))
      .refine bt (FZ _ (inl (jb (cD [(0,.slice (a0.map aC)),(1,.a8 76 [.ref (.slice (ea.map aC)),.ref (.ref (.agg [bA dH,.slice (fO.map gH)])),.cH (.a8 47 [.ref (.agg [.slice (kl.map aC),.slice (km.map bA),.str kn,.slice (ko.map b4),.slice (kp.map b4)]),.aV (.b3 (.mp kq)),.aV (.ao 2 (kr.map ck))])]),(4,.ao 1 ((List.set ks (Int.toNat hL) (i64.wrap (aA+1))).map aC))] (λP bp=>?_) ?_))))
       .simp only[aS.down,simprocAttr,e4,cV e4,fj,db];exact cx (ab e4 (ab (cV e4) @fj))
       exact ee _ (gh _ (inr ⟨_,cY rfl,Mv kl km kn ko kp kq kr (List.set ks (Int.toNat hL) (i64.wrap (aA+1))) h⟩))
    .refine x5 kX _ ?_;refine w4 rfl ?_;refine ei (rI 2 _ (rH 2 _ (fG _ (eY _ (inl (aU dc λ_ Fe Ff _=>aJ ?_))))));refine ba h (λx7 h=>?_) λx7 h=>?_
     .exact ld (Ff _ (inl (lf [] rfl (by cases fP h;rfl) (by decide) (lN (jV (ke (by cases fP h;rfl) rfl rfl rfl (lO)))))))
     .refine bt (Fe _ (inl ?_));obtain⟨bj,kY,h⟩:=aL h;refine jb (cD [(0,.slice (a0.map aC)),(1,.a8 76 [.ref (.slice (ea.map aC)),.ref (.ref (.agg [bA dH,.slice (fO.map gH)])),.cH (.a8 47 [.ref (.agg [.slice (kl.map aC),.slice (km.map bA),.str kn,.slice (ko.map b4),.slice (kp.map b4)]),.aV (.b3 (.mp kq)),.aV (.ao 2 (kr.map ck))])]),(4,.ao 1 ((List.set ks (Int.toNat hL) (i64.wrap (bj+1))).map aC))] (λP bp=>?_) ?_)
      .simp only[aS.down,simprocAttr,kY,cV kY,fj,db];exact cx (ab kY (ab (cV kY) @fj))
      exact ee _ (gh _ (inr ⟨_,cY rfl,Mv kl km kn ko kp kq kr (List.set ks (Int.toNat hL) (i64.wrap (bj+1))) h⟩))
   exact eN h λn h=>X7 n af.2.1 af.2.2.1 af.2.2.2.1 af.2.2.2.2.1 af.2.2.2.2.2.1 af.2.2.2.2.2.2.1 af.2.2.2.2.2.2.2 nh (i64.wrap ((nh.length:Int)-1)) h
  .exact ei (cu 0 _ (bj 0 _ (iN _ (cd _ (inl (lf [] rfl (by cases fP h;rfl) (by decide) (lN (jV (ke (by cases fP h;rfl) rfl rfl rfl (lO))))))))))
 exact eN h λn h=>X5 n mB mC a105 tk a107 tl a109 (List.replicate (Int.toNat (a0.length:Int)) 0) h
theorem X9 (a0 aa h3 a201 kR r) (h:EC a0 aa h3 a201 kR=some r):bb ay 46 [dq a0,.slice (aa.map aC),.a8 47 [.ref (dq h3),.aV (.b3 (.mp a201)),.aV (.ao 2 (kR.map ck))]] (.tuple []) [.hole,.hole,.a8 47 [.ref (.agg [.slice (r.1.map aC),.slice (r.2.1.map bA),.str r.2.2.1,.slice (r.2.2.2.1.map b4),.slice (r.2.2.2.2.1.map b4)]),.aV (.b3 (.mp r.2.2.2.2.2.1)),.aV (.ao 2 (r.2.2.2.2.2.2.map ck))]]:=by
 refine bb.DD (fx:=[0,1,2]) uW [] [(0,dq a0),(1,.slice (aa.map aC)),(2,.a8 47 [.ref (dq h3),.aV (.b3 (.mp a201)),.aV (.ao 2 (kR.map ck))])] Tryz.func46 rfl rfl V4 (le_of_ble_eq_true rfl) V3 rfl rfl λcf aF cd=>?_;refine dB (cD [(2,.a8 47 [.ref (dq h3),.aV (.b3 (.mp a201)),.aV (.ao 2 (kR.map ck))]),(3,.aV (dq a0)),(4,.aV (.slice (aa.map aC))),(5,.I 2 0)] (λP bp=>?_) ?_)
 .simp only[aS.down,simprocAttr,rO.down,j.dj];exact cx rO.down
 obtain⟨af,aP,h⟩:=aL h;refine J8 (cD (K:=c1 _) [(2,.a8 47 [.ref (dq h3),.aV (.b3 (.mp a201)),.aV (.ao 2 (kR.map ck))]),(3,.aV (dq a0)),(4,.aV (.slice (aa.map aC))),(5,.I 2 0),(6,.aV (.aV (.agg [bA af.1,.ao 1 (af.2.map hN)])))] (λP bp=>?_) (J9 [(2,.a8 47 [.ref (dq h3),.aV (.b3 (.mp a201)),.aV (.ao 2 (kR.map ck))]),(3,.aV (dq a0)),(4,.ref (.slice (aa.map aC))),(5,.I 2 0),(6,.ref (.ref (.agg [bA af.1,.slice (af.2.map gH)])))] (nQ [2] rfl (jF rfl (jF rfl (mT (t:=4) (d:=.aV (.slice (aa.map aC))) (bd:=.ref (.slice (aa.map aC))) rfl rfl (J_ rfl rfl (by simp only[dL,j.share,j.shares, @cP _ aC aC (λ_=>gS _),EX,EW]<;>rfl)) (by decide) (jF rfl (mT (t:=6) (d:=.aV (.aV (.agg [bA af.1,.ao 1 (af.2.map hN)]))) (bd:=.ref (.ref (.agg [bA af.1,.slice (af.2.map gH)]))) rfl rfl (J_ rfl rfl (by simp only[dL,j.share,j.shares,oK, @cP _ hN gH (λ_=>EY _),EX,EW]<;>rfl)) (by decide) (nR))))))) ?_))
 ·(try simp only[aS.down,simprocAttr,mU]);refine dk (Mo a0.Guard _ aP) (hK:= ?_);simp only[aS.down,simprocAttr,mU];exact cx @mU
 obtain⟨aA,b_,h⟩:=aL h;refine KU [(2,.a8 47 [.ref (.agg [.slice (aA.2.2.2.2.1.map aC),.slice (aA.2.2.2.2.2.1.map bA),.str aA.2.2.2.2.2.2.1,.slice (aA.2.2.2.2.2.2.2.1.map b4),.slice (aA.2.2.2.2.2.2.2.2.1.map b4)]),.aV (.b3 (.mp aA.2.2.2.2.2.2.2.2.2.1)),.aV (.ao 2 (aA.2.2.2.2.2.2.2.2.2.2.map ck))])] (λP bp=>?_) ?_
 ·(try simp only[aS.down,simprocAttr,mU]);refine SZ [false,false,false,true] [⟨.slice (a0.aY.map aC),false,_,.hole⟩,⟨.ref (.slice (aa.map aC)),false,_,_⟩,⟨.ref (.ref (.agg [bA af.1,.slice (af.2.map gH)])),false,_,_⟩,⟨.h 2 [],true,_,_⟩] (X3 a0.aY aa af.1 af.2 h3.aY h3.Guard h3.Name h3.bP h3.Next a201 kR _ b_) rfl rfl rfl (by rfl) (by simp only[aS.down,simprocAttr,mU,pz,oD,mo,hq,hr,hs,dL,or_true,true_or,pF,List.cons_append,List.nil_append]) rfl rfl rfl rfl (by rfl) rfl (inl rfl) ?_;simp only[aS.down,simprocAttr,mU,mq,pF,List.cons_append,List.nil_append];exact cx @mU
 exact cd _ (inl (lf [] rfl (by cases fP h;rfl) (by decide) (lN (jV (jV (ke (by cases fP h;rfl) rfl rfl rfl (lO)))))))
theorem X_ (a0 aa r) (h:xO a0 aa=some r):bb ay 24 [fF a0,.slice (aa.map aC)] (.ao 2 (r.map ck)) []:=by
 refine bb.DD (fx:=[0,1]) uW [.tmp 4] [(0,fF a0),(1,.slice (aa.map aC))] Tryz.func24 rfl rfl We (le_of_ble_eq_true rfl) Wd rfl rfl λcf aF cd=>?_;refine aJ ?_;refine J8 (cD (K:=c1 _) [(1,.slice (aa.map aC)),(2,.aV (fF a0)),(5,.aV (.bc))] (λP bp=>?_) (J9 [(1,.slice (aa.map aC)),(2,.aV (fF a0)),(5,.aV (.ao 2 []))] (nQ [] rfl (jF rfl (jF rfl (mT (t:=5) (d:=.aV (.bc)) (bd:=.aV (.ao 2 [])) rfl rfl (.aV (.jD _)) (by decide) (nR))))) ?_))
 .simp only[aS.down,simprocAttr];exact cx trivial
 refine et @R_ _ ?_;refine aU aF λ_ gh cc _=>aJ ?_;refine b7 cc λl3 _ ek fp _=>?_;have FW:∀n jh rG oJ,vj a0 aa n jh rG oJ=some r->dK ay LI l3 (ah [(1,.slice (aa.map aC)),(5,.aV (.ao 2 (jh.map ck))),(6,.aV (.b3 (.mp rG))),(11,.slice (a0.cC.map dq)),(12,.int .i64 (a0.cC.length:Int)),(13,.int .i64 oJ)]):=by
  refine er λ_ FX jh rG oJ h=>ep ek λ_ fm fK b9=>aJ ?_;refine aU fK λ_ ee _ dN=>ba h (λgx h=>?_) λgx h=>?_
  .refine bt (ee _ (inl (aU fK λ_ eY hE _=>b7 hE λ_ jm _ _ _=>?_)));obtain⟨af,fb,h⟩:=aL h;refine et fb _ ?_;obtain⟨aA,dr,h⟩:=aL h;refine KU [(1,.slice (aa.map aC)),(5,.aV (.ao 2 (aA.2.2.2.2.2.2.map ck))),(6,.aV (.b3 (.mp aA.2.2.2.2.2.1))),(11,.slice (a0.cC.map dq)),(12,.int .i64 (a0.cC.length:Int)),(13,.int .i64 oJ)] (λP bp=>?_) ?_
   ·(try simp only[aS.down,simprocAttr]);refine SY [⟨dq af,false,_,.hole⟩,⟨.slice (aa.map aC),false,_,.hole⟩,⟨.h 8 [],false,_,_⟩,⟨.h 6 [],true,_,_⟩,⟨.h 5 [],true,_,_⟩] (X9 af aa af rG jh _ dr) rfl rfl rfl (by simp only[aS.down,simprocAttr,pz,oD,mo,hq,hr,hs,dL,or_true,true_or,pF,List.cons_append,List.nil_append, @cP _ aC aC (λ_=>gS _), @cP _ bA bA (λ_=>oK _), @cP _ b4 b4 (λ_=>rM _), @cP _ b4 b4 (λ_=>rM _), @cP _ ck jZ (λ_=>x1 _)]) rfl rfl rfl rfl rfl rfl ((inr (by simp only[rn,j.b5,j.fU,Bool.and_self,LL.down,Bool.true_or,Bool.false_or, @iP _ ck (λ_=>vx _)]))) ?_;simp only[aS.down,simprocAttr,E_.down];exact cx trivial
   refine jm _ (eY _ (inl (gg ?_)));exact fm _ (inr ⟨_,cY rfl,FX aA.2.2.2.2.2.2 aA.2.2.2.2.2.1 (i64.wrap (oJ+1)) h⟩)
  .exact ei (dN 0 _ (b9 0 _ (fp _ (gh _ (inl (bu aF [.ao 2 (jh.map ck)]))))))
 exact eN h λn h=>FW n [] [] 0 h
theorem Mw (a0 aa r) (h:xP a0 aa=some r):bb ay 8 [fF a0,.slice (aa.map aC)] (.tuple [.ao 2 (r.1.map ck),.int .i64 r.2]) []:=by
 refine cq [0,1] [.tmp 4,.tmp 5] Tryz.func8 iC λcf aF cd=>aJ ?_;refine aU aF λ_ b6 bl aA=>b7 bl λ_ gG cA _ aX=>?_;obtain⟨af,b_,h⟩:=aL h;refine dO (XM a0 _ b_) _ ?_;refine ba h (λfp h=>?_) λfp h=>?_
 .refine aJ ?_;exact ld (cA _ (inr ⟨[(4,.ao 2 []),(5,.int .i64 1)],nQ [] rfl (mT (t:=4) (d:=.bc) rfl rfl (.jD _) (by decide) (jF rfl (nR))),xg [.ao 2 [],.int .i64 1]⟩))
 .obtain⟨aA,fC,h⟩:=aL h;refine dO (FK a0 aa _ fC) _ ?_;refine ba h (λgx h=>?_) λgx h=>?_
  .refine aJ ?_;exact ld (cA _ (inr ⟨[(4,.ao 2 []),(5,.int .i64 2)],nQ [] rfl (mT (t:=4) (d:=.bc) rfl rfl (.jD _) (by decide) (jF rfl (nR))),xg [.ao 2 [],.int .i64 2]⟩))
  .refine bt (gG _ (b6 _ (inl ?_)));obtain⟨aX,dX,h⟩:=aL h;refine dO (X_ a0 aa _ dX) _ ?_;exact cR aF [.ao 2 (aX.map ck),.int .i64 0]
theorem AY (a0 aa r) (h:tm a0 aa=some r):bb ay 11 [.slice (a0.map aC),.slice (aa.map aC)] (.bool r) []:=by
 refine cq [0,1] [.tmp 4] Tryz.func11 Wf λcf aF cd=>aJ ?_;refine aU aF λ_ b6 bl aA=>aJ ?_;refine ba h (λcK h=>?_) λcK h=>?_
 .exact bu bl [.bool false]
 .refine bt (b6 _ (inl (aU aF λ_ ed ek _=>aJ ?_)));refine b7 ek λnp _ jI dz _=>?_;show bw ay (.loop ?kU) _ _;have kW:∀n c8,EE a0 aa n c8=some r->dK ay ?kU np (ah [(0,.slice (a0.map aC)),(1,.slice (aa.map aC)),(5,.int .i64 c8)]):=by
   refine er λ_ kx c8 h=>ep jI λ_ ee dc dN=>aU dc λ_ c5 _ fa=>aJ ?_;refine ba h (λfG h=>?_) λfG h=>?_
   .refine bt (c5 _ (inl (aU dc λ_ l5 lo _=>b7 lo λ_ fW fA _ _=>?_)));obtain⟨af,dr,h⟩:=aL h;obtain⟨aA,e4,h⟩:=aL h;refine x5 (ab dr e4) _ ?_;refine ba h (λl4 h=>?_) λl4 h=>?_
    .exact bu fA [.bool false]
    .refine bt (fW _ (l5 _ (inl (gg ?_))));exact ee _ (inr ⟨_,cY rfl,kx (i64.wrap (c8+1)) h⟩)
   .exact ei (fa 0 _ (dN 0 _ (dz _ (ed _ (inl (bu aF [.bool true]))))))
  exact eN h λn h=>kW n 0 h
theorem Ya (a0 aa r) (h:xQ a0 aa=some r):bb ay 25 [jZ a0,jZ aa] (.bool r) []:=by
 refine cq [0,1] [.tmp 4] Tryz.func25 Wg λcf aF cd=>aJ ?_;refine aU aF λ_ b6 bl _=>aJ ?_;refine ba h (λcK h=>?_) λcK h=>?_
 .exact bu bl [.bool false]
 .refine bt (b6 _ (inl (aU aF λ_ ed ek _=>?_)));obtain⟨af,hy,h⟩:=aL h;refine dO (AY a0.Next aa.Next _ hy) _ ?_;refine ba h (λe3 h=>?_) λe3 h=>?_
  .exact bu ek [.bool false]
  .exact bt (ed _ (inl (bu aF [.bool true])))
theorem vD (a0 aa r) (h:vk a0 aa=some r):bb ay 9 [.slice (a0.map jZ),.slice (aa.map jZ)] (.bool r) []:=by
 refine cq [0,1] [.tmp 4] Tryz.func9 CA λcf aF cd=>aJ ?_;refine aU aF λ_ b6 bl aA=>aJ ?_;refine ba h (λcK h=>?_) λcK h=>?_
 .exact bu bl [.bool false]
 .refine bt (b6 _ (inl (aU aF λ_ ed ek _=>aJ ?_)));refine b7 ek λnp _ jI dz _=>?_;show bw ay (.loop ?kU) _ _;have kW:∀n c8,EF a0 aa n c8=some r->dK ay ?kU np (ah [(0,.slice (a0.map jZ)),(1,.slice (aa.map jZ)),(5,.int .i64 c8)]):=by
   refine er λ_ kx c8 h=>ep jI λ_ ee dc dN=>aU dc λ_ c5 _ fa=>aJ ?_;refine ba h (λfG h=>?_) λfG h=>?_
   .refine bt (c5 _ (inl (aU dc λ_ l5 lo _=>b7 lo λ_ fW fA _ _=>?_)));obtain⟨af,dr,h⟩:=aL h;obtain⟨aA,e4,h⟩:=aL h;obtain⟨aX,gT,h⟩:=aL h;refine tt (ab dr e4) (Ya af aA _ gT) _ ?_;refine ba h (λj0 h=>?_) λj0 h=>?_
    .exact bu fA [.bool false]
    .refine bt (fW _ (l5 _ (inl (gg ?_))));exact ee _ (inr ⟨_,cY rfl,kx (i64.wrap (c8+1)) h⟩)
   .exact ei (fa 0 _ (dN 0 _ (dz _ (ed _ (inl (bu aF [.bool true]))))))
  exact eN h λn h=>kW n 0 h
theorem Yb (a0 aa r) (h:xR a0 aa=some r):bb ay 106 [bA a0,bA aa] (.bool r) []:=by
 refine cq [0,1] [.tmp 4] Tryz.func106 Wh λcf aF cd=>aJ ?_;refine aU aF λ_ b6 bl _=>aJ ?_;refine ba h (λcK h=>?_) λcK h=>?_
 .exact bu bl [.bool false]
 .refine bt (b6 _ (inl (aU aF λ_ ed ek _=>aJ ?_)));refine ba h (λdz h=>?_) λdz h=>?_
  .exact bu ek [.bool false]
  .exact bt (ed _ (inl (bu aF [.bool true])))
theorem Mx (a0 aa r) (h:vl a0 aa=some r):bb ay 82 [.slice (a0.map bA),.slice (aa.map bA)] (.bool r) []:=by
 refine cq [0,1] [.tmp 4] Tryz.func82 Wi λcf aF cd=>aJ ?_;refine aU aF λ_ b6 bl aA=>aJ ?_;refine ba h (λcK h=>?_) λcK h=>?_
 .exact bu bl [.bool false]
 .refine bt (b6 _ (inl (aU aF λ_ ed ek _=>aJ ?_)));refine b7 ek λnp _ jI dz _=>?_;show bw ay (.loop ?kU) _ _;have kW:∀n c8,EG a0 aa n c8=some r->dK ay ?kU np (ah [(0,.slice (a0.map bA)),(1,.slice (aa.map bA)),(5,.int .i64 c8)]):=by
   refine er λ_ kx c8 h=>ep jI λ_ ee dc dN=>aU dc λ_ c5 _ fa=>aJ ?_;refine ba h (λfG h=>?_) λfG h=>?_
   .refine bt (c5 _ (inl (aU dc λ_ l5 lo _=>b7 lo λ_ fW fA _ _=>?_)));obtain⟨af,dr,h⟩:=aL h;obtain⟨aA,e4,h⟩:=aL h;obtain⟨aX,gT,h⟩:=aL h;refine tt (ab dr e4) (Yb af aA _ gT) _ ?_;refine ba h (λj0 h=>?_) λj0 h=>?_
    .exact bu fA [.bool false]
    .refine bt (fW _ (l5 _ (inl (gg ?_))));exact ee _ (inr ⟨_,cY rfl,kx (i64.wrap (c8+1)) h⟩)
   .exact ei (fa 0 _ (dN 0 _ (dz _ (ed _ (inl (bu aF [.bool true]))))))
  exact eN h λn h=>kW n 0 h
theorem My (a0 aa r) (h:xS a0 aa=some r):bb ay 83 [.slice (a0.map b4),.slice (aa.map b4)] (.bool r) []:=by
 refine cq [0,1] [.tmp 4] Tryz.func83 Wj λcf aF cd=>aJ ?_;refine aU aF λ_ b6 bl aA=>aJ ?_;refine ba h (λcK h=>?_) λcK h=>?_
 .exact bu bl [.bool false]
 .refine bt (b6 _ (inl (aU aF λ_ ed ek _=>aJ ?_)));refine b7 ek λnp _ jI dz _=>?_;show bw ay (.loop ?kU) _ _;have kW:∀n c8,EH a0 aa n c8=some r->dK ay ?kU np (ah [(0,.slice (a0.map b4)),(1,.slice (aa.map b4)),(5,.int .i64 c8)]):=by
   refine er λ_ kx c8 h=>ep jI λ_ ee dc dN=>aU dc λ_ c5 _ fa=>aJ ?_;refine ba h (λfG h=>?_) λfG h=>?_
   .refine bt (c5 _ (inl (aU dc λ_ l5 lo _=>b7 lo λ_ fW fA _ _=>?_)));obtain⟨af,dr,h⟩:=aL h;obtain⟨aA,e4,h⟩:=aL h;obtain⟨aX,gT,h⟩:=aL h;refine tt (ab dr e4) (Mx af aA _ gT) _ ?_;refine ba h (λj0 h=>?_) λj0 h=>?_
    .exact bu fA [.bool false]
    .refine bt (fW _ (l5 _ (inl (gg ?_))));exact ee _ (inr ⟨_,cY rfl,kx (i64.wrap (c8+1)) h⟩)
   .exact ei (fa 0 _ (dN 0 _ (dz _ (ed _ (inl (bu aF [.bool true]))))))
  exact eN h λn h=>kW n 0 h
theorem Yc (a0 aa r) (h:xT a0 aa=some r):bb ay 51 [dq a0,dq aa] (.bool r) []:=by
 refine cq [0,1] [.tmp 4] Tryz.func51 Wk λcf aF cd=>aJ ?_;refine aU aF λ_ b6 bl aA=>?_;obtain⟨af,bQ,h⟩:=aL h;refine dO (AY a0.aY aa.aY _ bQ) _ ?_;refine ba h (λdp h=>?_) λdp h=>?_
 .exact bu bl [.bool false]
 .refine bt (b6 _ (inl (aU aF λ_ fm fK _=>?_)));obtain⟨aA,fC,h⟩:=aL h;refine dO (Mx a0.Guard aa.Guard _ fC) _ ?_;refine ba h (λgx h=>?_) λgx h=>?_
  .exact bu fK [.bool false]
  .refine bt (fm _ (inl (aU aF λ_ jm x8 _=>aJ ?_)));refine ba h (λjn h=>?_) λjn h=>?_
   .exact bu x8 [.bool false]
   .refine bt (jm _ (inl (aU aF λ_ pO pP _=>?_)));obtain⟨aX,gT,h⟩:=aL h;refine dO (My a0.bP aa.bP _ gT) _ ?_;refine ba h (λj0 h=>?_) λj0 h=>?_
    .exact bu pP [.bool false]
    .refine bt (pO _ (inl (aU aF λ_ qC qD _=>?_)));obtain⟨bj,nm,h⟩:=aL h;refine dO (My a0.Next aa.Next _ nm) _ ?_;refine ba h (λpQ h=>?_) λpQ h=>?_
     .exact bu qD [.bool false]
     .exact bt (qC _ (inl (bu aF [.bool true])))
theorem Yd (a0 aa r) (h:Az a0 aa=some r):bb ay 26 [.slice (a0.map dq),.slice (aa.map dq)] (.bool r) []:=by
 refine cq [0,1] [.tmp 4] Tryz.func26 x4 λcf aF cd=>aJ ?_;refine aU aF λ_ b6 bl aA=>aJ ?_;refine ba h (λcK h=>?_) λcK h=>?_
 .exact bu bl [.bool false]
 .refine bt (b6 _ (inl (aU aF λ_ ed ek _=>aJ ?_)));refine b7 ek λnp _ jI dz _=>?_;show bw ay (.loop ?kU) _ _;have kW:∀n c8,EI a0 aa n c8=some r->dK ay ?kU np (ah [(0,.slice (a0.map dq)),(1,.slice (aa.map dq)),(5,.int .i64 c8)]):=by
   refine er λ_ kx c8 h=>ep jI λ_ ee dc dN=>aU dc λ_ c5 _ fa=>aJ ?_;refine ba h (λfG h=>?_) λfG h=>?_
   .refine bt (c5 _ (inl (aU dc λ_ l5 lo _=>b7 lo λ_ fW fA _ _=>?_)));obtain⟨af,dr,h⟩:=aL h;obtain⟨aA,e4,h⟩:=aL h;obtain⟨aX,gT,h⟩:=aL h;refine tt (ab dr e4) (Yc af aA _ gT) _ ?_;refine ba h (λj0 h=>?_) λj0 h=>?_
    .exact bu fA [.bool false]
    .refine bt (fW _ (l5 _ (inl (gg ?_))));exact ee _ (inr ⟨_,cY rfl,kx (i64.wrap (c8+1)) h⟩)
   .exact ei (fa 0 _ (dN 0 _ (dz _ (ed _ (inl (bu aF [.bool true]))))))
  exact eN h λn h=>kW n 0 h
theorem Ye (a0 aa r) (h:AA a0 aa=some r):bb ay 10 [fF a0,fF aa] (.bool r) []:=by
 refine cq [0,1] [.tmp 4] Tryz.func10 E0 λcf aF cd=>aJ ?_;refine aU aF λ_ b6 bl aA=>aJ ?_;refine ba h (λcK h=>?_) λcK h=>?_
 .exact bu bl [.bool false]
 .refine bt (b6 _ (inl (aU aF λ_ ed ek _=>?_)));obtain⟨af,hy,h⟩:=aL h;refine dO (AY a0.Start aa.Start _ hy) _ ?_;refine ba h (λe3 h=>?_) λe3 h=>?_
  .exact bu ek [.bool false]
  .refine bt (ed _ (inl (aU aF λ_ eY hE _=>?_)));obtain⟨aA,dX,h⟩:=aL h;refine dO (Yd a0.cC aa.cC _ dX) _ ?_;refine ba h (λjn h=>?_) λjn h=>?_
   .exact bu hE [.bool false]
   .exact bt (eY _ (inl (bu aF [.bool true])))
theorem AZ (a0 aa r) (h:tn a0 aa=some r):bb ay 13 [.ao 1 (a0.map aC),.int .i64 aa] (.int .i64 r.1) [.ao 1 (r.2.map aC),.hole]:=by
 refine cq [0] [.tmp 4] Tryz.func13 Wl λcf aF cd=>aJ ?_;refine aU aF λ_ b6 bl _=>aJ ?_;refine b7 bl λhd _ cc cK _=>?_;show bw ay (.loop ?e_) _ _;have hf:∀n cl bW aW,vn n cl bW aW=some r->dK ay ?e_ hd (ah [(0,.ao 1 (cl.map aC)),(1,.int .i64 bW),(5,.int .i64 aW)]):=by
  refine er λ_ gV cl bW aW h=>ep cc λ_ gp dn cu=>aU dn λ_ ed _ b2=>aJ ?_;refine ba h (λdz h=>?_) λdz h=>?_
  .refine bt (ed _ (inl (aU dn λ_ ee dc _=>b7 dc λ_ c5 _ _ _=>?_)));obtain⟨af,eK,h⟩:=aL h;refine dB (cD [(0,.ao 1 ((List.set cl (Int.toNat aW) bW).map aC)),(1,.int .i64 bW),(5,.int .i64 aW)] (λP bp=>?_) ?_)
   .simp only[aS.down,simprocAttr,eK,cV eK,fj,db];exact cx (ab eK (ab (cV eK) @fj))
   refine wr [(0,.ao 1 ((List.set cl (Int.toNat aW) bW).map aC)),(1,.int .i64 (i64.wrap (bW+1))),(5,.int .i64 aW)] ?_;refine c5 _ (ee _ (inl (wr [(0,.ao 1 ((List.set cl (Int.toNat aW) bW).map aC)),(1,.int .i64 (i64.wrap (bW+1))),(5,.int .i64 (i64.wrap (aW+1)))] ?_)));exact gp _ (inr ⟨_,cY rfl,gV (List.set cl (Int.toNat aW) bW) (i64.wrap (bW+1)) (i64.wrap (aW+1)) h⟩)
  .refine ei (b2 0 _ (cu 0 _ (cK _ (b6 _ (inl (aJ ?_))))));exact ld (aF _ (inl (lf [.int .i64 bW] rfl (by cases fP h;rfl) (by decide) (lN (ke (by cases fP h;rfl) rfl rfl rfl (jV (lO)))))))
 exact eN h λn h=>hf n a0 aa 0 h
theorem Mz (a0 aa r) (h:xU a0 aa=some r):bb ay 52 [.ao 2 (a0.map bA),.int .i64 aa] (.int .i64 r.1) [.ao 2 (r.2.map bA),.hole]:=by
 refine cq [0] [.tmp 4] Tryz.func52 Wm λcf aF cd=>aJ ?_;refine aU aF λ_ b6 bl aA=>aJ ?_;refine b7 bl λhd _ cc cK _=>?_;show bw ay (.loop ?e_) _ _;have hf:∀n cl bW aW,vo n cl bW aW=some r->dK ay ?e_ hd (ah [(0,.ao 2 (cl.map bA)),(1,.int .i64 bW),(5,.int .i64 aW)]):=by
  refine er λ_ gV cl bW aW h=>ep cc λ_ gp dn cu=>aU dn λ_ ed _ b2=>aJ ?_;refine ba h (λdz h=>?_) λdz h=>?_
  .refine bt (ed _ (inl (aU dn λ_ ee dc _=>b7 dc λ_ c5 _ _ _=>?_)));obtain⟨af,eK,h⟩:=aL h;refine dB (cD [(0,.ao 2 ((List.set cl (Int.toNat aW) (aM.mk bW af.Value)).map bA)),(1,.int .i64 bW),(5,.int .i64 aW)] (λP bp=>?_) ?_)
   .simp only[aS.down,simprocAttr,eK,cV eK,fj,db];exact cx (ab eK (ab (cV eK) @fj))
   refine ws [(0,.ao 2 ((List.set cl (Int.toNat aW) (aM.mk bW af.Value)).map bA)),(1,.int .i64 (i64.wrap (bW+1))),(5,.int .i64 aW)] ?_;obtain⟨aA,e5,h⟩:=aL h;refine dB (cD [(0,.ao 2 ((List.set (List.set cl (Int.toNat aW) (aM.mk bW af.Value)) (Int.toNat aW) (aM.mk aA.Kind (i64.wrap (bW+1)))).map bA)),(1,.int .i64 (i64.wrap (bW+1))),(5,.int .i64 aW)] (λP bp=>?_) ?_)
   .simp only[aS.down,simprocAttr,e5,cV e5,fj,db];exact cx (ab e5 (ab (cV e5) @fj))
   refine wr [(0,.ao 2 ((List.set (List.set cl (Int.toNat aW) (aM.mk bW af.Value)) (Int.toNat aW) (aM.mk aA.Kind (i64.wrap (bW+1)))).map bA)),(1,.int .i64 (i64.wrap ((i64.wrap (bW+1))+1))),(5,.int .i64 aW)] ?_;refine c5 _ (ee _ (inl (wr [(0,.ao 2 ((List.set (List.set cl (Int.toNat aW) (aM.mk bW af.Value)) (Int.toNat aW) (aM.mk aA.Kind (i64.wrap (bW+1)))).map bA)),(1,.int .i64 (i64.wrap ((i64.wrap (bW+1))+1))),(5,.int .i64 (i64.wrap (aW+1)))] ?_)));exact gp _ (inr ⟨_,cY rfl,gV (List.set (List.set cl (Int.toNat aW) (aM.mk bW af.Value)) (Int.toNat aW) (aM.mk aA.Kind (i64.wrap (bW+1)))) (i64.wrap ((i64.wrap (bW+1))+1)) (i64.wrap (aW+1)) h⟩)
  .refine ei (b2 0 _ (cu 0 _ (cK _ (b6 _ (inl (aJ ?_))))));exact ld (aF _ (inl (lf [.int .i64 bW] rfl (by cases fP h;rfl) (by decide) (lN (ke (by cases fP h;rfl) rfl rfl rfl (jV (lO)))))))
 exact eN h λn h=>hf n a0 aa 0 h
theorem F1 (a0 r) (h:vp a0=some r):bb ay 28 [.int .i64 a0] (.str r) []:=by
 refine cq [] [.tmp 2] Tryz.func28 Wn λcf aF cd=>aJ ?_;refine aU aF λ_ b6 bl _=>aJ ?_;refine ba h (λcK h=>?_) λcK h=>?_
 .exact bu bl [.str ([109,48]:aca)]
 .refine bt (b6 _ (inl (aJ ?_)));refine aU aF λ_ fm fK _=>b7 fK λnp _ jI dz _=>?_;have kW:∀n kS fq,tp n kS fq=some r->dK ay LK np (ah [(0,.int .i64 kS),(3,.str fq)]):=by
   refine er λ_ kx kS fq h=>ep jI λ_ ee dc dN=>aU dc λ_ c5 _ fa=>aJ ?_;refine ba h (λfG h=>?_) λfG h=>?_
   .refine bt (c5 _ (inl (b7 dc λ_ l5 _ _ _=>?_)));obtain⟨u16,e5,h⟩:=aL h;(try simp only[ji.down,Nat.zero_add,Nat.add_zero,reduceAdd]at e5);refine et (ab (@rh .i64 10 (by decide)) (ab (@JK ay 3 5 .u8 rfl rfl) (ab (show∀s,eD ay s 85 1 [(0,.int .u8 (u8.wrap (i64.wrap (48+(Int.tmod kS 10)))))]=some (.ao 1 [.int .u8 (u8.wrap (i64.wrap (48+(Int.tmod kS 10))))],s)from λs=>by kernel_rfl) (ab ((@JM ay 85 9 5 rfl rfl rfl).2.2) (ab @JP (ab @JN (ab e5 (ab @pw @px)))))))) [(0,.int .i64 kS),(3,.str ([(lx (i64.wrap (48+(Int.tmod kS 10))))]++fq))] ?_;refine qB (@JQ .i64 10 (by decide)) [(0,.int .i64 (i64.wrap (Int.tdiv kS 10))),(3,.str ([(lx (i64.wrap (48+(Int.tmod kS 10))))]++fq))] ?_;exact l5 _ (ee _ (inr ⟨_,cY rfl,kx (i64.wrap (Int.tdiv kS 10)) ([(lx (i64.wrap (48+(Int.tmod kS 10))))]++fq) h⟩))
   .refine ei (fa 0 _ (dN 0 _ (dz _ (fm _ (inl ?_)))));obtain⟨Fg,gT,h⟩:=aL h;(try simp only[ji.down,Nat.zero_add,Nat.add_zero,reduceAdd]at gT);refine et (ab gT (ab @pw @px)) [(2,.str (([109]:aca)++fq))] ?_;exact cR aF [.str (([109]:aca)++fq)]
  exact eN h λn h=>kW n a0 ([]:aca) h
theorem MA (a0 aa r) (h:xV a0 aa=some r):bb ay 53 [.ao 1 (a0.map h4),.int .i64 aa] (.int .i64 r.1) [.ao 1 (r.2.map h4),.hole]:=by
 refine cq [0] [.tmp 4] Tryz.func53 Wo λcf aF cd=>aJ ?_;refine aU aF λ_ b6 bl aA=>aJ ?_;refine b7 bl λhd _ cc cK _=>?_;show bw ay (.loop ?e_) _ _;have hf:∀n cl bW aW,vq n cl bW aW=some r->dK ay ?e_ hd (ah [(0,.ao 1 (cl.map h4)),(1,.int .i64 bW),(5,.int .i64 aW)]):=by
  refine er λ_ gV cl bW aW h=>ep cc λ_ gp dn cu=>aU dn λ_ ed _ b2=>aJ ?_;refine ba h (λdz h=>?_) λdz h=>?_
  .refine bt (ed _ (inl (aU dn λ_ ee dc _=>b7 dc λ_ c5 _ _ _=>?_)));obtain⟨af,eK,h⟩:=aL h;obtain⟨aA,dX,h⟩:=aL h;refine jb (cD [(0,.ao 1 ((List.set cl (Int.toNat aW) aA.2).map h4)),(1,.int .i64 aA.1),(5,.int .i64 aW)] (λP bp=>?_) ?_)
   ·(try simp only[aS.down,simprocAttr,eK,cV eK]);refine oC [⟨.h 0 [Int.toNat aW],true,_,_⟩,⟨.int .i64 bW,false,_,.hole⟩] (Mz af bW _ dX) rfl rfl rfl (by simp only[aS.down,simprocAttr,eK,cV eK,LY.down]) rfl rfl (inl rfl) ?_;simp only[aS.down,simprocAttr,eK,cV eK,mq,(uF (cV eK)),uG];exact cx (ab eK (cV eK))
   refine c5 _ (ee _ (inl (wr [(0,.ao 1 ((List.set cl (Int.toNat aW) aA.2).map h4)),(1,.int .i64 aA.1),(5,.int .i64 (i64.wrap (aW+1)))] ?_)));exact gp _ (inr ⟨_,cY rfl,gV (List.set cl (Int.toNat aW) aA.2) aA.1 (i64.wrap (aW+1)) h⟩)
  .refine ei (b2 0 _ (cu 0 _ (cK _ (b6 _ (inl (aJ ?_))))));exact ld (aF _ (inl (lf [.int .i64 bW] rfl (by cases fP h;rfl) (by decide) (lN (ke (by cases fP h;rfl) rfl rfl rfl (jV (lO)))))))
 exact eN h λn h=>hf n a0 aa 0 h
theorem Yf (a0 aa r) (h:AD a0 aa=some r):bb ay 27 [.ao 5 (a0.map fs),.int .i64 aa] (.int .i64 r.1) [.ao 5 (r.2.map fs),.hole]:=by
 refine cq [0] [.tmp 4] Tryz.func27 Wp λcf aF cd=>aJ ?_;refine aU aF λ_ b6 bl aA=>aJ ?_;refine b7 bl λhd _ cc cK bj=>?_;show bw ay (.loop ?e_) _ _;have hf:∀n cl bW aW,vr n cl bW aW=some r->dK ay ?e_ hd (ah [(0,.ao 5 (cl.map fs)),(1,.int .i64 bW),(5,.int .i64 aW)]):=by
  refine er λ_ gV cl bW aW h=>ep cc λ_ gp dn cu=>aU dn λ_ ed _ b2=>aJ ?_;refine ba h (λdz h=>?_) λdz h=>?_
  .refine bt (ed _ (inl (aU dn λ_ ee dc dN=>b7 dc λ_ c5 _ _ fa=>?_)));obtain⟨af,eK,h⟩:=aL h;obtain⟨aA,dX,h⟩:=aL h;refine dB (cD [(0,.ao 5 ((List.set cl (Int.toNat aW) (bN.mk aA.2 af.Guard af.Name af.bP af.Next)).map fs)),(1,.int .i64 aA.1),(5,.int .i64 aW)] (λP bp=>?_) ?_)
   ·(try simp only[aS.down,simprocAttr,eK,cV eK]);refine oC [⟨.h 0 [Int.toNat aW,0],true,_,_⟩,⟨.int .i64 bW,false,_,.hole⟩] (AZ af.aY bW _ dX) rfl rfl rfl (by simp only[aS.down,simprocAttr,eK,cV eK,LZ.down]) rfl rfl (inl rfl) ?_;simp only[aS.down,simprocAttr,eK,cV eK,mq,(uF (cV eK)),uG];exact cx (ab eK (cV eK))
   obtain⟨aX,e5,h⟩:=aL h;obtain⟨bj,dr,h⟩:=aL h;refine dB (cD [(0,.ao 5 ((List.set (List.set cl (Int.toNat aW) (bN.mk aA.2 af.Guard af.Name af.bP af.Next)) (Int.toNat aW) (bN.mk aX.aY bj.2 aX.Name aX.bP aX.Next)).map fs)),(1,.int .i64 bj.1),(5,.int .i64 aW)] (λP bp=>?_) ?_)
   ·(try simp only[aS.down,simprocAttr,e5,cV e5]);refine oC [⟨.h 0 [Int.toNat aW,1],true,_,_⟩,⟨.int .i64 aA.1,false,_,.hole⟩] (Mz aX.Guard aA.1 _ dr) rfl rfl rfl (by simp only[aS.down,simprocAttr,e5,cV e5,LY.down]) rfl rfl (inl rfl) ?_;simp only[aS.down,simprocAttr,e5,cV e5,mq,(uF (cV e5)),uG];exact cx (ab e5 (cV e5))
   obtain⟨cu,gT,h⟩:=aL h;obtain⟨b2,h6,h⟩:=aL h;refine dB (cD [(0,.ao 5 ((List.set (List.set (List.set cl (Int.toNat aW) (bN.mk aA.2 af.Guard af.Name af.bP af.Next)) (Int.toNat aW) (bN.mk aX.aY bj.2 aX.Name aX.bP aX.Next)) (Int.toNat aW) (bN.mk b2.aY b2.Guard cu b2.bP b2.Next)).map fs)),(1,.int .i64 bj.1),(5,.int .i64 aW)] (λP bp=>?_) ?_)
   ·(try simp only[aS.down,simprocAttr,h6,cV h6,fj,db]);refine dk (F1 bj.1 _ gT) (hK:= ?_);simp only[aS.down,simprocAttr,h6,cV h6,fj,db];exact cx (ab h6 (ab (cV h6) @fj))
   refine ws [(0,.ao 5 ((List.set (List.set (List.set cl (Int.toNat aW) (bN.mk aA.2 af.Guard af.Name af.bP af.Next)) (Int.toNat aW) (bN.mk aX.aY bj.2 aX.Name aX.bP aX.Next)) (Int.toNat aW) (bN.mk b2.aY b2.Guard cu b2.bP b2.Next)).map fs)),(1,.int .i64 (i64.wrap (bj.1+1))),(5,.int .i64 aW)] ?_;obtain⟨b9,hv,h⟩:=aL h;obtain⟨dM,nm,h⟩:=aL h;refine dB (cD [(0,.ao 5 ((List.set (List.set (List.set (List.set cl (Int.toNat aW) (bN.mk aA.2 af.Guard af.Name af.bP af.Next)) (Int.toNat aW) (bN.mk aX.aY bj.2 aX.Name aX.bP aX.Next)) (Int.toNat aW) (bN.mk b2.aY b2.Guard cu b2.bP b2.Next)) (Int.toNat aW) (bN.mk b9.aY b9.Guard b9.Name dM.2 b9.Next)).map fs)),(1,.int .i64 dM.1),(5,.int .i64 aW)] (λP bp=>?_) ?_)
   ·(try simp only[aS.down,simprocAttr,hv,cV hv]);refine oC [⟨.h 0 [Int.toNat aW,3],true,_,_⟩,⟨.int .i64 (i64.wrap (bj.1+1)),false,_,.hole⟩] (MA b9.bP (i64.wrap (bj.1+1)) _ nm) rfl rfl rfl (by simp only[aS.down,simprocAttr,hv,cV hv,L0.down]) rfl rfl (inl rfl) ?_;simp only[aS.down,simprocAttr,hv,cV hv,mq,(uF (cV hv)),uG];exact cx (ab hv (cV hv))
   obtain⟨dN,hO,h⟩:=aL h;obtain⟨fa,Fb,h⟩:=aL h;refine jb (cD [(0,.ao 5 ((List.set (List.set (List.set (List.set (List.set cl (Int.toNat aW) (bN.mk aA.2 af.Guard af.Name af.bP af.Next)) (Int.toNat aW) (bN.mk aX.aY bj.2 aX.Name aX.bP aX.Next)) (Int.toNat aW) (bN.mk b2.aY b2.Guard cu b2.bP b2.Next)) (Int.toNat aW) (bN.mk b9.aY b9.Guard b9.Name dM.2 b9.Next)) (Int.toNat aW) (bN.mk dN.aY dN.Guard dN.Name dN.bP fa.2)).map fs)),(1,.int .i64 fa.1),(5,.int .i64 aW)] (λP bp=>?_) ?_)
   ·(try simp only[aS.down,simprocAttr,hO,cV hO]);refine oC [⟨.h 0 [Int.toNat aW,4],true,_,_⟩,⟨.int .i64 dM.1,false,_,.hole⟩] (MA dN.Next dM.1 _ Fb) rfl rfl rfl (by simp only[aS.down,simprocAttr,hO,cV hO,L0.down]) rfl rfl (inl rfl) ?_;simp only[aS.down,simprocAttr,hO,cV hO,mq,(uF (cV hO)),uG];exact cx (ab hO (cV hO))
   refine c5 _ (ee _ (inl (wr [(0,.ao 5 ((List.set (List.set (List.set (List.set (List.set cl (Int.toNat aW) (bN.mk aA.2 af.Guard af.Name af.bP af.Next)) (Int.toNat aW) (bN.mk aX.aY bj.2 aX.Name aX.bP aX.Next)) (Int.toNat aW) (bN.mk b2.aY b2.Guard cu b2.bP b2.Next)) (Int.toNat aW) (bN.mk b9.aY b9.Guard b9.Name dM.2 b9.Next)) (Int.toNat aW) (bN.mk dN.aY dN.Guard dN.Name dN.bP fa.2)).map fs)),(1,.int .i64 fa.1),(5,.int .i64 (i64.wrap (aW+1)))] ?_)));exact gp _ (inr ⟨_,cY rfl,gV (List.set (List.set (List.set (List.set (List.set cl (Int.toNat aW) (bN.mk aA.2 af.Guard af.Name af.bP af.Next)) (Int.toNat aW) (bN.mk aX.aY bj.2 aX.Name aX.bP aX.Next)) (Int.toNat aW) (bN.mk b2.aY b2.Guard cu b2.bP b2.Next)) (Int.toNat aW) (bN.mk b9.aY b9.Guard b9.Name dM.2 b9.Next)) (Int.toNat aW) (bN.mk dN.aY dN.Guard dN.Name dN.bP fa.2)) fa.1 (i64.wrap (aW+1)) h⟩)
  .refine ei (b2 0 _ (cu 0 _ (cK _ (b6 _ (inl (aJ ?_))))));exact ld (aF _ (inl (lf [.int .i64 bW] rfl (by cases fP h;rfl) (by decide) (lN (ke (by cases fP h;rfl) rfl rfl rfl (jV (lO)))))))
 exact eN h λn h=>hf n a0 aa 0 h
theorem Yg (tq vt tr aa r) (h:AE tq vt tr aa=some r):bb ay 12 [.agg [.int .i64 tq,.ao 1 (vt.map aC),.ao 5 (tr.map fs)],.int .i64 aa] (.int .i64 r.1) [.agg [.int .i64 r.2.1,.ao 1 (r.2.2.1.map aC),.ao 5 (r.2.2.2.map fs)],.hole]:=by
 refine cq [0] [.tmp 4] Tryz.func12 Wq λcf aF cd=>dB (cD [(0,.agg [.int .i64 tq,.ao 1 (vt.map aC),.ao 5 (tr.map fs)]),(1,.int .i64 aa),(2,.I 0 0)] (λP bp=>?_) ?_)
 .simp only[aS.down,simprocAttr,rO.down,j.dj];exact cx rO.down
 obtain⟨af,aP,h⟩:=aL h;refine dB (cD [(0,.agg [.int .i64 tq,.ao 1 (af.2.map aC),.ao 5 (tr.map fs)]),(1,.int .i64 af.1),(2,.I 0 0)] (λP bp=>?_) ?_)
 ·(try simp only[aS.down,simprocAttr,rO.down,j.dj]);refine R2 [⟨.h 0 [1],true,_,_⟩,⟨.int .i64 aa,false,_,.hole⟩] (AZ vt aa _ aP) rfl rfl rfl (by simp only[aS.down,simprocAttr,uD,uE,j.dj,mU,pz,oD,mo,hq,hr,hs,dL,or_true,true_or, @cP _ aC aC (λ_=>gS _)]) rfl rfl (inl rfl) (by simp only[aS.down,simprocAttr,uD,uE,j.dj,mU,J7,mo,C3,Bool.and_self,Bool.not_false,Bool.and_true]) ?_;simp only[aS.down,simprocAttr,uD,uE,j.dj,mU,mq,J7,mo,eq_self,Bool.and_self];exact cx rO.down
 obtain⟨aA,b_,h⟩:=aL h;refine dB (cD [(0,.agg [.int .i64 tq,.ao 1 (af.2.map aC),.ao 5 (aA.2.map fs)]),(1,.int .i64 aA.1)] (λP bp=>?_) ?_)
 ·(try simp only[aS.down,simprocAttr,rO.down,j.dj]);refine oC [⟨.h 0 [2],true,_,_⟩,⟨.int .i64 af.1,false,_,.hole⟩] (Yf tr af.1 _ b_) rfl rfl rfl (by simp only[aS.down,simprocAttr,uD,uE,j.dj,mU,pz,oD,mo,hq,hr,hs,dL,or_true,true_or, @cP _ fs dq (λ_=>ts _)]) rfl rfl (inl rfl) ?_;simp only[aS.down,simprocAttr,uD,uE,j.dj,mU,mq];exact cx rO.down
 refine aJ ?_;exact ld (aF _ (inl (lf [.int .i64 aA.1] rfl (by cases fP h;rfl) (by decide) (lN (ke (by cases fP h;rfl) rfl rfl rfl (jV (lO)))))))
theorem Yh (a0 aa r) (h:AF a0 aa=some r):bb ay 14 [.ao 2 (a0.map ck),.int .i64 aa] (.int .i64 r.1) [.ao 2 (r.2.map ck),.hole]:=by
 refine cq [0] [.tmp 4] Tryz.func14 kU λcf aF cd=>aJ ?_;refine aU aF λ_ b6 bl aA=>aJ ?_;refine b7 bl λhd _ cc cK bj=>?_;show bw ay (.loop ?e_) _ _;have hf:∀n cl bW aW,vu n cl bW aW=some r->dK ay ?e_ hd (ah [(0,.ao 2 (cl.map ck)),(1,.int .i64 bW),(5,.int .i64 aW)]):=by
  refine er λ_ gV cl bW aW h=>ep cc λ_ gp dn cu=>aU dn λ_ ed _ b2=>aJ ?_;refine ba h (λdz h=>?_) λdz h=>?_
  .refine bt (ed _ (inl (aU dn λ_ ee dc _=>b7 dc λ_ c5 _ _ _=>?_)));obtain⟨af,eK,h⟩:=aL h;obtain⟨aA,dX,h⟩:=aL h;refine dB (cD [(0,.ao 2 ((List.set cl (Int.toNat aW) (br.mk af aA.Next)).map ck)),(1,.int .i64 bW),(5,.int .i64 aW)] (λP bp=>?_) ?_)
   ·(try simp only[aS.down,simprocAttr,dX,cV dX,fj,db]);refine dk (F1 bW _ eK) (hK:= ?_);simp only[aS.down,simprocAttr,dX,cV dX,fj,db];exact cx (ab dX (ab (cV dX) @fj))
   refine ws [(0,.ao 2 ((List.set cl (Int.toNat aW) (br.mk af aA.Next)).map ck)),(1,.int .i64 (i64.wrap (bW+1))),(5,.int .i64 aW)] ?_;obtain⟨aX,dr,h⟩:=aL h;obtain⟨bj,e4,h⟩:=aL h;refine jb (cD [(0,.ao 2 ((List.set (List.set cl (Int.toNat aW) (br.mk af aA.Next)) (Int.toNat aW) (br.mk aX.Label bj.2)).map ck)),(1,.int .i64 bj.1),(5,.int .i64 aW)] (λP bp=>?_) ?_)
   ·(try simp only[aS.down,simprocAttr,dr,cV dr]);refine oC [⟨.h 0 [Int.toNat aW,1],true,_,_⟩,⟨.int .i64 (i64.wrap (bW+1)),false,_,.hole⟩] (AZ aX.Next (i64.wrap (bW+1)) _ e4) rfl rfl rfl (by simp only[aS.down,simprocAttr,dr,cV dr,LZ.down]) rfl rfl (inl rfl) ?_;simp only[aS.down,simprocAttr,dr,cV dr,mq,(uF (cV dr)),uG];exact cx (ab dr (cV dr))
   refine c5 _ (ee _ (inl (wr [(0,.ao 2 ((List.set (List.set cl (Int.toNat aW) (br.mk af aA.Next)) (Int.toNat aW) (br.mk aX.Label bj.2)).map ck)),(1,.int .i64 bj.1),(5,.int .i64 (i64.wrap (aW+1)))] ?_)));exact gp _ (inr ⟨_,cY rfl,gV (List.set (List.set cl (Int.toNat aW) (br.mk af aA.Next)) (Int.toNat aW) (br.mk aX.Label bj.2)) bj.1 (i64.wrap (aW+1)) h⟩)
  .refine ei (b2 0 _ (cu 0 _ (cK _ (b6 _ (inl (aJ ?_))))));exact ld (aF _ (inl (lf [.int .i64 bW] rfl (by cases fP h;rfl) (by decide) (lN (ke (by cases fP h;rfl) rfl rfl rfl (jV (lO)))))))
 exact eN h λn h=>hf n a0 aa 0 h
theorem Yi (a0 aa r) (h:AG a0 aa=some r):bb ay 29 [.slice (a0.map aC),.int .i64 aa] (.int .i64 r) []:=by
 refine cq [0] [.tmp 4] Tryz.func29 Wr λcf aF cd=>aJ ?_;refine aU aF λ_ b6 bl _=>aJ ?_;refine b7 bl λhd _ cc cK _=>?_;show bw ay (.loop ?e_) _ _;have hf:∀n bW aW,vv a0 n bW aW=some r->dK ay ?e_ hd (ah [(0,.slice (a0.map aC)),(1,.int .i64 bW),(5,.int .i64 aW)]):=by
  refine er λ_ gV bW aW h=>ep cc λ_ gp dn cu=>aU dn λ_ ed _ b2=>aJ ?_;refine ba h (λdz h=>?_) λdz h=>?_
  .refine bt (ed _ (inl (aU dn λ_ ee dc _=>b7 dc λ_ c5 dT _ _=>aU dT λ_ eY hE _=>?_)));obtain⟨af,dX,h⟩:=aL h;refine et dX _ ?_;refine ba h (λjn h=>?_) λjn h=>?_
   .exact bu hE [.int .i64 (-1)]
   .refine bt (eY _ (inl (gg ?_)));refine c5 _ (ee _ (inl (gg ?_)));exact gp _ (inr ⟨_,cY rfl,gV (i64.wrap (bW+1)) (i64.wrap (aW+1)) h⟩)
  .exact ei (b2 0 _ (cu 0 _ (cK _ (b6 _ (inl (bu aF [.int .i64 bW]))))))
 exact eN h λn h=>hf n aa 0 h
theorem MB (a0 aa r) (h:xW a0 aa=some r):bb ay 15 [.slice (a0.map jZ),.int .i64 aa] (.int .i64 r) []:=by
 refine cq [0] [.tmp 4] Tryz.func15 Ws λcf aF cd=>aJ ?_;refine aU aF λ_ b6 bl aA=>aJ ?_;refine b7 bl λhd _ cc cK _=>?_;show bw ay (.loop ?e_) _ _;have hf:∀n bW aW,vw a0 n bW aW=some r->dK ay ?e_ hd (ah [(0,.slice (a0.map jZ)),(1,.int .i64 bW),(5,.int .i64 aW)]):=by
  refine er λ_ gV bW aW h=>ep cc λ_ gp dn cu=>aU dn λ_ ed _ b2=>aJ ?_;refine ba h (λdz h=>?_) λdz h=>?_
  .refine bt (ed _ (inl (aU dn λ_ ee dc _=>b7 dc λ_ c5 dT _ _=>aU dT λ_ eY hE _=>?_)));obtain⟨af,dX,h⟩:=aL h;obtain⟨aA,fb,h⟩:=aL h;refine tt dX (F1 bW _ fb) _ ?_;refine ba h (λjJ h=>?_) λjJ h=>?_
   .exact bu hE [.int .i64 (-1)]
   .refine bt (eY _ (inl (aJ ?_)));obtain⟨aX,h6,h⟩:=aL h;refine ft dX (Yi af.Next (i64.wrap (bW+1)) _ h6) _ ?_;refine aJ ?_;refine ba h (λYj h=>?_) λYj h=>?_
    .exact bu dT [.int .i64 (-1)]
    .refine bt (c5 _ (ee _ (inl (gg ?_))));exact gp _ (inr ⟨_,cY rfl,gV aX (i64.wrap (aW+1)) h⟩)
  .exact ei (b2 0 _ (cu 0 _ (cK _ (b6 _ (inl (bu aF [.int .i64 bW]))))))
 exact eN h λn h=>hf n aa 0 h
theorem Yk (a0 aa r) (h:ER a0 aa=some r):bb ay 3 [ku a0,.slice (aa.map aC)] (.bool r) []:=by
 refine cq [0,1] [.tmp 4] Tryz.func3 kI λcf aF cd=>aJ ?_;refine aU aF λ_ b6 bl aA=>aJ ?_;refine ba h (λcK h=>?_) λcK h=>?_
 .exact bu bl [.bool true]
 .refine bt (b6 _ (inl (aJ ?_)));obtain⟨af,hy,h⟩:=aL h;refine dO (WC a0 1048576 _ hy) _ ?_;refine aU aF λ_ ee dc dN=>aJ ?_;refine ba h (λlp h=>?_) λlp h=>?_
  .exact bu dc [.bool true]
  .refine bt (ee _ (inl ?_));obtain⟨aA,fb,h⟩:=aL h;obtain⟨aX,e5,h⟩:=aL h;obtain⟨bj,dr,h⟩:=aL h;refine dB (cD [(1,.slice (aa.map aC)),(2,.aV (ku a0)),(6,.ao 2 (bj.1.map ck)),(7,.int .i64 bj.2)] (λP bp=>?_) ?_)
   ·(try simp only[aS.down,simprocAttr]);refine dk (AQ a0 _ fb) (hK:= ?_);simp only[aS.down,simprocAttr];refine dk (vz aa _ e5) (hK:= ?_);simp only[aS.down,simprocAttr];refine dk (Xr aA aX _ dr) rfl rfl (by simp only[aS.down,simprocAttr,Fa.down]<;>rfl) rfl (inr (by simp only[j.b5,j.fU, @iP _ ck (λ_=>vx _),Bool.and_self])) ?_;simp only[aS.down,simprocAttr];exact cx trivial
   obtain⟨cu,gT,h⟩:=aL h;refine dO (AQ a0 _ gT) _ ?_;obtain⟨b2,h5,h⟩:=aL h;refine dO (vz aa _ h5) _ ?_;obtain⟨b9,hv,h⟩:=aL h;refine dB (cD [(1,.slice (aa.map aC)),(2,.aV (ku a0)),(6,.ao 2 (bj.1.map ck)),(7,.int .i64 bj.2),(8,.aV (oL cu)),(9,.ao 1 (b2.map aC)),(10,.ao 2 (b9.1.map ck)),(11,.int .i64 b9.2)] (λP bp=>?_) ?_)
   ·(try simp only[aS.down,simprocAttr]);refine dk (Mw cu b2 _ hv) rfl rfl (by simp only[aS.down,simprocAttr,Fa.down]<;>rfl) rfl (inr (by simp only[j.b5,j.fU, @iP _ ck (λ_=>vx _),Bool.and_self])) ?_;simp only[aS.down,simprocAttr];exact cx trivial
   refine aU aF λ_ FZ tE _=>?_;obtain⟨dM,hO,h⟩:=aL h;refine dB (cD [(1,.slice (aa.map aC)),(2,.aV (ku a0)),(6,.ao 2 (bj.1.map ck)),(7,.int .i64 bj.2),(8,.aV (oL cu)),(9,.ao 1 (b2.map aC)),(10,.ao 2 (b9.1.map ck)),(11,.int .i64 b9.2),(51,.bool ((!dM)||(b9.2 !=bj.2)))] (λP bp=>?_) ?_)
   .rcases Bool.eq_false_or_eq_true (dM)with qI|qI
    ·(try simp only[aS.down,simprocAttr,qI]);refine dk (vD b9.1 bj.1 _ hO) rfl rfl (by simp only[aS.down,simprocAttr,qI,vy.down]<;>rfl) rfl (inr (by rfl)) ?_;simp only[aS.down,simprocAttr,qI];exact cx qI
    ·(try simp only[aS.down,simprocAttr,qI]);refine dk (vD b9.1 bj.1 _ hO) rfl rfl (by simp only[aS.down,simprocAttr,qI,vy.down]<;>rfl) rfl (inr (by rfl)) ?_;simp only[aS.down,simprocAttr,qI];exact cx qI
   refine ba h (λnn h=>?_) λnn h=>?_
   .exact bu tE [.bool false]
   .refine bt (FZ _ (inl (aU aF λ_ tC AU _=>?_)));obtain⟨dN,kY,h⟩:=aL h;obtain⟨fa,FC,h⟩:=aL h;refine sL rfl (qj [(1,.slice (aa.map aC)),(2,.aV (ku a0)),(6,.ao 2 (bj.1.map ck)),(7,.int .i64 bj.2),(8,.aV (oL cu)),(9,.ao 1 (b2.map aC)),(10,.ao 2 (b9.1.map ck)),(11,.int .i64 b9.2),(56,.bool (!fa))] (λP bp=>?_) ?_)
    ·(try simp only[gn.down,simprocAttr]);refine mS (AQ a0 _ kY) (hK:= ?_);simp only[gn.down,simprocAttr];refine mS (Ye cu dN _ FC) rfl rfl (by simp only[gn.down,simprocAttr,hq,hr,hs,dL, @cP _ aC aC (λ_=>gS _), @cP _ fs dq (λ_=>ts _), @cP _ aC aC (λ_=>gS _), @cP _ fs dq (λ_=>ts _)]<;>rfl) rfl (inr (by rfl)) ?_;simp only[gn.down,simprocAttr];refine⟨pD (by kernel_rfl),?_⟩;exact cx trivial
    refine ba h (λqF h=>?_) λqF h=>?_
    .exact bu AU [.bool false]
    .refine bt (tC _ (inl (aU aF λ_ FD FE _=>?_)));obtain⟨l0,AV,h⟩:=aL h;obtain⟨xX,x_,h⟩:=aL h;refine dB (cD [(1,.slice (aa.map aC)),(2,.aV (ku a0)),(6,.ao 2 (bj.1.map ck)),(7,.int .i64 bj.2),(8,.aV (oL cu)),(9,.ao 1 (b2.map aC)),(10,.ao 2 (b9.1.map ck)),(11,.int .i64 b9.2),(61,.bool (!xX))] (λP bp=>?_) ?_)
     ·(try simp only[aS.down,simprocAttr]);refine dk (vz aa _ AV) (hK:= ?_);simp only[aS.down,simprocAttr];refine dk (AY b2 l0 _ x_) rfl rfl (by simp only[aS.down,simprocAttr,LS.down]<;>rfl) rfl (inr (by rfl)) ?_;simp only[aS.down,simprocAttr];exact cx trivial
     refine ba h (λYl h=>?_) λYl h=>?_
     .exact bu FE [.bool false]
     .refine bt (FD _ (inl (aJ ?_)));obtain⟨rH,AW,h⟩:=aL h;refine dB (cD [(1,.slice (aa.map aC)),(2,.aV (ku a0)),(6,.ao 2 (bj.1.map ck)),(7,.int .i64 bj.2),(9,.ao 1 (b2.map aC)),(10,.ao 2 (b9.1.map ck)),(11,.int .i64 b9.2),(12,.int .i64 rH.1)] (λP bp=>?_) ?_)
      ·(try simp only[aS.down,simprocAttr]);refine oC [⟨.h 8 [0],true,_,_⟩,⟨.int .i64 1,false,_,.hole⟩] (Yg cu.dS cu.Start cu.cC 1 _ AW) rfl rfl rfl (by simp only[aS.down,simprocAttr,pz,oD,mo,hq,hr,hs,dL,or_true,true_or, @cP _ aC aC (λ_=>gS _), @cP _ fs dq (λ_=>ts _)]) rfl rfl (inl rfl) ?_;simp only[aS.down,simprocAttr,mq];exact cx trivial
      obtain⟨rI,Ym,h⟩:=aL h;refine dB (cD [(1,.slice (aa.map aC)),(2,.aV (ku a0)),(6,.ao 2 (bj.1.map ck)),(7,.int .i64 bj.2),(10,.ao 2 (b9.1.map ck)),(11,.int .i64 b9.2),(12,.int .i64 rI.1)] (λP bp=>?_) ?_)
      ·(try simp only[aS.down,simprocAttr]);refine oC [⟨.h 9 [],true,_,_⟩,⟨.int .i64 rH.1,false,_,.hole⟩] (AZ b2 rH.1 _ Ym) rfl rfl rfl (by simp only[aS.down,simprocAttr,LR.down]) rfl rfl (inl rfl) ?_;simp only[aS.down,simprocAttr,mq];exact cx trivial
      refine aU aF λ_ Yn MC _=>?_;rcases gr h with⟨kZ,h⟩|⟨kZ,h⟩
      .refine et kZ _ ?_;refine kM rfl ?_;exact bu MC [.bool false]
      .obtain⟨rJ,MD,h⟩:=aL h;refine dB (cD [(1,.slice (aa.map aC)),(2,.aV (ku a0)),(6,.ao 2 (bj.1.map ck)),(7,.int .i64 bj.2),(10,.ao 2 (b9.1.map ck)),(80,.bool ((!rJ)||(b9.2 !=bj.2)))] (λP bp=>?_) ?_)
       .rcases Bool.eq_false_or_eq_true (rJ)with qJ|qJ
        ·(try simp only[aS.down,simprocAttr,kZ,qJ]);refine lM (vD b9.1 bj.1 _ MD) rfl rfl (by simp only[aS.down,simprocAttr,kZ,qJ,vy.down]<;>rfl) rfl (inr (by rfl)) ?_;simp only[aS.down,simprocAttr,kZ,qJ];exact cx (ab kZ qJ)
        ·(try simp only[aS.down,simprocAttr,kZ,qJ]);refine lM (vD b9.1 bj.1 _ MD) rfl rfl (by simp only[aS.down,simprocAttr,kZ,qJ,vy.down]<;>rfl) rfl (inr (by rfl)) ?_;simp only[aS.down,simprocAttr,kZ,qJ];exact cx (ab kZ qJ)
       refine ba h (λYo h=>?_) λYo h=>?_
       .exact bu MC [.bool false]
       .refine bt (Yn _ (inl (aJ ?_)));obtain⟨kt,Yp,h⟩:=aL h;refine dB (cD [(1,.slice (aa.map aC)),(2,.aV (ku a0)),(6,.ao 2 (bj.1.map ck)),(7,.int .i64 bj.2),(10,.ao 2 (kt.2.map ck)),(13,.int .i64 kt.1)] (λP bp=>?_) ?_)
        ·(try simp only[aS.down,simprocAttr]);refine oC [⟨.h 10 [],true,_,_⟩,⟨.int .i64 1,false,_,.hole⟩] (Yh b9.1 1 _ Yp) rfl rfl rfl (by simp only[aS.down,simprocAttr,pz,oD,mo,hq,hr,hs,dL,or_true,true_or, @cP _ ck jZ (λ_=>x1 _)]) rfl rfl (inl rfl) ?_;simp only[aS.down,simprocAttr,mq];exact cx trivial
        refine aJ ?_;obtain⟨rK,Yq,h⟩:=aL h;refine dB (cD [(1,.slice (aa.map aC)),(2,.aV (ku a0)),(6,.ao 2 (bj.1.map ck)),(7,.int .i64 bj.2),(10,.ao 2 (kt.2.map ck)),(13,.int .i64 kt.1),(14,.int .i64 rK)] (λP bp=>?_) ?_)
        ·(try simp only[aS.down,simprocAttr]);refine dk (MB kt.2 1 _ Yq) rfl rfl (by simp only[aS.down,simprocAttr,L1.down]<;>rfl) rfl (inr (by rfl)) ?_;simp only[aS.down,simprocAttr];exact cx trivial
        refine aU aF λ_ Yr Ys _=>aJ ?_;refine ba h (λYt h=>?_) λYt h=>?_
        .exact bu Ys [.bool false]
        .refine bt (Yr _ (inl (aU aF λ_ Yu Yv _=>aJ ?_)));refine ba h (λYw h=>?_) λYw h=>?_
         .exact bu Yv [.bool false]
         .refine bt (Yu _ (inl ?_));obtain⟨xY,Yx,h⟩:=aL h;obtain⟨xZ,Yy,h⟩:=aL h;obtain⟨rL,Yz,h⟩:=aL h;refine dB (cD [(6,.ao 2 (bj.1.map ck)),(7,.int .i64 bj.2),(10,.ao 2 (kt.2.map ck)),(13,.int .i64 kt.1),(15,.ao 2 (rL.1.map ck)),(16,.int .i64 rL.2)] (λP bp=>?_) ?_)
          ·(try simp only[aS.down,simprocAttr]);refine dk (AQ a0 _ Yx) (hK:= ?_);simp only[aS.down,simprocAttr];refine dk (vz aa _ Yy) (hK:= ?_);simp only[aS.down,simprocAttr];refine dk (Mw xY xZ _ Yz) rfl rfl (by simp only[aS.down,simprocAttr,Fa.down]<;>rfl) rfl (inr (by simp only[j.b5,j.fU, @iP _ ck (λ_=>vx _),Bool.and_self])) ?_;simp only[aS.down,simprocAttr];exact cx trivial
          refine aU aF λ_ YA YB _=>?_;obtain⟨AH,ME,h⟩:=aL h;refine dB (cD [(10,.ao 2 (kt.2.map ck)),(13,.int .i64 kt.1),(108,.bool ((!AH)||(rL.2 !=bj.2)))] (λP bp=>?_) ?_)
          .rcases Bool.eq_false_or_eq_true (AH)with oO|oO
           ·(try simp only[aS.down,simprocAttr,oO]);refine dk (vD rL.1 bj.1 _ ME) rfl rfl (by simp only[aS.down,simprocAttr,oO,vy.down]<;>rfl) rfl (inr (by rfl)) ?_;simp only[aS.down,simprocAttr,oO];exact cx oO
           ·(try simp only[aS.down,simprocAttr,oO]);refine dk (vD rL.1 bj.1 _ ME) rfl rfl (by simp only[aS.down,simprocAttr,oO,vy.down]<;>rfl) rfl (inr (by rfl)) ?_;simp only[aS.down,simprocAttr,oO];exact cx oO
          refine ba h (λYC h=>?_) λYC h=>?_
          .exact bu YB [.bool false]
          .refine bt (YA _ (inl (aJ ?_)));obtain⟨AJ,YD,h⟩:=aL h;refine dB (cD [(13,.int .i64 kt.1),(14,.int .i64 AJ)] (λP bp=>?_) ?_)
           ·(try simp only[aS.down,simprocAttr]);refine dk (MB kt.2 1 _ YD) rfl rfl (by simp only[aS.down,simprocAttr,L1.down]<;>rfl) rfl (inr (by rfl)) ?_;simp only[aS.down,simprocAttr];exact cx trivial
           refine aU aF λ_ YE YF _=>aJ ?_;refine ba h (λYG h=>?_) λYG h=>?_
           .exact bu YF [.bool false]
           .refine bt (YE _ (inl (aU aF λ_ YH YI _=>aJ ?_)));refine ba h (λYJ h=>?_) λYJ h=>?_
            .exact bu YI [.bool false]
            .exact bt (YH _ (inl (bu aF [.bool true])))
end Go.Proofs.YtndfcecbamffaaaGreatDoor
