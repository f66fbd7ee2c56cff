/- Part of a proof that a law returns true for every input. No condition. -/
import Derived.Test.YtngohoaiimbacabGreatDoorW1x3
namespace Go.Proofs.YtngohoaiimbacabGreatDoor
open List Option Go.IntKind Nat Or
open Go Go.c_ Go.lV
set_option maxRecDepth 100000
set_option maxHeartbeats 2000000
set_option linter.unusedSimpArgs false
set_option linter.unusedVariables false
theorem aca (a0 J r) (h:yE a0 J=some r):aX al 66 [bU a0,bU J] (.bool r) []:=by
 refine bA [0,1] [.tmp 4] Tryz.func66 Yy λbs ah bw=>aj ?_;refine aE ah λ_ bB a7 _=>aj ?_;refine aL h (λbO h=>?_) λbO h=>?_
 .exact aM a7 [.bool false]
 .refine aO (bB _ (inl (aE ah λ_ n6 dA _=>aj ?_)));refine aL h (λb9 h=>?_) λb9 h=>?_
  .exact aM dA [.bool false]
  .refine aO (n6 _ (inl (aE ah λ_ n10 cV _=>?_)));obtain⟨aa,dD,h⟩:=aB h;refine cN (ab_ a0.Body J.Body _ dD) _ ?_;refine aL h (λhc h=>?_) λhc h=>?_
   .exact aM cV [.bool false]
   .exact aO (n10 _ (inl (aM ah [.bool true])))
theorem acb (a0 J r) (h:BP a0 J=some r):aX al 32 [.slice (a0.map bU),.slice (J.map bU)] (.bool r) []:=by
 refine bA [0,1] [.tmp 4] Tryz.func32 Hk λbs ah bw=>aj ?_;refine aE ah λ_ bB a7 ag=>aj ?_;refine aL h (λbO h=>?_) λbO h=>?_
 .exact aM a7 [.bool false]
 .refine aO (bB _ (inl (aE ah λ_ n6 dA _=>aj ?_)));refine bo dA λiO _ hB b9 _=>?_;show a_ al (.loop ?hb) _ _;have hf:∀n cm,GO a0 J n cm=some r->cR al ?hb iO (ax [(0,.slice (a0.map bU)),(1,.slice (J.map bU)),(5,.int .i64 cm)]):=by
   refine c7 λ_ gQ cm h=>c6 hB λ_ cn bS e_=>aE bS λ_ n10 _ dV=>aj ?_;refine aL h (λfK h=>?_) λfK h=>?_
   .refine aO (n10 _ (inl (aE bS λ_ n13 fI _=>bo fI λ_ n14 ee _ _=>?_)));obtain⟨aa,cC,h⟩:=aB h;obtain⟨ag,ef,h⟩:=aB h;obtain⟨aK,dZ,h⟩:=aB h;refine k6 (af cC ef) (aca aa ag _ dZ) _ ?_;refine aL h (λfJ h=>?_) λfJ h=>?_
    .exact aM ee [.bool false]
    .refine aO (n14 _ (n13 _ (inl (dI ?_))));exact cn _ (inr ⟨_,bL rfl,gQ (i64.wrap (cm+1)) h⟩)
   .exact c1 (dV 0 _ (e_ 0 _ (b9 _ (n6 _ (inl (aM ah [.bool true]))))))
  exact dp h λn h=>hf n 0 h
theorem acd (a0 J r) (h:yF a0 J=some r):aX al 67 [ho a0,ho J] (.bool r) []:=by
 refine bA [0,1] [.tmp 4] Tryz.func67 Yz λbs ah bw=>aj ?_;refine aE ah λ_ bB a7 _=>aj ?_;refine aL h (λbO h=>?_) λbO h=>?_
 .exact aM a7 [.bool false]
 .refine aO (bB _ (inl (aE ah λ_ n6 dA _=>?_)));obtain⟨aa,gL,h⟩:=aB h;refine cN (Ou a0.b5 J.b5 _ gL) _ ?_;refine aL h (λgm h=>?_) λgm h=>?_
  .exact aM dA [.bool false]
  .exact aO (n6 _ (inl (aM ah [.bool true])))
theorem ace (a0 J r) (h:BQ a0 J=some r):aX al 33 [.slice (a0.map ho),.slice (J.map ho)] (.bool r) []:=by
 refine bA [0,1] [.tmp 4] Tryz.func33 YA λbs ah bw=>aj ?_;refine aE ah λ_ bB a7 ag=>aj ?_;refine aL h (λbO h=>?_) λbO h=>?_
 .exact aM a7 [.bool false]
 .refine aO (bB _ (inl (aE ah λ_ n6 dA _=>aj ?_)));refine bo dA λiO _ hB b9 _=>?_;show a_ al (.loop ?hb) _ _;have hf:∀n cm,GP a0 J n cm=some r->cR al ?hb iO (ax [(0,.slice (a0.map ho)),(1,.slice (J.map ho)),(5,.int .i64 cm)]):=by
   refine c7 λ_ gQ cm h=>c6 hB λ_ cn bS e_=>aE bS λ_ n10 _ dV=>aj ?_;refine aL h (λfK h=>?_) λfK h=>?_
   .refine aO (n10 _ (inl (aE bS λ_ n13 fI _=>bo fI λ_ n14 ee _ _=>?_)));obtain⟨aa,cC,h⟩:=aB h;obtain⟨ag,ef,h⟩:=aB h;obtain⟨aK,dZ,h⟩:=aB h;refine k6 (af cC ef) (acd aa ag _ dZ) _ ?_;refine aL h (λfJ h=>?_) λfJ h=>?_
    .exact aM ee [.bool false]
    .refine aO (n14 _ (n13 _ (inl (dI ?_))));exact cn _ (inr ⟨_,bL rfl,gQ (i64.wrap (cm+1)) h⟩)
   .exact c1 (dV 0 _ (e_ 0 _ (b9 _ (n6 _ (inl (aM ah [.bool true]))))))
  exact dp h λn h=>hf n 0 h
theorem acf (a0 J r) (h:yG a0 J=some r):aX al 68 [cb a0,cb J] (.bool r) []:=by
 refine bA [0,1] [.tmp 4] Tryz.func68 YB λbs ah bw=>aj ?_;refine aE ah λ_ bB a7 _=>aj ?_;refine aL h (λbO h=>?_) λbO h=>?_
 .exact aM a7 [.bool false]
 .refine aO (bB _ (inl (aE ah λ_ n6 dA _=>aj ?_)));refine aL h (λb9 h=>?_) λb9 h=>?_
  .exact aM dA [.bool false]
  .refine aO (n6 _ (inl (aE ah λ_ n10 cV _=>aj ?_)));refine aL h (λfK h=>?_) λfK h=>?_
   .exact aM cV [.bool false]
   .exact aO (n10 _ (inl (aM ah [.bool true])))
theorem acg (a0 J r) (h:BR a0 J=some r):aX al 34 [.slice (a0.map cb),.slice (J.map cb)] (.bool r) []:=by
 refine bA [0,1] [.tmp 4] Tryz.func34 yW λbs ah bw=>aj ?_;refine aE ah λ_ bB a7 ag=>aj ?_;refine aL h (λbO h=>?_) λbO h=>?_
 .exact aM a7 [.bool false]
 .refine aO (bB _ (inl (aE ah λ_ n6 dA _=>aj ?_)));refine bo dA λiO _ hB b9 _=>?_;show a_ al (.loop ?hb) _ _;have hf:∀n cm,GQ a0 J n cm=some r->cR al ?hb iO (ax [(0,.slice (a0.map cb)),(1,.slice (J.map cb)),(5,.int .i64 cm)]):=by
   refine c7 λ_ gQ cm h=>c6 hB λ_ cn bS e_=>aE bS λ_ n10 _ dV=>aj ?_;refine aL h (λfK h=>?_) λfK h=>?_
   .refine aO (n10 _ (inl (aE bS λ_ n13 fI _=>bo fI λ_ n14 ee _ _=>?_)));obtain⟨aa,cC,h⟩:=aB h;obtain⟨ag,ef,h⟩:=aB h;obtain⟨aK,dZ,h⟩:=aB h;refine k6 (af cC ef) (acf aa ag _ dZ) _ ?_;refine aL h (λfJ h=>?_) λfJ h=>?_
    .exact aM ee [.bool false]
    .refine aO (n14 _ (n13 _ (inl (dI ?_))));exact cn _ (inr ⟨_,bL rfl,gQ (i64.wrap (cm+1)) h⟩)
   .exact c1 (dV 0 _ (e_ 0 _ (b9 _ (n6 _ (inl (aM ah [.bool true]))))))
  exact dp h λn h=>hf n 0 h
theorem Ov (a0 J r) (h:yH a0 J=some r):aX al 35 [.slice (a0.map bn),.slice (J.map bn)] (.bool r) []:=by
 refine bA [0,1] [.tmp 4] Tryz.func35 YC λbs ah bw=>aj ?_;refine aE ah λ_ bB a7 ag=>aj ?_;refine aL h (λbO h=>?_) λbO h=>?_
 .exact aM a7 [.bool false]
 .refine aO (bB _ (inl (aE ah λ_ n6 dA _=>aj ?_)));refine bo dA λiO _ hB b9 _=>?_;show a_ al (.loop ?hb) _ _;have hf:∀n cm,GR a0 J n cm=some r->cR al ?hb iO (ax [(0,.slice (a0.map bn)),(1,.slice (J.map bn)),(5,.int .i64 cm)]):=by
   refine c7 λ_ gQ cm h=>c6 hB λ_ cn bS e_=>aE bS λ_ n10 _ dV=>aj ?_;refine aL h (λfK h=>?_) λfK h=>?_
   .refine aO (n10 _ (inl (aE bS λ_ n13 fI _=>bo fI λ_ n14 ee _ _=>?_)));obtain⟨aa,cC,h⟩:=aB h;obtain⟨ag,ef,h⟩:=aB h;refine pP (af cC ef) _ ?_;refine aL h (λjv h=>?_) λjv h=>?_
    .exact aM ee [.bool false]
    .refine aO (n14 _ (n13 _ (inl (dI ?_))));exact cn _ (inr ⟨_,bL rfl,gQ (i64.wrap (cm+1)) h⟩)
   .exact c1 (dV 0 _ (e_ 0 _ (b9 _ (n6 _ (inl (aM ah [.bool true]))))))
  exact dp h λn h=>hf n 0 h
theorem ach (a0 J r) (h:yI a0 J=some r):aX al 9 [fj a0,fj J] (.bool r) []:=by
 refine bA [0,1] [.tmp 4] Tryz.func9 c9 λbs ah bw=>aj ?_;refine aE ah λ_ bB a7 ag=>?_;obtain⟨aa,b4,h⟩:=aB h;refine cN (acb a0.br J.br _ b4) _ ?_;refine aL h (λcT h=>?_) λcT h=>?_
 .exact aM a7 [.bool false]
 .refine aO (bB _ (inl (aE ah λ_ dx eG _=>?_)));obtain⟨ag,kT,h⟩:=aB h;refine cN (ace a0.cw J.cw _ kT) _ ?_;refine aL h (λfv h=>?_) λfv h=>?_
  .exact aM eG [.bool false]
  .refine aO (dx _ (inl (aE ah λ_ n12 jK _=>?_)));obtain⟨aK,ea,h⟩:=aB h;refine cN (acg a0.gP J.gP _ ea) _ ?_;refine aL h (λeI h=>?_) λeI h=>?_
   .exact aM jK [.bool false]
   .refine aO (n12 _ (inl (aE ah λ_ n17 hJ _=>?_)));obtain⟨a6,fT,h⟩:=aB h;refine cN (Ov a0.gF J.gF _ fT) _ ?_;refine aL h (λfu h=>?_) λfu h=>?_
    .exact aM hJ [.bool false]
    .refine aO (n17 _ (inl (aE ah λ_ n22 kn _=>?_)));obtain⟨ba,jy,h⟩:=aB h;refine cN (Ov a0.gG J.gG _ jy) _ ?_;refine aL h (λoM h=>?_) λoM h=>?_
     .exact aM kn [.bool false]
     .exact aO (n22 _ (inl (aM ah [.bool true])))
theorem vP (a0 r) (h:qD a0=some r):aX al 69 [.int .i64 a0] (.str r) []:=by
 refine bA [] [.tmp 2] Tryz.func69 YD λbs ah bw=>aj ?_;refine aE ah λ_ bB a7 _=>aj ?_;refine aL h (λbO h=>?_) λbO h=>?_
 .exact aM a7 [.str ([109,48]:aht)]
 .refine aO (bB _ (inl (aj ?_)));refine aE ah λ_ dx eG _=>bo eG λiO _ hB b9 _=>?_;have hf:∀n lB cY,tw n lB cY=some r->cR al Ny iO (ax [(0,.int .i64 lB),(3,.str cY)]):=by
   refine c7 λ_ gQ lB cY h=>c6 hB λ_ cn bS e_=>aE bS λ_ n10 _ dV=>aj ?_;refine aL h (λfK h=>?_) λfK h=>?_
   .refine aO (n10 _ (inl (bo bS λ_ n13 _ _ _=>?_)));obtain⟨u16,d_,h⟩:=aB h;(try simp only[oK.down,Nat.zero_add,Nat.add_zero,reduceAdd]at d_);refine eH (af (@TT .i64 10 (by decide)) (af (@EM al 3 5 .u8 rfl rfl) (af (show∀s,f_ al s 151 1 [(0,.int .u8 (u8.wrap (i64.wrap (48+(Int.tmod lB 10)))))]=some (.ao 1 [.int .u8 (u8.wrap (i64.wrap (48+(Int.tmod lB 10))))],s)from λs=>by kernel_rfl) (af ((@TP al 151 9 5 rfl rfl rfl).2.2) (af @TR (af @TQ (af d_ (af @sX @sY)))))))) [(0,.int .i64 lB),(3,.str ([(p5 (i64.wrap (48+(Int.tmod lB 10))))]++cY))] ?_;refine vH (@TS .i64 10 (by decide)) [(0,.int .i64 (i64.wrap (Int.tdiv lB 10))),(3,.str ([(p5 (i64.wrap (48+(Int.tmod lB 10))))]++cY))] ?_;exact n13 _ (cn _ (inr ⟨_,bL rfl,gQ (i64.wrap (Int.tdiv lB 10)) ([(p5 (i64.wrap (48+(Int.tmod lB 10))))]++cY) h⟩))
   .refine c1 (dV 0 _ (e_ 0 _ (b9 _ (dx _ (inl ?_)))));obtain⟨vJ,dZ,h⟩:=aB h;(try simp only[oK.down,Nat.zero_add,Nat.add_zero,reduceAdd]at dZ);refine eH (af dZ (af @sX @sY)) [(2,.str (([109]:aht)++cY))] ?_;exact dk ah [.str (([109]:aht)++cY)]
  exact dp h λn h=>hf n a0 ([]:aht) h
theorem aci (a0 J r) (h:BT a0 J=some r):aX al 142 [.ao 2 (a0.map e0),.int .i64 J] (.int .i64 r.1) [.ao 2 (r.2.map e0),.hole]:=by
 refine bA [0] [.tmp 4] Tryz.func142 YE λbs ah bw=>aj ?_;refine aE ah λ_ bB a7 ag=>aj ?_;refine bo a7 λer _ bJ bO _=>?_;show a_ al (.loop ?eo) _ _;have eM:∀n bt aQ aJ,vv n bt aQ aJ=some r->cR al ?eo er (ax [(0,.ao 2 (bt.map e0)),(1,.int .i64 aQ),(5,.int .i64 aJ)]):=by
  refine c7 λ_ eD bt aQ aJ h=>c6 bJ λ_ dJ cJ ba=>aE cJ λ_ n6 _ bP=>aj ?_;refine aL h (λb9 h=>?_) λb9 h=>?_
  .refine aO (n6 _ (inl (aE cJ λ_ cn bS _=>bo bS λ_ n10 _ _ _=>?_)));obtain⟨aa,dD,h⟩:=aB h;refine dv (ch [(0,.ao 2 ((List.set bt (Int.toNat aJ) (cj.mk aQ aa.Value)).map e0)),(1,.int .i64 aQ),(5,.int .i64 aJ)] (λP bg=>?_) ?_)
   .simp only[aS.down,simprocAttr,dD,cq dD,dF,cP];exact bZ (af dD (af (cq dD) @dF))
   refine ws [(0,.ao 2 ((List.set bt (Int.toNat aJ) (cj.mk aQ aa.Value)).map e0)),(1,.int .i64 (i64.wrap (aQ+1))),(5,.int .i64 aJ)] ?_;obtain⟨ag,d_,h⟩:=aB h;refine dv (ch [(0,.ao 2 ((List.set (List.set bt (Int.toNat aJ) (cj.mk aQ aa.Value)) (Int.toNat aJ) (cj.mk ag.Kind (i64.wrap (aQ+1)))).map e0)),(1,.int .i64 (i64.wrap (aQ+1))),(5,.int .i64 aJ)] (λP bg=>?_) ?_)
   .simp only[aS.down,simprocAttr,d_,cq d_,dF,cP];exact bZ (af d_ (af (cq d_) @dF))
   refine wr [(0,.ao 2 ((List.set (List.set bt (Int.toNat aJ) (cj.mk aQ aa.Value)) (Int.toNat aJ) (cj.mk ag.Kind (i64.wrap (aQ+1)))).map e0)),(1,.int .i64 (i64.wrap ((i64.wrap (aQ+1))+1))),(5,.int .i64 aJ)] ?_;refine n10 _ (cn _ (inl (wr [(0,.ao 2 ((List.set (List.set bt (Int.toNat aJ) (cj.mk aQ aa.Value)) (Int.toNat aJ) (cj.mk ag.Kind (i64.wrap (aQ+1)))).map e0)),(1,.int .i64 (i64.wrap ((i64.wrap (aQ+1))+1))),(5,.int .i64 (i64.wrap (aJ+1)))] ?_)));exact dJ _ (inr ⟨_,bL rfl,eD (List.set (List.set bt (Int.toNat aJ) (cj.mk aQ aa.Value)) (Int.toNat aJ) (cj.mk ag.Kind (i64.wrap (aQ+1)))) (i64.wrap ((i64.wrap (aQ+1))+1)) (i64.wrap (aJ+1)) h⟩)
  .refine c1 (bP 0 _ (ba 0 _ (bO _ (bB _ (inl (aj ?_))))));exact hV (ah _ (inl (nP [.int .i64 aQ] rfl (by cases h7 h;rfl) (by decide) (oA (oB (by cases h7 h;rfl) rfl rfl rfl (mF (oC)))))))
 exact dp h λn h=>eM n a0 J 0 h
theorem acj (a0 J r) (h:BU a0 J=some r):aX al 105 [.ao 1 (a0.map jf),.int .i64 J] (.int .i64 r.1) [.ao 1 (r.2.map jf),.hole]:=by
 refine bA [0] [.tmp 4] Tryz.func105 c105 λbs ah bw=>aj ?_;refine aE ah λ_ bB a7 ag=>aj ?_;refine bo a7 λer _ bJ bO _=>?_;show a_ al (.loop ?eo) _ _;have eM:∀n bt aQ aJ,vw n bt aQ aJ=some r->cR al ?eo er (ax [(0,.ao 1 (bt.map jf)),(1,.int .i64 aQ),(5,.int .i64 aJ)]):=by
  refine c7 λ_ eD bt aQ aJ h=>c6 bJ λ_ dJ cJ ba=>aE cJ λ_ n6 _ bP=>aj ?_;refine aL h (λb9 h=>?_) λb9 h=>?_
  .refine aO (n6 _ (inl (aE cJ λ_ cn bS _=>bo bS λ_ n10 _ _ _=>?_)));obtain⟨aa,dD,h⟩:=aB h;obtain⟨ag,dE,h⟩:=aB h;refine kg (ch [(0,.ao 1 ((List.set bt (Int.toNat aJ) ag.2).map jf)),(1,.int .i64 ag.1),(5,.int .i64 aJ)] (λP bg=>?_) ?_)
   ·(try simp only[aS.down,simprocAttr,dD,cq dD]);refine rB [⟨.h 0 [Int.toNat aJ],true,_,_⟩,⟨.int .i64 aQ,false,_,.hole⟩] (aci aa aQ _ dE) rfl rfl rfl (by simp only[aS.down,simprocAttr,dD,cq dD,nQ,mE,jq,jr,js,dL,or_true,true_or, @cL _ e0 e0 (λ_=>G_ _)]) rfl rfl (inl rfl) ?_;simp only[aS.down,simprocAttr,dD,cq dD,oz,(xr (cq dD)),xt];exact bZ (af dD (cq dD))
   refine n10 _ (cn _ (inl (wr [(0,.ao 1 ((List.set bt (Int.toNat aJ) ag.2).map jf)),(1,.int .i64 ag.1),(5,.int .i64 (i64.wrap (aJ+1)))] ?_)));exact dJ _ (inr ⟨_,bL rfl,eD (List.set bt (Int.toNat aJ) ag.2) ag.1 (i64.wrap (aJ+1)) h⟩)
  .refine c1 (bP 0 _ (ba 0 _ (bO _ (bB _ (inl (aj ?_))))));exact hV (ah _ (inl (nP [.int .i64 aQ] rfl (by cases h7 h;rfl) (by decide) (oA (oB (by cases h7 h;rfl) rfl rfl rfl (mF (oC)))))))
 exact dp h λn h=>eM n a0 J 0 h
theorem ack (a0 J r) (h:BV a0 J=some r):aX al 70 [.ao 4 (a0.map hn),.int .i64 J] (.int .i64 r.1) [.ao 4 (r.2.map hn),.hole]:=by
 refine bA [0] [.tmp 4] Tryz.func70 c70 λbs ah bw=>aj ?_;refine aE ah λ_ bB a7 ag=>aj ?_;refine bo a7 λer _ bJ bO a6=>?_;show a_ al (.loop ?eo) _ _;have eM:∀n bt aQ aJ,vx n bt aQ aJ=some r->cR al ?eo er (ax [(0,.ao 4 (bt.map hn)),(1,.int .i64 aQ),(5,.int .i64 aJ)]):=by
  refine c7 λ_ eD bt aQ aJ h=>c6 bJ λ_ dJ cJ ba=>aE cJ λ_ n6 _ bP=>aj ?_;refine aL h (λb9 h=>?_) λb9 h=>?_
  .refine aO (n6 _ (inl (aE cJ λ_ cn bS _=>bo bS λ_ n10 _ _ _=>?_)));obtain⟨aa,dD,h⟩:=aB h;refine dv (ch [(0,.ao 4 ((List.set bt (Int.toNat aJ) (bD.mk aQ aa.Number aa.Name aa.ck)).map hn)),(1,.int .i64 aQ),(5,.int .i64 aJ)] (λP bg=>?_) ?_)
   .simp only[aS.down,simprocAttr,dD,cq dD,dF,cP];exact bZ (af dD (af (cq dD) @dF))
   refine ws [(0,.ao 4 ((List.set bt (Int.toNat aJ) (bD.mk aQ aa.Number aa.Name aa.ck)).map hn)),(1,.int .i64 (i64.wrap (aQ+1))),(5,.int .i64 aJ)] ?_;obtain⟨ag,d_,h⟩:=aB h;refine dv (ch [(0,.ao 4 ((List.set (List.set bt (Int.toNat aJ) (bD.mk aQ aa.Number aa.Name aa.ck)) (Int.toNat aJ) (bD.mk ag.Kind (i64.wrap (aQ+1)) ag.Name ag.ck)).map hn)),(1,.int .i64 (i64.wrap (aQ+1))),(5,.int .i64 aJ)] (λP bg=>?_) ?_)
   .simp only[aS.down,simprocAttr,d_,cq d_,dF,cP];exact bZ (af d_ (af (cq d_) @dF))
   refine ws [(0,.ao 4 ((List.set (List.set bt (Int.toNat aJ) (bD.mk aQ aa.Number aa.Name aa.ck)) (Int.toNat aJ) (bD.mk ag.Kind (i64.wrap (aQ+1)) ag.Name ag.ck)).map hn)),(1,.int .i64 (i64.wrap ((i64.wrap (aQ+1))+1))),(5,.int .i64 aJ)] ?_;obtain⟨aK,dZ,h⟩:=aB h;obtain⟨a6,fT,h⟩:=aB h;refine dv (ch [(0,.ao 4 ((List.set (List.set (List.set bt (Int.toNat aJ) (bD.mk aQ aa.Number aa.Name aa.ck)) (Int.toNat aJ) (bD.mk ag.Kind (i64.wrap (aQ+1)) ag.Name ag.ck)) (Int.toNat aJ) (bD.mk a6.Kind a6.Number aK a6.ck)).map hn)),(1,.int .i64 (i64.wrap ((i64.wrap (aQ+1))+1))),(5,.int .i64 aJ)] (λP bg=>?_) ?_)
   ·(try simp only[aS.down,simprocAttr,fT,cq fT,dF,cP]);refine ey (vP (i64.wrap ((i64.wrap (aQ+1))+1)) _ dZ) (hK:= ?_);simp only[aS.down,simprocAttr,fT,cq fT,dF,cP];exact bZ (af fT (af (cq fT) @dF))
   refine ws [(0,.ao 4 ((List.set (List.set (List.set bt (Int.toNat aJ) (bD.mk aQ aa.Number aa.Name aa.ck)) (Int.toNat aJ) (bD.mk ag.Kind (i64.wrap (aQ+1)) ag.Name ag.ck)) (Int.toNat aJ) (bD.mk a6.Kind a6.Number aK a6.ck)).map hn)),(1,.int .i64 (i64.wrap ((i64.wrap ((i64.wrap (aQ+1))+1))+1))),(5,.int .i64 aJ)] ?_;obtain⟨ba,gv,h⟩:=aB h;obtain⟨bP,ko,h⟩:=aB h;refine kg (ch [(0,.ao 4 ((List.set (List.set (List.set (List.set bt (Int.toNat aJ) (bD.mk aQ aa.Number aa.Name aa.ck)) (Int.toNat aJ) (bD.mk ag.Kind (i64.wrap (aQ+1)) ag.Name ag.ck)) (Int.toNat aJ) (bD.mk a6.Kind a6.Number aK a6.ck)) (Int.toNat aJ) (bD.mk ba.Kind ba.Number ba.Name bP.2)).map hn)),(1,.int .i64 bP.1),(5,.int .i64 aJ)] (λP bg=>?_) ?_)
   ·(try simp only[aS.down,simprocAttr,gv,cq gv]);refine rB [⟨.h 0 [Int.toNat aJ,3],true,_,_⟩,⟨.int .i64 (i64.wrap ((i64.wrap ((i64.wrap (aQ+1))+1))+1)),false,_,.hole⟩] (acj ba.ck (i64.wrap ((i64.wrap ((i64.wrap (aQ+1))+1))+1)) _ ko) rfl rfl rfl (by simp only[aS.down,simprocAttr,gv,cq gv,nQ,mE,jq,jr,js,dL,or_true,true_or, @cL _ jf je (λ_=>Hc _)]) rfl rfl (inl rfl) ?_;simp only[aS.down,simprocAttr,gv,cq gv,oz,(xr (cq gv)),xt];exact bZ (af gv (cq gv))
   refine n10 _ (cn _ (inl (wr [(0,.ao 4 ((List.set (List.set (List.set (List.set bt (Int.toNat aJ) (bD.mk aQ aa.Number aa.Name aa.ck)) (Int.toNat aJ) (bD.mk ag.Kind (i64.wrap (aQ+1)) ag.Name ag.ck)) (Int.toNat aJ) (bD.mk a6.Kind a6.Number aK a6.ck)) (Int.toNat aJ) (bD.mk ba.Kind ba.Number ba.Name bP.2)).map hn)),(1,.int .i64 bP.1),(5,.int .i64 (i64.wrap (aJ+1)))] ?_)));exact dJ _ (inr ⟨_,bL rfl,eD (List.set (List.set (List.set (List.set bt (Int.toNat aJ) (bD.mk aQ aa.Number aa.Name aa.ck)) (Int.toNat aJ) (bD.mk ag.Kind (i64.wrap (aQ+1)) ag.Name ag.ck)) (Int.toNat aJ) (bD.mk a6.Kind a6.Number aK a6.ck)) (Int.toNat aJ) (bD.mk ba.Kind ba.Number ba.Name bP.2)) bP.1 (i64.wrap (aJ+1)) h⟩)
  .refine c1 (bP 0 _ (ba 0 _ (bO _ (bB _ (inl (aj ?_))))));exact hV (ah _ (inl (nP [.int .i64 aQ] rfl (by cases h7 h;rfl) (by decide) (oA (oB (by cases h7 h;rfl) rfl rfl rfl (mF (oC)))))))
 exact dp h λn h=>eM n a0 J 0 h
theorem acm (a0 J r) (h:BW a0 J=some r):aX al 36 [.ao 3 (a0.map fS),.int .i64 J] (.int .i64 r.1) [.ao 3 (r.2.map fS),.hole]:=by
 refine bA [0] [.tmp 4] Tryz.func36 YF λbs ah bw=>aj ?_;refine aE ah λ_ bB a7 ag=>aj ?_;refine bo a7 λer _ bJ bO a6=>?_;show a_ al (.loop ?eo) _ _;have eM:∀n bt aQ aJ,vy n bt aQ aJ=some r->cR al ?eo er (ax [(0,.ao 3 (bt.map fS)),(1,.int .i64 aQ),(5,.int .i64 aJ)]):=by
  refine c7 λ_ eD bt aQ aJ h=>c6 bJ λ_ dJ cJ ba=>aE cJ λ_ n6 _ bP=>aj ?_;refine aL h (λb9 h=>?_) λb9 h=>?_
  .refine aO (n6 _ (inl (aE cJ λ_ cn bS _=>bo bS λ_ n10 _ _ _=>?_)));obtain⟨aa,dD,h⟩:=aB h;obtain⟨ag,dE,h⟩:=aB h;refine dv (ch [(0,.ao 3 ((List.set bt (Int.toNat aJ) (bl.mk aa ag.cU ag.Body)).map fS)),(1,.int .i64 aQ),(5,.int .i64 aJ)] (λP bg=>?_) ?_)
   ·(try simp only[aS.down,simprocAttr,dE,cq dE,dF,cP]);refine ey (vP aQ _ dD) (hK:= ?_);simp only[aS.down,simprocAttr,dE,cq dE,dF,cP];exact bZ (af dE (af (cq dE) @dF))
   refine ws [(0,.ao 3 ((List.set bt (Int.toNat aJ) (bl.mk aa ag.cU ag.Body)).map fS)),(1,.int .i64 (i64.wrap (aQ+1))),(5,.int .i64 aJ)] ?_;obtain⟨aK,cC,h⟩:=aB h;refine dv (ch [(0,.ao 3 ((List.set (List.set bt (Int.toNat aJ) (bl.mk aa ag.cU ag.Body)) (Int.toNat aJ) (bl.mk aK.Name (i64.wrap (aQ+1)) aK.Body)).map fS)),(1,.int .i64 (i64.wrap (aQ+1))),(5,.int .i64 aJ)] (λP bg=>?_) ?_)
   .simp only[aS.down,simprocAttr,cC,cq cC,dF,cP];exact bZ (af cC (af (cq cC) @dF))
   refine ws [(0,.ao 3 ((List.set (List.set bt (Int.toNat aJ) (bl.mk aa ag.cU ag.Body)) (Int.toNat aJ) (bl.mk aK.Name (i64.wrap (aQ+1)) aK.Body)).map fS)),(1,.int .i64 (i64.wrap ((i64.wrap (aQ+1))+1))),(5,.int .i64 aJ)] ?_;obtain⟨a6,fT,h⟩:=aB h;obtain⟨ba,iN,h⟩:=aB h;refine kg (ch [(0,.ao 3 ((List.set (List.set (List.set bt (Int.toNat aJ) (bl.mk aa ag.cU ag.Body)) (Int.toNat aJ) (bl.mk aK.Name (i64.wrap (aQ+1)) aK.Body)) (Int.toNat aJ) (bl.mk a6.Name a6.cU ba.2)).map fS)),(1,.int .i64 ba.1),(5,.int .i64 aJ)] (λP bg=>?_) ?_)
   ·(try simp only[aS.down,simprocAttr,fT,cq fT]);refine rB [⟨.h 0 [Int.toNat aJ,2],true,_,_⟩,⟨.int .i64 (i64.wrap ((i64.wrap (aQ+1))+1)),false,_,.hole⟩] (ack a6.Body (i64.wrap ((i64.wrap (aQ+1))+1)) _ iN) rfl rfl rfl (by simp only[aS.down,simprocAttr,fT,cq fT,nQ,mE,jq,jr,js,dL,or_true,true_or, @cL _ hn df (λ_=>Hd _)]) rfl rfl (inl rfl) ?_;simp only[aS.down,simprocAttr,fT,cq fT,oz,(xr (cq fT)),xt];exact bZ (af fT (cq fT))
   refine n10 _ (cn _ (inl (wr [(0,.ao 3 ((List.set (List.set (List.set bt (Int.toNat aJ) (bl.mk aa ag.cU ag.Body)) (Int.toNat aJ) (bl.mk aK.Name (i64.wrap (aQ+1)) aK.Body)) (Int.toNat aJ) (bl.mk a6.Name a6.cU ba.2)).map fS)),(1,.int .i64 ba.1),(5,.int .i64 (i64.wrap (aJ+1)))] ?_)));exact dJ _ (inr ⟨_,bL rfl,eD (List.set (List.set (List.set bt (Int.toNat aJ) (bl.mk aa ag.cU ag.Body)) (Int.toNat aJ) (bl.mk aK.Name (i64.wrap (aQ+1)) aK.Body)) (Int.toNat aJ) (bl.mk a6.Name a6.cU ba.2)) ba.1 (i64.wrap (aJ+1)) h⟩)
  .refine c1 (bP 0 _ (ba 0 _ (bO _ (bB _ (inl (aj ?_))))));exact hV (ah _ (inl (nP [.int .i64 aQ] rfl (by cases h7 h;rfl) (by decide) (oA (oB (by cases h7 h;rfl) rfl rfl rfl (mF (oC)))))))
 exact dp h λn h=>eM n a0 J 0 h
theorem Ow (a0 J r) (h:yJ a0 J=some r):aX al 40 [.ao 1 (a0.map cA),.int .i64 J] (.int .i64 r.1) [.ao 1 (r.2.map cA),.hole]:=by
 refine bA [0] [.tmp 4] Tryz.func40 c40 λbs ah bw=>aj ?_;refine aE ah λ_ bB a7 _=>aj ?_;refine bo a7 λer _ bJ bO _=>?_;show a_ al (.loop ?eo) _ _;have eM:∀n bt aQ aJ,vz n bt aQ aJ=some r->cR al ?eo er (ax [(0,.ao 1 (bt.map cA)),(1,.int .i64 aQ),(5,.int .i64 aJ)]):=by
  refine c7 λ_ eD bt aQ aJ h=>c6 bJ λ_ dJ cJ ba=>aE cJ λ_ n6 _ bP=>aj ?_;refine aL h (λb9 h=>?_) λb9 h=>?_
  .refine aO (n6 _ (inl (aE cJ λ_ cn bS _=>bo bS λ_ n10 _ _ _=>?_)));obtain⟨aa,dD,h⟩:=aB h;refine dv (ch [(0,.ao 1 ((List.set bt (Int.toNat aJ) aQ).map cA)),(1,.int .i64 aQ),(5,.int .i64 aJ)] (λP bg=>?_) ?_)
   .simp only[aS.down,simprocAttr,dD,cq dD,dF,cP];exact bZ (af dD (af (cq dD) @dF))
   refine wr [(0,.ao 1 ((List.set bt (Int.toNat aJ) aQ).map cA)),(1,.int .i64 (i64.wrap (aQ+1))),(5,.int .i64 aJ)] ?_;refine n10 _ (cn _ (inl (wr [(0,.ao 1 ((List.set bt (Int.toNat aJ) aQ).map cA)),(1,.int .i64 (i64.wrap (aQ+1))),(5,.int .i64 (i64.wrap (aJ+1)))] ?_)));exact dJ _ (inr ⟨_,bL rfl,eD (List.set bt (Int.toNat aJ) aQ) (i64.wrap (aQ+1)) (i64.wrap (aJ+1)) h⟩)
  .refine c1 (bP 0 _ (ba 0 _ (bO _ (bB _ (inl (aj ?_))))));exact hV (ah _ (inl (nP [.int .i64 aQ] rfl (by cases h7 h;rfl) (by decide) (oA (oB (by cases h7 h;rfl) rfl rfl rfl (mF (oC)))))))
 exact dp h λn h=>eM n a0 J 0 h
theorem acn (a0 J r) (h:BX a0 J=some r):aX al 37 [.ao 2 (a0.map gd),.int .i64 J] (.int .i64 r.1) [.ao 2 (r.2.map gd),.hole]:=by
 refine bA [0] [.tmp 4] Tryz.func37 c37 λbs ah bw=>aj ?_;refine aE ah λ_ bB a7 ag=>aj ?_;refine bo a7 λer _ bJ bO _=>?_;show a_ al (.loop ?eo) _ _;have eM:∀n bt aQ aJ,vA n bt aQ aJ=some r->cR al ?eo er (ax [(0,.ao 2 (bt.map gd)),(1,.int .i64 aQ),(5,.int .i64 aJ)]):=by
  refine c7 λ_ eD bt aQ aJ h=>c6 bJ λ_ dJ cJ ba=>aE cJ λ_ n6 _ bP=>aj ?_;refine aL h (λb9 h=>?_) λb9 h=>?_
  .refine aO (n6 _ (inl (aE cJ λ_ cn bS _=>bo bS λ_ n10 _ _ _=>?_)));obtain⟨aa,dD,h⟩:=aB h;refine dv (ch [(0,.ao 2 ((List.set bt (Int.toNat aJ) (dG.mk aQ aa.b5)).map gd)),(1,.int .i64 aQ),(5,.int .i64 aJ)] (λP bg=>?_) ?_)
   .simp only[aS.down,simprocAttr,dD,cq dD,dF,cP];exact bZ (af dD (af (cq dD) @dF))
   refine ws [(0,.ao 2 ((List.set bt (Int.toNat aJ) (dG.mk aQ aa.b5)).map gd)),(1,.int .i64 (i64.wrap (aQ+1))),(5,.int .i64 aJ)] ?_;obtain⟨ag,d_,h⟩:=aB h;obtain⟨aK,cC,h⟩:=aB h;refine kg (ch [(0,.ao 2 ((List.set (List.set bt (Int.toNat aJ) (dG.mk aQ aa.b5)) (Int.toNat aJ) (dG.mk ag.dd aK.2)).map gd)),(1,.int .i64 aK.1),(5,.int .i64 aJ)] (λP bg=>?_) ?_)
   ·(try simp only[aS.down,simprocAttr,d_,cq d_]);refine rB [⟨.h 0 [Int.toNat aJ,1],true,_,_⟩,⟨.int .i64 (i64.wrap (aQ+1)),false,_,.hole⟩] (Ow ag.b5 (i64.wrap (aQ+1)) _ cC) rfl rfl rfl (by simp only[aS.down,simprocAttr,d_,cq d_,NQ.down]) rfl rfl (inl rfl) ?_;simp only[aS.down,simprocAttr,d_,cq d_,oz,(xr (cq d_)),xt];exact bZ (af d_ (cq d_))
   refine n10 _ (cn _ (inl (wr [(0,.ao 2 ((List.set (List.set bt (Int.toNat aJ) (dG.mk aQ aa.b5)) (Int.toNat aJ) (dG.mk ag.dd aK.2)).map gd)),(1,.int .i64 aK.1),(5,.int .i64 (i64.wrap (aJ+1)))] ?_)));exact dJ _ (inr ⟨_,bL rfl,eD (List.set (List.set bt (Int.toNat aJ) (dG.mk aQ aa.b5)) (Int.toNat aJ) (dG.mk ag.dd aK.2)) aK.1 (i64.wrap (aJ+1)) h⟩)
  .refine c1 (bP 0 _ (ba 0 _ (bO _ (bB _ (inl (aj ?_))))));exact hV (ah _ (inl (nP [.int .i64 aQ] rfl (by cases h7 h;rfl) (by decide) (oA (oB (by cases h7 h;rfl) rfl rfl rfl (mF (oC)))))))
 exact dp h λn h=>eM n a0 J 0 h
theorem aco (a0 J r) (h:BZ a0 J=some r):aX al 38 [.ao 3 (a0.map cb),.int .i64 J] (.int .i64 r.1) [.ao 3 (r.2.map cb),.hole]:=by
 refine bA [0] [.tmp 4] Tryz.func38 YG λbs ah bw=>aj ?_;refine aE ah λ_ bB a7 ag=>aj ?_;refine bo a7 λer _ bJ bO a6=>?_;show a_ al (.loop ?eo) _ _;have eM:∀n bt aQ aJ,vB n bt aQ aJ=some r->cR al ?eo er (ax [(0,.ao 3 (bt.map cb)),(1,.int .i64 aQ),(5,.int .i64 aJ)]):=by
  refine c7 λ_ eD bt aQ aJ h=>c6 bJ λ_ dJ cJ ba=>aE cJ λ_ n6 _ bP=>aj ?_;refine aL h (λb9 h=>?_) λb9 h=>?_
  .refine aO (n6 _ (inl (aE cJ λ_ cn bS _=>bo bS λ_ n10 _ _ _=>?_)));obtain⟨aa,dD,h⟩:=aB h;obtain⟨ag,dE,h⟩:=aB h;refine dv (ch [(0,.ao 3 ((List.set bt (Int.toNat aJ) (cp.mk aa ag.b0 ag.Result)).map cb)),(1,.int .i64 aQ),(5,.int .i64 aJ)] (λP bg=>?_) ?_)
   ·(try simp only[aS.down,simprocAttr,dE,cq dE,dF,cP]);refine ey (vP aQ _ dD) (hK:= ?_);simp only[aS.down,simprocAttr,dE,cq dE,dF,cP];exact bZ (af dE (af (cq dE) @dF))
   refine ws [(0,.ao 3 ((List.set bt (Int.toNat aJ) (cp.mk aa ag.b0 ag.Result)).map cb)),(1,.int .i64 (i64.wrap (aQ+1))),(5,.int .i64 aJ)] ?_;obtain⟨aK,cC,h⟩:=aB h;obtain⟨a6,ef,h⟩:=aB h;refine dv (ch [(0,.ao 3 ((List.set (List.set bt (Int.toNat aJ) (cp.mk aa ag.b0 ag.Result)) (Int.toNat aJ) (cp.mk a6.Left aK a6.Result)).map cb)),(1,.int .i64 (i64.wrap (aQ+1))),(5,.int .i64 aJ)] (λP bg=>?_) ?_)
   ·(try simp only[aS.down,simprocAttr,ef,cq ef,dF,cP]);refine ey (vP (i64.wrap (aQ+1)) _ cC) (hK:= ?_);simp only[aS.down,simprocAttr,ef,cq ef,dF,cP];exact bZ (af ef (af (cq ef) @dF))
   refine ws [(0,.ao 3 ((List.set (List.set bt (Int.toNat aJ) (cp.mk aa ag.b0 ag.Result)) (Int.toNat aJ) (cp.mk a6.Left aK a6.Result)).map cb)),(1,.int .i64 (i64.wrap ((i64.wrap (aQ+1))+1))),(5,.int .i64 aJ)] ?_;obtain⟨ba,iN,h⟩:=aB h;obtain⟨bP,jg,h⟩:=aB h;refine dv (ch [(0,.ao 3 ((List.set (List.set (List.set bt (Int.toNat aJ) (cp.mk aa ag.b0 ag.Result)) (Int.toNat aJ) (cp.mk a6.Left aK a6.Result)) (Int.toNat aJ) (cp.mk bP.Left bP.b0 ba)).map cb)),(1,.int .i64 (i64.wrap ((i64.wrap (aQ+1))+1))),(5,.int .i64 aJ)] (λP bg=>?_) ?_)
   ·(try simp only[aS.down,simprocAttr,jg,cq jg,dF,cP]);refine ey (vP (i64.wrap ((i64.wrap (aQ+1))+1)) _ iN) (hK:= ?_);simp only[aS.down,simprocAttr,jg,cq jg,dF,cP];exact bZ (af jg (af (cq jg) @dF))
   refine wr [(0,.ao 3 ((List.set (List.set (List.set bt (Int.toNat aJ) (cp.mk aa ag.b0 ag.Result)) (Int.toNat aJ) (cp.mk a6.Left aK a6.Result)) (Int.toNat aJ) (cp.mk bP.Left bP.b0 ba)).map cb)),(1,.int .i64 (i64.wrap ((i64.wrap ((i64.wrap (aQ+1))+1))+1))),(5,.int .i64 aJ)] ?_;refine n10 _ (cn _ (inl (wr [(0,.ao 3 ((List.set (List.set (List.set bt (Int.toNat aJ) (cp.mk aa ag.b0 ag.Result)) (Int.toNat aJ) (cp.mk a6.Left aK a6.Result)) (Int.toNat aJ) (cp.mk bP.Left bP.b0 ba)).map cb)),(1,.int .i64 (i64.wrap ((i64.wrap ((i64.wrap (aQ+1))+1))+1))),(5,.int .i64 (i64.wrap (aJ+1)))] ?_)));exact dJ _ (inr ⟨_,bL rfl,eD (List.set (List.set (List.set bt (Int.toNat aJ) (cp.mk aa ag.b0 ag.Result)) (Int.toNat aJ) (cp.mk a6.Left aK a6.Result)) (Int.toNat aJ) (cp.mk bP.Left bP.b0 ba)) (i64.wrap ((i64.wrap ((i64.wrap (aQ+1))+1))+1)) (i64.wrap (aJ+1)) h⟩)
  .refine c1 (bP 0 _ (ba 0 _ (bO _ (bB _ (inl (aj ?_))))));exact hV (ah _ (inl (nP [.int .i64 aQ] rfl (by cases h7 h;rfl) (by decide) (oA (oB (by cases h7 h;rfl) rfl rfl rfl (mF (oC)))))))
 exact dp h λn h=>eM n a0 J 0 h
theorem Ox (a0 J r) (h:yK a0 J=some r):aX al 39 [.ao 1 (a0.map bn),.int .i64 J] (.int .i64 r.1) [.ao 1 (r.2.map bn),.hole]:=by
 refine bA [0] [.tmp 4] Tryz.func39 YH λbs ah bw=>aj ?_;refine aE ah λ_ bB a7 ag=>aj ?_;refine bo a7 λer _ bJ bO _=>?_;show a_ al (.loop ?eo) _ _;have eM:∀n bt aQ aJ,vC n bt aQ aJ=some r->cR al ?eo er (ax [(0,.ao 1 (bt.map bn)),(1,.int .i64 aQ),(5,.int .i64 aJ)]):=by
  refine c7 λ_ eD bt aQ aJ h=>c6 bJ λ_ dJ cJ ba=>aE cJ λ_ n6 _ bP=>aj ?_;refine aL h (λb9 h=>?_) λb9 h=>?_
  .refine aO (n6 _ (inl (aE cJ λ_ cn bS _=>bo bS λ_ n10 _ _ _=>?_)));obtain⟨aa,dD,h⟩:=aB h;obtain⟨ag,dE,h⟩:=aB h;refine dv (ch [(0,.ao 1 ((List.set bt (Int.toNat aJ) aa).map bn)),(1,.int .i64 aQ),(5,.int .i64 aJ)] (λP bg=>?_) ?_)
   ·(try simp only[aS.down,simprocAttr,dE,cq dE,dF,cP]);refine ey (vP aQ _ dD) (hK:= ?_);simp only[aS.down,simprocAttr,dE,cq dE,dF,cP];exact bZ (af dE (af (cq dE) @dF))
   refine wr [(0,.ao 1 ((List.set bt (Int.toNat aJ) aa).map bn)),(1,.int .i64 (i64.wrap (aQ+1))),(5,.int .i64 aJ)] ?_;refine n10 _ (cn _ (inl (wr [(0,.ao 1 ((List.set bt (Int.toNat aJ) aa).map bn)),(1,.int .i64 (i64.wrap (aQ+1))),(5,.int .i64 (i64.wrap (aJ+1)))] ?_)));exact dJ _ (inr ⟨_,bL rfl,eD (List.set bt (Int.toNat aJ) aa) (i64.wrap (aQ+1)) (i64.wrap (aJ+1)) h⟩)
  .refine c1 (bP 0 _ (ba 0 _ (bO _ (bB _ (inl (aj ?_))))));exact hV (ah _ (inl (nP [.int .i64 aQ] rfl (by cases h7 h;rfl) (by decide) (oA (oB (by cases h7 h;rfl) rfl rfl rfl (mF (oC)))))))
 exact dp h λn h=>eM n a0 J 0 h
theorem acp (vD tx rS qE pJ J r) (h:B0 vD tx rS qE pJ J=some r):aX al 10 [.agg [.ao 3 (vD.map fS),.ao 2 (tx.map gd),.ao 3 (rS.map cb),.ao 1 (qE.map bn),.ao 1 (pJ.map bn)],.int .i64 J] (.int .i64 r.1) [.agg [.ao 3 (r.2.1.map fS),.ao 2 (r.2.2.1.map gd),.ao 3 (r.2.2.2.1.map cb),.ao 1 (r.2.2.2.2.1.map bn),.ao 1 (r.2.2.2.2.2.map bn)],.hole]:=by
 refine bA [0] [.tmp 4] Tryz.func10 yX λbs ah bw=>dv (ch [(0,.agg [.ao 3 (vD.map fS),.ao 2 (tx.map gd),.ao 3 (rS.map cb),.ao 1 (qE.map bn),.ao 1 (pJ.map bn)]),(1,.int .i64 J),(2,.R 0 0)] (λP bg=>?_) ?_)
 .simp only[aS.down,simprocAttr,nZ.down,I.dU];exact bZ nZ.down
 obtain⟨aa,aR,h⟩:=aB h;refine dv (ch [(0,.agg [.ao 3 (aa.2.map fS),.ao 2 (tx.map gd),.ao 3 (rS.map cb),.ao 1 (qE.map bn),.ao 1 (pJ.map bn)]),(1,.int .i64 aa.1),(2,.R 0 0)] (λP bg=>?_) ?_)
 ·(try simp only[aS.down,simprocAttr,nZ.down,I.dU]);refine Av [⟨.h 0 [0],true,_,_⟩,⟨.int .i64 J,false,_,.hole⟩] (acm vD J _ aR) rfl rfl rfl (by simp only[aS.down,simprocAttr,rE,rG,I.dU,rF,qp,nQ,mE,jq,jr,js,dL,or_true,true_or, @cL _ fS bU (λ_=>tz _)]) rfl rfl (inl rfl) (by simp only[aS.down,simprocAttr,Ch.down,I.dU,Bool.and_self,Bool.not_false,Bool.and_true]) ?_;simp only[aS.down,simprocAttr,Ci.down,I.dU,eq_self,Bool.and_self];exact bZ nZ.down
 obtain⟨ag,cz,h⟩:=aB h;refine dv (ch [(0,.agg [.ao 3 (aa.2.map fS),.ao 2 (ag.2.map gd),.ao 3 (rS.map cb),.ao 1 (qE.map bn),.ao 1 (pJ.map bn)]),(1,.int .i64 ag.1),(2,.R 0 0)] (λP bg=>?_) ?_)
 ·(try simp only[aS.down,simprocAttr,nZ.down,I.dU]);refine Av [⟨.h 0 [1],true,_,_⟩,⟨.int .i64 aa.1,false,_,.hole⟩] (acn tx aa.1 _ cz) rfl rfl rfl (by simp only[aS.down,simprocAttr,rE,rG,I.dU,rF,qp,nQ,mE,jq,jr,js,dL,or_true,true_or, @cL _ gd ho (λ_=>tA _)]) rfl rfl (inl rfl) (by simp only[aS.down,simprocAttr,Ch.down,I.dU,Bool.and_self,Bool.not_false,Bool.and_true]) ?_;simp only[aS.down,simprocAttr,Ci.down,I.dU,eq_self,Bool.and_self];exact bZ nZ.down
 obtain⟨aK,bF,h⟩:=aB h;refine dv (ch [(0,.agg [.ao 3 (aa.2.map fS),.ao 2 (ag.2.map gd),.ao 3 (aK.2.map cb),.ao 1 (qE.map bn),.ao 1 (pJ.map bn)]),(1,.int .i64 aK.1),(2,.R 0 0)] (λP bg=>?_) ?_)
 ·(try simp only[aS.down,simprocAttr,nZ.down,I.dU]);refine Av [⟨.h 0 [2],true,_,_⟩,⟨.int .i64 ag.1,false,_,.hole⟩] (aco rS ag.1 _ bF) rfl rfl rfl (by simp only[aS.down,simprocAttr,rE,rG,I.dU,rF,qp,nQ,mE,jq,jr,js,dL,or_true,true_or, @cL _ cb cb (λ_=>pM _)]) rfl rfl (inl rfl) (by simp only[aS.down,simprocAttr,Ch.down,I.dU,Bool.and_self,Bool.not_false,Bool.and_true]) ?_;simp only[aS.down,simprocAttr,Ci.down,I.dU,eq_self,Bool.and_self];exact bZ nZ.down
 obtain⟨a6,kT,h⟩:=aB h;refine dv (ch [(0,.agg [.ao 3 (aa.2.map fS),.ao 2 (ag.2.map gd),.ao 3 (aK.2.map cb),.ao 1 (a6.2.map bn),.ao 1 (pJ.map bn)]),(1,.int .i64 a6.1),(2,.R 0 0)] (λP bg=>?_) ?_)
 ·(try simp only[aS.down,simprocAttr,nZ.down,I.dU]);refine Av [⟨.h 0 [3],true,_,_⟩,⟨.int .i64 aK.1,false,_,.hole⟩] (Ox qE aK.1 _ kT) rfl rfl rfl (by simp only[aS.down,simprocAttr,NR.down,I.dU]) rfl rfl (inl rfl) (by simp only[aS.down,simprocAttr,Ch.down,I.dU,Bool.and_self,Bool.not_false,Bool.and_true]) ?_;simp only[aS.down,simprocAttr,Ci.down,I.dU,eq_self,Bool.and_self];exact bZ nZ.down
 obtain⟨ba,lP,h⟩:=aB h;refine dv (ch [(0,.agg [.ao 3 (aa.2.map fS),.ao 2 (ag.2.map gd),.ao 3 (aK.2.map cb),.ao 1 (a6.2.map bn),.ao 1 (ba.2.map bn)]),(1,.int .i64 ba.1)] (λP bg=>?_) ?_)
 ·(try simp only[aS.down,simprocAttr,nZ.down,I.dU]);refine rB [⟨.h 0 [4],true,_,_⟩,⟨.int .i64 a6.1,false,_,.hole⟩] (Ox pJ a6.1 _ lP) rfl rfl rfl (by simp only[aS.down,simprocAttr,NR.down,I.dU]) rfl rfl (inl rfl) ?_;simp only[aS.down,simprocAttr,rE,rG,I.dU,rF,oz];exact bZ nZ.down
 refine aj ?_;exact hV (ah _ (inl (nP [.int .i64 ba.1] rfl (by cases h7 h;rfl) (by decide) (oA (oB (by cases h7 h;rfl) rfl rfl rfl (mF (oC)))))))
theorem acq (a0 J r) (h:B1 a0 J=some r):aX al 11 [.ao 3 (a0.map eX),.int .i64 J] (.int .i64 r.1) [.ao 3 (r.2.map eX),.hole]:=by
 refine bA [0] [.tmp 4] Tryz.func11 YJ λbs ah bw=>aj ?_;refine aE ah λ_ bB a7 ag=>aj ?_;refine bo a7 λer _ bJ bO a6=>?_;show a_ al (.loop ?eo) _ _;have eM:∀n bt aQ aJ,vE n bt aQ aJ=some r->cR al ?eo er (ax [(0,.ao 3 (bt.map eX)),(1,.int .i64 aQ),(5,.int .i64 aJ)]):=by
  refine c7 λ_ eD bt aQ aJ h=>c6 bJ λ_ dJ cJ ba=>aE cJ λ_ n6 _ bP=>aj ?_;refine aL h (λb9 h=>?_) λb9 h=>?_
  .refine aO (n6 _ (inl (aE cJ λ_ cn bS _=>bo bS λ_ n10 _ _ _=>?_)));obtain⟨aa,dD,h⟩:=aB h;refine dv (ch [(0,.ao 3 ((List.set bt (Int.toNat aJ) (bY.mk aQ aa.Part aa.b5)).map eX)),(1,.int .i64 aQ),(5,.int .i64 aJ)] (λP bg=>?_) ?_)
   .simp only[aS.down,simprocAttr,dD,cq dD,dF,cP];exact bZ (af dD (af (cq dD) @dF))
   refine ws [(0,.ao 3 ((List.set bt (Int.toNat aJ) (bY.mk aQ aa.Part aa.b5)).map eX)),(1,.int .i64 (i64.wrap (aQ+1))),(5,.int .i64 aJ)] ?_;obtain⟨ag,d_,h⟩:=aB h;refine dv (ch [(0,.ao 3 ((List.set (List.set bt (Int.toNat aJ) (bY.mk aQ aa.Part aa.b5)) (Int.toNat aJ) (bY.mk ag.dd (i64.wrap (aQ+1)) ag.b5)).map eX)),(1,.int .i64 (i64.wrap (aQ+1))),(5,.int .i64 aJ)] (λP bg=>?_) ?_)
   .simp only[aS.down,simprocAttr,d_,cq d_,dF,cP];exact bZ (af d_ (af (cq d_) @dF))
   refine ws [(0,.ao 3 ((List.set (List.set bt (Int.toNat aJ) (bY.mk aQ aa.Part aa.b5)) (Int.toNat aJ) (bY.mk ag.dd (i64.wrap (aQ+1)) ag.b5)).map eX)),(1,.int .i64 (i64.wrap ((i64.wrap (aQ+1))+1))),(5,.int .i64 aJ)] ?_;obtain⟨aK,dZ,h⟩:=aB h;obtain⟨a6,fT,h⟩:=aB h;refine kg (ch [(0,.ao 3 ((List.set (List.set (List.set bt (Int.toNat aJ) (bY.mk aQ aa.Part aa.b5)) (Int.toNat aJ) (bY.mk ag.dd (i64.wrap (aQ+1)) ag.b5)) (Int.toNat aJ) (bY.mk aK.dd aK.Part a6.2)).map eX)),(1,.int .i64 a6.1),(5,.int .i64 aJ)] (λP bg=>?_) ?_)
   ·(try simp only[aS.down,simprocAttr,dZ,cq dZ]);refine rB [⟨.h 0 [Int.toNat aJ,2],true,_,_⟩,⟨.int .i64 (i64.wrap ((i64.wrap (aQ+1))+1)),false,_,.hole⟩] (Ow aK.b5 (i64.wrap ((i64.wrap (aQ+1))+1)) _ fT) rfl rfl rfl (by simp only[aS.down,simprocAttr,dZ,cq dZ,NQ.down]) rfl rfl (inl rfl) ?_;simp only[aS.down,simprocAttr,dZ,cq dZ,oz,(xr (cq dZ)),xt];exact bZ (af dZ (cq dZ))
   refine n10 _ (cn _ (inl (wr [(0,.ao 3 ((List.set (List.set (List.set bt (Int.toNat aJ) (bY.mk aQ aa.Part aa.b5)) (Int.toNat aJ) (bY.mk ag.dd (i64.wrap (aQ+1)) ag.b5)) (Int.toNat aJ) (bY.mk aK.dd aK.Part a6.2)).map eX)),(1,.int .i64 a6.1),(5,.int .i64 (i64.wrap (aJ+1)))] ?_)));exact dJ _ (inr ⟨_,bL rfl,eD (List.set (List.set (List.set bt (Int.toNat aJ) (bY.mk aQ aa.Part aa.b5)) (Int.toNat aJ) (bY.mk ag.dd (i64.wrap (aQ+1)) ag.b5)) (Int.toNat aJ) (bY.mk aK.dd aK.Part a6.2)) a6.1 (i64.wrap (aJ+1)) h⟩)
  .refine c1 (bP 0 _ (ba 0 _ (bO _ (bB _ (inl (aj ?_))))));exact hV (ah _ (inl (nP [.int .i64 aQ] rfl (by cases h7 h;rfl) (by decide) (oA (oB (by cases h7 h;rfl) rfl rfl rfl (mF (oC)))))))
 exact dp h λn h=>eM n a0 J 0 h
theorem acr (a0 J r) (h:B2 a0 J=some r):aX al 41 [.slice (a0.map cA),.int .i64 J] (.int .i64 r) []:=by
 refine bA [0] [.tmp 4] Tryz.func41 YK λbs ah bw=>aj ?_;refine aE ah λ_ bB a7 _=>aj ?_;refine bo a7 λer _ bJ bO _=>?_;show a_ al (.loop ?eo) _ _;have eM:∀n aQ aJ,vF a0 n aQ aJ=some r->cR al ?eo er (ax [(0,.slice (a0.map cA)),(1,.int .i64 aQ),(5,.int .i64 aJ)]):=by
  refine c7 λ_ eD aQ aJ h=>c6 bJ λ_ dJ cJ ba=>aE cJ λ_ n6 _ bP=>aj ?_;refine aL h (λb9 h=>?_) λb9 h=>?_
  .refine aO (n6 _ (inl (aE cJ λ_ cn bS _=>bo bS λ_ n10 cV _ _=>aE cV λ_ n11 hd _=>?_)));obtain⟨aa,dE,h⟩:=aB h;refine eH dE _ ?_;refine aL h (λhC h=>?_) λhC h=>?_
   .exact aM hd [.int .i64 (-1)]
   .refine aO (n11 _ (inl (dI ?_)));refine n10 _ (cn _ (inl (dI ?_)));exact dJ _ (inr ⟨_,bL rfl,eD (i64.wrap (aQ+1)) (i64.wrap (aJ+1)) h⟩)
  .exact c1 (bP 0 _ (ba 0 _ (bO _ (bB _ (inl (aM ah [.int .i64 aQ]))))))
 exact dp h λn h=>eM n J 0 h
theorem Oy (a0 J r) (h:yL a0 J=some r):aX al 12 [.slice (a0.map fk),.int .i64 J] (.int .i64 r) []:=by
 refine bA [0] [.tmp 4] Tryz.func12 c12 λbs ah bw=>aj ?_;refine aE ah λ_ bB a7 ag=>aj ?_;refine bo a7 λer _ bJ bO _=>?_;show a_ al (.loop ?eo) _ _;have eM:∀n aQ aJ,vG a0 n aQ aJ=some r->cR al ?eo er (ax [(0,.slice (a0.map fk)),(1,.int .i64 aQ),(5,.int .i64 aJ)]):=by
  refine c7 λ_ eD aQ aJ h=>c6 bJ λ_ dJ cJ ba=>aE cJ λ_ n6 _ bP=>aj ?_;refine aL h (λb9 h=>?_) λb9 h=>?_
  .refine aO (n6 _ (inl (aE cJ λ_ cn bS _=>bo bS λ_ n10 cV _ _=>aE cV λ_ n11 hd _=>?_)));obtain⟨aa,dE,h⟩:=aB h;refine eH dE _ ?_;refine aL h (λhC h=>?_) λhC h=>?_
   .exact aM hd [.int .i64 (-1)]
   .refine aO (n11 _ (inl (aj ?_)));refine aE cV λ_ n17 hJ _=>eH dE _ ?_;refine aL h (λfJ h=>?_) λfJ h=>?_
    .exact aM hJ [.int .i64 (-1)]
    .refine aO (n17 _ (inl (aj ?_)));obtain⟨ag,ko,h⟩:=aB h;refine fc dE (acr aa.b5 (i64.wrap ((i64.wrap (aQ+1))+1)) _ ko) _ ?_;refine aj ?_;refine aL h (λoM h=>?_) λoM h=>?_
     .exact aM cV [.int .i64 (-1)]
     .refine aO (n10 _ (cn _ (inl (dI ?_))));exact dJ _ (inr ⟨_,bL rfl,eD ag (i64.wrap (aJ+1)) h⟩)
  .exact c1 (bP 0 _ (ba 0 _ (bO _ (bB _ (inl (aM ah [.int .i64 aQ]))))))
 exact dp h λn h=>eM n J 0 h
theorem acs (a0 J r) (h:G4 a0 J=some r):aX al 3 [l0 a0,.str J] (.bool r) []:=by
 refine bA [0,1] [.tmp 4] Tryz.func3 c3 λbs ah bw=>aj ?_;refine aE ah λ_ bB a7 ag=>aj ?_;refine aL h (λbO h=>?_) λbO h=>?_
 .exact aM a7 [.bool true]
 .refine aO (bB _ (inl (aj ?_)));obtain⟨aa,gL,h⟩:=aB h;refine cN (Zw a0 1048576 _ gL) _ ?_;refine aE ah λ_ cn bS e_=>aj ?_;refine aL h (λhI h=>?_) λhI h=>?_
  .exact aM bS [.bool true]
  .refine aO (cn _ (inl ?_));obtain⟨ag,ea,h⟩:=aB h;obtain⟨aK,d_,h⟩:=aB h;refine dv (ch [(1,.str J),(2,.a1 (l0 a0)),(6,.ao 3 (aK.1.map fk)),(7,.bool aK.2)] (λP bg=>?_) ?_)
   ·(try simp only[aS.down,simprocAttr]);refine ey (((Cj a0 _ ea)).wide (Mk rfl rfl (by simp only[dL,I.share,I.shares,WE]<;>rfl)) rfl rfl) (hK:= ?_);simp only[aS.down,simprocAttr];refine ey (aaU ag J _ d_) (hK:= ?_);simp only[aS.down,simprocAttr];exact bZ trivial
   obtain⟨a6,ef,h⟩:=aB h;refine cN (Cj a0 _ ef) _ ?_;obtain⟨ba,fT,h⟩:=aB h;refine dv (ch [(1,.str J),(2,.a1 (l0 a0)),(6,.ao 3 (aK.1.map fk)),(7,.bool aK.2),(8,.a1 (pN a6)),(9,.ao 3 (ba.1.map eX)),(10,.bool ba.2)] (λP bg=>?_) ?_)
   ·(try simp only[aS.down,simprocAttr]);refine ey (Oo a6 J _ fT) rfl rfl (by simp only[aS.down,simprocAttr,NS.down]<;>rfl) rfl (inr (by simp only[I.cF,I.gM, @ki _ eX (λ_=>Hf _),Bool.and_self])) ?_;simp only[aS.down,simprocAttr];exact bZ trivial
   refine aE ah λ_ n20 tB _=>?_;obtain⟨bP,gv,h⟩:=aB h;refine dv (ch [(1,.str J),(2,.a1 (l0 a0)),(6,.ao 3 (aK.1.map fk)),(7,.bool aK.2),(8,.a1 (pN a6)),(9,.ao 3 (ba.1.map eX)),(10,.bool ba.2),(47,.bool ((!bP)||(!(ba.2==aK.2))))] (λP bg=>?_) ?_)
   .rcases Bool.eq_false_or_eq_true (bP)with qL|qL
    ·(try simp only[aS.down,simprocAttr,qL]);refine ey (vO ba.1 aK.1 _ gv) rfl rfl (by simp only[aS.down,simprocAttr,qL,vI.down]<;>rfl) rfl (inr (by rfl)) ?_;simp only[aS.down,simprocAttr,qL];exact bZ qL
    ·(try simp only[aS.down,simprocAttr,qL]);refine ey (vO ba.1 aK.1 _ gv) rfl rfl (by simp only[aS.down,simprocAttr,qL,vI.down]<;>rfl) rfl (inr (by rfl)) ?_;simp only[aS.down,simprocAttr,qL];exact bZ qL
   refine aL h (λgU h=>?_) λgU h=>?_
   .exact aM tB [.bool false]
   .refine aO (n20 _ (inl (aE ah λ_ n26 pQ _=>?_)));obtain⟨cG,nj,h⟩:=aB h;obtain⟨e9,oP,h⟩:=aB h;refine kh rfl (jH [(1,.str J),(2,.a1 (l0 a0)),(6,.ao 3 (aK.1.map fk)),(7,.bool aK.2),(8,.a1 (pN a6)),(9,.ao 3 (ba.1.map eX)),(10,.bool ba.2),(52,.bool (!e9))] (λP bg=>?_) ?_)
    ·(try simp only[dX.down,simprocAttr]);refine kG (Cj a0 _ nj) (hK:= ?_);simp only[dX.down,simprocAttr];refine kG (ach a6 cG _ oP) rfl rfl (by simp only[dX.down,simprocAttr,jq,jr,js,dL, @cL _ fS bU (λ_=>tz _), @cL _ gd ho (λ_=>tA _), @cL _ cb cb (λ_=>pM _), @cL _ bn bn (λ_=>kL _), @cL _ bn bn (λ_=>kL _), @cL _ fS bU (λ_=>tz _), @cL _ gd ho (λ_=>tA _), @cL _ cb cb (λ_=>pM _), @cL _ bn bn (λ_=>kL _), @cL _ bn bn (λ_=>kL _)]<;>rfl) rfl (inr (by rfl)) ?_;simp only[dX.down,simprocAttr];refine⟨jI (by kernel_rfl),?_⟩;exact bZ trivial
    refine aL h (λkN h=>?_) λkN h=>?_
    .exact aM pQ [.bool false]
    .refine aO (n26 _ (inl (aj ?_)));obtain⟨e_,lC,h⟩:=aB h;refine dv (ch [(1,.str J),(2,.a1 (l0 a0)),(6,.ao 3 (aK.1.map fk)),(7,.bool aK.2),(9,.ao 3 (ba.1.map eX)),(10,.bool ba.2),(11,.int .i64 e_.1)] (λP bg=>?_) ?_)
     ·(try simp only[aS.down,simprocAttr]);refine rB [⟨.h 8 [0],true,_,_⟩,⟨.int .i64 1,false,_,.hole⟩] (acp a6.br a6.cw a6.gP a6.gF a6.gG 1 _ lC) rfl rfl rfl (by simp only[aS.down,simprocAttr,qp,nQ,mE,jq,jr,js,dL,or_true,true_or, @cL _ fS bU (λ_=>tz _), @cL _ gd ho (λ_=>tA _), @cL _ cb cb (λ_=>pM _), @cL _ bn bn (λ_=>kL _), @cL _ bn bn (λ_=>kL _)]) rfl rfl (inl rfl) ?_;simp only[aS.down,simprocAttr,oz];exact bZ trivial
     refine aE ah λ_ n35 Oz _=>?_;rcases eg h with⟨lD,h⟩|⟨lD,h⟩
     .refine eH lD _ ?_;refine hU rfl ?_;exact aM Oz [.bool false]
     .obtain⟨dV,qJ,h⟩:=aB h;refine dv (ch [(1,.str J),(2,.a1 (l0 a0)),(6,.ao 3 (aK.1.map fk)),(7,.bool aK.2),(9,.ao 3 (ba.1.map eX)),(68,.bool ((!dV)||(!(ba.2==aK.2))))] (λP bg=>?_) ?_)
      .rcases Bool.eq_false_or_eq_true (dV)with qM|qM
       ·(try simp only[aS.down,simprocAttr,lD,qM]);refine hk (vO ba.1 aK.1 _ qJ) rfl rfl (by simp only[aS.down,simprocAttr,lD,qM,vI.down]<;>rfl) rfl (inr (by rfl)) ?_;simp only[aS.down,simprocAttr,lD,qM];exact bZ (af lD qM)
       ·(try simp only[aS.down,simprocAttr,lD,qM]);refine hk (vO ba.1 aK.1 _ qJ) rfl rfl (by simp only[aS.down,simprocAttr,lD,qM,vI.down]<;>rfl) rfl (inr (by rfl)) ?_;simp only[aS.down,simprocAttr,lD,qM];exact bZ (af lD qM)
      refine aL h (λHM h=>?_) λHM h=>?_
      .exact aM Oz [.bool false]
      .refine aO (n35 _ (inl (aj ?_)));obtain⟨eZ,vL,h⟩:=aB h;refine dv (ch [(1,.str J),(2,.a1 (l0 a0)),(6,.ao 3 (aK.1.map fk)),(7,.bool aK.2),(9,.ao 3 (eZ.2.map eX)),(12,.int .i64 eZ.1)] (λP bg=>?_) ?_)
       ·(try simp only[aS.down,simprocAttr]);refine rB [⟨.h 9 [],true,_,_⟩,⟨.int .i64 1,false,_,.hole⟩] (acq ba.1 1 _ vL) rfl rfl rfl (by simp only[aS.down,simprocAttr,qp,nQ,mE,jq,jr,js,dL,or_true,true_or, @cL _ eX fk (λ_=>Cb _)]) rfl rfl (inl rfl) ?_;simp only[aS.down,simprocAttr,oz];exact bZ trivial
       refine aj ?_;obtain⟨pK,acu,h⟩:=aB h;refine dv (ch [(1,.str J),(2,.a1 (l0 a0)),(6,.ao 3 (aK.1.map fk)),(7,.bool aK.2),(9,.ao 3 (eZ.2.map eX)),(12,.int .i64 eZ.1),(13,.int .i64 pK)] (λP bg=>?_) ?_)
       ·(try simp only[aS.down,simprocAttr]);refine ey (Oy eZ.2 1 _ acu) rfl rfl (by simp only[aS.down,simprocAttr,Cg.down]<;>rfl) rfl (inr (by rfl)) ?_;simp only[aS.down,simprocAttr];exact bZ trivial
       refine aE ah λ_ acv acw _=>aj ?_;refine aL h (λH_ h=>?_) λH_ h=>?_
       .exact aM acw [.bool false]
       .refine aO (acv _ (inl (aE ah λ_ HZ Cp _=>aj ?_)));refine aL h (λacx h=>?_) λacx h=>?_
        .exact aM Cp [.bool false]
        .refine aO (HZ _ (inl ?_));obtain⟨oI,acy,h⟩:=aB h;obtain⟨pL,acz,h⟩:=aB h;refine dv (ch [(6,.ao 3 (aK.1.map fk)),(7,.bool aK.2),(9,.ao 3 (eZ.2.map eX)),(12,.int .i64 eZ.1),(14,.ao 3 (pL.1.map eX)),(15,.bool pL.2)] (λP bg=>?_) ?_)
         ·(try simp only[aS.down,simprocAttr]);refine ey (Cj a0 _ acy) (hK:= ?_);simp only[aS.down,simprocAttr];refine ey (Oo oI J _ acz) rfl rfl (by simp only[aS.down,simprocAttr,NS.down]<;>rfl) rfl (inr (by simp only[I.cF,I.gM, @ki _ eX (λ_=>Hf _),Bool.and_self])) ?_;simp only[aS.down,simprocAttr];exact bZ trivial
         refine aE ah λ_ acA acB _=>?_;obtain⟨nY,Cr,h⟩:=aB h;refine dv (ch [(9,.ao 3 (eZ.2.map eX)),(12,.int .i64 eZ.1),(95,.bool ((!nY)||(!(pL.2==aK.2))))] (λP bg=>?_) ?_)
         .rcases Bool.eq_false_or_eq_true (nY)with qN|qN
          ·(try simp only[aS.down,simprocAttr,qN]);refine ey (vO pL.1 aK.1 _ Cr) rfl rfl (by simp only[aS.down,simprocAttr,qN,vI.down]<;>rfl) rfl (inr (by rfl)) ?_;simp only[aS.down,simprocAttr,qN];exact bZ qN
          ·(try simp only[aS.down,simprocAttr,qN]);refine ey (vO pL.1 aK.1 _ Cr) rfl rfl (by simp only[aS.down,simprocAttr,qN,vI.down]<;>rfl) rfl (inr (by rfl)) ?_;simp only[aS.down,simprocAttr,qN];exact bZ qN
         refine aL h (λHI h=>?_) λHI h=>?_
         .exact aM acB [.bool false]
         .refine aO (acA _ (inl (aj ?_)));obtain⟨rT,y2,h⟩:=aB h;refine dv (ch [(12,.int .i64 eZ.1),(13,.int .i64 rT)] (λP bg=>?_) ?_)
          ·(try simp only[aS.down,simprocAttr]);refine ey (Oy eZ.2 1 _ y2) rfl rfl (by simp only[aS.down,simprocAttr,Cg.down]<;>rfl) rfl (inr (by rfl)) ?_;simp only[aS.down,simprocAttr];exact bZ trivial
          refine aE ah λ_ acC acD _=>aj ?_;refine aL h (λacE h=>?_) λacE h=>?_
          .exact aM acD [.bool false]
          .refine aO (acC _ (inl (aE ah λ_ acF acG _=>aj ?_)));refine aL h (λrZ h=>?_) λrZ h=>?_
           .exact aM acG [.bool false]
           .exact aO (acF _ (inl (aM ah [.bool true])))
end Go.Proofs.YtngohoaiimbacabGreatDoor
