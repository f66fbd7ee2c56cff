/- Part of a proof that a law returns true for every input. No condition. -/
import Derived.Test.YtlkabaochkgkdaaGreatDoorW1x3
namespace Go.Proofs.YtlkabaochkgkdaaGreatDoor
open Go Go.c_ Go.eU
set_option maxRecDepth 100000
set_option maxHeartbeats 1400000
set_option linter.unusedSimpArgs false
set_option linter.unusedVariables false
theorem aCl (a0:eI) (r:Int) (h:EC a0=some r):bk aF 50 [iI a0] (.int .i64 r) []:=by
 refine bQ [0] [.tmp 2] Tryz.func50 aqj (λbI al bN=>?_);refine ws _ ?_;refine aH al (λej bX bp ak=>?_);refine bB bp (λj_ f_ dk jA aJ=>?_);obtain⟨af,cF,h⟩:=aD h;refine dt (aB7 a0.fv _ cF) _ ?_;refine aR h (λcO h=>?_) (λcO h=>?_)
 .refine ws _ ?_;exact aE (dk _ (.inl (aG [.int .i64 1])))
 .obtain⟨ak,h9,h⟩:=aD h;rcases eS h with⟨dx,h⟩|⟨dx,h⟩
  .refine gT (gk dx) (iM (a0.bK.length:Int) 1 3 _ h9) _ ?_;refine iW rfl ?_;refine ws _ ?_;exact aE (dk _ (.inl (aG [.int .i64 2])))
  .obtain⟨aJ,er,h⟩:=aD h;refine cd (bJ [(1,.bh (iI a0)),(8,.bool aJ)] (λP ai=>?_) ?_)
   .simp only[aM.down,simprocAttr,qi.down,(bY dx)];refine ez (iM (a0.bK.length:Int) 1 3 _ h9) rfl rfl rfl rfl (.inl (by rfl)) ?_;simp only[aM.down,simprocAttr,qi.down,(bY dx)];refine fT (aCd a0.bK a0 _ er) rfl rfl (by simp only[aM.down,simprocAttr,qi.down,(bY dx),hq,hr,hs,dI, @cm _ bP bP (λ_=>FA _), @cm _ fN fN (λ_=>FD _), @cm _ bC bC (λ_=>oI _), @cm _ bd bd (λ_=>jr _), @cm _ bd bd (λ_=>jr _)]<;>rfl) rfl (.inr (by rfl)) ?_;simp only[aM.down,simprocAttr,qi.down,(bY dx)];(try simp only[bf.down,simprocAttr,x4.down,(bY dx)]at ai⊢);exact ai
   refine aR h (λga h=>?_) (λga h=>?_)
   .refine ws _ ?_;exact aE (dk _ (.inl (aG [.int .i64 2])))
   .obtain⟨a8,cI,h⟩:=aD h;refine dt (aCj a0.hZ _ cI) _ ?_;refine aR h (λkE h=>?_) (λkE h=>?_)
    .refine ws _ ?_;exact aE (dk _ (.inl (aG [.int .i64 3])))
    .obtain⟨bb,iq,h⟩:=aD h;refine dt (RV a0.hN _ iq) _ ?_;refine aR h (λn7 h=>?_) (λn7 h=>?_)
     .refine ws _ ?_;exact aE (dk _ (.inl (aG [.int .i64 4])))
     .obtain⟨bO,i1,h⟩:=aD h;refine dt (RV a0.hO _ i1) _ ?_;refine aR h (λmS h=>?_) (λmS h=>?_)
      .refine ws _ ?_;exact aE (dk _ (.inl (aG [.int .i64 5])))
      .refine aY (f_ _ (bX _ (.inl ?_)));refine ws _ ?_;exact aE (al _ (.inl (aG [.int .i64 0])))
theorem aCm (a0:eI) (r:Bool) (h:ED a0=some r):bk aF 29 [iI a0] (.bool r) []:=by
 refine bQ [0] [.tmp 2] Tryz.func29 r5 (λbI al bN=>?_);refine ws _ ?_;obtain⟨af,aQ,h⟩:=aD h;refine dt (aCl a0 _ aQ) _ ?_;exact aE (al _ (.inl (aG [.bool (af==0)])))
theorem RW:∀a c,qc a c=Lib.indexByte a c
 |[],_=>rfl
 |a::x,c=>by simp only[qc,Lib.indexByte,RW x c]
theorem aCn (a0:List UInt8) (R:UInt8) (r:Int) (h:Jx a0 R=some r):bk aF 181 [.str a0,.int .u8 R.toNat] (.int .i64 r) []:=by
 rw[show r=Lib.indexByte a0 R from(jO h).trans (RW _ _)];exact Oc Tryz.func181 (by kernel_rfl) (by kernel_rfl) (by kernel_rfl) (E:=Extern.BytealgIndexByte.indexByte) (by kernel_rfl) a0 R _ λw=>by
  rw[Lib.run_indexByteString,show((R.toNat:Int).toNat).toUInt8=R from by simp]
theorem aCo (a0:List UInt8) (R:UInt8) (r:Int) (h:Jy a0 R=some r):bk aF 167 [.str a0,.int .u8 (R.toNat:Int)] (.int .i64 r) []:=by
 refine bQ [0,1] [.tmp 4] Tryz.func167 aqn (λbI al bN=>?_);refine ws _ ?_;obtain⟨af,aQ,h⟩:=aD h;refine dt (aCn a0 R _ aQ) _ ?_;exact aE (al _ (.inl (aG [.int .i64 af])))
theorem RX (a0:List UInt8) (R:List UInt8) (r:Int) (h:rY a0 R=some r):bk aF 157 [.str a0,.str R] (.int .i64 r) []:=by
 refine bQ [0,1] [.tmp 4] Tryz.func157 aq_ (λbI al bN=>?_);refine ws _ ?_;refine ws _ ?_;refine aH al (λj_ f_ dk aJ=>?_);refine bB dk (λdV eh b5 bD a8=>?_);refine cd (bJ [(0,.str a0),(1,.str R),(5,.int .i64 (R.length:Int)),(16,.bool (((R.length:Int)==0)||(R==a0)))] (λP ai=>?_) ?_)
 .rcases Bool.eq_false_or_eq_true ((R.length:Int)==0)with qf|qf
  .simp only[aM.down,simprocAttr,qf];(try simp only[bf.down,simprocAttr,qf]at ai⊢);exact ai
  .simp only[aM.down,simprocAttr,qf];(try simp only[bf.down,simprocAttr,qf]at ai⊢);exact ai
 refine aR h (λpQ h=>?_) (λpQ h=>?_)
 .refine ws _ ?_;exact aE (b5 _ (.inl (aG [.int .i64 0])))
 .refine ws _ ?_;refine aR h (λdx h=>?_) (λdx h=>?_)
  .obtain⟨af,er,h⟩:=aD h;obtain⟨ak,et,h⟩:=aD h;refine gT er (aCo a0 af _ et) _ ?_;exact aE (b5 _ (.inl (aG [.int .i64 ak])))
  .refine ws _ ?_;refine aR h (λeX h=>?_) (λeX h=>?_)
   .refine ws _ ?_;exact aE (b5 _ (.inl (aG [.int .i64 (-1)])))
   .cases h
theorem aCp (a0:List UInt8) (R:List UInt8) (r:(List UInt8)×(List UInt8)×Bool) (h:EE a0 R=some r):bk aF 143 [.str a0,.str R] (.tuple [.str r.1,.str r.2.1,.bool r.2.2]) []:=by
 refine bQ [0,1] [.tmp 4,.tmp 5,.tmp 6] Tryz.func143 arh (λbI al bN=>?_);refine ws _ ?_;refine aH al (λej bX bp ak=>?_);obtain⟨af,cC,h⟩:=aD h;refine dt (RX a0 R _ cC) _ ?_;refine ws _ ?_;refine aR h (λcO h=>?_) (λcO h=>?_)
 .obtain⟨ak,h8,h⟩:=aD h;obtain⟨aJ,h9,h⟩:=aD h;refine hX rfl (hY [(4,.str ak),(5,.str aJ),(6,.bool true)] (λP ai=>?_) ?_)
  .simp only[dY.down,simprocAttr,eL,h8,h9];refine⟨ht (by kernel_rfl),?_⟩;(try simp only[bf.down,simprocAttr,h8,h9]at ai⊢);exact ai
  exact aE (bp _ (.inl (aG [.str ak,.str aJ,.bool true])))
 .refine aY (bX _ (.inl ?_));refine ws _ ?_;exact aE (al _ (.inl (aG [.str a0,.str ([]:List UInt8),.bool false])))
theorem aCq (a0:List UInt8) (R:List UInt8) (r:(List UInt8)×(List UInt8)×Bool) (h:xR a0 R=some r):bk aF 122 [.str a0,.str R] (.tuple [.str r.1,.str r.2.1,.bool r.2.2]) []:=by
 refine bQ [0,1] [.tmp 4,.tmp 5,.tmp 6] Tryz.func122 ark (λbI al bN=>?_);refine ws _ ?_;obtain⟨af,aQ,h⟩:=aD h;refine dt (aCp a0 R _ aQ) _ ?_;exact aE (al _ (.inl (aG [.str af.1,.str af.2.1,.bool af.2.2])))
theorem aCr (a0:List UInt8) (R:List UInt8) (r:Bool) (h:EF a0 R=some r):bk aF 164 [.str a0,.str R] (.bool r) []:=by
 refine bQ [0,1] [.tmp 4] Tryz.func164 arn (λbI al bN=>?_);refine ws _ ?_;rcases eS h with⟨jA,h⟩|⟨jA,h⟩
 .obtain⟨af,cC,h⟩:=aD h;refine gv (And.intro jA cC) _ ?_;exact aE (al _ (.inl (aG [.bool (af==R)])))
 .refine gv jA _ ?_;exact aE (al _ (.inl (aG [.bool false])))
theorem aCs (a0:List UInt8) (R:List UInt8) (r:(List UInt8)) (h:EG a0 R=some r):bk aF 146 [.str a0,.str R] (.str r) []:=by
 refine bQ [0,1] [.tmp 4] Tryz.func146 art (λbI al bN=>?_);refine ws _ ?_;refine aH al (λej bX bp ak=>?_);obtain⟨af,cC,h⟩:=aD h;refine dt (aCr a0 R _ cC) _ ?_;refine aR h (λdQ h=>?_) (λdQ h=>?_)
 .obtain⟨ak,b4,h⟩:=aD h;refine gv b4 _ ?_;exact aE (bp _ (.inl (aG [.str ak])))
 .refine aY (bX _ (.inl ?_));refine ws _ ?_;exact aE (al _ (.inl (aG [.str a0])))
theorem aCt (a0:List UInt8) (R:List UInt8) (r:(List UInt8)) (h:strings_TrimSuffix a0 R=some r):bk aF 125 [.str a0,.str R] (.str r) []:=by
 refine bQ [0,1] [.tmp 4] Tryz.func125 arw (λbI al bN=>?_);refine ws _ ?_;obtain⟨af,aQ,h⟩:=aD h;refine dt (aCs a0 R _ aQ) _ ?_;exact aE (al _ (.inl (aG [.str af])))
theorem aCu (a0:List UInt8) (R:UInt8) (r:Int) (h:Jz a0 R=some r):bk aF 177 [.str a0,.int .u8 R.toNat] (.int .i64 r) []:=by
 rw[show r=((Lib.countByte a0 R:Nat):Int)from jO h];exact Oc Tryz.func177 (by kernel_rfl) (by kernel_rfl) (by kernel_rfl) (E:=Extern.BytealgCount.count) (by kernel_rfl) a0 R _ λw=>by
  rw[Lib.run_countString,show((R.toNat:Int).toNat).toUInt8=R from by simp]
theorem RY (a0:List UInt8) (R:List UInt8) (r:Int) (h:AF a0 R=some r):bk aF 163 [.str a0,.str R] (.int .i64 r) []:=by
 refine bQ [0,1] [.tmp 4] Tryz.func163 arz (λbI al bN=>?_);refine ws _ ?_;obtain⟨af,aQ,h⟩:=aD h;refine dt (RX a0 R _ aQ) _ ?_;exact aE (al _ (.inl (aG [.int .i64 af])))
theorem aCv (a0:List UInt8) (R:List UInt8) (r:Int) (h:JA a0 R=some r):bk aF 162 [.str a0,.str R] (.int .i64 r) []:=by
 refine bQ [1] [.tmp 4] Tryz.func162 arN (λbI al bN=>?_);refine ws _ ?_;refine aH al (λej bX bp ak=>?_);refine ws _ ?_;refine aR h (λbD h=>?_) (λbD h=>?_)
 .cases h
 .refine aY (bX _ (.inl ?_));refine aH al (λeZ dy dw bO=>?_);refine ws _ ?_;refine aR h (λb6 h=>?_) (λb6 h=>?_)
  .obtain⟨af,mF,h⟩:=aD h;obtain⟨ak,nJ,h⟩:=aD h;refine gT mF (aCu a0 af _ nJ) _ ?_;exact aE (dw _ (.inl (aG [.int .i64 ak])))
  .refine aY (dy _ (.inl ?_));refine ws _ ?_;refine bB al (λlr gU gM ga jM=>?_);have aCw:∀(n:Nat) (pq:List UInt8) (pr:Int),EH R n pq pr=some r->du aF QI lr (ab [(0,.str pq),(1,.str R),(5,.int .i64 pr)]):=by
    intro m21;induction m21 with
    |zero=>intro pq pr h;cases(show none=some r from h)
    |succ m21 aCx=>
     intro pq pr h;replace h:Pg (EH R m21) R pq pr=some r:=h;refine dK gM (λiK fa eW h6=>?_);refine bB eW (λlS g_ gL eX jq=>?_);obtain⟨aJ,eb,h⟩:=aD h;refine dt (RY pq R _ eb) _ ?_;refine aH gL (λts nA ma nw=>?_);refine ws _ ?_;refine aR h (λfG h=>?_) (λfG h=>?_)
     .refine ws _ ?_;exact aE (ma _ (.inl (aG [.int .i64 pr])))
     .refine aY (nA _ (.inl ?_));refine ws _ ?_;obtain⟨a8,i1,h⟩:=aD h;refine FK i1 _ ?_;exact g_ _ (fa _ (.inr ⟨_,bo rfl,aCx a8 (IntKind.i64.wrap (pr+1)) h⟩))
   obtain⟨n,h⟩:=dC h;exact dH (.inr ⟨_,bo rfl,aCw n a0 0 h⟩)
theorem aCy (a0:List UInt8) (R:List UInt8) (a2:Int) (a3:Int) (r:(List (List UInt8))) (h:JB a0 R a2 a3=some r):bk aF 145 [.str a0,.str R,.int .i64 a2,.int .i64 a3] (.ao 1 (r.map bd)) []:=by
 refine bQ [1,2] [.tmp 8] Tryz.func145 ar9 (λbI al bN=>?_);refine ws _ ?_;refine aH al (λej bX bp ak=>?_);refine ws _ ?_;refine aR h (λbD h=>?_) (λbD h=>?_)
 .refine ws _ ?_;exact aE (bp _ (.inr ⟨[(8,.ao 1 [])],lh [] rfl (lk (t:=8) (d:=.bz) rfl rfl (.jD _) (by decide) (lj)),aG [.ao 1 []]⟩))
 .refine aY (bX _ (.inl ?_));refine aH al (λeZ dy dw bO=>?_);refine ws _ ?_;refine aR h (λb6 h=>?_) (λb6 h=>?_)
  .cases h
  .refine aY (dy _ (.inl ?_));have RZ:∀(im:Int),EJ a0 R a2 im=some r->dc aF QL bI (ab [(0,.str a0),(1,.str R),(2,.int .i64 a2),(3,.int .i64 im)]):=by
    intro im h;refine cd (bJ [(0,.str a0),(1,.str R),(2,.int .i64 a2),(3,.int .i64 (ju false im (IntKind.i64.wrap ((a0.length:Int)+1))))] (λP ai=>?_) ?_)
    .simp only[aM.down,simprocAttr,eL, @Od,Oe];(try simp only[bf.down,simprocAttr, @Od,Oe]at ai⊢);exact ai
    obtain⟨aIJ,et,h⟩:=aD h;refine cd (bJ [(0,.str a0),(1,.str R),(2,.int .i64 a2),(3,.int .i64 (ju false im (IntKind.i64.wrap ((a0.length:Int)+1)))),(9,.ao 1 ((List.replicate (Int.toNat (ju false im (IntKind.i64.wrap ((a0.length:Int)+1)))) ([]:List UInt8)).map bd))] (λP ai=>?_) ?_)
    .simp only[aM.down,simprocAttr,n5.down,(dA et).1,(dA et).2.1,(dA et).2.2,eu,List.map_replicate,-Int.reduceNatCast'];(try simp only[bf.down,simprocAttr,bd,(dA et).1,(dA et).2.1,(dA et).2.2,eu,List.map_replicate,-Int.reduceNatCast']at ai⊢);exact ai
    refine ws [(0,.str a0),(1,.str R),(2,.int .i64 a2),(3,.int .i64 (IntKind.i64.wrap ((ju false im (IntKind.i64.wrap ((a0.length:Int)+1)))-1))),(9,.ao 1 ((List.replicate (Int.toNat (ju false im (IntKind.i64.wrap ((a0.length:Int)+1)))) ([]:List UInt8)).map bd))] ?_;refine ws [(0,.str a0),(1,.str R),(2,.int .i64 a2),(3,.int .i64 (IntKind.i64.wrap ((ju false im (IntKind.i64.wrap ((a0.length:Int)+1)))-1))),(9,.ao 1 ((List.replicate (Int.toNat (ju false im (IntKind.i64.wrap ((a0.length:Int)+1)))) ([]:List UInt8)).map bd)),(10,.int .i64 0)] ?_;have R0:∀(xS:List UInt8) (u4:List (List UInt8)) (rZ:Int),AG a0 R a2 im xS u4 rZ=some r->dc aF QK bI (ab [(0,.str xS),(1,.str R),(2,.int .i64 a2),(3,.int .i64 (IntKind.i64.wrap ((ju false im (IntKind.i64.wrap ((a0.length:Int)+1)))-1))),(9,.ao 1 (u4.map bd)),(10,.int .i64 rZ)]):=by
     intro xS u4 rZ h;obtain⟨af,e5,h⟩:=aD h;refine cd (bJ [(9,.ao 1 ((List.set u4 (Int.toNat rZ) xS).map bd)),(10,.int .i64 rZ)] (λP ai=>?_) ?_)
     .simp only[aM.down,simprocAttr,n5.down,e5,cR e5,dN,dp];(try simp only[bf.down,simprocAttr,bd,e5,cR e5,dN,dp]at ai⊢);exact ai
     obtain⟨ak,iq,h⟩:=aD h;refine cd (bJ [(8,.ao 1 (ak.map bd))] (λP ai=>?_) ?_)
     .simp only[aM.down,simprocAttr,n5.down,iq,(λs y q=>(CM aF s 25 y q).1),(λs y q=>(CM aF s 25 y q).2.1),s5];(try simp only[bf.down,simprocAttr,bd,iq,(λs y q=>(CM aF s 25 y q).1),(λs y q=>(CM aF s 25 y q).2.1),s5]at ai⊢);exact ai
     exact aE (al _ (.inl (aG [.ao 1 (ak.map bd)])))
    refine aH al (λq4 kz lu nv=>?_);refine bB lu (λKC Gg yk n7 qe=>?_);have Kg:∀(n:Nat) (l4:List UInt8) (lo:List (List UInt8)) (jL:Int),tk a0 R a2 im n l4 lo jL=some r->du aF QJ KC (ab [(0,.str l4),(1,.str R),(2,.int .i64 a2),(3,.int .i64 (IntKind.i64.wrap ((ju false im (IntKind.i64.wrap ((a0.length:Int)+1)))-1))),(9,.ao 1 (lo.map bd)),(10,.int .i64 jL)]):=by
     intro vE;induction vE with
     |zero=>intro l4 lo jL h;cases(show none=some r from h)
     |succ vE Kh=>
      intro l4 lo jL h;replace h:EI (tk a0 R a2 im vE) a0 R a2 im l4 lo jL=some r:=h;refine dK yk (λq5 kA kB mA=>?_);refine aH kB (λRK Bm Bn tn=>?_);refine ws _ ?_;refine aR h (λmS h=>?_) (λmS h=>?_)
      .refine aY (Bm _ (.inl ?_));refine bB kB (λF6 yh yi hS Bi=>?_);obtain⟨aJ,r_,h⟩:=aD h;refine dt (RY l4 R _ r_) _ ?_;refine aH yi (λF2 vB yd F3=>?_);refine ws _ ?_;refine aR h (λjX h=>?_) (λjX h=>?_)
       .exact dG (F3 0 _ (Bi 0 _ (by decide) (mA 0 _ (n7 _ (kz _ (.inr ⟨_,bo rfl,R0 l4 lo jL h⟩))))))
       .refine aY (vB _ (.inl ?_));obtain⟨a8,tt,h⟩:=aD h;obtain⟨bb,l_,h⟩:=aD h;refine cd (bJ [(0,.str l4),(1,.str R),(2,.int .i64 a2),(3,.int .i64 (IntKind.i64.wrap ((ju false im (IntKind.i64.wrap ((a0.length:Int)+1)))-1))),(9,.ao 1 ((List.set lo (Int.toNat jL) a8).map bd)),(10,.int .i64 jL),(11,.int .i64 aJ)] (λP ai=>?_) ?_)
        .simp only[aM.down,simprocAttr,n5.down,tt,l_,cR l_,dN,dp,(show(List.map bd lo).set (Int.toNat jL) (.str a8)=List.map bd (List.set lo (Int.toNat jL) a8)from(List.map_set ..).symm)];(try simp only[bf.down,simprocAttr,bd,tt,l_,cR l_,dN,dp]at ai⊢);exact ai
        obtain⟨bO,KD,h⟩:=aD h;refine gv KD [(0,.str bO),(1,.str R),(2,.int .i64 a2),(3,.int .i64 (IntKind.i64.wrap ((ju false im (IntKind.i64.wrap ((a0.length:Int)+1)))-1))),(9,.ao 1 ((List.set lo (Int.toNat jL) a8).map bd)),(10,.int .i64 jL)] ?_;refine wr [(0,.str bO),(1,.str R),(2,.int .i64 a2),(3,.int .i64 (IntKind.i64.wrap ((ju false im (IntKind.i64.wrap ((a0.length:Int)+1)))-1))),(9,.ao 1 ((List.set lo (Int.toNat jL) a8).map bd)),(10,.int .i64 (IntKind.i64.wrap (jL+1)))] ?_;exact yh _ (kA _ (.inr ⟨_,bo rfl,Kh bO (List.set lo (Int.toNat jL) a8) (IntKind.i64.wrap (jL+1)) h⟩))
      .exact dG (tn 0 _ (mA 0 _ (n7 _ (kz _ (.inr ⟨_,bo rfl,R0 l4 lo jL h⟩)))))
    obtain⟨n,h⟩:=dC h;exact dH (.inr ⟨_,bo rfl,Kg n a0 (List.replicate (Int.toNat (ju false im (IntKind.i64.wrap ((a0.length:Int)+1)))) ([]:List UInt8)) 0 h⟩)
   refine aH al (λe4 cu cM df=>?_);refine ws _ ?_;refine aR h (λpx h=>?_) (λpx h=>?_)
   .obtain⟨cx,aCz,h⟩:=aD h;refine Rh (aCv a0 R _ aCz) _ ?_;exact cu _ (.inr ⟨_,bo rfl,RZ (IntKind.i64.wrap (cx+1)) h⟩)
   .exact aY (cu _ (.inr ⟨_,bo rfl,RZ a3 h⟩))
theorem aCA (a0:List UInt8) (R:List UInt8) (r:(List (List UInt8))) (h:EK a0 R=some r):bk aF 124 [.str a0,.str R] (.ao 1 (r.map bd)) []:=by
 refine bQ [0,1] [.tmp 4] Tryz.func124 asa (λbI al bN=>?_);refine ws _ ?_;obtain⟨af,aQ,h⟩:=aD h;refine dt (aCy a0 R 0 (-1) _ aQ) _ ?_;exact aE (al _ (.inl (aG [.ao 1 (af.map bd)])))
theorem aCB (a0:List UInt8) (r:Int×Bool) (h:EL a0=some r):bk aF 144 [.str a0] (.tuple [.int .i64 r.1,.bool r.2]) []:=az5 a0 r h
theorem aCC (a0:List (List UInt8)) (r:(List Int)×Bool) (h:EN a0=some r):bk aF 123 [.slice (a0.map bd)] (.tuple [.ao 1 (r.1.map a1),.bool r.2]) []:=by
 refine bQ [0] [.tmp 2,.tmp 3] Tryz.func123 asp (λbI al bN=>?_);refine ws _ ?_;refine ws _ ?_;refine aH al (λj_ f_ dk aJ=>?_);refine ws _ ?_;refine bB dk (λh2 ee dj dQ bb=>?_);have km:∀(n:Nat) (bu:List Int) (n3:Int),u5 a0 n bu n3=some r->du aF QM h2 (ab [(4,.ao 1 (bu.map a1)),(9,.slice (a0.map bd)),(10,.int .i64 (a0.length:Int)),(11,.int .i64 n3)]):=by
  intro m8;induction m8 with
  |zero=>intro bu n3 h;cases(show none=some r from h)
  |succ m8 kn=>
   intro bu n3 h;replace h:EM (u5 a0 m8) a0 bu n3=some r:=h;refine dK dj (λeZ dy dw bO=>?_);refine ws _ ?_;refine aH dw (λhR hB hv eg=>?_);refine aR h (λhQ h=>?_) (λhQ h=>?_)
   .refine aY (hB _ (.inl ?_));refine aH dw (λe4 cu cM df=>?_);refine bB cM (λjk fg gm l6 fo=>?_);obtain⟨af,et,h⟩:=aD h;refine gv et _ ?_;obtain⟨ak,eY,h⟩:=aD h;refine dt (aCB af _ eY) _ ?_;refine aH gm (λq4 kz lu nv=>?_);refine ws _ ?_;refine aR h (λie h=>?_) (λie h=>?_)
    .refine ws _ ?_;exact aE (lu _ (.inr ⟨[(2,.ao 1 []),(3,.bool false)],lh [] rfl (lk (t:=2) (d:=.bz) rfl rfl (.jD _) (by decide) (jb rfl (lj))),aG [.ao 1 [],.bool false]⟩))
    .refine aY (kz _ (.inl ?_));obtain⟨aIK,kk,h⟩:=aD h;(try simp only[r6.down,Nat.reduceAdd]at kk);refine ku (bJ [(4,.ao 1 ((bu++[ak.1]).map a1)),(9,.slice (a0.map bd)),(10,.int .i64 (a0.length:Int)),(11,.int .i64 n3)] (λP ai=>?_) ?_)
     .simp only[aM.down,simprocAttr,el,jd,a1,bd,(show∀s,eQ aF s 31 1 [(0,.int .i64 ak.1)]=some (.ao 1 [.int .i64 ak.1],s)from λs=>by kernel_rfl), @sW aF 31 31 2 rfl rfl,sX,sY,sZ,all_cons,all_nil,kk, @pb _ a1 1 (λ_=>rfl)];(try simp only[bf.down,simprocAttr,a1,bd,(show∀s,eQ aF s 31 1 [(0,.int .i64 ak.1)]=some (.ao 1 [.int .i64 ak.1],s)from λs=>by kernel_rfl), @sW aF 31 31 2 rfl rfl,sX,sY,sZ,all_cons,all_nil,kk, @pb _ a1 1 (λ_=>rfl)]at ai⊢);exact ai
     refine fg _ (cu _ (.inl ?_));refine wr [(4,.ao 1 ((bu++[ak.1]).map a1)),(9,.slice (a0.map bd)),(10,.int .i64 (a0.length:Int)),(11,.int .i64 (IntKind.i64.wrap (n3+1)))] ?_;exact dy _ (.inr ⟨_,bo rfl,kn (bu++[ak.1]) (IntKind.i64.wrap (n3+1)) h⟩)
   .refine dG (eg 0 _ (bO 0 _ (dQ _ (f_ _ (.inl ?_)))));refine ws _ ?_;exact aE (al _ (.inl (aG [.ao 1 (bu.map a1),.bool true])))
 obtain⟨n,h⟩:=dC h;exact dH (.inr ⟨_,lh [] rfl (lk (t:=4) (d:=.bz) (bE:=.ao 1 []) rfl rfl (.jD _) (by decide) (jb (t:=9) (d:=.slice (a0.map bd)) rfl (jb (t:=10) (d:=.int .i64 (a0.length:Int)) rfl (jb (t:=11) (d:=.int .i64 0) rfl (lj))))),km n [] 0 h⟩)
theorem aCD (a0 R:Int) (r:List UInt8) (h:AH a0 R=some r):bk aF 174 [.int .i64 a0,.int .i64 R] (.str r) []:=azT a0 R r h
theorem aCE (a0:Int) (r:(List UInt8)) (h:AJ a0=some r):bk aF 160 [.int .i64 a0] (.str r) []:=by
 refine bQ [0] [.tmp 2] Tryz.func160 asr (λbI al bN=>?_);refine ws _ ?_;obtain⟨af,aQ,h⟩:=aD h;refine dt (aCD a0 10 _ aQ) _ ?_;exact aE (al _ (.inl (aG [.str af])))
theorem aCF (a0:List (List UInt8)) (R:List UInt8) (r:List UInt8) (h:strings_Join a0 R=some r):bk aF 165 [.slice (a0.map bd),.str R] (.str r) []:=azU a0 R r h
theorem aCG (a0:List Int) (R:List UInt8) (r:(List UInt8)) (h:EP a0 R=some r):bk aF 147 [.slice (a0.map a1),.str R] (.str r) []:=by
 refine bQ [0,1] [.tmp 4] Tryz.func147 asB (λbI al bN=>?_);refine ws _ ?_;obtain⟨aBn,aQ,h⟩:=aD h;refine cd (bJ [(0,.slice (a0.map a1)),(1,.str R),(5,.ao 1 ((List.replicate (Int.toNat (a0.length:Int)) ([]:List UInt8)).map bd))] (λP ai=>?_) ?_)
 .simp only[aM.down,simprocAttr,el,eL,n0,jd,a1,bd,(dA aQ).1,(dA aQ).2.1,(dA aQ).2.2,eu,List.map_replicate,-Int.reduceNatCast'];(try simp only[bf.down,simprocAttr,a1,bd,(dA aQ).1,(dA aQ).2.1,(dA aQ).2.2,eu,List.map_replicate,-Int.reduceNatCast']at ai⊢);exact ai
 refine aH al (λdV eh b5 a8=>?_);refine ws [(1,.str R),(5,.ao 1 ((List.replicate (Int.toNat (a0.length:Int)) ([]:List UInt8)).map bd)),(11,.slice (a0.map a1)),(12,.int .i64 (a0.length:Int)),(13,.int .i64 0)] ?_;refine bB b5 (λeZ dy dw cO bO=>?_);have km:∀(n:Nat) (ic:List (List UInt8)) (lQ:Int),u6 a0 R n ic lQ=some r->du aF QN eZ (ab [(1,.str R),(5,.ao 1 (ic.map bd)),(11,.slice (a0.map a1)),(12,.int .i64 (a0.length:Int)),(13,.int .i64 lQ)]):=by
  intro m8;induction m8 with
  |zero=>intro ic lQ h;cases(show none=some r from h)
  |succ m8 kn=>
   intro ic lQ h;replace h:EO (u6 a0 R m8) a0 R ic lQ=some r:=h;refine dK dw (λhh dU dW cx=>?_);refine ws _ ?_;refine aH dW (λeB cQ cj de=>?_);refine aR h (λdx h=>?_) (λdx h=>?_)
   .refine aY (cQ _ (.inl ?_));refine aH dW (λjk fg gm fo=>?_);refine bB gm (λkC hi jl e9 jV=>?_);obtain⟨af,ew,h⟩:=aD h;refine gv ew _ ?_;obtain⟨ak,cI,h⟩:=aD h;obtain⟨aJ,eb,h⟩:=aD h;refine ku (bJ [(1,.str R),(5,.ao 1 ((List.set ic (Int.toNat lQ) ak).map bd)),(11,.slice (a0.map a1)),(12,.int .i64 (a0.length:Int)),(13,.int .i64 lQ)] (λP ai=>?_) ?_)
    .simp only[aM.down,simprocAttr,eL,n0,a1,bd,eb,cR eb,dN,dp];refine ez (aCE af _ cI) rfl rfl rfl rfl (.inl (by rfl)) ?_;simp only[aM.down,simprocAttr,eL,n0,a1,bd,eb,cR eb,dN,dp];(try simp only[bf.down,simprocAttr,a1,bd,eb,cR eb,dN,dp]at ai⊢);exact ai
    refine hi _ (fg _ (.inl ?_));refine wr [(1,.str R),(5,.ao 1 ((List.set ic (Int.toNat lQ) ak).map bd)),(11,.slice (a0.map a1)),(12,.int .i64 (a0.length:Int)),(13,.int .i64 (IntKind.i64.wrap (lQ+1)))] ?_;exact dU _ (.inr ⟨_,bo rfl,kn (List.set ic (Int.toNat lQ) ak) (IntKind.i64.wrap (lQ+1)) h⟩)
   .refine dG (de 0 _ (cx 0 _ (cO _ (eh _ (.inl ?_)))));obtain⟨a8,iq,h⟩:=aD h;refine cd (bJ [(4,.str a8)] (λP ai=>?_) ?_)
    .simp only[aM.down,simprocAttr,a1,bd];refine ez (aCF ic R _ iq) rfl rfl (by simp only[aM.down,simprocAttr,a1,bd,hq,hr,hs,dI, @cm _ bd bd (λ_=>jr _)]<;>rfl) rfl (.inr (by rfl)) ?_;simp only[aM.down,simprocAttr,a1,bd];(try simp only[bf.down,simprocAttr,a1,bd]at ai⊢);exact ai
    exact aE (al _ (.inl (aG [.str a8])))
 obtain⟨n,h⟩:=dC h;exact dH (.inr ⟨_,bo rfl,km n (List.replicate (Int.toNat (a0.length:Int)) ([]:List UInt8)) 0 h⟩)
theorem aCH (a0:List UInt8) (R:List Int) (r:(List UInt8)×Bool) (h:ER a0 R=some r):bk aF 126 [.str a0,.slice (R.map a1)] (.tuple [.str r.1,.bool r.2]) []:=by
 refine bQ [0,1] [.tmp 4,.tmp 5] Tryz.func126 asN (λbI al bN=>?_);refine ws _ ?_;refine aH al (λej bX bp ak=>?_);refine bB bp (λj_ f_ dk jA aJ=>?_);refine ws _ ?_;refine aR h (λdQ h=>?_) (λdQ h=>?_)
 .refine ws _ ?_;exact aE (dk _ (.inl (aG [.str ([116,97,117]:List UInt8),.bool ((R.length:Int)==0)])))
 .obtain⟨ak,h9,h⟩:=aD h;rcases eS h with⟨dx,h⟩|⟨dx,h⟩
  .refine gT (gk dx) (kF a0 _ h9) _ ?_;refine iW rfl ?_;refine ws _ ?_;exact aE (dk _ (.inl (aG [.str ([]:List UInt8),.bool false])))
  .rcases eS h with⟨e9,h⟩|⟨e9,h⟩
   .refine gT (And.intro (bY dx) e9) (kF a0 _ h9) _ ?_;refine iW rfl ?_;refine ws _ ?_;exact aE (dk _ (.inl (aG [.str ([]:List UInt8),.bool false])))
   .obtain⟨aJ,ew,h⟩:=aD h;refine cd (bJ [(0,.str a0),(1,.slice (R.map a1)),(12,.bool (!aJ))] (λP ai=>?_) ?_)
    .simp only[aM.down,simprocAttr,el,jd,a1,(bY dx),e9];refine ez (kF a0 _ h9) rfl rfl rfl rfl (.inl (by rfl)) ?_;simp only[aM.down,simprocAttr,el,jd,a1,(bY dx),e9];refine fT (RS R _ ew) rfl rfl rfl rfl (.inl (by rfl)) ?_;simp only[aM.down,simprocAttr,el,jd,a1,(bY dx),e9];(try simp only[bf.down,simprocAttr,a1,(bY dx),e9]at ai⊢);exact ai
    refine aR h (λeX h=>?_) (λeX h=>?_)
    .refine ws _ ?_;exact aE (dk _ (.inl (aG [.str ([]:List UInt8),.bool false])))
    .refine ws _ ?_;refine aR h (λie h=>?_) (λie h=>?_)
     .refine ws _ ?_;exact aE (dk _ (.inl (aG [.str a0,.bool true])))
     .refine aY (f_ _ (bX _ (.inl ?_)));obtain⟨R1,kk,h⟩:=aD h;(try simp only[r6.down,Nat.reduceAdd]at kk);obtain⟨a8,gb,h⟩:=aD h;obtain⟨R1,l7,h⟩:=aD h;(try simp only[r6.down,Nat.reduceAdd]at l7);obtain⟨R1,i1,h⟩:=aD h;(try simp only[r6.down,Nat.reduceAdd]at i1);refine cd (bJ [(4,.str (((a0++([40]:List UInt8))++a8)++([41]:List UInt8))),(5,.bool true)] (λP ai=>?_) ?_)
      .simp only[aM.down,simprocAttr,a1,kk,uA,uB,l7,i1];refine ez (aCG R ([44]:List UInt8) _ gb) rfl rfl rfl rfl (.inl (by rfl)) ?_;simp only[aM.down,simprocAttr,a1,kk,uA,uB,l7,i1];(try simp only[bf.down,simprocAttr,a1,kk,uA,uB,l7,i1]at ai⊢);exact ai
      exact aE (al _ (.inl (aG [.str (((a0++([40]:List UInt8))++a8)++([41]:List UInt8)),.bool true])))
theorem aCI (a0:List UInt8) (r:(List UInt8)×(List Int)×Bool) (h:ES a0=some r):bk aF 97 [.str a0] (.tuple [.str r.1,.ao 1 (r.2.1.map a1),.bool r.2.2]) []:=by
 refine bQ [0] [.tmp 2,.tmp 3,.tmp 4] Tryz.func97 as2 (λbI al bN=>?_);refine ws _ ?_;obtain⟨af,aQ,h⟩:=aD h;refine dt (aCq a0 ([40]:List UInt8) _ aQ) _ ?_;refine ws _ ?_;have yc:∀(qX:List Int),AK a0 af qX=some r->dc aF QO bI (ab [(0,.str a0),(5,.str af.1),(8,.ao 1 (qX.map a1))]):=by
  intro qX h;refine aH al (λeZ dy dw bO=>?_);obtain⟨ak,h8,h⟩:=aD h;refine cd (bJ [(0,.str a0),(5,.str af.1),(8,.ao 1 (qX.map a1)),(10,.str ak.1),(11,.bool ak.2)] (λP ai=>?_) ?_)
  .simp only[aM.down,simprocAttr,a1];refine ez (aCH af.1 qX _ h8) rfl rfl (by simp only[aM.down,simprocAttr,a1,hq,hr,hs,dI, @cm _ a1 a1 (λ_=>ky _)]<;>rfl) rfl (.inr (by rfl)) ?_;simp only[aM.down,simprocAttr,a1];(try simp only[bf.down,simprocAttr,a1]at ai⊢);exact ai
  refine cd (bJ [(5,.str af.1),(8,.ao 1 (qX.map a1)),(40,.bool ((!ak.2)||(!(ak.1==a0))))] (λP ai=>?_) ?_)
  .rcases Bool.eq_false_or_eq_true (ak.2)with mP|mP
   .simp only[aM.down,simprocAttr,a1,mP];(try simp only[bf.down,simprocAttr,a1,mP]at ai⊢);exact ai
   .simp only[aM.down,simprocAttr,a1,mP];(try simp only[bf.down,simprocAttr,a1,mP]at ai⊢);exact ai
  refine aR h (λl6 h=>?_) (λl6 h=>?_)
  .refine ws _ ?_;exact aE (dw _ (.inr ⟨[(2,.str ([]:List UInt8)),(3,.ao 1 []),(4,.bool false)],lh [] rfl (jb rfl (lk (t:=3) (d:=.bz) rfl rfl (.jD _) (by decide) (jb rfl (lj)))),aG [.str ([]:List UInt8),.ao 1 [],.bool false]⟩))
  .refine aY (dy _ (.inl ?_));refine ws _ ?_;exact aE (al _ (.inl (aG [.str af.1,.ao 1 (qX.map a1),.bool true])))
 refine aH al (λh2 ee dj bb=>?_);refine ws _ ?_;refine aR h (λeX h=>?_) (λeX h=>?_)
 .refine ws _ ?_;obtain⟨aJ,e5,h⟩:=aD h;obtain⟨a8,gV,h⟩:=aD h;obtain⟨bb,iq,h⟩:=aD h;refine cd (bJ [(0,.str a0),(5,.str af.1),(8,.ao 1 (bb.1.map a1)),(9,.bool bb.2)] (λP ai=>?_) ?_)
  .simp only[aM.down,simprocAttr,a1,bd];refine ez (aCt af.2.1 ([41]:List UInt8) _ e5) rfl rfl rfl rfl (.inl (by rfl)) ?_;simp only[aM.down,simprocAttr,a1,bd];refine ez (aCA aJ ([44]:List UInt8) _ gV) rfl rfl rfl rfl (.inl (by rfl)) ?_;simp only[aM.down,simprocAttr,a1,bd];refine ez (aCC a8 _ iq) rfl rfl (by simp only[aM.down,simprocAttr,a1,bd,hq,hr,hs,dI, @cm _ bd bd (λ_=>jr _)]<;>rfl) rfl (.inr (by simp only[I.dd,I.hV, @lg _ a1 (λ_=>xY _),Bool.and_self])) ?_;simp only[aM.down,simprocAttr,a1,bd];(try simp only[bf.down,simprocAttr,a1,bd]at ai⊢);exact ai
  refine ws _ ?_;refine aR h (λq7 h=>?_) (λq7 h=>?_)
  .refine ws _ ?_;exact aE (dj _ (.inr ⟨[(2,.str ([]:List UInt8)),(3,.ao 1 []),(4,.bool false)],lh [] rfl (jb rfl (lk (t:=3) (d:=.bz) rfl rfl (.jD _) (by decide) (jb rfl (lj)))),aG [.str ([]:List UInt8),.ao 1 [],.bool false]⟩))
  .exact aY (ee _ (.inr ⟨_,bo rfl,yc bb.1 h⟩))
 .exact aY (ee _ (.inr ⟨_,lh [] rfl (jb (t:=0) (d:=.str a0) rfl (jb (t:=5) (d:=.str af.1) rfl (lk (t:=8) (d:=.bz) (bE:=.ao 1 []) rfl rfl (.jD _) (by decide) (lj)))),yc [] h⟩))
theorem aCJ (a0:List UInt8) (r:Bool) (h:u7 a0=some r):bk aF 76 [.str a0] (.bool r) []:=by
 refine bQ [0] [.tmp 2] Tryz.func76 as5 (λbI al bN=>?_);refine ws _ ?_;obtain⟨af,aQ,h⟩:=aD h;refine dt (aCI a0 _ aQ) _ ?_;refine ws _ ?_;exact aE (al _ (.inl (aG [.bool af.2.2])))
theorem aCK (a0:b_) (r:Bool) (h:ET a0=some r):bk aF 53 [cr a0] (.bool r) []:=by
 refine bQ [0] [.tmp 2] Tryz.func53 ny (λbI al bN=>?_);refine ws _ ?_;obtain⟨af,aQ,h⟩:=aD h;rcases eS h with⟨bD,h⟩|⟨bD,h⟩
 .obtain⟨ak,cF,h⟩:=aD h;rcases eS h with⟨cO,h⟩|⟨cO,h⟩
  .obtain⟨aJ,b4,h⟩:=aD h;rcases eS h with⟨b6,h⟩|⟨b6,h⟩
   .obtain⟨a8,h9,h⟩:=aD h;refine cd (bJ [(2,.bool a8)] (λP ai=>?_) ?_)
    .simp only[aM.down,simprocAttr,j9.down,bD,cO,b6];refine ez (iM a0.Choice 0 199 _ aQ) rfl rfl rfl rfl (.inl (by rfl)) ?_;simp only[aM.down,simprocAttr,j9.down,bD,cO,b6];refine fT (iM a0.c8 0 2 _ cF) rfl rfl rfl rfl (.inl (by rfl)) ?_;simp only[aM.down,simprocAttr,j9.down,bD,cO,b6];refine fT (iM a0.Second (-1) 2 _ b4) rfl rfl rfl rfl (.inl (by rfl)) ?_;simp only[aM.down,simprocAttr,j9.down,bD,cO,b6];refine fT (aCJ a0.Label _ h9) rfl rfl rfl rfl (.inl (by rfl)) ?_;simp only[aM.down,simprocAttr,j9.down,bD,cO,b6];(try simp only[bf.down,simprocAttr,cr,bD,cO,b6]at ai⊢);exact ai
    exact aE (al _ (.inl (aG [.bool a8])))
   .refine cd (bJ [(2,.bool false)] (λP ai=>?_) ?_)
    .simp only[aM.down,simprocAttr,j9.down,bD,cO,b6];refine ez (iM a0.Choice 0 199 _ aQ) rfl rfl rfl rfl (.inl (by rfl)) ?_;simp only[aM.down,simprocAttr,j9.down,bD,cO,b6];refine fT (iM a0.c8 0 2 _ cF) rfl rfl rfl rfl (.inl (by rfl)) ?_;simp only[aM.down,simprocAttr,j9.down,bD,cO,b6];refine fT (iM a0.Second (-1) 2 _ b4) rfl rfl rfl rfl (.inl (by rfl)) ?_;simp only[aM.down,simprocAttr,j9.down,bD,cO,b6];(try simp only[bf.down,simprocAttr,cr,bD,cO,b6]at ai⊢);exact ai
    exact aE (al _ (.inl (aG [.bool false])))
  .refine cd (bJ [(2,.bool false)] (λP ai=>?_) ?_)
   .simp only[aM.down,simprocAttr,j9.down,bD,cO];refine ez (iM a0.Choice 0 199 _ aQ) rfl rfl rfl rfl (.inl (by rfl)) ?_;simp only[aM.down,simprocAttr,j9.down,bD,cO];refine fT (iM a0.c8 0 2 _ cF) rfl rfl rfl rfl (.inl (by rfl)) ?_;simp only[aM.down,simprocAttr,j9.down,bD,cO];(try simp only[bf.down,simprocAttr,cr,bD,cO]at ai⊢);exact ai
   exact aE (al _ (.inl (aG [.bool false])))
 .refine gT bD (iM a0.Choice 0 199 _ aQ) _ ?_;exact aE (al _ (.inl (aG [.bool false])))
theorem aCL (a0:b_) (r:Bool) (h:JC a0=some r):bk aF 52 [cr a0] (.bool r) []:=by
 refine bQ [0] [.tmp 2] Tryz.func52 Ba (λbI al bN=>?_);refine ws _ ?_;obtain⟨af,aQ,h⟩:=aD h;refine dt (aCK a0 _ aQ) _ ?_;exact aE (al _ (.inl (aG [.bool (!af)])))
theorem aCM (a0:List b_) (r:Int) (h:JD a0=some r):bk aF 75 [.slice (a0.map cr),.fn 52 []] (.int .i64 r) []:=by
 refine bQ [0,1] [.tmp 4] Tryz.func75 ath (λbI al bN=>?_);refine ws _ ?_;refine aH al (λej bX bp ak=>?_);refine ws _ ?_;refine bB bp (λdV eh b5 bD a8=>?_);have fq:∀(n:Nat) (cV:Int),u9 a0 n cV=some r->du aF QP dV (ab [(0,.slice (a0.map cr)),(1,.fn 52 []),(7,.int .i64 (a0.length:Int)),(8,.int .i64 cV)]):=by
  intro m6;induction m6 with
  |zero=>intro cV h;cases(show none=some r from h)
  |succ m6 fl=>
   intro cV h;replace h:EU (u9 a0 m6) a0 cV=some r:=h;refine dK b5 (λh2 ee dj bb=>?_);refine ws _ ?_;refine aH dj (λhh dU dW cx=>?_);refine aR h (λb6 h=>?_) (λb6 h=>?_)
   .refine aY (dU _ (.inl ?_));refine aH dj (λeB cQ cj de=>?_);refine bB cj (λe4 cu cM dx df=>?_);refine ws _ ?_;obtain⟨af,et,h⟩:=aD h;obtain⟨ak,ew,h⟩:=aD h;refine gT et (aCL af _ ew) _ ?_;refine aR h (λeX h=>?_) (λeX h=>?_)
    .refine ws _ ?_;exact aE (cM _ (.inl (aG [.int .i64 cV])))
    .refine aY (cu _ (cQ _ (.inl ?_)));refine wr _ ?_;exact ee _ (.inr ⟨_,bo rfl,fl (IntKind.i64.wrap (cV+1)) h⟩)
   .refine dG (cx 0 _ (bb 0 _ (bD _ (bX _ (.inl ?_)))));refine ws _ ?_;exact aE (al _ (.inl (aG [.int .i64 (-1)])))
 obtain⟨n,h⟩:=dC h;exact dH (.inr ⟨_,bo rfl,fq n 0 h⟩)
theorem aCN (a0:List b_) (r:Bool) (h:JE a0=some r):bk aF 51 [.slice (a0.map cr),.fn 52 []] (.bool r) []:=by
 refine bQ [0,1] [.tmp 4] Tryz.func51 atj (λbI al bN=>?_);refine ws _ ?_;obtain⟨af,aQ,h⟩:=aD h;refine dt (aCM a0 _ aQ) _ ?_;exact aE (al _ (.inl (aG [.bool (decide (0<=af))])))
theorem aCO (a0:List b_) (r:Bool) (h:EV a0=some r):bk aF 30 [.slice (a0.map cr)] (.bool r) []:=by
 refine bQ [0] [.tmp 2] Tryz.func30 atm (λbI al bN=>?_);refine ws _ ?_;rcases eS h with⟨jA,h⟩|⟨jA,h⟩
 .obtain⟨af,cC,h⟩:=aD h;refine cd (bJ [(2,.bool (!af))] (λP ai=>?_) ?_)
  .simp only[aM.down,simprocAttr,r7.down,jA];refine fT (aCN a0 _ cC) rfl rfl rfl rfl (.inl (by rfl)) ?_;simp only[aM.down,simprocAttr,r7.down,jA];(try simp only[bf.down,simprocAttr,cr,jA]at ai⊢);exact ai
  exact aE (al _ (.inl (aG [.bool (!af)])))
 .refine gv jA _ ?_;exact aE (al _ (.inl (aG [.bool false])))
theorem R2 (a0:eI) (R:List b_) (r:(List Int)×Int) (h:AL a0 R=some r):bk aF 9 [iI a0,.slice (R.map cr)] (.tuple [.ao 1 (r.1.map a1),.int .i64 r.2]) []:=by
 refine bQ [0,1] [.tmp 4,.tmp 5] Tryz.func9 n4 (λbI al bN=>?_);refine ws _ ?_;refine aH al (λej bX bp ak=>?_);refine bB bp (λj_ f_ dk jA aJ=>?_);obtain⟨af,cF,h⟩:=aD h;refine dt (aCm a0 _ cF) _ ?_;refine aR h (λcO h=>?_) (λcO h=>?_)
 .refine ws _ ?_;exact aE (dk _ (.inr ⟨[(4,.ao 1 []),(5,.int .i64 1)],lh [] rfl (lk (t:=4) (d:=.bz) rfl rfl (.jD _) (by decide) (jb rfl (lj))),aG [.ao 1 [],.int .i64 1]⟩))
 .obtain⟨ak,h9,h⟩:=aD h;refine dt (aCO R _ h9) _ ?_;refine aR h (λdx h=>?_) (λdx h=>?_)
  .refine ws _ ?_;exact aE (dk _ (.inr ⟨[(4,.ao 1 []),(5,.int .i64 7)],lh [] rfl (lk (t:=4) (d:=.bz) rfl rfl (.jD _) (by decide) (jb rfl (lj))),aG [.ao 1 [],.int .i64 7]⟩))
  .refine aY (f_ _ (bX _ (.inl ?_)));refine ws _ ?_;obtain⟨aIL,ew,h⟩:=aD h;refine cd (bJ [(1,.slice (R.map cr)),(6,.int .i64 (a0.bK.length:Int)),(7,.ao 1 ((List.replicate (Int.toNat (a0.bK.length:Int)) 0).map a1))] (λP ai=>?_) ?_)
   .simp only[aM.down,simprocAttr,el,jd,a1,cr,(dA ew).1,(dA ew).2.1,(dA ew).2.2,eu,List.map_replicate,-Int.reduceNatCast'];(try simp only[bf.down,simprocAttr,pw.down,(dA ew).1,(dA ew).2.1,(dA ew).2.2,eu,List.map_replicate,-Int.reduceNatCast']at ai⊢);exact ai
   refine aH al (λlS g_ gL jq=>?_);refine ws [(6,.int .i64 (a0.bK.length:Int)),(7,.ao 1 ((List.replicate (Int.toNat (a0.bK.length:Int)) 0).map a1)),(24,.slice (R.map cr)),(25,.int .i64 (R.length:Int)),(26,.int .i64 0)] ?_;refine bB gL (λmR kD js kE iz=>?_);have aCP:∀(n:Nat) (nt:List Int) (oH:Int),nu a0 R n nt oH=some r->du aF QS mR (ab [(6,.int .i64 (a0.bK.length:Int)),(7,.ao 1 (nt.map a1)),(24,.slice (R.map cr)),(25,.int .i64 (R.length:Int)),(26,.int .i64 oH)]):=by
    intro tu;induction tu with
    |zero=>intro nt oH h;cases(show none=some r from h)
    |succ tu aCQ=>
     intro nt oH h;replace h:EZ (nu a0 R tu) a0 R nt oH=some r:=h;refine dK js (λts nA ma nw=>?_);refine ws _ ?_;refine aH ma (λRm ya FY vl=>?_);refine aR h (λn7 h=>?_) (λn7 h=>?_)
     .refine aY (ya _ (.inl ?_));refine aH ma (λq5 kA kB mA=>?_);refine bB kB (λRK Bm Bn fH tn=>?_);obtain⟨aJ,l8,h⟩:=aD h;refine gv l8 _ ?_;refine aH Bn (λF6 yh yi Bi=>?_);obtain⟨a8,r_,h⟩:=aD h;refine cd (bJ [(6,.int .i64 (a0.bK.length:Int)),(7,.ao 1 (nt.map a1)),(9,.bh (cr aJ)),(24,.slice (R.map cr)),(25,.int .i64 (R.length:Int)),(26,.int .i64 oH),(40,.bool ((!a8)||(decide ((a0.bK.length:Int)<=aJ.Second))))] (λP ai=>?_) ?_)
      .rcases Bool.eq_false_or_eq_true (a8)with r5|r5
       .simp only[aM.down,simprocAttr,x5.down,r5];refine ez (vJ aJ.c8 (a0.bK.length:Int) _ r_) rfl rfl rfl rfl (.inl (by rfl)) ?_;simp only[aM.down,simprocAttr,x5.down,r5];(try simp only[bf.down,simprocAttr,pw.down,r5]at ai⊢);exact ai
       .simp only[aM.down,simprocAttr,x5.down,r5];refine ez (vJ aJ.c8 (a0.bK.length:Int) _ r_) rfl rfl rfl rfl (.inl (by rfl)) ?_;simp only[aM.down,simprocAttr,x5.down,r5];(try simp only[bf.down,simprocAttr,pw.down,r5]at ai⊢);exact ai
      refine aR h (λjW h=>?_) (λjW h=>?_)
      .refine ws _ ?_;exact aE (yi _ (.inr ⟨[(4,.ao 1 []),(5,.int .i64 9)],lh [] rfl (lk (t:=4) (d:=.bz) rfl rfl (.jD _) (by decide) (jb rfl (lj))),aG [.ao 1 [],.int .i64 9]⟩))
      .refine aY (yh _ (.inl ?_));refine ws _ ?_;refine bB Bn (λaCR aIM aCS jt aIN=>?_);have aCT:∀(n:Nat) (mz:List Int) (mO:Int) (ns:Int) (jU:Int),r1 (nu a0 R tu) a0 R aJ n mz mO ns jU=some r->du aF QR aCR (ab [(6,.int .i64 (a0.bK.length:Int)),(7,.ao 1 (mz.map a1)),(9,.bh (cr aJ)),(24,.slice (R.map cr)),(25,.int .i64 (R.length:Int)),(26,.int .i64 mO),(42,.int .i64 ns),(43,.int .i64 jU)]):=by
        intro Gh;induction Gh with
        |zero=>intro mz mO ns jU h;cases(show none=some r from h)
        |succ Gh aCU=>
         intro mz mO ns jU h;replace h:EY (nu a0 R tu) (r1 (nu a0 R tu) a0 R aJ Gh) a0 R aJ mz mO ns jU=some r:=h;refine dK aCS (λJ9 Bh vC J_=>?_);refine ws _ ?_;refine aH vC (λaIO aCV aIP aCW=>?_);refine aR h (λaCX h=>?_) (λaCX h=>?_)
         .refine aY (aCV _ (.inl ?_));have R3:∀(xT:List Int) (xU:Int) (xV:Int) (xW:Int),EW (nu a0 R tu) (r1 (nu a0 R tu) a0 R aJ Gh) a0 R aJ xT xU xV xW=some r->dc aF QQ J9 (ab [(6,.int .i64 (a0.bK.length:Int)),(7,.ao 1 (xT.map a1)),(9,.bh (cr aJ)),(24,.slice (R.map cr)),(25,.int .i64 (R.length:Int)),(26,.int .i64 xU),(42,.int .i64 xV),(43,.int .i64 xW)]):=by
           intro xT xU xV xW h;refine wr _ ?_;exact Bh _ (.inr ⟨_,bo rfl,aCU xT xU xV (IntKind.i64.wrap (xW+1)) h⟩)
          refine aH vC (λKq Bk Bl RE=>?_);refine bB Bl (λF9 vF Bj Gc F_=>?_);refine ws _ ?_;refine cd (bJ [(6,.int .i64 (a0.bK.length:Int)),(7,.ao 1 (mz.map a1)),(9,.bh (cr aJ)),(10,.int .i64 jU),(24,.slice (R.map cr)),(25,.int .i64 (R.length:Int)),(26,.int .i64 mO),(42,.int .i64 ns),(43,.int .i64 jU),(55,.bool ((aJ.c8==jU)||(aJ.Second==jU)))] (λP ai=>?_) ?_)
          .rcases Bool.eq_false_or_eq_true (aJ.c8==jU)with vn|vn
           .simp only[aM.down,simprocAttr,x5.down,vn];(try simp only[bf.down,simprocAttr,pw.down,vn]at ai⊢);exact ai
           .simp only[aM.down,simprocAttr,x5.down,vn];(try simp only[bf.down,simprocAttr,pw.down,vn]at ai⊢);exact ai
          refine aR h (λpy h=>?_) (λpy h=>?_)
          .obtain⟨bb,pz,h⟩:=aD h;refine ku (bJ [(6,.int .i64 (a0.bK.length:Int)),(7,.ao 1 ((List.set mz (Int.toNat jU) (IntKind.i64.wrap (bb+1))).map a1)),(9,.bh (cr aJ)),(24,.slice (R.map cr)),(25,.int .i64 (R.length:Int)),(26,.int .i64 mO),(42,.int .i64 ns),(43,.int .i64 jU)] (λP ai=>?_) ?_)
           .simp only[aM.down,simprocAttr,el,jd,a1,cr,pz,cR pz,dN,dp];(try simp only[bf.down,simprocAttr,pw.down,pz,cR pz,dN,dp]at ai⊢);exact ai
           exact vF _ (Bk _ (.inr ⟨_,bo rfl,R3 (List.set mz (Int.toNat jU) (IntKind.i64.wrap (bb+1))) mO ns jU h⟩))
          .exact aY (vF _ (Bk _ (.inr ⟨_,bo rfl,R3 mz mO ns jU h⟩)))
         .refine dG (aCW 3 _ (J_ 3 _ (jt _ (Bm _ (kA _ (.inl ?_))))));refine wr _ ?_;exact nA _ (.inr ⟨_,bo rfl,aCQ mz (IntKind.i64.wrap (mO+1)) h⟩)
       obtain⟨n,h⟩:=dC h;exact dH (.inr ⟨_,bo rfl,aCT n nt oH (nt.length:Int) 0 h⟩)
     .refine dG (vl 1 _ (nw 1 _ (kE _ (g_ _ (.inl ?_)))));refine ws _ ?_;exact aE (al _ (.inl (aG [.ao 1 (nt.map a1),.int .i64 0])))
   obtain⟨n,h⟩:=dC h;exact dH (.inr ⟨_,bo rfl,aCP n (List.replicate (Int.toNat (a0.bK.length:Int)) 0) 0 h⟩)
theorem vK (a0:List Int) (R:List Int) (r:Bool) (h:u_ a0 R=some r):bk aF 10 [.slice (a0.map a1),.slice (R.map a1)] (.bool r) []:=by
 refine bQ [0,1] [.tmp 4] Tryz.func10 mP (λbI al bN=>?_);refine ws _ ?_;refine aH al (λej bX bp ak=>?_);refine ws _ ?_;refine aR h (λbD h=>?_) (λbD h=>?_)
 .refine ws _ ?_;exact aE (bp _ (.inl (aG [.bool false])))
 .refine aY (bX _ (.inl ?_));refine aH al (λeZ dy dw bO=>?_);refine ws _ ?_;refine bB dw (λhR hB hv b6 eg=>?_);have h1:∀(n:Nat) (ca:Int),E0 a0 R n ca=some r->du aF QT hR (ab [(0,.slice (a0.map a1)),(1,.slice (R.map a1)),(5,.int .i64 ca)]):=by
   intro m14;induction m14 with
   |zero=>intro ca h;cases(show none=some r from h)
   |succ m14 hC=>
    intro ca h;replace h:Ph (E0 a0 R m14) a0 R ca=some r:=h;refine dK hv (λeB cQ cj de=>?_);refine aH cj (λe4 cu cM df=>?_);refine ws _ ?_;refine aR h (λe9 h=>?_) (λe9 h=>?_)
    .refine aY (cu _ (.inl ?_));refine aH cj (λlr gU gM jM=>?_);refine bB gM (λiK fa eW iL h6=>?_);obtain⟨af,cI,h⟩:=aD h;obtain⟨ak,eb,h⟩:=aD h;refine hX rfl (hY [(0,.slice (a0.map a1)),(1,.slice (R.map a1)),(5,.int .i64 ca),(25,.bool (af !=ak))] (λP ai=>?_) ?_)
     .simp only[dY.down,simprocAttr,el,jd,a1,cI,eb];refine⟨ht (by kernel_rfl),?_⟩;(try simp only[bf.down,simprocAttr,a1,cI,eb]at ai⊢);exact ai
     refine aR h (λie h=>?_) (λie h=>?_)
     .refine ws _ ?_;exact aE (eW _ (.inl (aG [.bool false])))
     .refine aY (fa _ (gU _ (.inl ?_)));refine wr _ ?_;exact cQ _ (.inr ⟨_,bo rfl,hC (IntKind.i64.wrap (ca+1)) h⟩)
    .refine dG (df 0 _ (de 0 _ (b6 _ (dy _ (.inl ?_)))));refine ws _ ?_;exact aE (al _ (.inl (aG [.bool true])))
  obtain⟨n,h⟩:=dC h;exact dH (.inr ⟨_,bo rfl,h1 n 0 h⟩)
theorem aCY (a0:b1) (R:b1) (r:Bool) (h:AM a0 R=some r):bk aF 166 [cn a0,cn R] (.bool r) []:=by
 refine bQ [0,1] [.tmp 4] Tryz.func166 at6 (λbI al bN=>?_);refine ws _ ?_;refine aH al (λej bX bp ak=>?_);refine ws _ ?_;refine aR h (λbD h=>?_) (λbD h=>?_)
 .refine ws _ ?_;exact aE (bp _ (.inl (aG [.bool false])))
 .refine aY (bX _ (.inl ?_));refine aH al (λeZ dy dw bO=>?_);refine ws _ ?_;refine aR h (λb6 h=>?_) (λb6 h=>?_)
  .refine ws _ ?_;exact aE (dw _ (.inl (aG [.bool false])))
  .refine aY (dy _ (.inl ?_));refine ws _ ?_;exact aE (al _ (.inl (aG [.bool true])))
theorem aCZ (a0:List b1) (R:List b1) (r:Bool) (h:AN a0 R=some r):bk aF 148 [.slice (a0.map cn),.slice (R.map cn)] (.bool r) []:=by
 refine bQ [0,1] [.tmp 4] Tryz.func148 auk (λbI al bN=>?_);refine ws _ ?_;refine aH al (λej bX bp ak=>?_);refine ws _ ?_;refine aR h (λbD h=>?_) (λbD h=>?_)
 .refine ws _ ?_;exact aE (bp _ (.inl (aG [.bool false])))
 .refine aY (bX _ (.inl ?_));refine aH al (λeZ dy dw bO=>?_);refine ws _ ?_;refine bB dw (λhR hB hv b6 eg=>?_);have h1:∀(n:Nat) (ca:Int),E1 a0 R n ca=some r->du aF QU hR (ab [(0,.slice (a0.map cn)),(1,.slice (R.map cn)),(5,.int .i64 ca)]):=by
   intro m14;induction m14 with
   |zero=>intro ca h;cases(show none=some r from h)
   |succ m14 hC=>
    intro ca h;replace h:Pj (E1 a0 R m14) a0 R ca=some r:=h;refine dK hv (λeB cQ cj de=>?_);refine aH cj (λe4 cu cM df=>?_);refine ws _ ?_;refine aR h (λe9 h=>?_) (λe9 h=>?_)
    .refine aY (cu _ (.inl ?_));refine aH cj (λlr gU gM jM=>?_);refine bB gM (λiK fa eW iL h6=>?_);obtain⟨af,cI,h⟩:=aD h;obtain⟨ak,eb,h⟩:=aD h;obtain⟨aJ,e5,h⟩:=aD h;refine hX rfl (hY [(0,.slice (a0.map cn)),(1,.slice (R.map cn)),(5,.int .i64 ca),(26,.bool (!aJ))] (λP ai=>?_) ?_)
     .simp only[dY.down,simprocAttr,oK.down,cI,eb];refine j7 (aCY af ak _ e5) rfl rfl rfl rfl (.inl (by rfl)) ?_;simp only[dY.down,simprocAttr,oK.down,cI,eb];refine⟨ht (by kernel_rfl),?_⟩;(try simp only[bf.down,simprocAttr,cn,cI,eb]at ai⊢);exact ai
     refine aR h (λkX h=>?_) (λkX h=>?_)
     .refine ws _ ?_;exact aE (eW _ (.inl (aG [.bool false])))
     .refine aY (fa _ (gU _ (.inl ?_)));refine wr _ ?_;exact cQ _ (.inr ⟨_,bo rfl,hC (IntKind.i64.wrap (ca+1)) h⟩)
    .refine dG (df 0 _ (de 0 _ (b6 _ (dy _ (.inl ?_)))));refine ws _ ?_;exact aE (al _ (.inl (aG [.bool true])))
  obtain⟨n,h⟩:=dC h;exact dH (.inr ⟨_,bo rfl,h1 n 0 h⟩)
theorem aC0 (a0:List (List b1)) (R:List (List b1)) (r:Bool) (h:E3 a0 R=some r):bk aF 127 [.slice (a0.map fj),.slice (R.map fj)] (.bool r) []:=by
 refine bQ [0,1] [.tmp 4] Tryz.func127 auw (λbI al bN=>?_);refine ws _ ?_;refine aH al (λej bX bp ak=>?_);refine ws _ ?_;refine aR h (λbD h=>?_) (λbD h=>?_)
 .refine ws _ ?_;exact aE (bp _ (.inl (aG [.bool false])))
 .refine aY (bX _ (.inl ?_));refine aH al (λeZ dy dw bO=>?_);refine ws _ ?_;refine bB dw (λhR hB hv b6 eg=>?_);have h1:∀(n:Nat) (ca:Int),E2 a0 R n ca=some r->du aF QV hR (ab [(0,.slice (a0.map fj)),(1,.slice (R.map fj)),(5,.int .i64 ca)]):=by
   intro m14;induction m14 with
   |zero=>intro ca h;cases(show none=some r from h)
   |succ m14 hC=>
    intro ca h;replace h:Pk (E2 a0 R m14) a0 R ca=some r:=h;refine dK hv (λeB cQ cj de=>?_);refine aH cj (λe4 cu cM df=>?_);refine ws _ ?_;refine aR h (λe9 h=>?_) (λe9 h=>?_)
    .refine aY (cu _ (.inl ?_));refine aH cj (λlr gU gM jM=>?_);refine bB gM (λiK fa eW iL h6=>?_);obtain⟨af,cI,h⟩:=aD h;obtain⟨ak,eb,h⟩:=aD h;obtain⟨aJ,e5,h⟩:=aD h;refine hX rfl (hY [(0,.slice (a0.map fj)),(1,.slice (R.map fj)),(5,.int .i64 ca),(26,.bool (!aJ))] (λP ai=>?_) ?_)
     .simp only[dY.down,simprocAttr,el,hK,gW,gJ,cn,fj,cI,eb];refine j7 (aCZ af ak _ e5) rfl rfl rfl rfl (.inl (by rfl)) ?_;simp only[dY.down,simprocAttr,el,hK,gW,gJ,cn,fj,cI,eb];refine⟨ht (by kernel_rfl),?_⟩;(try simp only[bf.down,simprocAttr,cn,fj,cI,eb]at ai⊢);exact ai
     refine aR h (λkX h=>?_) (λkX h=>?_)
     .refine ws _ ?_;exact aE (eW _ (.inl (aG [.bool false])))
     .refine aY (fa _ (gU _ (.inl ?_)));refine wr _ ?_;exact cQ _ (.inr ⟨_,bo rfl,hC (IntKind.i64.wrap (ca+1)) h⟩)
    .refine dG (df 0 _ (de 0 _ (b6 _ (dy _ (.inl ?_)))));refine ws _ ?_;exact aE (al _ (.inl (aG [.bool true])))
  obtain⟨n,h⟩:=dC h;exact dH (.inr ⟨_,bo rfl,h1 n 0 h⟩)
theorem aC1 (a0:bH) (R:bH) (r:Bool) (h:AO a0 R=some r):bk aF 98 [cX a0,cX R] (.bool r) []:=by
 refine bQ [0,1] [.tmp 4] Tryz.func98 auM (λbI al bN=>?_);refine ws _ ?_;refine aH al (λej bX bp ak=>?_);refine ws _ ?_;refine aR h (λbD h=>?_) (λbD h=>?_)
 .refine ws _ ?_;exact aE (bp _ (.inl (aG [.bool false])))
 .refine aY (bX _ (.inl ?_));refine aH al (λeZ dy dw bO=>?_);refine ws _ ?_;refine aR h (λb6 h=>?_) (λb6 h=>?_)
  .refine ws _ ?_;exact aE (dw _ (.inl (aG [.bool false])))
  .refine aY (dy _ (.inl ?_));refine aH al (λe4 cu cM df=>?_);refine ws _ ?_;refine aR h (λe9 h=>?_) (λe9 h=>?_)
   .refine ws _ ?_;exact aE (cM _ (.inl (aG [.bool false])))
   .refine aY (cu _ (.inl ?_));refine aH al (λiK fa eW h6=>?_);obtain⟨af,cI,h⟩:=aD h;refine dt (aC0 a0.cN R.cN _ cI) _ ?_;refine aR h (λkE h=>?_) (λkE h=>?_)
    .refine ws _ ?_;exact aE (eW _ (.inl (aG [.bool false])))
    .refine aY (fa _ (.inl ?_));refine ws _ ?_;exact aE (al _ (.inl (aG [.bool true])))
theorem aC2 (a0:List bH) (R:List bH) (r:Bool) (h:E5 a0 R=some r):bk aF 77 [.slice (a0.map cX),.slice (R.map cX)] (.bool r) []:=by
 refine bQ [0,1] [.tmp 4] Tryz.func77 qg (λbI al bN=>?_);refine ws _ ?_;refine aH al (λej bX bp ak=>?_);refine ws _ ?_;refine aR h (λbD h=>?_) (λbD h=>?_)
 .refine ws _ ?_;exact aE (bp _ (.inl (aG [.bool false])))
 .refine aY (bX _ (.inl ?_));refine aH al (λeZ dy dw bO=>?_);refine ws _ ?_;refine bB dw (λhR hB hv b6 eg=>?_);have h1:∀(n:Nat) (ca:Int),E4 a0 R n ca=some r->du aF QW hR (ab [(0,.slice (a0.map cX)),(1,.slice (R.map cX)),(5,.int .i64 ca)]):=by
   intro m14;induction m14 with
   |zero=>intro ca h;cases(show none=some r from h)
   |succ m14 hC=>
    intro ca h;replace h:Pl (E4 a0 R m14) a0 R ca=some r:=h;refine dK hv (λeB cQ cj de=>?_);refine aH cj (λe4 cu cM df=>?_);refine ws _ ?_;refine aR h (λe9 h=>?_) (λe9 h=>?_)
    .refine aY (cu _ (.inl ?_));refine aH cj (λlr gU gM jM=>?_);refine bB gM (λiK fa eW iL h6=>?_);obtain⟨af,cI,h⟩:=aD h;obtain⟨ak,eb,h⟩:=aD h;obtain⟨aJ,e5,h⟩:=aD h;refine hX rfl (hY [(0,.slice (a0.map cX)),(1,.slice (R.map cX)),(5,.int .i64 ca),(26,.bool (!aJ))] (λP ai=>?_) ?_)
     .simp only[dY.down,simprocAttr,FL.down,cI,eb];refine j7 (aC1 af ak _ e5) rfl rfl rfl rfl (.inl (by rfl)) ?_;simp only[dY.down,simprocAttr,FL.down,cI,eb];refine⟨ht (by kernel_rfl),?_⟩;(try simp only[bf.down,simprocAttr,n6.down,cI,eb]at ai⊢);exact ai
     refine aR h (λkX h=>?_) (λkX h=>?_)
     .refine ws _ ?_;exact aE (eW _ (.inl (aG [.bool false])))
     .refine aY (fa _ (gU _ (.inl ?_)));refine wr _ ?_;exact cQ _ (.inr ⟨_,bo rfl,hC (IntKind.i64.wrap (ca+1)) h⟩)
    .refine dG (df 0 _ (de 0 _ (b6 _ (dy _ (.inl ?_)))));refine ws _ ?_;exact aE (al _ (.inl (aG [.bool true])))
  obtain⟨n,h⟩:=dC h;exact dH (.inr ⟨_,bo rfl,h1 n 0 h⟩)
theorem aC3 (a0:bs) (R:bs) (r:Bool) (h:AP a0 R=some r):bk aF 55 [bP a0,bP R] (.bool r) []:=by
 refine bQ [0,1] [.tmp 4] Tryz.func55 au_ (λbI al bN=>?_);refine ws _ ?_;refine aH al (λej bX bp ak=>?_);refine ws _ ?_;refine aR h (λbD h=>?_) (λbD h=>?_)
 .refine ws _ ?_;exact aE (bp _ (.inl (aG [.bool false])))
 .refine aY (bX _ (.inl ?_));refine aH al (λeZ dy dw bO=>?_);refine ws _ ?_;refine aR h (λb6 h=>?_) (λb6 h=>?_)
  .refine ws _ ?_;exact aE (dw _ (.inl (aG [.bool false])))
  .refine aY (dy _ (.inl ?_));refine aH al (λe4 cu cM df=>?_);obtain⟨af,er,h⟩:=aD h;refine dt (aC2 a0.Body R.Body _ er) _ ?_;refine aR h (λga h=>?_) (λga h=>?_)
   .refine ws _ ?_;exact aE (cM _ (.inl (aG [.bool false])))
   .refine aY (cu _ (.inl ?_));refine ws _ ?_;exact aE (al _ (.inl (aG [.bool true])))
theorem aC4 (a0:List bs) (R:List bs) (r:Bool) (h:E7 a0 R=some r):bk aF 32 [.slice (a0.map bP),.slice (R.map bP)] (.bool r) []:=by
 refine bQ [0,1] [.tmp 4] Tryz.func32 avm (λbI al bN=>?_);refine ws _ ?_;refine aH al (λej bX bp ak=>?_);refine ws _ ?_;refine aR h (λbD h=>?_) (λbD h=>?_)
 .refine ws _ ?_;exact aE (bp _ (.inl (aG [.bool false])))
 .refine aY (bX _ (.inl ?_));refine aH al (λeZ dy dw bO=>?_);refine ws _ ?_;refine bB dw (λhR hB hv b6 eg=>?_);have h1:∀(n:Nat) (ca:Int),E6 a0 R n ca=some r->du aF QX hR (ab [(0,.slice (a0.map bP)),(1,.slice (R.map bP)),(5,.int .i64 ca)]):=by
   intro m14;induction m14 with
   |zero=>intro ca h;cases(show none=some r from h)
   |succ m14 hC=>
    intro ca h;replace h:Pm (E6 a0 R m14) a0 R ca=some r:=h;refine dK hv (λeB cQ cj de=>?_);refine aH cj (λe4 cu cM df=>?_);refine ws _ ?_;refine aR h (λe9 h=>?_) (λe9 h=>?_)
    .refine aY (cu _ (.inl ?_));refine aH cj (λlr gU gM jM=>?_);refine bB gM (λiK fa eW iL h6=>?_);obtain⟨af,cI,h⟩:=aD h;obtain⟨ak,eb,h⟩:=aD h;obtain⟨aJ,e5,h⟩:=aD h;refine hX rfl (hY [(0,.slice (a0.map bP)),(1,.slice (R.map bP)),(5,.int .i64 ca),(26,.bool (!aJ))] (λP ai=>?_) ?_)
     .simp only[dY.down,simprocAttr,jN.down,cI,eb];refine j7 (aC3 af ak _ e5) rfl rfl rfl rfl (.inl (by rfl)) ?_;simp only[dY.down,simprocAttr,jN.down,cI,eb];refine⟨ht (by kernel_rfl),?_⟩;(try simp only[bf.down,simprocAttr,iJ.down,cI,eb]at ai⊢);exact ai
     refine aR h (λkX h=>?_) (λkX h=>?_)
     .refine ws _ ?_;exact aE (eW _ (.inl (aG [.bool false])))
     .refine aY (fa _ (gU _ (.inl ?_)));refine wr _ ?_;exact cQ _ (.inr ⟨_,bo rfl,hC (IntKind.i64.wrap (ca+1)) h⟩)
    .refine dG (df 0 _ (de 0 _ (b6 _ (dy _ (.inl ?_)))));refine ws _ ?_;exact aE (al _ (.inl (aG [.bool true])))
  obtain⟨n,h⟩:=dC h;exact dH (.inr ⟨_,bo rfl,h1 n 0 h⟩)
theorem aC5 (a0:dr) (R:dr) (r:Bool) (h:AQ a0 R=some r):bk aF 56 [fN a0,fN R] (.bool r) []:=by
 refine bQ [0,1] [.tmp 4] Tryz.func56 avv (λbI al bN=>?_);refine ws _ ?_;refine aH al (λej bX bp ak=>?_);refine ws _ ?_;refine aR h (λbD h=>?_) (λbD h=>?_)
 .refine ws _ ?_;exact aE (bp _ (.inl (aG [.bool false])))
 .refine aY (bX _ (.inl ?_));refine aH al (λeZ dy dw bO=>?_);obtain⟨af,h8,h⟩:=aD h;refine dt (vK a0.fE R.fE _ h8) _ ?_;refine aR h (λhQ h=>?_) (λhQ h=>?_)
  .refine ws _ ?_;exact aE (dw _ (.inl (aG [.bool false])))
  .refine aY (dy _ (.inl ?_));refine ws _ ?_;exact aE (al _ (.inl (aG [.bool true])))
theorem aC6 (a0:List dr) (R:List dr) (r:Bool) (h:E9 a0 R=some r):bk aF 33 [.slice (a0.map fN),.slice (R.map fN)] (.bool r) []:=by
 refine bQ [0,1] [.tmp 4] Tryz.func33 Bb (λbI al bN=>?_);refine ws _ ?_;refine aH al (λej bX bp ak=>?_);refine ws _ ?_;refine aR h (λbD h=>?_) (λbD h=>?_)
 .refine ws _ ?_;exact aE (bp _ (.inl (aG [.bool false])))
 .refine aY (bX _ (.inl ?_));refine aH al (λeZ dy dw bO=>?_);refine ws _ ?_;refine bB dw (λhR hB hv b6 eg=>?_);have h1:∀(n:Nat) (ca:Int),E8 a0 R n ca=some r->du aF QY hR (ab [(0,.slice (a0.map fN)),(1,.slice (R.map fN)),(5,.int .i64 ca)]):=by
   intro m14;induction m14 with
   |zero=>intro ca h;cases(show none=some r from h)
   |succ m14 hC=>
    intro ca h;replace h:Pn (E8 a0 R m14) a0 R ca=some r:=h;refine dK hv (λeB cQ cj de=>?_);refine aH cj (λe4 cu cM df=>?_);refine ws _ ?_;refine aR h (λe9 h=>?_) (λe9 h=>?_)
    .refine aY (cu _ (.inl ?_));refine aH cj (λlr gU gM jM=>?_);refine bB gM (λiK fa eW iL h6=>?_);obtain⟨af,cI,h⟩:=aD h;obtain⟨ak,eb,h⟩:=aD h;obtain⟨aJ,e5,h⟩:=aD h;refine hX rfl (hY [(0,.slice (a0.map fN)),(1,.slice (R.map fN)),(5,.int .i64 ca),(26,.bool (!aJ))] (λP ai=>?_) ?_)
     .simp only[dY.down,simprocAttr,el,jd,pc,oA,a1,fN,cI,eb];refine j7 (aC5 af ak _ e5) rfl rfl rfl rfl (.inl (by rfl)) ?_;simp only[dY.down,simprocAttr,el,jd,pc,oA,a1,fN,cI,eb];refine⟨ht (by kernel_rfl),?_⟩;(try simp only[bf.down,simprocAttr,a1,fN,cI,eb]at ai⊢);exact ai
     refine aR h (λkX h=>?_) (λkX h=>?_)
     .refine ws _ ?_;exact aE (eW _ (.inl (aG [.bool false])))
     .refine aY (fa _ (gU _ (.inl ?_)));refine wr _ ?_;exact cQ _ (.inr ⟨_,bo rfl,hC (IntKind.i64.wrap (ca+1)) h⟩)
    .refine dG (df 0 _ (de 0 _ (b6 _ (dy _ (.inl ?_)))));refine ws _ ?_;exact aE (al _ (.inl (aG [.bool true])))
  obtain⟨n,h⟩:=dC h;exact dH (.inr ⟨_,bo rfl,h1 n 0 h⟩)
theorem aC7 (a0:b9) (R:b9) (r:Bool) (h:AR a0 R=some r):bk aF 57 [bC a0,bC R] (.bool r) []:=by
 refine bQ [0,1] [.tmp 4] Tryz.func57 avT (λbI al bN=>?_);refine ws _ ?_;refine aH al (λej bX bp ak=>?_);refine ws _ ?_;refine aR h (λbD h=>?_) (λbD h=>?_)
 .refine ws _ ?_;exact aE (bp _ (.inl (aG [.bool false])))
 .refine aY (bX _ (.inl ?_));refine aH al (λeZ dy dw bO=>?_);refine ws _ ?_;refine aR h (λb6 h=>?_) (λb6 h=>?_)
  .refine ws _ ?_;exact aE (dw _ (.inl (aG [.bool false])))
  .refine aY (dy _ (.inl ?_));refine aH al (λe4 cu cM df=>?_);refine ws _ ?_;refine aR h (λe9 h=>?_) (λe9 h=>?_)
   .refine ws _ ?_;exact aE (cM _ (.inl (aG [.bool false])))
   .refine aY (cu _ (.inl ?_));refine ws _ ?_;exact aE (al _ (.inl (aG [.bool true])))
theorem aC8 (a0:List b9) (R:List b9) (r:Bool) (h:Fa a0 R=some r):bk aF 34 [.slice (a0.map bC),.slice (R.map bC)] (.bool r) []:=by
 refine bQ [0,1] [.tmp 4] Tryz.func34 qh (λbI al bN=>?_);refine ws _ ?_;refine aH al (λej bX bp ak=>?_);refine ws _ ?_;refine aR h (λbD h=>?_) (λbD h=>?_)
 .refine ws _ ?_;exact aE (bp _ (.inl (aG [.bool false])))
 .refine aY (bX _ (.inl ?_));refine aH al (λeZ dy dw bO=>?_);refine ws _ ?_;refine bB dw (λhR hB hv b6 eg=>?_);have h1:∀(n:Nat) (ca:Int),E_ a0 R n ca=some r->du aF QZ hR (ab [(0,.slice (a0.map bC)),(1,.slice (R.map bC)),(5,.int .i64 ca)]):=by
   intro m14;induction m14 with
   |zero=>intro ca h;cases(show none=some r from h)
   |succ m14 hC=>
    intro ca h;replace h:Po (E_ a0 R m14) a0 R ca=some r:=h;refine dK hv (λeB cQ cj de=>?_);refine aH cj (λe4 cu cM df=>?_);refine ws _ ?_;refine aR h (λe9 h=>?_) (λe9 h=>?_)
    .refine aY (cu _ (.inl ?_));refine aH cj (λlr gU gM jM=>?_);refine bB gM (λiK fa eW iL h6=>?_);obtain⟨af,cI,h⟩:=aD h;obtain⟨ak,eb,h⟩:=aD h;obtain⟨aJ,e5,h⟩:=aD h;refine hX rfl (hY [(0,.slice (a0.map bC)),(1,.slice (R.map bC)),(5,.int .i64 ca),(26,.bool (!aJ))] (λP ai=>?_) ?_)
     .simp only[dY.down,simprocAttr,hP.down,cI,eb];refine j7 (aC7 af ak _ e5) rfl rfl rfl rfl (.inl (by rfl)) ?_;simp only[dY.down,simprocAttr,hP.down,cI,eb];refine⟨ht (by kernel_rfl),?_⟩;(try simp only[bf.down,simprocAttr,bC,cI,eb]at ai⊢);exact ai
     refine aR h (λkX h=>?_) (λkX h=>?_)
     .refine ws _ ?_;exact aE (eW _ (.inl (aG [.bool false])))
     .refine aY (fa _ (gU _ (.inl ?_)));refine wr _ ?_;exact cQ _ (.inr ⟨_,bo rfl,hC (IntKind.i64.wrap (ca+1)) h⟩)
    .refine dG (df 0 _ (de 0 _ (b6 _ (dy _ (.inl ?_)))));refine ws _ ?_;exact aE (al _ (.inl (aG [.bool true])))
  obtain⟨n,h⟩:=dC h;exact dH (.inr ⟨_,bo rfl,h1 n 0 h⟩)
theorem R4 (a0:List (List UInt8)) (R:List (List UInt8)) (r:Bool) (h:AU a0 R=some r):bk aF 35 [.slice (a0.map bd),.slice (R.map bd)] (.bool r) []:=by
 refine bQ [0,1] [.tmp 4] Tryz.func35 awh (λbI al bN=>?_);refine ws _ ?_;refine aH al (λej bX bp ak=>?_);refine ws _ ?_;refine aR h (λbD h=>?_) (λbD h=>?_)
 .refine ws _ ?_;exact aE (bp _ (.inl (aG [.bool false])))
 .refine aY (bX _ (.inl ?_));refine aH al (λeZ dy dw bO=>?_);refine ws _ ?_;refine bB dw (λhR hB hv b6 eg=>?_);have h1:∀(n:Nat) (ca:Int),Fb a0 R n ca=some r->du aF Q0 hR (ab [(0,.slice (a0.map bd)),(1,.slice (R.map bd)),(5,.int .i64 ca)]):=by
   intro m14;induction m14 with
   |zero=>intro ca h;cases(show none=some r from h)
   |succ m14 hC=>
    intro ca h;replace h:Pp (Fb a0 R m14) a0 R ca=some r:=h;refine dK hv (λeB cQ cj de=>?_);refine aH cj (λe4 cu cM df=>?_);refine ws _ ?_;refine aR h (λe9 h=>?_) (λe9 h=>?_)
    .refine aY (cu _ (.inl ?_));refine aH cj (λlr gU gM jM=>?_);refine bB gM (λiK fa eW iL h6=>?_);obtain⟨af,cI,h⟩:=aD h;obtain⟨ak,eb,h⟩:=aD h;refine hX rfl (hY [(0,.slice (a0.map bd)),(1,.slice (R.map bd)),(5,.int .i64 ca),(25,.bool (!(af==ak)))] (λP ai=>?_) ?_)
     .simp only[dY.down,simprocAttr,n5.down,cI,eb];refine⟨ht (by kernel_rfl),?_⟩;(try simp only[bf.down,simprocAttr,bd,cI,eb]at ai⊢);exact ai
     refine aR h (λie h=>?_) (λie h=>?_)
     .refine ws _ ?_;exact aE (eW _ (.inl (aG [.bool false])))
     .refine aY (fa _ (gU _ (.inl ?_)));refine wr _ ?_;exact cQ _ (.inr ⟨_,bo rfl,hC (IntKind.i64.wrap (ca+1)) h⟩)
    .refine dG (df 0 _ (de 0 _ (b6 _ (dy _ (.inl ?_)))));refine ws _ ?_;exact aE (al _ (.inl (aG [.bool true])))
  obtain⟨n,h⟩:=dC h;exact dH (.inr ⟨_,bo rfl,h1 n 0 h⟩)
theorem aC9 (a0:eI) (R:eI) (r:Bool) (h:AV a0 R=some r):bk aF 11 [iI a0,iI R] (.bool r) []:=by
 refine bQ [0,1] [.tmp 4] Tryz.func11 x0 (λbI al bN=>?_);refine ws _ ?_;refine aH al (λej bX bp ak=>?_);obtain⟨af,cC,h⟩:=aD h;refine dt (aC4 a0.fv R.fv _ cC) _ ?_;refine aR h (λdQ h=>?_) (λdQ h=>?_)
 .refine ws _ ?_;exact aE (bp _ (.inl (aG [.bool false])))
 .refine aY (bX _ (.inl ?_));refine aH al (λhh dU dW cx=>?_);obtain⟨ak,h9,h⟩:=aD h;refine dt (aC6 a0.bK R.bK _ h9) _ ?_;refine aR h (λdx h=>?_) (λdx h=>?_)
  .refine ws _ ?_;exact aE (dW _ (.inl (aG [.bool false])))
  .refine aY (dU _ (.inl ?_));refine aH al (λkC hi jl jV=>?_);obtain⟨aJ,ew,h⟩:=aD h;refine dt (aC8 a0.hZ R.hZ _ ew) _ ?_;refine aR h (λeX h=>?_) (λeX h=>?_)
   .refine ws _ ?_;exact aE (jl _ (.inl (aG [.bool false])))
   .refine aY (hi _ (.inl ?_));refine aH al (λmR kD js iz=>?_);obtain⟨a8,gV,h⟩:=aD h;refine dt (R4 a0.hN R.hN _ gV) _ ?_;refine aR h (λfG h=>?_) (λfG h=>?_)
    .refine ws _ ?_;exact aE (js _ (.inl (aG [.bool false])))
    .refine aY (kD _ (.inl ?_));refine aH al (λq5 kA kB mA=>?_);obtain⟨bb,i1,h⟩:=aD h;refine dt (R4 a0.hO R.hO _ i1) _ ?_;refine aR h (λmS h=>?_) (λmS h=>?_)
     .refine ws _ ?_;exact aE (kB _ (.inl (aG [.bool false])))
     .refine aY (kA _ (.inl ?_));refine ws _ ?_;exact aE (al _ (.inl (aG [.bool true])))
theorem aC_ (a0:b_) (R:b_) (r:Bool) (h:AW a0 R=some r):bk aF 36 [cr a0,cr R] (.bool r) []:=by
 refine bQ [0,1] [.tmp 4] Tryz.func36 awN (λbI al bN=>?_);refine ws _ ?_;refine aH al (λej bX bp ak=>?_);refine ws _ ?_;refine aR h (λbD h=>?_) (λbD h=>?_)
 .refine ws _ ?_;exact aE (bp _ (.inl (aG [.bool false])))
 .refine aY (bX _ (.inl ?_));refine aH al (λeZ dy dw bO=>?_);refine ws _ ?_;refine aR h (λb6 h=>?_) (λb6 h=>?_)
  .refine ws _ ?_;exact aE (dw _ (.inl (aG [.bool false])))
  .refine aY (dy _ (.inl ?_));refine aH al (λe4 cu cM df=>?_);refine ws _ ?_;refine aR h (λe9 h=>?_) (λe9 h=>?_)
   .refine ws _ ?_;exact aE (cM _ (.inl (aG [.bool false])))
   .refine aY (cu _ (.inl ?_));refine aH al (λiK fa eW h6=>?_);refine ws _ ?_;refine aR h (λkZ h=>?_) (λkZ h=>?_)
    .refine ws _ ?_;exact aE (eW _ (.inl (aG [.bool false])))
    .refine aY (fa _ (.inl ?_));refine ws _ ?_;exact aE (al _ (.inl (aG [.bool true])))
theorem aDa (a0:List b_) (R:List b_) (r:Bool) (h:Ff a0 R=some r):bk aF 12 [.slice (a0.map cr),.slice (R.map cr)] (.bool r) []:=by
 refine bQ [0,1] [.tmp 4] Tryz.func12 x1 (λbI al bN=>?_);refine ws _ ?_;refine aH al (λej bX bp ak=>?_);refine ws _ ?_;refine aR h (λbD h=>?_) (λbD h=>?_)
 .refine ws _ ?_;exact aE (bp _ (.inl (aG [.bool false])))
 .refine aY (bX _ (.inl ?_));refine aH al (λeZ dy dw bO=>?_);refine ws _ ?_;refine bB dw (λhR hB hv b6 eg=>?_);have h1:∀(n:Nat) (ca:Int),Fe a0 R n ca=some r->du aF Q1 hR (ab [(0,.slice (a0.map cr)),(1,.slice (R.map cr)),(5,.int .i64 ca)]):=by
   intro m14;induction m14 with
   |zero=>intro ca h;cases(show none=some r from h)
   |succ m14 hC=>
    intro ca h;replace h:Pq (Fe a0 R m14) a0 R ca=some r:=h;refine dK hv (λeB cQ cj de=>?_);refine aH cj (λe4 cu cM df=>?_);refine ws _ ?_;refine aR h (λe9 h=>?_) (λe9 h=>?_)
    .refine aY (cu _ (.inl ?_));refine aH cj (λlr gU gM jM=>?_);refine bB gM (λiK fa eW iL h6=>?_);obtain⟨af,cI,h⟩:=aD h;obtain⟨ak,eb,h⟩:=aD h;obtain⟨aJ,e5,h⟩:=aD h;refine hX rfl (hY [(0,.slice (a0.map cr)),(1,.slice (R.map cr)),(5,.int .i64 ca),(26,.bool (!aJ))] (λP ai=>?_) ?_)
     .simp only[dY.down,simprocAttr,r7.down,cI,eb];refine j7 (aC_ af ak _ e5) rfl rfl rfl rfl (.inl (by rfl)) ?_;simp only[dY.down,simprocAttr,r7.down,cI,eb];refine⟨ht (by kernel_rfl),?_⟩;(try simp only[bf.down,simprocAttr,cr,cI,eb]at ai⊢);exact ai
     refine aR h (λkX h=>?_) (λkX h=>?_)
     .refine ws _ ?_;exact aE (eW _ (.inl (aG [.bool false])))
     .refine aY (fa _ (gU _ (.inl ?_)));refine wr _ ?_;exact cQ _ (.inr ⟨_,bo rfl,hC (IntKind.i64.wrap (ca+1)) h⟩)
    .refine dG (df 0 _ (de 0 _ (b6 _ (dy _ (.inl ?_)))));refine ws _ ?_;exact aE (al _ (.inl (aG [.bool true])))
  obtain⟨n,h⟩:=dC h;exact dH (.inr ⟨_,bo rfl,h1 n 0 h⟩)
theorem vL (a0:Int) (r:(List UInt8)) (h:qY a0=some r):bk aF 41 [.int .i64 a0] (.str r) []:=by
 refine bQ [] [.tmp 2] Tryz.func41 aw9 (λbI al bN=>?_);refine ws _ ?_;refine aH al (λej bX bp ak=>?_);refine ws _ ?_;refine aR h (λbD h=>?_) (λbD h=>?_)
 .refine ws _ ?_;exact aE (bp _ (.inl (aG [.str ([109,48]:List UInt8)])))
 .refine aY (bX _ (.inl ?_));refine ws _ ?_;refine aH al (λhh dU dW cx=>?_);refine bB dW (λhR hB hv b6 eg=>?_);have h1:∀(n:Nat) (kU:Int) (cG:List UInt8),tl n kU cG=some r->du aF Q2 hR (ab [(0,.int .i64 kU),(3,.str cG)]):=by
   intro m14;induction m14 with
   |zero=>intro kU cG h;cases(show none=some r from h)
   |succ m14 hC=>
    intro kU cG h;replace h:AX (tl m14) kU cG=some r:=h;refine dK hv (λeB cQ cj de=>?_);refine aH cj (λe4 cu cM df=>?_);refine ws _ ?_;refine aR h (λe9 h=>?_) (λe9 h=>?_)
    .refine aY (cu _ (.inl ?_));refine bB cj (λlr gU gM ga jM=>?_);obtain⟨u16,eY,h⟩:=aD h;(try simp only[r6.down,Nat.reduceAdd]at eY);refine cd (bJ [(0,.int .i64 kU),(3,.str ([(rn (IntKind.i64.wrap (48+(Int.tmod kU 10))))]++cG))] (λP ai=>?_) ?_)
     .simp only[aM.down,simprocAttr,YL,YM,lF, @NY .i64 10 (by decide), @CH aF 3 5 .u8 rfl rfl,(show∀s,eQ aF s 106 1 [(0,.int .u8 (IntKind.u8.wrap (IntKind.i64.wrap (48+(Int.tmod kU 10)))))]=some (.ao 1 [.int .u8 (IntKind.u8.wrap (IntKind.i64.wrap (48+(Int.tmod kU 10))))],s)from λs=>by kernel_rfl),(@NU aF 106 9 5 rfl rfl rfl).2.2,NX,NV,eY,uA,uB];(try simp only[bf.down,simprocAttr,lF, @NY .i64 10 (by decide), @CH aF 3 5 .u8 rfl rfl,(show∀s,eQ aF s 106 1 [(0,.int .u8 (IntKind.u8.wrap (IntKind.i64.wrap (48+(Int.tmod kU 10)))))]=some (.ao 1 [.int .u8 (IntKind.u8.wrap (IntKind.i64.wrap (48+(Int.tmod kU 10))))],s)from λs=>by kernel_rfl),(@NU aF 106 9 5 rfl rfl rfl).2.2,NX,NV,eY,uA,uB]at ai⊢);exact ai
     refine FK (@Xj .i64 10 (by decide)) [(0,.int .i64 (IntKind.i64.wrap (Int.tdiv kU 10))),(3,.str ([(rn (IntKind.i64.wrap (48+(Int.tmod kU 10))))]++cG))] ?_;exact gU _ (cQ _ (.inr ⟨_,bo rfl,hC (IntKind.i64.wrap (Int.tdiv kU 10)) ([(rn (IntKind.i64.wrap (48+(Int.tmod kU 10))))]++cG) h⟩))
    .refine dG (df 0 _ (de 0 _ (b6 _ (dU _ (.inl ?_)))));obtain⟨vz,e5,h⟩:=aD h;(try simp only[r6.down,Nat.reduceAdd]at e5);refine cd (bJ [(2,.str (([109]:List UInt8)++cG))] (λP ai=>?_) ?_)
     .simp only[aM.down,simprocAttr,e5,uA,uB];(try simp only[bf.down,simprocAttr,e5,uA,uB]at ai⊢);exact ai
     exact aE (al _ (.inl (aG [.str (([109]:List UInt8)++cG)])))
  obtain⟨n,h⟩:=dC h;exact dH (.inr ⟨_,bo rfl,h1 n a0 ([]:List UInt8) h⟩)
theorem aDb (a0:List b1) (R:Int) (r:Int×(List b1)) (h:Fh a0 R=some r):bk aF 99 [.ao 2 (a0.map cn),.int .i64 R] (.int .i64 r.1) [.ao 2 (r.2.map cn),.hole]:=by
 refine bQ [0] [.tmp 4] Tryz.func99 axj (λbI al bN=>?_);refine ws _ ?_;refine aH al (λej bX bp ak=>?_);refine ws _ ?_;refine bB bp (λdV eh b5 bD a8=>?_);have fq:∀(n:Nat) (bA:List b1) (aU:Int) (aK:Int),va n bA aU aK=some r->du aF Q3 dV (ab [(0,.ao 2 (bA.map cn)),(1,.int .i64 aU),(5,.int .i64 aK)]):=by
  intro m6;induction m6 with
  |zero=>intro bA aU aK h;cases(show none=some r from h)
  |succ m6 fl=>
   intro bA aU aK h;replace h:Fg (va m6) bA aU aK=some r:=h;refine dK b5 (λh2 ee dj bb=>?_);refine aH dj (λeZ dy dw bO=>?_);refine ws _ ?_;refine aR h (λb6 h=>?_) (λb6 h=>?_)
   .refine aY (dy _ (.inl ?_));refine aH dj (λeB cQ cj de=>?_);refine bB cj (λe4 cu cM dx df=>?_);obtain⟨af,er,h⟩:=aD h;refine cd (bJ [(0,.ao 2 ((List.set bA (Int.toNat aK) (b1.mk aU af.Value)).map cn)),(1,.int .i64 aU),(5,.int .i64 aK)] (λP ai=>?_) ?_)
    .simp only[aM.down,simprocAttr,oK.down,er,cR er,dN,dp];(try simp only[bf.down,simprocAttr,cn,er,cR er,dN,dp]at ai⊢);exact ai
    refine ws [(0,.ao 2 ((List.set bA (Int.toNat aK) (b1.mk aU af.Value)).map cn)),(1,.int .i64 (IntKind.i64.wrap (aU+1))),(5,.int .i64 aK)] ?_;obtain⟨ak,eY,h⟩:=aD h;refine cd (bJ [(0,.ao 2 ((List.set (List.set bA (Int.toNat aK) (b1.mk aU af.Value)) (Int.toNat aK) (b1.mk ak.Kind (IntKind.i64.wrap (aU+1)))).map cn)),(1,.int .i64 (IntKind.i64.wrap (aU+1))),(5,.int .i64 aK)] (λP ai=>?_) ?_)
    .simp only[aM.down,simprocAttr,oK.down,eY,cR eY,dN,dp];(try simp only[bf.down,simprocAttr,cn,eY,cR eY,dN,dp]at ai⊢);exact ai
    refine wr [(0,.ao 2 ((List.set (List.set bA (Int.toNat aK) (b1.mk aU af.Value)) (Int.toNat aK) (b1.mk ak.Kind (IntKind.i64.wrap (aU+1)))).map cn)),(1,.int .i64 (IntKind.i64.wrap ((IntKind.i64.wrap (aU+1))+1))),(5,.int .i64 aK)] ?_;refine cu _ (cQ _ (.inl ?_));refine wr [(0,.ao 2 ((List.set (List.set bA (Int.toNat aK) (b1.mk aU af.Value)) (Int.toNat aK) (b1.mk ak.Kind (IntKind.i64.wrap (aU+1)))).map cn)),(1,.int .i64 (IntKind.i64.wrap ((IntKind.i64.wrap (aU+1))+1))),(5,.int .i64 (IntKind.i64.wrap (aK+1)))] ?_;exact ee _ (.inr ⟨_,bo rfl,fl (List.set (List.set bA (Int.toNat aK) (b1.mk aU af.Value)) (Int.toNat aK) (b1.mk ak.Kind (IntKind.i64.wrap (aU+1)))) (IntKind.i64.wrap ((IntKind.i64.wrap (aU+1))+1)) (IntKind.i64.wrap (aK+1)) h⟩)
   .refine dG (bO 0 _ (bb 0 _ (bD _ (bX _ (.inl ?_)))));refine ws _ ?_;exact aE (al _ (.inl (pa [.int .i64 aU] rfl (by cases jO h;rfl) (by decide) (p5 (p6 (by cases jO h;rfl) rfl rfl rfl (nZ (p7)))))))
 obtain⟨n,h⟩:=dC h;exact dH (.inr ⟨_,bo rfl,fq n a0 R 0 h⟩)
theorem aDc (a0:List (List b1)) (R:Int) (r:Int×(List (List b1))) (h:Fj a0 R=some r):bk aF 78 [.ao 1 (a0.map fF),.int .i64 R] (.int .i64 r.1) [.ao 1 (r.2.map fF),.hole]:=by
 refine bQ [0] [.tmp 4] Tryz.func78 axr (λbI al bN=>?_);refine ws _ ?_;refine aH al (λej bX bp ak=>?_);refine ws _ ?_;refine bB bp (λdV eh b5 bD a8=>?_);have fq:∀(n:Nat) (bA:List (List b1)) (aU:Int) (aK:Int),vb n bA aU aK=some r->du aF Q4 dV (ab [(0,.ao 1 (bA.map fF)),(1,.int .i64 aU),(5,.int .i64 aK)]):=by
  intro m6;induction m6 with
  |zero=>intro bA aU aK h;cases(show none=some r from h)
  |succ m6 fl=>
   intro bA aU aK h;replace h:Fi (vb m6) bA aU aK=some r:=h;refine dK b5 (λh2 ee dj bb=>?_);refine aH dj (λeZ dy dw bO=>?_);refine ws _ ?_;refine aR h (λb6 h=>?_) (λb6 h=>?_)
   .refine aY (dy _ (.inl ?_));refine aH dj (λeB cQ cj de=>?_);refine bB cj (λe4 cu cM dx df=>?_);obtain⟨af,er,h⟩:=aD h;obtain⟨ak,et,h⟩:=aD h;refine ku (bJ [(0,.ao 1 ((List.set bA (Int.toNat aK) ak.2).map fF)),(1,.int .i64 ak.1),(5,.int .i64 aK)] (λP ai=>?_) ?_)
    .simp only[aM.down,simprocAttr,el,hK,gW,gJ,cn,fF,er,cR er];refine s3 [⟨.h 0 [Int.toNat aK],true,_,_⟩,⟨.int .i64 aU,false,_,.hole⟩] (aDb af aU _ et) rfl rfl rfl (by simp only[aM.down,simprocAttr,el,hK,gW,gJ,cn,fF,er,cR er,nX,kv,hq,hr,hs,dI,or_true,true_or, @cm _ cn cn (λ_=>JL _)]) rfl rfl (.inl rfl) ?_;simp only[aM.down,simprocAttr,el,hK,gW,gJ,cn,fF,er,cR er,nY,(CP (cR er)),CQ];(try simp only[bf.down,simprocAttr,cn,fF,er,cR er]at ai⊢);exact ai
    refine cu _ (cQ _ (.inl ?_));refine wr [(0,.ao 1 ((List.set bA (Int.toNat aK) ak.2).map fF)),(1,.int .i64 ak.1),(5,.int .i64 (IntKind.i64.wrap (aK+1)))] ?_;exact ee _ (.inr ⟨_,bo rfl,fl (List.set bA (Int.toNat aK) ak.2) ak.1 (IntKind.i64.wrap (aK+1)) h⟩)
   .refine dG (bO 0 _ (bb 0 _ (bD _ (bX _ (.inl ?_)))));refine ws _ ?_;exact aE (al _ (.inl (pa [.int .i64 aU] rfl (by cases jO h;rfl) (by decide) (p5 (p6 (by cases jO h;rfl) rfl rfl rfl (nZ (p7)))))))
 obtain⟨n,h⟩:=dC h;exact dH (.inr ⟨_,bo rfl,fq n a0 R 0 h⟩)
theorem aDd (a0:List bH) (R:Int) (r:Int×(List bH)) (h:Fl a0 R=some r):bk aF 58 [.ao 4 (a0.map fw),.int .i64 R] (.int .i64 r.1) [.ao 4 (r.2.map fw),.hole]:=by
 refine bQ [0] [.tmp 4] Tryz.func58 axF (λbI al bN=>?_);refine ws _ ?_;refine aH al (λej bX bp ak=>?_);refine ws _ ?_;refine bB bp (λdV eh b5 bD a8=>?_);have fq:∀(n:Nat) (bA:List bH) (aU:Int) (aK:Int),vc n bA aU aK=some r->du aF Q5 dV (ab [(0,.ao 4 (bA.map fw)),(1,.int .i64 aU),(5,.int .i64 aK)]):=by
  intro m6;induction m6 with
  |zero=>intro bA aU aK h;cases(show none=some r from h)
  |succ m6 fl=>
   intro bA aU aK h;replace h:Fk (vc m6) bA aU aK=some r:=h;refine dK b5 (λh2 ee dj bb=>?_);refine aH dj (λeZ dy dw bO=>?_);refine ws _ ?_;refine aR h (λb6 h=>?_) (λb6 h=>?_)
   .refine aY (dy _ (.inl ?_));refine aH dj (λeB cQ cj de=>?_);refine bB cj (λe4 cu cM dx df=>?_);obtain⟨af,er,h⟩:=aD h;refine cd (bJ [(0,.ao 4 ((List.set bA (Int.toNat aK) (bH.mk aU af.Number af.Name af.cN)).map fw)),(1,.int .i64 aU),(5,.int .i64 aK)] (λP ai=>?_) ?_)
    .simp only[aM.down,simprocAttr,vy.down,er,cR er,dN,dp];(try simp only[bf.down,simprocAttr,FQ.down,er,cR er,dN,dp]at ai⊢);exact ai
    refine ws [(0,.ao 4 ((List.set bA (Int.toNat aK) (bH.mk aU af.Number af.Name af.cN)).map fw)),(1,.int .i64 (IntKind.i64.wrap (aU+1))),(5,.int .i64 aK)] ?_;obtain⟨ak,eY,h⟩:=aD h;refine cd (bJ [(0,.ao 4 ((List.set (List.set bA (Int.toNat aK) (bH.mk aU af.Number af.Name af.cN)) (Int.toNat aK) (bH.mk ak.Kind (IntKind.i64.wrap (aU+1)) ak.Name ak.cN)).map fw)),(1,.int .i64 (IntKind.i64.wrap (aU+1))),(5,.int .i64 aK)] (λP ai=>?_) ?_)
    .simp only[aM.down,simprocAttr,vy.down,eY,cR eY,dN,dp];(try simp only[bf.down,simprocAttr,FQ.down,eY,cR eY,dN,dp]at ai⊢);exact ai
    refine ws [(0,.ao 4 ((List.set (List.set bA (Int.toNat aK) (bH.mk aU af.Number af.Name af.cN)) (Int.toNat aK) (bH.mk ak.Kind (IntKind.i64.wrap (aU+1)) ak.Name ak.cN)).map fw)),(1,.int .i64 (IntKind.i64.wrap ((IntKind.i64.wrap (aU+1))+1))),(5,.int .i64 aK)] ?_;obtain⟨aJ,e5,h⟩:=aD h;obtain⟨a8,gV,h⟩:=aD h;refine cd (bJ [(0,.ao 4 ((List.set (List.set (List.set bA (Int.toNat aK) (bH.mk aU af.Number af.Name af.cN)) (Int.toNat aK) (bH.mk ak.Kind (IntKind.i64.wrap (aU+1)) ak.Name ak.cN)) (Int.toNat aK) (bH.mk a8.Kind a8.Number aJ a8.cN)).map fw)),(1,.int .i64 (IntKind.i64.wrap ((IntKind.i64.wrap (aU+1))+1))),(5,.int .i64 aK)] (λP ai=>?_) ?_)
    .simp only[aM.down,simprocAttr,vy.down,gV,cR gV,dN,dp];refine ez (vL (IntKind.i64.wrap ((IntKind.i64.wrap (aU+1))+1)) _ e5) rfl rfl rfl rfl (.inl (by rfl)) ?_;simp only[aM.down,simprocAttr,vy.down,gV,cR gV,dN,dp];(try simp only[bf.down,simprocAttr,FQ.down,gV,cR gV,dN,dp]at ai⊢);exact ai
    refine ws [(0,.ao 4 ((List.set (List.set (List.set bA (Int.toNat aK) (bH.mk aU af.Number af.Name af.cN)) (Int.toNat aK) (bH.mk ak.Kind (IntKind.i64.wrap (aU+1)) ak.Name ak.cN)) (Int.toNat aK) (bH.mk a8.Kind a8.Number aJ a8.cN)).map fw)),(1,.int .i64 (IntKind.i64.wrap ((IntKind.i64.wrap ((IntKind.i64.wrap (aU+1))+1))+1))),(5,.int .i64 aK)] ?_;obtain⟨bb,gb,h⟩:=aD h;obtain⟨bO,l7,h⟩:=aD h;refine ku (bJ [(0,.ao 4 ((List.set (List.set (List.set (List.set bA (Int.toNat aK) (bH.mk aU af.Number af.Name af.cN)) (Int.toNat aK) (bH.mk ak.Kind (IntKind.i64.wrap (aU+1)) ak.Name ak.cN)) (Int.toNat aK) (bH.mk a8.Kind a8.Number aJ a8.cN)) (Int.toNat aK) (bH.mk bb.Kind bb.Number bb.Name bO.2)).map fw)),(1,.int .i64 bO.1),(5,.int .i64 aK)] (λP ai=>?_) ?_)
    .simp only[aM.down,simprocAttr,vy.down,gb,cR gb];refine s3 [⟨.h 0 [Int.toNat aK,3],true,_,_⟩,⟨.int .i64 (IntKind.i64.wrap ((IntKind.i64.wrap ((IntKind.i64.wrap (aU+1))+1))+1)),false,_,.hole⟩] (aDc bb.cN (IntKind.i64.wrap ((IntKind.i64.wrap ((IntKind.i64.wrap (aU+1))+1))+1)) _ l7) rfl rfl rfl (by simp only[aM.down,simprocAttr,vy.down,gb,cR gb,nX,kv,hq,hr,hs,dI,or_true,true_or, @cm _ fF fj (λ_=>JO _)]) rfl rfl (.inl rfl) ?_;simp only[aM.down,simprocAttr,vy.down,gb,cR gb,nY,(CP (cR gb)),CQ];(try simp only[bf.down,simprocAttr,FQ.down,gb,cR gb]at ai⊢);exact ai
    refine cu _ (cQ _ (.inl ?_));refine wr [(0,.ao 4 ((List.set (List.set (List.set (List.set bA (Int.toNat aK) (bH.mk aU af.Number af.Name af.cN)) (Int.toNat aK) (bH.mk ak.Kind (IntKind.i64.wrap (aU+1)) ak.Name ak.cN)) (Int.toNat aK) (bH.mk a8.Kind a8.Number aJ a8.cN)) (Int.toNat aK) (bH.mk bb.Kind bb.Number bb.Name bO.2)).map fw)),(1,.int .i64 bO.1),(5,.int .i64 (IntKind.i64.wrap (aK+1)))] ?_;exact ee _ (.inr ⟨_,bo rfl,fl (List.set (List.set (List.set (List.set bA (Int.toNat aK) (bH.mk aU af.Number af.Name af.cN)) (Int.toNat aK) (bH.mk ak.Kind (IntKind.i64.wrap (aU+1)) ak.Name ak.cN)) (Int.toNat aK) (bH.mk a8.Kind a8.Number aJ a8.cN)) (Int.toNat aK) (bH.mk bb.Kind bb.Number bb.Name bO.2)) bO.1 (IntKind.i64.wrap (aK+1)) h⟩)
   .refine dG (bO 0 _ (bb 0 _ (bD _ (bX _ (.inl ?_)))));refine ws _ ?_;exact aE (al _ (.inl (pa [.int .i64 aU] rfl (by cases jO h;rfl) (by decide) (p5 (p6 (by cases jO h;rfl) rfl rfl rfl (nZ (p7)))))))
 obtain⟨n,h⟩:=dC h;exact dH (.inr ⟨_,bo rfl,fq n a0 R 0 h⟩)
theorem aDe (a0:List bs) (R:Int) (r:Int×(List bs)) (h:Fo a0 R=some r):bk aF 37 [.ao 3 (a0.map e8),.int .i64 R] (.int .i64 r.1) [.ao 3 (r.2.map e8),.hole]:=by
 refine bQ [0] [.tmp 4] Tryz.func37 axQ (λbI al bN=>?_);refine ws _ ?_;refine aH al (λej bX bp ak=>?_);refine ws _ ?_;refine bB bp (λdV eh b5 bD a8=>?_);have fq:∀(n:Nat) (bA:List bs) (aU:Int) (aK:Int),vd n bA aU aK=some r->du aF Q6 dV (ab [(0,.ao 3 (bA.map e8)),(1,.int .i64 aU),(5,.int .i64 aK)]):=by
  intro m6;induction m6 with
  |zero=>intro bA aU aK h;cases(show none=some r from h)
  |succ m6 fl=>
   intro bA aU aK h;replace h:Fm (vd m6) bA aU aK=some r:=h;refine dK b5 (λh2 ee dj bb=>?_);refine aH dj (λeZ dy dw bO=>?_);refine ws _ ?_;refine aR h (λb6 h=>?_) (λb6 h=>?_)
   .refine aY (dy _ (.inl ?_));refine aH dj (λeB cQ cj de=>?_);refine bB cj (λe4 cu cM dx df=>?_);obtain⟨af,er,h⟩:=aD h;obtain⟨ak,et,h⟩:=aD h;refine cd (bJ [(0,.ao 3 ((List.set bA (Int.toNat aK) (bs.mk af ak.dE ak.Body)).map e8)),(1,.int .i64 aU),(5,.int .i64 aK)] (λP ai=>?_) ?_)
    .simp only[aM.down,simprocAttr,x6.down,et,cR et,dN,dp];refine ez (vL aU _ er) rfl rfl rfl rfl (.inl (by rfl)) ?_;simp only[aM.down,simprocAttr,x6.down,et,cR et,dN,dp];(try simp only[bf.down,simprocAttr,cn,e8,fw,fF,et,cR et,dN,dp]at ai⊢);exact ai
    refine ws [(0,.ao 3 ((List.set bA (Int.toNat aK) (bs.mk af ak.dE ak.Body)).map e8)),(1,.int .i64 (IntKind.i64.wrap (aU+1))),(5,.int .i64 aK)] ?_;obtain⟨aJ,cI,h⟩:=aD h;refine cd (bJ [(0,.ao 3 ((List.set (List.set bA (Int.toNat aK) (bs.mk af ak.dE ak.Body)) (Int.toNat aK) (bs.mk aJ.Name (IntKind.i64.wrap (aU+1)) aJ.Body)).map e8)),(1,.int .i64 (IntKind.i64.wrap (aU+1))),(5,.int .i64 aK)] (λP ai=>?_) ?_)
    .simp only[aM.down,simprocAttr,x6.down,cI,cR cI,dN,dp];(try simp only[bf.down,simprocAttr,cn,e8,fw,fF,cI,cR cI,dN,dp]at ai⊢);exact ai
    refine ws [(0,.ao 3 ((List.set (List.set bA (Int.toNat aK) (bs.mk af ak.dE ak.Body)) (Int.toNat aK) (bs.mk aJ.Name (IntKind.i64.wrap (aU+1)) aJ.Body)).map e8)),(1,.int .i64 (IntKind.i64.wrap ((IntKind.i64.wrap (aU+1))+1))),(5,.int .i64 aK)] ?_;obtain⟨a8,gV,h⟩:=aD h;obtain⟨bb,iq,h⟩:=aD h;refine ku (bJ [(0,.ao 3 ((List.set (List.set (List.set bA (Int.toNat aK) (bs.mk af ak.dE ak.Body)) (Int.toNat aK) (bs.mk aJ.Name (IntKind.i64.wrap (aU+1)) aJ.Body)) (Int.toNat aK) (bs.mk a8.Name a8.dE bb.2)).map e8)),(1,.int .i64 bb.1),(5,.int .i64 aK)] (λP ai=>?_) ?_)
    .simp only[aM.down,simprocAttr,x6.down,gV,cR gV];refine s3 [⟨.h 0 [Int.toNat aK,2],true,_,_⟩,⟨.int .i64 (IntKind.i64.wrap ((IntKind.i64.wrap (aU+1))+1)),false,_,.hole⟩] (aDd a8.Body (IntKind.i64.wrap ((IntKind.i64.wrap (aU+1))+1)) _ iq) rfl rfl rfl (by simp only[aM.down,simprocAttr,x6.down,gV,cR gV,nX,kv,hq,hr,hs,dI,or_true,true_or, @cm _ fw cX (λ_=>JP _)]) rfl rfl (.inl rfl) ?_;simp only[aM.down,simprocAttr,x6.down,gV,cR gV,nY,(CP (cR gV)),CQ];(try simp only[bf.down,simprocAttr,cn,e8,fw,fF,gV,cR gV]at ai⊢);exact ai
    refine cu _ (cQ _ (.inl ?_));refine wr [(0,.ao 3 ((List.set (List.set (List.set bA (Int.toNat aK) (bs.mk af ak.dE ak.Body)) (Int.toNat aK) (bs.mk aJ.Name (IntKind.i64.wrap (aU+1)) aJ.Body)) (Int.toNat aK) (bs.mk a8.Name a8.dE bb.2)).map e8)),(1,.int .i64 bb.1),(5,.int .i64 (IntKind.i64.wrap (aK+1)))] ?_;exact ee _ (.inr ⟨_,bo rfl,fl (List.set (List.set (List.set bA (Int.toNat aK) (bs.mk af ak.dE ak.Body)) (Int.toNat aK) (bs.mk aJ.Name (IntKind.i64.wrap (aU+1)) aJ.Body)) (Int.toNat aK) (bs.mk a8.Name a8.dE bb.2)) bb.1 (IntKind.i64.wrap (aK+1)) h⟩)
   .refine dG (bO 0 _ (bb 0 _ (bD _ (bX _ (.inl ?_)))));refine ws _ ?_;exact aE (al _ (.inl (pa [.int .i64 aU] rfl (by cases jO h;rfl) (by decide) (p5 (p6 (by cases jO h;rfl) rfl rfl rfl (nZ (p7)))))))
 obtain⟨n,h⟩:=dC h;exact dH (.inr ⟨_,bo rfl,fq n a0 R 0 h⟩)
theorem R5 (a0:List Int) (R:Int) (r:Int×(List Int)) (h:AY a0 R=some r):bk aF 15 [.ao 1 (a0.map a1),.int .i64 R] (.int .i64 r.1) [.ao 1 (r.2.map a1),.hole]:=by
 refine bQ [0] [.tmp 4] Tryz.func15 x2 (λbI al bN=>?_);refine ws _ ?_;refine aH al (λej bX bp ak=>?_);refine ws _ ?_;refine bB bp (λdV eh b5 bD a8=>?_);have fq:∀(n:Nat) (bA:List Int) (aU:Int) (aK:Int),ve n bA aU aK=some r->du aF Q7 dV (ab [(0,.ao 1 (bA.map a1)),(1,.int .i64 aU),(5,.int .i64 aK)]):=by
  intro m6;induction m6 with
  |zero=>intro bA aU aK h;cases(show none=some r from h)
  |succ m6 fl=>
   intro bA aU aK h;replace h:Fp (ve m6) bA aU aK=some r:=h;refine dK b5 (λh2 ee dj bb=>?_);refine aH dj (λeZ dy dw bO=>?_);refine ws _ ?_;refine aR h (λb6 h=>?_) (λb6 h=>?_)
   .refine aY (dy _ (.inl ?_));refine aH dj (λeB cQ cj de=>?_);refine bB cj (λe4 cu cM dx df=>?_);obtain⟨af,er,h⟩:=aD h;refine cd (bJ [(0,.ao 1 ((List.set bA (Int.toNat aK) aU).map a1)),(1,.int .i64 aU),(5,.int .i64 aK)] (λP ai=>?_) ?_)
    .simp only[aM.down,simprocAttr,el,jd,a1,er,cR er,dN,dp];(try simp only[bf.down,simprocAttr,a1,er,cR er,dN,dp]at ai⊢);exact ai
    refine wr [(0,.ao 1 ((List.set bA (Int.toNat aK) aU).map a1)),(1,.int .i64 (IntKind.i64.wrap (aU+1))),(5,.int .i64 aK)] ?_;refine cu _ (cQ _ (.inl ?_));refine wr [(0,.ao 1 ((List.set bA (Int.toNat aK) aU).map a1)),(1,.int .i64 (IntKind.i64.wrap (aU+1))),(5,.int .i64 (IntKind.i64.wrap (aK+1)))] ?_;exact ee _ (.inr ⟨_,bo rfl,fl (List.set bA (Int.toNat aK) aU) (IntKind.i64.wrap (aU+1)) (IntKind.i64.wrap (aK+1)) h⟩)
   .refine dG (bO 0 _ (bb 0 _ (bD _ (bX _ (.inl ?_)))));refine ws _ ?_;exact aE (al _ (.inl (pa [.int .i64 aU] rfl (by cases jO h;rfl) (by decide) (p5 (p6 (by cases jO h;rfl) rfl rfl rfl (nZ (p7)))))))
 obtain⟨n,h⟩:=dC h;exact dH (.inr ⟨_,bo rfl,fq n a0 R 0 h⟩)
theorem aDf (a0:List dr) (R:Int) (r:Int×(List dr)) (h:Fs a0 R=some r):bk aF 38 [.ao 2 (a0.map fk),.int .i64 R] (.int .i64 r.1) [.ao 2 (r.2.map fk),.hole]:=by
 refine bQ [0] [.tmp 4] Tryz.func38 ax8 (λbI al bN=>?_);refine ws _ ?_;refine aH al (λej bX bp ak=>?_);refine ws _ ?_;refine bB bp (λdV eh b5 bD a8=>?_);have fq:∀(n:Nat) (bA:List dr) (aU:Int) (aK:Int),vf n bA aU aK=some r->du aF Q8 dV (ab [(0,.ao 2 (bA.map fk)),(1,.int .i64 aU),(5,.int .i64 aK)]):=by
  intro m6;induction m6 with
  |zero=>intro bA aU aK h;cases(show none=some r from h)
  |succ m6 fl=>
   intro bA aU aK h;replace h:Fq (vf m6) bA aU aK=some r:=h;refine dK b5 (λh2 ee dj bb=>?_);refine aH dj (λeZ dy dw bO=>?_);refine ws _ ?_;refine aR h (λb6 h=>?_) (λb6 h=>?_)
   .refine aY (dy _ (.inl ?_));refine aH dj (λeB cQ cj de=>?_);refine bB cj (λe4 cu cM dx df=>?_);obtain⟨af,er,h⟩:=aD h;refine cd (bJ [(0,.ao 2 ((List.set bA (Int.toNat aK) (dr.mk aU af.fE)).map fk)),(1,.int .i64 aU),(5,.int .i64 aK)] (λP ai=>?_) ?_)
    .simp only[aM.down,simprocAttr,FR.down,er,cR er,dN,dp];(try simp only[bf.down,simprocAttr,a1,fk,er,cR er,dN,dp]at ai⊢);exact ai
    refine ws [(0,.ao 2 ((List.set bA (Int.toNat aK) (dr.mk aU af.fE)).map fk)),(1,.int .i64 (IntKind.i64.wrap (aU+1))),(5,.int .i64 aK)] ?_;obtain⟨ak,eY,h⟩:=aD h;obtain⟨aJ,cI,h⟩:=aD h;refine ku (bJ [(0,.ao 2 ((List.set (List.set bA (Int.toNat aK) (dr.mk aU af.fE)) (Int.toNat aK) (dr.mk ak.hM aJ.2)).map fk)),(1,.int .i64 aJ.1),(5,.int .i64 aK)] (λP ai=>?_) ?_)
    .simp only[aM.down,simprocAttr,FR.down,eY,cR eY];refine s3 [⟨.h 0 [Int.toNat aK,1],true,_,_⟩,⟨.int .i64 (IntKind.i64.wrap (aU+1)),false,_,.hole⟩] (R5 ak.fE (IntKind.i64.wrap (aU+1)) _ cI) rfl rfl rfl (by simp only[aM.down,simprocAttr,FR.down,eY,cR eY,nX,kv,hq,hr,hs,dI,or_true,true_or, @cm _ a1 a1 (λ_=>ky _)]) rfl rfl (.inl rfl) ?_;simp only[aM.down,simprocAttr,FR.down,eY,cR eY,nY,(CP (cR eY)),CQ];(try simp only[bf.down,simprocAttr,a1,fk,eY,cR eY]at ai⊢);exact ai
    refine cu _ (cQ _ (.inl ?_));refine wr [(0,.ao 2 ((List.set (List.set bA (Int.toNat aK) (dr.mk aU af.fE)) (Int.toNat aK) (dr.mk ak.hM aJ.2)).map fk)),(1,.int .i64 aJ.1),(5,.int .i64 (IntKind.i64.wrap (aK+1)))] ?_;exact ee _ (.inr ⟨_,bo rfl,fl (List.set (List.set bA (Int.toNat aK) (dr.mk aU af.fE)) (Int.toNat aK) (dr.mk ak.hM aJ.2)) aJ.1 (IntKind.i64.wrap (aK+1)) h⟩)
   .refine dG (bO 0 _ (bb 0 _ (bD _ (bX _ (.inl ?_)))));refine ws _ ?_;exact aE (al _ (.inl (pa [.int .i64 aU] rfl (by cases jO h;rfl) (by decide) (p5 (p6 (by cases jO h;rfl) rfl rfl rfl (nZ (p7)))))))
 obtain⟨n,h⟩:=dC h;exact dH (.inr ⟨_,bo rfl,fq n a0 R 0 h⟩)
theorem aDg (a0:List b9) (R:Int) (r:Int×(List b9)) (h:Fu a0 R=some r):bk aF 39 [.ao 3 (a0.map bC),.int .i64 R] (.int .i64 r.1) [.ao 3 (r.2.map bC),.hole]:=by
 refine bQ [0] [.tmp 4] Tryz.func39 ayk (λbI al bN=>?_);refine ws _ ?_;refine aH al (λej bX bp ak=>?_);refine ws _ ?_;refine bB bp (λdV eh b5 bD a8=>?_);have fq:∀(n:Nat) (bA:List b9) (aU:Int) (aK:Int),vg n bA aU aK=some r->du aF Q9 dV (ab [(0,.ao 3 (bA.map bC)),(1,.int .i64 aU),(5,.int .i64 aK)]):=by
  intro m6;induction m6 with
  |zero=>intro bA aU aK h;cases(show none=some r from h)
  |succ m6 fl=>
   intro bA aU aK h;replace h:Ft (vg m6) bA aU aK=some r:=h;refine dK b5 (λh2 ee dj bb=>?_);refine aH dj (λeZ dy dw bO=>?_);refine ws _ ?_;refine aR h (λb6 h=>?_) (λb6 h=>?_)
   .refine aY (dy _ (.inl ?_));refine aH dj (λeB cQ cj de=>?_);refine bB cj (λe4 cu cM dx df=>?_);obtain⟨af,er,h⟩:=aD h;obtain⟨ak,et,h⟩:=aD h;refine cd (bJ [(0,.ao 3 ((List.set bA (Int.toNat aK) (b9.mk af ak.ch ak.Result)).map bC)),(1,.int .i64 aU),(5,.int .i64 aK)] (λP ai=>?_) ?_)
    .simp only[aM.down,simprocAttr,hP.down,et,cR et,dN,dp];refine ez (vL aU _ er) rfl rfl rfl rfl (.inl (by rfl)) ?_;simp only[aM.down,simprocAttr,hP.down,et,cR et,dN,dp];(try simp only[bf.down,simprocAttr,bC,et,cR et,dN,dp]at ai⊢);exact ai
    refine ws [(0,.ao 3 ((List.set bA (Int.toNat aK) (b9.mk af ak.ch ak.Result)).map bC)),(1,.int .i64 (IntKind.i64.wrap (aU+1))),(5,.int .i64 aK)] ?_;obtain⟨aJ,cI,h⟩:=aD h;obtain⟨a8,eb,h⟩:=aD h;refine cd (bJ [(0,.ao 3 ((List.set (List.set bA (Int.toNat aK) (b9.mk af ak.ch ak.Result)) (Int.toNat aK) (b9.mk a8.Left aJ a8.Result)).map bC)),(1,.int .i64 (IntKind.i64.wrap (aU+1))),(5,.int .i64 aK)] (λP ai=>?_) ?_)
    .simp only[aM.down,simprocAttr,hP.down,eb,cR eb,dN,dp];refine ez (vL (IntKind.i64.wrap (aU+1)) _ cI) rfl rfl rfl rfl (.inl (by rfl)) ?_;simp only[aM.down,simprocAttr,hP.down,eb,cR eb,dN,dp];(try simp only[bf.down,simprocAttr,bC,eb,cR eb,dN,dp]at ai⊢);exact ai
    refine ws [(0,.ao 3 ((List.set (List.set bA (Int.toNat aK) (b9.mk af ak.ch ak.Result)) (Int.toNat aK) (b9.mk a8.Left aJ a8.Result)).map bC)),(1,.int .i64 (IntKind.i64.wrap ((IntKind.i64.wrap (aU+1))+1))),(5,.int .i64 aK)] ?_;obtain⟨bb,iq,h⟩:=aD h;obtain⟨bO,kk,h⟩:=aD h;refine cd (bJ [(0,.ao 3 ((List.set (List.set (List.set bA (Int.toNat aK) (b9.mk af ak.ch ak.Result)) (Int.toNat aK) (b9.mk a8.Left aJ a8.Result)) (Int.toNat aK) (b9.mk bO.Left bO.ch bb)).map bC)),(1,.int .i64 (IntKind.i64.wrap ((IntKind.i64.wrap (aU+1))+1))),(5,.int .i64 aK)] (λP ai=>?_) ?_)
    .simp only[aM.down,simprocAttr,hP.down,kk,cR kk,dN,dp];refine ez (vL (IntKind.i64.wrap ((IntKind.i64.wrap (aU+1))+1)) _ iq) rfl rfl rfl rfl (.inl (by rfl)) ?_;simp only[aM.down,simprocAttr,hP.down,kk,cR kk,dN,dp];(try simp only[bf.down,simprocAttr,bC,kk,cR kk,dN,dp]at ai⊢);exact ai
    refine wr [(0,.ao 3 ((List.set (List.set (List.set bA (Int.toNat aK) (b9.mk af ak.ch ak.Result)) (Int.toNat aK) (b9.mk a8.Left aJ a8.Result)) (Int.toNat aK) (b9.mk bO.Left bO.ch bb)).map bC)),(1,.int .i64 (IntKind.i64.wrap ((IntKind.i64.wrap ((IntKind.i64.wrap (aU+1))+1))+1))),(5,.int .i64 aK)] ?_;refine cu _ (cQ _ (.inl ?_));refine wr [(0,.ao 3 ((List.set (List.set (List.set bA (Int.toNat aK) (b9.mk af ak.ch ak.Result)) (Int.toNat aK) (b9.mk a8.Left aJ a8.Result)) (Int.toNat aK) (b9.mk bO.Left bO.ch bb)).map bC)),(1,.int .i64 (IntKind.i64.wrap ((IntKind.i64.wrap ((IntKind.i64.wrap (aU+1))+1))+1))),(5,.int .i64 (IntKind.i64.wrap (aK+1)))] ?_;exact ee _ (.inr ⟨_,bo rfl,fl (List.set (List.set (List.set bA (Int.toNat aK) (b9.mk af ak.ch ak.Result)) (Int.toNat aK) (b9.mk a8.Left aJ a8.Result)) (Int.toNat aK) (b9.mk bO.Left bO.ch bb)) (IntKind.i64.wrap ((IntKind.i64.wrap ((IntKind.i64.wrap (aU+1))+1))+1)) (IntKind.i64.wrap (aK+1)) h⟩)
   .refine dG (bO 0 _ (bb 0 _ (bD _ (bX _ (.inl ?_)))));refine ws _ ?_;exact aE (al _ (.inl (pa [.int .i64 aU] rfl (by cases jO h;rfl) (by decide) (p5 (p6 (by cases jO h;rfl) rfl rfl rfl (nZ (p7)))))))
 obtain⟨n,h⟩:=dC h;exact dH (.inr ⟨_,bo rfl,fq n a0 R 0 h⟩)
theorem R6 (a0:List (List UInt8)) (R:Int) (r:Int×(List (List UInt8))) (h:AZ a0 R=some r):bk aF 40 [.ao 1 (a0.map bd),.int .i64 R] (.int .i64 r.1) [.ao 1 (r.2.map bd),.hole]:=by
 refine bQ [0] [.tmp 4] Tryz.func40 ays (λbI al bN=>?_);refine ws _ ?_;refine aH al (λej bX bp ak=>?_);refine ws _ ?_;refine bB bp (λdV eh b5 bD a8=>?_);have fq:∀(n:Nat) (bA:List (List UInt8)) (aU:Int) (aK:Int),vh n bA aU aK=some r->du aF Q_ dV (ab [(0,.ao 1 (bA.map bd)),(1,.int .i64 aU),(5,.int .i64 aK)]):=by
  intro m6;induction m6 with
  |zero=>intro bA aU aK h;cases(show none=some r from h)
  |succ m6 fl=>
   intro bA aU aK h;replace h:Fv (vh m6) bA aU aK=some r:=h;refine dK b5 (λh2 ee dj bb=>?_);refine aH dj (λeZ dy dw bO=>?_);refine ws _ ?_;refine aR h (λb6 h=>?_) (λb6 h=>?_)
   .refine aY (dy _ (.inl ?_));refine aH dj (λeB cQ cj de=>?_);refine bB cj (λe4 cu cM dx df=>?_);obtain⟨af,er,h⟩:=aD h;obtain⟨ak,et,h⟩:=aD h;refine cd (bJ [(0,.ao 1 ((List.set bA (Int.toNat aK) af).map bd)),(1,.int .i64 aU),(5,.int .i64 aK)] (λP ai=>?_) ?_)
    .simp only[aM.down,simprocAttr,n5.down,et,cR et,dN,dp];refine ez (vL aU _ er) rfl rfl rfl rfl (.inl (by rfl)) ?_;simp only[aM.down,simprocAttr,n5.down,et,cR et,dN,dp];(try simp only[bf.down,simprocAttr,bd,et,cR et,dN,dp]at ai⊢);exact ai
    refine wr [(0,.ao 1 ((List.set bA (Int.toNat aK) af).map bd)),(1,.int .i64 (IntKind.i64.wrap (aU+1))),(5,.int .i64 aK)] ?_;refine cu _ (cQ _ (.inl ?_));refine wr [(0,.ao 1 ((List.set bA (Int.toNat aK) af).map bd)),(1,.int .i64 (IntKind.i64.wrap (aU+1))),(5,.int .i64 (IntKind.i64.wrap (aK+1)))] ?_;exact ee _ (.inr ⟨_,bo rfl,fl (List.set bA (Int.toNat aK) af) (IntKind.i64.wrap (aU+1)) (IntKind.i64.wrap (aK+1)) h⟩)
   .refine dG (bO 0 _ (bb 0 _ (bD _ (bX _ (.inl ?_)))));refine ws _ ?_;exact aE (al _ (.inl (pa [.int .i64 aU] rfl (by cases jO h;rfl) (by decide) (p5 (p6 (by cases jO h;rfl) rfl rfl rfl (nZ (p7)))))))
 obtain⟨n,h⟩:=dC h;exact dH (.inr ⟨_,bo rfl,fq n a0 R 0 h⟩)
theorem aDh (xX:List bs) (vi:List dr) (tm:List b9) (r2:List (List UInt8)) (qZ:List (List UInt8)) (R:Int) (r:Int×(List bs)×(List dr)×(List b9)×(List (List UInt8))×(List (List UInt8))) (h:Fw xX vi tm r2 qZ R=some r):bk aF 13 [.agg [.ao 3 (xX.map e8),.ao 2 (vi.map fk),.ao 3 (tm.map bC),.ao 1 (r2.map bd),.ao 1 (qZ.map bd)],.int .i64 R] (.int .i64 r.1) [.agg [.ao 3 (r.2.1.map e8),.ao 2 (r.2.2.1.map fk),.ao 3 (r.2.2.2.1.map bC),.ao 1 (r.2.2.2.2.1.map bd),.ao 1 (r.2.2.2.2.2.map bd)],.hole]:=by
 refine bQ [0] [.tmp 4] Tryz.func13 x3 (λbI al bN=>?_);refine cd (bJ [(0,.agg [.ao 3 (xX.map e8),.ao 2 (vi.map fk),.ao 3 (tm.map bC),.ao 1 (r2.map bd),.ao 1 (qZ.map bd)]),(1,.int .i64 R),(2,.ad 0 0)] (λP ai=>?_) ?_)
 .simp only[aM.down,simprocAttr,lq.down,jG,jI,I.ef,jH];(try simp only[bf.down,simprocAttr,x7.down,jG,jI,I.ef,jH]at ai⊢);exact ai
 obtain⟨af,aQ,h⟩:=aD h;refine cd (bJ [(0,.agg [.ao 3 (af.2.map e8),.ao 2 (vi.map fk),.ao 3 (tm.map bC),.ao 1 (r2.map bd),.ao 1 (qZ.map bd)]),(1,.int .i64 af.1),(2,.ad 0 0)] (λP ai=>?_) ?_)
 .simp only[aM.down,simprocAttr,lq.down,jG,jI,I.ef,jH];refine CL [⟨.h 0 [0],true,_,_⟩,⟨.int .i64 R,false,_,.hole⟩] (aDe xX R _ aQ) rfl rfl rfl (by simp only[aM.down,simprocAttr,lq.down,jG,jI,I.ef,jH,p4,nX,kv,hq,hr,hs,dI,or_true,true_or, @cm _ e8 bP (λ_=>r3 _)]) rfl rfl (.inl rfl) (by simp only[aM.down,simprocAttr,lq.down,jG,jI,I.ef,jH,s0,kv,xh,Bool.and_self,Bool.not_false,Bool.and_true]) ?_;simp only[aM.down,simprocAttr,lq.down,jG,jI,I.ef,jH,nY,s0,kv,eq_self,Bool.and_self];(try simp only[bf.down,simprocAttr,x7.down,jG,jI,I.ef,jH]at ai⊢);exact ai
 obtain⟨ak,cF,h⟩:=aD h;refine cd (bJ [(0,.agg [.ao 3 (af.2.map e8),.ao 2 (ak.2.map fk),.ao 3 (tm.map bC),.ao 1 (r2.map bd),.ao 1 (qZ.map bd)]),(1,.int .i64 ak.1),(2,.ad 0 0)] (λP ai=>?_) ?_)
 .simp only[aM.down,simprocAttr,lq.down,jG,jI,I.ef,jH];refine CL [⟨.h 0 [1],true,_,_⟩,⟨.int .i64 af.1,false,_,.hole⟩] (aDf vi af.1 _ cF) rfl rfl rfl (by simp only[aM.down,simprocAttr,lq.down,jG,jI,I.ef,jH,p4,nX,kv,hq,hr,hs,dI,or_true,true_or, @cm _ fk fN (λ_=>r4 _)]) rfl rfl (.inl rfl) (by simp only[aM.down,simprocAttr,lq.down,jG,jI,I.ef,jH,s0,kv,xh,Bool.and_self,Bool.not_false,Bool.and_true]) ?_;simp only[aM.down,simprocAttr,lq.down,jG,jI,I.ef,jH,nY,s0,kv,eq_self,Bool.and_self];(try simp only[bf.down,simprocAttr,x7.down,jG,jI,I.ef,jH]at ai⊢);exact ai
 obtain⟨aJ,b4,h⟩:=aD h;refine cd (bJ [(0,.agg [.ao 3 (af.2.map e8),.ao 2 (ak.2.map fk),.ao 3 (aJ.2.map bC),.ao 1 (r2.map bd),.ao 1 (qZ.map bd)]),(1,.int .i64 aJ.1),(2,.ad 0 0)] (λP ai=>?_) ?_)
 .simp only[aM.down,simprocAttr,lq.down,jG,jI,I.ef,jH];refine CL [⟨.h 0 [2],true,_,_⟩,⟨.int .i64 ak.1,false,_,.hole⟩] (aDg tm ak.1 _ b4) rfl rfl rfl (by simp only[aM.down,simprocAttr,lq.down,jG,jI,I.ef,jH,p4,nX,kv,hq,hr,hs,dI,or_true,true_or, @cm _ bC bC (λ_=>oI _)]) rfl rfl (.inl rfl) (by simp only[aM.down,simprocAttr,lq.down,jG,jI,I.ef,jH,s0,kv,xh,Bool.and_self,Bool.not_false,Bool.and_true]) ?_;simp only[aM.down,simprocAttr,lq.down,jG,jI,I.ef,jH,nY,s0,kv,eq_self,Bool.and_self];(try simp only[bf.down,simprocAttr,x7.down,jG,jI,I.ef,jH]at ai⊢);exact ai
 obtain⟨a8,h9,h⟩:=aD h;refine cd (bJ [(0,.agg [.ao 3 (af.2.map e8),.ao 2 (ak.2.map fk),.ao 3 (aJ.2.map bC),.ao 1 (a8.2.map bd),.ao 1 (qZ.map bd)]),(1,.int .i64 a8.1),(2,.ad 0 0)] (λP ai=>?_) ?_)
 .simp only[aM.down,simprocAttr,lq.down,jG,jI,I.ef,jH];refine CL [⟨.h 0 [3],true,_,_⟩,⟨.int .i64 aJ.1,false,_,.hole⟩] (R6 r2 aJ.1 _ h9) rfl rfl rfl (by simp only[aM.down,simprocAttr,lq.down,jG,jI,I.ef,jH,p4,nX,kv,hq,hr,hs,dI,or_true,true_or, @cm _ bd bd (λ_=>jr _)]) rfl rfl (.inl rfl) (by simp only[aM.down,simprocAttr,lq.down,jG,jI,I.ef,jH,s0,kv,xh,Bool.and_self,Bool.not_false,Bool.and_true]) ?_;simp only[aM.down,simprocAttr,lq.down,jG,jI,I.ef,jH,nY,s0,kv,eq_self,Bool.and_self];(try simp only[bf.down,simprocAttr,x7.down,jG,jI,I.ef,jH]at ai⊢);exact ai
 obtain⟨bb,nJ,h⟩:=aD h;refine cd (bJ [(0,.agg [.ao 3 (af.2.map e8),.ao 2 (ak.2.map fk),.ao 3 (aJ.2.map bC),.ao 1 (a8.2.map bd),.ao 1 (bb.2.map bd)]),(1,.int .i64 bb.1)] (λP ai=>?_) ?_)
 .simp only[aM.down,simprocAttr,lq.down,jG,jI,I.ef,jH];refine s3 [⟨.h 0 [4],true,_,_⟩,⟨.int .i64 a8.1,false,_,.hole⟩] (R6 qZ a8.1 _ nJ) rfl rfl rfl (by simp only[aM.down,simprocAttr,lq.down,jG,jI,I.ef,jH,p4,nX,kv,hq,hr,hs,dI,or_true,true_or, @cm _ bd bd (λ_=>jr _)]) rfl rfl (.inl rfl) ?_;simp only[aM.down,simprocAttr,lq.down,jG,jI,I.ef,jH,nY];(try simp only[bf.down,simprocAttr,x7.down,jG,jI,I.ef,jH]at ai⊢);exact ai
 refine ws _ ?_;exact aE (al _ (.inl (pa [.int .i64 bb.1] rfl (by cases jO h;rfl) (by decide) (p5 (p6 (by cases jO h;rfl) rfl rfl rfl (nZ (p7)))))))
theorem aDi (a0:List b_) (R:Int) (r:Int×(List b_)) (h:Fy a0 R=some r):bk aF 14 [.ao 4 (a0.map cr),.int .i64 R] (.int .i64 r.1) [.ao 4 (r.2.map cr),.hole]:=by
 refine bQ [0] [.tmp 4] Tryz.func14 pt (λbI al bN=>?_);refine ws _ ?_;refine aH al (λej bX bp ak=>?_);refine ws _ ?_;refine bB bp (λdV eh b5 bD a8=>?_);have fq:∀(n:Nat) (bA:List b_) (aU:Int) (aK:Int),vj n bA aU aK=some r->du aF Ra dV (ab [(0,.ao 4 (bA.map cr)),(1,.int .i64 aU),(5,.int .i64 aK)]):=by
  intro m6;induction m6 with
  |zero=>intro bA aU aK h;cases(show none=some r from h)
  |succ m6 fl=>
   intro bA aU aK h;replace h:Fx (vj m6) bA aU aK=some r:=h;refine dK b5 (λh2 ee dj bb=>?_);refine aH dj (λeZ dy dw bO=>?_);refine ws _ ?_;refine aR h (λb6 h=>?_) (λb6 h=>?_)
   .refine aY (dy _ (.inl ?_));refine aH dj (λeB cQ cj de=>?_);refine bB cj (λe4 cu cM dx df=>?_);obtain⟨af,er,h⟩:=aD h;refine cd (bJ [(0,.ao 4 ((List.set bA (Int.toNat aK) (b_.mk aU af.c8 af.Second af.Label)).map cr)),(1,.int .i64 aU),(5,.int .i64 aK)] (λP ai=>?_) ?_)
    .simp only[aM.down,simprocAttr,r7.down,er,cR er,dN,dp];(try simp only[bf.down,simprocAttr,cr,er,cR er,dN,dp]at ai⊢);exact ai
    refine ws [(0,.ao 4 ((List.set bA (Int.toNat aK) (b_.mk aU af.c8 af.Second af.Label)).map cr)),(1,.int .i64 (IntKind.i64.wrap (aU+1))),(5,.int .i64 aK)] ?_;obtain⟨ak,eY,h⟩:=aD h;refine cd (bJ [(0,.ao 4 ((List.set (List.set bA (Int.toNat aK) (b_.mk aU af.c8 af.Second af.Label)) (Int.toNat aK) (b_.mk ak.Choice (IntKind.i64.wrap (aU+1)) ak.Second ak.Label)).map cr)),(1,.int .i64 (IntKind.i64.wrap (aU+1))),(5,.int .i64 aK)] (λP ai=>?_) ?_)
    .simp only[aM.down,simprocAttr,r7.down,eY,cR eY,dN,dp];(try simp only[bf.down,simprocAttr,cr,eY,cR eY,dN,dp]at ai⊢);exact ai
    refine ws [(0,.ao 4 ((List.set (List.set bA (Int.toNat aK) (b_.mk aU af.c8 af.Second af.Label)) (Int.toNat aK) (b_.mk ak.Choice (IntKind.i64.wrap (aU+1)) ak.Second ak.Label)).map cr)),(1,.int .i64 (IntKind.i64.wrap ((IntKind.i64.wrap (aU+1))+1))),(5,.int .i64 aK)] ?_;obtain⟨aJ,e5,h⟩:=aD h;refine cd (bJ [(0,.ao 4 ((List.set (List.set (List.set bA (Int.toNat aK) (b_.mk aU af.c8 af.Second af.Label)) (Int.toNat aK) (b_.mk ak.Choice (IntKind.i64.wrap (aU+1)) ak.Second ak.Label)) (Int.toNat aK) (b_.mk aJ.Choice aJ.c8 (IntKind.i64.wrap ((IntKind.i64.wrap (aU+1))+1)) aJ.Label)).map cr)),(1,.int .i64 (IntKind.i64.wrap ((IntKind.i64.wrap (aU+1))+1))),(5,.int .i64 aK)] (λP ai=>?_) ?_)
    .simp only[aM.down,simprocAttr,r7.down,e5,cR e5,dN,dp];(try simp only[bf.down,simprocAttr,cr,e5,cR e5,dN,dp]at ai⊢);exact ai
    refine ws [(0,.ao 4 ((List.set (List.set (List.set bA (Int.toNat aK) (b_.mk aU af.c8 af.Second af.Label)) (Int.toNat aK) (b_.mk ak.Choice (IntKind.i64.wrap (aU+1)) ak.Second ak.Label)) (Int.toNat aK) (b_.mk aJ.Choice aJ.c8 (IntKind.i64.wrap ((IntKind.i64.wrap (aU+1))+1)) aJ.Label)).map cr)),(1,.int .i64 (IntKind.i64.wrap ((IntKind.i64.wrap ((IntKind.i64.wrap (aU+1))+1))+1))),(5,.int .i64 aK)] ?_;obtain⟨a8,kk,h⟩:=aD h;obtain⟨bb,gb,h⟩:=aD h;refine cd (bJ [(0,.ao 4 ((List.set (List.set (List.set (List.set bA (Int.toNat aK) (b_.mk aU af.c8 af.Second af.Label)) (Int.toNat aK) (b_.mk ak.Choice (IntKind.i64.wrap (aU+1)) ak.Second ak.Label)) (Int.toNat aK) (b_.mk aJ.Choice aJ.c8 (IntKind.i64.wrap ((IntKind.i64.wrap (aU+1))+1)) aJ.Label)) (Int.toNat aK) (b_.mk bb.Choice bb.c8 bb.Second a8)).map cr)),(1,.int .i64 (IntKind.i64.wrap ((IntKind.i64.wrap ((IntKind.i64.wrap (aU+1))+1))+1))),(5,.int .i64 aK)] (λP ai=>?_) ?_)
    .simp only[aM.down,simprocAttr,r7.down,gb,cR gb,dN,dp];refine ez (vL (IntKind.i64.wrap ((IntKind.i64.wrap ((IntKind.i64.wrap (aU+1))+1))+1)) _ kk) rfl rfl rfl rfl (.inl (by rfl)) ?_;simp only[aM.down,simprocAttr,r7.down,gb,cR gb,dN,dp];(try simp only[bf.down,simprocAttr,cr,gb,cR gb,dN,dp]at ai⊢);exact ai
    refine wr [(0,.ao 4 ((List.set (List.set (List.set (List.set bA (Int.toNat aK) (b_.mk aU af.c8 af.Second af.Label)) (Int.toNat aK) (b_.mk ak.Choice (IntKind.i64.wrap (aU+1)) ak.Second ak.Label)) (Int.toNat aK) (b_.mk aJ.Choice aJ.c8 (IntKind.i64.wrap ((IntKind.i64.wrap (aU+1))+1)) aJ.Label)) (Int.toNat aK) (b_.mk bb.Choice bb.c8 bb.Second a8)).map cr)),(1,.int .i64 (IntKind.i64.wrap ((IntKind.i64.wrap ((IntKind.i64.wrap ((IntKind.i64.wrap (aU+1))+1))+1))+1))),(5,.int .i64 aK)] ?_;refine cu _ (cQ _ (.inl ?_));refine wr [(0,.ao 4 ((List.set (List.set (List.set (List.set bA (Int.toNat aK) (b_.mk aU af.c8 af.Second af.Label)) (Int.toNat aK) (b_.mk ak.Choice (IntKind.i64.wrap (aU+1)) ak.Second ak.Label)) (Int.toNat aK) (b_.mk aJ.Choice aJ.c8 (IntKind.i64.wrap ((IntKind.i64.wrap (aU+1))+1)) aJ.Label)) (Int.toNat aK) (b_.mk bb.Choice bb.c8 bb.Second a8)).map cr)),(1,.int .i64 (IntKind.i64.wrap ((IntKind.i64.wrap ((IntKind.i64.wrap ((IntKind.i64.wrap (aU+1))+1))+1))+1))),(5,.int .i64 (IntKind.i64.wrap (aK+1)))] ?_;exact ee _ (.inr ⟨_,bo rfl,fl (List.set (List.set (List.set (List.set bA (Int.toNat aK) (b_.mk aU af.c8 af.Second af.Label)) (Int.toNat aK) (b_.mk ak.Choice (IntKind.i64.wrap (aU+1)) ak.Second ak.Label)) (Int.toNat aK) (b_.mk aJ.Choice aJ.c8 (IntKind.i64.wrap ((IntKind.i64.wrap (aU+1))+1)) aJ.Label)) (Int.toNat aK) (b_.mk bb.Choice bb.c8 bb.Second a8)) (IntKind.i64.wrap ((IntKind.i64.wrap ((IntKind.i64.wrap ((IntKind.i64.wrap (aU+1))+1))+1))+1)) (IntKind.i64.wrap (aK+1)) h⟩)
   .refine dG (bO 0 _ (bb 0 _ (bD _ (bX _ (.inl ?_)))));refine ws _ ?_;exact aE (al _ (.inl (pa [.int .i64 aU] rfl (by cases jO h;rfl) (by decide) (p5 (p6 (by cases jO h;rfl) rfl rfl rfl (nZ (p7)))))))
 obtain⟨n,h⟩:=dC h;exact dH (.inr ⟨_,bo rfl,fq n a0 R 0 h⟩)
theorem R7 (a0:List Int) (R:Int) (r:Int) (h:A0 a0 R=some r):bk aF 16 [.slice (a0.map a1),.int .i64 R] (.int .i64 r) []:=by
 refine bQ [0] [.tmp 4] Tryz.func16 vv (λbI al bN=>?_);refine ws _ ?_;refine aH al (λej bX bp ak=>?_);refine ws _ ?_;refine bB bp (λdV eh b5 bD a8=>?_);have fq:∀(n:Nat) (aU:Int) (aK:Int),vk a0 n aU aK=some r->du aF Rb dV (ab [(0,.slice (a0.map a1)),(1,.int .i64 aU),(5,.int .i64 aK)]):=by
  intro m6;induction m6 with
  |zero=>intro aU aK h;cases(show none=some r from h)
  |succ m6 fl=>
   intro aU aK h;replace h:Fz (vk a0 m6) a0 aU aK=some r:=h;refine dK b5 (λh2 ee dj bb=>?_);refine aH dj (λeZ dy dw bO=>?_);refine ws _ ?_;refine aR h (λb6 h=>?_) (λb6 h=>?_)
   .refine aY (dy _ (.inl ?_));refine aH dj (λeB cQ cj de=>?_);refine bB cj (λe4 cu cM dx df=>?_);refine aH cM (λjk fg gm fo=>?_);obtain⟨af,et,h⟩:=aD h;refine gv et _ ?_;refine aR h (λiL h=>?_) (λiL h=>?_)
    .refine ws _ ?_;exact aE (gm _ (.inl (aG [.int .i64 (-1)])))
    .refine aY (fg _ (.inl ?_));refine wr _ ?_;refine cu _ (cQ _ (.inl ?_));refine wr _ ?_;exact ee _ (.inr ⟨_,bo rfl,fl (IntKind.i64.wrap (aU+1)) (IntKind.i64.wrap (aK+1)) h⟩)
   .refine dG (bO 0 _ (bb 0 _ (bD _ (bX _ (.inl ?_)))));refine ws _ ?_;exact aE (al _ (.inl (aG [.int .i64 aU])))
 obtain⟨n,h⟩:=dC h;exact dH (.inr ⟨_,bo rfl,fq n R 0 h⟩)
theorem aDj (a0:lL) (R:List iG) (r:Bool) (h:JF a0 R=some r):bk aF 3 [j8 a0,.slice (R.map gK)] (.bool r) []:=by
 refine bQ [0,1] [.tmp 4] Tryz.func3 ff (λbI al bN=>?_);refine ws _ ?_;refine ws _ ?_;obtain⟨af,cC,h⟩:=aD h;refine dt (aAg a0 1048576 _ cC) _ ?_;refine aH al (λh2 ee dj bb=>?_);refine ws _ ?_;refine aR h (λpQ h=>?_) (λpQ h=>?_)
 .refine ws _ ?_;exact aE (dj _ (.inl (aG [.bool true])))
 .refine aY (ee _ (.inl ?_));obtain⟨ak,mF,h⟩:=aD h;refine dt (aAj R af _ mF) _ ?_;refine aH al (λjk fg gm fo=>?_);refine ws _ ?_;refine aR h (λga h=>?_) (λga h=>?_)
  .refine ws _ ?_;exact aE (gm _ (.inl (aG [.bool true])))
  .refine aY (fg _ (.inl ?_));obtain⟨aJ,cI,h⟩:=aD h;obtain⟨a8,eb,h⟩:=aD h;obtain⟨bb,e5,h⟩:=aD h;refine cd (bJ [(1,.slice (R.map gK)),(2,.bh (j8 a0)),(6,.ao 1 (bb.1.map a1)),(7,.int .i64 bb.2)] (λP ai=>?_) ?_)
   .simp only[aM.down,simprocAttr,q3.down];refine ez (FV a0 _ cI) rfl rfl rfl rfl (.inl (by rfl)) ?_;simp only[aM.down,simprocAttr,q3.down];refine ez (FW R _ eb) rfl rfl rfl rfl (.inl (by rfl)) ?_;simp only[aM.down,simprocAttr,q3.down];refine ez (aBD aJ a8 _ e5) rfl rfl (by simp only[aM.down,simprocAttr,q3.down,hq,hr,hs,dI, @cm _ e8 bP (λ_=>r3 _), @cm _ fk fN (λ_=>r4 _), @cm _ bC bC (λ_=>oI _), @cm _ bd bd (λ_=>jr _), @cm _ bd bd (λ_=>jr _), @cm _ cr cr (λ_=>xZ _)]<;>rfl) rfl (.inr (by simp only[I.dd,I.hV, @lg _ a1 (λ_=>xY _),Bool.and_self])) ?_;simp only[aM.down,simprocAttr,q3.down];(try simp only[bf.down,simprocAttr,l5.down]at ai⊢);exact ai
   obtain⟨bO,iq,h⟩:=aD h;refine dt (FV a0 _ iq) _ ?_;obtain⟨cx,gb,h⟩:=aD h;refine dt (FW R _ gb) _ ?_;obtain⟨eg,i1,h⟩:=aD h;refine cd (bJ [(1,.slice (R.map gK)),(2,.bh (j8 a0)),(6,.ao 1 (bb.1.map a1)),(7,.int .i64 bb.2),(8,.bh (nx bO)),(9,.ao 4 (cx.map cr)),(10,.ao 1 (eg.1.map a1)),(11,.int .i64 eg.2)] (λP ai=>?_) ?_)
   .simp only[aM.down,simprocAttr,x8.down];refine ez (R2 bO cx _ i1) rfl rfl (by simp only[aM.down,simprocAttr,x8.down,hq,hr,hs,dI, @cm _ e8 bP (λ_=>r3 _), @cm _ fk fN (λ_=>r4 _), @cm _ bC bC (λ_=>oI _), @cm _ bd bd (λ_=>jr _), @cm _ bd bd (λ_=>jr _), @cm _ cr cr (λ_=>xZ _)]<;>rfl) rfl (.inr (by simp only[I.dd,I.hV, @lg _ a1 (λ_=>xY _),Bool.and_self])) ?_;simp only[aM.down,simprocAttr,x8.down];(try simp only[bf.down,simprocAttr,l5.down]at ai⊢);exact ai
   refine aH al (λGd r9 ql Br=>?_);obtain⟨de,kl,h⟩:=aD h;refine cd (bJ [(1,.slice (R.map gK)),(2,.bh (j8 a0)),(6,.ao 1 (bb.1.map a1)),(7,.int .i64 bb.2),(8,.bh (nx bO)),(9,.ao 4 (cx.map cr)),(10,.ao 1 (eg.1.map a1)),(11,.int .i64 eg.2),(53,.bool ((!de)||(eg.2 !=bb.2)))] (λP ai=>?_) ?_)
   .rcases Bool.eq_false_or_eq_true (de)with lR|lR
    .simp only[aM.down,simprocAttr,l5.down,lR];refine ez (vK eg.1 bb.1 _ kl) rfl rfl (by simp only[aM.down,simprocAttr,l5.down,lR,hq,hr,hs,dI, @cm _ a1 a1 (λ_=>ky _), @cm _ a1 a1 (λ_=>ky _)]<;>rfl) rfl (.inr (by rfl)) ?_;simp only[aM.down,simprocAttr,l5.down,lR];(try simp only[bf.down,simprocAttr,l5.down,lR]at ai⊢);exact ai
    .simp only[aM.down,simprocAttr,l5.down,lR];refine ez (vK eg.1 bb.1 _ kl) rfl rfl (by simp only[aM.down,simprocAttr,l5.down,lR,hq,hr,hs,dI, @cm _ a1 a1 (λ_=>ky _), @cm _ a1 a1 (λ_=>ky _)]<;>rfl) rfl (.inr (by rfl)) ?_;simp only[aM.down,simprocAttr,l5.down,lR];(try simp only[bf.down,simprocAttr,l5.down,lR]at ai⊢);exact ai
   refine aR h (λjm h=>?_) (λjm h=>?_)
   .refine ws _ ?_;exact aE (ql _ (.inl (aG [.bool false])))
   .refine aY (r9 _ (.inl ?_));refine aH al (λRr Bg F5 J8=>?_);obtain⟨df,tt,h⟩:=aD h;obtain⟨fo,l_,h⟩:=aD h;refine hX rfl (hY [(1,.slice (R.map gK)),(2,.bh (j8 a0)),(6,.ao 1 (bb.1.map a1)),(7,.int .i64 bb.2),(8,.bh (nx bO)),(9,.ao 4 (cx.map cr)),(10,.ao 1 (eg.1.map a1)),(11,.int .i64 eg.2),(58,.bool (!fo))] (λP ai=>?_) ?_)
    .simp only[dY.down,simprocAttr,FT.down];refine j7 (FV a0 _ tt) rfl rfl rfl rfl (.inl (by rfl)) ?_;simp only[dY.down,simprocAttr,FT.down];refine j7 (aC9 bO df _ l_) rfl rfl (by simp only[dY.down,simprocAttr,FT.down,hq,hr,hs,dI, @cm _ e8 bP (λ_=>r3 _), @cm _ fk fN (λ_=>r4 _), @cm _ bC bC (λ_=>oI _), @cm _ bd bd (λ_=>jr _), @cm _ bd bd (λ_=>jr _), @cm _ e8 bP (λ_=>r3 _), @cm _ fk fN (λ_=>r4 _), @cm _ bC bC (λ_=>oI _), @cm _ bd bd (λ_=>jr _), @cm _ bd bd (λ_=>jr _)]<;>rfl) rfl (.inr (by rfl)) ?_;simp only[dY.down,simprocAttr,FT.down];refine⟨ht (by kernel_rfl),?_⟩;(try simp only[bf.down,simprocAttr,l5.down]at ai⊢);exact ai
    refine aR h (λnz h=>?_) (λnz h=>?_)
    .refine ws _ ?_;exact aE (F5 _ (.inl (aG [.bool false])))
    .refine aY (Bg _ (.inl ?_));refine aH al (λaIQ aDk aDl aIR=>?_);obtain⟨jV,KF,h⟩:=aD h;obtain⟨jM,KE,h⟩:=aD h;refine cd (bJ [(1,.slice (R.map gK)),(2,.bh (j8 a0)),(6,.ao 1 (bb.1.map a1)),(7,.int .i64 bb.2),(8,.bh (nx bO)),(9,.ao 4 (cx.map cr)),(10,.ao 1 (eg.1.map a1)),(11,.int .i64 eg.2),(63,.bool (!jM))] (λP ai=>?_) ?_)
     .simp only[aM.down,simprocAttr,l5.down];refine ez (FW R _ KF) rfl rfl rfl rfl (.inl (by rfl)) ?_;simp only[aM.down,simprocAttr,l5.down];refine ez (aDa cx jV _ KE) rfl rfl (by simp only[aM.down,simprocAttr,l5.down,hq,hr,hs,dI, @cm _ cr cr (λ_=>xZ _), @cm _ cr cr (λ_=>xZ _)]<;>rfl) rfl (.inr (by rfl)) ?_;simp only[aM.down,simprocAttr,l5.down];(try simp only[bf.down,simprocAttr,l5.down]at ai⊢);exact ai
     refine aR h (λaDm h=>?_) (λaDm h=>?_)
     .refine ws _ ?_;exact aE (aDl _ (.inl (aG [.bool false])))
     .refine aY (aDk _ (.inl ?_));refine ws _ ?_;obtain⟨h6,KG,h⟩:=aD h;refine cd (bJ [(1,.slice (R.map gK)),(2,.bh (j8 a0)),(6,.ao 1 (bb.1.map a1)),(7,.int .i64 bb.2),(9,.ao 4 (cx.map cr)),(10,.ao 1 (eg.1.map a1)),(11,.int .i64 eg.2),(12,.int .i64 h6.1)] (λP ai=>?_) ?_)
      .simp only[aM.down,simprocAttr,x8.down];refine s3 [⟨.h 8 [0],true,_,_⟩,⟨.int .i64 1,false,_,.hole⟩] (aDh bO.fv bO.bK bO.hZ bO.hN bO.hO 1 _ KG) rfl rfl rfl (by simp only[aM.down,simprocAttr,x8.down,p4,nX,kv,hq,hr,hs,dI,or_true,true_or, @cm _ e8 bP (λ_=>r3 _), @cm _ fk fN (λ_=>r4 _), @cm _ bC bC (λ_=>oI _), @cm _ bd bd (λ_=>jr _), @cm _ bd bd (λ_=>jr _)]) rfl rfl (.inl rfl) ?_;simp only[aM.down,simprocAttr,x8.down,nY];(try simp only[bf.down,simprocAttr,l5.down]at ai⊢);exact ai
      obtain⟨jq,aDn,h⟩:=aD h;refine cd (bJ [(1,.slice (R.map gK)),(2,.bh (j8 a0)),(6,.ao 1 (bb.1.map a1)),(7,.int .i64 bb.2),(10,.ao 1 (eg.1.map a1)),(11,.int .i64 eg.2),(12,.int .i64 jq.1)] (λP ai=>?_) ?_)
      .simp only[aM.down,simprocAttr,FU.down];refine s3 [⟨.h 9 [],true,_,_⟩,⟨.int .i64 h6.1,false,_,.hole⟩] (aDi cx h6.1 _ aDn) rfl rfl rfl (by simp only[aM.down,simprocAttr,FU.down,p4,nX,kv,hq,hr,hs,dI,or_true,true_or, @cm _ cr cr (λ_=>xZ _)]) rfl rfl (.inl rfl) ?_;simp only[aM.down,simprocAttr,FU.down,nY];(try simp only[bf.down,simprocAttr,FU.down]at ai⊢);exact ai
      refine aH al (λRs tp tq Rt=>?_);rcases eS h with⟨pA,h⟩|⟨pA,h⟩
      .refine gv pA _ ?_;refine iW rfl ?_;refine ws _ ?_;exact aE (tq _ (.inl (aG [.bool false])))
      .obtain⟨nv,R8,h⟩:=aD h;refine cd (bJ [(1,.slice (R.map gK)),(2,.bh (j8 a0)),(6,.ao 1 (bb.1.map a1)),(7,.int .i64 bb.2),(10,.ao 1 (eg.1.map a1)),(82,.bool ((!nv)||(eg.2 !=bb.2)))] (λP ai=>?_) ?_)
       .rcases Bool.eq_false_or_eq_true (nv)with ny|ny
        .simp only[aM.down,simprocAttr,mQ.down,pA,ny];refine fT (vK eg.1 bb.1 _ R8) rfl rfl (by simp only[aM.down,simprocAttr,mQ.down,pA,ny,hq,hr,hs,dI, @cm _ a1 a1 (λ_=>ky _), @cm _ a1 a1 (λ_=>ky _)]<;>rfl) rfl (.inr (by rfl)) ?_;simp only[aM.down,simprocAttr,mQ.down,pA,ny];(try simp only[bf.down,simprocAttr,mQ.down,pA,ny]at ai⊢);exact ai
        .simp only[aM.down,simprocAttr,mQ.down,pA,ny];refine fT (vK eg.1 bb.1 _ R8) rfl rfl (by simp only[aM.down,simprocAttr,mQ.down,pA,ny,hq,hr,hs,dI, @cm _ a1 a1 (λ_=>ky _), @cm _ a1 a1 (λ_=>ky _)]<;>rfl) rfl (.inr (by rfl)) ?_;simp only[aM.down,simprocAttr,mQ.down,pA,ny];(try simp only[bf.down,simprocAttr,mQ.down,pA,ny]at ai⊢);exact ai
       refine aR h (λKc h=>?_) (λKc h=>?_)
       .refine ws _ ?_;exact aE (tq _ (.inl (aG [.bool false])))
       .refine aY (tp _ (.inl ?_));refine ws _ ?_;obtain⟨iz,aDo,h⟩:=aD h;refine cd (bJ [(1,.slice (R.map gK)),(2,.bh (j8 a0)),(6,.ao 1 (bb.1.map a1)),(7,.int .i64 bb.2),(10,.ao 1 (iz.2.map a1)),(13,.int .i64 iz.1)] (λP ai=>?_) ?_)
        .simp only[aM.down,simprocAttr,mQ.down];refine s3 [⟨.h 10 [],true,_,_⟩,⟨.int .i64 1,false,_,.hole⟩] (R5 eg.1 1 _ aDo) rfl rfl rfl (by simp only[aM.down,simprocAttr,mQ.down,p4,nX,kv,hq,hr,hs,dI,or_true,true_or, @cm _ a1 a1 (λ_=>ky _)]) rfl rfl (.inl rfl) ?_;simp only[aM.down,simprocAttr,mQ.down,nY];(try simp only[bf.down,simprocAttr,mQ.down]at ai⊢);exact ai
        refine ws _ ?_;obtain⟨nw,yj,h⟩:=aD h;refine cd (bJ [(1,.slice (R.map gK)),(2,.bh (j8 a0)),(6,.ao 1 (bb.1.map a1)),(7,.int .i64 bb.2),(10,.ao 1 (iz.2.map a1)),(13,.int .i64 iz.1),(14,.int .i64 nw)] (λP ai=>?_) ?_)
        .simp only[aM.down,simprocAttr,mQ.down];refine ez (R7 iz.2 1 _ yj) rfl rfl (by simp only[aM.down,simprocAttr,mQ.down,hq,hr,hs,dI, @cm _ a1 a1 (λ_=>ky _)]<;>rfl) rfl (.inr (by rfl)) ?_;simp only[aM.down,simprocAttr,mQ.down];(try simp only[bf.down,simprocAttr,mQ.down]at ai⊢);exact ai
        refine aH al (λaIS aDp aDq aIT=>?_);refine ws _ ?_;refine aR h (λaDr h=>?_) (λaDr h=>?_)
        .refine ws _ ?_;exact aE (aDq _ (.inl (aG [.bool false])))
        .refine aY (aDp _ (.inl ?_));refine aH al (λaIU aDs aDt aIV=>?_);refine ws _ ?_;refine aR h (λl9 h=>?_) (λl9 h=>?_)
         .refine ws _ ?_;exact aE (aDt _ (.inl (aG [.bool false])))
         .refine aY (aDs _ (.inl ?_));obtain⟨qd,aDu,h⟩:=aD h;obtain⟨vl,Kf,h⟩:=aD h;obtain⟨qe,aDv,h⟩:=aD h;refine cd (bJ [(6,.ao 1 (bb.1.map a1)),(7,.int .i64 bb.2),(10,.ao 1 (iz.2.map a1)),(13,.int .i64 iz.1),(15,.ao 1 (qe.1.map a1)),(16,.int .i64 qe.2)] (λP ai=>?_) ?_)
          .simp only[aM.down,simprocAttr,q3.down];refine ez (FV a0 _ aDu) rfl rfl rfl rfl (.inl (by rfl)) ?_;simp only[aM.down,simprocAttr,q3.down];refine ez (FW R _ Kf) rfl rfl rfl rfl (.inl (by rfl)) ?_;simp only[aM.down,simprocAttr,q3.down];refine ez (R2 qd vl _ aDv) rfl rfl (by simp only[aM.down,simprocAttr,q3.down,hq,hr,hs,dI, @cm _ e8 bP (λ_=>r3 _), @cm _ fk fN (λ_=>r4 _), @cm _ bC bC (λ_=>oI _), @cm _ bd bd (λ_=>jr _), @cm _ bd bd (λ_=>jr _), @cm _ cr cr (λ_=>xZ _)]<;>rfl) rfl (.inr (by simp only[I.dd,I.hV, @lg _ a1 (λ_=>xY _),Bool.and_self])) ?_;simp only[aM.down,simprocAttr,q3.down];(try simp only[bf.down,simprocAttr,l5.down]at ai⊢);exact ai
          refine aH al (λaIW aDw aDx aIX=>?_);obtain⟨mA,R9,h⟩:=aD h;refine cd (bJ [(10,.ao 1 (iz.2.map a1)),(13,.int .i64 iz.1),(110,.bool ((!mA)||(qe.2 !=bb.2)))] (λP ai=>?_) ?_)
          .rcases Bool.eq_false_or_eq_true (mA)with qg|qg
           .simp only[aM.down,simprocAttr,a1,qg];refine ez (vK qe.1 bb.1 _ R9) rfl rfl (by simp only[aM.down,simprocAttr,a1,qg,hq,hr,hs,dI, @cm _ a1 a1 (λ_=>ky _), @cm _ a1 a1 (λ_=>ky _)]<;>rfl) rfl (.inr (by rfl)) ?_;simp only[aM.down,simprocAttr,a1,qg];(try simp only[bf.down,simprocAttr,a1,qg]at ai⊢);exact ai
           .simp only[aM.down,simprocAttr,a1,qg];refine ez (vK qe.1 bb.1 _ R9) rfl rfl (by simp only[aM.down,simprocAttr,a1,qg,hq,hr,hs,dI, @cm _ a1 a1 (λ_=>ky _), @cm _ a1 a1 (λ_=>ky _)]<;>rfl) rfl (.inr (by rfl)) ?_;simp only[aM.down,simprocAttr,a1,qg];(try simp only[bf.down,simprocAttr,a1,qg]at ai⊢);exact ai
          refine aR h (λaDy h=>?_) (λaDy h=>?_)
          .refine ws _ ?_;exact aE (aDx _ (.inl (aG [.bool false])))
          .refine aY (aDw _ (.inl ?_));refine ws _ ?_;obtain⟨tn,aDz,h⟩:=aD h;refine cd (bJ [(13,.int .i64 iz.1),(14,.int .i64 tn)] (λP ai=>?_) ?_)
           .simp only[aM.down,simprocAttr,a1];refine ez (R7 iz.2 1 _ aDz) rfl rfl (by simp only[aM.down,simprocAttr,a1,hq,hr,hs,dI, @cm _ a1 a1 (λ_=>ky _)]<;>rfl) rfl (.inr (by rfl)) ?_;simp only[aM.down,simprocAttr,a1];(try simp only[bf.down,simprocAttr,a1]at ai⊢);exact ai
           refine aH al (λaIY aDA aDB aIZ=>?_);refine ws _ ?_;refine aR h (λaDC h=>?_) (λaDC h=>?_)
           .refine ws _ ?_;exact aE (aDB _ (.inl (aG [.bool false])))
           .refine aY (aDA _ (.inl ?_));refine aH al (λaI0 aDD aDE aI1=>?_);refine ws _ ?_;refine aR h (λaDF h=>?_) (λaDF h=>?_)
            .refine ws _ ?_;exact aE (aDE _ (.inl (aG [.bool false])))
            .refine aY (aDD _ (.inl ?_));refine ws _ ?_;exact aE (al _ (.inl (aG [.bool true])))
end Go.Proofs.YtlkabaochkgkdaaGreatDoor
