/- Part of a proof that a law returns true for every input. No condition. -/
import Derived.Shelf.SlGeneric
import Derived.Ground.SlsfProg
import Derived.Shelf.SlLaysF
import Derived.Test.YtklcmlnabkfneaaGreatFwQ
import Derived.Test.YtklcmlnabkfneaaGreatFwX
import Derived.Test.YtklcmlnabkfneaaGreatUV0x
import Derived.Shelf.SlSortCmp.Whole1
import Derived.WalkKit
import Derived.Deep.LoopGhost
import Derived.Deep.Draws
import Derived.Lib.Walk
import Derived.Sort.WalkB12
import Derived.Lib.SliceRun
import Derived.Lib.SlicesS
import Derived.Shelf.RegionOpenPlain
import Derived.Test.YtklcmlnabkfneaaGreatFwM
import Derived.Test.YtklcmlnabkfneaaGreatC6
namespace Go.Proofs.YtklcmlnabkfneaaGreat
open List Option Go.IntKind Nat Or
open Go Go.cU Go.ll Go.Shelf
set_option maxRecDepth 100000
def Tryz.Y_:Go.Shelf.Ren:=⟨λ|6=>159|15=>209|14=>223|28=>262|29=>263|20=>278|21=>279|22=>280|23=>281|24=>282|25=>283|26=>284|27=>285|46=>306|47=>294|48=>295|49=>307|50=>308|57=>317|n=>n,λ|22=>67|24=>62|25=>203|3=>3|39=>238|0=>0|53=>288|55=>290|4=>4|46=>280|45=>279|50=>285|5=>5|9=>9|66=>312|70=>316|76=>328|77=>329|n=>n,λ|n=>n⟩
theorem Tryz.M7:Go.Proofs.SlLaysF.n6 Tryz.prog Tryz.Y_:={
 mixed:=by kernel_rfl
 f6:=⟨Tryz.f159.name,by decide,Tryz.func159.trans (congrArg some (by kernel_rfl))⟩
 f14:=⟨Tryz.f223.name,by decide,Tryz.func223.trans (congrArg some (by kernel_rfl))⟩
 f15:=Tryz.func209.trans (congrArg some (by kernel_rfl))
 f20:=⟨Tryz.f278.name,by decide,Tryz.func278.trans (congrArg some (by kernel_rfl))⟩
 f21:=⟨Tryz.f279.name,by decide,Tryz.func279.trans (congrArg some (by kernel_rfl))⟩
 f22:=⟨Tryz.f280.name,by decide,Tryz.func280.trans (congrArg some (by kernel_rfl))⟩
 f23:=⟨Tryz.f281.name,by decide,Tryz.func281.trans (congrArg some (by kernel_rfl))⟩
 f24:=⟨Tryz.f282.name,by decide,Tryz.func282.trans (congrArg some (by kernel_rfl))⟩
 f25:=⟨Tryz.f283.name,by decide,Tryz.func283.trans (congrArg some (by kernel_rfl))⟩
 f26:=⟨Tryz.f284.name,by decide,Tryz.func284.trans (congrArg some (by kernel_rfl))⟩
 f27:=⟨Tryz.f285.name,by decide,Tryz.func285.trans (congrArg some (by kernel_rfl))⟩
 f28:=Tryz.func262.trans (congrArg some (by kernel_rfl))
 f29:=Tryz.func263.trans (congrArg some (by kernel_rfl))
 f46:=⟨Tryz.f306.name,by decide,Tryz.func306.trans (congrArg some (by kernel_rfl))⟩
 f47:=Tryz.func294.trans (congrArg some (by kernel_rfl))
 f48:=Tryz.func295.trans (congrArg some (by kernel_rfl))
 f49:=⟨Tryz.f307.name,by decide,Tryz.func307.trans (congrArg some (by kernel_rfl))⟩
 f50:=⟨Tryz.f308.name,by decide,Tryz.func308.trans (congrArg some (by kernel_rfl))⟩
 f57:=⟨Tryz.f317.name,by decide,Tryz.func317.trans (congrArg some (by kernel_rfl))⟩
 t0:=Tryz.underlying0
 a0:=Tryz.isAgg0
 z0:=Tryz.sizeOf0
 v0:=Tryz.zeroValue0
 t3:=Tryz.underlying3
 a3:=Tryz.isAgg3
 z3:=Tryz.sizeOf3
 v3:=Tryz.zeroValue3
 t4:=Tryz.underlying4
 a4:=Tryz.isAgg4
 z4:=Tryz.sizeOf4
 v4:=Tryz.zeroValue4
 t5:=Tryz.underlying5
 a5:=Tryz.isAgg5
 z5:=Tryz.sizeOf5
 v5:=Tryz.zeroValue5
 t9:=Tryz.underlying9
 a9:=Tryz.isAgg9
 z9:=Tryz.sizeOf9
 v9:=Tryz.zeroValue9
 t22:=Tryz.underlying67
 a22:=Tryz.isAgg67
 z22:=Tryz.sizeOf67
 v22:=Tryz.zeroValue67
 a24:=Tryz.isAgg62
 z24:=Tryz.sizeOf62
 t25:=Tryz.underlying203
 a25:=Tryz.isAgg203
 z25:=Tryz.sizeOf203
 v25:=Tryz.zeroValue203
 t39:=Tryz.underlying238
 a39:=Tryz.isAgg238
 z39:=Tryz.sizeOf238
 v39:=Tryz.zeroValue238
 t45:=Tryz.underlying279
 a45:=Tryz.isAgg279
 z45:=Tryz.sizeOf279
 v45:=Tryz.zeroValue279
 t46:=Tryz.underlying280
 a46:=Tryz.isAgg280
 z46:=Tryz.sizeOf280
 v46:=Tryz.zeroValue280
 t50:=Tryz.underlying285
 a50:=Tryz.isAgg285
 z50:=Tryz.sizeOf285
 v50:=Tryz.zeroValue285
 t53:=Tryz.underlying288
 a53:=Tryz.isAgg288
 z53:=Tryz.sizeOf288
 v53:=Tryz.zeroValue288
 t55:=Tryz.underlying290
 a55:=Tryz.isAgg290
 z55:=Tryz.sizeOf290
 v55:=Tryz.zeroValue290
 t66:=Tryz.underlying312
 a66:=Tryz.isAgg312
 z66:=Tryz.sizeOf312
 v66:=Tryz.zeroValue312
 t70:=Tryz.underlying316
 a70:=Tryz.isAgg316
 z70:=Tryz.sizeOf316
 v70:=Tryz.zeroValue316
 t76:=Tryz.underlying328
 a76:=Tryz.isAgg328
 z76:=Tryz.sizeOf328
 v76:=Tryz.zeroValue328
 t77:=Tryz.underlying329
 a77:=Tryz.isAgg329
 z77:=Tryz.sizeOf329
 v77:=Tryz.zeroValue329}
abbrev ql:={p:aiU//lQ p=true}
theorem Za:Go.Sort.SWO (λx y:ql=>decide (dO x.1 y.1<0)) where
 irrefl x:=by simp[(ry (a:=x.1) (b:=x.1)).2 rfl]
 trans x y z ab ad:=by
  simp only[decide_eq_true_eq]at ab ad⊢;have aA:=u2 (a:=x.1) (b:=y.1) (c:=z.1) (by omega) (by omega);have aZ:dO x.1 z.1≠0:=λe=>by
   have e:=ry.1 e;have bA:=me x.1 y.1;rw[<-e]at ad;omega
  omega
 ntrans x y z ab ad:=by
  simp only[decide_eq_false_iff_not]at ab ad⊢;have J:=me x.1 y.1;have a2:=me y.1 z.1;have a3:=me x.1 z.1;have:=u2 (a:=z.1) (b:=y.1) (c:=x.1) (by omega) (by omega);omega
theorem u3 (x:aiU):(gg x).share= .slice (x.map bN):=by rw[MS];rfl
theorem Zb (ob:qN=true) (aj:∀(a0 J:aiU) (r:Int),uX a0 J=some r->aW ah 160 [.slice (a0.map bN),.slice (J.map bN)] (.int .i64 r) []) (a0 r:aiI) (h:uY a0=some r):
  aW ah 159 [.al 1 (a0.map gg),.fn 160 []] (.tuple []) [.al 1 (r.map gg),.hole]:=by
 unfold uY at h;split at h
 .rename_i aO;obtain⟨cw,c9,iY⟩:=aO;have aK:=some.inj h;have R:∀p∈a0,lQ p=true:=λp au=>List.all_eq_true.1 iY p au;let xs:List ql:=a0.pmap Subtype.mk R
  have kc:xs.map Subtype.val=a0:=by simp[xs,List.map_pmap]
  let ys:=xs.mergeSort λx y=>decide (dO x.1 y.1<=0)
  have mA:ys.map Subtype.val=r:=by
   rw[<-aK,<-kc];refine map_mergeSort λa _ b _=>?_;unfold yb;rw[BN a.1 b.1 a.2];rfl
  have DU:∀a b c:ql,decide (dO a.1 b.1<=0)=true->decide (dO b.1 c.1<=0)=true->decide (dO a.1 c.1<=0)=true:=λa b c ab ad=>by
   simp only[decide_eq_true_eq]at ab ad⊢;exact u2 ab ad
  have Zc:∀a b:ql,(decide (dO a.1 b.1<=0)||decide (dO b.1 a.1<=0))=true:=λa b=>by
   have:=me a.1 b.1;simp only[Bool.or_eq_true,decide_eq_true_eq];omega
  have:=aW.UP (C:=ah) ob (f:=159) (g:=160) (λargs w=>Tryz.M7.f6.enters rfl args w) (enters_of Tryz.func160 (by kernel_rfl) rfl) (e:=λp:ql=>gg p.1) (λ_=>rfl)
   (λp=>⟨_,u3 p.1⟩) (λx y=>dO x.1 y.1) (λx y=>by rw[u3,u3];exact aj x.1 y.1 _ (BN x.1 y.1 x.2)) Za xs ys
   (λe=>cw (by rw[<-kc,e];rfl)) (by rw[<-kc,length_map]at c9;exact c9)
   (λdS au U=>by
    refine Perm.eq_of_pairwise (le:=λa b=>dO a.1 b.1<=0) (λa b _ _ ab ad=>Subtype.ext (ry.1 (by have:=me a.1 b.1;omega))) (U.imp λ{a b} h=>by have:=me a.1 b.1;omega) ?_ (au.trans (mergeSort_perm xs _).symm);exact(pairwise_mergeSort DU Zc xs).imp λ{a b} h=>by simpa using h)
   (λenc ab w8 hO w b cap d pf hH hblk dP=>Any.slices_SortFunc Tryz.M7 enc ab w8 hO 160 #[] b 0 cap d w (enters_of Tryz.func160 (by kernel_rfl) rfl) pf hH hblk dP)
  rw[show xs.map (λp=>gg p.1)=a0.map gg by rw[<-kc,List.map_map];rfl,show ys.map (λp=>gg p.1)=r.map gg by rw[<-mA,List.map_map];rfl]at this;exact this
 .cases h
section
open Go.Proofs Go.Lib Go.RowKit Go.Sort
theorem SW.set {enc:Nat->Value} {w0 W:World} {b:Nat} {dk:Array Nat} (h:SW enc w0 b 0 dk W) (hblk:b<w0.heap.size) (i:Nat) (ak:i<dk.size) (x:Nat):SW enc w0 b 0 (dk.setIfInBounds i x) (W.setCell ⟨b,0+i,none⟩ (enc x)):=by
 obtain⟨n,os,rfl⟩:=h;refine⟨n,os,?_⟩;unfold sortWorld;rw[<-putRow_grow enc (Sort.ahead w0 n) os b 0 dk hblk,putRow_set enc _ b 0 dk i x ak,putRow_grow enc (Sort.ahead w0 n) os b 0 _ hblk]
theorem SW.M8 {enc:Nat->Value} {w0:World} {b:Nat} (hblk:b<w0.heap.size) (z:Nat):∀(m k:Nat) (dk:Array Nat) (W:World),SW enc w0 b 0 dk W->k+m<=dk.size->
  ∃rz,rz.size=dk.size/\(∀j,j<k->rz[j]! =dk[j]!)/\SW enc w0 b 0 rz (W.setCells b (0+k) (replicate m (enc z)))
 |0,k,dk,W,h,_=>⟨dk,rfl,λ_ _=>rfl,h⟩
 |m+1,k,dk,W,h,aw=>by
  have ab:=SW.set h hblk k (by omega) z;obtain⟨rz,g1,g2,g3⟩:=SW.M8 hblk z m (k+1) _ _ ab (by rw[Array.size_setIfInBounds];omega);refine⟨rz,by simpa using g1,λj bd=>?_,?_⟩
  .rw[g2 j (by omega),getElem!_pos _ j (by simp;omega),getElem!_pos dk j (by omega),Array.getElem_setIfInBounds,if_neg (by omega)]
  .rw[replicate_succ];simp only[World.setCells];rw[show 0+k+1=0+(k+1) by omega];exact g3
set_option maxHeartbeats 4000000 in
set_option maxRecDepth 1000000 in
theorem Zd (w:World) (b n cap:Nat) (enc:Nat->Value) (hO:OneCell enc) (same:Nat->Nat->Bool) (g:Nat) (aic:∀args w,(callFunc g args).run Tryz.prog w= .ok (.enter g args) w)
  (pf:w2 Tryz.prog g enc same b n w) (hH:Holds enc w b 0 (Array.range n)) (hblk:b<w.heap.size) (aP:n<=4611686018427387904) (tA:n<=cap) (M9:cap<=9223372036854775807) (bO:enc n= .slice none 0 0) (ad:2<=n):
  Calls Tryz.prog 161 #[.slice (some ⟨b,0,none⟩) n cap,.func (.func g) #[] #[]] w λe aB=>e= .returned (.slice (some ⟨b,0,none⟩) (hi same n).length cap)/\
   ∃dk,dk.size=n/\(∀j,j<(hi same n).length->dk[j]! =(hi same n)[j]!)/\SW enc w b 0 dk aB:=by
 have mixed:Tryz.prog.follows Departure.mixedOrders=true:=by kernel_rfl
 have gd:Row1 enc w b 0 (Array.range n):=⟨hO,hH,hblk⟩
 have M_:Aside (w2 Tryz.prog g enc same b n w):=pf;have ou:Aside (Row1 enc w b 0 (Array.range n)):=gd;have dh:Aside (SW enc w b 0 (Array.range n) w):=⟨0,#[],by
  rw[sortWorld,grow_empty];exact(putRow_self enc w b 0 _ hH).symm⟩
 clear pf hH gd;have Ze:=hO.cells;simp only[Value.cells]at Ze;have yB:=hO.store Tryz.prog
 go_enter Tryz.func161,Tryz.ntmps161
 go_wp2
 go_loopg [5] n (λgk sZ wr=>∃k:Nat,1<=k/\k<=n/\n-k<=gk/\sZ= .int .i64 k/\Aside (SW enc w b 0 (Array.range n) wr)/\Aside (∀j,j<k->ko same j=true))
 case atStart=>exact⟨1,Nat.le_refl _,by omega,by omega,rfl,dh,λj bd=>by rw[show j=0 by omega];rfl⟩
 case round=>
  clear dh;obtain⟨k,wS,aw,bB,rfl,bM,A⟩:=hrel;by_cases c9:k<n
  .obtain⟨dM,Zf⟩:∃dM,k=dM+1:=⟨k-1,by omega⟩
   subst Zf;have ev:=bM.out.cl ou.out (by simp) (dM+1) (by simpa using c9);have l2:=bM.out.cl ou.out (by simp) dM (by simp;omega);rw[rl _ _ c9]at ev;rw[rl _ _ (by omega)]at l2;simp only[Nat.zero_add]at ev l2;have aj:=SW.Mh bM.out M_.out (by simp) (dM+1) dM c9 (by omega);have Na:((dM:Int)+1).toNat=dM+1:=by omega
   have Nb:(0:Int)<=(dM:Int)+1:=by omega
   have Zg:(dM:Int)+1<(n:Int):=by omega
   have Nc:i64.wrap ((dM:Int)+1)=(dM:Int)+1:=by rw[wrap_i64];omega
   have Nd:(0:Int)<=(dM:Int):=by omega
   have Nf:(dM:Int)<(n:Int):=by omega
   have rc:i64.wrap (dM:Int)=(dM:Int):=by rw[wrap_i64];omega
   cases qm:same (dM+1) dM with
   |true=>
    rw[qm]at aj
    go_wp2_with fail
    go_quiet_grown (first|(go_at_fn g;refine Calls.grown_of (aj _ _)))
    have c3:Aside (SW enc w b 0 (Array.range n) (grow (wr.drewN nq) osq)):=bM.out.grown nq osq;clear ev l2 aj bM Na Nb Nc Nd Nf rc;generalize grow (wr.drewN nq) osq=fJ at c3⊢;clear nq osq;have Ng:Aside (lM same n (dM+1+1) (dM+1) (Array.range n)):=lM.start A.out (by
     unfold ko;rw[show dM+1-1=dM from rfl,qm];simp) c9
    clear qm A
    go_wp2
    go_loopg [5,7] n (λgk sZ Zh wr=>∃(dA cb:Nat) (dk:Array Nat),sZ= .int .i64 dA/\Zh= .int .i64 cb/\1<=cb/\dM+1+cb<=n/\n-(dM+1+cb)<=gk/\dk.size=n/\Aside (SW enc w b 0 dk wr)/\Aside (lM same n (dM+1+cb) dA dk))
    case atStart=>exact⟨dM+1,1,Array.range n,rfl,rfl,Nat.le_refl _,by omega,by omega,by simp,c3,Ng⟩
    case round=>
     clear c3 Ng;obtain⟨dA,cb,dk,rfl,rfl,ab,hle,Nh,gI,nQ,ov⟩:=hrel;by_cases yC:dM+1+cb<n
     .obtain⟨gC,Zi⟩:∃gC,cb=gC+1:=⟨cb-1,by omega⟩
      subst Zi;have r6:=ov.out.lt;have ev:=nQ.out.cl ou.out (by simpa using gI) (dM+1+(gC+1)) (by omega);have l2:=nQ.out.cl ou.out (by simpa using gI) (dM+1+gC) (by omega);rw[ov.out.high _ (by omega) yC]at ev;rw[ov.out.high _ (by omega) (by omega)]at l2;simp only[Nat.zero_add]at ev l2;have aj:=SW.Mh nQ.out M_.out gI (dM+1+(gC+1)) (dM+1+gC) yC (by omega);have Na:((gC:Int)+1).toNat=gC+1:=by omega
      have Nb:(0:Int)<=(gC:Int)+1:=by omega
      have Zg:(gC:Int)+1<((n-(dM+1):Nat):Int):=by omega
      have Nc:i64.wrap ((gC:Int)+1)=(gC:Int)+1:=by rw[wrap_i64];omega
      have Nd:(0:Int)<=(gC:Int):=by omega
      have Nf:(gC:Int)<((n-(dM+1):Nat):Int):=by omega
      have rc:i64.wrap (gC:Int)=(gC:Int):=by rw[wrap_i64];omega
      have nm:ko same (dM+1+(gC+1))= !same (dM+1+(gC+1)) (dM+1+gC):=by
       unfold ko;rw[show dM+1+(gC+1)-1=dM+1+gC from by omega];simp
      generalize qm:same (dM+1+(gC+1)) (dM+1+gC)=Ni at aj nm;clear qm;have Nj:Aside (ko same (dM+1+(gC+1))= !Ni):=nm;clear nm;cases Ni with
      |true=>
       go_wp2_with fail
       go_quiet_grown (first|(go_at_fn g;refine Calls.grown_of (aj _ _)))
       have nc:Aside (SW enc w b 0 dk (grow (wr.drewN nq) osq)):=nQ.out.grown nq osq;clear ev l2 aj nQ;generalize grow (wr.drewN nq) osq=kA at nc⊢;clear nq osq;have GM:Aside (lM same n (dM+1+(gC+1+1)) dA dk):=lM.skip ov.out yC Nj.out;clear ov
       go_wp2
       go_roundg (n-(dM+1+(gC+1+1)))
       case measure=>omega
       case rel=>exact⟨dA,gC+1+1,dk,rfl,by go_num,by omega,by omega,Nat.le_refl _,gI,nc,GM⟩
      |false=>
       go_wp2_with fail
       go_quiet_grown (first|(go_at_fn g;refine Calls.grown_of (aj _ _)))
       have nc:Aside (SW enc w b 0 dk (grow (wr.drewN nq) osq)):=nQ.out.grown nq osq;clear ev l2 aj nQ;generalize grow (wr.drewN nq) osq=kA at nc⊢;clear nq osq;have GM:Aside (lM same n (dM+1+(gC+1+1)) (dA+1) (dk.setIfInBounds dA (dM+1+(gC+1)))):=lM.keep ov.out yC Nj.out;have Zj:Aside (SW enc w b 0 (dk.setIfInBounds dA (dM+1+(gC+1))) (kA.setCell ⟨b,dA,none⟩ (enc (dM+1+(gC+1))))):=by
        have:=SW.set nc.out ou.out.hblk dA (by omega) (dM+1+(gC+1));rw[Nat.zero_add]at this;exact this
       have c1:=nc.out.c1 ou.out (by simpa using gI) (dM+1+(gC+1)) (by omega);rw[ov.out.high _ (by omega) yC,Nat.zero_add]at c1;have fj:=nc.out.c1 ou.out (by simpa using gI) dA (by omega);have Zk:=nc.out.f1 ou.out (by simpa using gI) dA (by omega);rw[Nat.zero_add]at fj Zk;clear ov nc;have bT:(0:Int)<=(dA:Int):=by omega
       have Zl:(dA:Int)<(n:Int):=by omega
       have Zm:i64.wrap (dA:Int)=(dA:Int):=by rw[wrap_i64];omega
       go_wp2
       go_roundg (n-(dM+1+(gC+1+1)))
       case measure=>omega
       case rel=>exact⟨dA+1,gC+1+1,_,by go_num,by go_num,by omega,by omega,Nat.le_refl _,by simpa using gI,Zj,GM⟩
     .have rA:dM+1+cb=n:=by omega
      have r6:=ov.out.lt;have w4:∀ty,(Builtin.clear_ #[67] ty #[.slice (some ⟨b,dA,none⟩) (n-dA) (cap-dA)]).run Tryz.prog wr= .ok (.tuple #[]) (wr.setCells b dA (replicate (n-dA) (enc n))):=λty=>by
       rw[bO];exact Lib.run_clear_slice wr 67 62 ty (.slice none 0 0) Tryz.underlying67 (λw=>Tryz.zeroValue62 w) rfl rfl b dA _ _ (by omega)
        (λj bd=>by have:=nQ.out.c1 ou.out (by simpa using gI) (dA+j) (by omega);rw[Nat.zero_add]at this;rw[this];rfl)
        (λj bd=>by have:=nQ.out.f1 ou.out (by simpa using gI) (dA+j) (by omega);rw[Nat.zero_add]at this;exact this)
      obtain⟨rz,g1,g2,g3⟩:=SW.M8 ou.out.hblk n (n-dA) dA dk wr nQ.out (by omega);rw[Nat.zero_add]at g3;have Zn:Aside (SW enc w b 0 rz (wr.setCells b dA (replicate (n-dA) (enc n)))):=g3;clear g3;have bT:(0:Int)<=(dA:Int):=by omega
      have Zl:(dA:Int)<=(n:Int):=by omega
      have Zm:i64.wrap (dA:Int)=(dA:Int):=by rw[wrap_i64];omega
      go_wp2
      go_ret
      have Nk:=ov.out.low;have hlen:=ov.out.len;rw[rA]at Nk hlen;refine⟨by rw[hlen];rfl,rz,by omega,λj bd=>?_,by have:=Zn.out;rw[bO]at this;exact this⟩;rw[hlen]at bd;rw[g2 j bd,Nk j bd]
   |false=>
    rw[qm]at aj
    go_wp2_with fail
    go_quiet_grown (first|(go_at_fn g;refine Calls.grown_of (aj _ _)))
    have c3:Aside (SW enc w b 0 (Array.range n) (grow (wr.drewN nq) osq)):=bM.out.grown nq osq;clear ev l2 aj bM;generalize grow (wr.drewN nq) osq=fJ at c3⊢;clear nq osq;have C3:Aside (∀j,j<dM+1+1->ko same j=true):=λj bd=>by
     by_cases e:j=dM+1
     .subst e;unfold ko;rw[show dM+1-1=dM from rfl,qm];simp
     .exact A.out j (by omega)
    clear A qm
    go_wp2
    go_roundg (n-(dM+1+1))
    case measure=>omega
    case rel=>exact⟨dM+1+1,by omega,by omega,Nat.le_refl _,by go_num,c3,C3⟩
  .have:k=n:=by omega
   subst this;have r6:Aside ((hi same k).length=k/\hi same k=range k):=⟨by rw[EH A.out];simp,EH A.out⟩
   go_wp2
   go_ret
   refine⟨by rw[r6.out.1];rfl,Array.range k,by simp,λj bd=>?_,bM.out⟩;rw[r6.out.1]at bd;rw[r6.out.2,rl _ _ bd,getElem!_pos (range k) j (by simpa using bd)];simp
set_option maxHeartbeats 1000000 in
theorem Zo (a:Option Addr) (n cap:Nat) (w:World) (g:Nat) (ad:n<2):Calls Tryz.prog 161 #[.slice a n cap,.func (.func g) #[] #[]] w λe aB=>e= .returned (.slice a n cap)/\aB=w:=by
 have zx:(n:Int)<2:=by omega
 go_enter Tryz.func161,Tryz.ntmps161
 go_wp2
 go_ret
 exact⟨rfl,rfl⟩
end
theorem Nl {α β:Type} (f:α->β) (aN:β->β->Bool) (aR:α->α->Bool) (he:∀x y,aN (f x) (f y)=aR x y):∀(l:List α) (p:α),mI aN (f p) (l.map f)=(od aR p l).map f
 |[],_=>rfl
 |x::l,p=>by
  simp only[map_cons,mI,od,he,Nl f aN aR he l x];split<;>rfl
theorem Zp {α β:Type} (f:α->β) (aN:β->β->Bool) (aR:α->α->Bool) (he:∀x y,aN (f x) (f y)=aR x y):∀(l:List α),Gm aN (l.map f)=(hX aR l).map f
 |[]=>rfl
 |x::l=>by simp only[map_cons,Gm,hX,Nl f aN aR he l x]
theorem Zq (ob:qN=true) (aj:∀(a0 J:aiU) (r:Bool),yc a0 J=some r->aW ah 162 [.slice (a0.map bN),.slice (J.map bN)] (.bool r) []) (a0 r:aiI) (h:uZ a0=some r):
  aW ah 161 [.al 1 (a0.map gg),.fn 162 []] (.al 1 (r.map gg)) [.hole,.hole]:=by
 unfold uZ at h;split at h
 .rename_i aO;obtain⟨c9,iY⟩:=aO;have aK:=some.inj h;have R:∀p∈a0,lQ p=true:=λp au=>List.all_eq_true.1 iY p au;let xs:List ql:=a0.pmap Subtype.mk R
  have kc:xs.map Subtype.val=a0:=by simp[xs,List.map_pmap]
  have mA:(hX (λx y:ql=>(dO x.1 y.1==0)) xs).map Subtype.val=r:=by
   rw[<-aK,<-kc];refine(Zp Subtype.val pz _ (λx y=>?_) xs).symm;unfold pz;rw[GN x.1 y.1 x.2];rfl
  have:=aW.UY (C:=ah) ob (f:=161) (g:=162) (enters_of Tryz.func161 (by kernel_rfl) rfl) (enters_of Tryz.func162 (by kernel_rfl) rfl) (e:=λp:ql=>gg p.1) (λ_=>rfl)
   (λp=>⟨_,u3 p.1⟩) (λx y=>(dO x.1 y.1==0)) (λx y=>by rw[u3,u3];exact aj x.1 y.1 _ (GN x.1 y.1 x.2)) xs (by rw[<-kc,length_map]at c9;exact c9)
   (λa n cap w ad=>Zo a n cap w 162 ad)
   (λenc ab same w b n cap pf hH hblk aP tA M9 bO ad=>Zd w b n cap enc ab same 162 (enters_of Tryz.func162 (by kernel_rfl) rfl) pf hH hblk aP tA M9 bO ad)
  rw[show xs.map (λp=>gg p.1)=a0.map gg by rw[<-kc,List.map_map];rfl,show(hX (λx y:ql=>(dO x.1 y.1==0)) xs).map (λp=>gg p.1)=r.map gg by rw[<-mA,List.map_map];rfl]at this;exact this
 .cases h
end Go.Proofs.YtklcmlnabkfneaaGreat
