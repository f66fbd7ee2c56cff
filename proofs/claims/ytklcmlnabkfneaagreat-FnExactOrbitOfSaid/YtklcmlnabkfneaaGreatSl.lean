/- Part of a proof that a law returns true for every input. No condition. -/
import Derived.Shelf.SlGeneric
import Derived.Ground.SlsfProg
import Derived.Shelf.SlLaysF
import Derived.Test.YtklcmlnabkfneaaGreatFwQ
import Derived.Test.YtklcmlnabkfneaaGreatFwX
import Derived.Test.YtklcmlnabkfneaaGreatUV0x
import Derived.Shelf.SlSortCmp.Whole1
import Derived.WalkKit
import Derived.Deep.LoopGhost
import Derived.Deep.Draws
import Derived.Lib.Walk
import Derived.Sort.WalkB12
import Derived.Lib.SliceRun
import Derived.Lib.SlicesS
import Derived.Shelf.RegionOpenPlain
import Derived.Test.YtklcmlnabkfneaaGreatFwM
import Derived.Test.YtklcmlnabkfneaaGreatC7
namespace Go.Proofs.YtklcmlnabkfneaaGreat
open List Option Go.IntKind Nat Or
open Go Go.de Go.l3 Go.Shelf
set_option maxRecDepth 100000
def Tryz.ab6:Go.Shelf.Ren:=⟨λ|6=>159|15=>209|14=>223|28=>262|29=>263|20=>278|21=>279|22=>280|23=>281|24=>282|25=>283|26=>284|27=>285|46=>306|47=>294|48=>295|49=>307|50=>308|57=>317|n=>n,λ|22=>67|24=>62|25=>203|3=>3|39=>238|0=>0|53=>288|55=>290|4=>4|46=>280|45=>279|50=>285|5=>5|9=>9|66=>312|70=>316|76=>328|77=>329|n=>n,λ|n=>n⟩
theorem Tryz.Ph:Go.Proofs.SlLaysF.n6 Tryz.prog Tryz.ab6:={
 mixed:=by kernel_rfl
 f6:=⟨Tryz.f159.name,by decide,Tryz.func159.trans (congrArg some (by kernel_rfl))⟩
 f14:=⟨Tryz.f223.name,by decide,Tryz.func223.trans (congrArg some (by kernel_rfl))⟩
 f15:=Tryz.func209.trans (congrArg some (by kernel_rfl))
 f20:=⟨Tryz.f278.name,by decide,Tryz.func278.trans (congrArg some (by kernel_rfl))⟩
 f21:=⟨Tryz.f279.name,by decide,Tryz.func279.trans (congrArg some (by kernel_rfl))⟩
 f22:=⟨Tryz.f280.name,by decide,Tryz.func280.trans (congrArg some (by kernel_rfl))⟩
 f23:=⟨Tryz.f281.name,by decide,Tryz.func281.trans (congrArg some (by kernel_rfl))⟩
 f24:=⟨Tryz.f282.name,by decide,Tryz.func282.trans (congrArg some (by kernel_rfl))⟩
 f25:=⟨Tryz.f283.name,by decide,Tryz.func283.trans (congrArg some (by kernel_rfl))⟩
 f26:=⟨Tryz.f284.name,by decide,Tryz.func284.trans (congrArg some (by kernel_rfl))⟩
 f27:=⟨Tryz.f285.name,by decide,Tryz.func285.trans (congrArg some (by kernel_rfl))⟩
 f28:=Tryz.func262.trans (congrArg some (by kernel_rfl))
 f29:=Tryz.func263.trans (congrArg some (by kernel_rfl))
 f46:=⟨Tryz.f306.name,by decide,Tryz.func306.trans (congrArg some (by kernel_rfl))⟩
 f47:=Tryz.func294.trans (congrArg some (by kernel_rfl))
 f48:=Tryz.func295.trans (congrArg some (by kernel_rfl))
 f49:=⟨Tryz.f307.name,by decide,Tryz.func307.trans (congrArg some (by kernel_rfl))⟩
 f50:=⟨Tryz.f308.name,by decide,Tryz.func308.trans (congrArg some (by kernel_rfl))⟩
 f57:=⟨Tryz.f317.name,by decide,Tryz.func317.trans (congrArg some (by kernel_rfl))⟩
 t0:=Tryz.underlying0
 a0:=Tryz.isAgg0
 z0:=Tryz.sizeOf0
 v0:=Tryz.zeroValue0
 t3:=Tryz.underlying3
 a3:=Tryz.isAgg3
 z3:=Tryz.sizeOf3
 v3:=Tryz.zeroValue3
 t4:=Tryz.underlying4
 a4:=Tryz.isAgg4
 z4:=Tryz.sizeOf4
 v4:=Tryz.zeroValue4
 t5:=Tryz.underlying5
 a5:=Tryz.isAgg5
 z5:=Tryz.sizeOf5
 v5:=Tryz.zeroValue5
 t9:=Tryz.underlying9
 a9:=Tryz.isAgg9
 z9:=Tryz.sizeOf9
 v9:=Tryz.zeroValue9
 t22:=Tryz.underlying67
 a22:=Tryz.isAgg67
 z22:=Tryz.sizeOf67
 v22:=Tryz.zeroValue67
 a24:=Tryz.isAgg62
 z24:=Tryz.sizeOf62
 t25:=Tryz.underlying203
 a25:=Tryz.isAgg203
 z25:=Tryz.sizeOf203
 v25:=Tryz.zeroValue203
 t39:=Tryz.underlying238
 a39:=Tryz.isAgg238
 z39:=Tryz.sizeOf238
 v39:=Tryz.zeroValue238
 t45:=Tryz.underlying279
 a45:=Tryz.isAgg279
 z45:=Tryz.sizeOf279
 v45:=Tryz.zeroValue279
 t46:=Tryz.underlying280
 a46:=Tryz.isAgg280
 z46:=Tryz.sizeOf280
 v46:=Tryz.zeroValue280
 t50:=Tryz.underlying285
 a50:=Tryz.isAgg285
 z50:=Tryz.sizeOf285
 v50:=Tryz.zeroValue285
 t53:=Tryz.underlying288
 a53:=Tryz.isAgg288
 z53:=Tryz.sizeOf288
 v53:=Tryz.zeroValue288
 t55:=Tryz.underlying290
 a55:=Tryz.isAgg290
 z55:=Tryz.sizeOf290
 v55:=Tryz.zeroValue290
 t66:=Tryz.underlying312
 a66:=Tryz.isAgg312
 z66:=Tryz.sizeOf312
 v66:=Tryz.zeroValue312
 t70:=Tryz.underlying316
 a70:=Tryz.isAgg316
 z70:=Tryz.sizeOf316
 v70:=Tryz.zeroValue316
 t76:=Tryz.underlying328
 a76:=Tryz.isAgg328
 z76:=Tryz.sizeOf328
 v76:=Tryz.zeroValue328
 t77:=Tryz.underlying329
 a77:=Tryz.isAgg329
 z77:=Tryz.sizeOf329
 v77:=Tryz.zeroValue329}
abbrev rk:={p:aml//mz p=true}
theorem ab7:Go.Sort.SWO (λx y:rk=>decide (ek x.1 y.1<0)) where
 irrefl x:=by simp[(sA (a:=x.1) (b:=x.1)).2 rfl]
 trans x y z ab ae:=by
  simp only[decide_eq_true_eq]at ab ae⊢;have az:=wB (a:=x.1) (b:=y.1) (c:=z.1) (by omega) (by omega);have a6:ek x.1 z.1≠0:=λe=>by
   have e:=sA.1 e;have bF:=mZ x.1 y.1;rw[<-e]at ae;omega
  omega
 ntrans x y z ab ae:=by
  simp only[decide_eq_false_iff_not]at ab ae⊢;have J:=mZ x.1 y.1;have a2:=mZ y.1 z.1;have a3:=mZ x.1 z.1;have:=wB (a:=z.1) (b:=y.1) (c:=x.1) (by omega) (by omega);omega
theorem wC (x:aml):(ew x).share= .slice (x.map c6):=by rw[Dn];rfl
theorem ab8 (o2:rR=true) (an:∀(a0 J:aml) (r:Int),v8 a0 J=some r->aY ak 160 [.slice (a0.map c6),.slice (J.map c6)] (.int .i64 r) []) (a0 r:alZ) (h:v_ a0=some r):
  aY ak 159 [.ag 1 (a0.map ew),.fn 160 []] (.tuple []) [.ag 1 (r.map ew),.hole]:=by
 unfold v_ at h;split at h
 .rename_i hl;obtain⟨cY,dv,jv⟩:=hl;have aM:=some.inj h;have R:∀p∈a0,mz p=true:=λp aq=>List.all_eq_true.1 jv p aq;let xs:List rk:=a0.pmap Subtype.mk R
  have kL:xs.map Subtype.val=a0:=by simp[xs,List.map_pmap]
  let ys:=xs.mergeSort λx y=>decide (ek x.1 y.1<=0)
  have ny:ys.map Subtype.val=r:=by
   rw[<-aM,<-kL];refine map_mergeSort λa _ b _=>?_;unfold zB;rw[Dq a.1 b.1 a.2];rfl
  have FC:∀a b c:rk,decide (ek a.1 b.1<=0)=true->decide (ek b.1 c.1<=0)=true->decide (ek a.1 c.1<=0)=true:=λa b c ab ae=>by
   simp only[decide_eq_true_eq]at ab ae⊢;exact wB ab ae
  have ab9:∀a b:rk,(decide (ek a.1 b.1<=0)||decide (ek b.1 a.1<=0))=true:=λa b=>by
   have:=mZ a.1 b.1;simp only[Bool.or_eq_true,decide_eq_true_eq];omega
  have:=aY.Xn (C:=ak) o2 (f:=159) (g:=160) (λargs w=>Tryz.Ph.f6.enters rfl args w) (enters_of Tryz.func160 (by kernel_rfl) rfl) (e:=λp:rk=>ew p.1) (λ_=>rfl)
   (λp=>⟨_,wC p.1⟩) (λx y=>ek x.1 y.1) (λx y=>by rw[wC,wC];exact an x.1 y.1 _ (Dq x.1 y.1 x.2)) ab7 xs ys
   (λe=>cY (by rw[<-kL,e];rfl)) (by rw[<-kL,length_map]at dv;exact dv)
   (λen aq ad=>by
    refine Perm.eq_of_pairwise (le:=λa b=>ek a.1 b.1<=0) (λa b _ _ ab ae=>Subtype.ext (sA.1 (by have:=mZ a.1 b.1;omega))) (ad.imp λ{a b} h=>by have:=mZ a.1 b.1;omega) ?_ (aq.trans (mergeSort_perm xs _).symm);exact(pairwise_mergeSort FC ab9 xs).imp λ{a b} h=>by simpa using h)
   (λenc ab yA hO w b cap d qb hH hblk ea=>Any.slices_SortFunc Tryz.Ph enc ab yA hO 160 #[] b 0 cap d w (enters_of Tryz.func160 (by kernel_rfl) rfl) qb hH hblk ea)
  rw[show xs.map (λp=>ew p.1)=a0.map ew by rw[<-kL,List.map_map];rfl,show ys.map (λp=>ew p.1)=r.map ew by rw[<-ny,List.map_map];rfl]at this;exact this
 .cases h
section
open Go.Proofs Go.Lib Go.RowKit Go.Sort
theorem SW.set {enc:Nat->Value} {w0 W:World} {b:Nat} {dk:Array Nat} (h:SW enc w0 b 0 dk W) (hblk:b<w0.heap.size) (i:Nat) (ao:i<dk.size) (x:Nat):SW enc w0 b 0 (dk.setIfInBounds i x) (W.setCell ⟨b,0+i,none⟩ (enc x)):=by
 obtain⟨n,os,rfl⟩:=h;refine⟨n,os,?_⟩;unfold sortWorld;rw[<-putRow_grow enc (Sort.ahead w0 n) os b 0 dk hblk,putRow_set enc _ b 0 dk i x ao,putRow_grow enc (Sort.ahead w0 n) os b 0 _ hblk]
theorem SW.Pj {enc:Nat->Value} {w0:World} {b:Nat} (hblk:b<w0.heap.size) (z:Nat):∀(m k:Nat) (dk:Array Nat) (W:World),SW enc w0 b 0 dk W->k+m<=dk.size->
  ∃sB,sB.size=dk.size/\(∀j,j<k->sB[j]! =dk[j]!)/\SW enc w0 b 0 sB (W.setCells b (0+k) (replicate m (enc z)))
 |0,k,dk,W,h,_=>⟨dk,rfl,λ_ _=>rfl,h⟩
 |m+1,k,dk,W,h,ax=>by
  have ab:=SW.set h hblk k (by omega) z;obtain⟨sB,g1,g2,g3⟩:=SW.Pj hblk z m (k+1) _ _ ab (by rw[Array.size_setIfInBounds];omega);refine⟨sB,by simpa using g1,λj bm=>?_,?_⟩
  .rw[g2 j (by omega),getElem!_pos _ j (by simp;omega),getElem!_pos dk j (by omega),Array.getElem_setIfInBounds,if_neg (by omega)]
  .rw[replicate_succ];simp only[World.setCells];rw[show 0+k+1=0+(k+1) by omega];exact g3
set_option maxHeartbeats 4000000 in
set_option maxRecDepth 1000000 in
theorem ab_ (w:World) (b n cap:Nat) (enc:Nat->Value) (hO:OneCell enc) (same:Nat->Nat->Bool) (g:Nat) (alu:∀args w,(callFunc g args).run Tryz.prog w= .ok (.enter g args) w)
  (qb:yu Tryz.prog g enc same b n w) (hH:Holds enc w b 0 (Array.range n)) (hblk:b<w.heap.size) (aS:n<=4611686018427387904) (uQ:n<=cap) (Pk:cap<=9223372036854775807) (bZ:enc n= .slice none 0 0) (ae:2<=n):
  Calls Tryz.prog 161 #[.slice (some ⟨b,0,none⟩) n cap,.func (.func g) #[] #[]] w λe aF=>e= .returned (.slice (some ⟨b,0,none⟩) (hR same n).length cap)/\
   ∃dk,dk.size=n/\(∀j,j<(hR same n).length->dk[j]! =(hR same n)[j]!)/\SW enc w b 0 dk aF:=by
 have mixed:Tryz.prog.follows Departure.mixedOrders=true:=by kernel_rfl
 have gF:Row1 enc w b 0 (Array.range n):=⟨hO,hH,hblk⟩
 have Pl:Aside (yu Tryz.prog g enc same b n w):=qb;have pf:Aside (Row1 enc w b 0 (Array.range n)):=gF;have dx:Aside (SW enc w b 0 (Array.range n) w):=⟨0,#[],by
  rw[sortWorld,grow_empty];exact(putRow_self enc w b 0 _ hH).symm⟩
 clear qb hH gF;have aca:=hO.cells;simp only[Value.cells]at aca;have z8:=hO.store Tryz.prog
 go_enter Tryz.func161,Tryz.ntmps161
 go_wp2
 go_loopg [5] n (λgk ub wr=>∃k:Nat,1<=k/\k<=n/\n-k<=gk/\ub= .int .i64 k/\Aside (SW enc w b 0 (Array.range n) wr)/\Aside (∀j,j<k->kW same j=true))
 case atStart=>exact⟨1,Nat.le_refl _,by omega,by omega,rfl,dx,λj bm=>by rw[show j=0 by omega];rfl⟩
 case round=>
  clear dx;obtain⟨k,yk,ax,bR,rfl,b5,A⟩:=hrel;by_cases dv:k<n
  .obtain⟨ej,acb⟩:∃ej,k=ej+1:=⟨k-1,by omega⟩
   subst acb;have eV:=b5.out.cl pf.out (by simp) (ej+1) (by simpa using dv);have l2:=b5.out.cl pf.out (by simp) ej (by simp;omega);rw[sn _ _ dv]at eV;rw[sn _ _ (by omega)]at l2;simp only[Nat.zero_add]at eV l2;have an:=SW.Ov b5.out Pl.out (by simp) (ej+1) ej dv (by omega);have Pm:((ej:Int)+1).toNat=ej+1:=by omega
   have Pn:(0:Int)<=(ej:Int)+1:=by omega
   have acd:(ej:Int)+1<(n:Int):=by omega
   have Po:i64.wrap ((ej:Int)+1)=(ej:Int)+1:=by rw[wrap_i64];omega
   have Pp:(0:Int)<=(ej:Int):=by omega
   have Pq:(ej:Int)<(n:Int):=by omega
   have rc:i64.wrap (ej:Int)=(ej:Int):=by rw[wrap_i64];omega
   cases rl:same (ej+1) ej with
   |true=>
    rw[rl]at an
    go_wp2_with fail
    go_quiet_grown (first|(go_at_fn g;refine Calls.grown_of (an _ _)))
    have dg:Aside (SW enc w b 0 (Array.range n) (grow (wr.drewN nq) osq)):=b5.out.grown nq osq;clear eV l2 an b5 Pm Pn Po Pp Pq rc;generalize grow (wr.drewN nq) osq=eY at dg⊢;clear nq osq;have Pr:Aside (mu same n (ej+1+1) (ej+1) (Array.range n)):=mu.start A.out (by
     unfold kW;rw[show ej+1-1=ej from rfl,rl];simp) dv
    clear rl A
    go_wp2
    go_loopg [5,7] n (λgk ub ace wr=>∃(dX cc:Nat) (dk:Array Nat),ub= .int .i64 dX/\ace= .int .i64 cc/\1<=cc/\ej+1+cc<=n/\n-(ej+1+cc)<=gk/\dk.size=n/\Aside (SW enc w b 0 dk wr)/\Aside (mu same n (ej+1+cc) dX dk))
    case atStart=>exact⟨ej+1,1,Array.range n,rfl,rfl,Nat.le_refl _,by omega,by omega,by simp,dg,Pr⟩
    case round=>
     clear dg Pr;obtain⟨dX,cc,dk,rfl,rfl,ab,hle,Ps,hf,oH,pg⟩:=hrel;by_cases z_:ej+1+cc<n
     .obtain⟨gY,acf⟩:∃gY,cc=gY+1:=⟨cc-1,by omega⟩
      subst acf;have s8:=pg.out.lt;have eV:=oH.out.cl pf.out (by simpa using hf) (ej+1+(gY+1)) (by omega);have l2:=oH.out.cl pf.out (by simpa using hf) (ej+1+gY) (by omega);rw[pg.out.high _ (by omega) z_]at eV;rw[pg.out.high _ (by omega) (by omega)]at l2;simp only[Nat.zero_add]at eV l2;have an:=SW.Ov oH.out Pl.out hf (ej+1+(gY+1)) (ej+1+gY) z_ (by omega);have Pm:((gY:Int)+1).toNat=gY+1:=by omega
      have Pn:(0:Int)<=(gY:Int)+1:=by omega
      have acd:(gY:Int)+1<((n-(ej+1):Nat):Int):=by omega
      have Po:i64.wrap ((gY:Int)+1)=(gY:Int)+1:=by rw[wrap_i64];omega
      have Pp:(0:Int)<=(gY:Int):=by omega
      have Pq:(gY:Int)<((n-(ej+1):Nat):Int):=by omega
      have rc:i64.wrap (gY:Int)=(gY:Int):=by rw[wrap_i64];omega
      have n_:kW same (ej+1+(gY+1))= !same (ej+1+(gY+1)) (ej+1+gY):=by
       unfold kW;rw[show ej+1+(gY+1)-1=ej+1+gY from by omega];simp
      generalize rl:same (ej+1+(gY+1)) (ej+1+gY)=Pt at an n_;clear rl;have Pu:Aside (kW same (ej+1+(gY+1))= !Pt):=n_;clear n_;cases Pt with
      |true=>
       go_wp2_with fail
       go_quiet_grown (first|(go_at_fn g;refine Calls.grown_of (an _ _)))
       have n0:Aside (SW enc w b 0 dk (grow (wr.drewN nq) osq)):=oH.out.grown nq osq;clear eV l2 an oH;generalize grow (wr.drewN nq) osq=jj at n0⊢;clear nq osq;have IM:Aside (mu same n (ej+1+(gY+1+1)) dX dk):=mu.skip pg.out z_ Pu.out;clear pg
       go_wp2
       go_roundg (n-(ej+1+(gY+1+1)))
       case measure=>omega
       case rel=>exact⟨dX,gY+1+1,dk,rfl,by go_num,by omega,by omega,Nat.le_refl _,hf,n0,IM⟩
      |false=>
       go_wp2_with fail
       go_quiet_grown (first|(go_at_fn g;refine Calls.grown_of (an _ _)))
       have n0:Aside (SW enc w b 0 dk (grow (wr.drewN nq) osq)):=oH.out.grown nq osq;clear eV l2 an oH;generalize grow (wr.drewN nq) osq=jj at n0⊢;clear nq osq;have IM:Aside (mu same n (ej+1+(gY+1+1)) (dX+1) (dk.setIfInBounds dX (ej+1+(gY+1)))):=mu.keep pg.out z_ Pu.out;have acg:Aside (SW enc w b 0 (dk.setIfInBounds dX (ej+1+(gY+1))) (jj.setCell ⟨b,dX,none⟩ (enc (ej+1+(gY+1))))):=by
        have:=SW.set n0.out pf.out.hblk dX (by omega) (ej+1+(gY+1));rw[Nat.zero_add]at this;exact this
       have c1:=n0.out.c1 pf.out (by simpa using hf) (ej+1+(gY+1)) (by omega);rw[pg.out.high _ (by omega) z_,Nat.zero_add]at c1;have fG:=n0.out.c1 pf.out (by simpa using hf) dX (by omega);have ach:=n0.out.f1 pf.out (by simpa using hf) dX (by omega);rw[Nat.zero_add]at fG ach;clear pg n0;have cb:(0:Int)<=(dX:Int):=by omega
       have aci:(dX:Int)<(n:Int):=by omega
       have acj:i64.wrap (dX:Int)=(dX:Int):=by rw[wrap_i64];omega
       go_wp2
       go_roundg (n-(ej+1+(gY+1+1)))
       case measure=>omega
       case rel=>exact⟨dX+1,gY+1+1,_,by go_num,by go_num,by omega,by omega,Nat.le_refl _,by simpa using hf,acg,IM⟩
     .have sC:ej+1+cc=n:=by omega
      have s8:=pg.out.lt;have yw:∀ty,(Builtin.clear_ #[67] ty #[.slice (some ⟨b,dX,none⟩) (n-dX) (cap-dX)]).run Tryz.prog wr= .ok (.tuple #[]) (wr.setCells b dX (replicate (n-dX) (enc n))):=λty=>by
       rw[bZ];exact Lib.run_clear_slice wr 67 62 ty (.slice none 0 0) Tryz.underlying67 (λw=>Tryz.zeroValue62 w) rfl rfl b dX _ _ (by omega)
        (λj bm=>by have:=oH.out.c1 pf.out (by simpa using hf) (dX+j) (by omega);rw[Nat.zero_add]at this;rw[this];rfl)
        (λj bm=>by have:=oH.out.f1 pf.out (by simpa using hf) (dX+j) (by omega);rw[Nat.zero_add]at this;exact this)
      obtain⟨sB,g1,g2,g3⟩:=SW.Pj pf.out.hblk n (n-dX) dX dk wr oH.out (by omega);rw[Nat.zero_add]at g3;have ack:Aside (SW enc w b 0 sB (wr.setCells b dX (replicate (n-dX) (enc n)))):=g3;clear g3;have cb:(0:Int)<=(dX:Int):=by omega
      have aci:(dX:Int)<=(n:Int):=by omega
      have acj:i64.wrap (dX:Int)=(dX:Int):=by rw[wrap_i64];omega
      go_wp2
      go_ret
      have Pv:=pg.out.low;have hlen:=pg.out.len;rw[sC]at Pv hlen;refine⟨by rw[hlen];rfl,sB,by omega,λj bm=>?_,by have:=ack.out;rw[bZ]at this;exact this⟩;rw[hlen]at bm;rw[g2 j bm,Pv j bm]
   |false=>
    rw[rl]at an
    go_wp2_with fail
    go_quiet_grown (first|(go_at_fn g;refine Calls.grown_of (an _ _)))
    have dg:Aside (SW enc w b 0 (Array.range n) (grow (wr.drewN nq) osq)):=b5.out.grown nq osq;clear eV l2 an b5;generalize grow (wr.drewN nq) osq=eY at dg⊢;clear nq osq;have EG:Aside (∀j,j<ej+1+1->kW same j=true):=λj bm=>by
     by_cases e:j=ej+1
     .subst e;unfold kW;rw[show ej+1-1=ej from rfl,rl];simp
     .exact A.out j (by omega)
    clear A rl
    go_wp2
    go_roundg (n-(ej+1+1))
    case measure=>omega
    case rel=>exact⟨ej+1+1,by omega,by omega,Nat.le_refl _,by go_num,dg,EG⟩
  .have:k=n:=by omega
   subst this;have s8:Aside ((hR same k).length=k/\hR same k=range k):=⟨by rw[Gt A.out];simp,Gt A.out⟩
   go_wp2
   go_ret
   refine⟨by rw[s8.out.1];rfl,Array.range k,by simp,λj bm=>?_,b5.out⟩;rw[s8.out.1]at bm;rw[s8.out.2,sn _ _ bm,getElem!_pos (range k) j (by simpa using bm)];simp
set_option maxHeartbeats 1000000 in
theorem acm (a:Option Addr) (n cap:Nat) (w:World) (g:Nat) (ae:n<2):Calls Tryz.prog 161 #[.slice a n cap,.func (.func g) #[] #[]] w λe aF=>e= .returned (.slice a n cap)/\aF=w:=by
 have Bb:(n:Int)<2:=by omega
 go_enter Tryz.func161,Tryz.ntmps161
 go_wp2
 go_ret
 exact⟨rfl,rfl⟩
end
theorem Pw {α β:Type} (f:α->β) (aR:β->β->Bool) (aV:α->α->Bool) (he:∀x y,aR (f x) (f y)=aV x y):∀(l:List α) (p:α),nG aR (f p) (l.map f)=(o4 aV p l).map f
 |[],_=>rfl
 |x::l,p=>by
  simp only[map_cons,nG,o4,he,Pw f aR aV he l x];split<;>rfl
theorem acn {α β:Type} (f:α->β) (aR:β->β->Bool) (aV:α->α->Bool) (he:∀x y,aR (f x) (f y)=aV x y):∀(l:List α),H4 aR (l.map f)=(iB aV l).map f
 |[]=>rfl
 |x::l=>by simp only[map_cons,H4,iB,Pw f aR aV he l x]
theorem aco (o2:rR=true) (an:∀(a0 J:aml) (r:Bool),zC a0 J=some r->aY ak 162 [.slice (a0.map c6),.slice (J.map c6)] (.bool r) []) (a0 r:alZ) (h:wa a0=some r):
  aY ak 161 [.ag 1 (a0.map ew),.fn 162 []] (.ag 1 (r.map ew)) [.hole,.hole]:=by
 unfold wa at h;split at h
 .rename_i hl;obtain⟨dv,jv⟩:=hl;have aM:=some.inj h;have R:∀p∈a0,mz p=true:=λp aq=>List.all_eq_true.1 jv p aq;let xs:List rk:=a0.pmap Subtype.mk R
  have kL:xs.map Subtype.val=a0:=by simp[xs,List.map_pmap]
  have ny:(iB (λx y:rk=>(ek x.1 y.1==0)) xs).map Subtype.val=r:=by
   rw[<-aM,<-kL];refine(acn Subtype.val qq _ (λx y=>?_) xs).symm;unfold qq;rw[IP x.1 y.1 x.2];rfl
  have:=aY.Xv (C:=ak) o2 (f:=161) (g:=162) (enters_of Tryz.func161 (by kernel_rfl) rfl) (enters_of Tryz.func162 (by kernel_rfl) rfl) (e:=λp:rk=>ew p.1) (λ_=>rfl)
   (λp=>⟨_,wC p.1⟩) (λx y=>(ek x.1 y.1==0)) (λx y=>by rw[wC,wC];exact an x.1 y.1 _ (IP x.1 y.1 x.2)) xs (by rw[<-kL,length_map]at dv;exact dv)
   (λa n cap w ae=>acm a n cap w 162 ae)
   (λenc ab same w b n cap qb hH hblk aS uQ Pk bZ ae=>ab_ w b n cap enc ab same 162 (enters_of Tryz.func162 (by kernel_rfl) rfl) qb hH hblk aS uQ Pk bZ ae)
  rw[show xs.map (λp=>ew p.1)=a0.map ew by rw[<-kL,List.map_map];rfl,show(iB (λx y:rk=>(ek x.1 y.1==0)) xs).map (λp=>ew p.1)=r.map ew by rw[<-ny,List.map_map];rfl]at this;exact this
 .cases h
end Go.Proofs.YtklcmlnabkfneaaGreat
