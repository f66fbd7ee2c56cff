/- Part of a proof that a law returns true for every input. No condition. -/
import Derived.Shelf.SlGeneric
import Derived.Ground.SlsfProg
import Derived.Shelf.SlLaysF0
import Derived.Test.YtocllehpepigpaaGreatFwQ
import Derived.Test.YtocllehpepigpaaGreatUZ5
import Derived.Shelf.SlSortCmp.WholeK
import Derived.Test.YtocllehpepigpaaGreatFwM
import Derived.Test.YtocllehpepigpaaGreatC3
namespace Go.Proofs.YtocllehpepigpaaGreat
open Go Go.cZ Go.eN Go.Shelf
set_option maxRecDepth 100000
def Tryz.axl:Go.Shelf.Ren:=⟨fun|6=>90|15=>144|14=>143|28=>200|29=>201|20=>192|21=>193|22=>194|23=>195|24=>196|25=>197|26=>198|27=>199|46=>247|47=>248|48=>249|49=>250|50=>251|57=>285|n=>n,fun|22=>31|24=>82|25=>130|3=>3|39=>188|0=>0|53=>236|55=>238|4=>4|46=>229|45=>228|50=>233|5=>5|9=>9|66=>273|70=>277|76=>304|77=>305|n=>n,fun|n=>n⟩
theorem Tryz.Pr:Go.Proofs.SlLaysF0.n6 Tryz.prog Tryz.axl:={
 mixed:=by kernel_rfl
 f6:=⟨Tryz.f90.name,by decide,Tryz.func90.trans (congrArg some (by kernel_rfl))⟩
 f14:=⟨Tryz.f143.name,by decide,Tryz.func143.trans (congrArg some (by kernel_rfl))⟩
 f15:=Tryz.func144.trans (congrArg some (by kernel_rfl))
 f20:=⟨Tryz.f192.name,by decide,Tryz.func192.trans (congrArg some (by kernel_rfl))⟩
 f21:=⟨Tryz.f193.name,by decide,Tryz.func193.trans (congrArg some (by kernel_rfl))⟩
 f22:=⟨Tryz.f194.name,by decide,Tryz.func194.trans (congrArg some (by kernel_rfl))⟩
 f23:=⟨Tryz.f195.name,by decide,Tryz.func195.trans (congrArg some (by kernel_rfl))⟩
 f24:=⟨Tryz.f196.name,by decide,Tryz.func196.trans (congrArg some (by kernel_rfl))⟩
 f25:=⟨Tryz.f197.name,by decide,Tryz.func197.trans (congrArg some (by kernel_rfl))⟩
 f26:=⟨Tryz.f198.name,by decide,Tryz.func198.trans (congrArg some (by kernel_rfl))⟩
 f27:=⟨Tryz.f199.name,by decide,Tryz.func199.trans (congrArg some (by kernel_rfl))⟩
 f28:=Tryz.func200.trans (congrArg some (by kernel_rfl))
 f29:=Tryz.func201.trans (congrArg some (by kernel_rfl))
 f46:=⟨Tryz.f247.name,by decide,Tryz.func247.trans (congrArg some (by kernel_rfl))⟩
 f47:=Tryz.func248.trans (congrArg some (by kernel_rfl))
 f48:=Tryz.func249.trans (congrArg some (by kernel_rfl))
 f49:=⟨Tryz.f250.name,by decide,Tryz.func250.trans (congrArg some (by kernel_rfl))⟩
 f50:=⟨Tryz.f251.name,by decide,Tryz.func251.trans (congrArg some (by kernel_rfl))⟩
 f57:=⟨Tryz.f285.name,by decide,Tryz.func285.trans (congrArg some (by kernel_rfl))⟩
 t0:=Tryz.underlying0
 a0:=Tryz.isAgg0
 z0:=Tryz.sizeOf0
 v0:=Tryz.zeroValue0
 t3:=Tryz.underlying3
 a3:=Tryz.isAgg3
 z3:=Tryz.sizeOf3
 v3:=Tryz.zeroValue3
 t4:=Tryz.underlying4
 a4:=Tryz.isAgg4
 z4:=Tryz.sizeOf4
 v4:=Tryz.zeroValue4
 t5:=Tryz.underlying5
 a5:=Tryz.isAgg5
 z5:=Tryz.sizeOf5
 v5:=Tryz.zeroValue5
 t9:=Tryz.underlying9
 a9:=Tryz.isAgg9
 z9:=Tryz.sizeOf9
 v9:=Tryz.zeroValue9
 t22:=Tryz.underlying31
 a22:=Tryz.isAgg31
 z22:=Tryz.sizeOf31
 v22:=Tryz.zeroValue31
 t25:=Tryz.underlying130
 a25:=Tryz.isAgg130
 z25:=Tryz.sizeOf130
 v25:=Tryz.zeroValue130
 t39:=Tryz.underlying188
 a39:=Tryz.isAgg188
 z39:=Tryz.sizeOf188
 v39:=Tryz.zeroValue188
 t45:=Tryz.underlying228
 a45:=Tryz.isAgg228
 z45:=Tryz.sizeOf228
 v45:=Tryz.zeroValue228
 t46:=Tryz.underlying229
 a46:=Tryz.isAgg229
 z46:=Tryz.sizeOf229
 v46:=Tryz.zeroValue229
 t50:=Tryz.underlying233
 a50:=Tryz.isAgg233
 z50:=Tryz.sizeOf233
 v50:=Tryz.zeroValue233
 t53:=Tryz.underlying236
 a53:=Tryz.isAgg236
 z53:=Tryz.sizeOf236
 v53:=Tryz.zeroValue236
 t55:=Tryz.underlying238
 a55:=Tryz.isAgg238
 z55:=Tryz.sizeOf238
 v55:=Tryz.zeroValue238
 t66:=Tryz.underlying273
 a66:=Tryz.isAgg273
 z66:=Tryz.sizeOf273
 v66:=Tryz.zeroValue273
 t70:=Tryz.underlying277
 a70:=Tryz.isAgg277
 z70:=Tryz.sizeOf277
 v70:=Tryz.zeroValue277
 t76:=Tryz.underlying304
 a76:=Tryz.isAgg304
 z76:=Tryz.sizeOf304
 v76:=Tryz.zeroValue304
 t77:=Tryz.underlying305
 a77:=Tryz.isAgg305
 z77:=Tryz.sizeOf305
 v77:=Tryz.zeroValue305}
theorem axm:Go.Sort.SWO fun(x y:{p:aW//p.bS.length≤1099511627776})=>decide (gY x.1 y.1<0) where
 irrefl x:=by simp[(Ac (p:=x.1) (q:=x.1)).2 rfl]
 trans x y z h1 ah:=by
  simp only[decide_eq_true_eq]at h1 ah⊢
  have aC:=wW (p:=x.1) (q:=y.1) (r:=z.1) (by omega) (by omega)
  have a8:gY x.1 z.1≠0:=fun e=>by
   have e:=Ac.1 e
   have bK:=py x.1 y.1
   rw[←e]at ah
   omega
  omega
 ntrans x y z h1 ah:=by
  simp only[decide_eq_false_iff_not]at h1 ah⊢
  have R:=py x.1 y.1
  have a2:=py y.1 z.1
  have a3:=py x.1 z.1
  have:=wW (p:=z.1) (q:=y.1) (r:=x.1) (by omega) (by omega)
  omega
theorem axn (yG:AS=true) (aq:∀(a0 R:aW) (r:Int),zD a0 R=some r→bl aB 91 [bD a0,bD R] (.int .i64 r) []) (a0 r:List aW) (h:wP a0=some r):
  bl aB 90 [.an 3 (a0.map b6),.fn 91 []] (.tuple []) [.an 3 (r.map b6),.hole]:=by
 unfold wP at h
 split at h
 ·rename_i hl
  obtain⟨df,e7,kR⟩:=hl
  have aX:=Option.some.inj h
  have ae:∀p∈a0,p.bS.length≤1099511627776:=fun p au=>by
   have:=List.all_eq_true.1 kR p au
   simpa using this
  let xs:List {p:aW//p.bS.length≤1099511627776}:=a0.pmap Subtype.mk ae
  have mA:xs.map Subtype.val=a0:=by simp[xs,List.map_pmap]
  let ys:=xs.mergeSort fun x y=>decide (gY x.1 y.1≤0)
  have tv:ys.map Subtype.val=r:=by
   rw[←aX,←mA]
   refine List.map_mergeSort fun a _ b _=> ?_
   unfold zE
   rw[H9 a.1 b.1 a.2];rfl
  have Gt:∀a b c:{p:aW//p.bS.length≤1099511627776},decide (gY a.1 b.1≤0)=true→decide (gY b.1 c.1≤0)=true→decide (gY a.1 c.1≤0)=true:=fun a b c h1 ah=>by
   simp only[decide_eq_true_eq]at h1 ah⊢
   exact wW h1 ah
  have axo:∀a b:{p:aW//p.bS.length≤1099511627776},(decide (gY a.1 b.1≤0)||decide (gY b.1 a.1≤0))=true:=fun a b=>by
   have:=py a.1 b.1
   simp only[Bool.or_eq_true,decide_eq_true_eq]
   omega
  have:=bl.WW (C:=aB) yG (f:=90) (g:=91) (fun args w=>Tryz.Pr.f6.enters rfl args w) (enters_of Tryz.func91 (by kernel_rfl) rfl) (e:=fun p:{p:aW//p.bS.length≤1099511627776}=>b6 p.1) (k:=3) (fun _=>rfl)
   (fun p=>by rw[jY];exact⟨_,rfl⟩) (fun x y=>gY x.1 y.1) (fun x y=>by rw[jY,jY];exact aq x.1 y.1 _ (H9 x.1 y.1 x.2)) axm xs ys
   (fun e=>df (by rw[←mA,e];rfl)) (by rw[←mA,List.length_map]at e7;exact e7)
   (fun eG au ag=>by
    refine List.Perm.eq_of_pairwise (le:=fun a b=>gY a.1 b.1≤0) (fun a b _ _ h1 ah=>Subtype.ext (Ac.1 (by have:=py a.1 b.1;omega))) (ag.imp fun {a b} h=>by have:=py a.1 b.1;omega) ?_ (au.trans (List.mergeSort_perm xs _).symm)
    exact(List.pairwise_mergeSort Gt axo xs).imp fun {a b} h=>by simpa using h)
   (fun enc hk h1 yJ yI w b cap d Hn hH hblk dR=>AnyQ.slices_SortFunc Tryz.Pr 3 (fun w=>Tryz.isAgg82 w) (fun w=>Tryz.sizeOf82 w) enc hk h1 yJ yI 91 #[] b 0 cap d w (enters_of Tryz.func91 (by kernel_rfl) rfl) Hn hH hblk dR)
  rw[show xs.map (fun p=>b6 p.1)=a0.map b6 by rw[←mA,List.map_map];rfl,show ys.map (fun p=>b6 p.1)=r.map b6 by rw[←tv,List.map_map];rfl]at this
  exact this
 ·cases h
end Go.Proofs.YtocllehpepigpaaGreat
