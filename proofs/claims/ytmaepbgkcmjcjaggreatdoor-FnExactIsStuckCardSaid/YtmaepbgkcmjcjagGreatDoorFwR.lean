/- Part of a proof that a law returns true for every input. No condition. -/
import Derived.Test.YtmaepbgkcmjcjagGreatDoorFwG
import Derived.LaidLaws
import Derived.Lib.LaidTab
import Derived.Lib.ItoaNum
import Derived.LaidSub
namespace Go.ef
open List Option Go.IntKind Nat
theorem Wf {P:Program} {W:World} {name:String} {g:Nat} {cs:Array Value} (hg:P.globalNamed name=some g) (h:W.var? P name=some cs):g<W.heap.size/\∃e fr,W.heap[g]? =some (.cells cs e fr):=by
 unfold World.var? at h;rw[hg]at h;simp only[bind_some]at h;split at h
 .rename_i c e fr he;cases h;refine⟨?_,e,fr,he⟩;rcases Nat.lt_or_ge g W.heap.size with bB|bB
  .exact bB
  .rw[Array.getElem?_eq_none bB]at he;cases he
 .cases h
theorem age {P:Program} {W:World} {l:List (String×DataW Unit)} {name:String} {x:DataW Unit} {g:Nat} {t:TypeId} {ms:Array (String×TypeId)} (o1:laidMetH P l W) (hg:P.globalNamed name=some g)
  (Nt:(P.globals[g]?).map (·.type)=some t) (ag:P.underlying t=some (.interface ms)) (an:∃j2 d,x= .iface j2 d) (bF:((l.filter λx=>x.2.handleName?.isNone).filter λx=>x.1==name)=[(name,x)]):
  g<W.heap.size/\¬False/\∃o,W.heap[g]? =some o/\Ln o:=by
 obtain⟨j2,d,rfl⟩:=an;have h:=(laidMetH_iff.1 o1).1.filter λx=>x.1==name;rw[bF]at h;obtain⟨ps,⟨Vw,Nu,cs,fuel,p,q,iy,LR,agf,al,_,_⟩,_⟩:=h;obtain rfl:=some.inj (hg.symm.trans iy);obtain rfl:=some.inj (Nt.symm.trans LR);obtain⟨_,u,v,iX,_⟩:=iface_of_trod ag al;obtain⟨ad,e,fr,ae⟩:=Wf hg agf;refine⟨ad,λh=>h,_,ae,.iface u v,cs,e,fr,rfl,?_,.inr ⟨u,v,rfl⟩⟩;rw[<-Array.getElem?_toList,iX];rfl
theorem agh {P:Program} {W:World} {l:List (String×DataW Unit)} {name:String} {x:DataW Unit} {g:Nat} {t e:TypeId} (o1:laidMetH P l W) (hg:P.globalNamed name=some g)
  (Nt:(P.globals[g]?).map (·.type)=some t) (aZ:P.underlying t=some (.array 20 e)) (he:P.underlying e=some (.int .u64)) (agi:P.cellsOf e=1) (agj:P.cellsOf t=20)
  (an:x=Lib.tabData .u64 Lib.pow10Tab) (bF:((l.filter λx=>x.2.handleName?.isNone).filter λx=>x.1==name)=[(name,x)]):
  g<W.heap.size/\¬False/\∃o,W.heap[g]? =some o/\Ha o:=by
 subst an;have h:=(laidMetH_iff.1 o1).1.filter λx=>x.1==name;rw[bF]at h;have ae:=Lib.tabIs_of_head hg Nt aZ he agi agj h;unfold Lib.TabIs at ae;obtain⟨ad,e,fr,aI⟩:=Wf hg ae;refine⟨ad,λh=>h,_,aI,e,fr,?_⟩;simp only[Lib.pow10Tab,List.map_map];rfl
end Go.ef
