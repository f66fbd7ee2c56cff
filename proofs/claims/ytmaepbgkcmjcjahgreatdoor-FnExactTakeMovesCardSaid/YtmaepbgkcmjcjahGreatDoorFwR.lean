/- Part of a proof that a law returns true for every input. No condition. -/
import Derived.Test.YtmaepbgkcmjcjahGreatDoorFwG
import Derived.LaidLaws
import Derived.Lib.LaidTab
import Derived.Lib.ItoaNum
import Derived.LaidSub
namespace Go.ei
open List Option Go.IntKind Nat Or
theorem Yu {P:Program} {W:World} {name:String} {g:Nat} {cs:Array Value} (hg:P.globalNamed name=some g) (h:W.var? P name=some cs):g<W.heap.size/\∃e fr,W.heap[g]? =some (.cells cs e fr):=by
 unfold World.var? at h;rw[hg]at h;simp only[bind_some]at h;split at h
 .rename_i c e fr he;cases h;refine⟨?_,e,fr,he⟩;rcases Nat.lt_or_ge g W.heap.size with bF|bF
  .exact bF
  .rw[Array.getElem?_eq_none bF]at he;cases he
 .cases h
theorem ah5 {P:Program} {W:World} {l:List (String×DataW Unit)} {name:String} {x:DataW Unit} {g:Nat} {t:TypeId} {ms:Array (String×TypeId)} (nC:laidMetH P l W) (hg:P.globalNamed name=some g)
  (O0:(P.globals[g]?).map (·.type)=some t) (ai:P.underlying t=some (.interface ms)) (aq:∃ky d,x= .iface ky d) (bH:((l.filter λx=>x.2.handleName?.isNone).filter λx=>x.1==name)=[(name,x)]):
  g<W.heap.size/\¬False/\∃o,W.heap[g]? =some o/\ML o:=by
 obtain⟨ky,d,rfl⟩:=aq;have h:=(laidMetH_iff.1 nC).1.filter λx=>x.1==name;rw[bH]at h;obtain⟨ps,⟨XN,O1,cs,fuel,p,q,iX,Nf,ah6,ao,_,_⟩,_⟩:=h;obtain rfl:=some.inj (hg.symm.trans iX);obtain rfl:=some.inj (O0.symm.trans Nf);obtain⟨_,u,v,ib,_⟩:=iface_of_trod ai ao;obtain⟨ad,e,fr,ag⟩:=Yu hg ah6;refine⟨ad,λh=>h,_,ag,.iface u v,cs,e,fr,rfl,?_,.inr ⟨u,v,rfl⟩⟩;rw[<-Array.getElem?_toList,ib];rfl
theorem ah7 {P:Program} {W:World} {l:List (String×DataW Unit)} {name:String} {x:DataW Unit} {g:Nat} {t e:TypeId} (nC:laidMetH P l W) (hg:P.globalNamed name=some g)
  (O0:(P.globals[g]?).map (·.type)=some t) (bb:P.underlying t=some (.array 20 e)) (he:P.underlying e=some (.int .u64)) (ah8:P.cellsOf e=1) (ah9:P.cellsOf t=20)
  (aq:x=Lib.tabData .u64 Lib.pow10Tab) (bH:((l.filter λx=>x.2.handleName?.isNone).filter λx=>x.1==name)=[(name,x)]):
  g<W.heap.size/\¬False/\∃o,W.heap[g]? =some o/\IC o:=by
 subst aq;have h:=(laidMetH_iff.1 nC).1.filter λx=>x.1==name;rw[bH]at h;have ag:=Lib.tabIs_of_head hg O0 bb he ah8 ah9 h;unfold Lib.TabIs at ag;obtain⟨ad,e,fr,aD⟩:=Yu hg ag;refine⟨ad,λh=>h,_,aD,e,fr,?_⟩;simp only[Lib.pow10Tab,List.map_map];rfl
end Go.ei
