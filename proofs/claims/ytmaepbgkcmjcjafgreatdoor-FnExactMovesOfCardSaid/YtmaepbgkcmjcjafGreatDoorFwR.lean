/- Part of a proof that a law returns true for every input. No condition. -/
import Derived.Test.YtmaepbgkcmjcjafGreatDoorFwG
import Derived.LaidLaws
import Derived.Lib.LaidTab
import Derived.Lib.ItoaNum
import Derived.LaidSub
namespace Go.eg
open List Option Go.IntKind Nat
theorem Xx {P:Program} {W:World} {name:String} {g:Nat} {cs:Array Value} (hg:P.globalNamed name=some g) (h:W.var? P name=some cs):g<W.heap.size/\∃e fr,W.heap[g]? =some (.cells cs e fr):=by
 unfold World.var? at h;rw[hg]at h;simp only[bind_some]at h;split at h
 .rename_i c e fr he;cases h;refine⟨?_,e,fr,he⟩;rcases Nat.lt_or_ge g W.heap.size with bC|bC
  .exact bC
  .rw[Array.getElem?_eq_none bC]at he;cases he
 .cases h
theorem ahx {P:Program} {W:World} {l:List (String×DataW Unit)} {name:String} {x:DataW Unit} {g:Nat} {t:TypeId} {ms:Array (String×TypeId)} (nk:laidMetH P l W) (hg:P.globalNamed name=some g)
  (Oh:(P.globals[g]?).map (·.type)=some t) (aj:P.underlying t=some (.interface ms)) (ao:∃ki d,x= .iface ki d) (bD:((l.filter λx=>x.2.handleName?.isNone).filter λx=>x.1==name)=[(name,x)]):
  g<W.heap.size/\¬False/\∃o,W.heap[g]? =some o/\L7 o:=by
 obtain⟨ki,d,rfl⟩:=ao;have h:=(laidMetH_iff.1 nk).1.filter λx=>x.1==name;rw[bD]at h;obtain⟨ps,⟨WO,Oi,cs,fuel,p,q,iQ,My,ahy,an,_,_⟩,_⟩:=h;obtain rfl:=some.inj (hg.symm.trans iQ);obtain rfl:=some.inj (Oh.symm.trans My);obtain⟨_,u,v,iC,_⟩:=iface_of_trod aj an;obtain⟨ad,e,fr,af⟩:=Xx hg ahy;refine⟨ad,λh=>h,_,af,.iface u v,cs,e,fr,rfl,?_,.inr ⟨u,v,rfl⟩⟩;rw[<-Array.getElem?_toList,iC];rfl
theorem ahz {P:Program} {W:World} {l:List (String×DataW Unit)} {name:String} {x:DataW Unit} {g:Nat} {t e:TypeId} (nk:laidMetH P l W) (hg:P.globalNamed name=some g)
  (Oh:(P.globals[g]?).map (·.type)=some t) (ba:P.underlying t=some (.array 20 e)) (he:P.underlying e=some (.int .u64)) (ahA:P.cellsOf e=1) (ahB:P.cellsOf t=20)
  (ao:x=Lib.tabData .u64 Lib.pow10Tab) (bD:((l.filter λx=>x.2.handleName?.isNone).filter λx=>x.1==name)=[(name,x)]):
  g<W.heap.size/\¬False/\∃o,W.heap[g]? =some o/\HR o:=by
 subst ao;have h:=(laidMetH_iff.1 nk).1.filter λx=>x.1==name;rw[bD]at h;have af:=Lib.tabIs_of_head hg Oh ba he ahA ahB h;unfold Lib.TabIs at af;obtain⟨ad,e,fr,aG⟩:=Xx hg af;refine⟨ad,λh=>h,_,aG,e,fr,?_⟩;simp only[Lib.pow10Tab,List.map_map];rfl
end Go.eg
