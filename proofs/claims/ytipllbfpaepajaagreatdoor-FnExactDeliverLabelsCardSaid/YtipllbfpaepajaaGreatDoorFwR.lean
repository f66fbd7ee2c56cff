/- Part of a proof that a law returns true for every input. No condition. -/
import Derived.Test.YtipllbfpaepajaaGreatDoorFwG
import Derived.LaidLaws
import Derived.Lib.LaidTab
import Derived.Lib.ItoaNum
import Derived.LaidSub
namespace Go.ca
theorem EY {P:Program} {W:World} {name:String} {g:Nat} {cs:Array Value} (hg:P.globalNamed name=some g) (h:W.var? P name=some cs):g<W.heap.size∧∃e fr,W.heap[g]? =some (.cells cs e fr):=by
 unfold World.var? at h
 rw[hg]at h
 simp only[Option.bind_some]at h
 split at h
 ·rename_i c e fr he
  cases h
  refine⟨?_,e,fr,he⟩
  rcases Nat.lt_or_ge g W.heap.size with aS|aS
  ·exact aS
  ·rw[Array.getElem?_eq_none aS]at he;cases he
 ·cases h
theorem ME {P:Program} {W:World} {l:List (String×DataW Unit)} {name:String} {x:DataW Unit} {g:Nat} {t:TypeId} {ms:Array (String×TypeId)} (jA:laidMetH P l W) (hg:P.globalNamed name=some g)
  (zL:(P.globals[g]?).map (·.type)=some t) (aA:P.underlying t=some (.interface ms)) (aq:∃ot d,x= .iface ot d) (bk:((l.filter fun x=>x.2.handleName?.isNone).filter fun x=>x.1==name)=[(name,x)]):
  g<W.heap.size∧¬False∧∃o,W.heap[g]? =some o∧xO o:=by
 obtain⟨ot,d,rfl⟩:=aq
 have h:=(laidMetH_iff.1 jA).1.filter fun x=>x.1==name
 rw[bk]at h
 obtain⟨ps,⟨EC,zM,cs,fuel,p,q,fa,ym,MF,ae,_,_⟩,_⟩:=h
 obtain rfl:=Option.some.inj (hg.symm.trans fa)
 obtain rfl:=Option.some.inj (zL.symm.trans ym)
 obtain⟨_,u,v,hS,_⟩:=iface_of_trod aA ae
 obtain⟨ab,e,fr,ad⟩:=EY hg MF
 refine⟨ab,fun h=>h,_,ad,.iface u v,cs,e,fr,rfl,?_,.inr ⟨u,v,rfl⟩⟩
 rw[←Array.getElem?_toList,hS];rfl
theorem MG {P:Program} {W:World} {l:List (String×DataW Unit)} {name:String} {x:DataW Unit} {g:Nat} {t e:TypeId} (jA:laidMetH P l W) (hg:P.globalNamed name=some g)
  (zL:(P.globals[g]?).map (·.type)=some t) (aO:P.underlying t=some (.array 20 e)) (he:P.underlying e=some (.int .u64)) (MH:P.cellsOf e=1) (MI:P.cellsOf t=20)
  (aq:x=Lib.tabData .u64 Lib.pow10Tab) (bk:((l.filter fun x=>x.2.handleName?.isNone).filter fun x=>x.1==name)=[(name,x)]):
  g<W.heap.size∧¬False∧∃o,W.heap[g]? =some o∧xR o:=by
 subst aq
 have h:=(laidMetH_iff.1 jA).1.filter fun x=>x.1==name
 rw[bk]at h
 have ad:=Lib.tabIs_of_head hg zL aO he MH MI h
 unfold Lib.TabIs at ad
 obtain⟨ab,e,fr,aB⟩:=EY hg ad
 refine⟨ab,fun h=>h,_,aB,e,fr,?_⟩
 simp only[Lib.pow10Tab,List.map_map]
 rfl
end Go.ca
