/- Part of a proof that a law returns true for every input. No condition. -/
import Derived.Test.YtipllbfpaepajaaGreatDoorFwG
import Derived.LaidLaws
import Derived.Lib.LaidTab
import Derived.Lib.ItoaNum
import Derived.LaidSub
namespace Go.b9
theorem D8 {P:Program} {W:World} {name:String} {g:Nat} {cs:Array Value} (hg:P.globalNamed name=some g) (h:W.var? P name=some cs):g<W.heap.size∧∃e fr,W.heap[g]? =some (.cells cs e fr):=by
 unfold World.var? at h
 rw[hg]at h
 simp only[Option.bind_some]at h
 split at h
 ·rename_i c e fr he
  cases h
  refine⟨?_,e,fr,he⟩
  rcases Nat.lt_or_ge g W.heap.size with aQ|aQ
  ·exact aQ
  ·rw[Array.getElem?_eq_none aQ]at he;cases he
 ·cases h
theorem Ly {P:Program} {W:World} {l:List (String×DataW Unit)} {name:String} {x:DataW Unit} {g:Nat} {t:TypeId} {ms:Array (String×TypeId)} (i7:laidMetH P l W) (hg:P.globalNamed name=some g)
  (y5:(P.globals[g]?).map (·.type)=some t) (aA:P.underlying t=some (.interface ms)) (ao:∃nS d,x= .iface nS d) (bh:((l.filter fun x=>x.2.handleName?.isNone).filter fun x=>x.1==name)=[(name,x)]):
  g<W.heap.size∧¬False∧∃o,W.heap[g]? =some o∧w5 o:=by
 obtain⟨nS,d,rfl⟩:=ao
 have h:=(laidMetH_iff.1 i7).1.filter fun x=>x.1==name
 rw[bh]at h
 obtain⟨ps,⟨DN,y6,cs,fuel,p,q,e1,xE,Lz,ae,_,_⟩,_⟩:=h
 obtain rfl:=Option.some.inj (hg.symm.trans e1)
 obtain rfl:=Option.some.inj (y5.symm.trans xE)
 obtain⟨_,u,v,hx,_⟩:=iface_of_trod aA ae
 obtain⟨aa,e,fr,ad⟩:=D8 hg Lz
 refine⟨aa,fun h=>h,_,ad,.iface u v,cs,e,fr,rfl,?_,.inr ⟨u,v,rfl⟩⟩
 rw[←Array.getElem?_toList,hx];rfl
theorem LA {P:Program} {W:World} {l:List (String×DataW Unit)} {name:String} {x:DataW Unit} {g:Nat} {t e:TypeId} (i7:laidMetH P l W) (hg:P.globalNamed name=some g)
  (y5:(P.globals[g]?).map (·.type)=some t) (aN:P.underlying t=some (.array 20 e)) (he:P.underlying e=some (.int .u64)) (LB:P.cellsOf e=1) (LC:P.cellsOf t=20)
  (ao:x=Lib.tabData .u64 Lib.pow10Tab) (bh:((l.filter fun x=>x.2.handleName?.isNone).filter fun x=>x.1==name)=[(name,x)]):
  g<W.heap.size∧¬False∧∃o,W.heap[g]? =some o∧w8 o:=by
 subst ao
 have h:=(laidMetH_iff.1 i7).1.filter fun x=>x.1==name
 rw[bh]at h
 have ad:=Lib.tabIs_of_head hg y5 aN he LB LC h
 unfold Lib.TabIs at ad
 obtain⟨aa,e,fr,aB⟩:=D8 hg ad
 refine⟨aa,fun h=>h,_,aB,e,fr,?_⟩
 simp only[Lib.pow10Tab,List.map_map]
 rfl
end Go.b9
