/- Part of a proof that a law returns true for every input. No condition. -/
import Derived.Test.YtocllehpepigpaaGreatDoorFwG
import Derived.LaidLaws
import Derived.Lib.LaidTab
import Derived.Lib.ItoaNum
import Derived.LaidSub
namespace Go.cI
theorem HJ {P:Program} {W:World} {name:String} {g:Nat} {cs:Array Value} (hg:P.globalNamed name=some g) (h:W.var? P name=some cs):g<W.heap.size∧∃e fr,W.heap[g]? =some (.cells cs e fr):=by
 unfold World.var? at h
 rw[hg]at h
 simp only[Option.bind_some]at h
 split at h
 ·rename_i c e fr he
  cases h
  refine⟨?_,e,fr,he⟩
  rcases Nat.lt_or_ge g W.heap.size with bb|bb
  ·exact bb
  ·rw[Array.getElem?_eq_none bb]at he;cases he
 ·cases h
theorem PV {P:Program} {W:World} {l:List (String×DataW Unit)} {name:String} {x:DataW Unit} {g:Nat} {t:TypeId} {ms:Array (String×TypeId)} (jT:laidMetH P l W) (hg:P.globalNamed name=some g)
  (CD:(P.globals[g]?).map (·.type)=some t) (ay:P.underlying t=some (.interface ms)) (ai:∃pR d,x= .iface pR d) (br:((l.filter fun x=>x.2.handleName?.isNone).filter fun x=>x.1==name)=[(name,x)]):
  g<W.heap.size∧¬False∧∃o,W.heap[g]? =some o∧Az o:=by
 obtain⟨pR,d,rfl⟩:=ai
 have h:=(laidMetH_iff.1 jT).1.filter fun x=>x.1==name
 rw[br]at h
 obtain⟨ps,⟨Hp,CE,cs,fuel,p,q,gN,Ba,PW,ah,_,_⟩,_⟩:=h
 obtain rfl:=Option.some.inj (hg.symm.trans gN)
 obtain rfl:=Option.some.inj (CD.symm.trans Ba)
 obtain⟨_,u,v,hs,_⟩:=iface_of_trod ay ah
 obtain⟨ad,e,fr,ag⟩:=HJ hg PW
 refine⟨ad,fun h=>h,_,ag,.iface u v,cs,e,fr,rfl,?_,.inr ⟨u,v,rfl⟩⟩
 rw[←Array.getElem?_toList,hs];rfl
theorem PX {P:Program} {W:World} {l:List (String×DataW Unit)} {name:String} {x:DataW Unit} {g:Nat} {t e:TypeId} (jT:laidMetH P l W) (hg:P.globalNamed name=some g)
  (CD:(P.globals[g]?).map (·.type)=some t) (aY:P.underlying t=some (.array 20 e)) (he:P.underlying e=some (.int .u64)) (PY:P.cellsOf e=1) (PZ:P.cellsOf t=20)
  (ai:x=Lib.tabData .u64 Lib.pow10Tab) (br:((l.filter fun x=>x.2.handleName?.isNone).filter fun x=>x.1==name)=[(name,x)]):
  g<W.heap.size∧¬False∧∃o,W.heap[g]? =some o∧AD o:=by
 subst ai
 have h:=(laidMetH_iff.1 jT).1.filter fun x=>x.1==name
 rw[br]at h
 have ag:=Lib.tabIs_of_head hg CD aY he PY PZ h
 unfold Lib.TabIs at ag
 obtain⟨ad,e,fr,aF⟩:=HJ hg ag
 refine⟨ad,fun h=>h,_,aF,e,fr,?_⟩
 simp only[Lib.pow10Tab,List.map_map]
 rfl
end Go.cI
