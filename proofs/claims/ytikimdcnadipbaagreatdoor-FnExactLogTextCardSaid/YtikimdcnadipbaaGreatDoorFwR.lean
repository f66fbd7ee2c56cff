/- Part of a proof that a law returns true for every input. No condition. -/
import Derived.Test.YtikimdcnadipbaaGreatDoorFwG
import Derived.LaidLaws
import Derived.Lib.LaidTab
import Derived.Lib.ItoaNum
import Derived.LaidSub
namespace Go.bZ
theorem Eb {P:Program} {W:World} {name:String} {g:Nat} {cs:Array Value} (hg:P.globalNamed name=some g) (h:W.var? P name=some cs):g<W.heap.size∧∃e fr,W.heap[g]? =some (.cells cs e fr):=by
 unfold World.var? at h
 rw[hg]at h
 simp only[Option.bind_some]at h
 split at h
 ·rename_i c e fr he
  cases h
  refine⟨?_,e,fr,he⟩
  rcases Nat.lt_or_ge g W.heap.size with aT|aT
  ·exact aT
  ·rw[Array.getElem?_eq_none aT]at he;cases he
 ·cases h
theorem LQ {P:Program} {W:World} {l:List (String×DataW Unit)} {name:String} {x:DataW Unit} {g:Nat} {t:TypeId} {ms:Array (String×TypeId)} (iQ:laidMetH P l W) (hg:P.globalNamed name=some g)
  (yW:(P.globals[g]?).map (·.type)=some t) (ay:P.underlying t=some (.interface ms)) (ai:∃nN d,x= .iface nN d) (bc:((l.filter fun x=>x.2.handleName?.isNone).filter fun x=>x.1==name)=[(name,x)]):
  g<W.heap.size∧¬False∧∃o,W.heap[g]? =some o∧wX o:=by
 obtain⟨nN,d,rfl⟩:=ai
 have h:=(laidMetH_iff.1 iQ).1.filter fun x=>x.1==name
 rw[bc]at h
 obtain⟨ps,⟨qZ,yX,cs,fuel,p,q,ev,xu,LR,ae,_,_⟩,_⟩:=h
 obtain rfl:=Option.some.inj (hg.symm.trans ev)
 obtain rfl:=Option.some.inj (yW.symm.trans xu)
 obtain⟨_,u,v,fO,_⟩:=iface_of_trod ay ae
 obtain⟨aa,e,fr,ab⟩:=Eb hg LR
 refine⟨aa,fun h=>h,_,ab,.iface u v,cs,e,fr,rfl,?_,.inr ⟨u,v,rfl⟩⟩
 rw[←Array.getElem?_toList,fO];rfl
theorem LS {P:Program} {W:World} {l:List (String×DataW Unit)} {name:String} {x:DataW Unit} {g:Nat} {t e:TypeId} (iQ:laidMetH P l W) (hg:P.globalNamed name=some g)
  (yW:(P.globals[g]?).map (·.type)=some t) (aK:P.underlying t=some (.array 20 e)) (he:P.underlying e=some (.int .u64)) (LU:P.cellsOf e=1) (LV:P.cellsOf t=20)
  (ai:x=Lib.tabData .u64 Lib.pow10Tab) (bc:((l.filter fun x=>x.2.handleName?.isNone).filter fun x=>x.1==name)=[(name,x)]):
  g<W.heap.size∧¬False∧∃o,W.heap[g]? =some o∧t_ o:=by
 subst ai
 have h:=(laidMetH_iff.1 iQ).1.filter fun x=>x.1==name
 rw[bc]at h
 have ab:=Lib.tabIs_of_head hg yW aK he LU LV h
 unfold Lib.TabIs at ab
 obtain⟨aa,e,fr,aB⟩:=Eb hg ab
 refine⟨aa,fun h=>h,_,aB,e,fr,?_⟩
 simp only[Lib.pow10Tab,List.map_map]
 rfl
end Go.bZ
