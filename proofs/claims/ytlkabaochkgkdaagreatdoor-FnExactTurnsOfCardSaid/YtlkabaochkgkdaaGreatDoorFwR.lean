/- Part of a proof that a law returns true for every input. No condition. -/
import Derived.Test.YtlkabaochkgkdaaGreatDoorFwG
import Derived.LaidLaws
import Derived.Lib.LaidTab
import Derived.Lib.ItoaNum
import Derived.LaidSub
namespace Go.c_
theorem OZ {P:Program} {W:World} {name:String} {g:Nat} {cs:Array Value} (hg:P.globalNamed name=some g) (h:W.var? P name=some cs):g<W.heap.size/\∃e fr,W.heap[g]? =some (.cells cs e fr):=by
 unfold World.var? at h;rw[hg]at h;simp only[Option.bind_some]at h;split at h
 .rename_i c e fr he;cases h;refine⟨?_,e,fr,he⟩;rcases Nat.lt_or_ge g W.heap.size with bt|bt
  .exact bt
  .rw[Array.getElem?_eq_none bt]at he;cases he
 .cases h
theorem YF {P:Program} {W:World} {l:List (String×DataW Unit)} {name:String} {x:DataW Unit} {g:Nat} {t:TypeId} {ms:Array (String×TypeId)} (mJ:laidMetH P l W) (hg:P.globalNamed name=some g)
  (I_:(P.globals[g]?).map (·.type)=some t) (an:P.underlying t=some (.interface ms)) (aw:∃sv d,x= .iface sv d) (bw:((l.filter λx=>x.2.handleName?.isNone).filter λx=>x.1==name)=[(name,x)]):
  g<W.heap.size/\¬False/\∃o,W.heap[g]? =some o/\GR o:=by
 obtain⟨sv,d,rfl⟩:=aw;have h:=(laidMetH_iff.1 mJ).1.filter λx=>x.1==name;rw[bw]at h;obtain⟨ps,⟨Oh,Ja,cs,fuel,p,q,h_,Hp,YG,aj,_,_⟩,_⟩:=h;obtain rfl:=Option.some.inj (hg.symm.trans h_);obtain rfl:=Option.some.inj (I_.symm.trans Hp);obtain⟨_,u,v,hI,_⟩:=iface_of_trod an aj;obtain⟨ag,e,fr,ah⟩:=OZ hg YG;refine⟨ag,λh=>h,_,ah,.iface u v,cs,e,fr,rfl,?_,.inr ⟨u,v,rfl⟩⟩;rw[<-Array.getElem?_toList,hI];rfl
theorem YH {P:Program} {W:World} {l:List (String×DataW Unit)} {name:String} {x:DataW Unit} {g:Nat} {t e:TypeId} (mJ:laidMetH P l W) (hg:P.globalNamed name=some g)
  (I_:(P.globals[g]?).map (·.type)=some t) (bj:P.underlying t=some (.array 20 e)) (he:P.underlying e=some (.int .u64)) (YI:P.cellsOf e=1) (YJ:P.cellsOf t=20)
  (aw:x=Lib.tabData .u64 Lib.pow10Tab) (bw:((l.filter λx=>x.2.handleName?.isNone).filter λx=>x.1==name)=[(name,x)]):
  g<W.heap.size/\¬False/\∃o,W.heap[g]? =some o/\GV o:=by
 subst aw;have h:=(laidMetH_iff.1 mJ).1.filter λx=>x.1==name;rw[bw]at h;have ah:=Lib.tabIs_of_head hg I_ bj he YI YJ h;unfold Lib.TabIs at ah;obtain⟨ag,e,fr,aN⟩:=OZ hg ah;refine⟨ag,λh=>h,_,aN,e,fr,?_⟩;simp only[Lib.pow10Tab,List.map_map];rfl
end Go.c_
