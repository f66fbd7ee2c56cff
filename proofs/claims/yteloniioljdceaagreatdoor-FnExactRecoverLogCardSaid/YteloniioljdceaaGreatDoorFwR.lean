/- Part of a proof that a law returns true for every input. No condition. -/
import Derived.Test.YteloniioljdceaaGreatDoorFwG
import Derived.LaidLaws
import Derived.Lib.LaidTab
import Derived.Lib.ItoaNum
import Derived.LaidSub
namespace Go.ca
open List Option Go.IntKind Nat Or
theorem DO {P:Program} {W:World} {name:String} {g:Nat} {cs:Array Value} (hg:P.globalNamed name=some g) (h:W.var? P name=some cs):g<W.heap.size/\∃e fr,W.heap[g]? =some (.cells cs e fr):=by
 unfold World.var? at h;rw[hg]at h;simp only[bind_some]at h;split at h
 .rename_i c e fr he;cases h;refine⟨?_,e,fr,he⟩;rcases Nat.lt_or_ge g W.heap.size with aN|aN
  .exact aN
  .rw[Array.getElem?_eq_none aN]at he;cases he
 .cases h
theorem Lf {P:Program} {W:World} {l:List (String×DataW Unit)} {name:String} {x:DataW Unit} {g:Nat} {t:TypeId} {ms:Array (String×TypeId)} (jo:laidMetH P l W) (hg:P.globalNamed name=some g)
  (yi:(P.globals[g]?).map (·.type)=some t) (aC:P.underlying t=some (.interface ms)) (ak:∃nu d,x= .iface nu d) (bq:((l.filter λx=>x.2.handleName?.isNone).filter λx=>x.1==name)=[(name,x)]):
  g<W.heap.size/\¬False/\∃o,W.heap[g]? =some o/\wt o:=by
 obtain⟨nu,d,rfl⟩:=ak;have h:=(laidMetH_iff.1 jo).1.filter λx=>x.1==name;rw[bq]at h;obtain⟨ps,⟨x6,yj,cs,fuel,p,q,er,wY,Lg,ad,_,_⟩,_⟩:=h;obtain rfl:=some.inj (hg.symm.trans er);obtain rfl:=some.inj (yi.symm.trans wY);obtain⟨_,u,v,iQ,_⟩:=iface_of_trod aC ad;obtain⟨U,e,fr,ab⟩:=DO hg Lg;refine⟨U,λh=>h,_,ab,.iface u v,cs,e,fr,rfl,?_,.inr ⟨u,v,rfl⟩⟩;rw[<-Array.getElem?_toList,iQ];rfl
theorem Lh {P:Program} {W:World} {l:List (String×DataW Unit)} {name:String} {x:DataW Unit} {g:Nat} {t e:TypeId} (jo:laidMetH P l W) (hg:P.globalNamed name=some g)
  (yi:(P.globals[g]?).map (·.type)=some t) (aI:P.underlying t=some (.array 20 e)) (he:P.underlying e=some (.int .u64)) (Li:P.cellsOf e=1) (Lj:P.cellsOf t=20)
  (ak:x=Lib.tabData .u64 Lib.pow10Tab) (bq:((l.filter λx=>x.2.handleName?.isNone).filter λx=>x.1==name)=[(name,x)]):
  g<W.heap.size/\¬False/\∃o,W.heap[g]? =some o/\tw o:=by
 subst ak;have h:=(laidMetH_iff.1 jo).1.filter λx=>x.1==name;rw[bq]at h;have ab:=Lib.tabIs_of_head hg yi aI he Li Lj h;unfold Lib.TabIs at ab;obtain⟨U,e,fr,ay⟩:=DO hg ab;refine⟨U,λh=>h,_,ay,e,fr,?_⟩;simp only[Lib.pow10Tab,List.map_map];rfl
end Go.ca
