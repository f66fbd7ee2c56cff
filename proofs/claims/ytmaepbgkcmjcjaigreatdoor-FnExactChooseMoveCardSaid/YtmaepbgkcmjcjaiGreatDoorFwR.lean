/- Part of a proof that a law returns true for every input. No condition. -/
import Derived.Test.YtmaepbgkcmjcjaiGreatDoorFwG
import Derived.LaidLaws
import Derived.Lib.LaidTab
import Derived.Lib.ItoaNum
import Derived.LaidSub
namespace Go.eg
open List Option Go.IntKind Nat
theorem XG {P:Program} {W:World} {name:String} {g:Nat} {cs:Array Value} (hg:P.globalNamed name=some g) (h:W.var? P name=some cs):g<W.heap.size/\∃e fr,W.heap[g]? =some (.cells cs e fr):=by
 unfold World.var? at h;rw[hg]at h;simp only[bind_some]at h;split at h
 .rename_i c e fr he;cases h;refine⟨?_,e,fr,he⟩;rcases Nat.lt_or_ge g W.heap.size with bD|bD
  .exact bD
  .rw[Array.getElem?_eq_none bD]at he;cases he
 .cases h
theorem ahM {P:Program} {W:World} {l:List (String×DataW Unit)} {name:String} {x:DataW Unit} {g:Nat} {t:TypeId} {ms:Array (String×TypeId)} (n3:laidMetH P l W) (hg:P.globalNamed name=some g)
  (Ot:(P.globals[g]?).map (·.type)=some t) (ai:P.underlying t=some (.interface ms)) (an:∃kc d,x= .iface kc d) (bH:((l.filter λx=>x.2.handleName?.isNone).filter λx=>x.1==name)=[(name,x)]):
  g<W.heap.size/\¬False/\∃o,W.heap[g]? =some o/\Mn o:=by
 obtain⟨kc,d,rfl⟩:=an;have h:=(laidMetH_iff.1 n3).1.filter λx=>x.1==name;rw[bH]at h;obtain⟨ps,⟨WW,Ou,cs,fuel,p,q,iK,MQ,ahN,ao,_,_⟩,_⟩:=h;obtain rfl:=some.inj (hg.symm.trans iK);obtain rfl:=some.inj (Ot.symm.trans MQ);obtain⟨_,u,v,iF,_⟩:=iface_of_trod ai ao;obtain⟨ad,e,fr,ae⟩:=XG hg ahN;refine⟨ad,λh=>h,_,ae,.iface u v,cs,e,fr,rfl,?_,.inr ⟨u,v,rfl⟩⟩;rw[<-Array.getElem?_toList,iF];rfl
theorem ahO {P:Program} {W:World} {l:List (String×DataW Unit)} {name:String} {x:DataW Unit} {g:Nat} {t e:TypeId} (n3:laidMetH P l W) (hg:P.globalNamed name=some g)
  (Ot:(P.globals[g]?).map (·.type)=some t) (aY:P.underlying t=some (.array 20 e)) (he:P.underlying e=some (.int .u64)) (ahP:P.cellsOf e=1) (ahQ:P.cellsOf t=20)
  (an:x=Lib.tabData .u64 Lib.pow10Tab) (bH:((l.filter λx=>x.2.handleName?.isNone).filter λx=>x.1==name)=[(name,x)]):
  g<W.heap.size/\¬False/\∃o,W.heap[g]? =some o/\HT o:=by
 subst an;have h:=(laidMetH_iff.1 n3).1.filter λx=>x.1==name;rw[bH]at h;have ae:=Lib.tabIs_of_head hg Ot aY he ahP ahQ h;unfold Lib.TabIs at ae;obtain⟨ad,e,fr,aJ⟩:=XG hg ae;refine⟨ad,λh=>h,_,aJ,e,fr,?_⟩;simp only[Lib.pow10Tab,List.map_map];rfl
end Go.eg
