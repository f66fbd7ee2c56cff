/- Part of a proof that a law returns true for every input. No condition. -/
import Derived.Test.YtcmimclaknmnbaaGreatDoorFwG
import Derived.LaidLaws
import Derived.Lib.LaidTab
import Derived.Lib.ItoaNum
import Derived.LaidSub
namespace Go.cC
open List Option Go.IntKind Nat Or
theorem QL {P:Program} {W:World} {name:String} {g:Nat} {cs:Array Value} (hg:P.globalNamed name=some g) (h:W.var? P name=some cs):g<W.heap.size/\∃e fr,W.heap[g]? =some (.cells cs e fr):=by
 unfold World.var? at h;rw[hg]at h;simp only[bind_some]at h;split at h
 .rename_i c e fr he;cases h;refine⟨?_,e,fr,he⟩;rcases Nat.lt_or_ge g W.heap.size with bn|bn
  .exact bn
  .rw[Array.getElem?_eq_none bn]at he;cases he
 .cases h
theorem aaw {P:Program} {W:World} {l:List (String×DataW Unit)} {name:String} {x:DataW Unit} {g:Nat} {t:TypeId} {ms:Array (String×TypeId)} (jC:laidMetH P l W) (hg:P.globalNamed name=some g)
  (Iw:(P.globals[g]?).map (·.type)=some t) (ak:P.underlying t=some (.interface ms)) (ag:∃re d,x= .iface re d) (bc:((l.filter λx=>x.2.handleName?.isNone).filter λx=>x.1==name)=[(name,x)]):
  g<W.heap.size/\¬False/\∃o,W.heap[g]? =some o/\GB o:=by
 obtain⟨re,d,rfl⟩:=ag;have h:=(laidMetH_iff.1 jC).1.filter λx=>x.1==name;rw[bc]at h;obtain⟨ps,⟨jG,Ix,cs,fuel,p,q,hc,G8,aax,ae,_,_⟩,_⟩:=h;obtain rfl:=some.inj (hg.symm.trans hc);obtain rfl:=some.inj (Iw.symm.trans G8);obtain⟨_,u,v,fZ,_⟩:=iface_of_trod ak ae;obtain⟨h1,e,fr,ab⟩:=QL hg aax;refine⟨h1,λh=>h,_,ab,.iface u v,cs,e,fr,rfl,?_,.inr ⟨u,v,rfl⟩⟩;rw[<-Array.getElem?_toList,fZ];rfl
theorem aay {P:Program} {W:World} {l:List (String×DataW Unit)} {name:String} {x:DataW Unit} {g:Nat} {t e:TypeId} (jC:laidMetH P l W) (hg:P.globalNamed name=some g)
  (Iw:(P.globals[g]?).map (·.type)=some t) (aL:P.underlying t=some (.array 20 e)) (he:P.underlying e=some (.int .u64)) (aaz:P.cellsOf e=1) (aaA:P.cellsOf t=20)
  (ag:x=Lib.tabData .u64 Lib.pow10Tab) (bc:((l.filter λx=>x.2.handleName?.isNone).filter λx=>x.1==name)=[(name,x)]):
  g<W.heap.size/\¬False/\∃o,W.heap[g]? =some o/\CY o:=by
 subst ag;have h:=(laidMetH_iff.1 jC).1.filter λx=>x.1==name;rw[bc]at h;have ab:=Lib.tabIs_of_head hg Iw aL he aaz aaA h;unfold Lib.TabIs at ab;obtain⟨h1,e,fr,ay⟩:=QL hg ab;refine⟨h1,λh=>h,_,ay,e,fr,?_⟩;simp only[Lib.pow10Tab,List.map_map];rfl
end Go.cC
