/- Part of a proof that a law returns true for every input. No condition. -/
import Derived.Test.YtngohoaiimbacabGreatDoorFwG
import Derived.LaidLaws
import Derived.Lib.LaidTab
import Derived.Lib.ItoaNum
import Derived.LaidSub
namespace Go.c_
open List Option Go.IntKind Nat Or
theorem M3 {P:Program} {W:World} {name:String} {g:Nat} {cs:Array Value} (hg:P.globalNamed name=some g) (h:W.var? P name=some cs):g<W.heap.size/\∃e fr,W.heap[g]? =some (.cells cs e fr):=by
 unfold World.var? at h;rw[hg]at h;simp only[bind_some]at h;split at h
 .rename_i c e fr he;cases h;refine⟨?_,e,fr,he⟩;rcases Nat.lt_or_ge g W.heap.size with bc|bc
  .exact bc
  .rw[Array.getElem?_eq_none bc]at he;cases he
 .cases h
theorem Vm {P:Program} {W:World} {l:List (String×DataW Unit)} {name:String} {x:DataW Unit} {g:Nat} {t:TypeId} {ms:Array (String×TypeId)} (lT:laidMetH P l W) (hg:P.globalNamed name=some g)
  (Fi:(P.globals[g]?).map (·.type)=some t) (ak:P.underlying t=some (.interface ms)) (ar:∃q1 d,x= .iface q1 d) (bd:((l.filter λx=>x.2.handleName?.isNone).filter λx=>x.1==name)=[(name,x)]):
  g<W.heap.size/\¬False/\∃o,W.heap[g]? =some o/\Da o:=by
 obtain⟨q1,d,rfl⟩:=ar;have h:=(laidMetH_iff.1 lT).1.filter λx=>x.1==name;rw[bd]at h;obtain⟨ps,⟨uV,Fj,cs,fuel,p,q,gZ,DG,Vn,ae,_,_⟩,_⟩:=h;obtain rfl:=some.inj (hg.symm.trans gZ);obtain rfl:=some.inj (Fi.symm.trans DG);obtain⟨_,u,v,hj,_⟩:=iface_of_trod ak ae;obtain⟨ab,e,fr,ad⟩:=M3 hg Vn;refine⟨ab,λh=>h,_,ad,.iface u v,cs,e,fr,rfl,?_,.inr ⟨u,v,rfl⟩⟩;rw[<-Array.getElem?_toList,hj];rfl
theorem Vo {P:Program} {W:World} {l:List (String×DataW Unit)} {name:String} {x:DataW Unit} {g:Nat} {t e:TypeId} (lT:laidMetH P l W) (hg:P.globalNamed name=some g)
  (Fi:(P.globals[g]?).map (·.type)=some t) (aY:P.underlying t=some (.array 20 e)) (he:P.underlying e=some (.int .u64)) (Vp:P.cellsOf e=1) (Vq:P.cellsOf t=20)
  (ar:x=Lib.tabData .u64 Lib.pow10Tab) (bd:((l.filter λx=>x.2.handleName?.isNone).filter λx=>x.1==name)=[(name,x)]):
  g<W.heap.size/\¬False/\∃o,W.heap[g]? =some o/\zu o:=by
 subst ar;have h:=(laidMetH_iff.1 lT).1.filter λx=>x.1==name;rw[bd]at h;have ad:=Lib.tabIs_of_head hg Fi aY he Vp Vq h;unfold Lib.TabIs at ad;obtain⟨ab,e,fr,aC⟩:=M3 hg ad;refine⟨ab,λh=>h,_,aC,e,fr,?_⟩;simp only[Lib.pow10Tab,List.map_map];rfl
end Go.c_
