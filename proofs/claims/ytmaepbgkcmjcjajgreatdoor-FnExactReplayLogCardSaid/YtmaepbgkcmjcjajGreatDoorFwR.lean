/- Part of a proof that a law returns true for every input. No condition. -/
import Derived.Test.YtmaepbgkcmjcjajGreatDoorFwG
import Derived.LaidLaws
import Derived.Lib.LaidTab
import Derived.Lib.ItoaNum
import Derived.LaidSub
namespace Go.ep
open List Option Go.IntKind Nat Or
theorem Yb {P:Program} {W:World} {name:String} {g:Nat} {cs:Array Value} (hg:P.globalNamed name=some g) (h:W.var? P name=some cs):g<W.heap.size/\∃e fr,W.heap[g]? =some (.cells cs e fr):=by
 unfold World.var? at h;rw[hg]at h;simp only[bind_some]at h;split at h
 .rename_i c e fr he;cases h;refine⟨?_,e,fr,he⟩;rcases Nat.lt_or_ge g W.heap.size with bI|bI
  .exact bI
  .rw[Array.getElem?_eq_none bI]at he;cases he
 .cases h
theorem ah5 {P:Program} {W:World} {l:List (String×DataW Unit)} {name:String} {x:DataW Unit} {g:Nat} {t:TypeId} {ms:Array (String×TypeId)} (nD:laidMetH P l W) (hg:P.globalNamed name=some g)
  (O1:(P.globals[g]?).map (·.type)=some t) (ai:P.underlying t=some (.interface ms)) (ao:∃kv d,x= .iface kv d) (bK:((l.filter λx=>x.2.handleName?.isNone).filter λx=>x.1==name)=[(name,x)]):
  g<W.heap.size/\¬False/\∃o,W.heap[g]? =some o/\MP o:=by
 obtain⟨kv,d,rfl⟩:=ao;have h:=(laidMetH_iff.1 nD).1.filter λx=>x.1==name;rw[bK]at h;obtain⟨ps,⟨Xt,O2,cs,fuel,p,q,ja,Nh,ah6,aq,_,_⟩,_⟩:=h;obtain rfl:=some.inj (hg.symm.trans ja);obtain rfl:=some.inj (O1.symm.trans Nh);obtain⟨_,u,v,iT,_⟩:=iface_of_trod ai aq;obtain⟨ad,e,fr,af⟩:=Yb hg ah6;refine⟨ad,λh=>h,_,af,.iface u v,cs,e,fr,rfl,?_,.inr ⟨u,v,rfl⟩⟩;rw[<-Array.getElem?_toList,iT];rfl
theorem ah7 {P:Program} {W:World} {l:List (String×DataW Unit)} {name:String} {x:DataW Unit} {g:Nat} {t e:TypeId} (nD:laidMetH P l W) (hg:P.globalNamed name=some g)
  (O1:(P.globals[g]?).map (·.type)=some t) (a8:P.underlying t=some (.array 20 e)) (he:P.underlying e=some (.int .u64)) (ah8:P.cellsOf e=1) (ah9:P.cellsOf t=20)
  (ao:x=Lib.tabData .u64 Lib.pow10Tab) (bK:((l.filter λx=>x.2.handleName?.isNone).filter λx=>x.1==name)=[(name,x)]):
  g<W.heap.size/\¬False/\∃o,W.heap[g]? =some o/\Ip o:=by
 subst ao;have h:=(laidMetH_iff.1 nD).1.filter λx=>x.1==name;rw[bK]at h;have af:=Lib.tabIs_of_head hg O1 a8 he ah8 ah9 h;unfold Lib.TabIs at af;obtain⟨ad,e,fr,aG⟩:=Yb hg af;refine⟨ad,λh=>h,_,aG,e,fr,?_⟩;simp only[Lib.pow10Tab,List.map_map];rfl
end Go.ep
