/- Part of a proof that a law returns true for every input. No condition. -/
import Derived.Test.YtocllehpepigpaaGreatDoorFwA
import Derived.Laws.AppendOwn
import Derived.Calls
namespace Go.cI
inductive ug where
 |mp (es:List (List UInt8×Bool))
 |pR
 |hC (T e:TypeId) (kn:List UInt8)
inductive I where
 |hole
 |bool (b:Bool)
 |et
 |int (k:IntKind) (n:Int)
 |str (s:List UInt8)
 |cS
 |bk
 |slice (xs:List I)
 |aL (sz:Nat) (xs:List I)
 |ref (d:I)
 |bM (d:I)
 |agg (aq:List I)
 |tuple (vs:List I)
 |fn (f:FuncId) (cap:List I)
 |h (x:Nat) (q:List Nat)
 |ao (x:Nat) (q:List Nat)
 |U (x:Nat) (k:Nat)
 |dq (o:ug)
 deriving Inhabited
mutual
def I.wd:I→Nat
 | .agg aq=>I.dD aq
 | .tuple aq=>I.dD aq
 |_=>1
def I.dD:List I→Nat
 |[]=>0
 |d::ds=>d.wd+I.dD ds
end
def hl (w:World) (b o:Nat) (cs:List Value):Prop:=∀j c,cs[j]? =some c→w.cell? ⟨b,o+j,none⟩=some c
def pS (fr:Nat×Nat) (n:Nat):Prop:=∀o,o<n→¬(fr.1≤o∧o<fr.2)
def Value.f_:Value→Bool
 | .agg _=>false
 | .tuple _=>false
 |_=>true
def I.single:I→Bool
 | .agg _=>false
 | .tuple _=>false
 | .hole=>false
 |_=>true
def k_ (w:World):ug→List Value→(Nat→Prop)→Prop
 | .mp es,cs,S=>∃r ms l6,cs=[.map (some r)]∧S r∧w.heap[r]? =some (.map ms l6)∧ms.toList.map (fun e=>(e.key,e.val))=es.map (fun e=>(.string ⟨⟨e.1⟩⟩,.bool e.2))
 | .pR,cs,_=>cs=[.map none]
 | .hC T e kn,cs,S=>∃b a qP,cs=[.pointer (some ⟨b,0,none⟩)]∧S b∧w.heap[b]? =some (.cells #[a,qP] T (0,0))∧(a= .pointer none∨a= .pointer (some ⟨b,0,none⟩))∧
   ((kn=[]∧qP= .slice none 0 0)∨
     ∃g cap cur,qP= .slice (some ⟨g,0,none⟩) kn.length cap∧S g∧g≠b∧w.heap[g]? =some (.cells cur e (0,0))∧kn.length≤cap∧cap≤maxLen∧cur.size=cap∧
      cur.toList.take kn.length=kn.map fun x=>.int .u8 x.toNat)
theorem k_.frame {w aA:World}:∀{o:ug} {cs:List Value} {S:Nat→Prop},(∀b,S b→aA.heap[b]? =w.heap[b]?)→k_ w o cs S→k_ aA o cs S
 | .mp _,_,_,bI,⟨r,ms,l6,ad,ag,aF,a8⟩=>⟨r,ms,l6,ad,ag,(bI _ ag).trans aF,a8⟩
 | .pR,_,_,_,h=>h
 | .hC _ _ _,_,_,bI,⟨b,a,qP,ad,ag,aF,a8,bF⟩=>⟨b,a,qP,ad,ag,(bI _ ag).trans aF,a8,bF.imp (fun h=>h) fun⟨g,cap,cur,pT,i2,i3,i4,i5⟩=>⟨g,cap,cur,pT,i2,i3,(bI _ i2).trans i4,i5⟩⟩
theorem k_.mono {w:World}:∀{o:ug} {cs:List Value} {S aG:Nat→Prop},(∀b,S b→aG b)→k_ w o cs S→k_ w o cs aG
 | .mp _,_,_,_,bI,⟨r,ms,l6,ad,ag,aF⟩=>⟨r,ms,l6,ad,bI _ ag,aF⟩
 | .pR,_,_,_,_,h=>h
 | .hC _ _ _,_,_,_,bI,⟨b,a,qP,ad,ag,aF,a8,bF⟩=>⟨b,a,qP,ad,bI _ ag,aF,a8,bF.imp (fun h=>h) fun⟨g,cap,cur,pT,i2,i3⟩=>⟨g,cap,cur,pT,bI _ i2,i3⟩⟩
theorem k_.one {w:World}:∀{o:ug} {cs:List Value} {S:Nat→Prop},k_ w o cs S→∃v,Value.f_ v=true∧cs=[v]
 | .mp _,_,_,⟨_,_,_,h,_⟩=>⟨_,rfl,h⟩
 | .pR,_,_,h=>⟨_,rfl,h⟩
 | .hC _ _ _,_,_,⟨_,_,_,h,_⟩=>⟨_,rfl,h⟩
mutual
def ak (w:World) (F:Nat→Prop):I→List Value→(Nat→Prop)→Prop
 | .hole,cs,_=>∃v,Value.f_ v=true∧cs=[v]
 | .bool b,cs,_=>cs=[.bool b]
 | .et,cs,_=>∃b,cs=[.bool b]
 | .int k n,cs,_=>cs=[.int k n]
 | .str s,cs,_=>cs=[.string ⟨⟨s⟩⟩]
 | .cS,cs,_=>cs=[.pointer none]
 | .bk,cs,_=>cs=[.slice none 0 0]
 | .slice xs,cs,_=>(xs=[]∧∃a c,cs=[.slice a 0 c]∧c≤maxLen∧(a=none→c=0))∨
   ∃b o cap dI sz,cs=[.slice (some ⟨b,o,none⟩) xs.length cap]∧F b∧xs.length≤cap∧cap≤maxLen∧(∀d∈xs,d.wd=sz)∧
    hl w b o dI∧aW w F xs dI (fun _=>False)
 | .aL sz xs,cs,S=>(xs=[]∧∃a,cs=[.slice a 0 0])∨
   ∃b cap cur e fr aG,cs=[.slice (some ⟨b,0,none⟩) xs.length cap]∧S b∧w.heap[b]? =some (.cells cur e fr)∧pS fr cur.size∧
    xs.length≤cap∧cap≤maxLen∧cur.size=cap*sz∧(∀d∈xs,d.wd=sz)∧aW w F xs (cur.toList.take (xs.length*sz)) aG∧(∀c,aG c→S c)∧¬aG b
 | .ref d,cs,_=>∃b o dI,cs=[.pointer (some ⟨b,o,none⟩)]∧F b∧hl w b o dI∧ak w F d dI (fun _=>False)
 | .bM d,cs,S=>∃b cur e fr aG,cs=[.pointer (some ⟨b,0,none⟩)]∧S b∧w.heap[b]? =some (.cells cur e fr)∧pS fr cur.size∧
   ak w F d cur.toList aG∧(∀c,aG c→S c)∧¬aG b
 | .agg aq,cs,S=>aW w F aq cs S
 | .tuple aq,cs,S=>aW w F aq cs S
 | .fn f caps,cs,_=>∃arr:Array Value,cs=[.func (.func f) #[] arr]∧(∀d∈caps,d.single=true)∧aW w F caps arr.toList (fun _=>False)
 | .h _ _,_,_=>False
 | .ao _ _,_,_=>False
 | .U _ _,_,_=>False
 | .dq o,cs,S=>k_ w o cs S
def aW (w:World) (F:Nat→Prop):List I→List Value→(Nat→Prop)→Prop
 |[],cs,_=>cs=[]
 |d::ds,cs,S=>∃b5 c2 bN dc,cs=b5++c2∧ak w F d b5 bN∧aW w F ds c2 dc∧(∀b,bN b→S b)∧(∀b,dc b→S b)∧(∀b,bN b→¬dc b)
end
theorem cell?_of_block {w aA:World} {b:Nat} (h:aA.heap[b]? =w.heap[b]?) (o:Nat):aA.cell? ⟨b,o,none⟩=w.cell? ⟨b,o,none⟩:=by
 simp[World.cell?,h]
theorem hl.frame {w aA:World} {b o:Nat} {cs:List Value} (h:aA.heap[b]? =w.heap[b]?) (aH:hl w b o cs):hl aA b o cs:=
 fun j c aj=>(cell?_of_block h _).trans (aH j c aj)
mutual
theorem ak.frame {w aA:World} {F:Nat→Prop} (bl:∀b,F b→aA.heap[b]? =w.heap[b]?):
  ∀(d:I) (cs:List Value) (S:Nat→Prop),(∀b,S b→aA.heap[b]? =w.heap[b]?)→ak w F d cs S→ak aA F d cs S
 | .hole,_,_,_,h=>h
 | .bool _,_,_,_,h=>h
 | .et,_,_,_,h=>h
 | .int _ _,_,_,_,h=>h
 | .str _,_,_,_,h=>h
 | .cS,_,_,_,h=>h
 | .bk,_,_,_,h=>h
 | .slice xs,cs,S,bI,h=>by
   rw[ak]at h⊢
   rcases h with h|⟨b,o,cap,dI,sz,ad,ag,aF,a8,bF,cn,cD⟩
   ·exact .inl h
   ·exact .inr ⟨b,o,cap,dI,sz,ad,ag,aF,a8,bF,cn.frame (bl _ ag),aW.frame bl xs _ _ (fun _ h=>h.elim) cD⟩
 | .aL sz xs,cs,S,bI,h=>by
   rw[ak]at h⊢
   rcases h with h|⟨b,cap,cur,e,fr,aG,ad,ag,aF,a8,bF,cn,cD,eu,gK,hn,la⟩
   ·exact .inl h
   ·exact .inr ⟨b,cap,cur,e,fr,aG,ad,ag,(bI _ ag).trans aF,a8,bF,cn,cD,eu,aW.frame bl xs _ _ (fun c aj=>bI _ (hn _ aj)) gK,hn,la⟩
 | .ref d,cs,S,bI,h=>by
   rw[ak]at h⊢
   obtain⟨b,o,dI,ad,ag,aF,a8⟩:=h
   exact⟨b,o,dI,ad,ag,aF.frame (bl _ ag),ak.frame bl d _ _ (fun _ h=>h.elim) a8⟩
 | .bM d,cs,S,bI,h=>by
   rw[ak]at h⊢
   obtain⟨b,cur,e,fr,aG,ad,ag,aF,a8,bF,cn,cD⟩:=h
   exact⟨b,cur,e,fr,aG,ad,ag,(bI _ ag).trans aF,a8,ak.frame bl d _ _ (fun c aj=>bI _ (cn _ aj)) bF,cn,cD⟩
 | .agg aq,cs,S,bI,h=>by rw[ak]at h⊢;exact aW.frame bl aq _ _ bI h
 | .tuple aq,cs,S,bI,h=>by rw[ak]at h⊢;exact aW.frame bl aq _ _ bI h
 | .fn _ caps,cs,S,bI,h=>by
   rw[ak]at h⊢
   obtain⟨arr,ad,ag,aF⟩:=h
   exact⟨arr,ad,ag,aW.frame bl caps _ _ (fun _ h=>h.elim) aF⟩
 | .h _ _,_,_,_,h=>h
 | .ao _ _,_,_,_,h=>h
 | .U _ _,_,_,_,h=>h
 | .dq _,_,_,bI,h=>k_.frame bI h
theorem aW.frame {w aA:World} {F:Nat→Prop} (bl:∀b,F b→aA.heap[b]? =w.heap[b]?):
  ∀(ds:List I) (cs:List Value) (S:Nat→Prop),(∀b,S b→aA.heap[b]? =w.heap[b]?)→aW w F ds cs S→aW aA F ds cs S
 |[],_,_,_,h=>h
 |d::ds,cs,S,bI,h=>by
  rw[aW]at h⊢
  obtain⟨b5,c2,bN,dc,ad,ag,aF,a8,bF,cn⟩:=h
  exact⟨b5,c2,bN,dc,ad,ak.frame bl d _ _ (fun b U=>bI _ (a8 _ U)) ag,aW.frame bl ds _ _ (fun b U=>bI _ (bF _ U)) aF,a8,bF,cn⟩
end
mutual
theorem ak.mono {w:World} {F bC:Nat→Prop} (bl:∀b,F b→bC b):
  ∀(d:I) (cs:List Value) (S aG:Nat→Prop),(∀b,S b→aG b)→ak w F d cs S→ak w bC d cs aG
 | .hole,_,_,_,_,h=>h
 | .bool _,_,_,_,_,h=>h
 | .et,_,_,_,_,h=>h
 | .int _ _,_,_,_,_,h=>h
 | .str _,_,_,_,_,h=>h
 | .cS,_,_,_,_,h=>h
 | .bk,_,_,_,_,h=>h
 | .slice xs,cs,S,_,bI,h=>by
   rw[ak]at h⊢
   rcases h with h|⟨b,o,cap,dI,sz,ad,ag,aF,a8,bF,cn,cD⟩
   ·exact .inl h
   ·exact .inr ⟨b,o,cap,dI,sz,ad,bl _ ag,aF,a8,bF,cn,aW.mono bl xs _ _ _ (fun _ h=>h) cD⟩
 | .aL sz xs,cs,S,_,bI,h=>by
   rw[ak]at h⊢
   rcases h with h|⟨b,cap,cur,e,fr,aG,ad,ag,aF,a8,bF,cn,cD,eu,gK,hn,la⟩
   ·exact .inl h
   ·exact .inr ⟨b,cap,cur,e,fr,aG,ad,bI _ ag,aF,a8,bF,cn,cD,eu,aW.mono bl xs _ _ _ (fun _ h=>h) gK,fun c aj=>bI _ (hn _ aj),la⟩
 | .ref d,cs,S,_,bI,h=>by
   rw[ak]at h⊢
   obtain⟨b,o,dI,ad,ag,aF,a8⟩:=h
   exact⟨b,o,dI,ad,bl _ ag,aF,ak.mono bl d _ _ _ (fun _ h=>h) a8⟩
 | .bM d,cs,S,_,bI,h=>by
   rw[ak]at h⊢
   obtain⟨b,cur,e,fr,aG,ad,ag,aF,a8,bF,cn,cD⟩:=h
   exact⟨b,cur,e,fr,aG,ad,bI _ ag,aF,a8,ak.mono bl d _ _ _ (fun _ h=>h) bF,fun c aj=>bI _ (cn _ aj),cD⟩
 | .agg aq,cs,S,_,bI,h=>by rw[ak]at h⊢;exact aW.mono bl aq _ _ _ bI h
 | .tuple aq,cs,S,_,bI,h=>by rw[ak]at h⊢;exact aW.mono bl aq _ _ _ bI h
 | .fn _ caps,cs,S,_,bI,h=>by
   rw[ak]at h⊢
   obtain⟨arr,ad,ag,aF⟩:=h
   exact⟨arr,ad,ag,aW.mono bl caps _ _ _ (fun _ h=>h) aF⟩
 | .h _ _,_,_,_,_,h=>h
 | .ao _ _,_,_,_,_,h=>h
 | .U _ _,_,_,_,_,h=>h
 | .dq _,_,_,_,bI,h=>k_.mono bI h
theorem aW.mono {w:World} {F bC:Nat→Prop} (bl:∀b,F b→bC b):
  ∀(ds:List I) (cs:List Value) (S aG:Nat→Prop),(∀b,S b→aG b)→aW w F ds cs S→aW w bC ds cs aG
 |[],_,_,_,_,h=>h
 |d::ds,cs,S,_,bI,h=>by
  rw[aW]at h⊢
  obtain⟨b5,c2,bN,dc,ad,ag,aF,a8,bF,cn⟩:=h
  exact⟨b5,c2,bN,dc,ad,ak.mono bl d _ _ _ (fun _ h=>h) ag,aW.mono bl ds _ _ _ (fun _ h=>h) aF,fun b U=>bI _ (a8 _ U),fun b U=>bI _ (bF _ U),cn⟩
end
mutual
theorem ak.length {w:World} {F:Nat→Prop}:∀(d:I) (cs:List Value) (S:Nat→Prop),ak w F d cs S→cs.length=d.wd
 | .hole,cs,S,h=>by rw[ak]at h;obtain⟨v,_,rfl⟩:=h;rfl
 | .bool _,cs,S,h=>by rw[ak]at h;subst h;rfl
 | .et,cs,S,h=>by rw[ak]at h;obtain⟨b,rfl⟩:=h;rfl
 | .int _ _,cs,S,h=>by rw[ak]at h;subst h;rfl
 | .str _,cs,S,h=>by rw[ak]at h;subst h;rfl
 | .cS,cs,S,h=>by rw[ak]at h;subst h;rfl
 | .bk,cs,S,h=>by rw[ak]at h;subst h;rfl
 | .slice xs,cs,S,h=>by
   rw[ak]at h
   rcases h with⟨_,a,c,rfl,_⟩|⟨b,o,cap,dI,sz,rfl,_⟩<;>rfl
 | .aL sz xs,cs,S,h=>by
   rw[ak]at h
   rcases h with⟨_,a,rfl⟩|⟨b,cap,cur,e,fr,aG,rfl,_⟩<;>rfl
 | .ref d,cs,S,h=>by rw[ak]at h;obtain⟨b,o,dI,rfl,_⟩:=h;rfl
 | .bM d,cs,S,h=>by rw[ak]at h;obtain⟨b,o,dI,_,_,rfl,_⟩:=h;rfl
 | .agg aq,cs,S,h=>by rw[ak]at h;exact aW.length aq _ _ h
 | .tuple aq,cs,S,h=>by rw[ak]at h;exact aW.length aq _ _ h
 | .fn _ _,cs,S,h=>by rw[ak]at h;obtain⟨arr,rfl,_⟩:=h;rfl
 | .h _ _,cs,S,h=>by rw[ak]at h;exact h.elim
 | .ao _ _,cs,S,h=>by rw[ak]at h;exact h.elim
 | .U _ _,cs,S,h=>by rw[ak]at h;exact h.elim
 | .dq _,cs,S,h=>by rw[ak]at h;obtain⟨v,_,rfl⟩:=k_.one h;rfl
theorem aW.length {w:World} {F:Nat→Prop}:∀(ds:List I) (cs:List Value) (S:Nat→Prop),aW w F ds cs S→cs.length=I.dD ds
 |[],cs,S,h=>by rw[aW]at h;subst h;rfl
 |d::ds,cs,S,h=>by
  rw[aW]at h
  obtain⟨b5,c2,bN,dc,rfl,ag,aF,_⟩:=h
  rw[List.length_append,ak.length d _ _ ag,aW.length ds _ _ aF,I.dD]
end
mutual
def I.share:I→I
 | .aL _ xs=>.slice (I.shares xs)
 | .bM d=>.ref d.share
 | .slice xs=>.slice (I.shares xs)
 | .ref d=>.ref d.share
 | .agg aq=>.agg (I.shares aq)
 | .tuple aq=>.tuple (I.shares aq)
 | .dq _=>.hole
 |d=>d
def I.shares:List I→List I
 |[]=>[]
 |d::ds=>d.share::I.shares ds
end
theorem I.qQ (ds:List I):I.shares ds=ds.map I.share:=by
 induction ds with
 |nil=>rfl
 |cons d ds ih=>simp[I.shares,ih]
mutual
theorem I.w1:∀d:I,d.share.wd=d.wd
 | .hole=>rfl
 | .bool _=>rfl
 | .et=>rfl
 | .int _ _=>rfl
 | .str _=>rfl
 | .cS=>rfl
 | .bk=>rfl
 | .slice _=>rfl
 | .aL _ _=>rfl
 | .ref _=>rfl
 | .bM _=>rfl
 | .agg aq=>by simp only[I.share,I.wd];exact I.Al aq
 | .tuple aq=>by simp only[I.share,I.wd];exact I.Al aq
 | .fn _ _=>rfl
 | .h _ _=>rfl
 | .ao _ _=>rfl
 | .U _ _=>rfl
 | .dq _=>rfl
theorem I.Al:∀ds:List I,I.dD (I.shares ds)=I.dD ds
 |[]=>rfl
 |d::ds=>by simp only[I.shares,I.dD];rw[I.w1 d,I.Al ds]
end
theorem sf {w:World} {b:Nat} {cur:Array Value} {e:TypeId} {fr:Nat×Nat} (h:w.heap[b]? =some (.cells cur e fr)) (n:Nat):hl w b 0 (cur.toList.take n):=by
 intro j c aj
 rw[List.getElem?_take]at aj
 split at aj
 ·simp[World.cell?,h];simpa using aj
 ·cases aj
mutual
theorem ak.shared {w:World} {F bC:Nat→Prop} (bl:∀b,F b→bC b):
  ∀(d:I) (cs:List Value) (S:Nat→Prop),(∀b,S b→bC b)→ak w F d cs S→ak w bC d.share cs (fun _=>False)
 | .hole,_,_,_,h=>h
 | .bool _,_,_,_,h=>h
 | .et,_,_,_,h=>h
 | .int _ _,_,_,_,h=>h
 | .str _,_,_,_,h=>h
 | .cS,_,_,_,h=>h
 | .bk,_,_,_,h=>h
 | .slice xs,cs,S,bI,h=>by
   rw[I.share,ak]
   rw[ak]at h
   rcases h with⟨rfl,a,c,rfl,aj⟩|⟨b,o,cap,dI,sz,ad,ag,aF,a8,bF,cn,cD⟩
   ·exact .inl ⟨rfl,a,c,rfl,aj⟩
   ·refine .inr ⟨b,o,cap,dI,sz,?_,bl _ ag,?_,a8,?_,cn,aW.shared bl xs _ _ (fun _ h=>h.elim) cD⟩
    ·simpa [I.qQ]using ad
    ·simpa [I.qQ]using aF
    ·intro d ah
     rw[I.qQ]at ah
     obtain⟨bf,gL,rfl⟩:=List.mem_map.1 ah
     rw[I.w1];exact bF _ gL
 | .aL sz xs,cs,S,bI,h=>by
   rw[I.share,ak]
   rw[ak]at h
   rcases h with⟨rfl,a,rfl⟩|⟨b,cap,cur,e,fr,aG,ad,ag,aF,a8,bF,cn,cD,eu,gK,hn,la⟩
   ·exact .inl ⟨rfl,a,0,rfl,Nat.zero_le _,fun _=>rfl⟩
   ·refine .inr ⟨b,0,cap,_,sz,?_,bI _ ag,?_,cn,?_,sf aF _,aW.shared bl xs _ _ (fun c aj=>bI _ (hn _ aj)) gK⟩
    ·simpa [I.qQ]using ad
    ·simpa [I.qQ]using bF
    ·intro d ah
     rw[I.qQ]at ah
     obtain⟨bf,gL,rfl⟩:=List.mem_map.1 ah
     rw[I.w1];exact eu _ gL
 | .ref d,cs,S,bI,h=>by
   rw[I.share,ak]
   rw[ak]at h
   obtain⟨b,o,dI,ad,ag,aF,a8⟩:=h
   exact⟨b,o,dI,ad,bl _ ag,aF,ak.shared bl d _ _ (fun _ h=>h.elim) a8⟩
 | .bM d,cs,S,bI,h=>by
   rw[I.share,ak]
   rw[ak]at h
   obtain⟨b,cur,e,fr,aG,ad,ag,aF,a8,bF,cn,cD⟩:=h
   refine⟨b,0,cur.toList,ad,bI _ ag,?_,ak.shared bl d _ _ (fun c aj=>bI _ (cn _ aj)) bF⟩
   have:=sf aF cur.toList.length
   rwa [List.take_length]at this
 | .agg aq,cs,S,bI,h=>by rw[I.share,ak];rw[ak]at h;exact aW.shared bl aq _ _ bI h
 | .tuple aq,cs,S,bI,h=>by rw[I.share,ak];rw[ak]at h;exact aW.shared bl aq _ _ bI h
 | .fn f caps,cs,S,bI,h=>by
   show ak w bC (.fn f caps) cs _
   rw[ak]at h⊢
   obtain⟨arr,ad,ag,aF⟩:=h
   exact⟨arr,ad,ag,aW.mono bl caps _ _ _ (fun _ h=>h) aF⟩
 | .h _ _,_,_,_,h=>h
 | .ao _ _,_,_,_,h=>h
 | .U _ _,_,_,_,h=>h
 | .dq _,cs,S,bI,h=>by rw[ak]at h;rw[I.share,ak];exact k_.one h
theorem aW.shared {w:World} {F bC:Nat→Prop} (bl:∀b,F b→bC b):
  ∀(ds:List I) (cs:List Value) (S:Nat→Prop),(∀b,S b→bC b)→aW w F ds cs S→aW w bC (I.shares ds) cs (fun _=>False)
 |[],_,_,_,h=>h
 |d::ds,cs,S,bI,h=>by
  simp only[I.shares]
  rw[aW]at h⊢
  obtain⟨b5,c2,bN,dc,ad,ag,aF,a8,bF,cn⟩:=h
  exact⟨b5,c2,_,_,ad,ak.shared bl d _ _ (fun b U=>bI _ (a8 _ U)) ag,aW.shared bl ds _ _ (fun b U=>bI _ (bF _ U)) aF,fun _ h=>h,fun _ h=>h,fun _ h=>h.elim⟩
end
def I.sub:List Nat→I→Option I
 |[],d=>some d
 |k::q,.agg aq=>match aq[k]? with
  |some d=>I.sub q d
  |none=>none
 |k::q,.tuple aq=>match aq[k]? with
  |some d=>I.sub q d
  |none=>none
 |i::q,.aL _ xs=>match xs[i]? with
  |some d=>I.sub q d
  |none=>none
 |0::q,.bM d=>I.sub q d
 |_::_,_=>none
def I.put:List Nat→I→I→I
 |[],n,_=>n
 |k::q,n,.agg aq=>match aq[k]? with
  |some d=>.agg (aq.set k (I.put q n d))
  |none=>.agg aq
 |k::q,n,.tuple aq=>match aq[k]? with
  |some d=>.tuple (aq.set k (I.put q n d))
  |none=>.tuple aq
 |i::q,n,.aL sz xs=>match xs[i]? with
  |some d=>.aL sz (xs.set i (I.put q n d))
  |none=>.aL sz xs
 |0::q,n,.bM d=>.bM (I.put q n d)
 |_::_,_,d=>d
def mC (w:World) (b o n:Nat):List Value:=(List.range n).map fun j=>(w.cell? ⟨b,o+j,none⟩).getD undef
theorem hl.mC {w:World} {b o:Nat} {cs:List Value} (h:hl w b o cs):mC w b o cs.length=cs:=by
 unfold cI.mC
 apply List.ext_getElem?
 intro i
 rw[List.getElem?_map]
 by_cases ay:i<cs.length
 ·have:cs[i]? =some cs[i]:=List.getElem?_eq_getElem ay
  simp[ay,h i _ this]
 ·simp[ay]
def cL (w:World):List Nat→I→List Value→Option (Nat×Nat)→Option (I×List Value×Option (Nat×Nat))
 |[],d,cs,a=>some (d,cs,a)
 |k::q,.agg aq,cs,a=>match aq[k]? with
  |some d=>cL w q d ((cs.drop (I.dD (aq.take k))).take d.wd) (a.map fun l=>(l.1,l.2+I.dD (aq.take k)))
  |none=>none
 |k::q,.tuple aq,cs,a=>match aq[k]? with
  |some d=>cL w q d ((cs.drop (I.dD (aq.take k))).take d.wd) (a.map fun l=>(l.1,l.2+I.dD (aq.take k)))
  |none=>none
 |i::q,.aL sz xs,cs,_=>match xs[i]?,cs with
  |some d,[.slice (some ⟨b,_,_⟩) _ _]=>cL w q d (mC w b (i*sz) sz) (some (b,i*sz))
  |_,_=>none
 |0::q,.bM d,cs,_=>match cs with
  |[.pointer (some ⟨b,_,_⟩)]=>cL w q d (mC w b 0 d.wd) (some (b,0))
  |_=>none
 |_::_,_,_,_=>none
theorem qR (b5 fe c2:List Value) (n m:Nat) (ad:b5.length=n) (ag:fe.length=m):((b5++(fe++c2)).drop n).take m=fe:=by
 rw[List.drop_left' ad,List.take_left' ag]
theorem aW.pick {w:World} {F:Nat→Prop}:∀(ds:List I) (cs:List Value) (S:Nat→Prop) (k:Nat) (d:I),
  aW w F ds cs S→ds[k]? =some d→∃(b5 fe c2:List Value) (bN ho:Nat→Prop),cs=b5++(fe++c2)∧b5.length=I.dD (ds.take k)∧
   (∀b,bN b→S b)∧(∀b,ho b→S b)∧(∀b,bN b→¬ho b)∧ak w F d fe ho∧
   ∀(aA:World) (bf:I) (qS:List Value) (aG:Nat→Prop),(∀b,F b→aA.heap[b]? =w.heap[b]?)→(∀b,bN b→aA.heap[b]? =w.heap[b]?)→
    ak aA F bf qS aG→(∀b,aG b→¬bN b)→aW aA F (ds.set k bf) (b5++(qS++c2)) (fun b=>bN b∨aG b)
 |[],_,_,_,_,_,ax=>by simp at ax
 |x::ds,cs,S,0,d,h,ax=>by
  rw[aW]at h
  obtain⟨b5,c2,hc,gm,rfl,ad,ag,cb,U,lA⟩:=h
  simp at ax;subst ax
  refine⟨[],b5,c2,gm,hc,rfl,rfl,U,cb,fun b U cb=>lA _ cb U,ad,?_⟩
  intro aA bf qS aG bl bI ah iD
  simp only[List.set_cons_zero,List.nil_append]
  rw[aW]
  exact⟨qS,c2,aG,gm,rfl,ah,aW.frame bl _ _ _ bI ag,fun b h=>.inr h,fun b h=>.inl h,fun b h=>iD b h⟩
 |x::ds,cs,S,k+1,d,h,ax=>by
  rw[aW]at h
  obtain⟨c0,KX,hc,gm,rfl,ad,ag,cb,U,lA⟩:=h
  simp only[List.getElem?_cons_succ]at ax
  have aO:=ak.length _ _ _ ad
  obtain⟨b5,fe,c2,bN,ho,rfl,i0,pT,i2,i3,i5,Am⟩:=aW.pick ds KX gm k d ag ax
  refine⟨c0++b5,fe,c2,fun b=>hc b∨bN b,ho,by simp,by simp[I.dD,aO,i0],?_,fun b h=>U _ (i2 _ h),?_,i5,?_⟩
  ·rintro b (h|h)
   ·exact cb _ h
   ·exact U _ (pT _ h)
  ·rintro b (h|h) ax
   ·exact lA _ h (i2 _ ax)
   ·exact i3 _ h ax
  ·intro aA bf qS aG bl bI ah iD
   simp only[List.set_cons_succ]
   rw[aW]
   refine⟨c0,b5++(qS++c2),hc,fun b=>bN b∨aG b,by simp,ak.frame bl _ _ _ (fun b U=>bI b (.inl U)) ad,
    Am aA bf qS aG bl (fun b U=>bI b (.inr U)) ah (fun b U aj=>iD b U (.inr aj)),fun b h=>.inl (.inl h),?_,?_⟩
   ·rintro b (h|h)
    ·exact .inl (.inr h)
    ·exact .inr h
   ·rintro b h (bb|bb)
    ·exact lA _ h (pT _ bb)
    ·exact iD _ bb (.inl h)
theorem An:∀(aq:List I) (k:Nat) (x y:I),aq[k]? =some x→y.wd=x.wd→I.dD (aq.set k y)=I.dD aq:=by
 intro aq
 induction aq with
 |nil=>intro k x y h;simp at h
 |cons a aq ih=>
  intro k x y h e
  cases k with
  |zero=>simp at h;subst h;simp[I.dD,e]
  |succ k=>simp at h;simp[I.dD,ih k x y h e]
theorem qT {sz:Nat}:∀(xs:List I),(∀d∈xs,d.wd=sz)→I.dD xs=xs.length*sz
 |[],_=>by simp[I.dD]
 |x::xs,h=>by
  rw[I.dD,h x (by simp),qT xs (fun d ah=>h d (by simp[ah])),List.length_cons,Nat.add_mul,Nat.one_mul,Nat.add_comm]
theorem I.sg:∀(q:List Nat) (av d bf:I),I.sub q av=some d→bf.wd=d.wd→(I.put q bf av).wd=av.wd:=by
 intro q
 induction q with
 |nil=>intro av d bf h e;simp[I.sub]at h;subst h;simpa [I.put]using e
 |cons k q ih=>
  intro av d bf h e
  cases av with
  |agg aq=>
   simp only[I.sub]at h
   split at h
   ·rename_i x ai
    simp only[I.put,ai,I.wd]
    exact An _ _ _ _ ai (ih _ _ _ h e)
   ·cases h
  |tuple aq=>
   simp only[I.sub]at h
   split at h
   ·rename_i x ai
    simp only[I.put,ai,I.wd]
    exact An _ _ _ _ ai (ih _ _ _ h e)
   ·cases h
  |aL sz xs=>
   simp only[I.sub]at h
   split at h
   ·rename_i x ai
    simp only[I.put,ai,I.wd]
   ·cases h
  |bM x=>
   cases k with
   |zero=>simp only[I.put,I.wd]
   |succ k=>simp[I.sub]at h
  |_=>simp[I.sub]at h
theorem Ao {sz:Nat} {xs:List I} {i:Nat} {y:I} (h:∀d∈xs,d.wd=sz) (hy:y.wd=sz):∀d∈xs.set i y,d.wd=sz:=by
 intro d ah
 rcases List.mem_or_eq_of_mem_set ah with ah|rfl
 ·exact h d ah
 ·exact hy
theorem si {w:World} {b:Nat} {cur:Array Value} {e:TypeId} {fr:Nat×Nat} (h:w.heap[b]? =some (.cells cur e fr)) {l m r:List Value} (aj:cur.toList=l++(m++r)):
  mC w b l.length m.length=m:=by
 refine hl.mC (fun j c b6=> ?_)
 have d_:j<m.length:=(List.getElem?_eq_some_iff.1 b6).1
 have:cur.toList[l.length+j]? =some c:=by
  rw[aj,List.getElem?_append_right (by omega),List.getElem?_append_left (by omega)]
  rw[←b6];congr 1;omega
 simp[World.cell?,h]
 simpa using this
def Flat (w:World) (F:Nat→Prop) (q:List Nat) (av:I) (cs:List Value) (a:Option (Nat×Nat)) (d:I) (cc:List Value) (cz:Option (Nat×Nat)) (dE:Nat→Prop):Prop:=
 ∃l r:List Value,cs=l++(cc++r)∧cz=a.map (fun x=>(x.1,x.2+l.length))∧
  ∀(aA:World) (bf:I) (ff:List Value) (aG:Nat→Prop),(∀b,F b→aA.heap[b]? =w.heap[b]?)→(∀b,dE b→aA.heap[b]? =w.heap[b]?)→
   bf.wd=d.wd→ak aA F bf ff aG→(∀b,aG b→¬dE b)→ak aA F (I.put q bf av) (l++(ff++r)) (fun b=>dE b∨aG b)
def Deep (w:World) (F:Nat→Prop) (q:List Nat) (av:I) (cs:List Value) (d:I) (cc:List Value) (cz:Option (Nat×Nat)) (dE:Nat→Prop):Prop:=
 ∃(b:Nat) (cur:Array Value) (e:TypeId) (fr:Nat×Nat) (l r:List Value),cz=some (b,l.length)∧dE b∧w.heap[b]? =some (.cells cur e fr)∧pS fr cur.size∧cur.toList=l++(cc++r)∧
  ∀(aA:World) (bf:I) (ff:List Value) (aG:Nat→Prop),(∀b,F b→aA.heap[b]? =w.heap[b]?)→(∀c,dE c→c≠b→aA.heap[c]? =w.heap[c]?)→
   aA.heap[b]? =some (.cells (l++(ff++r)).toArray e fr)→
   bf.wd=d.wd→ak aA F bf ff aG→(∀b,aG b→¬dE b)→ak aA F (I.put q bf av) cs (fun b=>dE b∨aG b)
theorem ctx {w:World} {F:Nat→Prop}:∀(q:List Nat) (av:I) (cs:List Value) (S:Nat→Prop) (a:Option (Nat×Nat)) (d:I),
  ak w F av cs S→I.sub q av=some d→∃(cc:List Value) (cz:Option (Nat×Nat)) (dE eM:Nat→Prop),cL w q av cs a=some (d,cc,cz)∧
   (∀b,dE b→S b)∧(∀b,eM b→S b)∧(∀b,dE b→¬eM b)∧ak w F d cc eM∧(Flat w F q av cs a d cc cz dE∨Deep w F q av cs d cc cz dE):=by
 intro q
 induction q with
 |nil=>
  intro av cs S a d h ah
  simp[I.sub]at ah;subst ah
  refine⟨cs,a,fun _=>False,S,rfl,fun _ h=>h.elim,fun _ h=>h,fun _ h=>h.elim,h,.inl ⟨[],[],by simp,?_,?_⟩⟩
  ·cases a<;>simp
  ·intro aA bf ff aG _ _ hw gL _
   simp only[I.put,List.nil_append,List.append_nil]
   exact ak.mono (fun _ h=>h) _ _ _ _ (fun b h=>.inr h) gL
 |cons k q ih=>
  have fields:∀(mk:List I→I) (Ap:∀(w:World) (F:Nat→Prop) (aq:List I) (cs:List Value) (S:Nat→Prop),ak w F (mk aq) cs S=aW w F aq cs S) (aq:List I) (cs:List Value) (S:Nat→Prop) (a:Option (Nat×Nat)) (x d:I),
    (jO:∀bf,I.put (k::q) bf (mk aq)=mk (aq.set k (I.put q bf x)))→aW w F aq cs S→aq[k]? =some x→I.sub q x=some d→
    ∃(cc:List Value) (cz:Option (Nat×Nat)) (dE eM:Nat→Prop),cL w q x ((cs.drop (I.dD (aq.take k))).take x.wd) (a.map fun l=>(l.1,l.2+I.dD (aq.take k)))=some (d,cc,cz)∧
    (∀b,dE b→S b)∧(∀b,eM b→S b)∧(∀b,dE b→¬eM b)∧ak w F d cc eM∧(Flat w F (k::q) (mk aq) cs a d cc cz dE∨Deep w F (k::q) (mk aq) cs d cc cz dE):=by
   intro mk Ap aq cs S a x d jO h ai ah
   obtain⟨b5,fe,c2,bN,ho,rfl,hd,fg,gM,hP,fz,lB⟩:=aW.pick aq cs S k x h ai
   have aO:=ak.length _ _ _ fz
   rw[qR b5 fe c2 _ _ hd aO]
   obtain⟨cc,cz,dE,eM,g0,g1,g2,g3,g4,g5⟩:=ih x _ ho (a.map fun l=>(l.1,l.2+I.dD (aq.take k))) d fz ah
   refine⟨cc,cz,fun b=>bN b∨dE b,eM,g0,?_,fun b U=>gM _ (g2 _ U),?_,g4,?_⟩
   ·rintro b (h|h)
    ·exact fg _ h
    ·exact gM _ (g1 _ h)
   ·rintro b (h|h) ah
    ·exact hP _ h (g2 _ ah)
    ·exact g3 _ h ah
   ·have eE:∀(b:Nat) (aG:Nat→Prop),(bN b∨dE b∨aG b)→((bN b∨dE b)∨aG b):=by
     rintro b aG (U|U|U)
     ·exact .inl (.inl U)
     ·exact .inl (.inr U)
     ·exact .inr U
    rcases g5 with⟨l,r,rfl,aX,aS⟩|⟨b,cur,e,fr,l,r,aT,aX,aS,bQ,cp,bK⟩
    ·refine .inl ⟨b5++l,r++c2,by simp,?_,?_⟩
     ·rw[aX,←hd];cases a<;>simp[Nat.add_assoc]
     ·intro aA bf ff aG bl bI hw gL iD
      have ea:=aS aA bf ff aG bl (fun b U=>bI b (.inr U)) hw gL (fun b U aj=>iD b U (.inr aj))
      have bD:=lB aA _ _ _ bl (fun b U=>bI b (.inl U)) ea (by
       rintro b (U|U) ad
       ·exact hP _ ad (g1 _ U)
       ·exact iD _ U (.inl ad))
      rw[jO,Ap]
      have:=aW.mono (fun _ h=>h) _ _ _ _ (fun b=>eE b aG) bD
      simpa using this
    ·refine .inr ⟨b,cur,e,fr,l,r,aT,.inr aX,aS,bQ,cp,?_⟩
     intro aA bf ff aG bl bI lC hw gL iD
     have ea:=bK aA bf ff aG bl (fun c aj=>bI c (.inr aj)) lC hw gL (fun b U aj=>iD b U (.inr aj))
     have bD:=lB aA _ _ _ bl (fun c aj=>bI c (.inl aj) (by rintro rfl;exact hP _ aj (g1 _ aX))) ea (by
       rintro b (U|U) ad
       ·exact hP _ ad (g1 _ U)
       ·exact iD _ U (.inl ad))
     rw[jO,Ap]
     exact aW.mono (fun _ h=>h) _ _ _ _ (fun b=>eE b aG) bD
  intro av cs S a d h ah
  cases av with
  |agg aq=>
   simp only[I.sub]at ah
   split at ah
   ·rename_i x ai
    rw[ak]at h
    have:=fields .agg (fun _ _ _ _ _=>by rw[ak]) aq cs S a x d (fun bf=>by simp only[I.put,ai]) h ai ah
    simpa only[cL,ai]using this
   ·cases ah
  |tuple aq=>
   simp only[I.sub]at ah
   split at ah
   ·rename_i x ai
    rw[ak]at h
    have:=fields .tuple (fun _ _ _ _ _=>by rw[ak]) aq cs S a x d (fun bf=>by simp only[I.put,ai]) h ai ah
    simpa only[cL,ai]using this
   ·cases ah
  |aL sz xs=>
   simp only[I.sub]at ah
   split at ah
   ·rename_i x ai
    rw[ak]at h
    rcases h with⟨rfl,_,rfl⟩|⟨b,cap,cur,e,fr,dp,rfl,ag,aF,a8,bF,cn,cD,eu,gK,hn,la⟩
    ·simp at ai
    ·obtain⟨b5,fe,c2,bN,ho,p,hd,fg,gM,hP,fz,lB⟩:=aW.pick xs _ dp k x gK ai
     have aO:=ak.length _ _ _ fz
     have KY:k<xs.length:=(List.getElem?_eq_some_iff.1 ai).1
     have uh:x.wd=sz:=eu x (List.mem_of_getElem? ai)
     have cd:I.dD (xs.take k)=k*sz:=by
      rw[qT _ (fun d ah=>eu d (List.mem_of_mem_take ah))]
      rw[List.length_take,Nat.min_eq_left (by omega)]
     obtain⟨o2,kF⟩:∃o2,cur.toList=b5++(fe++(c2++o2)):=by
      refine⟨cur.toList.drop (xs.length*sz),?_⟩
      have:=(List.take_append_drop (xs.length*sz) cur.toList).symm
      rw[p]at this
      simpa using this
     have jo:mC w b (k*sz) sz=fe:=by
      have:=si aF kF
      rwa [hd,cd,aO,uh]at this
     obtain⟨cc,cz,dE,eM,g0,g1,g2,g3,g4,g5⟩:=ih x _ ho (some (b,k*sz)) d fz ah
     have jO:∀bf,I.put (k::q) bf (.aL sz xs)= .aL sz (xs.set k (I.put q bf x)):=fun bf=>by simp only[I.put,ai]
     refine⟨cc,cz,fun c=>c=b∨bN c∨dE c,eM,?_,?_,fun c aj=>hn _ (gM _ (g2 _ aj)),?_,g4,.inr ?_⟩
     ·simp only[cL,ai,jo];exact g0
     ·rintro c (rfl|h|h)
      ·exact ag
      ·exact hn _ (fg _ h)
      ·exact hn _ (gM _ (g1 _ h))
     ·rintro c (rfl|h|h) ah
      ·exact la (gM _ (g2 _ ah))
      ·exact hP _ h (g2 _ ah)
      ·exact g3 _ h ah
     ·have j9:∀bf,bf.wd=d.wd→(I.put q bf x).wd=sz:=fun bf hw=>(I.sg q x d bf ah hw).trans uh
      rcases g5 with⟨l,r,rfl,aX,aS⟩|⟨e8,Aq,fQ,Ar,l,r,aT,aX,aS,bQ,cp,bK⟩
      ·refine⟨b,cur,e,fr,b5++l,r++(c2++o2),?_,.inl rfl,aF,a8,?_,?_⟩
       ·rw[aX];simp[hd,cd]
       ·rw[kF];simp
       ·intro aA bf ff aG bl bI lC hw gL iD
        have ea:=aS aA bf ff aG bl (fun c aj=>bI c (.inr (.inr aj)) (by rintro rfl;exact la (gM _ (g1 _ aj)))) hw gL (fun b U aj=>iD b U (.inr (.inr aj)))
        have bD:=lB aA _ _ _ bl (fun c aj=>bI c (.inr (.inl aj)) (by rintro rfl;exact la (fg _ aj))) ea (by
         rintro b (U|U) ad
         ·exact hP _ ad (g1 _ U)
         ·exact iD _ U (.inr (.inl ad)))
        have ui:=ak.length _ _ _ gL
        have uj:=ak.length _ _ _ g4
        rw[jO,ak]
        refine .inr ⟨b,cap,_,e,fr,fun b=>bN b∨dE b∨aG b,by simp,.inl (.inl rfl),lC,?_,by simpa using bF,cn,?_,Ao eu (j9 bf hw),?_,?_,?_⟩
        ·have:(b5++l++(ff++(r++(c2++o2)))).toArray.size=cur.size:=by
          have:cur.size=cur.toList.length:=by simp
          rw[this,kF];simp[ui,uj,hw]
         rw[this];exact a8
        ·rw[←cD]
         have:cur.size=cur.toList.length:=by simp
         rw[this,kF];simp[ui,uj,hw]
        ·have hlen:(b5++(l++(ff++r)++c2)).length=xs.length*sz:=by
          have:=congrArg List.length p
          rw[List.length_take,Nat.min_eq_left (by simp[cD];exact Nat.mul_le_mul_right _ bF)]at this
          rw[this];simp[ui,uj,hw]
         have:(b5++l++(ff++(r++(c2++o2))))=(b5++(l++(ff++r)++c2))++o2:=by simp
         rw[List.length_set]
         simp only[this]
         rw[List.take_left' hlen]
         exact bD
        ·rintro c (h|h|h)
         ·exact .inl (.inr (.inl h))
         ·exact .inl (.inr (.inr h))
         ·exact .inr h
        ·rintro(h|h|h)
         ·exact la (fg _ h)
         ·exact la (gM _ (g1 _ h))
         ·exact iD _ h (.inl rfl)
      ·refine⟨e8,Aq,fQ,Ar,l,r,aT,.inr (.inr aX),aS,bQ,cp,?_⟩
       intro aA bf ff aG bl bI lC hw gL iD
       have ea:=bK aA bf ff aG bl (fun c aj dr=>bI c (.inr (.inr aj)) dr) lC hw gL (fun b U aj=>iD b U (.inr (.inr aj)))
       have dr:∀c,bN c→c≠e8:=by rintro c aj rfl;exact hP _ aj (g1 _ aX)
       have bD:=lB aA _ _ _ bl (fun c aj=>bI c (.inr (.inl aj)) (dr c aj)) ea (by
        rintro b (U|U) ad
        ·exact hP _ ad (g1 _ U)
        ·exact iD _ U (.inr (.inl ad)))
       have As:b≠e8:=by rintro rfl;exact la (gM _ (g1 _ aX))
       rw[jO,ak]
       refine .inr ⟨b,cap,cur,e,fr,fun b=>bN b∨dE b∨aG b,by simp,.inl (.inl rfl),(bI b (.inl rfl) As).trans aF,a8,by simpa using bF,cn,cD,Ao eu (j9 bf hw),?_,?_,?_⟩
       ·rw[List.length_set,p];exact bD
       ·rintro c (h|h|h)
        ·exact .inl (.inr (.inl h))
        ·exact .inl (.inr (.inr h))
        ·exact .inr h
       ·rintro(h|h|h)
        ·exact la (fg _ h)
        ·exact la (gM _ (g1 _ h))
        ·exact iD _ h (.inl rfl)
   ·cases ah
  |bM x=>
   cases k with
   |succ k=>simp[I.sub]at ah
   |zero=>
    simp only[I.sub]at ah
    rw[ak]at h
    obtain⟨b,cur,e,fr,dp,rfl,ag,aF,a8,bF,cn,cD⟩:=h
    have aO:=ak.length _ _ _ bF
    have jo:mC w b 0 x.wd=cur.toList:=by
     have:=si (l:=[]) (m:=cur.toList) (r:=[]) aF (by simp)
     rwa [aO]at this
    obtain⟨cc,cz,dE,eM,g0,g1,g2,g3,g4,g5⟩:=ih x _ dp (some (b,0)) d bF ah
    have jO:∀bf,I.put (0::q) bf (.bM x)= .bM (I.put q bf x):=fun bf=>rfl
    refine⟨cc,cz,fun c=>c=b∨dE c,eM,?_,?_,fun c aj=>cn _ (g2 _ aj),?_,g4,.inr ?_⟩
    ·simp only[cL,jo];exact g0
    ·rintro c (rfl|h)
     ·exact ag
     ·exact cn _ (g1 _ h)
    ·rintro c (rfl|h) ah
     ·exact cD (g2 _ ah)
     ·exact g3 _ h ah
    ·rcases g5 with⟨l,r,aT,aX,aS⟩|⟨e8,Aq,fQ,Ar,l,r,aT,aX,aS,bQ,cp,bK⟩
     ·refine⟨b,cur,e,fr,l,r,?_,.inl rfl,aF,a8,aT,?_⟩
      ·rw[aX];simp
      ·intro aA bf ff aG bl bI lC hw gL iD
       have ea:=aS aA bf ff aG bl (fun c aj=>bI c (.inr aj) (by rintro rfl;exact cD (g1 _ aj))) hw gL (fun b U aj=>iD b U (.inr aj))
       have ui:=ak.length _ _ _ gL
       have uj:=ak.length _ _ _ g4
       rw[jO,ak]
       refine⟨b,_,e,fr,fun b=>dE b∨aG b,rfl,.inl (.inl rfl),lC,?_,ea,?_,?_⟩
       ·have:(l++(ff++r)).toArray.size=cur.size:=by
         have:cur.size=cur.toList.length:=by simp
         rw[this,aT];simp[ui,uj,hw]
        rw[this];exact a8
       ·rintro c (h|h)
        ·exact .inl (.inr h)
        ·exact .inr h
       ·rintro(h|h)
        ·exact cD (g1 _ h)
        ·exact iD _ h (.inl rfl)
     ·refine⟨e8,Aq,fQ,Ar,l,r,aT,.inr aX,aS,bQ,cp,?_⟩
      intro aA bf ff aG bl bI lC hw gL iD
      have ea:=bK aA bf ff aG bl (fun c aj dr=>bI c (.inr aj) dr) lC hw gL (fun b U aj=>iD b U (.inr aj))
      have As:b≠e8:=by rintro rfl;exact cD (g1 _ aX)
      rw[jO,ak]
      refine⟨b,cur,e,fr,fun b=>dE b∨aG b,rfl,.inl (.inl rfl),(bI b (.inl rfl) As).trans aF,a8,ea,?_,?_⟩
      ·rintro c (h|h)
       ·exact .inl (.inr h)
       ·exact .inr h
      ·rintro(h|h)
       ·exact cD (g1 _ h)
       ·exact iD _ h (.inl rfl)
  |_=>simp[I.sub]at ah
mutual
def I.plain:I→Bool
 | .aL _ _=>false
 | .bM _=>false
 | .dq _=>false
 | .agg aq=>I.fK aq
 | .tuple aq=>I.fK aq
 |_=>true
def I.fK:List I→Bool
 |[]=>true
 |d::ds=>d.plain&&I.fK ds
end
mutual
def I.cG:I→I
 | .aL _ _=>.hole
 | .bM _=>.hole
 | .dq _=>.hole
 | .agg aq=>.agg (I.kG aq)
 | .tuple aq=>.tuple (I.kG aq)
 |d=>d
def I.kG:List I→List I
 |[]=>[]
 |d::ds=>d.cG::I.kG ds
end
mutual
theorem I.pU:∀d:I,d.cG.wd=d.wd
 | .hole=>rfl
 | .bool _=>rfl
 | .et=>rfl
 | .int _ _=>rfl
 | .str _=>rfl
 | .cS=>rfl
 | .bk=>rfl
 | .slice _=>rfl
 | .aL _ _=>rfl
 | .ref _=>rfl
 | .bM _=>rfl
 | .agg aq=>by simp only[I.cG,I.wd];exact I.At aq
 | .tuple aq=>by simp only[I.cG,I.wd];exact I.At aq
 | .fn _ _=>rfl
 | .h _ _=>rfl
 | .ao _ _=>rfl
 | .U _ _=>rfl
 | .dq _=>rfl
theorem I.At:∀ds:List I,I.dD (I.kG ds)=I.dD ds
 |[]=>rfl
 |d::ds=>by simp only[I.kG,I.dD];rw[I.pU d,I.At ds]
end
mutual
theorem ak.cG {w:World} {F:Nat→Prop}:∀(d:I) (cs:List Value) (S aG:Nat→Prop),ak w F d cs S→ak w F d.cG cs aG
 | .hole,_,_,_,h=>h
 | .bool _,_,_,_,h=>h
 | .et,_,_,_,h=>h
 | .int _ _,_,_,_,h=>h
 | .str _,_,_,_,h=>h
 | .cS,_,_,_,h=>h
 | .bk,_,_,_,h=>h
 | .slice xs,cs,S,aG,h=>by
   show ak w F (.slice xs) cs aG
   rw[ak]at h⊢;exact h
 | .aL sz xs,cs,S,aG,h=>by
   rw[I.cG,ak]
   rw[ak]at h
   rcases h with⟨_,_,rfl⟩|⟨b,cap,cur,e,fr,dp,rfl,_⟩
   ·exact⟨_,rfl,rfl⟩
   ·exact⟨_,rfl,rfl⟩
 | .ref d,cs,S,aG,h=>by
   show ak w F (.ref d) cs aG
   rw[ak]at h⊢;exact h
 | .bM d,cs,S,aG,h=>by
   rw[I.cG,ak]
   rw[ak]at h
   obtain⟨b,cur,e,fr,dp,rfl,_⟩:=h
   exact⟨_,rfl,rfl⟩
 | .agg aq,cs,S,aG,h=>by rw[I.cG,ak];rw[ak]at h;exact aW.cG aq _ _ _ h
 | .tuple aq,cs,S,aG,h=>by rw[I.cG,ak];rw[ak]at h;exact aW.cG aq _ _ _ h
 | .fn _ _,_,_,_,h=>h
 | .h _ _,_,_,_,h=>h
 | .ao _ _,_,_,_,h=>h
 | .U _ _,_,_,_,h=>h
 | .dq _,_,_,_,h=>by rw[ak]at h;rw[I.cG,ak];exact k_.one h
theorem aW.cG {w:World} {F:Nat→Prop}:∀(ds:List I) (cs:List Value) (S aG:Nat→Prop),aW w F ds cs S→aW w F (I.kG ds) cs aG
 |[],_,_,_,h=>h
 |d::ds,cs,S,aG,h=>by
  rw[I.kG,aW]
  rw[aW]at h
  obtain⟨b5,c2,bN,dc,ad,ag,aF,a8,bF,cn⟩:=h
  exact⟨b5,c2,fun _=>False,fun _=>False,ad,ak.cG d _ _ _ ag,aW.cG ds _ _ _ aF,fun _ h=>h.elim,fun _ h=>h.elim,fun _ h=>h.elim⟩
end
mutual
theorem ak.plain {w:World} {F:Nat→Prop}:∀(d:I) (cs:List Value) (S aG:Nat→Prop),d.plain=true→ak w F d cs S→ak w F d cs aG
 | .hole,_,_,_,_,h=>h
 | .bool _,_,_,_,_,h=>h
 | .et,_,_,_,_,h=>h
 | .int _ _,_,_,_,_,h=>h
 | .str _,_,_,_,_,h=>h
 | .cS,_,_,_,_,h=>h
 | .bk,_,_,_,_,h=>h
 | .slice xs,cs,S,aG,_,h=>by rw[ak]at h⊢;exact h
 | .aL sz xs,cs,S,aG,ao,h=>by simp[I.plain]at ao
 | .ref d,cs,S,aG,_,h=>by rw[ak]at h⊢;exact h
 | .bM d,cs,S,aG,ao,h=>by simp[I.plain]at ao
 | .agg aq,cs,S,aG,ao,h=>by rw[ak]at h⊢;exact aW.plain aq _ _ _ ao h
 | .tuple aq,cs,S,aG,ao,h=>by rw[ak]at h⊢;exact aW.plain aq _ _ _ ao h
 | .fn _ _,_,_,_,_,h=>h
 | .h _ _,_,_,_,_,h=>h
 | .ao _ _,_,_,_,_,h=>h
 | .U _ _,_,_,_,_,h=>h
 | .dq _,_,_,_,ao,_=>by simp[I.plain]at ao
theorem aW.plain {w:World} {F:Nat→Prop}:∀(ds:List I) (cs:List Value) (S aG:Nat→Prop),I.fK ds=true→aW w F ds cs S→aW w F ds cs aG
 |[],_,_,_,_,h=>h
 |d::ds,cs,S,aG,ao,h=>by
  rw[aW]at h⊢
  simp only[I.fK,Bool.and_eq_true]at ao
  obtain⟨b5,c2,bN,dc,ad,ag,aF,a8,bF,cn⟩:=h
  exact⟨b5,c2,fun _=>False,fun _=>False,ad,ak.plain d _ _ _ ao.1 ag,aW.plain ds _ _ _ ao.2 aF,fun _ h=>h.elim,fun _ h=>h.elim,fun _ h=>h.elim⟩
end
def I.e2:List Nat→I→Bool
 |[],_=>false
 |k::q,.agg aq=>match aq[k]? with
  |some d=>I.e2 q d
  |none=>false
 |k::q,.tuple aq=>match aq[k]? with
  |some d=>I.e2 q d
  |none=>false
 |_::_,.aL _ _=>true
 |_::_,.bM _=>true
 |_::_,_=>false
theorem w2 {aq:List I} (h:I.fK aq=true) {k:Nat} {d:I} (ax:aq[k]? =some d):d.plain=true:=by
 induction aq generalizing k with
 |nil=>simp at ax
 |cons a aq ih=>
  simp only[I.fK,Bool.and_eq_true]at h
  cases k with
  |zero=>simp at ax;subst ax;exact h.1
  |succ k=>simp at ax;exact ih h.2 ax
theorem I.D9:∀(q:List Nat) (d:I),d.plain=true→I.e2 q d=false:=by
 intro q
 induction q with
 |nil=>intros;rfl
 |cons k q ih=>
  intro d ah
  cases d<;>first|rfl|(simp[I.plain]at ah;done)|skip
  all_goals
   simp only[I.e2]
   split
   ·rename_i aq x ai;exact ih _ (w2 (by simpa [I.plain]using ah) ai)
   ·rfl
theorem I.Au:∀(q:List Nat) (d e:I),d.plain=true→I.sub q d=some e→e.plain=true:=by
 intro q
 induction q with
 |nil=>intro d e ah h;simp[I.sub]at h;exact h▸ah
 |cons k q ih=>
  intro d e ah h
  cases d<;>first|(simp[I.plain]at ah;done)|(simp[I.sub]at h;done)|skip
  all_goals
   simp only[I.sub]at h
   split at h
   ·rename_i aq x ai;exact ih _ _ (w2 (by simpa [I.plain]using ah) ai) h
   ·cases h
theorem w3 {w aA:World} {F:Nat→Prop}:∀(q:List Nat) (av:I) (cs:List Value) (S:Nat→Prop) (a:Option (Nat×Nat)) (d:I),
  ak w F av cs S→I.sub q av=some d→(∀b,S b→aA.heap[b]? =w.heap[b]?)→cL aA q av cs a=cL w q av cs a:=by
 intro q
 induction q with
 |nil=>intros;rfl
 |cons k q ih=>
  have fields:∀(aq:List I) (cs:List Value) (S:Nat→Prop) (a:Option (Nat×Nat)) (x d:I),aW w F aq cs S→aq[k]? =some x→I.sub q x=some d→
    (∀b,S b→aA.heap[b]? =w.heap[b]?)→
    cL aA q x ((cs.drop (I.dD (aq.take k))).take x.wd) (a.map fun l=>(l.1,l.2+I.dD (aq.take k)))=cL w q x ((cs.drop (I.dD (aq.take k))).take x.wd) (a.map fun l=>(l.1,l.2+I.dD (aq.take k))):=by
   intro aq cs S a x d h ai ah bI
   obtain⟨b5,fe,c2,bN,ho,rfl,hd,fg,gM,hP,fz,lB⟩:=aW.pick aq cs S k x h ai
   rw[qR b5 fe c2 _ _ hd (ak.length _ _ _ fz)]
   exact ih x fe ho _ d fz ah (fun b U=>bI b (gM _ U))
  intro av cs S a d h ah bI
  cases av with
  |agg aq=>
   simp only[I.sub]at ah
   split at ah
   ·rename_i x ai
    rw[ak]at h
    simp only[cL,ai]
    exact fields aq cs S a x d h ai ah bI
   ·cases ah
  |tuple aq=>
   simp only[I.sub]at ah
   split at ah
   ·rename_i x ai
    rw[ak]at h
    simp only[cL,ai]
    exact fields aq cs S a x d h ai ah bI
   ·cases ah
  |aL sz xs=>
   simp only[I.sub]at ah
   split at ah
   ·rename_i x ai
    rw[ak]at h
    rcases h with⟨rfl,_,rfl⟩|⟨b,cap,cur,e,fr,dp,rfl,ag,aF,a8,bF,cn,cD,eu,gK,hn,la⟩
    ·simp at ai
    ·obtain⟨b5,fe,c2,bN,ho,p,hd,fg,gM,hP,fz,lB⟩:=aW.pick xs _ dp k x gK ai
     have aO:=ak.length _ _ _ fz
     have KY:k<xs.length:=(List.getElem?_eq_some_iff.1 ai).1
     have uh:x.wd=sz:=eu x (List.mem_of_getElem? ai)
     have cd:I.dD (xs.take k)=k*sz:=by
      rw[qT _ (fun d ah=>eu d (List.mem_of_mem_take ah))]
      rw[List.length_take,Nat.min_eq_left (by omega)]
     obtain⟨o2,kF⟩:∃o2,cur.toList=b5++(fe++(c2++o2)):=by
      refine⟨cur.toList.drop (xs.length*sz),?_⟩
      have:=(List.take_append_drop (xs.length*sz) cur.toList).symm
      rw[p]at this
      simpa using this
     have jo:mC w b (k*sz) sz=fe:=by
      have:=si aF kF
      rwa [hd,cd,aO,uh]at this
     have Av:mC aA b (k*sz) sz=fe:=by
      have:=si ((bI b ag).trans aF) kF
      rwa [hd,cd,aO,uh]at this
     simp only[cL,ai,jo,Av]
     exact ih x fe ho _ d fz ah (fun c aj=>bI c (hn _ (gM _ aj)))
   ·cases ah
  |bM x=>
   cases k with
   |succ k=>simp[I.sub]at ah
   |zero=>
    simp only[I.sub]at ah
    rw[ak]at h
    obtain⟨b,cur,e,fr,dp,rfl,ag,aF,a8,bF,cn,cD⟩:=h
    have aO:=ak.length _ _ _ bF
    have jo:mC w b 0 x.wd=cur.toList:=by
     have:=si (l:=[]) (m:=cur.toList) (r:=[]) aF (by simp)
     rwa [aO]at this
    have Av:mC aA b 0 x.wd=cur.toList:=by
     have:=si (l:=[]) (m:=cur.toList) (r:=[]) ((bI b ag).trans aF) (by simp)
     rwa [aO]at this
    simp only[cL,jo,Av]
    exact ih x cur.toList dp _ d bF ah (fun c aj=>bI c (cn _ aj))
  |_=>simp[I.sub]at ah
def hp:Value→List Value
 | .agg cs=>cs.toList
 |v=>[v]
def bU:Value→List Value
 | .tuple vs=>vs.toList.flatMap hp
 |v=>hp v
def hQ:I→Value→Prop
 | .agg _,v=>∃arr,v= .agg arr
 |_,v=>Value.f_ v=true
def ck:I→Value→Prop
 | .tuple ds,v=>∃arr:Array Value,v= .tuple arr∧arr.size=ds.length∧∀(k:Nat) (d:I) (x:Value),ds[k]? =some d→arr[k]? =some x→hQ d x∧(∀vs,d≠.tuple vs)∧(hp x).length=d.wd
 |d,v=>hQ d v
abbrev an:=Nat→I
mutual
def aB (w:World) (F:Nat→Prop) (s:an) (au:Nat→Value):I→Value→(Nat→Prop)→Prop
 | .hole,_,_=>True
 | .h x q,v,_=>∀d,I.sub q (s x)=some d→d.plain=false→∃cc a,cL w q (s x) (bU (au x)) none=some (d,cc,a)∧bU v=cc∧ck d v
 | .ao x q,v,_=>∀d,I.sub q (s x)=some d→I.e2 q (s x)=true→∃cc b o,cL w q (s x) (bU (au x)) none=some (d,cc,some (b,o))∧v= .pointer (some ⟨b,o,none⟩)
 | .U x k,v,_=>(s x).plain=false→∃b cur e fr,v= .pointer (some ⟨b,k,none⟩)∧F b∧w.heap[b]? =some (.cells cur e fr)∧cur.toList=bU (au x)
 | .fn f cap,v,_=>∃arr:Array Value,v= .func (.func f) #[] arr∧dx w F s au cap arr.toList
 | .bool b,v,S=>ck (.bool b) v∧ak w F (.bool b) (bU v) S
 | .et,v,S=>ck .et v∧ak w F .et (bU v) S
 | .int k n,v,S=>ck (.int k n) v∧ak w F (.int k n) (bU v) S
 | .str x,v,S=>ck (.str x) v∧ak w F (.str x) (bU v) S
 | .cS,v,S=>ck .cS v∧ak w F .cS (bU v) S
 | .bk,v,S=>ck .bk v∧ak w F .bk (bU v) S
 | .slice xs,v,S=>ck (.slice xs) v∧ak w F (.slice xs) (bU v) S
 | .aL sz xs,v,S=>ck (.aL sz xs) v∧ak w F (.aL sz xs) (bU v) S
 | .ref d,v,S=>ck (.ref d) v∧ak w F (.ref d) (bU v) S
 | .bM d,v,S=>ck (.bM d) v∧ak w F (.bM d) (bU v) S
 | .agg d,v,S=>ck (.agg d) v∧ak w F (.agg d) (bU v) S
 | .tuple d,v,S=>ck (.tuple d) v∧ak w F (.tuple d) (bU v) S
 | .dq o,v,S=>ck (.dq o) v∧ak w F (.dq o) (bU v) S
def dx (w:World) (F:Nat→Prop) (s:an) (au:Nat→Value):List I→List Value→Prop
 |[],vs=>vs=[]
 |d::ds,vs=>∃v jc,vs=v::jc∧aB w F s au d v (fun _=>False)∧dx w F s au ds jc
end
def I.tree:I→Bool
 | .hole=>false
 | .h _ _=>false
 | .ao _ _=>false
 | .U _ _=>false
 | .fn _ _=>false
 |_=>true
theorem aB.b9 {w:World} {F:Nat→Prop} {s:an} {au:Nat→Value} {d:I} {v:Value} {S:Nat→Prop} (aY:d.tree=true):
  aB w F s au d v S↔(ck d v∧ak w F d (bU v) S):=by
 cases d<;>first|(simp[I.tree]at aY;done)|rw[aB]
theorem hq {q:List Nat} {av d:I} (h:I.sub q av=some d) (ao:d.plain=false∨I.e2 q av=true):av.tree=true:=by
 cases q with
 |nil=>
  simp[I.sub]at h;subst h
  rcases ao with ao|ao
  ·cases av<;>first|rfl|(simp[I.plain]at ao)
  ·simp[I.e2]at ao
 |cons k q=>cases av<;>first|rfl|(simp[I.sub]at h)
theorem Aw {d:I} (h:d.plain=false):d.tree=true:=hq (q:=[]) (by simp only[I.sub]) (.inl h)
theorem aB.frame {w aA:World} {F bC:Nat→Prop} {s:an} {au:Nat→Value} {Sx:Nat→Nat→Prop} (bl:∀b,F b→aA.heap[b]? =w.heap[b]?) (D_:∀b,F b→bC b)
  (bI:∀x b,Sx x b→aA.heap[b]? =w.heap[b]?) (iE:∀x,aB w F s au (s x) (au x) (Sx x)):
  ∀(d:I) (v:Value) (S:Nat→Prop),(∀b,S b→aA.heap[b]? =w.heap[b]?)→aB w F s au d v S→aB aA bC s au d v S:=by
 have j_:∀(x:Nat) (q:List Nat) (d:I),I.sub q (s x)=some d→(d.plain=false∨I.e2 q (s x)=true)→cL aA q (s x) (bU (au x)) none=cL w q (s x) (bU (au x)) none:=by
  intro x q d ah ao
  have aY:=hq ah ao
  have:=iE x
  rw[aB.b9 aY]at this
  exact w3 q _ _ (Sx x) none d this.2 ah (bI x)
 have KZ:∀(d:I) (v:Value) (S:Nat→Prop),d.tree=true→(∀b,S b→aA.heap[b]? =w.heap[b]?)→aB w F s au d v S→aB aA bC s au d v S:=by
  intro d v S aY qU h
  rw[aB.b9 aY]at h⊢
  exact⟨h.1,ak.mono D_ _ _ _ _ (fun _ h=>h) (ak.frame bl _ _ _ qU h.2)⟩
 have step:∀n,(∀(d:I) (v:Value) (S:Nat→Prop),SizeOf.sizeOf d≤n→(∀b,S b→aA.heap[b]? =w.heap[b]?)→aB w F s au d v S→aB aA bC s au d v S)∧
   (∀(ds:List I) (vs:List Value),SizeOf.sizeOf ds≤n→dx w F s au ds vs→dx aA bC s au ds vs):=by
  intro n
  induction n with
  |zero=>
   refine⟨fun d v S bG=> ?_,fun ds vs bG=> ?_⟩
   ·cases d<;>simp at bG<;>omega
   ·cases ds<;>simp at bG<;>omega
  |succ n ih=>
   refine⟨fun d v S bG qU h=> ?_,fun ds vs bG h=> ?_⟩
   ·cases d with
    |hole=>rw[aB];trivial
    |h x q=>
     rw[aB]at h⊢
     intro d ah ao
     rw[j_ x q d ah (.inl ao)]
     exact h d ah ao
    |ao x q=>
     rw[aB]at h⊢
     intro d ah ao
     rw[j_ x q d ah (.inr ao)]
     exact h d ah ao
    |U x k=>
     rw[aB]at h⊢
     intro ao
     obtain⟨b,cur,e,fr,ad,ag,aF,a8⟩:=h ao
     exact⟨b,cur,e,fr,ad,D_ b ag,(bl b ag).trans aF,a8⟩
    |fn f cap=>
     rw[aB]at h⊢
     obtain⟨arr,rfl,aj⟩:=h
     exact⟨arr,rfl,ih.2 _ _ (by simp at bG;omega) aj⟩
    |_=>exact KZ _ _ _ rfl qU h
   ·cases ds with
    |nil=>rw[dx]at h⊢;exact h
    |cons d ds=>
     rw[dx]at h⊢
     obtain⟨v,jc,rfl,ad,ag⟩:=h
     simp at bG
     exact⟨v,jc,rfl,ih.1 _ _ _ (by omega) (fun _ h=>h.elim) ad,ih.2 _ _ (by omega) ag⟩
 intro d v S qU h
 exact(step (SizeOf.sizeOf d)).1 d v S (Nat.le_refl _) qU h
mutual
def cl (x:Nat):I→I
 | .h y q=>if y=x then .hole else .h y q
 | .ao y q=>if y=x then .hole else .ao y q
 | .U y k=>if y=x then .hole else .U y k
 | .fn f cap=>.fn f (iF x cap)
 |d=>d
def iF (x:Nat):List I→List I
 |[]=>[]
 |d::ds=>cl x d::iF x ds
end
mutual
def bR (x:Nat):I→I
 | .h y q=>if y=x then(if q=[]then .h y q else .hole)else .h y q
 | .ao y q=>if y=x then .hole else .ao y q
 | .fn f cap=>.fn f (h4 x cap)
 |d=>d
def h4 (x:Nat):List I→List I
 |[]=>[]
 |d::ds=>bR x d::h4 x ds
end
def c7 {α:Type} (f:Nat→α) (t:Nat) (v:α):Nat→α:=fun u=>if u=t then v else f u
def mD (t:Nat) (s:an):an:=fun u=>cl t (s u)
def hR (t:Nat) (s:an):an:=fun u=>bR t (s u)
theorem l7 {α:Type} (f:Nat→α) (t:Nat) (v:α):c7 f t v t=v:=by simp[c7]
theorem jd {α:Type} (f:Nat→α) {t u:Nat} (v:α) (h:u≠t):c7 f t v u=f u:=by simp[c7,h]
theorem K0 {t:Nat} {d:I} (h:d.tree=true):cl t d=d:=by cases d<;>first|rfl|(simp[I.tree]at h)
theorem Ax {t:Nat} {d:I} (h:d.tree=true):bR t d=d:=by cases d<;>first|rfl|(simp[I.tree]at h)
theorem K1 {t:Nat} {d:I} (h:(cl t d).tree=true):d.tree=true∧cl t d=d:=by
 cases d<;>first|exact⟨rfl,rfl⟩|(simp only[cl]at h;first|(split at h<;>simp[I.tree]at h)|simp[I.tree]at h)
theorem w4 {t:Nat} {d:I} (h:(bR t d).tree=true):d.tree=true∧bR t d=d:=by
 cases d<;>first|exact⟨rfl,rfl⟩|(simp only[bR]at h;first|(split at h<;>(try split at h)<;>simp[I.tree]at h)|simp[I.tree]at h)
section
variable {w:World} {F:Nat→Prop} {s aw:an} {au jP:Nat→Value} {t:Nat}
theorem aB.cl (hr:∀x,x≠t→(aw x).tree=true→aw x=s x∧jP x=au x):∀(n:Nat),
  (∀(d:I) (v:Value) (S:Nat→Prop),SizeOf.sizeOf d≤n→aB w F s au d v S→aB w F aw jP (cI.cl t d) v S)∧
  (∀(ds:List I) (vs:List Value),SizeOf.sizeOf ds≤n→dx w F s au ds vs→dx w F aw jP (iF t ds) vs):=by
 intro n
 induction n with
 |zero=>
  refine⟨fun d v S bG=> ?_,fun ds vs bG=> ?_⟩
  ·cases d<;>simp at bG<;>omega
  ·cases ds<;>simp at bG<;>omega
 |succ n ih=>
  refine⟨fun d v S bG h=> ?_,fun ds vs bG h=> ?_⟩
  ·cases d with
   |hole=>rw[cI.cl.eq_def];simp only;rw[aB];trivial
   |h x q=>
    simp only[cI.cl]
    split
    ·rw[aB];trivial
    ·rename_i ai
     rw[aB]at h⊢
     intro d ah ao
     obtain⟨aT,aX⟩:=hr x ai (hq ah (.inl ao))
     rw[aT,aX];rw[aT]at ah
     exact h d ah ao
   |ao x q=>
    simp only[cI.cl]
    split
    ·rw[aB];trivial
    ·rename_i ai
     rw[aB]at h⊢
     intro d ah ao
     obtain⟨aT,aX⟩:=hr x ai (hq ah (.inr ao))
     rw[aT,aX];rw[aT]at ah ao
     exact h d ah ao
   |U x k=>
    simp only[cI.cl]
    split
    ·rw[aB];trivial
    ·rename_i ai
     rw[aB]at h⊢
     intro ao
     obtain⟨aT,aX⟩:=hr x ai (Aw ao)
     rw[aX];rw[aT]at ao
     exact h ao
   |fn f cap=>
    simp only[cI.cl]
    rw[aB]at h⊢
    obtain⟨arr,rfl,aj⟩:=h
    exact⟨arr,rfl,ih.2 _ _ (by simp at bG;omega) aj⟩
   |_=>
    rw[K0 (by rfl)]
    exact(aB.b9 (by rfl)).2 ((aB.b9 (by rfl)).1 h)
  ·cases ds with
   |nil=>rw[iF,dx];rw[dx]at h;exact h
   |cons d ds=>
    rw[iF,dx];rw[dx]at h
    obtain⟨v,jc,rfl,ad,ag⟩:=h
    simp at bG
    exact⟨v,jc,rfl,ih.1 _ _ _ (by omega) ad,ih.2 _ _ (by omega) ag⟩
theorem aB.bR {aA:World} (hr:∀x,x≠t→(aw x).tree=true→aw x=s x∧jP x=au x) (lb:jP t=au t) (lD:(aw t).plain=false→(s t).plain=false∧∀v,ck (s t) v→ck (aw t) v)
  (j_:∀x q d,x≠t→I.sub q (s x)=some d→(d.plain=false∨I.e2 q (s x)=true)→cL aA q (s x) (bU (au x)) none=cL w q (s x) (bU (au x)) none)
  (bl:∀b,F b→aA.heap[b]? =w.heap[b]?):∀(n:Nat),
  (∀(d:I) (v:Value) (S:Nat→Prop),SizeOf.sizeOf d≤n→(∀b,S b→aA.heap[b]? =w.heap[b]?)→aB w F s au d v S→aB aA F aw jP (cI.bR t d) v S)∧
  (∀(ds:List I) (vs:List Value),SizeOf.sizeOf ds≤n→dx w F s au ds vs→dx aA F aw jP (h4 t ds) vs):=by
 intro n
 induction n with
 |zero=>
  refine⟨fun d v S bG=> ?_,fun ds vs bG=> ?_⟩
  ·cases d<;>simp at bG<;>omega
  ·cases ds<;>simp at bG<;>omega
 |succ n ih=>
  refine⟨fun d v S bG qU h=> ?_,fun ds vs bG h=> ?_⟩
  ·cases d with
   |hole=>rw[cI.bR.eq_def];simp only;rw[aB];trivial
   |h x q=>
    simp only[cI.bR]
    split
    ·rename_i ai
     subst ai
     split
     ·rename_i cM
      subst cM
      rw[aB]at h⊢
      intro d ah ao
      simp only[I.sub,Option.some.injEq]at ah
      subst ah
      obtain⟨ea,bD⟩:=lD ao
      obtain⟨cc,a,g1,g2,g3⟩:=h (s x) rfl ea
      simp only[cL,Option.some.injEq,Prod.mk.injEq]at g1
      obtain⟨-,g1,alB⟩:=g1
      refine⟨bU (jP x),none,rfl,?_,bD _ g3⟩
      rw[lb,g2,←g1]
     ·rw[aB];trivial
    ·rename_i ai
     rw[aB]at h⊢
     intro d ah ao
     obtain⟨aT,aX⟩:=hr x ai (hq ah (.inl ao))
     rw[aT,aX];rw[aT]at ah
     rw[j_ x q d ai ah (.inl ao)]
     exact h d ah ao
   |ao x q=>
    simp only[cI.bR]
    split
    ·rw[aB];trivial
    ·rename_i ai
     rw[aB]at h⊢
     intro d ah ao
     obtain⟨aT,aX⟩:=hr x ai (hq ah (.inr ao))
     rw[aT,aX];rw[aT]at ah ao
     rw[j_ x q d ai ah (.inr ao)]
     exact h d ah ao
   |U x k=>
    simp only[cI.bR]
    rw[aB]at h⊢
    intro ao
    by_cases ai:x=t
    ·subst ai
     obtain⟨b,cur,e,fr,ad,ag,aF,a8⟩:=h (lD ao).1
     exact⟨b,cur,e,fr,ad,ag,(bl b ag).trans aF,by rw[lb];exact a8⟩
    ·obtain⟨aT,aX⟩:=hr x ai (Aw ao)
     rw[aT]at ao
     obtain⟨b,cur,e,fr,ad,ag,aF,a8⟩:=h ao
     exact⟨b,cur,e,fr,ad,ag,(bl b ag).trans aF,by rw[aX];exact a8⟩
   |fn f cap=>
    simp only[cI.bR]
    rw[aB]at h⊢
    obtain⟨arr,rfl,aj⟩:=h
    exact⟨arr,rfl,ih.2 _ _ (by simp at bG;omega) aj⟩
   |_=>
    rw[Ax (by rfl)]
    have bb:=(aB.b9 (by rfl)).1 h
    exact(aB.b9 (by rfl)).2 ⟨bb.1,ak.frame bl _ _ _ qU bb.2⟩
  ·cases ds with
   |nil=>rw[h4,dx];rw[dx]at h;exact h
   |cons d ds=>
    rw[h4,dx];rw[dx]at h
    obtain⟨v,jc,rfl,ad,ag⟩:=h
    simp at bG
    exact⟨v,jc,rfl,ih.1 _ _ _ (by omega) (fun _ h=>h.elim) ad,ih.2 _ _ (by omega) ag⟩
theorem aB.void (hr:∀x,x≠t→(aw x).tree=true→aw x=s x∧jP x=au x) (nP:(aw t).plain=true):∀(n:Nat),
  (∀(d:I) (v:Value) (S:Nat→Prop),SizeOf.sizeOf d≤n→aB w F s au d v S→aB w F aw jP d v S)∧
  (∀(ds:List I) (vs:List Value),SizeOf.sizeOf ds≤n→dx w F s au ds vs→dx w F aw jP ds vs):=by
 intro n
 induction n with
 |zero=>
  refine⟨fun d v S bG=> ?_,fun ds vs bG=> ?_⟩
  ·cases d<;>simp at bG<;>omega
  ·cases ds<;>simp at bG<;>omega
 |succ n ih=>
  refine⟨fun d v S bG h=> ?_,fun ds vs bG h=> ?_⟩
  ·cases d with
   |hole=>rw[aB];trivial
   |h x q=>
    rw[aB]at h⊢
    intro d ah ao
    by_cases ai:x=t
    ·subst ai
     rw[I.Au _ _ _ nP ah]at ao;cases ao
    ·obtain⟨aT,aX⟩:=hr x ai (hq ah (.inl ao))
     rw[aT,aX];rw[aT]at ah
     exact h d ah ao
   |ao x q=>
    rw[aB]at h⊢
    intro d ah ao
    by_cases ai:x=t
    ·subst ai
     rw[I.D9 _ _ nP]at ao;cases ao
    ·obtain⟨aT,aX⟩:=hr x ai (hq ah (.inr ao))
     rw[aT,aX];rw[aT]at ah ao
     exact h d ah ao
   |U x k=>
    rw[aB]at h⊢
    intro ao
    by_cases ai:x=t
    ·subst ai;rw[nP]at ao;cases ao
    ·obtain⟨aT,aX⟩:=hr x ai (Aw ao)
     rw[aX];rw[aT]at ao
     exact h ao
   |fn f cap=>
    rw[aB]at h⊢
    obtain⟨arr,rfl,aj⟩:=h
    exact⟨arr,rfl,ih.2 _ _ (by simp at bG;omega) aj⟩
   |_=>exact(aB.b9 (by rfl)).2 ((aB.b9 (by rfl)).1 h)
  ·cases ds with
   |nil=>rw[dx];rw[dx]at h;exact h
   |cons d ds=>
    rw[dx];rw[dx]at h
    obtain⟨v,jc,rfl,ad,ag⟩:=h
    simp at bG
    exact⟨v,jc,rfl,ih.1 _ _ _ (by omega) ad,ih.2 _ _ (by omega) ag⟩
end
def Ay:Bool:=false
def Out (w w0:World):Prop:=w.output=w0.output∧(Ay=true→w0.drawn≤w.drawn)
theorem Out.trans {a b c:World} (h:Out a b) (ag:Out b c):Out a c:=⟨Eq.trans h.1 ag.1,fun d=>Nat.le_trans (ag.2 d) (h.2 d)⟩
theorem Out.refl (w:World):Out w w:=⟨rfl,fun _=>Nat.le_refl _⟩
def Az (o:Obj):Prop:=∃aE cs e fr,o= .cells cs e fr∧cs[0]? =some aE∧(aE= .nilIface∨∃AA AB,aE= .iface AA AB)
def AD (o:Obj):Prop:=∃e fr,o= .cells ((List.range 20).map fun i=>Value.int .u64 ((10^i:Nat):Int)).toArray e fr
def AE:List (Nat×(Obj→Prop)):=[(1,Az),(5,AD)]
def o3 (w:World) (X:Nat→Prop):Prop:=∀p∈AE,p.1<w.heap.size∧¬X p.1∧∃o,w.heap[p.1]? =some o∧p.2 o
theorem o3.next {w aA:World} {X Y:Nat→Prop} (h:o3 w X) (aa:w.heap.size≤aA.heap.size) (U:∀b,b<w.heap.size→¬X b→aA.heap[b]? =w.heap[b]?) (hy:∀b,Y b→X b∨w.heap.size≤b):o3 aA Y:=fun p ao=>by
 obtain⟨ad,ag,o,aF,a8⟩:=h p ao
 refine⟨Nat.lt_of_lt_of_le ad aa,fun h=> ?_,o,(U _ ad ag).trans aF,a8⟩
 rcases hy _ h with h|h
 ·exact ag h
 ·omega
structure bw (w0:World) (F0 X F:Nat→Prop) (S:Nat→Nat→Prop) (s:an) (au:Nat→Value) (w:World):Prop where
 gF:∀b,F0 b→F b
 gS:∀b,F b→F0 b∨X b∨w0.heap.size≤b
 eT:∀b,F b→b<w.heap.size
 eg:∀t b,S t b→b<w.heap.size
 fa:∀t b,S t b→¬F b
 eN:∀t u b,t≠u→S t b→¬S u b
 dp:∀t b,S t b→X b∨w0.heap.size≤b
 cN:∀t,aB w F s au (s t) (au t) (S t)
 old:∀b,b<w0.heap.size→¬X b→w.heap[b]? =w0.heap[b]?
 size:w0.heap.size≤w.heap.size
 os:w.os=w0.os
 tape:w.tape=w0.tape
 output:Out w w0
 gn:o3 w0 X
section
variable {w0 w aA:World} {F0 X F:Nat→Prop} {S:Nat→Nat→Prop} {s:an} {au:Nat→Value}
theorem bw.grow (h:bw w0 F0 X F S s au w) (U:∀b,b<w.heap.size→aA.heap[b]? =w.heap[b]?) (aa:w.heap.size≤aA.heap.size)
  (ad:aA.os=w.os) (ag:aA.tape=w.tape) (aF:Out aA w):bw w0 F0 X F S s au aA where
 gF:=h.gF
 gS:=h.gS
 eT:=fun b bl=>Nat.lt_of_lt_of_le (h.eT b bl) aa
 eg:=fun t b bl=>Nat.lt_of_lt_of_le (h.eg t b bl) aa
 fa:=h.fa
 eN:=h.eN
 dp:=h.dp
 cN:=fun t=>aB.frame (Sx:=S) (fun b bl=>U b (h.eT b bl)) (fun _ h=>h) (fun x b bI=>U b (h.eg x b bI)) h.cN _ _ _ (fun b bI=>U b (h.eg t b bI)) (h.cN t)
 old:=fun b d_ jQ=>(U b (Nat.lt_of_lt_of_le d_ h.size)).trans (h.old b d_ jQ)
 size:=Nat.le_trans h.size aa
 os:=ad.trans h.os
 tape:=ag.trans h.tape
 output:=aF.trans h.output
 gn:=h.gn
def fR (S:Nat→Nat→Prop) (t:Nat) (Sn:Nat→Prop):Nat→Nat→Prop:=fun u b=>if u=t then Sn b else S u b
theorem uk (S:Nat→Nat→Prop) (t:Nat) (Sn:Nat→Prop):fR S t Sn t=Sn:=by funext b;simp[fR]
theorem um (S:Nat→Nat→Prop) {t u:Nat} (Sn:Nat→Prop) (h:u≠t):fR S t Sn u=S u:=by funext b;simp[fR,h]
theorem bw.uo (h:bw w0 F0 X F S s au w) {t:Nat} {d:I} {v:Value} (ao:d.plain=true) (ah:aB w F s au d v (fun _=>False)):
  bw w0 F0 X F (fR S t (fun _=>False)) (c7 s t d) (c7 au t v) w where
 gF:=h.gF
 gS:=h.gS
 eT:=h.eT
 eg:=fun u b U=>by simp only[fR]at U;split at U;exact U.elim;exact h.eg u b U
 fa:=fun u b U=>by simp only[fR]at U;split at U;exact U.elim;exact h.fa u b U
 eN:=fun u x b dr U ai=>by
  simp only[fR]at U ai
  split at U
  ·exact U.elim
  ·split at ai
   ·exact ai.elim
   ·exact h.eN u x b dr U ai
 dp:=fun u b U=>by simp only[fR]at U;split at U;exact U.elim;exact h.dp u b U
 cN:=fun u=>by
  have hr:∀x,x≠t→(c7 s t d x).tree=true→c7 s t d x=s x∧c7 au t v x=au x:=fun x ai _=>⟨jd _ _ ai,jd _ _ ai⟩
  have nP:(c7 s t d t).plain=true:=by rw[l7];exact ao
  by_cases hu:u=t
  ·subst hu
   rw[l7,l7,uk]
   exact(aB.void hr nP _).1 _ _ _ (Nat.le_refl _) ah
  ·rw[jd _ _ hu,jd _ _ hu,um _ _ hu]
   exact(aB.void hr nP _).1 _ _ _ (Nat.le_refl _) (h.cN u)
 old:=h.old
 size:=h.size
 os:=h.os
 tape:=h.tape
 output:=h.output
 gn:=h.gn
theorem bw.Ea (h:bw w0 F0 X F S s au w) {t:Nat} {d:I} {v:Value} {Sn:Nat→Prop} (ah:d.tree=true) (aa:ck d v) (aI:ak w F d (bU v) Sn)
  (d_:∀b,Sn b→b<w.heap.size) (bl:∀b,Sn b→¬F b) (bI:∀u b,u≠t→Sn b→¬S u b) (bm:∀b,Sn b→X b∨w0.heap.size≤b):
  bw w0 F0 X F (fR S t Sn) (c7 (mD t s) t d) (c7 au t v) w where
 gF:=h.gF
 gS:=h.gS
 eT:=h.eT
 eg:=fun u b U=>by simp only[fR]at U;split at U;exact d_ b U;exact h.eg u b U
 fa:=fun u b U=>by simp only[fR]at U;split at U;exact bl b U;exact h.fa u b U
 eN:=fun u x b dr U ai=>by
  simp only[fR]at U ai
  split at U
  ·rename_i hu
   rw[if_neg (fun e=>dr (hu.trans e.symm))]at ai
   exact bI x b (fun e=>dr (hu.trans e.symm)) U ai
  ·rename_i hu
   split at ai
   ·exact bI u b hu ai U
   ·exact h.eN u x b dr U ai
 dp:=fun u b U=>by simp only[fR]at U;split at U;exact bm b U;exact h.dp u b U
 cN:=fun u=>by
  have hr:∀x,x≠t→(c7 (mD t s) t d x).tree=true→c7 (mD t s) t d x=s x∧c7 au t v x=au x:=fun x ai aY=>by
   rw[jd _ _ ai]at aY⊢
   exact⟨(K1 aY).2,jd _ _ ai⟩
  by_cases hu:u=t
  ·subst hu
   rw[l7,l7,uk]
   exact(aB.b9 ah).2 ⟨aa,aI⟩
  ·rw[jd _ _ hu,jd _ _ hu,um _ _ hu]
   exact(aB.cl hr _).1 _ _ _ (Nat.le_refl _) (h.cN u)
 old:=h.old
 size:=h.size
 os:=h.os
 tape:=h.tape
 output:=h.output
 gn:=h.gn
theorem pV (k:Nat) (q:List Nat) (bf x:I):(∃aq gs,x= .agg aq∧I.put (k::q) bf x= .agg gs)∨(∃aq gs,x= .tuple aq∧I.put (k::q) bf x= .tuple gs)∨
  (∃sz xs cf,x= .aL sz xs∧I.put (k::q) bf x= .aL sz cf)∨(∃y z,x= .bM y∧I.put (k::q) bf x= .bM z)∨I.put (k::q) bf x=x:=by
 cases x with
 |agg aq=>simp only[I.put];split<;>exact .inl ⟨_,_,rfl,rfl⟩
 |tuple aq=>simp only[I.put];split<;>exact .inr (.inl ⟨_,_,rfl,rfl⟩)
 |aL sz aq=>simp only[I.put];split<;>exact .inr (.inr (.inl ⟨_,_,_,rfl,rfl⟩))
 |bM y=>cases k<;>exact .inr (.inr (.inr (.inl ⟨_,_,rfl,rfl⟩)))
 |_=>exact .inr (.inr (.inr (.inr rfl)))
theorem Eb {k:Nat} {q:List Nat} {bf x:I} {v:Value} (h:hQ x v):hQ (I.put (k::q) bf x) v:=by
 rcases pV k q bf x with⟨aq,gs,rfl,e⟩|⟨aq,gs,rfl,e⟩|⟨sz,xs,cf,rfl,e⟩|⟨y,z,rfl,e⟩|e<;>rw[e]<;>exact h
theorem Ec {k:Nat} {q:List Nat} {bf x:I} (h:∀vs,x≠.tuple vs):∀vs,I.put (k::q) bf x≠.tuple vs:=by
 rcases pV k q bf x with⟨aq,gs,rfl,e⟩|⟨aq,gs,rfl,e⟩|⟨sz,xs,cf,rfl,e⟩|⟨y,z,rfl,e⟩|e<;>rw[e]<;>first|exact h|(intro vs bb;cases bb;done)|exact(h _ rfl).elim
theorem uq {k:Nat} {q:List Nat} {d bf av:I} {v:Value} (h:ck av v) (ah:I.sub (k::q) av=some d) (ad:∀v,hQ d v→hQ bf v) (ag:(∀vs,d≠.tuple vs)→∀vs,bf≠.tuple vs) (aF:bf.wd=d.wd):
  ck (I.put (k::q) bf av) v:=by
 cases av with
 |tuple aq=>
  simp only[I.sub]at ah
  split at ah
  ·rename_i x ai
   simp only[I.put,ai]
   simp only[ck]at h⊢
   obtain⟨arr,rfl,bG,iE⟩:=h
   refine⟨arr,rfl,by simpa using bG,fun j e y he hy=> ?_⟩
   rw[List.getElem?_set]at he
   split at he
   ·rename_i AF
    subst AF
    split at he
    ·simp only[Option.some.injEq]at he
     subst he
     obtain⟨g1,g2,g3⟩:=iE k x y ai hy
     refine⟨?_,?_,g3.trans (I.sg q x d bf ah aF).symm⟩
     ·cases q with
      |nil=>
       simp only[I.sub,Option.some.injEq]at ah
       subst ah
       exact ad _ g1
      |cons b7 q=>exact Eb g1
     ·cases q with
      |nil=>
       simp only[I.sub,Option.some.injEq]at ah
       subst ah
       exact ag g2
      |cons b7 q=>exact Ec g2
    ·cases he
   ·exact iE j e y he hy
  ·cases ah
 |agg aq=>simp only[I.put];split<;>exact h
 |aL sz aq=>simp only[I.put];split<;>exact h
 |bM y=>cases k<;>exact h
 |_=>exact h
theorem AG {d:I} {v:Value} (h:hQ d v):hQ d.cG v:=by cases d<;>exact h
theorem Ed {s:an} {x:Nat} {q:List Nat} {d:I} (ah:I.sub q (s x)=some d) (ao:d.plain=false):
  (c7 (hR x s) x (I.put q d.cG (s x)) x).plain=false→(s x).plain=false∧∀v,ck (s x) v→ck (c7 (hR x s) x (I.put q d.cG (s x)) x) v:=by
  rw[l7]
  intro gT
  cases q with
  |nil=>
   exfalso
   have:∀d:I,d.cG.plain=true:=by
    intro d
    have key:∀n,(∀d:I,SizeOf.sizeOf d≤n→d.cG.plain=true)∧(∀ds:List I,SizeOf.sizeOf ds≤n→I.fK (I.kG ds)=true):=by
     intro n
     induction n with
     |zero=>exact⟨fun d bG=>by cases d<;>simp at bG<;>omega,fun ds bG=>by cases ds<;>simp at bG<;>omega⟩
     |succ n ih=>
      refine⟨fun d bG=> ?_,fun ds bG=> ?_⟩
      ·cases d with
       |agg aq=>simp only[I.cG,I.plain];exact ih.2 _ (by simp at bG;omega)
       |tuple aq=>simp only[I.cG,I.plain];exact ih.2 _ (by simp at bG;omega)
       |_=>rfl
      ·cases ds with
       |nil=>rfl
       |cons d ds=>
        simp at bG
        simp only[I.kG,I.fK,Bool.and_eq_true]
        exact⟨ih.1 _ (by omega),ih.2 _ (by omega)⟩
    exact(key _).1 d (Nat.le_refl _)
   simp only[I.put]at gT
   rw[this]at gT
   cases gT
  |cons k q=>
   refine⟨?_,fun v aI=>uq aI ah (fun v h=>AG h) (fun h vs e=> ?_) (I.pU d)⟩
   ·cases ur:(s x).plain with
    |false=>rfl
    |true=>rw[I.Au _ _ _ ur ah]at ao;cases ao
   ·cases d<;>first|(exact h _ rfl)|(simp[I.cG]at e)
theorem bw.take (h:bw w0 F0 X F S s au w) {x:Nat} {q:List Nat} {d:I} (ah:I.sub q (s x)=some d) (ao:d.plain=false):
  ∃(Sn eM:Nat→Prop) (cc:List Value) (a:Option (Nat×Nat)),bw w0 F0 X F (fR S x Sn) (c7 (hR x s) x (I.put q d.cG (s x))) au w∧
   cL w q (s x) (bU (au x)) none=some (d,cc,a)∧ak w F d cc eM∧(∀b,eM b→S x b)∧(∀b,Sn b→S x b)∧(∀b,eM b→¬Sn b)∧
   (∀(bf:I) (v:Value) (aG:Nat→Prop),aB w F s au bf v aG→aB w F (c7 (hR x s) x (I.put q d.cG (s x))) au (cI.bR x bf) v aG):=by
 have aY:=hq ah (.inl ao)
 have ai:=h.cN x
 rw[aB.b9 aY]at ai
 obtain⟨cc,a,dE,eM,g0,g1,g2,g3,g4,g5⟩:=ctx q (s x) (bU (au x)) (S x) none d ai.2 ah
 have jO:ak w F (I.put q d.cG (s x)) (bU (au x)) dE:=by
  have hD:ak w F d.cG cc (fun _=>False):=ak.cG _ _ _ _ g4
  have ox:∀b,(dE b∨False)→dE b:=fun b h=>h.elim id False.elim
  rcases g5 with⟨l,r,aT,aX,aS⟩|⟨b,cur,e,fr,l,r,aT,aX,aS,bQ,cp,bK⟩
  ·have:=aS w _ cc _ (fun _ _=>rfl) (fun _ _=>rfl) (I.pU d) hD (fun _ h=>h.elim)
   rw[←aT]at this
   exact ak.mono (fun _ h=>h) _ _ _ _ ox this
  ·have:=bK w _ cc _ (fun _ _=>rfl) (fun _ _ _=>rfl) (by rw[aS,←cp]) (I.pU d) hD (fun _ h=>h.elim)
   exact ak.mono (fun _ h=>h) _ _ _ _ ox this
 have K2:ck (I.put q d.cG (s x)) (au x)∧(I.put q d.cG (s x)).tree=true∨I.put q d.cG (s x)= .hole:=by
  cases q with
  |nil=>
   simp only[I.sub,Option.some.injEq]at ah
   subst ah
   simp only[I.put]
   cases aa:s x with
   |aL sz xs=>right;rfl
   |bM y=>right;rfl
   |dq y=>right;rfl
   |agg aq=>left;rw[aa]at ai;exact⟨ai.1,rfl⟩
   |tuple aq=>
    left
    rw[aa]at ai
    refine⟨?_,rfl⟩
    simp only[ck,I.cG]at ai⊢
    obtain⟨arr,e,bG,iE⟩:=ai.1
    have aO:∀aq:List I,I.kG aq=aq.map I.cG:=by
     intro aq;induction aq with
     |nil=>rfl
     |cons a aq ih=>simp[I.kG,ih]
    refine⟨arr,e,by rw[aO];simpa using bG,fun k fQ y he hy=> ?_⟩
    rw[aO,List.getElem?_map]at he
    cases ax:aq[k]? with
    |none=>rw[ax]at he;cases he
    |some z=>
     rw[ax]at he
     simp only[Option.map_some,Option.some.injEq]at he
     subst he
     obtain⟨g1,g2,g3⟩:=iE k z y ax hy
     refine⟨AG g1,fun vs e=> ?_,g3.trans (I.pU z).symm⟩
     cases z<;>first|(exact g2 _ rfl)|(simp[I.cG]at e)
   |_=>rw[aa]at ao;simp[I.plain]at ao
  |cons k q=>
   left
   refine⟨uq ai.1 ah (fun v h=>AG h) (fun h vs e=> ?_) (I.pU d),?_⟩
   ·cases d<;>first|(exact h _ rfl)|(simp[I.cG]at e)
   ·rcases pV k q d.cG (s x)with⟨aq,gs,aT,e⟩|⟨aq,gs,aT,e⟩|⟨sz,xs,cf,aT,e⟩|⟨y,z,aT,e⟩|e<;>rw[e]<;>first|rfl|exact aY
 refine⟨dE,eM,cc,a,?_,g0,g4,g2,g1,fun b ad ag=>g3 b ag ad,?_⟩
 rotate_left
 ·have hr:∀y,y≠x→(c7 (hR x s) x (I.put q d.cG (s x)) y).tree=true→c7 (hR x s) x (I.put q d.cG (s x)) y=s y∧au y=au y:=fun y hy aY=>by
   rw[jd _ _ hy]at aY⊢
   exact⟨(w4 aY).2,rfl⟩
  intro bf v aG gL
  exact(aB.bR hr rfl (Ed ah ao) (fun _ _ _ _ _ _=>rfl) (fun _ _=>rfl) _).1 _ _ _ (Nat.le_refl _) (fun _ _=>rfl) gL
 have hr:∀y,y≠x→(c7 (hR x s) x (I.put q d.cG (s x)) y).tree=true→c7 (hR x s) x (I.put q d.cG (s x)) y=s y∧au y=au y:=fun y hy aY=>by
  rw[jd _ _ hy]at aY⊢
  exact⟨(w4 aY).2,rfl⟩
 have lD:=Ed (s:=s) (x:=x) ah ao
 constructor
 case gF=>exact h.gF
 case gS=>exact h.gS
 case eT=>exact h.eT
 case eg=>exact fun u b U=>by simp only[fR]at U;split at U;exact h.eg x b (g1 b U);exact h.eg u b U
 case fa=>exact fun u b U=>by simp only[fR]at U;split at U;exact h.fa x b (g1 b U);exact h.fa u b U
 case eN=>
  intro u y b dr U hy
  simp only[fR]at U hy
  split at U
  ·rename_i hu
   rw[if_neg (fun e=>dr (hu.trans e.symm))]at hy
   exact h.eN x y b (fun e=>dr (hu.trans e)) (g1 b U) hy
  ·rename_i hu
   split at hy
   ·exact h.eN u x b hu U (g1 b hy)
   ·exact h.eN u y b dr U hy
 case dp=>exact fun u b U=>by simp only[fR]at U;split at U;exact h.dp x b (g1 b U);exact h.dp u b U
 case cN=>
  intro u
  by_cases hu:u=x
  ·subst hu
   rw[l7,uk]
   rcases K2 with⟨aT,aX⟩|e
   ·exact(aB.b9 aX).2 ⟨aT,jO⟩
   ·rw[e,aB];trivial
  ·rw[jd _ _ hu,um _ _ hu]
   exact(aB.bR hr rfl lD (fun _ _ _ _ _ _=>rfl) (fun _ _=>rfl) _).1 _ _ _ (Nat.le_refl _) (fun _ _=>rfl) (h.cN u)
 case old=>exact h.old
 case size=>exact h.size
 case os=>exact h.os
 case tape=>exact h.tape
 case output=>exact h.output
 case gn=>exact h.gn
theorem bw.store (h:bw w0 F0 X F S s au w) {x:Nat} {q:List Nat} {d bf:I} (ah:I.sub q (s x)=some d) (aj:I.e2 q (s x)=true)
  {ff:List Value} {Sn:Nat→Prop} (aI:ak w F bf ff Sn) (j9:bf.wd=d.wd)
  (d_:∀b,Sn b→b<w.heap.size) (bl:∀b,Sn b→¬F b) (bI:∀u b,Sn b→¬S u b) (bm:∀b,Sn b→X b∨w0.heap.size≤b):
  ∃(cc:List Value) (b:Nat) (l r:List Value) (cur:Array Value) (e:TypeId) (fr:Nat×Nat),cL w q (s x) (bU (au x)) none=some (d,cc,some (b,l.length))∧
   w.heap[b]? =some (.cells cur e fr)∧cur.toList=l++(cc++r)∧pS fr cur.size∧
   ∀aA,aA.heap[b]? =some (.cells (l++(ff++r)).toArray e fr)→(∀c,c≠b→aA.heap[c]? =w.heap[c]?)→aA.heap.size=w.heap.size→aA.os=w.os→aA.tape=w.tape→Out aA w→
    ∃aG,bw w0 F0 X F aG (c7 (hR x s) x (I.put q bf (s x))) au aA:=by
 have aY:=hq ah (.inr aj)
 have ai:=h.cN x
 rw[aB.b9 aY]at ai
 obtain⟨cc,a,dE,eM,g0,g1,g2,g3,g4,g5⟩:=ctx q (s x) (bU (au x)) (S x) none d ai.2 ah
 have K3:Deep w F q (s x) (bU (au x)) d cc a dE:=by
  rcases g5 with⟨l,r,aT,aX,aS⟩|g5
  ·exfalso
   have ko:∀(q:List Nat) (av:I) (cs:List Value) (a0:Option (Nat×Nat)) (d:I) (cc:List Value),I.e2 q av=true→cL w q av cs a0=some (d,cc,none)→False:=by
    intro q
    induction q with
    |nil=>intro av cs a0 d cc aj;simp[I.e2]at aj
    |cons k q ih=>
     have Ee:∀(q:List Nat) (av:I) (cs:List Value) (l:Nat×Nat) (d:I) (cc:List Value),cL w q av cs (some l)=some (d,cc,none)→False:=by
      intro q
      induction q with
      |nil=>intro av cs l d cc h;simp[cL]at h
      |cons k q w5=>
       intro av cs l d cc h
       cases av with
       |agg aq=>rw[cL]at h;split at h;exact w5 _ _ _ _ _ h;cases h
       |tuple aq=>rw[cL]at h;split at h;exact w5 _ _ _ _ _ h;cases h
       |aL sz xs=>simp only[cL]at h;split at h;exact w5 _ _ _ _ _ h;cases h
       |bM y=>
        cases k with
        |zero=>rw[cL.eq_def]at h;simp only at h;split at h;exact w5 _ _ _ _ _ h;cases h
        |succ k=>rw[show cL w ((k+1)::q) (.bM y) cs (some l)=none from rfl]at h;cases h
       |_=>simp[cL]at h
     intro av cs a0 d cc aj h
     cases av with
     |agg aq=>
      simp only[I.e2]at aj
      split at aj
      ·rename_i y hy
       simp only[cL,hy]at h
       exact ih _ _ _ _ _ aj h
      ·cases aj
     |tuple aq=>
      simp only[I.e2]at aj
      split at aj
      ·rename_i y hy
       simp only[cL,hy]at h
       exact ih _ _ _ _ _ aj h
      ·cases aj
     |aL sz xs=>simp only[cL]at h;split at h;exact Ee _ _ _ _ _ _ h;cases h
     |bM y=>
      cases k with
      |zero=>rw[cL.eq_def]at h;simp only at h;split at h;exact Ee _ _ _ _ _ _ h;cases h
      |succ k=>rw[show cL w ((k+1)::q) (.bM y) cs a0=none from rfl]at h;cases h
     |_=>simp[I.e2]at aj
   simp only[Option.map_none]at aX
   subst aX
   exact ko _ _ _ _ _ _ aj g0
  ·exact g5
 obtain⟨b,cur,e,fr,l,r,rfl,aX,aS,bQ,cp,bK⟩:=K3
 refine⟨cc,b,l,r,cur,e,fr,g0,aS,cp,bQ,?_⟩
 intro aA lC mX dJ AH AJ qV
 have qW:S x b:=g1 _ aX
 have oy:∀c,F c→aA.heap[c]? =w.heap[c]? :=fun c aj=>mX c (by rintro rfl;exact h.fa x _ qW aj)
 have alC:ff.length=cc.length:=by rw[ak.length _ _ _ aI,ak.length _ _ _ g4,j9]
 have jO:=bK aA bf ff Sn oy (fun c _ dr=>mX c dr) lC j9
  (ak.frame oy _ _ _ (fun c aj=>mX c (by rintro rfl;exact bI x _ aj qW)) aI) (fun c aj ox=>bI x c aj (g1 _ ox))
 obtain⟨k,h5,rfl⟩:∃k h5,q=k::h5:=by
  cases q with
  |nil=>simp[I.e2]at aj
  |cons k q=>exact⟨k,q,rfl⟩
 have uu:∀v,ck (s x) v→ck (I.put (k::h5) bf (s x)) v:=by
  intro v aI
  rcases pV k h5 bf (s x)with⟨aq,gs,aT,e⟩|⟨aq,gs,aT,e⟩|⟨sz,xs,cf,aT,e⟩|⟨y,z,aT,e⟩|e
  ·rw[e];rw[aT]at aI;exact aI
  ·
   rw[aT]at aI ah aj⊢
   simp only[I.e2]at aj
   split at aj
   ·rename_i y hy
    simp only[I.put,hy]
    cases h5 with
    |nil=>simp[I.e2]at aj
    |cons b7 ga=>
     simp only[ck]at aI⊢
     obtain⟨arr,rfl,bG,iE⟩:=aI
     refine⟨arr,rfl,by simpa using bG,fun j e kp he qX=> ?_⟩
     rw[List.getElem?_set]at he
     split at he
     ·rename_i AF
      subst AF
      split at he
      ·simp only[Option.some.injEq]at he
       subst he
       obtain⟨g1,g2,g3⟩:=iE _ y kp hy qX
       simp only[I.sub,hy]at ah
       exact⟨Eb g1,Ec g2,g3.trans (I.sg (b7::ga) y d bf ah j9).symm⟩
      ·cases he
     ·exact iE j e kp he qX
   ·cases aj
  ·rw[e];rw[aT]at aI;exact aI
  ·rw[e];rw[aT]at aI;exact aI
  ·rw[e];exact aI
 have K4:(I.put (k::h5) bf (s x)).tree=true:=by
  rcases pV k h5 bf (s x)with⟨aq,gs,aT,e⟩|⟨aq,gs,aT,e⟩|⟨sz,xs,cf,aT,e⟩|⟨y,z,aT,e⟩|e<;>rw[e]<;>first|rfl|exact aY
 let aw:=c7 (hR x s) x (I.put (k::h5) bf (s x))
 have hr:∀y,y≠x→(aw y).tree=true→aw y=s y∧au y=au y:=fun y hy aY=>by
  have e:aw y=bR x (s y):=jd _ _ hy
  rw[e]at aY⊢
  exact⟨(w4 aY).2,rfl⟩
 have lD:(aw x).plain=false→(s x).plain=false∧∀v,ck (s x) v→ck (aw x) v:=by
  intro _
  refine⟨?_,?_⟩
  ·cases ur:(s x).plain with
   |false=>rfl
   |true=>rw[I.D9 _ _ ur]at aj;cases aj
  ·simp only[aw,l7];exact uu
 refine⟨fR S x (fun c=>dE c∨Sn c),?_⟩
 constructor
 case gF=>exact h.gF
 case gS=>exact h.gS
 case eT=>exact fun b U=>by rw[dJ];exact h.eT b U
 case eg=>
  intro u c U
  rw[dJ]
  simp only[fR]at U
  split at U
  ·rcases U with U|U
   ·exact h.eg x c (g1 c U)
   ·exact d_ c U
  ·exact h.eg u c U
 case fa=>
  intro u c U
  simp only[fR]at U
  split at U
  ·rcases U with U|U
   ·exact h.fa x c (g1 c U)
   ·exact bl c U
  ·exact h.fa u c U
 case eN=>
  intro u y c dr U hy
  simp only[fR]at U hy
  split at U
  ·rename_i hu
   rw[if_neg (fun e=>dr (hu.trans e.symm))]at hy
   rcases U with U|U
   ·exact h.eN x y c (fun e=>dr (hu.trans e)) (g1 c U) hy
   ·exact bI y c U hy
  ·rename_i hu
   split at hy
   ·rcases hy with hy|hy
    ·exact h.eN u x c hu U (g1 c hy)
    ·exact bI u c hy U
   ·exact h.eN u y c dr U hy
 case dp=>
  intro u c U
  simp only[fR]at U
  split at U
  ·rcases U with U|U
   ·exact h.dp x c (g1 c U)
   ·exact bm c U
  ·exact h.dp u c U
 case cN=>
  intro u
  by_cases hu:u=x
  ·subst hu
   rw[l7,uk]
   exact(aB.b9 K4).2 ⟨uu _ ai.1,jO⟩
  ·rw[jd _ _ hu,um _ _ hu]
   have dr:∀y c,y≠x→S y c→aA.heap[c]? =w.heap[c]? :=fun y c hy aj=>mX c (by rintro rfl;exact h.eN y x c hy aj qW)
   refine(aB.bR hr rfl lD (fun y ga d2 hy hf uv=> ?_) oy _).1 _ _ _ (Nat.le_refl _) (fun c aj=>dr u c hu aj) (h.cN u)
   have uw:=h.cN y
   rw[aB.b9 (hq hf uv)]at uw
   exact w3 ga _ _ _ none d2 uw.2 hf (fun c aj=>dr y c hy aj)
 case old=>
  intro c d_ jQ
  by_cases sj:c=b
  ·subst sj
   exfalso
   rcases h.dp x c qW with hD|hD
   ·exact jQ hD
   ·omega
  ·exact(mX c sj).trans (h.old c d_ jQ)
 case size=>rw[dJ];exact h.size
 case os=>exact AH.trans h.os
 case tape=>exact AJ.trans h.tape
 case output=>exact qV.trans h.output
 case gn=>exact h.gn
end
end Go.cI
