/- Part of a proof that a law returns true for every input. No condition. -/
import Derived.Test.YtipllbfpaepajaaGreatDoorFwA
import Derived.Laws.AppendOwn
import Derived.Calls
namespace Go.ca
inductive sB where
 |mp (es:List (List UInt8×Bool))
 |ot
 |fN (T e:TypeId) (ir:List UInt8)
inductive I where
 |hole
 |bool (b:Bool)
 |dk
 |int (k:IntKind) (n:Int)
 |str (s:List UInt8)
 |ct
 |bD
 |slice (xs:List I)
 |aE (sz:Nat) (xs:List I)
 |ref (d:I)
 |a_ (d:I)
 |agg (ag:List I)
 |tuple (vs:List I)
 |fn (f:FuncId) (cap:List I)
 |h (x:Nat) (q:List Nat)
 |ak (x:Nat) (q:List Nat)
 |R (x:Nat) (k:Nat)
 |cH (o:sB)
 deriving Inhabited
mutual
def I.wd:I→Nat
 | .agg ag=>I.cO ag
 | .tuple ag=>I.cO ag
 |_=>1
def I.cO:List I→Nat
 |[]=>0
 |d::ds=>d.wd+I.cO ds
end
def fA (w:World) (b o:Nat) (cs:List Value):Prop:=∀j c,cs[j]? =some c→w.cell? ⟨b,o+j,none⟩=some c
def ou (fr:Nat×Nat) (n:Nat):Prop:=∀o,o<n→¬(fr.1≤o∧o<fr.2)
def Value.eO:Value→Bool
 | .agg _=>false
 | .tuple _=>false
 |_=>true
def I.single:I→Bool
 | .agg _=>false
 | .tuple _=>false
 | .hole=>false
 |_=>true
def jr (w:World):sB→List Value→(Nat→Prop)→Prop
 | .mp es,cs,S=>∃r ms kj,cs=[.map (some r)]∧S r∧w.heap[r]? =some (.map ms kj)∧ms.toList.map (fun e=>(e.key,e.val))=es.map (fun e=>(.string ⟨⟨e.1⟩⟩,.bool e.2))
 | .ot,cs,_=>cs=[.map none]
 | .fN T e ir,cs,S=>∃b a pn,cs=[.pointer (some ⟨b,0,none⟩)]∧S b∧w.heap[b]? =some (.cells #[a,pn] T (0,0))∧(a= .pointer none∨a= .pointer (some ⟨b,0,none⟩))∧
   ((ir=[]∧pn= .slice none 0 0)∨
     ∃g cap cur,pn= .slice (some ⟨g,0,none⟩) ir.length cap∧S g∧g≠b∧w.heap[g]? =some (.cells cur e (0,0))∧ir.length≤cap∧cap≤maxLen∧cur.size=cap∧
      cur.toList.take ir.length=ir.map fun x=>.int .u8 x.toNat)
theorem jr.frame {w aw:World}:∀{o:sB} {cs:List Value} {S:Nat→Prop},(∀b,S b→aw.heap[b]? =w.heap[b]?)→jr w o cs S→jr aw o cs S
 | .mp _,_,_,bg,⟨r,ms,kj,ab,ad,aB,aR⟩=>⟨r,ms,kj,ab,ad,(bg _ ad).trans aB,aR⟩
 | .ot,_,_,_,h=>h
 | .fN _ _ _,_,_,bg,⟨b,a,pn,ab,ad,aB,aR,ba⟩=>⟨b,a,pn,ab,ad,(bg _ ad).trans aB,aR,ba.imp (fun h=>h) fun⟨g,cap,cur,mH,i2,i3,i4,i5⟩=>⟨g,cap,cur,mH,i2,i3,(bg _ i2).trans i4,i5⟩⟩
theorem jr.mono {w:World}:∀{o:sB} {cs:List Value} {S aF:Nat→Prop},(∀b,S b→aF b)→jr w o cs S→jr w o cs aF
 | .mp _,_,_,_,bg,⟨r,ms,kj,ab,ad,aB⟩=>⟨r,ms,kj,ab,bg _ ad,aB⟩
 | .ot,_,_,_,_,h=>h
 | .fN _ _ _,_,_,_,bg,⟨b,a,pn,ab,ad,aB,aR,ba⟩=>⟨b,a,pn,ab,bg _ ad,aB,aR,ba.imp (fun h=>h) fun⟨g,cap,cur,mH,i2,i3⟩=>⟨g,cap,cur,mH,bg _ i2,i3⟩⟩
theorem jr.one {w:World}:∀{o:sB} {cs:List Value} {S:Nat→Prop},jr w o cs S→∃v,Value.eO v=true∧cs=[v]
 | .mp _,_,_,⟨_,_,_,h,_⟩=>⟨_,rfl,h⟩
 | .ot,_,_,h=>⟨_,rfl,h⟩
 | .fN _ _ _,_,_,⟨_,_,_,h,_⟩=>⟨_,rfl,h⟩
mutual
def an (w:World) (F:Nat→Prop):I→List Value→(Nat→Prop)→Prop
 | .hole,cs,_=>∃v,Value.eO v=true∧cs=[v]
 | .bool b,cs,_=>cs=[.bool b]
 | .dk,cs,_=>∃b,cs=[.bool b]
 | .int k n,cs,_=>cs=[.int k n]
 | .str s,cs,_=>cs=[.string ⟨⟨s⟩⟩]
 | .ct,cs,_=>cs=[.pointer none]
 | .bD,cs,_=>cs=[.slice none 0 0]
 | .slice xs,cs,_=>(xs=[]∧∃a c,cs=[.slice a 0 c]∧c≤maxLen∧(a=none→c=0))∨
   ∃b o cap cU sz,cs=[.slice (some ⟨b,o,none⟩) xs.length cap]∧F b∧xs.length≤cap∧cap≤maxLen∧(∀d∈xs,d.wd=sz)∧
    fA w b o cU∧aN w F xs cU (fun _=>False)
 | .aE sz xs,cs,S=>(xs=[]∧∃a,cs=[.slice a 0 0])∨
   ∃b cap cur e fr aF,cs=[.slice (some ⟨b,0,none⟩) xs.length cap]∧S b∧w.heap[b]? =some (.cells cur e fr)∧ou fr cur.size∧
    xs.length≤cap∧cap≤maxLen∧cur.size=cap*sz∧(∀d∈xs,d.wd=sz)∧aN w F xs (cur.toList.take (xs.length*sz)) aF∧(∀c,aF c→S c)∧¬aF b
 | .ref d,cs,_=>∃b o cU,cs=[.pointer (some ⟨b,o,none⟩)]∧F b∧fA w b o cU∧an w F d cU (fun _=>False)
 | .a_ d,cs,S=>∃b cur e fr aF,cs=[.pointer (some ⟨b,0,none⟩)]∧S b∧w.heap[b]? =some (.cells cur e fr)∧ou fr cur.size∧
   an w F d cur.toList aF∧(∀c,aF c→S c)∧¬aF b
 | .agg ag,cs,S=>aN w F ag cs S
 | .tuple ag,cs,S=>aN w F ag cs S
 | .fn f caps,cs,_=>∃arr:Array Value,cs=[.func (.func f) #[] arr]∧(∀d∈caps,d.single=true)∧aN w F caps arr.toList (fun _=>False)
 | .h _ _,_,_=>False
 | .ak _ _,_,_=>False
 | .R _ _,_,_=>False
 | .cH o,cs,S=>jr w o cs S
def aN (w:World) (F:Nat→Prop):List I→List Value→(Nat→Prop)→Prop
 |[],cs,_=>cs=[]
 |d::ds,cs,S=>∃bJ c2 bo cu,cs=bJ++c2∧an w F d bJ bo∧aN w F ds c2 cu∧(∀b,bo b→S b)∧(∀b,cu b→S b)∧(∀b,bo b→¬cu b)
end
theorem cell?_of_block {w aw:World} {b:Nat} (h:aw.heap[b]? =w.heap[b]?) (o:Nat):aw.cell? ⟨b,o,none⟩=w.cell? ⟨b,o,none⟩:=by
 simp[World.cell?,h]
theorem fA.frame {w aw:World} {b o:Nat} {cs:List Value} (h:aw.heap[b]? =w.heap[b]?) (aD:fA w b o cs):fA aw b o cs:=
 fun j c ai=>(cell?_of_block h _).trans (aD j c ai)
mutual
theorem an.frame {w aw:World} {F:Nat→Prop} (a1:∀b,F b→aw.heap[b]? =w.heap[b]?):
  ∀(d:I) (cs:List Value) (S:Nat→Prop),(∀b,S b→aw.heap[b]? =w.heap[b]?)→an w F d cs S→an aw F d cs S
 | .hole,_,_,_,h=>h
 | .bool _,_,_,_,h=>h
 | .dk,_,_,_,h=>h
 | .int _ _,_,_,_,h=>h
 | .str _,_,_,_,h=>h
 | .ct,_,_,_,h=>h
 | .bD,_,_,_,h=>h
 | .slice xs,cs,S,bg,h=>by
   rw[an]at h⊢
   rcases h with h|⟨b,o,cap,cU,sz,ab,ad,aB,aR,ba,bu,bE⟩
   ·exact .inl h
   ·exact .inr ⟨b,o,cap,cU,sz,ab,ad,aB,aR,ba,bu.frame (a1 _ ad),aN.frame a1 xs _ _ (fun _ h=>h.elim) bE⟩
 | .aE sz xs,cs,S,bg,h=>by
   rw[an]at h⊢
   rcases h with h|⟨b,cap,cur,e,fr,aF,ab,ad,aB,aR,ba,bu,bE,cK,eR,fB,js⟩
   ·exact .inl h
   ·exact .inr ⟨b,cap,cur,e,fr,aF,ab,ad,(bg _ ad).trans aB,aR,ba,bu,bE,cK,aN.frame a1 xs _ _ (fun c ai=>bg _ (fB _ ai)) eR,fB,js⟩
 | .ref d,cs,S,bg,h=>by
   rw[an]at h⊢
   obtain⟨b,o,cU,ab,ad,aB,aR⟩:=h
   exact⟨b,o,cU,ab,ad,aB.frame (a1 _ ad),an.frame a1 d _ _ (fun _ h=>h.elim) aR⟩
 | .a_ d,cs,S,bg,h=>by
   rw[an]at h⊢
   obtain⟨b,cur,e,fr,aF,ab,ad,aB,aR,ba,bu,bE⟩:=h
   exact⟨b,cur,e,fr,aF,ab,ad,(bg _ ad).trans aB,aR,an.frame a1 d _ _ (fun c ai=>bg _ (bu _ ai)) ba,bu,bE⟩
 | .agg ag,cs,S,bg,h=>by rw[an]at h⊢;exact aN.frame a1 ag _ _ bg h
 | .tuple ag,cs,S,bg,h=>by rw[an]at h⊢;exact aN.frame a1 ag _ _ bg h
 | .fn _ caps,cs,S,bg,h=>by
   rw[an]at h⊢
   obtain⟨arr,ab,ad,aB⟩:=h
   exact⟨arr,ab,ad,aN.frame a1 caps _ _ (fun _ h=>h.elim) aB⟩
 | .h _ _,_,_,_,h=>h
 | .ak _ _,_,_,_,h=>h
 | .R _ _,_,_,_,h=>h
 | .cH _,_,_,bg,h=>jr.frame bg h
theorem aN.frame {w aw:World} {F:Nat→Prop} (a1:∀b,F b→aw.heap[b]? =w.heap[b]?):
  ∀(ds:List I) (cs:List Value) (S:Nat→Prop),(∀b,S b→aw.heap[b]? =w.heap[b]?)→aN w F ds cs S→aN aw F ds cs S
 |[],_,_,_,h=>h
 |d::ds,cs,S,bg,h=>by
  rw[aN]at h⊢
  obtain⟨bJ,c2,bo,cu,ab,ad,aB,aR,ba,bu⟩:=h
  exact⟨bJ,c2,bo,cu,ab,an.frame a1 d _ _ (fun b R=>bg _ (aR _ R)) ad,aN.frame a1 ds _ _ (fun b R=>bg _ (ba _ R)) aB,aR,ba,bu⟩
end
mutual
theorem an.mono {w:World} {F bf:Nat→Prop} (a1:∀b,F b→bf b):
  ∀(d:I) (cs:List Value) (S aF:Nat→Prop),(∀b,S b→aF b)→an w F d cs S→an w bf d cs aF
 | .hole,_,_,_,_,h=>h
 | .bool _,_,_,_,_,h=>h
 | .dk,_,_,_,_,h=>h
 | .int _ _,_,_,_,_,h=>h
 | .str _,_,_,_,_,h=>h
 | .ct,_,_,_,_,h=>h
 | .bD,_,_,_,_,h=>h
 | .slice xs,cs,S,_,bg,h=>by
   rw[an]at h⊢
   rcases h with h|⟨b,o,cap,cU,sz,ab,ad,aB,aR,ba,bu,bE⟩
   ·exact .inl h
   ·exact .inr ⟨b,o,cap,cU,sz,ab,a1 _ ad,aB,aR,ba,bu,aN.mono a1 xs _ _ _ (fun _ h=>h) bE⟩
 | .aE sz xs,cs,S,_,bg,h=>by
   rw[an]at h⊢
   rcases h with h|⟨b,cap,cur,e,fr,aF,ab,ad,aB,aR,ba,bu,bE,cK,eR,fB,js⟩
   ·exact .inl h
   ·exact .inr ⟨b,cap,cur,e,fr,aF,ab,bg _ ad,aB,aR,ba,bu,bE,cK,aN.mono a1 xs _ _ _ (fun _ h=>h) eR,fun c ai=>bg _ (fB _ ai),js⟩
 | .ref d,cs,S,_,bg,h=>by
   rw[an]at h⊢
   obtain⟨b,o,cU,ab,ad,aB,aR⟩:=h
   exact⟨b,o,cU,ab,a1 _ ad,aB,an.mono a1 d _ _ _ (fun _ h=>h) aR⟩
 | .a_ d,cs,S,_,bg,h=>by
   rw[an]at h⊢
   obtain⟨b,cur,e,fr,aF,ab,ad,aB,aR,ba,bu,bE⟩:=h
   exact⟨b,cur,e,fr,aF,ab,bg _ ad,aB,aR,an.mono a1 d _ _ _ (fun _ h=>h) ba,fun c ai=>bg _ (bu _ ai),bE⟩
 | .agg ag,cs,S,_,bg,h=>by rw[an]at h⊢;exact aN.mono a1 ag _ _ _ bg h
 | .tuple ag,cs,S,_,bg,h=>by rw[an]at h⊢;exact aN.mono a1 ag _ _ _ bg h
 | .fn _ caps,cs,S,_,bg,h=>by
   rw[an]at h⊢
   obtain⟨arr,ab,ad,aB⟩:=h
   exact⟨arr,ab,ad,aN.mono a1 caps _ _ _ (fun _ h=>h) aB⟩
 | .h _ _,_,_,_,_,h=>h
 | .ak _ _,_,_,_,_,h=>h
 | .R _ _,_,_,_,_,h=>h
 | .cH _,_,_,_,bg,h=>jr.mono bg h
theorem aN.mono {w:World} {F bf:Nat→Prop} (a1:∀b,F b→bf b):
  ∀(ds:List I) (cs:List Value) (S aF:Nat→Prop),(∀b,S b→aF b)→aN w F ds cs S→aN w bf ds cs aF
 |[],_,_,_,_,h=>h
 |d::ds,cs,S,_,bg,h=>by
  rw[aN]at h⊢
  obtain⟨bJ,c2,bo,cu,ab,ad,aB,aR,ba,bu⟩:=h
  exact⟨bJ,c2,bo,cu,ab,an.mono a1 d _ _ _ (fun _ h=>h) ad,aN.mono a1 ds _ _ _ (fun _ h=>h) aB,fun b R=>bg _ (aR _ R),fun b R=>bg _ (ba _ R),bu⟩
end
mutual
theorem an.length {w:World} {F:Nat→Prop}:∀(d:I) (cs:List Value) (S:Nat→Prop),an w F d cs S→cs.length=d.wd
 | .hole,cs,S,h=>by rw[an]at h;obtain⟨v,_,rfl⟩:=h;rfl
 | .bool _,cs,S,h=>by rw[an]at h;subst h;rfl
 | .dk,cs,S,h=>by rw[an]at h;obtain⟨b,rfl⟩:=h;rfl
 | .int _ _,cs,S,h=>by rw[an]at h;subst h;rfl
 | .str _,cs,S,h=>by rw[an]at h;subst h;rfl
 | .ct,cs,S,h=>by rw[an]at h;subst h;rfl
 | .bD,cs,S,h=>by rw[an]at h;subst h;rfl
 | .slice xs,cs,S,h=>by
   rw[an]at h
   rcases h with⟨_,a,c,rfl,_⟩|⟨b,o,cap,cU,sz,rfl,_⟩<;>rfl
 | .aE sz xs,cs,S,h=>by
   rw[an]at h
   rcases h with⟨_,a,rfl⟩|⟨b,cap,cur,e,fr,aF,rfl,_⟩<;>rfl
 | .ref d,cs,S,h=>by rw[an]at h;obtain⟨b,o,cU,rfl,_⟩:=h;rfl
 | .a_ d,cs,S,h=>by rw[an]at h;obtain⟨b,o,cU,_,_,rfl,_⟩:=h;rfl
 | .agg ag,cs,S,h=>by rw[an]at h;exact aN.length ag _ _ h
 | .tuple ag,cs,S,h=>by rw[an]at h;exact aN.length ag _ _ h
 | .fn _ _,cs,S,h=>by rw[an]at h;obtain⟨arr,rfl,_⟩:=h;rfl
 | .h _ _,cs,S,h=>by rw[an]at h;exact h.elim
 | .ak _ _,cs,S,h=>by rw[an]at h;exact h.elim
 | .R _ _,cs,S,h=>by rw[an]at h;exact h.elim
 | .cH _,cs,S,h=>by rw[an]at h;obtain⟨v,_,rfl⟩:=jr.one h;rfl
theorem aN.length {w:World} {F:Nat→Prop}:∀(ds:List I) (cs:List Value) (S:Nat→Prop),aN w F ds cs S→cs.length=I.cO ds
 |[],cs,S,h=>by rw[aN]at h;subst h;rfl
 |d::ds,cs,S,h=>by
  rw[aN]at h
  obtain⟨bJ,c2,bo,cu,rfl,ad,aB,_⟩:=h
  rw[List.length_append,an.length d _ _ ad,aN.length ds _ _ aB,I.cO]
end
mutual
def I.share:I→I
 | .aE _ xs=>.slice (I.shares xs)
 | .a_ d=>.ref d.share
 | .slice xs=>.slice (I.shares xs)
 | .ref d=>.ref d.share
 | .agg ag=>.agg (I.shares ag)
 | .tuple ag=>.tuple (I.shares ag)
 | .cH _=>.hole
 |d=>d
def I.shares:List I→List I
 |[]=>[]
 |d::ds=>d.share::I.shares ds
end
theorem I.po (ds:List I):I.shares ds=ds.map I.share:=by
 induction ds with
 |nil=>rfl
 |cons d ds ih=>simp[I.shares,ih]
mutual
theorem I.u1:∀d:I,d.share.wd=d.wd
 | .hole=>rfl
 | .bool _=>rfl
 | .dk=>rfl
 | .int _ _=>rfl
 | .str _=>rfl
 | .ct=>rfl
 | .bD=>rfl
 | .slice _=>rfl
 | .aE _ _=>rfl
 | .ref _=>rfl
 | .a_ _=>rfl
 | .agg ag=>by simp only[I.share,I.wd];exact I.xA ag
 | .tuple ag=>by simp only[I.share,I.wd];exact I.xA ag
 | .fn _ _=>rfl
 | .h _ _=>rfl
 | .ak _ _=>rfl
 | .R _ _=>rfl
 | .cH _=>rfl
theorem I.xA:∀ds:List I,I.cO (I.shares ds)=I.cO ds
 |[]=>rfl
 |d::ds=>by simp only[I.shares,I.cO];rw[I.u1 d,I.xA ds]
end
theorem qM {w:World} {b:Nat} {cur:Array Value} {e:TypeId} {fr:Nat×Nat} (h:w.heap[b]? =some (.cells cur e fr)) (n:Nat):fA w b 0 (cur.toList.take n):=by
 intro j c ai
 rw[List.getElem?_take]at ai
 split at ai
 ·simp[World.cell?,h];simpa using ai
 ·cases ai
mutual
theorem an.shared {w:World} {F bf:Nat→Prop} (a1:∀b,F b→bf b):
  ∀(d:I) (cs:List Value) (S:Nat→Prop),(∀b,S b→bf b)→an w F d cs S→an w bf d.share cs (fun _=>False)
 | .hole,_,_,_,h=>h
 | .bool _,_,_,_,h=>h
 | .dk,_,_,_,h=>h
 | .int _ _,_,_,_,h=>h
 | .str _,_,_,_,h=>h
 | .ct,_,_,_,h=>h
 | .bD,_,_,_,h=>h
 | .slice xs,cs,S,bg,h=>by
   rw[I.share,an]
   rw[an]at h
   rcases h with⟨rfl,a,c,rfl,ai⟩|⟨b,o,cap,cU,sz,ab,ad,aB,aR,ba,bu,bE⟩
   ·exact .inl ⟨rfl,a,c,rfl,ai⟩
   ·refine .inr ⟨b,o,cap,cU,sz,?_,a1 _ ad,?_,aR,?_,bu,aN.shared a1 xs _ _ (fun _ h=>h.elim) bE⟩
    ·simpa [I.po]using ab
    ·simpa [I.po]using aB
    ·intro d ae
     rw[I.po]at ae
     obtain⟨aY,e6,rfl⟩:=List.mem_map.1 ae
     rw[I.u1];exact ba _ e6
 | .aE sz xs,cs,S,bg,h=>by
   rw[I.share,an]
   rw[an]at h
   rcases h with⟨rfl,a,rfl⟩|⟨b,cap,cur,e,fr,aF,ab,ad,aB,aR,ba,bu,bE,cK,eR,fB,js⟩
   ·exact .inl ⟨rfl,a,0,rfl,Nat.zero_le _,fun _=>rfl⟩
   ·refine .inr ⟨b,0,cap,_,sz,?_,bg _ ad,?_,bu,?_,qM aB _,aN.shared a1 xs _ _ (fun c ai=>bg _ (fB _ ai)) eR⟩
    ·simpa [I.po]using ab
    ·simpa [I.po]using ba
    ·intro d ae
     rw[I.po]at ae
     obtain⟨aY,e6,rfl⟩:=List.mem_map.1 ae
     rw[I.u1];exact cK _ e6
 | .ref d,cs,S,bg,h=>by
   rw[I.share,an]
   rw[an]at h
   obtain⟨b,o,cU,ab,ad,aB,aR⟩:=h
   exact⟨b,o,cU,ab,a1 _ ad,aB,an.shared a1 d _ _ (fun _ h=>h.elim) aR⟩
 | .a_ d,cs,S,bg,h=>by
   rw[I.share,an]
   rw[an]at h
   obtain⟨b,cur,e,fr,aF,ab,ad,aB,aR,ba,bu,bE⟩:=h
   refine⟨b,0,cur.toList,ab,bg _ ad,?_,an.shared a1 d _ _ (fun c ai=>bg _ (bu _ ai)) ba⟩
   have:=qM aB cur.toList.length
   rwa [List.take_length]at this
 | .agg ag,cs,S,bg,h=>by rw[I.share,an];rw[an]at h;exact aN.shared a1 ag _ _ bg h
 | .tuple ag,cs,S,bg,h=>by rw[I.share,an];rw[an]at h;exact aN.shared a1 ag _ _ bg h
 | .fn f caps,cs,S,bg,h=>by
   show an w bf (.fn f caps) cs _
   rw[an]at h⊢
   obtain⟨arr,ab,ad,aB⟩:=h
   exact⟨arr,ab,ad,aN.mono a1 caps _ _ _ (fun _ h=>h) aB⟩
 | .h _ _,_,_,_,h=>h
 | .ak _ _,_,_,_,h=>h
 | .R _ _,_,_,_,h=>h
 | .cH _,cs,S,bg,h=>by rw[an]at h;rw[I.share,an];exact jr.one h
theorem aN.shared {w:World} {F bf:Nat→Prop} (a1:∀b,F b→bf b):
  ∀(ds:List I) (cs:List Value) (S:Nat→Prop),(∀b,S b→bf b)→aN w F ds cs S→aN w bf (I.shares ds) cs (fun _=>False)
 |[],_,_,_,h=>h
 |d::ds,cs,S,bg,h=>by
  simp only[I.shares]
  rw[aN]at h⊢
  obtain⟨bJ,c2,bo,cu,ab,ad,aB,aR,ba,bu⟩:=h
  exact⟨bJ,c2,_,_,ab,an.shared a1 d _ _ (fun b R=>bg _ (aR _ R)) ad,aN.shared a1 ds _ _ (fun b R=>bg _ (ba _ R)) aB,fun _ h=>h,fun _ h=>h,fun _ h=>h.elim⟩
end
def I.sub:List Nat→I→Option I
 |[],d=>some d
 |k::q,.agg ag=>match ag[k]? with
  |some d=>I.sub q d
  |none=>none
 |k::q,.tuple ag=>match ag[k]? with
  |some d=>I.sub q d
  |none=>none
 |i::q,.aE _ xs=>match xs[i]? with
  |some d=>I.sub q d
  |none=>none
 |0::q,.a_ d=>I.sub q d
 |_::_,_=>none
def I.put:List Nat→I→I→I
 |[],n,_=>n
 |k::q,n,.agg ag=>match ag[k]? with
  |some d=>.agg (ag.set k (I.put q n d))
  |none=>.agg ag
 |k::q,n,.tuple ag=>match ag[k]? with
  |some d=>.tuple (ag.set k (I.put q n d))
  |none=>.tuple ag
 |i::q,n,.aE sz xs=>match xs[i]? with
  |some d=>.aE sz (xs.set i (I.put q n d))
  |none=>.aE sz xs
 |0::q,n,.a_ d=>.a_ (I.put q n d)
 |_::_,_,d=>d
def kO (w:World) (b o n:Nat):List Value:=(List.range n).map fun j=>(w.cell? ⟨b,o+j,none⟩).getD undef
theorem fA.kO {w:World} {b o:Nat} {cs:List Value} (h:fA w b o cs):kO w b o cs.length=cs:=by
 unfold ca.kO
 apply List.ext_getElem?
 intro i
 rw[List.getElem?_map]
 by_cases aA:i<cs.length
 ·have:cs[i]? =some cs[i]:=List.getElem?_eq_getElem aA
  simp[aA,h i _ this]
 ·simp[aA]
def cg (w:World):List Nat→I→List Value→Option (Nat×Nat)→Option (I×List Value×Option (Nat×Nat))
 |[],d,cs,a=>some (d,cs,a)
 |k::q,.agg ag,cs,a=>match ag[k]? with
  |some d=>cg w q d ((cs.drop (I.cO (ag.take k))).take d.wd) (a.map fun l=>(l.1,l.2+I.cO (ag.take k)))
  |none=>none
 |k::q,.tuple ag,cs,a=>match ag[k]? with
  |some d=>cg w q d ((cs.drop (I.cO (ag.take k))).take d.wd) (a.map fun l=>(l.1,l.2+I.cO (ag.take k)))
  |none=>none
 |i::q,.aE sz xs,cs,_=>match xs[i]?,cs with
  |some d,[.slice (some ⟨b,_,_⟩) _ _]=>cg w q d (kO w b (i*sz) sz) (some (b,i*sz))
  |_,_=>none
 |0::q,.a_ d,cs,_=>match cs with
  |[.pointer (some ⟨b,_,_⟩)]=>cg w q d (kO w b 0 d.wd) (some (b,0))
  |_=>none
 |_::_,_,_,_=>none
theorem pq (bJ eb c2:List Value) (n m:Nat) (ab:bJ.length=n) (ad:eb.length=m):((bJ++(eb++c2)).drop n).take m=eb:=by
 rw[List.drop_left' ab,List.take_left' ad]
theorem aN.pick {w:World} {F:Nat→Prop}:∀(ds:List I) (cs:List Value) (S:Nat→Prop) (k:Nat) (d:I),
  aN w F ds cs S→ds[k]? =some d→∃(bJ eb c2:List Value) (bo fC:Nat→Prop),cs=bJ++(eb++c2)∧bJ.length=I.cO (ds.take k)∧
   (∀b,bo b→S b)∧(∀b,fC b→S b)∧(∀b,bo b→¬fC b)∧an w F d eb fC∧
   ∀(aw:World) (aY:I) (pr:List Value) (aF:Nat→Prop),(∀b,F b→aw.heap[b]? =w.heap[b]?)→(∀b,bo b→aw.heap[b]? =w.heap[b]?)→
    an aw F aY pr aF→(∀b,aF b→¬bo b)→aN aw F (ds.set k aY) (bJ++(pr++c2)) (fun b=>bo b∨aF b)
 |[],_,_,_,_,_,al=>by simp at al
 |x::ds,cs,S,0,d,h,al=>by
  rw[aN]at h
  obtain⟨bJ,c2,fs,eS,rfl,ab,ad,bT,R,jM⟩:=h
  simp at al;subst al
  refine⟨[],bJ,c2,eS,fs,rfl,rfl,R,bT,fun b R bT=>jM _ bT R,ab,?_⟩
  intro aw aY pr aF a1 bg ae gM
  simp only[List.set_cons_zero,List.nil_append]
  rw[aN]
  exact⟨pr,c2,aF,eS,rfl,ae,aN.frame a1 _ _ _ bg ad,fun b h=>.inr h,fun b h=>.inl h,fun b h=>gM b h⟩
 |x::ds,cs,S,k+1,d,h,al=>by
  rw[aN]at h
  obtain⟨c0,HG,fs,eS,rfl,ab,ad,bT,R,jM⟩:=h
  simp only[List.getElem?_cons_succ]at al
  have hl:=an.length _ _ _ ab
  obtain⟨bJ,eb,c2,bo,fC,rfl,i0,mH,i2,i3,i5,xB⟩:=aN.pick ds HG eS k d ad al
  refine⟨c0++bJ,eb,c2,fun b=>fs b∨bo b,fC,by simp,by simp[I.cO,hl,i0],?_,fun b h=>R _ (i2 _ h),?_,i5,?_⟩
  ·rintro b (h|h)
   ·exact bT _ h
   ·exact R _ (mH _ h)
  ·rintro b (h|h) al
   ·exact jM _ h (i2 _ al)
   ·exact i3 _ h al
  ·intro aw aY pr aF a1 bg ae gM
   simp only[List.set_cons_succ]
   rw[aN]
   refine⟨c0,bJ++(pr++c2),fs,fun b=>bo b∨aF b,by simp,an.frame a1 _ _ _ (fun b R=>bg b (.inl R)) ab,
    xB aw aY pr aF a1 (fun b R=>bg b (.inr R)) ae (fun b R ai=>gM b R (.inr ai)),fun b h=>.inl (.inl h),?_,?_⟩
   ·rintro b (h|h)
    ·exact .inl (.inr h)
    ·exact .inr h
   ·rintro b h (aS|aS)
    ·exact jM _ h (mH _ aS)
    ·exact gM _ aS (.inl h)
theorem xC:∀(ag:List I) (k:Nat) (x y:I),ag[k]? =some x→y.wd=x.wd→I.cO (ag.set k y)=I.cO ag:=by
 intro ag
 induction ag with
 |nil=>intro k x y h;simp at h
 |cons a ag ih=>
  intro k x y h e
  cases k with
  |zero=>simp at h;subst h;simp[I.cO,e]
  |succ k=>simp at h;simp[I.cO,ih k x y h e]
theorem pt {sz:Nat}:∀(xs:List I),(∀d∈xs,d.wd=sz)→I.cO xs=xs.length*sz
 |[],_=>by simp[I.cO]
 |x::xs,h=>by
  rw[I.cO,h x (by simp),pt xs (fun d ae=>h d (by simp[ae])),List.length_cons,Nat.add_mul,Nat.one_mul,Nat.add_comm]
theorem I.qN:∀(q:List Nat) (av d aY:I),I.sub q av=some d→aY.wd=d.wd→(I.put q aY av).wd=av.wd:=by
 intro q
 induction q with
 |nil=>intro av d aY h e;simp[I.sub]at h;subst h;simpa [I.put]using e
 |cons k q ih=>
  intro av d aY h e
  cases av with
  |agg ag=>
   simp only[I.sub]at h
   split at h
   ·rename_i x aq
    simp only[I.put,aq,I.wd]
    exact xC _ _ _ _ aq (ih _ _ _ h e)
   ·cases h
  |tuple ag=>
   simp only[I.sub]at h
   split at h
   ·rename_i x aq
    simp only[I.put,aq,I.wd]
    exact xC _ _ _ _ aq (ih _ _ _ h e)
   ·cases h
  |aE sz xs=>
   simp only[I.sub]at h
   split at h
   ·rename_i x aq
    simp only[I.put,aq,I.wd]
   ·cases h
  |a_ x=>
   cases k with
   |zero=>simp only[I.put,I.wd]
   |succ k=>simp[I.sub]at h
  |_=>simp[I.sub]at h
theorem xD {sz:Nat} {xs:List I} {i:Nat} {y:I} (h:∀d∈xs,d.wd=sz) (hy:y.wd=sz):∀d∈xs.set i y,d.wd=sz:=by
 intro d ae
 rcases List.mem_or_eq_of_mem_set ae with ae|rfl
 ·exact h d ae
 ·exact hy
theorem qO {w:World} {b:Nat} {cur:Array Value} {e:TypeId} {fr:Nat×Nat} (h:w.heap[b]? =some (.cells cur e fr)) {l m r:List Value} (ai:cur.toList=l++(m++r)):
  kO w b l.length m.length=m:=by
 refine fA.kO (fun j c b2=> ?_)
 have c_:j<m.length:=(List.getElem?_eq_some_iff.1 b2).1
 have:cur.toList[l.length+j]? =some c:=by
  rw[ai,List.getElem?_append_right (by omega),List.getElem?_append_left (by omega)]
  rw[←b2];congr 1;omega
 simp[World.cell?,h]
 simpa using this
def Flat (w:World) (F:Nat→Prop) (q:List Nat) (av:I) (cs:List Value) (a:Option (Nat×Nat)) (d:I) (bR:List Value) (bU:Option (Nat×Nat)) (cQ:Nat→Prop):Prop:=
 ∃l r:List Value,cs=l++(bR++r)∧bU=a.map (fun x=>(x.1,x.2+l.length))∧
  ∀(aw:World) (aY:I) (ed:List Value) (aF:Nat→Prop),(∀b,F b→aw.heap[b]? =w.heap[b]?)→(∀b,cQ b→aw.heap[b]? =w.heap[b]?)→
   aY.wd=d.wd→an aw F aY ed aF→(∀b,aF b→¬cQ b)→an aw F (I.put q aY av) (l++(ed++r)) (fun b=>cQ b∨aF b)
def Deep (w:World) (F:Nat→Prop) (q:List Nat) (av:I) (cs:List Value) (d:I) (bR:List Value) (bU:Option (Nat×Nat)) (cQ:Nat→Prop):Prop:=
 ∃(b:Nat) (cur:Array Value) (e:TypeId) (fr:Nat×Nat) (l r:List Value),bU=some (b,l.length)∧cQ b∧w.heap[b]? =some (.cells cur e fr)∧ou fr cur.size∧cur.toList=l++(bR++r)∧
  ∀(aw:World) (aY:I) (ed:List Value) (aF:Nat→Prop),(∀b,F b→aw.heap[b]? =w.heap[b]?)→(∀c,cQ c→c≠b→aw.heap[c]? =w.heap[c]?)→
   aw.heap[b]? =some (.cells (l++(ed++r)).toArray e fr)→
   aY.wd=d.wd→an aw F aY ed aF→(∀b,aF b→¬cQ b)→an aw F (I.put q aY av) cs (fun b=>cQ b∨aF b)
theorem ctx {w:World} {F:Nat→Prop}:∀(q:List Nat) (av:I) (cs:List Value) (S:Nat→Prop) (a:Option (Nat×Nat)) (d:I),
  an w F av cs S→I.sub q av=some d→∃(bR:List Value) (bU:Option (Nat×Nat)) (cQ dz:Nat→Prop),cg w q av cs a=some (d,bR,bU)∧
   (∀b,cQ b→S b)∧(∀b,dz b→S b)∧(∀b,cQ b→¬dz b)∧an w F d bR dz∧(Flat w F q av cs a d bR bU cQ∨Deep w F q av cs d bR bU cQ):=by
 intro q
 induction q with
 |nil=>
  intro av cs S a d h ae
  simp[I.sub]at ae;subst ae
  refine⟨cs,a,fun _=>False,S,rfl,fun _ h=>h.elim,fun _ h=>h,fun _ h=>h.elim,h,.inl ⟨[],[],by simp,?_,?_⟩⟩
  ·cases a<;>simp
  ·intro aw aY ed aF _ _ hw e6 _
   simp only[I.put,List.nil_append,List.append_nil]
   exact an.mono (fun _ h=>h) _ _ _ _ (fun b h=>.inr h) e6
 |cons k q ih=>
  have fields:∀(mk:List I→I) (xE:∀(w:World) (F:Nat→Prop) (ag:List I) (cs:List Value) (S:Nat→Prop),an w F (mk ag) cs S=aN w F ag cs S) (ag:List I) (cs:List Value) (S:Nat→Prop) (a:Option (Nat×Nat)) (x d:I),
    (hO:∀aY,I.put (k::q) aY (mk ag)=mk (ag.set k (I.put q aY x)))→aN w F ag cs S→ag[k]? =some x→I.sub q x=some d→
    ∃(bR:List Value) (bU:Option (Nat×Nat)) (cQ dz:Nat→Prop),cg w q x ((cs.drop (I.cO (ag.take k))).take x.wd) (a.map fun l=>(l.1,l.2+I.cO (ag.take k)))=some (d,bR,bU)∧
    (∀b,cQ b→S b)∧(∀b,dz b→S b)∧(∀b,cQ b→¬dz b)∧an w F d bR dz∧(Flat w F (k::q) (mk ag) cs a d bR bU cQ∨Deep w F (k::q) (mk ag) cs d bR bU cQ):=by
   intro mk xE ag cs S a x d hO h aq ae
   obtain⟨bJ,eb,c2,bo,fC,rfl,ft,ee,e7,fX,en,jN⟩:=aN.pick ag cs S k x h aq
   have hl:=an.length _ _ _ en
   rw[pq bJ eb c2 _ _ ft hl]
   obtain⟨bR,bU,cQ,dz,g0,g1,g2,g3,g4,g5⟩:=ih x _ fC (a.map fun l=>(l.1,l.2+I.cO (ag.take k))) d en ae
   refine⟨bR,bU,fun b=>bo b∨cQ b,dz,g0,?_,fun b R=>e7 _ (g2 _ R),?_,g4,?_⟩
   ·rintro b (h|h)
    ·exact ee _ h
    ·exact e7 _ (g1 _ h)
   ·rintro b (h|h) ae
    ·exact fX _ h (g2 _ ae)
    ·exact g3 _ h ae
   ·have dx:∀(b:Nat) (aF:Nat→Prop),(bo b∨cQ b∨aF b)→((bo b∨cQ b)∨aF b):=by
     rintro b aF (R|R|R)
     ·exact .inl (.inl R)
     ·exact .inl (.inr R)
     ·exact .inr R
    rcases g5 with⟨l,r,rfl,aJ,aK⟩|⟨b,cur,e,fr,l,r,aH,aJ,aK,b0,b_,bw⟩
    ·refine .inl ⟨bJ++l,r++c2,by simp,?_,?_⟩
     ·rw[aJ,←ft];cases a<;>simp[Nat.add_assoc]
     ·intro aw aY ed aF a1 bg hw e6 gM
      have eF:=aK aw aY ed aF a1 (fun b R=>bg b (.inr R)) hw e6 (fun b R ai=>gM b R (.inr ai))
      have cd:=jN aw _ _ _ a1 (fun b R=>bg b (.inl R)) eF (by
       rintro b (R|R) ab
       ·exact fX _ ab (g1 _ R)
       ·exact gM _ R (.inl ab))
      rw[hO,xE]
      have:=aN.mono (fun _ h=>h) _ _ _ _ (fun b=>dx b aF) cd
      simpa using this
    ·refine .inr ⟨b,cur,e,fr,l,r,aH,.inr aJ,aK,b0,b_,?_⟩
     intro aw aY ed aF a1 bg jO hw e6 gM
     have eF:=bw aw aY ed aF a1 (fun c ai=>bg c (.inr ai)) jO hw e6 (fun b R ai=>gM b R (.inr ai))
     have cd:=jN aw _ _ _ a1 (fun c ai=>bg c (.inl ai) (by rintro rfl;exact fX _ ai (g1 _ aJ))) eF (by
       rintro b (R|R) ab
       ·exact fX _ ab (g1 _ R)
       ·exact gM _ R (.inl ab))
     rw[hO,xE]
     exact aN.mono (fun _ h=>h) _ _ _ _ (fun b=>dx b aF) cd
  intro av cs S a d h ae
  cases av with
  |agg ag=>
   simp only[I.sub]at ae
   split at ae
   ·rename_i x aq
    rw[an]at h
    have:=fields .agg (fun _ _ _ _ _=>by rw[an]) ag cs S a x d (fun aY=>by simp only[I.put,aq]) h aq ae
    simpa only[cg,aq]using this
   ·cases ae
  |tuple ag=>
   simp only[I.sub]at ae
   split at ae
   ·rename_i x aq
    rw[an]at h
    have:=fields .tuple (fun _ _ _ _ _=>by rw[an]) ag cs S a x d (fun aY=>by simp only[I.put,aq]) h aq ae
    simpa only[cg,aq]using this
   ·cases ae
  |aE sz xs=>
   simp only[I.sub]at ae
   split at ae
   ·rename_i x aq
    rw[an]at h
    rcases h with⟨rfl,_,rfl⟩|⟨b,cap,cur,e,fr,cE,rfl,ad,aB,aR,ba,bu,bE,cK,eR,fB,js⟩
    ·simp at aq
    ·obtain⟨bJ,eb,c2,bo,fC,p,ft,ee,e7,fX,en,jN⟩:=aN.pick xs _ cE k x eR aq
     have hl:=an.length _ _ _ en
     have HH:k<xs.length:=(List.getElem?_eq_some_iff.1 aq).1
     have sC:x.wd=sz:=cK x (List.mem_of_getElem? aq)
     have bL:I.cO (xs.take k)=k*sz:=by
      rw[pt _ (fun d ae=>cK d (List.mem_of_mem_take ae))]
      rw[List.length_take,Nat.min_eq_left (by omega)]
     obtain⟨nG,iS⟩:∃nG,cur.toList=bJ++(eb++(c2++nG)):=by
      refine⟨cur.toList.drop (xs.length*sz),?_⟩
      have:=(List.take_append_drop (xs.length*sz) cur.toList).symm
      rw[p]at this
      simpa using this
     have ht:kO w b (k*sz) sz=eb:=by
      have:=qO aB iS
      rwa [ft,bL,hl,sC]at this
     obtain⟨bR,bU,cQ,dz,g0,g1,g2,g3,g4,g5⟩:=ih x _ fC (some (b,k*sz)) d en ae
     have hO:∀aY,I.put (k::q) aY (.aE sz xs)= .aE sz (xs.set k (I.put q aY x)):=fun aY=>by simp only[I.put,aq]
     refine⟨bR,bU,fun c=>c=b∨bo c∨cQ c,dz,?_,?_,fun c ai=>fB _ (e7 _ (g2 _ ai)),?_,g4,.inr ?_⟩
     ·simp only[cg,aq,ht];exact g0
     ·rintro c (rfl|h|h)
      ·exact ad
      ·exact fB _ (ee _ h)
      ·exact fB _ (e7 _ (g1 _ h))
     ·rintro c (rfl|h|h) ae
      ·exact js (e7 _ (g2 _ ae))
      ·exact fX _ h (g2 _ ae)
      ·exact g3 _ h ae
     ·have h4:∀aY,aY.wd=d.wd→(I.put q aY x).wd=sz:=fun aY hw=>(I.qN q x d aY ae hw).trans sC
      rcases g5 with⟨l,r,rfl,aJ,aK⟩|⟨dQ,xF,eG,xG,l,r,aH,aJ,aK,b0,b_,bw⟩
      ·refine⟨b,cur,e,fr,bJ++l,r++(c2++nG),?_,.inl rfl,aB,aR,?_,?_⟩
       ·rw[aJ];simp[ft,bL]
       ·rw[iS];simp
       ·intro aw aY ed aF a1 bg jO hw e6 gM
        have eF:=aK aw aY ed aF a1 (fun c ai=>bg c (.inr (.inr ai)) (by rintro rfl;exact js (e7 _ (g1 _ ai)))) hw e6 (fun b R ai=>gM b R (.inr (.inr ai)))
        have cd:=jN aw _ _ _ a1 (fun c ai=>bg c (.inr (.inl ai)) (by rintro rfl;exact js (ee _ ai))) eF (by
         rintro b (R|R) ab
         ·exact fX _ ab (g1 _ R)
         ·exact gM _ R (.inr (.inl ab)))
        have sD:=an.length _ _ _ e6
        have sE:=an.length _ _ _ g4
        rw[hO,an]
        refine .inr ⟨b,cap,_,e,fr,fun b=>bo b∨cQ b∨aF b,by simp,.inl (.inl rfl),jO,?_,by simpa using ba,bu,?_,xD cK (h4 aY hw),?_,?_,?_⟩
        ·have:(bJ++l++(ed++(r++(c2++nG)))).toArray.size=cur.size:=by
          have:cur.size=cur.toList.length:=by simp
          rw[this,iS];simp[sD,sE,hw]
         rw[this];exact aR
        ·rw[←bE]
         have:cur.size=cur.toList.length:=by simp
         rw[this,iS];simp[sD,sE,hw]
        ·have hlen:(bJ++(l++(ed++r)++c2)).length=xs.length*sz:=by
          have:=congrArg List.length p
          rw[List.length_take,Nat.min_eq_left (by simp[bE];exact Nat.mul_le_mul_right _ ba)]at this
          rw[this];simp[sD,sE,hw]
         have:(bJ++l++(ed++(r++(c2++nG))))=(bJ++(l++(ed++r)++c2))++nG:=by simp
         rw[List.length_set]
         simp only[this]
         rw[List.take_left' hlen]
         exact cd
        ·rintro c (h|h|h)
         ·exact .inl (.inr (.inl h))
         ·exact .inl (.inr (.inr h))
         ·exact .inr h
        ·rintro(h|h|h)
         ·exact js (ee _ h)
         ·exact js (e7 _ (g1 _ h))
         ·exact gM _ h (.inl rfl)
      ·refine⟨dQ,xF,eG,xG,l,r,aH,.inr (.inr aJ),aK,b0,b_,?_⟩
       intro aw aY ed aF a1 bg jO hw e6 gM
       have eF:=bw aw aY ed aF a1 (fun c ai cI=>bg c (.inr (.inr ai)) cI) jO hw e6 (fun b R ai=>gM b R (.inr (.inr ai)))
       have cI:∀c,bo c→c≠dQ:=by rintro c ai rfl;exact fX _ ai (g1 _ aJ)
       have cd:=jN aw _ _ _ a1 (fun c ai=>bg c (.inr (.inl ai)) (cI c ai)) eF (by
        rintro b (R|R) ab
        ·exact fX _ ab (g1 _ R)
        ·exact gM _ R (.inr (.inl ab)))
       have xH:b≠dQ:=by rintro rfl;exact js (e7 _ (g1 _ aJ))
       rw[hO,an]
       refine .inr ⟨b,cap,cur,e,fr,fun b=>bo b∨cQ b∨aF b,by simp,.inl (.inl rfl),(bg b (.inl rfl) xH).trans aB,aR,by simpa using ba,bu,bE,xD cK (h4 aY hw),?_,?_,?_⟩
       ·rw[List.length_set,p];exact cd
       ·rintro c (h|h|h)
        ·exact .inl (.inr (.inl h))
        ·exact .inl (.inr (.inr h))
        ·exact .inr h
       ·rintro(h|h|h)
        ·exact js (ee _ h)
        ·exact js (e7 _ (g1 _ h))
        ·exact gM _ h (.inl rfl)
   ·cases ae
  |a_ x=>
   cases k with
   |succ k=>simp[I.sub]at ae
   |zero=>
    simp only[I.sub]at ae
    rw[an]at h
    obtain⟨b,cur,e,fr,cE,rfl,ad,aB,aR,ba,bu,bE⟩:=h
    have hl:=an.length _ _ _ ba
    have ht:kO w b 0 x.wd=cur.toList:=by
     have:=qO (l:=[]) (m:=cur.toList) (r:=[]) aB (by simp)
     rwa [hl]at this
    obtain⟨bR,bU,cQ,dz,g0,g1,g2,g3,g4,g5⟩:=ih x _ cE (some (b,0)) d ba ae
    have hO:∀aY,I.put (0::q) aY (.a_ x)= .a_ (I.put q aY x):=fun aY=>rfl
    refine⟨bR,bU,fun c=>c=b∨cQ c,dz,?_,?_,fun c ai=>bu _ (g2 _ ai),?_,g4,.inr ?_⟩
    ·simp only[cg,ht];exact g0
    ·rintro c (rfl|h)
     ·exact ad
     ·exact bu _ (g1 _ h)
    ·rintro c (rfl|h) ae
     ·exact bE (g2 _ ae)
     ·exact g3 _ h ae
    ·rcases g5 with⟨l,r,aH,aJ,aK⟩|⟨dQ,xF,eG,xG,l,r,aH,aJ,aK,b0,b_,bw⟩
     ·refine⟨b,cur,e,fr,l,r,?_,.inl rfl,aB,aR,aH,?_⟩
      ·rw[aJ];simp
      ·intro aw aY ed aF a1 bg jO hw e6 gM
       have eF:=aK aw aY ed aF a1 (fun c ai=>bg c (.inr ai) (by rintro rfl;exact bE (g1 _ ai))) hw e6 (fun b R ai=>gM b R (.inr ai))
       have sD:=an.length _ _ _ e6
       have sE:=an.length _ _ _ g4
       rw[hO,an]
       refine⟨b,_,e,fr,fun b=>cQ b∨aF b,rfl,.inl (.inl rfl),jO,?_,eF,?_,?_⟩
       ·have:(l++(ed++r)).toArray.size=cur.size:=by
         have:cur.size=cur.toList.length:=by simp
         rw[this,aH];simp[sD,sE,hw]
        rw[this];exact aR
       ·rintro c (h|h)
        ·exact .inl (.inr h)
        ·exact .inr h
       ·rintro(h|h)
        ·exact bE (g1 _ h)
        ·exact gM _ h (.inl rfl)
     ·refine⟨dQ,xF,eG,xG,l,r,aH,.inr aJ,aK,b0,b_,?_⟩
      intro aw aY ed aF a1 bg jO hw e6 gM
      have eF:=bw aw aY ed aF a1 (fun c ai cI=>bg c (.inr ai) cI) jO hw e6 (fun b R ai=>gM b R (.inr ai))
      have xH:b≠dQ:=by rintro rfl;exact bE (g1 _ aJ)
      rw[hO,an]
      refine⟨b,cur,e,fr,fun b=>cQ b∨aF b,rfl,.inl (.inl rfl),(bg b (.inl rfl) xH).trans aB,aR,eF,?_,?_⟩
      ·rintro c (h|h)
       ·exact .inl (.inr h)
       ·exact .inr h
      ·rintro(h|h)
       ·exact bE (g1 _ h)
       ·exact gM _ h (.inl rfl)
  |_=>simp[I.sub]at ae
mutual
def I.plain:I→Bool
 | .aE _ _=>false
 | .a_ _=>false
 | .cH _=>false
 | .agg ag=>I.ef ag
 | .tuple ag=>I.ef ag
 |_=>true
def I.ef:List I→Bool
 |[]=>true
 |d::ds=>d.plain&&I.ef ds
end
mutual
def I.b8:I→I
 | .aE _ _=>.hole
 | .a_ _=>.hole
 | .cH _=>.hole
 | .agg ag=>.agg (I.iT ag)
 | .tuple ag=>.tuple (I.iT ag)
 |d=>d
def I.iT:List I→List I
 |[]=>[]
 |d::ds=>d.b8::I.iT ds
end
mutual
theorem I.ov:∀d:I,d.b8.wd=d.wd
 | .hole=>rfl
 | .bool _=>rfl
 | .dk=>rfl
 | .int _ _=>rfl
 | .str _=>rfl
 | .ct=>rfl
 | .bD=>rfl
 | .slice _=>rfl
 | .aE _ _=>rfl
 | .ref _=>rfl
 | .a_ _=>rfl
 | .agg ag=>by simp only[I.b8,I.wd];exact I.xI ag
 | .tuple ag=>by simp only[I.b8,I.wd];exact I.xI ag
 | .fn _ _=>rfl
 | .h _ _=>rfl
 | .ak _ _=>rfl
 | .R _ _=>rfl
 | .cH _=>rfl
theorem I.xI:∀ds:List I,I.cO (I.iT ds)=I.cO ds
 |[]=>rfl
 |d::ds=>by simp only[I.iT,I.cO];rw[I.ov d,I.xI ds]
end
mutual
theorem an.b8 {w:World} {F:Nat→Prop}:∀(d:I) (cs:List Value) (S aF:Nat→Prop),an w F d cs S→an w F d.b8 cs aF
 | .hole,_,_,_,h=>h
 | .bool _,_,_,_,h=>h
 | .dk,_,_,_,h=>h
 | .int _ _,_,_,_,h=>h
 | .str _,_,_,_,h=>h
 | .ct,_,_,_,h=>h
 | .bD,_,_,_,h=>h
 | .slice xs,cs,S,aF,h=>by
   show an w F (.slice xs) cs aF
   rw[an]at h⊢;exact h
 | .aE sz xs,cs,S,aF,h=>by
   rw[I.b8,an]
   rw[an]at h
   rcases h with⟨_,_,rfl⟩|⟨b,cap,cur,e,fr,cE,rfl,_⟩
   ·exact⟨_,rfl,rfl⟩
   ·exact⟨_,rfl,rfl⟩
 | .ref d,cs,S,aF,h=>by
   show an w F (.ref d) cs aF
   rw[an]at h⊢;exact h
 | .a_ d,cs,S,aF,h=>by
   rw[I.b8,an]
   rw[an]at h
   obtain⟨b,cur,e,fr,cE,rfl,_⟩:=h
   exact⟨_,rfl,rfl⟩
 | .agg ag,cs,S,aF,h=>by rw[I.b8,an];rw[an]at h;exact aN.b8 ag _ _ _ h
 | .tuple ag,cs,S,aF,h=>by rw[I.b8,an];rw[an]at h;exact aN.b8 ag _ _ _ h
 | .fn _ _,_,_,_,h=>h
 | .h _ _,_,_,_,h=>h
 | .ak _ _,_,_,_,h=>h
 | .R _ _,_,_,_,h=>h
 | .cH _,_,_,_,h=>by rw[an]at h;rw[I.b8,an];exact jr.one h
theorem aN.b8 {w:World} {F:Nat→Prop}:∀(ds:List I) (cs:List Value) (S aF:Nat→Prop),aN w F ds cs S→aN w F (I.iT ds) cs aF
 |[],_,_,_,h=>h
 |d::ds,cs,S,aF,h=>by
  rw[I.iT,aN]
  rw[aN]at h
  obtain⟨bJ,c2,bo,cu,ab,ad,aB,aR,ba,bu⟩:=h
  exact⟨bJ,c2,fun _=>False,fun _=>False,ab,an.b8 d _ _ _ ad,aN.b8 ds _ _ _ aB,fun _ h=>h.elim,fun _ h=>h.elim,fun _ h=>h.elim⟩
end
mutual
theorem an.plain {w:World} {F:Nat→Prop}:∀(d:I) (cs:List Value) (S aF:Nat→Prop),d.plain=true→an w F d cs S→an w F d cs aF
 | .hole,_,_,_,_,h=>h
 | .bool _,_,_,_,_,h=>h
 | .dk,_,_,_,_,h=>h
 | .int _ _,_,_,_,_,h=>h
 | .str _,_,_,_,_,h=>h
 | .ct,_,_,_,_,h=>h
 | .bD,_,_,_,_,h=>h
 | .slice xs,cs,S,aF,_,h=>by rw[an]at h⊢;exact h
 | .aE sz xs,cs,S,aF,ak,h=>by simp[I.plain]at ak
 | .ref d,cs,S,aF,_,h=>by rw[an]at h⊢;exact h
 | .a_ d,cs,S,aF,ak,h=>by simp[I.plain]at ak
 | .agg ag,cs,S,aF,ak,h=>by rw[an]at h⊢;exact aN.plain ag _ _ _ ak h
 | .tuple ag,cs,S,aF,ak,h=>by rw[an]at h⊢;exact aN.plain ag _ _ _ ak h
 | .fn _ _,_,_,_,_,h=>h
 | .h _ _,_,_,_,_,h=>h
 | .ak _ _,_,_,_,_,h=>h
 | .R _ _,_,_,_,_,h=>h
 | .cH _,_,_,_,ak,_=>by simp[I.plain]at ak
theorem aN.plain {w:World} {F:Nat→Prop}:∀(ds:List I) (cs:List Value) (S aF:Nat→Prop),I.ef ds=true→aN w F ds cs S→aN w F ds cs aF
 |[],_,_,_,_,h=>h
 |d::ds,cs,S,aF,ak,h=>by
  rw[aN]at h⊢
  simp only[I.ef,Bool.and_eq_true]at ak
  obtain⟨bJ,c2,bo,cu,ab,ad,aB,aR,ba,bu⟩:=h
  exact⟨bJ,c2,fun _=>False,fun _=>False,ab,an.plain d _ _ _ ak.1 ad,aN.plain ds _ _ _ ak.2 aB,fun _ h=>h.elim,fun _ h=>h.elim,fun _ h=>h.elim⟩
end
def I.dL:List Nat→I→Bool
 |[],_=>false
 |k::q,.agg ag=>match ag[k]? with
  |some d=>I.dL q d
  |none=>false
 |k::q,.tuple ag=>match ag[k]? with
  |some d=>I.dL q d
  |none=>false
 |_::_,.aE _ _=>true
 |_::_,.a_ _=>true
 |_::_,_=>false
theorem u2 {ag:List I} (h:I.ef ag=true) {k:Nat} {d:I} (al:ag[k]? =some d):d.plain=true:=by
 induction ag generalizing k with
 |nil=>simp at al
 |cons a ag ih=>
  simp only[I.ef,Bool.and_eq_true]at h
  cases k with
  |zero=>simp at al;subst al;exact h.1
  |succ k=>simp at al;exact ih h.2 al
theorem I.Bg:∀(q:List Nat) (d:I),d.plain=true→I.dL q d=false:=by
 intro q
 induction q with
 |nil=>intros;rfl
 |cons k q ih=>
  intro d ae
  cases d<;>first|rfl|(simp[I.plain]at ae;done)|skip
  all_goals
   simp only[I.dL]
   split
   ·rename_i ag x aq;exact ih _ (u2 (by simpa [I.plain]using ae) aq)
   ·rfl
theorem I.xJ:∀(q:List Nat) (d e:I),d.plain=true→I.sub q d=some e→e.plain=true:=by
 intro q
 induction q with
 |nil=>intro d e ae h;simp[I.sub]at h;exact h▸ae
 |cons k q ih=>
  intro d e ae h
  cases d<;>first|(simp[I.plain]at ae;done)|(simp[I.sub]at h;done)|skip
  all_goals
   simp only[I.sub]at h
   split at h
   ·rename_i ag x aq;exact ih _ _ (u2 (by simpa [I.plain]using ae) aq) h
   ·cases h
theorem u3 {w aw:World} {F:Nat→Prop}:∀(q:List Nat) (av:I) (cs:List Value) (S:Nat→Prop) (a:Option (Nat×Nat)) (d:I),
  an w F av cs S→I.sub q av=some d→(∀b,S b→aw.heap[b]? =w.heap[b]?)→cg aw q av cs a=cg w q av cs a:=by
 intro q
 induction q with
 |nil=>intros;rfl
 |cons k q ih=>
  have fields:∀(ag:List I) (cs:List Value) (S:Nat→Prop) (a:Option (Nat×Nat)) (x d:I),aN w F ag cs S→ag[k]? =some x→I.sub q x=some d→
    (∀b,S b→aw.heap[b]? =w.heap[b]?)→
    cg aw q x ((cs.drop (I.cO (ag.take k))).take x.wd) (a.map fun l=>(l.1,l.2+I.cO (ag.take k)))=cg w q x ((cs.drop (I.cO (ag.take k))).take x.wd) (a.map fun l=>(l.1,l.2+I.cO (ag.take k))):=by
   intro ag cs S a x d h aq ae bg
   obtain⟨bJ,eb,c2,bo,fC,rfl,ft,ee,e7,fX,en,jN⟩:=aN.pick ag cs S k x h aq
   rw[pq bJ eb c2 _ _ ft (an.length _ _ _ en)]
   exact ih x eb fC _ d en ae (fun b R=>bg b (e7 _ R))
  intro av cs S a d h ae bg
  cases av with
  |agg ag=>
   simp only[I.sub]at ae
   split at ae
   ·rename_i x aq
    rw[an]at h
    simp only[cg,aq]
    exact fields ag cs S a x d h aq ae bg
   ·cases ae
  |tuple ag=>
   simp only[I.sub]at ae
   split at ae
   ·rename_i x aq
    rw[an]at h
    simp only[cg,aq]
    exact fields ag cs S a x d h aq ae bg
   ·cases ae
  |aE sz xs=>
   simp only[I.sub]at ae
   split at ae
   ·rename_i x aq
    rw[an]at h
    rcases h with⟨rfl,_,rfl⟩|⟨b,cap,cur,e,fr,cE,rfl,ad,aB,aR,ba,bu,bE,cK,eR,fB,js⟩
    ·simp at aq
    ·obtain⟨bJ,eb,c2,bo,fC,p,ft,ee,e7,fX,en,jN⟩:=aN.pick xs _ cE k x eR aq
     have hl:=an.length _ _ _ en
     have HH:k<xs.length:=(List.getElem?_eq_some_iff.1 aq).1
     have sC:x.wd=sz:=cK x (List.mem_of_getElem? aq)
     have bL:I.cO (xs.take k)=k*sz:=by
      rw[pt _ (fun d ae=>cK d (List.mem_of_mem_take ae))]
      rw[List.length_take,Nat.min_eq_left (by omega)]
     obtain⟨nG,iS⟩:∃nG,cur.toList=bJ++(eb++(c2++nG)):=by
      refine⟨cur.toList.drop (xs.length*sz),?_⟩
      have:=(List.take_append_drop (xs.length*sz) cur.toList).symm
      rw[p]at this
      simpa using this
     have ht:kO w b (k*sz) sz=eb:=by
      have:=qO aB iS
      rwa [ft,bL,hl,sC]at this
     have xK:kO aw b (k*sz) sz=eb:=by
      have:=qO ((bg b ad).trans aB) iS
      rwa [ft,bL,hl,sC]at this
     simp only[cg,aq,ht,xK]
     exact ih x eb fC _ d en ae (fun c ai=>bg c (fB _ (e7 _ ai)))
   ·cases ae
  |a_ x=>
   cases k with
   |succ k=>simp[I.sub]at ae
   |zero=>
    simp only[I.sub]at ae
    rw[an]at h
    obtain⟨b,cur,e,fr,cE,rfl,ad,aB,aR,ba,bu,bE⟩:=h
    have hl:=an.length _ _ _ ba
    have ht:kO w b 0 x.wd=cur.toList:=by
     have:=qO (l:=[]) (m:=cur.toList) (r:=[]) aB (by simp)
     rwa [hl]at this
    have xK:kO aw b 0 x.wd=cur.toList:=by
     have:=qO (l:=[]) (m:=cur.toList) (r:=[]) ((bg b ad).trans aB) (by simp)
     rwa [hl]at this
    simp only[cg,ht,xK]
    exact ih x cur.toList cE _ d ba ae (fun c ai=>bg c (bu _ ai))
  |_=>simp[I.sub]at ae
def fD:Value→List Value
 | .agg cs=>cs.toList
 |v=>[v]
def bx:Value→List Value
 | .tuple vs=>vs.toList.flatMap fD
 |v=>fD v
def fY:I→Value→Prop
 | .agg _,v=>∃arr,v= .agg arr
 |_,v=>Value.eO v=true
def cA:I→Value→Prop
 | .tuple ds,v=>∃arr:Array Value,v= .tuple arr∧arr.size=ds.length∧∀(k:Nat) (d:I) (x:Value),ds[k]? =some d→arr[k]? =some x→fY d x∧(∀vs,d≠.tuple vs)∧(fD x).length=d.wd
 |d,v=>fY d v
abbrev aj:=Nat→I
mutual
def ay (w:World) (F:Nat→Prop) (s:aj) (ao:Nat→Value):I→Value→(Nat→Prop)→Prop
 | .hole,_,_=>True
 | .h x q,v,_=>∀d,I.sub q (s x)=some d→d.plain=false→∃bR a,cg w q (s x) (bx (ao x)) none=some (d,bR,a)∧bx v=bR∧cA d v
 | .ak x q,v,_=>∀d,I.sub q (s x)=some d→I.dL q (s x)=true→∃bR b o,cg w q (s x) (bx (ao x)) none=some (d,bR,some (b,o))∧v= .pointer (some ⟨b,o,none⟩)
 | .R x k,v,_=>(s x).plain=false→∃b cur e fr,v= .pointer (some ⟨b,k,none⟩)∧F b∧w.heap[b]? =some (.cells cur e fr)∧cur.toList=bx (ao x)
 | .fn f cap,v,_=>∃arr:Array Value,v= .func (.func f) #[] arr∧cL w F s ao cap arr.toList
 | .bool b,v,S=>cA (.bool b) v∧an w F (.bool b) (bx v) S
 | .dk,v,S=>cA .dk v∧an w F .dk (bx v) S
 | .int k n,v,S=>cA (.int k n) v∧an w F (.int k n) (bx v) S
 | .str x,v,S=>cA (.str x) v∧an w F (.str x) (bx v) S
 | .ct,v,S=>cA .ct v∧an w F .ct (bx v) S
 | .bD,v,S=>cA .bD v∧an w F .bD (bx v) S
 | .slice xs,v,S=>cA (.slice xs) v∧an w F (.slice xs) (bx v) S
 | .aE sz xs,v,S=>cA (.aE sz xs) v∧an w F (.aE sz xs) (bx v) S
 | .ref d,v,S=>cA (.ref d) v∧an w F (.ref d) (bx v) S
 | .a_ d,v,S=>cA (.a_ d) v∧an w F (.a_ d) (bx v) S
 | .agg d,v,S=>cA (.agg d) v∧an w F (.agg d) (bx v) S
 | .tuple d,v,S=>cA (.tuple d) v∧an w F (.tuple d) (bx v) S
 | .cH o,v,S=>cA (.cH o) v∧an w F (.cH o) (bx v) S
def cL (w:World) (F:Nat→Prop) (s:aj) (ao:Nat→Value):List I→List Value→Prop
 |[],vs=>vs=[]
 |d::ds,vs=>∃v hj,vs=v::hj∧ay w F s ao d v (fun _=>False)∧cL w F s ao ds hj
end
def I.tree:I→Bool
 | .hole=>false
 | .h _ _=>false
 | .ak _ _=>false
 | .R _ _=>false
 | .fn _ _=>false
 |_=>true
theorem ay.bM {w:World} {F:Nat→Prop} {s:aj} {ao:Nat→Value} {d:I} {v:Value} {S:Nat→Prop} (aO:d.tree=true):
  ay w F s ao d v S↔(cA d v∧an w F d (bx v) S):=by
 cases d<;>first|(simp[I.tree]at aO;done)|rw[ay]
theorem fE {q:List Nat} {av d:I} (h:I.sub q av=some d) (ak:d.plain=false∨I.dL q av=true):av.tree=true:=by
 cases q with
 |nil=>
  simp[I.sub]at h;subst h
  rcases ak with ak|ak
  ·cases av<;>first|rfl|(simp[I.plain]at ak)
  ·simp[I.dL]at ak
 |cons k q=>cases av<;>first|rfl|(simp[I.sub]at h)
theorem xL {d:I} (h:d.plain=false):d.tree=true:=fE (q:=[]) (by simp only[I.sub]) (.inl h)
theorem ay.frame {w aw:World} {F bf:Nat→Prop} {s:aj} {ao:Nat→Value} {Sx:Nat→Nat→Prop} (a1:∀b,F b→aw.heap[b]? =w.heap[b]?) (Bh:∀b,F b→bf b)
  (bg:∀x b,Sx x b→aw.heap[b]? =w.heap[b]?) (h5:∀x,ay w F s ao (s x) (ao x) (Sx x)):
  ∀(d:I) (v:Value) (S:Nat→Prop),(∀b,S b→aw.heap[b]? =w.heap[b]?)→ay w F s ao d v S→ay aw bf s ao d v S:=by
 have h6:∀(x:Nat) (q:List Nat) (d:I),I.sub q (s x)=some d→(d.plain=false∨I.dL q (s x)=true)→cg aw q (s x) (bx (ao x)) none=cg w q (s x) (bx (ao x)) none:=by
  intro x q d ae ak
  have aO:=fE ae ak
  have:=h5 x
  rw[ay.bM aO]at this
  exact u3 q _ _ (Sx x) none d this.2 ae (bg x)
 have HI:∀(d:I) (v:Value) (S:Nat→Prop),d.tree=true→(∀b,S b→aw.heap[b]? =w.heap[b]?)→ay w F s ao d v S→ay aw bf s ao d v S:=by
  intro d v S aO pv h
  rw[ay.bM aO]at h⊢
  exact⟨h.1,an.mono Bh _ _ _ _ (fun _ h=>h) (an.frame a1 _ _ _ pv h.2)⟩
 have step:∀n,(∀(d:I) (v:Value) (S:Nat→Prop),SizeOf.sizeOf d≤n→(∀b,S b→aw.heap[b]? =w.heap[b]?)→ay w F s ao d v S→ay aw bf s ao d v S)∧
   (∀(ds:List I) (vs:List Value),SizeOf.sizeOf ds≤n→cL w F s ao ds vs→cL aw bf s ao ds vs):=by
  intro n
  induction n with
  |zero=>
   refine⟨fun d v S bp=> ?_,fun ds vs bp=> ?_⟩
   ·cases d<;>simp at bp<;>omega
   ·cases ds<;>simp at bp<;>omega
  |succ n ih=>
   refine⟨fun d v S bp pv h=> ?_,fun ds vs bp h=> ?_⟩
   ·cases d with
    |hole=>rw[ay];trivial
    |h x q=>
     rw[ay]at h⊢
     intro d ae ak
     rw[h6 x q d ae (.inl ak)]
     exact h d ae ak
    |ak x q=>
     rw[ay]at h⊢
     intro d ae ak
     rw[h6 x q d ae (.inr ak)]
     exact h d ae ak
    |R x k=>
     rw[ay]at h⊢
     intro ak
     obtain⟨b,cur,e,fr,ab,ad,aB,aR⟩:=h ak
     exact⟨b,cur,e,fr,ab,Bh b ad,(a1 b ad).trans aB,aR⟩
    |fn f cap=>
     rw[ay]at h⊢
     obtain⟨arr,rfl,ai⟩:=h
     exact⟨arr,rfl,ih.2 _ _ (by simp at bp;omega) ai⟩
    |_=>exact HI _ _ _ rfl pv h
   ·cases ds with
    |nil=>rw[cL]at h⊢;exact h
    |cons d ds=>
     rw[cL]at h⊢
     obtain⟨v,hj,rfl,ab,ad⟩:=h
     simp at bp
     exact⟨v,hj,rfl,ih.1 _ _ _ (by omega) (fun _ h=>h.elim) ab,ih.2 _ _ (by omega) ad⟩
 intro d v S pv h
 exact(step (SizeOf.sizeOf d)).1 d v S (Nat.le_refl _) pv h
mutual
def bY (x:Nat):I→I
 | .h y q=>if y=x then .hole else .h y q
 | .ak y q=>if y=x then .hole else .ak y q
 | .R y k=>if y=x then .hole else .R y k
 | .fn f cap=>.fn f (gN x cap)
 |d=>d
def gN (x:Nat):List I→List I
 |[]=>[]
 |d::ds=>bY x d::gN x ds
end
mutual
def bs (x:Nat):I→I
 | .h y q=>if y=x then(if q=[]then .h y q else .hole)else .h y q
 | .ak y q=>if y=x then .hole else .ak y q
 | .fn f cap=>.fn f (gp x cap)
 |d=>d
def gp (x:Nat):List I→List I
 |[]=>[]
 |d::ds=>bs x d::gp x ds
end
def cm {α:Type} (f:Nat→α) (t:Nat) (v:α):Nat→α:=fun u=>if u=t then v else f u
def jt (t:Nat) (s:aj):aj:=fun u=>bY t (s u)
def fO (t:Nat) (s:aj):aj:=fun u=>bs t (s u)
theorem kk {α:Type} (f:Nat→α) (t:Nat) (v:α):cm f t v t=v:=by simp[cm]
theorem hk {α:Type} (f:Nat→α) {t u:Nat} (v:α) (h:u≠t):cm f t v u=f u:=by simp[cm,h]
theorem HJ {t:Nat} {d:I} (h:d.tree=true):bY t d=d:=by cases d<;>first|rfl|(simp[I.tree]at h)
theorem xM {t:Nat} {d:I} (h:d.tree=true):bs t d=d:=by cases d<;>first|rfl|(simp[I.tree]at h)
theorem HK {t:Nat} {d:I} (h:(bY t d).tree=true):d.tree=true∧bY t d=d:=by
 cases d<;>first|exact⟨rfl,rfl⟩|(simp only[bY]at h;first|(split at h<;>simp[I.tree]at h)|simp[I.tree]at h)
theorem u4 {t:Nat} {d:I} (h:(bs t d).tree=true):d.tree=true∧bs t d=d:=by
 cases d<;>first|exact⟨rfl,rfl⟩|(simp only[bs]at h;first|(split at h<;>(try split at h)<;>simp[I.tree]at h)|simp[I.tree]at h)
section
variable {w:World} {F:Nat→Prop} {s ar:aj} {ao hP:Nat→Value} {t:Nat}
theorem ay.bY (e2:∀x,x≠t→(ar x).tree=true→ar x=s x∧hP x=ao x):∀(n:Nat),
  (∀(d:I) (v:Value) (S:Nat→Prop),SizeOf.sizeOf d≤n→ay w F s ao d v S→ay w F ar hP (ca.bY t d) v S)∧
  (∀(ds:List I) (vs:List Value),SizeOf.sizeOf ds≤n→cL w F s ao ds vs→cL w F ar hP (gN t ds) vs):=by
 intro n
 induction n with
 |zero=>
  refine⟨fun d v S bp=> ?_,fun ds vs bp=> ?_⟩
  ·cases d<;>simp at bp<;>omega
  ·cases ds<;>simp at bp<;>omega
 |succ n ih=>
  refine⟨fun d v S bp h=> ?_,fun ds vs bp h=> ?_⟩
  ·cases d with
   |hole=>rw[ca.bY.eq_def];simp only;rw[ay];trivial
   |h x q=>
    simp only[ca.bY]
    split
    ·rw[ay];trivial
    ·rename_i aq
     rw[ay]at h⊢
     intro d ae ak
     obtain⟨aH,aJ⟩:=e2 x aq (fE ae (.inl ak))
     rw[aH,aJ];rw[aH]at ae
     exact h d ae ak
   |ak x q=>
    simp only[ca.bY]
    split
    ·rw[ay];trivial
    ·rename_i aq
     rw[ay]at h⊢
     intro d ae ak
     obtain⟨aH,aJ⟩:=e2 x aq (fE ae (.inr ak))
     rw[aH,aJ];rw[aH]at ae ak
     exact h d ae ak
   |R x k=>
    simp only[ca.bY]
    split
    ·rw[ay];trivial
    ·rename_i aq
     rw[ay]at h⊢
     intro ak
     obtain⟨aH,aJ⟩:=e2 x aq (xL ak)
     rw[aJ];rw[aH]at ak
     exact h ak
   |fn f cap=>
    simp only[ca.bY]
    rw[ay]at h⊢
    obtain⟨arr,rfl,ai⟩:=h
    exact⟨arr,rfl,ih.2 _ _ (by simp at bp;omega) ai⟩
   |_=>
    rw[HJ (by rfl)]
    exact(ay.bM (by rfl)).2 ((ay.bM (by rfl)).1 h)
  ·cases ds with
   |nil=>rw[gN,cL];rw[cL]at h;exact h
   |cons d ds=>
    rw[gN,cL];rw[cL]at h
    obtain⟨v,hj,rfl,ab,ad⟩:=h
    simp at bp
    exact⟨v,hj,rfl,ih.1 _ _ _ (by omega) ab,ih.2 _ _ (by omega) ad⟩
theorem ay.bs {aw:World} (e2:∀x,x≠t→(ar x).tree=true→ar x=s x∧hP x=ao x) (ju:hP t=ao t) (jP:(ar t).plain=false→(s t).plain=false∧∀v,cA (s t) v→cA (ar t) v)
  (h6:∀x q d,x≠t→I.sub q (s x)=some d→(d.plain=false∨I.dL q (s x)=true)→cg aw q (s x) (bx (ao x)) none=cg w q (s x) (bx (ao x)) none)
  (a1:∀b,F b→aw.heap[b]? =w.heap[b]?):∀(n:Nat),
  (∀(d:I) (v:Value) (S:Nat→Prop),SizeOf.sizeOf d≤n→(∀b,S b→aw.heap[b]? =w.heap[b]?)→ay w F s ao d v S→ay aw F ar hP (ca.bs t d) v S)∧
  (∀(ds:List I) (vs:List Value),SizeOf.sizeOf ds≤n→cL w F s ao ds vs→cL aw F ar hP (gp t ds) vs):=by
 intro n
 induction n with
 |zero=>
  refine⟨fun d v S bp=> ?_,fun ds vs bp=> ?_⟩
  ·cases d<;>simp at bp<;>omega
  ·cases ds<;>simp at bp<;>omega
 |succ n ih=>
  refine⟨fun d v S bp pv h=> ?_,fun ds vs bp h=> ?_⟩
  ·cases d with
   |hole=>rw[ca.bs.eq_def];simp only;rw[ay];trivial
   |h x q=>
    simp only[ca.bs]
    split
    ·rename_i aq
     subst aq
     split
     ·rename_i cf
      subst cf
      rw[ay]at h⊢
      intro d ae ak
      simp only[I.sub,Option.some.injEq]at ae
      subst ae
      obtain⟨eF,cd⟩:=jP ak
      obtain⟨bR,a,g1,g2,g3⟩:=h (s x) rfl eF
      simp only[cg,Option.some.injEq,Prod.mk.injEq]at g1
      obtain⟨-,g1,aba⟩:=g1
      refine⟨bx (hP x),none,rfl,?_,cd _ g3⟩
      rw[ju,g2,←g1]
     ·rw[ay];trivial
    ·rename_i aq
     rw[ay]at h⊢
     intro d ae ak
     obtain⟨aH,aJ⟩:=e2 x aq (fE ae (.inl ak))
     rw[aH,aJ];rw[aH]at ae
     rw[h6 x q d aq ae (.inl ak)]
     exact h d ae ak
   |ak x q=>
    simp only[ca.bs]
    split
    ·rw[ay];trivial
    ·rename_i aq
     rw[ay]at h⊢
     intro d ae ak
     obtain⟨aH,aJ⟩:=e2 x aq (fE ae (.inr ak))
     rw[aH,aJ];rw[aH]at ae ak
     rw[h6 x q d aq ae (.inr ak)]
     exact h d ae ak
   |R x k=>
    simp only[ca.bs]
    rw[ay]at h⊢
    intro ak
    by_cases aq:x=t
    ·subst aq
     obtain⟨b,cur,e,fr,ab,ad,aB,aR⟩:=h (jP ak).1
     exact⟨b,cur,e,fr,ab,ad,(a1 b ad).trans aB,by rw[ju];exact aR⟩
    ·obtain⟨aH,aJ⟩:=e2 x aq (xL ak)
     rw[aH]at ak
     obtain⟨b,cur,e,fr,ab,ad,aB,aR⟩:=h ak
     exact⟨b,cur,e,fr,ab,ad,(a1 b ad).trans aB,by rw[aJ];exact aR⟩
   |fn f cap=>
    simp only[ca.bs]
    rw[ay]at h⊢
    obtain⟨arr,rfl,ai⟩:=h
    exact⟨arr,rfl,ih.2 _ _ (by simp at bp;omega) ai⟩
   |_=>
    rw[xM (by rfl)]
    have aS:=(ay.bM (by rfl)).1 h
    exact(ay.bM (by rfl)).2 ⟨aS.1,an.frame a1 _ _ _ pv aS.2⟩
  ·cases ds with
   |nil=>rw[gp,cL];rw[cL]at h;exact h
   |cons d ds=>
    rw[gp,cL];rw[cL]at h
    obtain⟨v,hj,rfl,ab,ad⟩:=h
    simp at bp
    exact⟨v,hj,rfl,ih.1 _ _ _ (by omega) (fun _ h=>h.elim) ab,ih.2 _ _ (by omega) ad⟩
theorem ay.void (e2:∀x,x≠t→(ar x).tree=true→ar x=s x∧hP x=ao x) (l5:(ar t).plain=true):∀(n:Nat),
  (∀(d:I) (v:Value) (S:Nat→Prop),SizeOf.sizeOf d≤n→ay w F s ao d v S→ay w F ar hP d v S)∧
  (∀(ds:List I) (vs:List Value),SizeOf.sizeOf ds≤n→cL w F s ao ds vs→cL w F ar hP ds vs):=by
 intro n
 induction n with
 |zero=>
  refine⟨fun d v S bp=> ?_,fun ds vs bp=> ?_⟩
  ·cases d<;>simp at bp<;>omega
  ·cases ds<;>simp at bp<;>omega
 |succ n ih=>
  refine⟨fun d v S bp h=> ?_,fun ds vs bp h=> ?_⟩
  ·cases d with
   |hole=>rw[ay];trivial
   |h x q=>
    rw[ay]at h⊢
    intro d ae ak
    by_cases aq:x=t
    ·subst aq
     rw[I.xJ _ _ _ l5 ae]at ak;cases ak
    ·obtain⟨aH,aJ⟩:=e2 x aq (fE ae (.inl ak))
     rw[aH,aJ];rw[aH]at ae
     exact h d ae ak
   |ak x q=>
    rw[ay]at h⊢
    intro d ae ak
    by_cases aq:x=t
    ·subst aq
     rw[I.Bg _ _ l5]at ak;cases ak
    ·obtain⟨aH,aJ⟩:=e2 x aq (fE ae (.inr ak))
     rw[aH,aJ];rw[aH]at ae ak
     exact h d ae ak
   |R x k=>
    rw[ay]at h⊢
    intro ak
    by_cases aq:x=t
    ·subst aq;rw[l5]at ak;cases ak
    ·obtain⟨aH,aJ⟩:=e2 x aq (xL ak)
     rw[aJ];rw[aH]at ak
     exact h ak
   |fn f cap=>
    rw[ay]at h⊢
    obtain⟨arr,rfl,ai⟩:=h
    exact⟨arr,rfl,ih.2 _ _ (by simp at bp;omega) ai⟩
   |_=>exact(ay.bM (by rfl)).2 ((ay.bM (by rfl)).1 h)
  ·cases ds with
   |nil=>rw[cL];rw[cL]at h;exact h
   |cons d ds=>
    rw[cL];rw[cL]at h
    obtain⟨v,hj,rfl,ab,ad⟩:=h
    simp at bp
    exact⟨v,hj,rfl,ih.1 _ _ _ (by omega) ab,ih.2 _ _ (by omega) ad⟩
end
def xN:Bool:=false
def Out (w w0:World):Prop:=w.output=w0.output∧(xN=true→w0.drawn≤w.drawn)
theorem Out.trans {a b c:World} (h:Out a b) (ad:Out b c):Out a c:=⟨Eq.trans h.1 ad.1,fun d=>Nat.le_trans (ad.2 d) (h.2 d)⟩
theorem Out.refl (w:World):Out w w:=⟨rfl,fun _=>Nat.le_refl _⟩
def xO (o:Obj):Prop:=∃az cs e fr,o= .cells cs e fr∧cs[0]? =some az∧(az= .nilIface∨∃xP xQ,az= .iface xP xQ)
def xR (o:Obj):Prop:=∃e fr,o= .cells ((List.range 20).map fun i=>Value.int .u64 ((10^i:Nat):Int)).toArray e fr
def xS:List (Nat×(Obj→Prop)):=[(4,xO),(1,xR)]
def nH (w:World) (X:Nat→Prop):Prop:=∀p∈xS,p.1<w.heap.size∧¬X p.1∧∃o,w.heap[p.1]? =some o∧p.2 o
theorem nH.next {w aw:World} {X Y:Nat→Prop} (h:nH w X) (U:w.heap.size≤aw.heap.size) (R:∀b,b<w.heap.size→¬X b→aw.heap[b]? =w.heap[b]?) (hy:∀b,Y b→X b∨w.heap.size≤b):nH aw Y:=fun p ak=>by
 obtain⟨ab,ad,o,aB,aR⟩:=h p ak
 refine⟨Nat.lt_of_lt_of_le ab U,fun h=> ?_,o,(R _ ab ad).trans aB,aR⟩
 rcases hy _ h with h|h
 ·exact ad h
 ·omega
structure bb (w0:World) (F0 X F:Nat→Prop) (S:Nat→Nat→Prop) (s:aj) (ao:Nat→Value) (w:World):Prop where
 e3:∀b,F0 b→F b
 fh:∀b,F b→F0 b∨X b∨w0.heap.size≤b
 dH:∀b,F b→b<w.heap.size
 de:∀t b,S t b→b<w.heap.size
 dY:∀t b,S t b→¬F b
 dA:∀t u b,t≠u→S t b→¬S u b
 cE:∀t b,S t b→X b∨w0.heap.size≤b
 cj:∀t,ay w F s ao (s t) (ao t) (S t)
 old:∀b,b<w0.heap.size→¬X b→w.heap[b]? =w0.heap[b]?
 size:w0.heap.size≤w.heap.size
 os:w.os=w0.os
 tape:w.tape=w0.tape
 output:Out w w0
 eT:nH w0 X
section
variable {w0 w aw:World} {F0 X F:Nat→Prop} {S:Nat→Nat→Prop} {s:aj} {ao:Nat→Value}
theorem bb.grow (h:bb w0 F0 X F S s ao w) (R:∀b,b<w.heap.size→aw.heap[b]? =w.heap[b]?) (U:w.heap.size≤aw.heap.size)
  (ab:aw.os=w.os) (ad:aw.tape=w.tape) (aB:Out aw w):bb w0 F0 X F S s ao aw where
 e3:=h.e3
 fh:=h.fh
 dH:=fun b a1=>Nat.lt_of_lt_of_le (h.dH b a1) U
 de:=fun t b a1=>Nat.lt_of_lt_of_le (h.de t b a1) U
 dY:=h.dY
 dA:=h.dA
 cE:=h.cE
 cj:=fun t=>ay.frame (Sx:=S) (fun b a1=>R b (h.dH b a1)) (fun _ h=>h) (fun x b bg=>R b (h.de x b bg)) h.cj _ _ _ (fun b bg=>R b (h.de t b bg)) (h.cj t)
 old:=fun b c_ hQ=>(R b (Nat.lt_of_lt_of_le c_ h.size)).trans (h.old b c_ hQ)
 size:=Nat.le_trans h.size U
 os:=ab.trans h.os
 tape:=ad.trans h.tape
 output:=aB.trans h.output
 eT:=h.eT
def eH (S:Nat→Nat→Prop) (t:Nat) (Sn:Nat→Prop):Nat→Nat→Prop:=fun u b=>if u=t then Sn b else S u b
theorem sF (S:Nat→Nat→Prop) (t:Nat) (Sn:Nat→Prop):eH S t Sn t=Sn:=by funext b;simp[eH]
theorem sG (S:Nat→Nat→Prop) {t u:Nat} (Sn:Nat→Prop) (h:u≠t):eH S t Sn u=S u:=by funext b;simp[eH,h]
theorem bb.sH (h:bb w0 F0 X F S s ao w) {t:Nat} {d:I} {v:Value} (ak:d.plain=true) (ae:ay w F s ao d v (fun _=>False)):
  bb w0 F0 X F (eH S t (fun _=>False)) (cm s t d) (cm ao t v) w where
 e3:=h.e3
 fh:=h.fh
 dH:=h.dH
 de:=fun u b R=>by simp only[eH]at R;split at R;exact R.elim;exact h.de u b R
 dY:=fun u b R=>by simp only[eH]at R;split at R;exact R.elim;exact h.dY u b R
 dA:=fun u x b cI R aq=>by
  simp only[eH]at R aq
  split at R
  ·exact R.elim
  ·split at aq
   ·exact aq.elim
   ·exact h.dA u x b cI R aq
 cE:=fun u b R=>by simp only[eH]at R;split at R;exact R.elim;exact h.cE u b R
 cj:=fun u=>by
  have e2:∀x,x≠t→(cm s t d x).tree=true→cm s t d x=s x∧cm ao t v x=ao x:=fun x aq _=>⟨hk _ _ aq,hk _ _ aq⟩
  have l5:(cm s t d t).plain=true:=by rw[kk];exact ak
  by_cases hu:u=t
  ·subst hu
   rw[kk,kk,sF]
   exact(ay.void e2 l5 _).1 _ _ _ (Nat.le_refl _) ae
  ·rw[hk _ _ hu,hk _ _ hu,sG _ _ hu]
   exact(ay.void e2 l5 _).1 _ _ _ (Nat.le_refl _) (h.cj u)
 old:=h.old
 size:=h.size
 os:=h.os
 tape:=h.tape
 output:=h.output
 eT:=h.eT
theorem bb.Bi (h:bb w0 F0 X F S s ao w) {t:Nat} {d:I} {v:Value} {Sn:Nat→Prop} (ae:d.tree=true) (U:cA d v) (aG:an w F d (bx v) Sn)
  (c_:∀b,Sn b→b<w.heap.size) (a1:∀b,Sn b→¬F b) (bg:∀u b,u≠t→Sn b→¬S u b) (bm:∀b,Sn b→X b∨w0.heap.size≤b):
  bb w0 F0 X F (eH S t Sn) (cm (jt t s) t d) (cm ao t v) w where
 e3:=h.e3
 fh:=h.fh
 dH:=h.dH
 de:=fun u b R=>by simp only[eH]at R;split at R;exact c_ b R;exact h.de u b R
 dY:=fun u b R=>by simp only[eH]at R;split at R;exact a1 b R;exact h.dY u b R
 dA:=fun u x b cI R aq=>by
  simp only[eH]at R aq
  split at R
  ·rename_i hu
   rw[if_neg (fun e=>cI (hu.trans e.symm))]at aq
   exact bg x b (fun e=>cI (hu.trans e.symm)) R aq
  ·rename_i hu
   split at aq
   ·exact bg u b hu aq R
   ·exact h.dA u x b cI R aq
 cE:=fun u b R=>by simp only[eH]at R;split at R;exact bm b R;exact h.cE u b R
 cj:=fun u=>by
  have e2:∀x,x≠t→(cm (jt t s) t d x).tree=true→cm (jt t s) t d x=s x∧cm ao t v x=ao x:=fun x aq aO=>by
   rw[hk _ _ aq]at aO⊢
   exact⟨(HK aO).2,hk _ _ aq⟩
  by_cases hu:u=t
  ·subst hu
   rw[kk,kk,sF]
   exact(ay.bM ae).2 ⟨U,aG⟩
  ·rw[hk _ _ hu,hk _ _ hu,sG _ _ hu]
   exact(ay.bY e2 _).1 _ _ _ (Nat.le_refl _) (h.cj u)
 old:=h.old
 size:=h.size
 os:=h.os
 tape:=h.tape
 output:=h.output
 eT:=h.eT
theorem ow (k:Nat) (q:List Nat) (aY x:I):(∃ag gs,x= .agg ag∧I.put (k::q) aY x= .agg gs)∨(∃ag gs,x= .tuple ag∧I.put (k::q) aY x= .tuple gs)∨
  (∃sz xs bG,x= .aE sz xs∧I.put (k::q) aY x= .aE sz bG)∨(∃y z,x= .a_ y∧I.put (k::q) aY x= .a_ z)∨I.put (k::q) aY x=x:=by
 cases x with
 |agg ag=>simp only[I.put];split<;>exact .inl ⟨_,_,rfl,rfl⟩
 |tuple ag=>simp only[I.put];split<;>exact .inr (.inl ⟨_,_,rfl,rfl⟩)
 |aE sz ag=>simp only[I.put];split<;>exact .inr (.inr (.inl ⟨_,_,_,rfl,rfl⟩))
 |a_ y=>cases k<;>exact .inr (.inr (.inr (.inl ⟨_,_,rfl,rfl⟩)))
 |_=>exact .inr (.inr (.inr (.inr rfl)))
theorem Bj {k:Nat} {q:List Nat} {aY x:I} {v:Value} (h:fY x v):fY (I.put (k::q) aY x) v:=by
 rcases ow k q aY x with⟨ag,gs,rfl,e⟩|⟨ag,gs,rfl,e⟩|⟨sz,xs,bG,rfl,e⟩|⟨y,z,rfl,e⟩|e<;>rw[e]<;>exact h
theorem Bk {k:Nat} {q:List Nat} {aY x:I} (h:∀vs,x≠.tuple vs):∀vs,I.put (k::q) aY x≠.tuple vs:=by
 rcases ow k q aY x with⟨ag,gs,rfl,e⟩|⟨ag,gs,rfl,e⟩|⟨sz,xs,bG,rfl,e⟩|⟨y,z,rfl,e⟩|e<;>rw[e]<;>first|exact h|(intro vs aS;cases aS;done)|exact(h _ rfl).elim
theorem sI {k:Nat} {q:List Nat} {d aY av:I} {v:Value} (h:cA av v) (ae:I.sub (k::q) av=some d) (ab:∀v,fY d v→fY aY v) (ad:(∀vs,d≠.tuple vs)→∀vs,aY≠.tuple vs) (aB:aY.wd=d.wd):
  cA (I.put (k::q) aY av) v:=by
 cases av with
 |tuple ag=>
  simp only[I.sub]at ae
  split at ae
  ·rename_i x aq
   simp only[I.put,aq]
   simp only[cA]at h⊢
   obtain⟨arr,rfl,bp,h5⟩:=h
   refine⟨arr,rfl,by simpa using bp,fun j e y he hy=> ?_⟩
   rw[List.getElem?_set]at he
   split at he
   ·rename_i xT
    subst xT
    split at he
    ·simp only[Option.some.injEq]at he
     subst he
     obtain⟨g1,g2,g3⟩:=h5 k x y aq hy
     refine⟨?_,?_,g3.trans (I.qN q x d aY ae aB).symm⟩
     ·cases q with
      |nil=>
       simp only[I.sub,Option.some.injEq]at ae
       subst ae
       exact ab _ g1
      |cons bK q=>exact Bj g1
     ·cases q with
      |nil=>
       simp only[I.sub,Option.some.injEq]at ae
       subst ae
       exact ad g2
      |cons bK q=>exact Bk g2
    ·cases he
   ·exact h5 j e y he hy
  ·cases ae
 |agg ag=>simp only[I.put];split<;>exact h
 |aE sz ag=>simp only[I.put];split<;>exact h
 |a_ y=>cases k<;>exact h
 |_=>exact h
theorem xU {d:I} {v:Value} (h:fY d v):fY d.b8 v:=by cases d<;>exact h
theorem Bl {s:aj} {x:Nat} {q:List Nat} {d:I} (ae:I.sub q (s x)=some d) (ak:d.plain=false):
  (cm (fO x s) x (I.put q d.b8 (s x)) x).plain=false→(s x).plain=false∧∀v,cA (s x) v→cA (cm (fO x s) x (I.put q d.b8 (s x)) x) v:=by
  rw[kk]
  intro fi
  cases q with
  |nil=>
   exfalso
   have:∀d:I,d.b8.plain=true:=by
    intro d
    have key:∀n,(∀d:I,SizeOf.sizeOf d≤n→d.b8.plain=true)∧(∀ds:List I,SizeOf.sizeOf ds≤n→I.ef (I.iT ds)=true):=by
     intro n
     induction n with
     |zero=>exact⟨fun d bp=>by cases d<;>simp at bp<;>omega,fun ds bp=>by cases ds<;>simp at bp<;>omega⟩
     |succ n ih=>
      refine⟨fun d bp=> ?_,fun ds bp=> ?_⟩
      ·cases d with
       |agg ag=>simp only[I.b8,I.plain];exact ih.2 _ (by simp at bp;omega)
       |tuple ag=>simp only[I.b8,I.plain];exact ih.2 _ (by simp at bp;omega)
       |_=>rfl
      ·cases ds with
       |nil=>rfl
       |cons d ds=>
        simp at bp
        simp only[I.iT,I.ef,Bool.and_eq_true]
        exact⟨ih.1 _ (by omega),ih.2 _ (by omega)⟩
    exact(key _).1 d (Nat.le_refl _)
   simp only[I.put]at fi
   rw[this]at fi
   cases fi
  |cons k q=>
   refine⟨?_,fun v aG=>sI aG ae (fun v h=>xU h) (fun h vs e=> ?_) (I.ov d)⟩
   ·cases sJ:(s x).plain with
    |false=>rfl
    |true=>rw[I.xJ _ _ _ sJ ae]at ak;cases ak
   ·cases d<;>first|(exact h _ rfl)|(simp[I.b8]at e)
theorem bb.take (h:bb w0 F0 X F S s ao w) {x:Nat} {q:List Nat} {d:I} (ae:I.sub q (s x)=some d) (ak:d.plain=false):
  ∃(Sn dz:Nat→Prop) (bR:List Value) (a:Option (Nat×Nat)),bb w0 F0 X F (eH S x Sn) (cm (fO x s) x (I.put q d.b8 (s x))) ao w∧
   cg w q (s x) (bx (ao x)) none=some (d,bR,a)∧an w F d bR dz∧(∀b,dz b→S x b)∧(∀b,Sn b→S x b)∧(∀b,dz b→¬Sn b)∧
   (∀(aY:I) (v:Value) (aF:Nat→Prop),ay w F s ao aY v aF→ay w F (cm (fO x s) x (I.put q d.b8 (s x))) ao (ca.bs x aY) v aF):=by
 have aO:=fE ae (.inl ak)
 have aq:=h.cj x
 rw[ay.bM aO]at aq
 obtain⟨bR,a,cQ,dz,g0,g1,g2,g3,g4,g5⟩:=ctx q (s x) (bx (ao x)) (S x) none d aq.2 ae
 have hO:an w F (I.put q d.b8 (s x)) (bx (ao x)) cQ:=by
  have fu:an w F d.b8 bR (fun _=>False):=an.b8 _ _ _ _ g4
  have mI:∀b,(cQ b∨False)→cQ b:=fun b h=>h.elim id False.elim
  rcases g5 with⟨l,r,aH,aJ,aK⟩|⟨b,cur,e,fr,l,r,aH,aJ,aK,b0,b_,bw⟩
  ·have:=aK w _ bR _ (fun _ _=>rfl) (fun _ _=>rfl) (I.ov d) fu (fun _ h=>h.elim)
   rw[←aH]at this
   exact an.mono (fun _ h=>h) _ _ _ _ mI this
  ·have:=bw w _ bR _ (fun _ _=>rfl) (fun _ _ _=>rfl) (by rw[aK,←b_]) (I.ov d) fu (fun _ h=>h.elim)
   exact an.mono (fun _ h=>h) _ _ _ _ mI this
 have HL:cA (I.put q d.b8 (s x)) (ao x)∧(I.put q d.b8 (s x)).tree=true∨I.put q d.b8 (s x)= .hole:=by
  cases q with
  |nil=>
   simp only[I.sub,Option.some.injEq]at ae
   subst ae
   simp only[I.put]
   cases U:s x with
   |aE sz xs=>right;rfl
   |a_ y=>right;rfl
   |cH y=>right;rfl
   |agg ag=>left;rw[U]at aq;exact⟨aq.1,rfl⟩
   |tuple ag=>
    left
    rw[U]at aq
    refine⟨?_,rfl⟩
    simp only[cA,I.b8]at aq⊢
    obtain⟨arr,e,bp,h5⟩:=aq.1
    have hl:∀ag:List I,I.iT ag=ag.map I.b8:=by
     intro ag;induction ag with
     |nil=>rfl
     |cons a ag ih=>simp[I.iT,ih]
    refine⟨arr,e,by rw[hl];simpa using bp,fun k eG y he hy=> ?_⟩
    rw[hl,List.getElem?_map]at he
    cases al:ag[k]? with
    |none=>rw[al]at he;cases he
    |some z=>
     rw[al]at he
     simp only[Option.map_some,Option.some.injEq]at he
     subst he
     obtain⟨g1,g2,g3⟩:=h5 k z y al hy
     refine⟨xU g1,fun vs e=> ?_,g3.trans (I.ov z).symm⟩
     cases z<;>first|(exact g2 _ rfl)|(simp[I.b8]at e)
   |_=>rw[U]at ak;simp[I.plain]at ak
  |cons k q=>
   left
   refine⟨sI aq.1 ae (fun v h=>xU h) (fun h vs e=> ?_) (I.ov d),?_⟩
   ·cases d<;>first|(exact h _ rfl)|(simp[I.b8]at e)
   ·rcases ow k q d.b8 (s x)with⟨ag,gs,aH,e⟩|⟨ag,gs,aH,e⟩|⟨sz,xs,bG,aH,e⟩|⟨y,z,aH,e⟩|e<;>rw[e]<;>first|rfl|exact aO
 refine⟨cQ,dz,bR,a,?_,g0,g4,g2,g1,fun b ab ad=>g3 b ad ab,?_⟩
 rotate_left
 ·have e2:∀y,y≠x→(cm (fO x s) x (I.put q d.b8 (s x)) y).tree=true→cm (fO x s) x (I.put q d.b8 (s x)) y=s y∧ao y=ao y:=fun y hy aO=>by
   rw[hk _ _ hy]at aO⊢
   exact⟨(u4 aO).2,rfl⟩
  intro aY v aF e6
  exact(ay.bs e2 rfl (Bl ae ak) (fun _ _ _ _ _ _=>rfl) (fun _ _=>rfl) _).1 _ _ _ (Nat.le_refl _) (fun _ _=>rfl) e6
 have e2:∀y,y≠x→(cm (fO x s) x (I.put q d.b8 (s x)) y).tree=true→cm (fO x s) x (I.put q d.b8 (s x)) y=s y∧ao y=ao y:=fun y hy aO=>by
  rw[hk _ _ hy]at aO⊢
  exact⟨(u4 aO).2,rfl⟩
 have jP:=Bl (s:=s) (x:=x) ae ak
 constructor
 case e3=>exact h.e3
 case fh=>exact h.fh
 case dH=>exact h.dH
 case de=>exact fun u b R=>by simp only[eH]at R;split at R;exact h.de x b (g1 b R);exact h.de u b R
 case dY=>exact fun u b R=>by simp only[eH]at R;split at R;exact h.dY x b (g1 b R);exact h.dY u b R
 case dA=>
  intro u y b cI R hy
  simp only[eH]at R hy
  split at R
  ·rename_i hu
   rw[if_neg (fun e=>cI (hu.trans e.symm))]at hy
   exact h.dA x y b (fun e=>cI (hu.trans e)) (g1 b R) hy
  ·rename_i hu
   split at hy
   ·exact h.dA u x b hu R (g1 b hy)
   ·exact h.dA u y b cI R hy
 case cE=>exact fun u b R=>by simp only[eH]at R;split at R;exact h.cE x b (g1 b R);exact h.cE u b R
 case cj=>
  intro u
  by_cases hu:u=x
  ·subst hu
   rw[kk,sF]
   rcases HL with⟨aH,aJ⟩|e
   ·exact(ay.bM aJ).2 ⟨aH,hO⟩
   ·rw[e,ay];trivial
  ·rw[hk _ _ hu,sG _ _ hu]
   exact(ay.bs e2 rfl jP (fun _ _ _ _ _ _=>rfl) (fun _ _=>rfl) _).1 _ _ _ (Nat.le_refl _) (fun _ _=>rfl) (h.cj u)
 case old=>exact h.old
 case size=>exact h.size
 case os=>exact h.os
 case tape=>exact h.tape
 case output=>exact h.output
 case eT=>exact h.eT
theorem bb.store (h:bb w0 F0 X F S s ao w) {x:Nat} {q:List Nat} {d aY:I} (ae:I.sub q (s x)=some d) (ai:I.dL q (s x)=true)
  {ed:List Value} {Sn:Nat→Prop} (aG:an w F aY ed Sn) (h4:aY.wd=d.wd)
  (c_:∀b,Sn b→b<w.heap.size) (a1:∀b,Sn b→¬F b) (bg:∀u b,Sn b→¬S u b) (bm:∀b,Sn b→X b∨w0.heap.size≤b):
  ∃(bR:List Value) (b:Nat) (l r:List Value) (cur:Array Value) (e:TypeId) (fr:Nat×Nat),cg w q (s x) (bx (ao x)) none=some (d,bR,some (b,l.length))∧
   w.heap[b]? =some (.cells cur e fr)∧cur.toList=l++(bR++r)∧ou fr cur.size∧
   ∀aw,aw.heap[b]? =some (.cells (l++(ed++r)).toArray e fr)→(∀c,c≠b→aw.heap[c]? =w.heap[c]?)→aw.heap.size=w.heap.size→aw.os=w.os→aw.tape=w.tape→Out aw w→
    ∃aF,bb w0 F0 X F aF (cm (fO x s) x (I.put q aY (s x))) ao aw:=by
 have aO:=fE ae (.inr ai)
 have aq:=h.cj x
 rw[ay.bM aO]at aq
 obtain⟨bR,a,cQ,dz,g0,g1,g2,g3,g4,g5⟩:=ctx q (s x) (bx (ao x)) (S x) none d aq.2 ae
 have HM:Deep w F q (s x) (bx (ao x)) d bR a cQ:=by
  rcases g5 with⟨l,r,aH,aJ,aK⟩|g5
  ·exfalso
   have iu:∀(q:List Nat) (av:I) (cs:List Value) (a0:Option (Nat×Nat)) (d:I) (bR:List Value),I.dL q av=true→cg w q av cs a0=some (d,bR,none)→False:=by
    intro q
    induction q with
    |nil=>intro av cs a0 d bR ai;simp[I.dL]at ai
    |cons k q ih=>
     have Bm:∀(q:List Nat) (av:I) (cs:List Value) (l:Nat×Nat) (d:I) (bR:List Value),cg w q av cs (some l)=some (d,bR,none)→False:=by
      intro q
      induction q with
      |nil=>intro av cs l d bR h;simp[cg]at h
      |cons k q u5=>
       intro av cs l d bR h
       cases av with
       |agg ag=>rw[cg]at h;split at h;exact u5 _ _ _ _ _ h;cases h
       |tuple ag=>rw[cg]at h;split at h;exact u5 _ _ _ _ _ h;cases h
       |aE sz xs=>simp only[cg]at h;split at h;exact u5 _ _ _ _ _ h;cases h
       |a_ y=>
        cases k with
        |zero=>rw[cg.eq_def]at h;simp only at h;split at h;exact u5 _ _ _ _ _ h;cases h
        |succ k=>rw[show cg w ((k+1)::q) (.a_ y) cs (some l)=none from rfl]at h;cases h
       |_=>simp[cg]at h
     intro av cs a0 d bR ai h
     cases av with
     |agg ag=>
      simp only[I.dL]at ai
      split at ai
      ·rename_i y hy
       simp only[cg,hy]at h
       exact ih _ _ _ _ _ ai h
      ·cases ai
     |tuple ag=>
      simp only[I.dL]at ai
      split at ai
      ·rename_i y hy
       simp only[cg,hy]at h
       exact ih _ _ _ _ _ ai h
      ·cases ai
     |aE sz xs=>simp only[cg]at h;split at h;exact Bm _ _ _ _ _ _ h;cases h
     |a_ y=>
      cases k with
      |zero=>rw[cg.eq_def]at h;simp only at h;split at h;exact Bm _ _ _ _ _ _ h;cases h
      |succ k=>rw[show cg w ((k+1)::q) (.a_ y) cs a0=none from rfl]at h;cases h
     |_=>simp[I.dL]at ai
   simp only[Option.map_none]at aJ
   subst aJ
   exact iu _ _ _ _ _ _ ai g0
  ·exact g5
 obtain⟨b,cur,e,fr,l,r,rfl,aJ,aK,b0,b_,bw⟩:=HM
 refine⟨bR,b,l,r,cur,e,fr,g0,aK,b_,b0,?_⟩
 intro aw jO lz cV xV xW pw
 have px:S x b:=g1 _ aJ
 have mJ:∀c,F c→aw.heap[c]? =w.heap[c]? :=fun c ai=>lz c (by rintro rfl;exact h.dY x _ px ai)
 have abb:ed.length=bR.length:=by rw[an.length _ _ _ aG,an.length _ _ _ g4,h4]
 have hO:=bw aw aY ed Sn mJ (fun c _ cI=>lz c cI) jO h4
  (an.frame mJ _ _ _ (fun c ai=>lz c (by rintro rfl;exact bg x _ ai px)) aG) (fun c ai mI=>bg x c ai (g1 _ mI))
 obtain⟨k,gq,rfl⟩:∃k gq,q=k::gq:=by
  cases q with
  |nil=>simp[I.dL]at ai
  |cons k q=>exact⟨k,q,rfl⟩
 have sK:∀v,cA (s x) v→cA (I.put (k::gq) aY (s x)) v:=by
  intro v aG
  rcases ow k gq aY (s x)with⟨ag,gs,aH,e⟩|⟨ag,gs,aH,e⟩|⟨sz,xs,bG,aH,e⟩|⟨y,z,aH,e⟩|e
  ·rw[e];rw[aH]at aG;exact aG
  ·
   rw[aH]at aG ae ai⊢
   simp only[I.dL]at ai
   split at ai
   ·rename_i y hy
    simp only[I.put,hy]
    cases gq with
    |nil=>simp[I.dL]at ai
    |cons bK eB=>
     simp only[cA]at aG⊢
     obtain⟨arr,rfl,bp,h5⟩:=aG
     refine⟨arr,rfl,by simpa using bp,fun j e h7 he py=> ?_⟩
     rw[List.getElem?_set]at he
     split at he
     ·rename_i xT
      subst xT
      split at he
      ·simp only[Option.some.injEq]at he
       subst he
       obtain⟨g1,g2,g3⟩:=h5 _ y h7 hy py
       simp only[I.sub,hy]at ae
       exact⟨Bj g1,Bk g2,g3.trans (I.qN (bK::eB) y d aY ae h4).symm⟩
      ·cases he
     ·exact h5 j e h7 he py
   ·cases ai
  ·rw[e];rw[aH]at aG;exact aG
  ·rw[e];rw[aH]at aG;exact aG
  ·rw[e];exact aG
 have HN:(I.put (k::gq) aY (s x)).tree=true:=by
  rcases ow k gq aY (s x)with⟨ag,gs,aH,e⟩|⟨ag,gs,aH,e⟩|⟨sz,xs,bG,aH,e⟩|⟨y,z,aH,e⟩|e<;>rw[e]<;>first|rfl|exact aO
 let ar:=cm (fO x s) x (I.put (k::gq) aY (s x))
 have e2:∀y,y≠x→(ar y).tree=true→ar y=s y∧ao y=ao y:=fun y hy aO=>by
  have e:ar y=bs x (s y):=hk _ _ hy
  rw[e]at aO⊢
  exact⟨(u4 aO).2,rfl⟩
 have jP:(ar x).plain=false→(s x).plain=false∧∀v,cA (s x) v→cA (ar x) v:=by
  intro _
  refine⟨?_,?_⟩
  ·cases sJ:(s x).plain with
   |false=>rfl
   |true=>rw[I.Bg _ _ sJ]at ai;cases ai
  ·simp only[ar,kk];exact sK
 refine⟨eH S x (fun c=>cQ c∨Sn c),?_⟩
 constructor
 case e3=>exact h.e3
 case fh=>exact h.fh
 case dH=>exact fun b R=>by rw[cV];exact h.dH b R
 case de=>
  intro u c R
  rw[cV]
  simp only[eH]at R
  split at R
  ·rcases R with R|R
   ·exact h.de x c (g1 c R)
   ·exact c_ c R
  ·exact h.de u c R
 case dY=>
  intro u c R
  simp only[eH]at R
  split at R
  ·rcases R with R|R
   ·exact h.dY x c (g1 c R)
   ·exact a1 c R
  ·exact h.dY u c R
 case dA=>
  intro u y c cI R hy
  simp only[eH]at R hy
  split at R
  ·rename_i hu
   rw[if_neg (fun e=>cI (hu.trans e.symm))]at hy
   rcases R with R|R
   ·exact h.dA x y c (fun e=>cI (hu.trans e)) (g1 c R) hy
   ·exact bg y c R hy
  ·rename_i hu
   split at hy
   ·rcases hy with hy|hy
    ·exact h.dA u x c hu R (g1 c hy)
    ·exact bg u c hy R
   ·exact h.dA u y c cI R hy
 case cE=>
  intro u c R
  simp only[eH]at R
  split at R
  ·rcases R with R|R
   ·exact h.cE x c (g1 c R)
   ·exact bm c R
  ·exact h.cE u c R
 case cj=>
  intro u
  by_cases hu:u=x
  ·subst hu
   rw[kk,sF]
   exact(ay.bM HN).2 ⟨sK _ aq.1,hO⟩
  ·rw[hk _ _ hu,sG _ _ hu]
   have cI:∀y c,y≠x→S y c→aw.heap[c]? =w.heap[c]? :=fun y c hy ai=>lz c (by rintro rfl;exact h.dA y x c hy ai px)
   refine(ay.bs e2 rfl jP (fun y eB d2 hy e8 sL=> ?_) mJ _).1 _ _ _ (Nat.le_refl _) (fun c ai=>cI u c hu ai) (h.cj u)
   have sM:=h.cj y
   rw[ay.bM (fE e8 sL)]at sM
   exact u3 eB _ _ _ none d2 sM.2 e8 (fun c ai=>cI y c hy ai)
 case old=>
  intro c c_ hQ
  by_cases qP:c=b
  ·subst qP
   exfalso
   rcases h.cE x c px with fu|fu
   ·exact hQ fu
   ·omega
  ·exact(lz c qP).trans (h.old c c_ hQ)
 case size=>rw[cV];exact h.size
 case os=>exact xV.trans h.os
 case tape=>exact xW.trans h.tape
 case output=>exact pw.trans h.output
 case eT=>exact h.eT
end
end Go.ca
