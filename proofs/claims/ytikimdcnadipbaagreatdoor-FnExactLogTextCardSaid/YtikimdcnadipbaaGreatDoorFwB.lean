/- Part of a proof that a law returns true for every input. No condition. -/
import Derived.Test.YtikimdcnadipbaaGreatDoorFwA
import Derived.Laws.AppendOwn
import Derived.Calls
namespace Go.bZ
inductive rK where
 |mp (es:List (List UInt8×Bool))
 |nN
 |dM (T e:TypeId) (dh:List UInt8)
inductive I where
 |hole
 |bool (b:Bool)
 |di
 |int (k:IntKind) (n:Int)
 |str (s:List UInt8)
 |cw
 |bu
 |slice (xs:List I)
 |aG (sz:Nat) (xs:List I)
 |ref (d:I)
 |bG (d:I)
 |agg (aj:List I)
 |tuple (vs:List I)
 |fn (f:FuncId) (cap:List I)
 |h (x:Nat) (q:List Nat)
 |ah (x:Nat) (q:List Nat)
 |J (x:Nat) (k:Nat)
 |b9 (o:rK)
 deriving Inhabited
mutual
def I.wd:I→Nat
 | .agg aj=>I.cI aj
 | .tuple aj=>I.cI aj
 |_=>1
def I.cI:List I→Nat
 |[]=>0
 |d::ds=>d.wd+I.cI ds
end
def fc (w:World) (b o:Nat) (cs:List Value):Prop:=∀j c,cs[j]? =some c→w.cell? ⟨b,o+j,none⟩=some c
def nO (fr:Nat×Nat) (n:Nat):Prop:=∀o,o<n→¬(fr.1≤o∧o<fr.2)
def Value.ep:Value→Bool
 | .agg _=>false
 | .tuple _=>false
 |_=>true
def I.single:I→Bool
 | .agg _=>false
 | .tuple _=>false
 | .hole=>false
 |_=>true
def iI (w:World):rK→List Value→(Nat→Prop)→Prop
 | .mp es,cs,S=>∃r ms jK,cs=[.map (some r)]∧S r∧w.heap[r]? =some (.map ms jK)∧ms.toList.map (fun e=>(e.key,e.val))=es.map (fun e=>(.string ⟨⟨e.1⟩⟩,.bool e.2))
 | .nN,cs,_=>cs=[.map none]
 | .dM T e dh,cs,S=>∃b a gk,cs=[.pointer (some ⟨b,0,none⟩)]∧S b∧w.heap[b]? =some (.cells #[a,gk] T (0,0))∧(a= .pointer none∨a= .pointer (some ⟨b,0,none⟩))∧
   ((dh=[]∧gk= .slice none 0 0)∨
     ∃g cap cur,gk= .slice (some ⟨g,0,none⟩) dh.length cap∧S g∧g≠b∧w.heap[g]? =some (.cells cur e (0,0))∧dh.length≤cap∧cap≤maxLen∧cur.size=cap∧
      cur.toList.take dh.length=dh.map fun x=>.int .u8 x.toNat)
theorem iI.frame {w ar:World}:∀{o:rK} {cs:List Value} {S:Nat→Prop},(∀b,S b→ar.heap[b]? =w.heap[b]?)→iI w o cs S→iI ar o cs S
 | .mp _,_,_,a_,⟨r,ms,jK,aa,ab,aB,aP⟩=>⟨r,ms,jK,aa,ab,(a_ _ ab).trans aB,aP⟩
 | .nN,_,_,_,h=>h
 | .dM _ _ _,_,_,a_,⟨b,a,gk,aa,ab,aB,aP,bb⟩=>⟨b,a,gk,aa,ab,(a_ _ ab).trans aB,aP,bb.imp (fun h=>h) fun⟨g,cap,cur,kG,i2,i3,i4,i5⟩=>⟨g,cap,cur,kG,i2,i3,(a_ _ i2).trans i4,i5⟩⟩
theorem iI.mono {w:World}:∀{o:rK} {cs:List Value} {S aE:Nat→Prop},(∀b,S b→aE b)→iI w o cs S→iI w o cs aE
 | .mp _,_,_,_,a_,⟨r,ms,jK,aa,ab,aB⟩=>⟨r,ms,jK,aa,a_ _ ab,aB⟩
 | .nN,_,_,_,_,h=>h
 | .dM _ _ _,_,_,_,a_,⟨b,a,gk,aa,ab,aB,aP,bb⟩=>⟨b,a,gk,aa,a_ _ ab,aB,aP,bb.imp (fun h=>h) fun⟨g,cap,cur,kG,i2,i3⟩=>⟨g,cap,cur,kG,a_ _ i2,i3⟩⟩
theorem iI.one {w:World}:∀{o:rK} {cs:List Value} {S:Nat→Prop},iI w o cs S→∃v,Value.ep v=true∧cs=[v]
 | .mp _,_,_,⟨_,_,_,h,_⟩=>⟨_,rfl,h⟩
 | .nN,_,_,h=>⟨_,rfl,h⟩
 | .dM _ _ _,_,_,⟨_,_,_,h,_⟩=>⟨_,rfl,h⟩
mutual
def ak (w:World) (F:Nat→Prop):I→List Value→(Nat→Prop)→Prop
 | .hole,cs,_=>∃v,Value.ep v=true∧cs=[v]
 | .bool b,cs,_=>cs=[.bool b]
 | .di,cs,_=>∃b,cs=[.bool b]
 | .int k n,cs,_=>cs=[.int k n]
 | .str s,cs,_=>cs=[.string ⟨⟨s⟩⟩]
 | .cw,cs,_=>cs=[.pointer none]
 | .bu,cs,_=>cs=[.slice none 0 0]
 | .slice xs,cs,_=>(xs=[]∧∃a c,cs=[.slice a 0 c]∧c≤maxLen∧(a=none→c=0))∨
   ∃b o cap cN sz,cs=[.slice (some ⟨b,o,none⟩) xs.length cap]∧F b∧xs.length≤cap∧cap≤maxLen∧(∀d∈xs,d.wd=sz)∧
    fc w b o cN∧aL w F xs cN (fun _=>False)
 | .aG sz xs,cs,S=>(xs=[]∧∃a,cs=[.slice a 0 0])∨
   ∃b cap cur e fr aE,cs=[.slice (some ⟨b,0,none⟩) xs.length cap]∧S b∧w.heap[b]? =some (.cells cur e fr)∧nO fr cur.size∧
    xs.length≤cap∧cap≤maxLen∧cur.size=cap*sz∧(∀d∈xs,d.wd=sz)∧aL w F xs (cur.toList.take (xs.length*sz)) aE∧(∀c,aE c→S c)∧¬aE b
 | .ref d,cs,_=>∃b o cN,cs=[.pointer (some ⟨b,o,none⟩)]∧F b∧fc w b o cN∧ak w F d cN (fun _=>False)
 | .bG d,cs,S=>∃b cur e fr aE,cs=[.pointer (some ⟨b,0,none⟩)]∧S b∧w.heap[b]? =some (.cells cur e fr)∧nO fr cur.size∧
   ak w F d cur.toList aE∧(∀c,aE c→S c)∧¬aE b
 | .agg aj,cs,S=>aL w F aj cs S
 | .tuple aj,cs,S=>aL w F aj cs S
 | .fn f caps,cs,_=>∃arr:Array Value,cs=[.func (.func f) #[] arr]∧(∀d∈caps,d.single=true)∧aL w F caps arr.toList (fun _=>False)
 | .h _ _,_,_=>False
 | .ah _ _,_,_=>False
 | .J _ _,_,_=>False
 | .b9 o,cs,S=>iI w o cs S
def aL (w:World) (F:Nat→Prop):List I→List Value→(Nat→Prop)→Prop
 |[],cs,_=>cs=[]
 |d::ds,cs,S=>∃bD c2 bk cx,cs=bD++c2∧ak w F d bD bk∧aL w F ds c2 cx∧(∀b,bk b→S b)∧(∀b,cx b→S b)∧(∀b,bk b→¬cx b)
end
theorem cell?_of_block {w ar:World} {b:Nat} (h:ar.heap[b]? =w.heap[b]?) (o:Nat):ar.cell? ⟨b,o,none⟩=w.cell? ⟨b,o,none⟩:=by
 simp[World.cell?,h]
theorem fc.frame {w ar:World} {b o:Nat} {cs:List Value} (h:ar.heap[b]? =w.heap[b]?) (aC:fc w b o cs):fc ar b o cs:=
 fun j c af=>(cell?_of_block h _).trans (aC j c af)
mutual
theorem ak.frame {w ar:World} {F:Nat→Prop} (aW:∀b,F b→ar.heap[b]? =w.heap[b]?):
  ∀(d:I) (cs:List Value) (S:Nat→Prop),(∀b,S b→ar.heap[b]? =w.heap[b]?)→ak w F d cs S→ak ar F d cs S
 | .hole,_,_,_,h=>h
 | .bool _,_,_,_,h=>h
 | .di,_,_,_,h=>h
 | .int _ _,_,_,_,h=>h
 | .str _,_,_,_,h=>h
 | .cw,_,_,_,h=>h
 | .bu,_,_,_,h=>h
 | .slice xs,cs,S,a_,h=>by
   rw[ak]at h⊢
   rcases h with h|⟨b,o,cap,cN,sz,aa,ab,aB,aP,bb,bQ,bT⟩
   ·exact .inl h
   ·exact .inr ⟨b,o,cap,cN,sz,aa,ab,aB,aP,bb,bQ.frame (aW _ ab),aL.frame aW xs _ _ (fun _ h=>h.elim) bT⟩
 | .aG sz xs,cs,S,a_,h=>by
   rw[ak]at h⊢
   rcases h with h|⟨b,cap,cur,e,fr,aE,aa,ab,aB,aP,bb,bQ,bT,dt,eF,eZ,iJ⟩
   ·exact .inl h
   ·exact .inr ⟨b,cap,cur,e,fr,aE,aa,ab,(a_ _ ab).trans aB,aP,bb,bQ,bT,dt,aL.frame aW xs _ _ (fun c af=>a_ _ (eZ _ af)) eF,eZ,iJ⟩
 | .ref d,cs,S,a_,h=>by
   rw[ak]at h⊢
   obtain⟨b,o,cN,aa,ab,aB,aP⟩:=h
   exact⟨b,o,cN,aa,ab,aB.frame (aW _ ab),ak.frame aW d _ _ (fun _ h=>h.elim) aP⟩
 | .bG d,cs,S,a_,h=>by
   rw[ak]at h⊢
   obtain⟨b,cur,e,fr,aE,aa,ab,aB,aP,bb,bQ,bT⟩:=h
   exact⟨b,cur,e,fr,aE,aa,ab,(a_ _ ab).trans aB,aP,ak.frame aW d _ _ (fun c af=>a_ _ (bQ _ af)) bb,bQ,bT⟩
 | .agg aj,cs,S,a_,h=>by rw[ak]at h⊢;exact aL.frame aW aj _ _ a_ h
 | .tuple aj,cs,S,a_,h=>by rw[ak]at h⊢;exact aL.frame aW aj _ _ a_ h
 | .fn _ caps,cs,S,a_,h=>by
   rw[ak]at h⊢
   obtain⟨arr,aa,ab,aB⟩:=h
   exact⟨arr,aa,ab,aL.frame aW caps _ _ (fun _ h=>h.elim) aB⟩
 | .h _ _,_,_,_,h=>h
 | .ah _ _,_,_,_,h=>h
 | .J _ _,_,_,_,h=>h
 | .b9 _,_,_,a_,h=>iI.frame a_ h
theorem aL.frame {w ar:World} {F:Nat→Prop} (aW:∀b,F b→ar.heap[b]? =w.heap[b]?):
  ∀(ds:List I) (cs:List Value) (S:Nat→Prop),(∀b,S b→ar.heap[b]? =w.heap[b]?)→aL w F ds cs S→aL ar F ds cs S
 |[],_,_,_,h=>h
 |d::ds,cs,S,a_,h=>by
  rw[aL]at h⊢
  obtain⟨bD,c2,bk,cx,aa,ab,aB,aP,bb,bQ⟩:=h
  exact⟨bD,c2,bk,cx,aa,ak.frame aW d _ _ (fun b J=>a_ _ (aP _ J)) ab,aL.frame aW ds _ _ (fun b J=>a_ _ (bb _ J)) aB,aP,bb,bQ⟩
end
mutual
theorem ak.mono {w:World} {F a8:Nat→Prop} (aW:∀b,F b→a8 b):
  ∀(d:I) (cs:List Value) (S aE:Nat→Prop),(∀b,S b→aE b)→ak w F d cs S→ak w a8 d cs aE
 | .hole,_,_,_,_,h=>h
 | .bool _,_,_,_,_,h=>h
 | .di,_,_,_,_,h=>h
 | .int _ _,_,_,_,_,h=>h
 | .str _,_,_,_,_,h=>h
 | .cw,_,_,_,_,h=>h
 | .bu,_,_,_,_,h=>h
 | .slice xs,cs,S,_,a_,h=>by
   rw[ak]at h⊢
   rcases h with h|⟨b,o,cap,cN,sz,aa,ab,aB,aP,bb,bQ,bT⟩
   ·exact .inl h
   ·exact .inr ⟨b,o,cap,cN,sz,aa,aW _ ab,aB,aP,bb,bQ,aL.mono aW xs _ _ _ (fun _ h=>h) bT⟩
 | .aG sz xs,cs,S,_,a_,h=>by
   rw[ak]at h⊢
   rcases h with h|⟨b,cap,cur,e,fr,aE,aa,ab,aB,aP,bb,bQ,bT,dt,eF,eZ,iJ⟩
   ·exact .inl h
   ·exact .inr ⟨b,cap,cur,e,fr,aE,aa,a_ _ ab,aB,aP,bb,bQ,bT,dt,aL.mono aW xs _ _ _ (fun _ h=>h) eF,fun c af=>a_ _ (eZ _ af),iJ⟩
 | .ref d,cs,S,_,a_,h=>by
   rw[ak]at h⊢
   obtain⟨b,o,cN,aa,ab,aB,aP⟩:=h
   exact⟨b,o,cN,aa,aW _ ab,aB,ak.mono aW d _ _ _ (fun _ h=>h) aP⟩
 | .bG d,cs,S,_,a_,h=>by
   rw[ak]at h⊢
   obtain⟨b,cur,e,fr,aE,aa,ab,aB,aP,bb,bQ,bT⟩:=h
   exact⟨b,cur,e,fr,aE,aa,a_ _ ab,aB,aP,ak.mono aW d _ _ _ (fun _ h=>h) bb,fun c af=>a_ _ (bQ _ af),bT⟩
 | .agg aj,cs,S,_,a_,h=>by rw[ak]at h⊢;exact aL.mono aW aj _ _ _ a_ h
 | .tuple aj,cs,S,_,a_,h=>by rw[ak]at h⊢;exact aL.mono aW aj _ _ _ a_ h
 | .fn _ caps,cs,S,_,a_,h=>by
   rw[ak]at h⊢
   obtain⟨arr,aa,ab,aB⟩:=h
   exact⟨arr,aa,ab,aL.mono aW caps _ _ _ (fun _ h=>h) aB⟩
 | .h _ _,_,_,_,_,h=>h
 | .ah _ _,_,_,_,_,h=>h
 | .J _ _,_,_,_,_,h=>h
 | .b9 _,_,_,_,a_,h=>iI.mono a_ h
theorem aL.mono {w:World} {F a8:Nat→Prop} (aW:∀b,F b→a8 b):
  ∀(ds:List I) (cs:List Value) (S aE:Nat→Prop),(∀b,S b→aE b)→aL w F ds cs S→aL w a8 ds cs aE
 |[],_,_,_,_,h=>h
 |d::ds,cs,S,_,a_,h=>by
  rw[aL]at h⊢
  obtain⟨bD,c2,bk,cx,aa,ab,aB,aP,bb,bQ⟩:=h
  exact⟨bD,c2,bk,cx,aa,ak.mono aW d _ _ _ (fun _ h=>h) ab,aL.mono aW ds _ _ _ (fun _ h=>h) aB,fun b J=>a_ _ (aP _ J),fun b J=>a_ _ (bb _ J),bQ⟩
end
mutual
theorem ak.length {w:World} {F:Nat→Prop}:∀(d:I) (cs:List Value) (S:Nat→Prop),ak w F d cs S→cs.length=d.wd
 | .hole,cs,S,h=>by rw[ak]at h;obtain⟨v,_,rfl⟩:=h;rfl
 | .bool _,cs,S,h=>by rw[ak]at h;subst h;rfl
 | .di,cs,S,h=>by rw[ak]at h;obtain⟨b,rfl⟩:=h;rfl
 | .int _ _,cs,S,h=>by rw[ak]at h;subst h;rfl
 | .str _,cs,S,h=>by rw[ak]at h;subst h;rfl
 | .cw,cs,S,h=>by rw[ak]at h;subst h;rfl
 | .bu,cs,S,h=>by rw[ak]at h;subst h;rfl
 | .slice xs,cs,S,h=>by
   rw[ak]at h
   rcases h with⟨_,a,c,rfl,_⟩|⟨b,o,cap,cN,sz,rfl,_⟩<;>rfl
 | .aG sz xs,cs,S,h=>by
   rw[ak]at h
   rcases h with⟨_,a,rfl⟩|⟨b,cap,cur,e,fr,aE,rfl,_⟩<;>rfl
 | .ref d,cs,S,h=>by rw[ak]at h;obtain⟨b,o,cN,rfl,_⟩:=h;rfl
 | .bG d,cs,S,h=>by rw[ak]at h;obtain⟨b,o,cN,_,_,rfl,_⟩:=h;rfl
 | .agg aj,cs,S,h=>by rw[ak]at h;exact aL.length aj _ _ h
 | .tuple aj,cs,S,h=>by rw[ak]at h;exact aL.length aj _ _ h
 | .fn _ _,cs,S,h=>by rw[ak]at h;obtain⟨arr,rfl,_⟩:=h;rfl
 | .h _ _,cs,S,h=>by rw[ak]at h;exact h.elim
 | .ah _ _,cs,S,h=>by rw[ak]at h;exact h.elim
 | .J _ _,cs,S,h=>by rw[ak]at h;exact h.elim
 | .b9 _,cs,S,h=>by rw[ak]at h;obtain⟨v,_,rfl⟩:=iI.one h;rfl
theorem aL.length {w:World} {F:Nat→Prop}:∀(ds:List I) (cs:List Value) (S:Nat→Prop),aL w F ds cs S→cs.length=I.cI ds
 |[],cs,S,h=>by rw[aL]at h;subst h;rfl
 |d::ds,cs,S,h=>by
  rw[aL]at h
  obtain⟨bD,c2,bk,cx,rfl,ab,aB,_⟩:=h
  rw[List.length_append,ak.length d _ _ ab,aL.length ds _ _ aB,I.cI]
end
mutual
def I.share:I→I
 | .aG _ xs=>.slice (I.shares xs)
 | .bG d=>.ref d.share
 | .slice xs=>.slice (I.shares xs)
 | .ref d=>.ref d.share
 | .agg aj=>.agg (I.shares aj)
 | .tuple aj=>.tuple (I.shares aj)
 | .b9 _=>.hole
 |d=>d
def I.shares:List I→List I
 |[]=>[]
 |d::ds=>d.share::I.shares ds
end
theorem I.oO (ds:List I):I.shares ds=ds.map I.share:=by
 induction ds with
 |nil=>rfl
 |cons d ds ih=>simp[I.shares,ih]
mutual
theorem I.tV:∀d:I,d.share.wd=d.wd
 | .hole=>rfl
 | .bool _=>rfl
 | .di=>rfl
 | .int _ _=>rfl
 | .str _=>rfl
 | .cw=>rfl
 | .bu=>rfl
 | .slice _=>rfl
 | .aG _ _=>rfl
 | .ref _=>rfl
 | .bG _=>rfl
 | .agg aj=>by simp only[I.share,I.wd];exact I.wL aj
 | .tuple aj=>by simp only[I.share,I.wd];exact I.wL aj
 | .fn _ _=>rfl
 | .h _ _=>rfl
 | .ah _ _=>rfl
 | .J _ _=>rfl
 | .b9 _=>rfl
theorem I.wL:∀ds:List I,I.cI (I.shares ds)=I.cI ds
 |[]=>rfl
 |d::ds=>by simp only[I.shares,I.cI];rw[I.tV d,I.wL ds]
end
theorem p2 {w:World} {b:Nat} {cur:Array Value} {e:TypeId} {fr:Nat×Nat} (h:w.heap[b]? =some (.cells cur e fr)) (n:Nat):fc w b 0 (cur.toList.take n):=by
 intro j c af
 rw[List.getElem?_take]at af
 split at af
 ·simp[World.cell?,h];simpa using af
 ·cases af
mutual
theorem ak.shared {w:World} {F a8:Nat→Prop} (aW:∀b,F b→a8 b):
  ∀(d:I) (cs:List Value) (S:Nat→Prop),(∀b,S b→a8 b)→ak w F d cs S→ak w a8 d.share cs (fun _=>False)
 | .hole,_,_,_,h=>h
 | .bool _,_,_,_,h=>h
 | .di,_,_,_,h=>h
 | .int _ _,_,_,_,h=>h
 | .str _,_,_,_,h=>h
 | .cw,_,_,_,h=>h
 | .bu,_,_,_,h=>h
 | .slice xs,cs,S,a_,h=>by
   rw[I.share,ak]
   rw[ak]at h
   rcases h with⟨rfl,a,c,rfl,af⟩|⟨b,o,cap,cN,sz,aa,ab,aB,aP,bb,bQ,bT⟩
   ·exact .inl ⟨rfl,a,c,rfl,af⟩
   ·refine .inr ⟨b,o,cap,cN,sz,?_,aW _ ab,?_,aP,?_,bQ,aL.shared aW xs _ _ (fun _ h=>h.elim) bT⟩
    ·simpa [I.oO]using aa
    ·simpa [I.oO]using aB
    ·intro d ae
     rw[I.oO]at ae
     obtain⟨aX,eV,rfl⟩:=List.mem_map.1 ae
     rw[I.tV];exact bb _ eV
 | .aG sz xs,cs,S,a_,h=>by
   rw[I.share,ak]
   rw[ak]at h
   rcases h with⟨rfl,a,rfl⟩|⟨b,cap,cur,e,fr,aE,aa,ab,aB,aP,bb,bQ,bT,dt,eF,eZ,iJ⟩
   ·exact .inl ⟨rfl,a,0,rfl,Nat.zero_le _,fun _=>rfl⟩
   ·refine .inr ⟨b,0,cap,_,sz,?_,a_ _ ab,?_,bQ,?_,p2 aB _,aL.shared aW xs _ _ (fun c af=>a_ _ (eZ _ af)) eF⟩
    ·simpa [I.oO]using aa
    ·simpa [I.oO]using bb
    ·intro d ae
     rw[I.oO]at ae
     obtain⟨aX,eV,rfl⟩:=List.mem_map.1 ae
     rw[I.tV];exact dt _ eV
 | .ref d,cs,S,a_,h=>by
   rw[I.share,ak]
   rw[ak]at h
   obtain⟨b,o,cN,aa,ab,aB,aP⟩:=h
   exact⟨b,o,cN,aa,aW _ ab,aB,ak.shared aW d _ _ (fun _ h=>h.elim) aP⟩
 | .bG d,cs,S,a_,h=>by
   rw[I.share,ak]
   rw[ak]at h
   obtain⟨b,cur,e,fr,aE,aa,ab,aB,aP,bb,bQ,bT⟩:=h
   refine⟨b,0,cur.toList,aa,a_ _ ab,?_,ak.shared aW d _ _ (fun c af=>a_ _ (bQ _ af)) bb⟩
   have:=p2 aB cur.toList.length
   rwa [List.take_length]at this
 | .agg aj,cs,S,a_,h=>by rw[I.share,ak];rw[ak]at h;exact aL.shared aW aj _ _ a_ h
 | .tuple aj,cs,S,a_,h=>by rw[I.share,ak];rw[ak]at h;exact aL.shared aW aj _ _ a_ h
 | .fn f caps,cs,S,a_,h=>by
   show ak w a8 (.fn f caps) cs _
   rw[ak]at h⊢
   obtain⟨arr,aa,ab,aB⟩:=h
   exact⟨arr,aa,ab,aL.mono aW caps _ _ _ (fun _ h=>h) aB⟩
 | .h _ _,_,_,_,h=>h
 | .ah _ _,_,_,_,h=>h
 | .J _ _,_,_,_,h=>h
 | .b9 _,cs,S,a_,h=>by rw[ak]at h;rw[I.share,ak];exact iI.one h
theorem aL.shared {w:World} {F a8:Nat→Prop} (aW:∀b,F b→a8 b):
  ∀(ds:List I) (cs:List Value) (S:Nat→Prop),(∀b,S b→a8 b)→aL w F ds cs S→aL w a8 (I.shares ds) cs (fun _=>False)
 |[],_,_,_,h=>h
 |d::ds,cs,S,a_,h=>by
  simp only[I.shares]
  rw[aL]at h⊢
  obtain⟨bD,c2,bk,cx,aa,ab,aB,aP,bb,bQ⟩:=h
  exact⟨bD,c2,_,_,aa,ak.shared aW d _ _ (fun b J=>a_ _ (aP _ J)) ab,aL.shared aW ds _ _ (fun b J=>a_ _ (bb _ J)) aB,fun _ h=>h,fun _ h=>h,fun _ h=>h.elim⟩
end
def I.sub:List Nat→I→Option I
 |[],d=>some d
 |k::q,.agg aj=>match aj[k]? with
  |some d=>I.sub q d
  |none=>none
 |k::q,.tuple aj=>match aj[k]? with
  |some d=>I.sub q d
  |none=>none
 |i::q,.aG _ xs=>match xs[i]? with
  |some d=>I.sub q d
  |none=>none
 |0::q,.bG d=>I.sub q d
 |_::_,_=>none
def I.put:List Nat→I→I→I
 |[],n,_=>n
 |k::q,n,.agg aj=>match aj[k]? with
  |some d=>.agg (aj.set k (I.put q n d))
  |none=>.agg aj
 |k::q,n,.tuple aj=>match aj[k]? with
  |some d=>.tuple (aj.set k (I.put q n d))
  |none=>.tuple aj
 |i::q,n,.aG sz xs=>match xs[i]? with
  |some d=>.aG sz (xs.set i (I.put q n d))
  |none=>.aG sz xs
 |0::q,n,.bG d=>.bG (I.put q n d)
 |_::_,_,d=>d
def kh (w:World) (b o n:Nat):List Value:=(List.range n).map fun j=>(w.cell? ⟨b,o+j,none⟩).getD undef
theorem fc.kh {w:World} {b o:Nat} {cs:List Value} (h:fc w b o cs):kh w b o cs.length=cs:=by
 unfold bZ.kh
 apply List.ext_getElem?
 intro i
 rw[List.getElem?_map]
 by_cases ay:i<cs.length
 ·have:cs[i]? =some cs[i]:=List.getElem?_eq_getElem ay
  simp[ay,h i _ this]
 ·simp[ay]
def b_ (w:World):List Nat→I→List Value→Option (Nat×Nat)→Option (I×List Value×Option (Nat×Nat))
 |[],d,cs,a=>some (d,cs,a)
 |k::q,.agg aj,cs,a=>match aj[k]? with
  |some d=>b_ w q d ((cs.drop (I.cI (aj.take k))).take d.wd) (a.map fun l=>(l.1,l.2+I.cI (aj.take k)))
  |none=>none
 |k::q,.tuple aj,cs,a=>match aj[k]? with
  |some d=>b_ w q d ((cs.drop (I.cI (aj.take k))).take d.wd) (a.map fun l=>(l.1,l.2+I.cI (aj.take k)))
  |none=>none
 |i::q,.aG sz xs,cs,_=>match xs[i]?,cs with
  |some d,[.slice (some ⟨b,_,_⟩) _ _]=>b_ w q d (kh w b (i*sz) sz) (some (b,i*sz))
  |_,_=>none
 |0::q,.bG d,cs,_=>match cs with
  |[.pointer (some ⟨b,_,_⟩)]=>b_ w q d (kh w b 0 d.wd) (some (b,0))
  |_=>none
 |_::_,_,_,_=>none
theorem oP (bD dN c2:List Value) (n m:Nat) (aa:bD.length=n) (ab:dN.length=m):((bD++(dN++c2)).drop n).take m=dN:=by
 rw[List.drop_left' aa,List.take_left' ab]
theorem aL.pick {w:World} {F:Nat→Prop}:∀(ds:List I) (cs:List Value) (S:Nat→Prop) (k:Nat) (d:I),
  aL w F ds cs S→ds[k]? =some d→∃(bD dN c2:List Value) (bk fe:Nat→Prop),cs=bD++(dN++c2)∧bD.length=I.cI (ds.take k)∧
   (∀b,bk b→S b)∧(∀b,fe b→S b)∧(∀b,bk b→¬fe b)∧ak w F d dN fe∧
   ∀(ar:World) (aX:I) (oQ:List Value) (aE:Nat→Prop),(∀b,F b→ar.heap[b]? =w.heap[b]?)→(∀b,bk b→ar.heap[b]? =w.heap[b]?)→
    ak ar F aX oQ aE→(∀b,aE b→¬bk b)→aL ar F (ds.set k aX) (bD++(oQ++c2)) (fun b=>bk b∨aE b)
 |[],_,_,_,_,_,al=>by simp at al
 |x::ds,cs,S,0,d,h,al=>by
  rw[aL]at h
  obtain⟨bD,c2,e5,ez,rfl,aa,ab,br,J,jg⟩:=h
  simp at al;subst al
  refine⟨[],bD,c2,ez,e5,rfl,rfl,J,br,fun b J br=>jg _ br J,aa,?_⟩
  intro ar aX oQ aE aW a_ ae gl
  simp only[List.set_cons_zero,List.nil_append]
  rw[aL]
  exact⟨oQ,c2,aE,ez,rfl,ae,aL.frame aW _ _ _ a_ ab,fun b h=>.inr h,fun b h=>.inl h,fun b h=>gl b h⟩
 |x::ds,cs,S,k+1,d,h,al=>by
  rw[aL]at h
  obtain⟨c0,Gt,e5,ez,rfl,aa,ab,br,J,jg⟩:=h
  simp only[List.getElem?_cons_succ]at al
  have aI:=ak.length _ _ _ aa
  obtain⟨bD,dN,c2,bk,fe,rfl,i0,kG,i2,i3,i5,wM⟩:=aL.pick ds Gt ez k d ab al
  refine⟨c0++bD,dN,c2,fun b=>e5 b∨bk b,fe,by simp,by simp[I.cI,aI,i0],?_,fun b h=>J _ (i2 _ h),?_,i5,?_⟩
  ·rintro b (h|h)
   ·exact br _ h
   ·exact J _ (kG _ h)
  ·rintro b (h|h) al
   ·exact jg _ h (i2 _ al)
   ·exact i3 _ h al
  ·intro ar aX oQ aE aW a_ ae gl
   simp only[List.set_cons_succ]
   rw[aL]
   refine⟨c0,bD++(oQ++c2),e5,fun b=>bk b∨aE b,by simp,ak.frame aW _ _ _ (fun b J=>a_ b (.inl J)) aa,
    wM ar aX oQ aE aW (fun b J=>a_ b (.inr J)) ae (fun b J af=>gl b J (.inr af)),fun b h=>.inl (.inl h),?_,?_⟩
   ·rintro b (h|h)
    ·exact .inl (.inr h)
    ·exact .inr h
   ·rintro b h (aT|aT)
    ·exact jg _ h (kG _ aT)
    ·exact gl _ aT (.inl h)
theorem wN:∀(aj:List I) (k:Nat) (x y:I),aj[k]? =some x→y.wd=x.wd→I.cI (aj.set k y)=I.cI aj:=by
 intro aj
 induction aj with
 |nil=>intro k x y h;simp at h
 |cons a aj ih=>
  intro k x y h e
  cases k with
  |zero=>simp at h;subst h;simp[I.cI,e]
  |succ k=>simp at h;simp[I.cI,ih k x y h e]
theorem oR {sz:Nat}:∀(xs:List I),(∀d∈xs,d.wd=sz)→I.cI xs=xs.length*sz
 |[],_=>by simp[I.cI]
 |x::xs,h=>by
  rw[I.cI,h x (by simp),oR xs (fun d ae=>h d (by simp[ae])),List.length_cons,Nat.add_mul,Nat.one_mul,Nat.add_comm]
theorem I.p3:∀(q:List Nat) (av d aX:I),I.sub q av=some d→aX.wd=d.wd→(I.put q aX av).wd=av.wd:=by
 intro q
 induction q with
 |nil=>intro av d aX h e;simp[I.sub]at h;subst h;simpa [I.put]using e
 |cons k q ih=>
  intro av d aX h e
  cases av with
  |agg aj=>
   simp only[I.sub]at h
   split at h
   ·rename_i x ai
    simp only[I.put,ai,I.wd]
    exact wN _ _ _ _ ai (ih _ _ _ h e)
   ·cases h
  |tuple aj=>
   simp only[I.sub]at h
   split at h
   ·rename_i x ai
    simp only[I.put,ai,I.wd]
    exact wN _ _ _ _ ai (ih _ _ _ h e)
   ·cases h
  |aG sz xs=>
   simp only[I.sub]at h
   split at h
   ·rename_i x ai
    simp only[I.put,ai,I.wd]
   ·cases h
  |bG x=>
   cases k with
   |zero=>simp only[I.put,I.wd]
   |succ k=>simp[I.sub]at h
  |_=>simp[I.sub]at h
theorem wO {sz:Nat} {xs:List I} {i:Nat} {y:I} (h:∀d∈xs,d.wd=sz) (hy:y.wd=sz):∀d∈xs.set i y,d.wd=sz:=by
 intro d ae
 rcases List.mem_or_eq_of_mem_set ae with ae|rfl
 ·exact h d ae
 ·exact hy
theorem p4 {w:World} {b:Nat} {cur:Array Value} {e:TypeId} {fr:Nat×Nat} (h:w.heap[b]? =some (.cells cur e fr)) {l m r:List Value} (af:cur.toList=l++(m++r)):
  kh w b l.length m.length=m:=by
 refine fc.kh (fun j c bE=> ?_)
 have cJ:j<m.length:=(List.getElem?_eq_some_iff.1 bE).1
 have:cur.toList[l.length+j]? =some c:=by
  rw[af,List.getElem?_append_right (by omega),List.getElem?_append_left (by omega)]
  rw[←bE];congr 1;omega
 simp[World.cell?,h]
 simpa using this
def Flat (w:World) (F:Nat→Prop) (q:List Nat) (av:I) (cs:List Value) (a:Option (Nat×Nat)) (d:I) (bK:List Value) (bU:Option (Nat×Nat)) (cK:Nat→Prop):Prop:=
 ∃l r:List Value,cs=l++(bK++r)∧bU=a.map (fun x=>(x.1,x.2+l.length))∧
  ∀(ar:World) (aX:I) (dO:List Value) (aE:Nat→Prop),(∀b,F b→ar.heap[b]? =w.heap[b]?)→(∀b,cK b→ar.heap[b]? =w.heap[b]?)→
   aX.wd=d.wd→ak ar F aX dO aE→(∀b,aE b→¬cK b)→ak ar F (I.put q aX av) (l++(dO++r)) (fun b=>cK b∨aE b)
def Deep (w:World) (F:Nat→Prop) (q:List Nat) (av:I) (cs:List Value) (d:I) (bK:List Value) (bU:Option (Nat×Nat)) (cK:Nat→Prop):Prop:=
 ∃(b:Nat) (cur:Array Value) (e:TypeId) (fr:Nat×Nat) (l r:List Value),bU=some (b,l.length)∧cK b∧w.heap[b]? =some (.cells cur e fr)∧nO fr cur.size∧cur.toList=l++(bK++r)∧
  ∀(ar:World) (aX:I) (dO:List Value) (aE:Nat→Prop),(∀b,F b→ar.heap[b]? =w.heap[b]?)→(∀c,cK c→c≠b→ar.heap[c]? =w.heap[c]?)→
   ar.heap[b]? =some (.cells (l++(dO++r)).toArray e fr)→
   aX.wd=d.wd→ak ar F aX dO aE→(∀b,aE b→¬cK b)→ak ar F (I.put q aX av) cs (fun b=>cK b∨aE b)
theorem ctx {w:World} {F:Nat→Prop}:∀(q:List Nat) (av:I) (cs:List Value) (S:Nat→Prop) (a:Option (Nat×Nat)) (d:I),
  ak w F av cs S→I.sub q av=some d→∃(bK:List Value) (bU:Option (Nat×Nat)) (cK dx:Nat→Prop),b_ w q av cs a=some (d,bK,bU)∧
   (∀b,cK b→S b)∧(∀b,dx b→S b)∧(∀b,cK b→¬dx b)∧ak w F d bK dx∧(Flat w F q av cs a d bK bU cK∨Deep w F q av cs d bK bU cK):=by
 intro q
 induction q with
 |nil=>
  intro av cs S a d h ae
  simp[I.sub]at ae;subst ae
  refine⟨cs,a,fun _=>False,S,rfl,fun _ h=>h.elim,fun _ h=>h,fun _ h=>h.elim,h,.inl ⟨[],[],by simp,?_,?_⟩⟩
  ·cases a<;>simp
  ·intro ar aX dO aE _ _ hw eV _
   simp only[I.put,List.nil_append,List.append_nil]
   exact ak.mono (fun _ h=>h) _ _ _ _ (fun b h=>.inr h) eV
 |cons k q ih=>
  have fields:∀(mk:List I→I) (wP:∀(w:World) (F:Nat→Prop) (aj:List I) (cs:List Value) (S:Nat→Prop),ak w F (mk aj) cs S=aL w F aj cs S) (aj:List I) (cs:List Value) (S:Nat→Prop) (a:Option (Nat×Nat)) (x d:I),
    (hj:∀aX,I.put (k::q) aX (mk aj)=mk (aj.set k (I.put q aX x)))→aL w F aj cs S→aj[k]? =some x→I.sub q x=some d→
    ∃(bK:List Value) (bU:Option (Nat×Nat)) (cK dx:Nat→Prop),b_ w q x ((cs.drop (I.cI (aj.take k))).take x.wd) (a.map fun l=>(l.1,l.2+I.cI (aj.take k)))=some (d,bK,bU)∧
    (∀b,cK b→S b)∧(∀b,dx b→S b)∧(∀b,cK b→¬dx b)∧ak w F d bK dx∧(Flat w F (k::q) (mk aj) cs a d bK bU cK∨Deep w F (k::q) (mk aj) cs d bK bU cK):=by
   intro mk wP aj cs S a x d hj h ai ae
   obtain⟨bD,dN,c2,bk,fe,rfl,e6,d_,eW,fA,dU,jh⟩:=aL.pick aj cs S k x h ai
   have aI:=ak.length _ _ _ dU
   rw[oP bD dN c2 _ _ e6 aI]
   obtain⟨bK,bU,cK,dx,g0,g1,g2,g3,g4,g5⟩:=ih x _ fe (a.map fun l=>(l.1,l.2+I.cI (aj.take k))) d dU ae
   refine⟨bK,bU,fun b=>bk b∨cK b,dx,g0,?_,fun b J=>eW _ (g2 _ J),?_,g4,?_⟩
   ·rintro b (h|h)
    ·exact d_ _ h
    ·exact eW _ (g1 _ h)
   ·rintro b (h|h) ae
    ·exact fA _ h (g2 _ ae)
    ·exact g3 _ h ae
   ·have du:∀(b:Nat) (aE:Nat→Prop),(bk b∨cK b∨aE b)→((bk b∨cK b)∨aE b):=by
     rintro b aE (J|J|J)
     ·exact .inl (.inl J)
     ·exact .inl (.inr J)
     ·exact .inr J
    rcases g5 with⟨l,r,rfl,aJ,aN⟩|⟨b,cur,e,fr,l,r,aF,aJ,aN,bt,bN,bh⟩
    ·refine .inl ⟨bD++l,r++c2,by simp,?_,?_⟩
     ·rw[aJ,←e6];cases a<;>simp[Nat.add_assoc]
     ·intro ar aX dO aE aW a_ hw eV gl
      have ed:=aN ar aX dO aE aW (fun b J=>a_ b (.inr J)) hw eV (fun b J af=>gl b J (.inr af))
      have cn:=jh ar _ _ _ aW (fun b J=>a_ b (.inl J)) ed (by
       rintro b (J|J) aa
       ·exact fA _ aa (g1 _ J)
       ·exact gl _ J (.inl aa))
      rw[hj,wP]
      have:=aL.mono (fun _ h=>h) _ _ _ _ (fun b=>du b aE) cn
      simpa using this
    ·refine .inr ⟨b,cur,e,fr,l,r,aF,.inr aJ,aN,bt,bN,?_⟩
     intro ar aX dO aE aW a_ ji hw eV gl
     have ed:=bh ar aX dO aE aW (fun c af=>a_ c (.inr af)) ji hw eV (fun b J af=>gl b J (.inr af))
     have cn:=jh ar _ _ _ aW (fun c af=>a_ c (.inl af) (by rintro rfl;exact fA _ af (g1 _ aJ))) ed (by
       rintro b (J|J) aa
       ·exact fA _ aa (g1 _ J)
       ·exact gl _ J (.inl aa))
     rw[hj,wP]
     exact aL.mono (fun _ h=>h) _ _ _ _ (fun b=>du b aE) cn
  intro av cs S a d h ae
  cases av with
  |agg aj=>
   simp only[I.sub]at ae
   split at ae
   ·rename_i x ai
    rw[ak]at h
    have:=fields .agg (fun _ _ _ _ _=>by rw[ak]) aj cs S a x d (fun aX=>by simp only[I.put,ai]) h ai ae
    simpa only[b_,ai]using this
   ·cases ae
  |tuple aj=>
   simp only[I.sub]at ae
   split at ae
   ·rename_i x ai
    rw[ak]at h
    have:=fields .tuple (fun _ _ _ _ _=>by rw[ak]) aj cs S a x d (fun aX=>by simp only[I.put,ai]) h ai ae
    simpa only[b_,ai]using this
   ·cases ae
  |aG sz xs=>
   simp only[I.sub]at ae
   split at ae
   ·rename_i x ai
    rw[ak]at h
    rcases h with⟨rfl,_,rfl⟩|⟨b,cap,cur,e,fr,cp,rfl,ab,aB,aP,bb,bQ,bT,dt,eF,eZ,iJ⟩
    ·simp at ai
    ·obtain⟨bD,dN,c2,bk,fe,p,e6,d_,eW,fA,dU,jh⟩:=aL.pick xs _ cp k x eF ai
     have aI:=ak.length _ _ _ dU
     have Gu:k<xs.length:=(List.getElem?_eq_some_iff.1 ai).1
     have rL:x.wd=sz:=dt x (List.mem_of_getElem? ai)
     have bH:I.cI (xs.take k)=k*sz:=by
      rw[oR _ (fun d ae=>dt d (List.mem_of_mem_take ae))]
      rw[List.length_take,Nat.min_eq_left (by omega)]
     obtain⟨mN,ia⟩:∃mN,cur.toList=bD++(dN++(c2++mN)):=by
      refine⟨cur.toList.drop (xs.length*sz),?_⟩
      have:=(List.take_append_drop (xs.length*sz) cur.toList).symm
      rw[p]at this
      simpa using this
     have gQ:kh w b (k*sz) sz=dN:=by
      have:=p4 aB ia
      rwa [e6,bH,aI,rL]at this
     obtain⟨bK,bU,cK,dx,g0,g1,g2,g3,g4,g5⟩:=ih x _ fe (some (b,k*sz)) d dU ae
     have hj:∀aX,I.put (k::q) aX (.aG sz xs)= .aG sz (xs.set k (I.put q aX x)):=fun aX=>by simp only[I.put,ai]
     refine⟨bK,bU,fun c=>c=b∨bk c∨cK c,dx,?_,?_,fun c af=>eZ _ (eW _ (g2 _ af)),?_,g4,.inr ?_⟩
     ·simp only[b_,ai,gQ];exact g0
     ·rintro c (rfl|h|h)
      ·exact ab
      ·exact eZ _ (d_ _ h)
      ·exact eZ _ (eW _ (g1 _ h))
     ·rintro c (rfl|h|h) ae
      ·exact iJ (eW _ (g2 _ ae))
      ·exact fA _ h (g2 _ ae)
      ·exact g3 _ h ae
     ·have hC:∀aX,aX.wd=d.wd→(I.put q aX x).wd=sz:=fun aX hw=>(I.p3 q x d aX ae hw).trans rL
      rcases g5 with⟨l,r,rfl,aJ,aN⟩|⟨dK,tW,eA,wQ,l,r,aF,aJ,aN,bt,bN,bh⟩
      ·refine⟨b,cur,e,fr,bD++l,r++(c2++mN),?_,.inl rfl,aB,aP,?_,?_⟩
       ·rw[aJ];simp[e6,bH]
       ·rw[ia];simp
       ·intro ar aX dO aE aW a_ ji hw eV gl
        have ed:=aN ar aX dO aE aW (fun c af=>a_ c (.inr (.inr af)) (by rintro rfl;exact iJ (eW _ (g1 _ af)))) hw eV (fun b J af=>gl b J (.inr (.inr af)))
        have cn:=jh ar _ _ _ aW (fun c af=>a_ c (.inr (.inl af)) (by rintro rfl;exact iJ (d_ _ af))) ed (by
         rintro b (J|J) aa
         ·exact fA _ aa (g1 _ J)
         ·exact gl _ J (.inr (.inl aa)))
        have rM:=ak.length _ _ _ eV
        have rN:=ak.length _ _ _ g4
        rw[hj,ak]
        refine .inr ⟨b,cap,_,e,fr,fun b=>bk b∨cK b∨aE b,by simp,.inl (.inl rfl),ji,?_,by simpa using bb,bQ,?_,wO dt (hC aX hw),?_,?_,?_⟩
        ·have:(bD++l++(dO++(r++(c2++mN)))).toArray.size=cur.size:=by
          have:cur.size=cur.toList.length:=by simp
          rw[this,ia];simp[rM,rN,hw]
         rw[this];exact aP
        ·rw[←bT]
         have:cur.size=cur.toList.length:=by simp
         rw[this,ia];simp[rM,rN,hw]
        ·have hlen:(bD++(l++(dO++r)++c2)).length=xs.length*sz:=by
          have:=congrArg List.length p
          rw[List.length_take,Nat.min_eq_left (by simp[bT];exact Nat.mul_le_mul_right _ bb)]at this
          rw[this];simp[rM,rN,hw]
         have:(bD++l++(dO++(r++(c2++mN))))=(bD++(l++(dO++r)++c2))++mN:=by simp
         rw[List.length_set]
         simp only[this]
         rw[List.take_left' hlen]
         exact cn
        ·rintro c (h|h|h)
         ·exact .inl (.inr (.inl h))
         ·exact .inl (.inr (.inr h))
         ·exact .inr h
        ·rintro(h|h|h)
         ·exact iJ (d_ _ h)
         ·exact iJ (eW _ (g1 _ h))
         ·exact gl _ h (.inl rfl)
      ·refine⟨dK,tW,eA,wQ,l,r,aF,.inr (.inr aJ),aN,bt,bN,?_⟩
       intro ar aX dO aE aW a_ ji hw eV gl
       have ed:=bh ar aX dO aE aW (fun c af cj=>a_ c (.inr (.inr af)) cj) ji hw eV (fun b J af=>gl b J (.inr (.inr af)))
       have cj:∀c,bk c→c≠dK:=by rintro c af rfl;exact fA _ af (g1 _ aJ)
       have cn:=jh ar _ _ _ aW (fun c af=>a_ c (.inr (.inl af)) (cj c af)) ed (by
        rintro b (J|J) aa
        ·exact fA _ aa (g1 _ J)
        ·exact gl _ J (.inr (.inl aa)))
       have wR:b≠dK:=by rintro rfl;exact iJ (eW _ (g1 _ aJ))
       rw[hj,ak]
       refine .inr ⟨b,cap,cur,e,fr,fun b=>bk b∨cK b∨aE b,by simp,.inl (.inl rfl),(a_ b (.inl rfl) wR).trans aB,aP,by simpa using bb,bQ,bT,wO dt (hC aX hw),?_,?_,?_⟩
       ·rw[List.length_set,p];exact cn
       ·rintro c (h|h|h)
        ·exact .inl (.inr (.inl h))
        ·exact .inl (.inr (.inr h))
        ·exact .inr h
       ·rintro(h|h|h)
        ·exact iJ (d_ _ h)
        ·exact iJ (eW _ (g1 _ h))
        ·exact gl _ h (.inl rfl)
   ·cases ae
  |bG x=>
   cases k with
   |succ k=>simp[I.sub]at ae
   |zero=>
    simp only[I.sub]at ae
    rw[ak]at h
    obtain⟨b,cur,e,fr,cp,rfl,ab,aB,aP,bb,bQ,bT⟩:=h
    have aI:=ak.length _ _ _ bb
    have gQ:kh w b 0 x.wd=cur.toList:=by
     have:=p4 (l:=[]) (m:=cur.toList) (r:=[]) aB (by simp)
     rwa [aI]at this
    obtain⟨bK,bU,cK,dx,g0,g1,g2,g3,g4,g5⟩:=ih x _ cp (some (b,0)) d bb ae
    have hj:∀aX,I.put (0::q) aX (.bG x)= .bG (I.put q aX x):=fun aX=>rfl
    refine⟨bK,bU,fun c=>c=b∨cK c,dx,?_,?_,fun c af=>bQ _ (g2 _ af),?_,g4,.inr ?_⟩
    ·simp only[b_,gQ];exact g0
    ·rintro c (rfl|h)
     ·exact ab
     ·exact bQ _ (g1 _ h)
    ·rintro c (rfl|h) ae
     ·exact bT (g2 _ ae)
     ·exact g3 _ h ae
    ·rcases g5 with⟨l,r,aF,aJ,aN⟩|⟨dK,tW,eA,wQ,l,r,aF,aJ,aN,bt,bN,bh⟩
     ·refine⟨b,cur,e,fr,l,r,?_,.inl rfl,aB,aP,aF,?_⟩
      ·rw[aJ];simp
      ·intro ar aX dO aE aW a_ ji hw eV gl
       have ed:=aN ar aX dO aE aW (fun c af=>a_ c (.inr af) (by rintro rfl;exact bT (g1 _ af))) hw eV (fun b J af=>gl b J (.inr af))
       have rM:=ak.length _ _ _ eV
       have rN:=ak.length _ _ _ g4
       rw[hj,ak]
       refine⟨b,_,e,fr,fun b=>cK b∨aE b,rfl,.inl (.inl rfl),ji,?_,ed,?_,?_⟩
       ·have:(l++(dO++r)).toArray.size=cur.size:=by
         have:cur.size=cur.toList.length:=by simp
         rw[this,aF];simp[rM,rN,hw]
        rw[this];exact aP
       ·rintro c (h|h)
        ·exact .inl (.inr h)
        ·exact .inr h
       ·rintro(h|h)
        ·exact bT (g1 _ h)
        ·exact gl _ h (.inl rfl)
     ·refine⟨dK,tW,eA,wQ,l,r,aF,.inr aJ,aN,bt,bN,?_⟩
      intro ar aX dO aE aW a_ ji hw eV gl
      have ed:=bh ar aX dO aE aW (fun c af cj=>a_ c (.inr af) cj) ji hw eV (fun b J af=>gl b J (.inr af))
      have wR:b≠dK:=by rintro rfl;exact bT (g1 _ aJ)
      rw[hj,ak]
      refine⟨b,cur,e,fr,fun b=>cK b∨aE b,rfl,.inl (.inl rfl),(a_ b (.inl rfl) wR).trans aB,aP,ed,?_,?_⟩
      ·rintro c (h|h)
       ·exact .inl (.inr h)
       ·exact .inr h
      ·rintro(h|h)
       ·exact bT (g1 _ h)
       ·exact gl _ h (.inl rfl)
  |_=>simp[I.sub]at ae
mutual
def I.plain:I→Bool
 | .aG _ _=>false
 | .bG _=>false
 | .b9 _=>false
 | .agg aj=>I.dV aj
 | .tuple aj=>I.dV aj
 |_=>true
def I.dV:List I→Bool
 |[]=>true
 |d::ds=>d.plain&&I.dV ds
end
mutual
def I.b0:I→I
 | .aG _ _=>.hole
 | .bG _=>.hole
 | .b9 _=>.hole
 | .agg aj=>.agg (I.ib aj)
 | .tuple aj=>.tuple (I.ib aj)
 |d=>d
def I.ib:List I→List I
 |[]=>[]
 |d::ds=>d.b0::I.ib ds
end
mutual
theorem I.nP:∀d:I,d.b0.wd=d.wd
 | .hole=>rfl
 | .bool _=>rfl
 | .di=>rfl
 | .int _ _=>rfl
 | .str _=>rfl
 | .cw=>rfl
 | .bu=>rfl
 | .slice _=>rfl
 | .aG _ _=>rfl
 | .ref _=>rfl
 | .bG _=>rfl
 | .agg aj=>by simp only[I.b0,I.wd];exact I.wS aj
 | .tuple aj=>by simp only[I.b0,I.wd];exact I.wS aj
 | .fn _ _=>rfl
 | .h _ _=>rfl
 | .ah _ _=>rfl
 | .J _ _=>rfl
 | .b9 _=>rfl
theorem I.wS:∀ds:List I,I.cI (I.ib ds)=I.cI ds
 |[]=>rfl
 |d::ds=>by simp only[I.ib,I.cI];rw[I.nP d,I.wS ds]
end
mutual
theorem ak.b0 {w:World} {F:Nat→Prop}:∀(d:I) (cs:List Value) (S aE:Nat→Prop),ak w F d cs S→ak w F d.b0 cs aE
 | .hole,_,_,_,h=>h
 | .bool _,_,_,_,h=>h
 | .di,_,_,_,h=>h
 | .int _ _,_,_,_,h=>h
 | .str _,_,_,_,h=>h
 | .cw,_,_,_,h=>h
 | .bu,_,_,_,h=>h
 | .slice xs,cs,S,aE,h=>by
   show ak w F (.slice xs) cs aE
   rw[ak]at h⊢;exact h
 | .aG sz xs,cs,S,aE,h=>by
   rw[I.b0,ak]
   rw[ak]at h
   rcases h with⟨_,_,rfl⟩|⟨b,cap,cur,e,fr,cp,rfl,_⟩
   ·exact⟨_,rfl,rfl⟩
   ·exact⟨_,rfl,rfl⟩
 | .ref d,cs,S,aE,h=>by
   show ak w F (.ref d) cs aE
   rw[ak]at h⊢;exact h
 | .bG d,cs,S,aE,h=>by
   rw[I.b0,ak]
   rw[ak]at h
   obtain⟨b,cur,e,fr,cp,rfl,_⟩:=h
   exact⟨_,rfl,rfl⟩
 | .agg aj,cs,S,aE,h=>by rw[I.b0,ak];rw[ak]at h;exact aL.b0 aj _ _ _ h
 | .tuple aj,cs,S,aE,h=>by rw[I.b0,ak];rw[ak]at h;exact aL.b0 aj _ _ _ h
 | .fn _ _,_,_,_,h=>h
 | .h _ _,_,_,_,h=>h
 | .ah _ _,_,_,_,h=>h
 | .J _ _,_,_,_,h=>h
 | .b9 _,_,_,_,h=>by rw[ak]at h;rw[I.b0,ak];exact iI.one h
theorem aL.b0 {w:World} {F:Nat→Prop}:∀(ds:List I) (cs:List Value) (S aE:Nat→Prop),aL w F ds cs S→aL w F (I.ib ds) cs aE
 |[],_,_,_,h=>h
 |d::ds,cs,S,aE,h=>by
  rw[I.ib,aL]
  rw[aL]at h
  obtain⟨bD,c2,bk,cx,aa,ab,aB,aP,bb,bQ⟩:=h
  exact⟨bD,c2,fun _=>False,fun _=>False,aa,ak.b0 d _ _ _ ab,aL.b0 ds _ _ _ aB,fun _ h=>h.elim,fun _ h=>h.elim,fun _ h=>h.elim⟩
end
mutual
theorem ak.plain {w:World} {F:Nat→Prop}:∀(d:I) (cs:List Value) (S aE:Nat→Prop),d.plain=true→ak w F d cs S→ak w F d cs aE
 | .hole,_,_,_,_,h=>h
 | .bool _,_,_,_,_,h=>h
 | .di,_,_,_,_,h=>h
 | .int _ _,_,_,_,_,h=>h
 | .str _,_,_,_,_,h=>h
 | .cw,_,_,_,_,h=>h
 | .bu,_,_,_,_,h=>h
 | .slice xs,cs,S,aE,_,h=>by rw[ak]at h⊢;exact h
 | .aG sz xs,cs,S,aE,ah,h=>by simp[I.plain]at ah
 | .ref d,cs,S,aE,_,h=>by rw[ak]at h⊢;exact h
 | .bG d,cs,S,aE,ah,h=>by simp[I.plain]at ah
 | .agg aj,cs,S,aE,ah,h=>by rw[ak]at h⊢;exact aL.plain aj _ _ _ ah h
 | .tuple aj,cs,S,aE,ah,h=>by rw[ak]at h⊢;exact aL.plain aj _ _ _ ah h
 | .fn _ _,_,_,_,_,h=>h
 | .h _ _,_,_,_,_,h=>h
 | .ah _ _,_,_,_,_,h=>h
 | .J _ _,_,_,_,_,h=>h
 | .b9 _,_,_,_,ah,_=>by simp[I.plain]at ah
theorem aL.plain {w:World} {F:Nat→Prop}:∀(ds:List I) (cs:List Value) (S aE:Nat→Prop),I.dV ds=true→aL w F ds cs S→aL w F ds cs aE
 |[],_,_,_,_,h=>h
 |d::ds,cs,S,aE,ah,h=>by
  rw[aL]at h⊢
  simp only[I.dV,Bool.and_eq_true]at ah
  obtain⟨bD,c2,bk,cx,aa,ab,aB,aP,bb,bQ⟩:=h
  exact⟨bD,c2,fun _=>False,fun _=>False,aa,ak.plain d _ _ _ ah.1 ab,aL.plain ds _ _ _ ah.2 aB,fun _ h=>h.elim,fun _ h=>h.elim,fun _ h=>h.elim⟩
end
def I.dD:List Nat→I→Bool
 |[],_=>false
 |k::q,.agg aj=>match aj[k]? with
  |some d=>I.dD q d
  |none=>false
 |k::q,.tuple aj=>match aj[k]? with
  |some d=>I.dD q d
  |none=>false
 |_::_,.aG _ _=>true
 |_::_,.bG _=>true
 |_::_,_=>false
theorem tX {aj:List I} (h:I.dV aj=true) {k:Nat} {d:I} (al:aj[k]? =some d):d.plain=true:=by
 induction aj generalizing k with
 |nil=>simp at al
 |cons a aj ih=>
  simp only[I.dV,Bool.and_eq_true]at h
  cases k with
  |zero=>simp at al;subst al;exact h.1
  |succ k=>simp at al;exact ih h.2 al
theorem I.Ak:∀(q:List Nat) (d:I),d.plain=true→I.dD q d=false:=by
 intro q
 induction q with
 |nil=>intros;rfl
 |cons k q ih=>
  intro d ae
  cases d<;>first|rfl|(simp[I.plain]at ae;done)|skip
  all_goals
   simp only[I.dD]
   split
   ·rename_i aj x ai;exact ih _ (tX (by simpa [I.plain]using ae) ai)
   ·rfl
theorem I.wT:∀(q:List Nat) (d e:I),d.plain=true→I.sub q d=some e→e.plain=true:=by
 intro q
 induction q with
 |nil=>intro d e ae h;simp[I.sub]at h;exact h▸ae
 |cons k q ih=>
  intro d e ae h
  cases d<;>first|(simp[I.plain]at ae;done)|(simp[I.sub]at h;done)|skip
  all_goals
   simp only[I.sub]at h
   split at h
   ·rename_i aj x ai;exact ih _ _ (tX (by simpa [I.plain]using ae) ai) h
   ·cases h
theorem tY {w ar:World} {F:Nat→Prop}:∀(q:List Nat) (av:I) (cs:List Value) (S:Nat→Prop) (a:Option (Nat×Nat)) (d:I),
  ak w F av cs S→I.sub q av=some d→(∀b,S b→ar.heap[b]? =w.heap[b]?)→b_ ar q av cs a=b_ w q av cs a:=by
 intro q
 induction q with
 |nil=>intros;rfl
 |cons k q ih=>
  have fields:∀(aj:List I) (cs:List Value) (S:Nat→Prop) (a:Option (Nat×Nat)) (x d:I),aL w F aj cs S→aj[k]? =some x→I.sub q x=some d→
    (∀b,S b→ar.heap[b]? =w.heap[b]?)→
    b_ ar q x ((cs.drop (I.cI (aj.take k))).take x.wd) (a.map fun l=>(l.1,l.2+I.cI (aj.take k)))=b_ w q x ((cs.drop (I.cI (aj.take k))).take x.wd) (a.map fun l=>(l.1,l.2+I.cI (aj.take k))):=by
   intro aj cs S a x d h ai ae a_
   obtain⟨bD,dN,c2,bk,fe,rfl,e6,d_,eW,fA,dU,jh⟩:=aL.pick aj cs S k x h ai
   rw[oP bD dN c2 _ _ e6 (ak.length _ _ _ dU)]
   exact ih x dN fe _ d dU ae (fun b J=>a_ b (eW _ J))
  intro av cs S a d h ae a_
  cases av with
  |agg aj=>
   simp only[I.sub]at ae
   split at ae
   ·rename_i x ai
    rw[ak]at h
    simp only[b_,ai]
    exact fields aj cs S a x d h ai ae a_
   ·cases ae
  |tuple aj=>
   simp only[I.sub]at ae
   split at ae
   ·rename_i x ai
    rw[ak]at h
    simp only[b_,ai]
    exact fields aj cs S a x d h ai ae a_
   ·cases ae
  |aG sz xs=>
   simp only[I.sub]at ae
   split at ae
   ·rename_i x ai
    rw[ak]at h
    rcases h with⟨rfl,_,rfl⟩|⟨b,cap,cur,e,fr,cp,rfl,ab,aB,aP,bb,bQ,bT,dt,eF,eZ,iJ⟩
    ·simp at ai
    ·obtain⟨bD,dN,c2,bk,fe,p,e6,d_,eW,fA,dU,jh⟩:=aL.pick xs _ cp k x eF ai
     have aI:=ak.length _ _ _ dU
     have Gu:k<xs.length:=(List.getElem?_eq_some_iff.1 ai).1
     have rL:x.wd=sz:=dt x (List.mem_of_getElem? ai)
     have bH:I.cI (xs.take k)=k*sz:=by
      rw[oR _ (fun d ae=>dt d (List.mem_of_mem_take ae))]
      rw[List.length_take,Nat.min_eq_left (by omega)]
     obtain⟨mN,ia⟩:∃mN,cur.toList=bD++(dN++(c2++mN)):=by
      refine⟨cur.toList.drop (xs.length*sz),?_⟩
      have:=(List.take_append_drop (xs.length*sz) cur.toList).symm
      rw[p]at this
      simpa using this
     have gQ:kh w b (k*sz) sz=dN:=by
      have:=p4 aB ia
      rwa [e6,bH,aI,rL]at this
     have wU:kh ar b (k*sz) sz=dN:=by
      have:=p4 ((a_ b ab).trans aB) ia
      rwa [e6,bH,aI,rL]at this
     simp only[b_,ai,gQ,wU]
     exact ih x dN fe _ d dU ae (fun c af=>a_ c (eZ _ (eW _ af)))
   ·cases ae
  |bG x=>
   cases k with
   |succ k=>simp[I.sub]at ae
   |zero=>
    simp only[I.sub]at ae
    rw[ak]at h
    obtain⟨b,cur,e,fr,cp,rfl,ab,aB,aP,bb,bQ,bT⟩:=h
    have aI:=ak.length _ _ _ bb
    have gQ:kh w b 0 x.wd=cur.toList:=by
     have:=p4 (l:=[]) (m:=cur.toList) (r:=[]) aB (by simp)
     rwa [aI]at this
    have wU:kh ar b 0 x.wd=cur.toList:=by
     have:=p4 (l:=[]) (m:=cur.toList) (r:=[]) ((a_ b ab).trans aB) (by simp)
     rwa [aI]at this
    simp only[b_,gQ,wU]
    exact ih x cur.toList cp _ d bb ae (fun c af=>a_ c (bQ _ af))
  |_=>simp[I.sub]at ae
def ff:Value→List Value
 | .agg cs=>cs.toList
 |v=>[v]
def bs:Value→List Value
 | .tuple vs=>vs.toList.flatMap ff
 |v=>ff v
def fB:I→Value→Prop
 | .agg _,v=>∃arr,v= .agg arr
 |_,v=>Value.ep v=true
def cA:I→Value→Prop
 | .tuple ds,v=>∃arr:Array Value,v= .tuple arr∧arr.size=ds.length∧∀(k:Nat) (d:I) (x:Value),ds[k]? =some d→arr[k]? =some x→fB d x∧(∀vs,d≠.tuple vs)∧(ff x).length=d.wd
 |d,v=>fB d v
abbrev ag:=Nat→I
mutual
def au (w:World) (F:Nat→Prop) (s:ag) (an:Nat→Value):I→Value→(Nat→Prop)→Prop
 | .hole,_,_=>True
 | .h x q,v,_=>∀d,I.sub q (s x)=some d→d.plain=false→∃bK a,b_ w q (s x) (bs (an x)) none=some (d,bK,a)∧bs v=bK∧cA d v
 | .ah x q,v,_=>∀d,I.sub q (s x)=some d→I.dD q (s x)=true→∃bK b o,b_ w q (s x) (bs (an x)) none=some (d,bK,some (b,o))∧v= .pointer (some ⟨b,o,none⟩)
 | .J x k,v,_=>(s x).plain=false→∃b cur e fr,v= .pointer (some ⟨b,k,none⟩)∧F b∧w.heap[b]? =some (.cells cur e fr)∧cur.toList=bs (an x)
 | .fn f cap,v,_=>∃arr:Array Value,v= .func (.func f) #[] arr∧cG w F s an cap arr.toList
 | .bool b,v,S=>cA (.bool b) v∧ak w F (.bool b) (bs v) S
 | .di,v,S=>cA .di v∧ak w F .di (bs v) S
 | .int k n,v,S=>cA (.int k n) v∧ak w F (.int k n) (bs v) S
 | .str x,v,S=>cA (.str x) v∧ak w F (.str x) (bs v) S
 | .cw,v,S=>cA .cw v∧ak w F .cw (bs v) S
 | .bu,v,S=>cA .bu v∧ak w F .bu (bs v) S
 | .slice xs,v,S=>cA (.slice xs) v∧ak w F (.slice xs) (bs v) S
 | .aG sz xs,v,S=>cA (.aG sz xs) v∧ak w F (.aG sz xs) (bs v) S
 | .ref d,v,S=>cA (.ref d) v∧ak w F (.ref d) (bs v) S
 | .bG d,v,S=>cA (.bG d) v∧ak w F (.bG d) (bs v) S
 | .agg d,v,S=>cA (.agg d) v∧ak w F (.agg d) (bs v) S
 | .tuple d,v,S=>cA (.tuple d) v∧ak w F (.tuple d) (bs v) S
 | .b9 o,v,S=>cA (.b9 o) v∧ak w F (.b9 o) (bs v) S
def cG (w:World) (F:Nat→Prop) (s:ag) (an:Nat→Value):List I→List Value→Prop
 |[],vs=>vs=[]
 |d::ds,vs=>∃v gI,vs=v::gI∧au w F s an d v (fun _=>False)∧cG w F s an ds gI
end
def I.tree:I→Bool
 | .hole=>false
 | .h _ _=>false
 | .ah _ _=>false
 | .J _ _=>false
 | .fn _ _=>false
 |_=>true
theorem au.bB {w:World} {F:Nat→Prop} {s:ag} {an:Nat→Value} {d:I} {v:Value} {S:Nat→Prop} (aK:d.tree=true):
  au w F s an d v S↔(cA d v∧ak w F d (bs v) S):=by
 cases d<;>first|(simp[I.tree]at aK;done)|rw[au]
theorem fg {q:List Nat} {av d:I} (h:I.sub q av=some d) (ah:d.plain=false∨I.dD q av=true):av.tree=true:=by
 cases q with
 |nil=>
  simp[I.sub]at h;subst h
  rcases ah with ah|ah
  ·cases av<;>first|rfl|(simp[I.plain]at ah)
  ·simp[I.dD]at ah
 |cons k q=>cases av<;>first|rfl|(simp[I.sub]at h)
theorem wV {d:I} (h:d.plain=false):d.tree=true:=fg (q:=[]) (by simp only[I.sub]) (.inl h)
theorem au.frame {w ar:World} {F a8:Nat→Prop} {s:ag} {an:Nat→Value} {Sx:Nat→Nat→Prop} (aW:∀b,F b→ar.heap[b]? =w.heap[b]?) (Al:∀b,F b→a8 b)
  (a_:∀x b,Sx x b→ar.heap[b]? =w.heap[b]?) (gR:∀x,au w F s an (s x) (an x) (Sx x)):
  ∀(d:I) (v:Value) (S:Nat→Prop),(∀b,S b→ar.heap[b]? =w.heap[b]?)→au w F s an d v S→au ar a8 s an d v S:=by
 have hD:∀(x:Nat) (q:List Nat) (d:I),I.sub q (s x)=some d→(d.plain=false∨I.dD q (s x)=true)→b_ ar q (s x) (bs (an x)) none=b_ w q (s x) (bs (an x)) none:=by
  intro x q d ae ah
  have aK:=fg ae ah
  have:=gR x
  rw[au.bB aK]at this
  exact tY q _ _ (Sx x) none d this.2 ae (a_ x)
 have Gv:∀(d:I) (v:Value) (S:Nat→Prop),d.tree=true→(∀b,S b→ar.heap[b]? =w.heap[b]?)→au w F s an d v S→au ar a8 s an d v S:=by
  intro d v S aK oS h
  rw[au.bB aK]at h⊢
  exact⟨h.1,ak.mono Al _ _ _ _ (fun _ h=>h) (ak.frame aW _ _ _ oS h.2)⟩
 have step:∀n,(∀(d:I) (v:Value) (S:Nat→Prop),SizeOf.sizeOf d≤n→(∀b,S b→ar.heap[b]? =w.heap[b]?)→au w F s an d v S→au ar a8 s an d v S)∧
   (∀(ds:List I) (vs:List Value),SizeOf.sizeOf ds≤n→cG w F s an ds vs→cG ar a8 s an ds vs):=by
  intro n
  induction n with
  |zero=>
   refine⟨fun d v S bd=> ?_,fun ds vs bd=> ?_⟩
   ·cases d<;>simp at bd<;>omega
   ·cases ds<;>simp at bd<;>omega
  |succ n ih=>
   refine⟨fun d v S bd oS h=> ?_,fun ds vs bd h=> ?_⟩
   ·cases d with
    |hole=>rw[au];trivial
    |h x q=>
     rw[au]at h⊢
     intro d ae ah
     rw[hD x q d ae (.inl ah)]
     exact h d ae ah
    |ah x q=>
     rw[au]at h⊢
     intro d ae ah
     rw[hD x q d ae (.inr ah)]
     exact h d ae ah
    |J x k=>
     rw[au]at h⊢
     intro ah
     obtain⟨b,cur,e,fr,aa,ab,aB,aP⟩:=h ah
     exact⟨b,cur,e,fr,aa,Al b ab,(aW b ab).trans aB,aP⟩
    |fn f cap=>
     rw[au]at h⊢
     obtain⟨arr,rfl,af⟩:=h
     exact⟨arr,rfl,ih.2 _ _ (by simp at bd;omega) af⟩
    |_=>exact Gv _ _ _ rfl oS h
   ·cases ds with
    |nil=>rw[cG]at h⊢;exact h
    |cons d ds=>
     rw[cG]at h⊢
     obtain⟨v,gI,rfl,aa,ab⟩:=h
     simp at bd
     exact⟨v,gI,rfl,ih.1 _ _ _ (by omega) (fun _ h=>h.elim) aa,ih.2 _ _ (by omega) ab⟩
 intro d v S oS h
 exact(step (SizeOf.sizeOf d)).1 d v S (Nat.le_refl _) oS h
mutual
def bP (x:Nat):I→I
 | .h y q=>if y=x then .hole else .h y q
 | .ah y q=>if y=x then .hole else .ah y q
 | .J y k=>if y=x then .hole else .J y k
 | .fn f cap=>.fn f (gm x cap)
 |d=>d
def gm (x:Nat):List I→List I
 |[]=>[]
 |d::ds=>bP x d::gm x ds
end
mutual
def bo (x:Nat):I→I
 | .h y q=>if y=x then(if q=[]then .h y q else .hole)else .h y q
 | .ah y q=>if y=x then .hole else .ah y q
 | .fn f cap=>.fn f (fM x cap)
 |d=>d
def fM (x:Nat):List I→List I
 |[]=>[]
 |d::ds=>bo x d::fM x ds
end
def cf {α:Type} (f:Nat→α) (t:Nat) (v:α):Nat→α:=fun u=>if u=t then v else f u
def iK (t:Nat) (s:ag):ag:=fun u=>bP t (s u)
def fq (t:Nat) (s:ag):ag:=fun u=>bo t (s u)
theorem jL {α:Type} (f:Nat→α) (t:Nat) (v:α):cf f t v t=v:=by simp[cf]
theorem gJ {α:Type} (f:Nat→α) {t u:Nat} (v:α) (h:u≠t):cf f t v u=f u:=by simp[cf,h]
theorem Gw {t:Nat} {d:I} (h:d.tree=true):bP t d=d:=by cases d<;>first|rfl|(simp[I.tree]at h)
theorem wW {t:Nat} {d:I} (h:d.tree=true):bo t d=d:=by cases d<;>first|rfl|(simp[I.tree]at h)
theorem Gx {t:Nat} {d:I} (h:(bP t d).tree=true):d.tree=true∧bP t d=d:=by
 cases d<;>first|exact⟨rfl,rfl⟩|(simp only[bP]at h;first|(split at h<;>simp[I.tree]at h)|simp[I.tree]at h)
theorem tZ {t:Nat} {d:I} (h:(bo t d).tree=true):d.tree=true∧bo t d=d:=by
 cases d<;>first|exact⟨rfl,rfl⟩|(simp only[bo]at h;first|(split at h<;>(try split at h)<;>simp[I.tree]at h)|simp[I.tree]at h)
section
variable {w:World} {F:Nat→Prop} {s ao:ag} {an hk:Nat→Value} {t:Nat}
theorem au.bP (eP:∀x,x≠t→(ao x).tree=true→ao x=s x∧hk x=an x):∀(n:Nat),
  (∀(d:I) (v:Value) (S:Nat→Prop),SizeOf.sizeOf d≤n→au w F s an d v S→au w F ao hk (bZ.bP t d) v S)∧
  (∀(ds:List I) (vs:List Value),SizeOf.sizeOf ds≤n→cG w F s an ds vs→cG w F ao hk (gm t ds) vs):=by
 intro n
 induction n with
 |zero=>
  refine⟨fun d v S bd=> ?_,fun ds vs bd=> ?_⟩
  ·cases d<;>simp at bd<;>omega
  ·cases ds<;>simp at bd<;>omega
 |succ n ih=>
  refine⟨fun d v S bd h=> ?_,fun ds vs bd h=> ?_⟩
  ·cases d with
   |hole=>rw[bZ.bP.eq_def];simp only;rw[au];trivial
   |h x q=>
    simp only[bZ.bP]
    split
    ·rw[au];trivial
    ·rename_i ai
     rw[au]at h⊢
     intro d ae ah
     obtain⟨aF,aJ⟩:=eP x ai (fg ae (.inl ah))
     rw[aF,aJ];rw[aF]at ae
     exact h d ae ah
   |ah x q=>
    simp only[bZ.bP]
    split
    ·rw[au];trivial
    ·rename_i ai
     rw[au]at h⊢
     intro d ae ah
     obtain⟨aF,aJ⟩:=eP x ai (fg ae (.inr ah))
     rw[aF,aJ];rw[aF]at ae ah
     exact h d ae ah
   |J x k=>
    simp only[bZ.bP]
    split
    ·rw[au];trivial
    ·rename_i ai
     rw[au]at h⊢
     intro ah
     obtain⟨aF,aJ⟩:=eP x ai (wV ah)
     rw[aJ];rw[aF]at ah
     exact h ah
   |fn f cap=>
    simp only[bZ.bP]
    rw[au]at h⊢
    obtain⟨arr,rfl,af⟩:=h
    exact⟨arr,rfl,ih.2 _ _ (by simp at bd;omega) af⟩
   |_=>
    rw[Gw (by rfl)]
    exact(au.bB (by rfl)).2 ((au.bB (by rfl)).1 h)
  ·cases ds with
   |nil=>rw[gm,cG];rw[cG]at h;exact h
   |cons d ds=>
    rw[gm,cG];rw[cG]at h
    obtain⟨v,gI,rfl,aa,ab⟩:=h
    simp at bd
    exact⟨v,gI,rfl,ih.1 _ _ _ (by omega) aa,ih.2 _ _ (by omega) ab⟩
theorem au.bo {ar:World} (eP:∀x,x≠t→(ao x).tree=true→ao x=s x∧hk x=an x) (iL:hk t=an t) (hl:(ao t).plain=false→(s t).plain=false∧∀v,cA (s t) v→cA (ao t) v)
  (hD:∀x q d,x≠t→I.sub q (s x)=some d→(d.plain=false∨I.dD q (s x)=true)→b_ ar q (s x) (bs (an x)) none=b_ w q (s x) (bs (an x)) none)
  (aW:∀b,F b→ar.heap[b]? =w.heap[b]?):∀(n:Nat),
  (∀(d:I) (v:Value) (S:Nat→Prop),SizeOf.sizeOf d≤n→(∀b,S b→ar.heap[b]? =w.heap[b]?)→au w F s an d v S→au ar F ao hk (bZ.bo t d) v S)∧
  (∀(ds:List I) (vs:List Value),SizeOf.sizeOf ds≤n→cG w F s an ds vs→cG ar F ao hk (fM t ds) vs):=by
 intro n
 induction n with
 |zero=>
  refine⟨fun d v S bd=> ?_,fun ds vs bd=> ?_⟩
  ·cases d<;>simp at bd<;>omega
  ·cases ds<;>simp at bd<;>omega
 |succ n ih=>
  refine⟨fun d v S bd oS h=> ?_,fun ds vs bd h=> ?_⟩
  ·cases d with
   |hole=>rw[bZ.bo.eq_def];simp only;rw[au];trivial
   |h x q=>
    simp only[bZ.bo]
    split
    ·rename_i ai
     subst ai
     split
     ·rename_i b6
      subst b6
      rw[au]at h⊢
      intro d ae ah
      simp only[I.sub,Option.some.injEq]at ae
      subst ae
      obtain⟨ed,cn⟩:=hl ah
      obtain⟨bK,a,g1,g2,g3⟩:=h (s x) rfl ed
      simp only[b_,Option.some.injEq,Prod.mk.injEq]at g1
      obtain⟨-,g1,X4⟩:=g1
      refine⟨bs (hk x),none,rfl,?_,cn _ g3⟩
      rw[iL,g2,←g1]
     ·rw[au];trivial
    ·rename_i ai
     rw[au]at h⊢
     intro d ae ah
     obtain⟨aF,aJ⟩:=eP x ai (fg ae (.inl ah))
     rw[aF,aJ];rw[aF]at ae
     rw[hD x q d ai ae (.inl ah)]
     exact h d ae ah
   |ah x q=>
    simp only[bZ.bo]
    split
    ·rw[au];trivial
    ·rename_i ai
     rw[au]at h⊢
     intro d ae ah
     obtain⟨aF,aJ⟩:=eP x ai (fg ae (.inr ah))
     rw[aF,aJ];rw[aF]at ae ah
     rw[hD x q d ai ae (.inr ah)]
     exact h d ae ah
   |J x k=>
    simp only[bZ.bo]
    rw[au]at h⊢
    intro ah
    by_cases ai:x=t
    ·subst ai
     obtain⟨b,cur,e,fr,aa,ab,aB,aP⟩:=h (hl ah).1
     exact⟨b,cur,e,fr,aa,ab,(aW b ab).trans aB,by rw[iL];exact aP⟩
    ·obtain⟨aF,aJ⟩:=eP x ai (wV ah)
     rw[aF]at ah
     obtain⟨b,cur,e,fr,aa,ab,aB,aP⟩:=h ah
     exact⟨b,cur,e,fr,aa,ab,(aW b ab).trans aB,by rw[aJ];exact aP⟩
   |fn f cap=>
    simp only[bZ.bo]
    rw[au]at h⊢
    obtain⟨arr,rfl,af⟩:=h
    exact⟨arr,rfl,ih.2 _ _ (by simp at bd;omega) af⟩
   |_=>
    rw[wW (by rfl)]
    have aT:=(au.bB (by rfl)).1 h
    exact(au.bB (by rfl)).2 ⟨aT.1,ak.frame aW _ _ _ oS aT.2⟩
  ·cases ds with
   |nil=>rw[fM,cG];rw[cG]at h;exact h
   |cons d ds=>
    rw[fM,cG];rw[cG]at h
    obtain⟨v,gI,rfl,aa,ab⟩:=h
    simp at bd
    exact⟨v,gI,rfl,ih.1 _ _ _ (by omega) (fun _ h=>h.elim) aa,ih.2 _ _ (by omega) ab⟩
theorem au.void (eP:∀x,x≠t→(ao x).tree=true→ao x=s x∧hk x=an x) (lo:(ao t).plain=true):∀(n:Nat),
  (∀(d:I) (v:Value) (S:Nat→Prop),SizeOf.sizeOf d≤n→au w F s an d v S→au w F ao hk d v S)∧
  (∀(ds:List I) (vs:List Value),SizeOf.sizeOf ds≤n→cG w F s an ds vs→cG w F ao hk ds vs):=by
 intro n
 induction n with
 |zero=>
  refine⟨fun d v S bd=> ?_,fun ds vs bd=> ?_⟩
  ·cases d<;>simp at bd<;>omega
  ·cases ds<;>simp at bd<;>omega
 |succ n ih=>
  refine⟨fun d v S bd h=> ?_,fun ds vs bd h=> ?_⟩
  ·cases d with
   |hole=>rw[au];trivial
   |h x q=>
    rw[au]at h⊢
    intro d ae ah
    by_cases ai:x=t
    ·subst ai
     rw[I.wT _ _ _ lo ae]at ah;cases ah
    ·obtain⟨aF,aJ⟩:=eP x ai (fg ae (.inl ah))
     rw[aF,aJ];rw[aF]at ae
     exact h d ae ah
   |ah x q=>
    rw[au]at h⊢
    intro d ae ah
    by_cases ai:x=t
    ·subst ai
     rw[I.Ak _ _ lo]at ah;cases ah
    ·obtain⟨aF,aJ⟩:=eP x ai (fg ae (.inr ah))
     rw[aF,aJ];rw[aF]at ae ah
     exact h d ae ah
   |J x k=>
    rw[au]at h⊢
    intro ah
    by_cases ai:x=t
    ·subst ai;rw[lo]at ah;cases ah
    ·obtain⟨aF,aJ⟩:=eP x ai (wV ah)
     rw[aJ];rw[aF]at ah
     exact h ah
   |fn f cap=>
    rw[au]at h⊢
    obtain⟨arr,rfl,af⟩:=h
    exact⟨arr,rfl,ih.2 _ _ (by simp at bd;omega) af⟩
   |_=>exact(au.bB (by rfl)).2 ((au.bB (by rfl)).1 h)
  ·cases ds with
   |nil=>rw[cG];rw[cG]at h;exact h
   |cons d ds=>
    rw[cG];rw[cG]at h
    obtain⟨v,gI,rfl,aa,ab⟩:=h
    simp at bd
    exact⟨v,gI,rfl,ih.1 _ _ _ (by omega) aa,ih.2 _ _ (by omega) ab⟩
end
def rO:Bool:=false
def Out (w w0:World):Prop:=w.output=w0.output∧(rO=true→w0.drawn≤w.drawn)
theorem Out.trans {a b c:World} (h:Out a b) (ab:Out b c):Out a c:=⟨Eq.trans h.1 ab.1,fun d=>Nat.le_trans (ab.2 d) (h.2 d)⟩
theorem Out.refl (w:World):Out w w:=⟨rfl,fun _=>Nat.le_refl _⟩
def wX (o:Obj):Prop:=∃az cs e fr,o= .cells cs e fr∧cs[0]? =some az∧(az= .nilIface∨∃wY wZ,az= .iface wY wZ)
def t_ (o:Obj):Prop:=∃e fr,o= .cells ((List.range 20).map fun i=>Value.int .u64 ((10^i:Nat):Int)).toArray e fr
def ua:List (Nat×(Obj→Prop)):=[(4,wX),(0,t_)]
def lY (w:World) (X:Nat→Prop):Prop:=∀p∈ua,p.1<w.heap.size∧¬X p.1∧∃o,w.heap[p.1]? =some o∧p.2 o
theorem lY.next {w ar:World} {X Y:Nat→Prop} (h:lY w X) (U:w.heap.size≤ar.heap.size) (J:∀b,b<w.heap.size→¬X b→ar.heap[b]? =w.heap[b]?) (hy:∀b,Y b→X b∨w.heap.size≤b):lY ar Y:=fun p ah=>by
 obtain⟨aa,ab,o,aB,aP⟩:=h p ah
 refine⟨Nat.lt_of_lt_of_le aa U,fun h=> ?_,o,(J _ aa ab).trans aB,aP⟩
 rcases hy _ h with h|h
 ·exact ab h
 ·omega
structure a1 (w0:World) (F0 X F:Nat→Prop) (S:Nat→Nat→Prop) (s:ag) (an:Nat→Value) (w:World):Prop where
 eB:∀b,F0 b→F b
 eQ:∀b,F b→F0 b∨X b∨w0.heap.size≤b
 de:∀b,F b→b<w.heap.size
 cV:∀t b,S t b→b<w.heap.size
 dy:∀t b,S t b→¬F b
 dm:∀t u b,t≠u→S t b→¬S u b
 cp:∀t b,S t b→X b∨w0.heap.size≤b
 b2:∀t,au w F s an (s t) (an t) (S t)
 old:∀b,b<w0.heap.size→¬X b→w.heap[b]? =w0.heap[b]?
 size:w0.heap.size≤w.heap.size
 os:w.os=w0.os
 tape:w.tape=w0.tape
 output:Out w w0
 dW:lY w0 X
section
variable {w0 w ar:World} {F0 X F:Nat→Prop} {S:Nat→Nat→Prop} {s:ag} {an:Nat→Value}
theorem a1.grow (h:a1 w0 F0 X F S s an w) (J:∀b,b<w.heap.size→ar.heap[b]? =w.heap[b]?) (U:w.heap.size≤ar.heap.size)
  (aa:ar.os=w.os) (ab:ar.tape=w.tape) (aB:Out ar w):a1 w0 F0 X F S s an ar where
 eB:=h.eB
 eQ:=h.eQ
 de:=fun b aW=>Nat.lt_of_lt_of_le (h.de b aW) U
 cV:=fun t b aW=>Nat.lt_of_lt_of_le (h.cV t b aW) U
 dy:=h.dy
 dm:=h.dm
 cp:=h.cp
 b2:=fun t=>au.frame (Sx:=S) (fun b aW=>J b (h.de b aW)) (fun _ h=>h) (fun x b a_=>J b (h.cV x b a_)) h.b2 _ _ _ (fun b a_=>J b (h.cV t b a_)) (h.b2 t)
 old:=fun b cJ gn=>(J b (Nat.lt_of_lt_of_le cJ h.size)).trans (h.old b cJ gn)
 size:=Nat.le_trans h.size U
 os:=aa.trans h.os
 tape:=ab.trans h.tape
 output:=aB.trans h.output
 dW:=h.dW
def ei (S:Nat→Nat→Prop) (t:Nat) (Sn:Nat→Prop):Nat→Nat→Prop:=fun u b=>if u=t then Sn b else S u b
theorem rP (S:Nat→Nat→Prop) (t:Nat) (Sn:Nat→Prop):ei S t Sn t=Sn:=by funext b;simp[ei]
theorem rQ (S:Nat→Nat→Prop) {t u:Nat} (Sn:Nat→Prop) (h:u≠t):ei S t Sn u=S u:=by funext b;simp[ei,h]
theorem a1.rR (h:a1 w0 F0 X F S s an w) {t:Nat} {d:I} {v:Value} (ah:d.plain=true) (ae:au w F s an d v (fun _=>False)):
  a1 w0 F0 X F (ei S t (fun _=>False)) (cf s t d) (cf an t v) w where
 eB:=h.eB
 eQ:=h.eQ
 de:=h.de
 cV:=fun u b J=>by simp only[ei]at J;split at J;exact J.elim;exact h.cV u b J
 dy:=fun u b J=>by simp only[ei]at J;split at J;exact J.elim;exact h.dy u b J
 dm:=fun u x b cj J ai=>by
  simp only[ei]at J ai
  split at J
  ·exact J.elim
  ·split at ai
   ·exact ai.elim
   ·exact h.dm u x b cj J ai
 cp:=fun u b J=>by simp only[ei]at J;split at J;exact J.elim;exact h.cp u b J
 b2:=fun u=>by
  have eP:∀x,x≠t→(cf s t d x).tree=true→cf s t d x=s x∧cf an t v x=an x:=fun x ai _=>⟨gJ _ _ ai,gJ _ _ ai⟩
  have lo:(cf s t d t).plain=true:=by rw[jL];exact ah
  by_cases hu:u=t
  ·subst hu
   rw[jL,jL,rP]
   exact(au.void eP lo _).1 _ _ _ (Nat.le_refl _) ae
  ·rw[gJ _ _ hu,gJ _ _ hu,rQ _ _ hu]
   exact(au.void eP lo _).1 _ _ _ (Nat.le_refl _) (h.b2 u)
 old:=h.old
 size:=h.size
 os:=h.os
 tape:=h.tape
 output:=h.output
 dW:=h.dW
theorem a1.Am (h:a1 w0 F0 X F S s an w) {t:Nat} {d:I} {v:Value} {Sn:Nat→Prop} (ae:d.tree=true) (U:cA d v) (aD:ak w F d (bs v) Sn)
  (cJ:∀b,Sn b→b<w.heap.size) (aW:∀b,Sn b→¬F b) (a_:∀u b,u≠t→Sn b→¬S u b) (bl:∀b,Sn b→X b∨w0.heap.size≤b):
  a1 w0 F0 X F (ei S t Sn) (cf (iK t s) t d) (cf an t v) w where
 eB:=h.eB
 eQ:=h.eQ
 de:=h.de
 cV:=fun u b J=>by simp only[ei]at J;split at J;exact cJ b J;exact h.cV u b J
 dy:=fun u b J=>by simp only[ei]at J;split at J;exact aW b J;exact h.dy u b J
 dm:=fun u x b cj J ai=>by
  simp only[ei]at J ai
  split at J
  ·rename_i hu
   rw[if_neg (fun e=>cj (hu.trans e.symm))]at ai
   exact a_ x b (fun e=>cj (hu.trans e.symm)) J ai
  ·rename_i hu
   split at ai
   ·exact a_ u b hu ai J
   ·exact h.dm u x b cj J ai
 cp:=fun u b J=>by simp only[ei]at J;split at J;exact bl b J;exact h.cp u b J
 b2:=fun u=>by
  have eP:∀x,x≠t→(cf (iK t s) t d x).tree=true→cf (iK t s) t d x=s x∧cf an t v x=an x:=fun x ai aK=>by
   rw[gJ _ _ ai]at aK⊢
   exact⟨(Gx aK).2,gJ _ _ ai⟩
  by_cases hu:u=t
  ·subst hu
   rw[jL,jL,rP]
   exact(au.bB ae).2 ⟨U,aD⟩
  ·rw[gJ _ _ hu,gJ _ _ hu,rQ _ _ hu]
   exact(au.bP eP _).1 _ _ _ (Nat.le_refl _) (h.b2 u)
 old:=h.old
 size:=h.size
 os:=h.os
 tape:=h.tape
 output:=h.output
 dW:=h.dW
theorem nQ (k:Nat) (q:List Nat) (aX x:I):(∃aj gs,x= .agg aj∧I.put (k::q) aX x= .agg gs)∨(∃aj gs,x= .tuple aj∧I.put (k::q) aX x= .tuple gs)∨
  (∃sz xs bA,x= .aG sz xs∧I.put (k::q) aX x= .aG sz bA)∨(∃y z,x= .bG y∧I.put (k::q) aX x= .bG z)∨I.put (k::q) aX x=x:=by
 cases x with
 |agg aj=>simp only[I.put];split<;>exact .inl ⟨_,_,rfl,rfl⟩
 |tuple aj=>simp only[I.put];split<;>exact .inr (.inl ⟨_,_,rfl,rfl⟩)
 |aG sz aj=>simp only[I.put];split<;>exact .inr (.inr (.inl ⟨_,_,_,rfl,rfl⟩))
 |bG y=>cases k<;>exact .inr (.inr (.inr (.inl ⟨_,_,rfl,rfl⟩)))
 |_=>exact .inr (.inr (.inr (.inr rfl)))
theorem An {k:Nat} {q:List Nat} {aX x:I} {v:Value} (h:fB x v):fB (I.put (k::q) aX x) v:=by
 rcases nQ k q aX x with⟨aj,gs,rfl,e⟩|⟨aj,gs,rfl,e⟩|⟨sz,xs,bA,rfl,e⟩|⟨y,z,rfl,e⟩|e<;>rw[e]<;>exact h
theorem Ao {k:Nat} {q:List Nat} {aX x:I} (h:∀vs,x≠.tuple vs):∀vs,I.put (k::q) aX x≠.tuple vs:=by
 rcases nQ k q aX x with⟨aj,gs,rfl,e⟩|⟨aj,gs,rfl,e⟩|⟨sz,xs,bA,rfl,e⟩|⟨y,z,rfl,e⟩|e<;>rw[e]<;>first|exact h|(intro vs aT;cases aT;done)|exact(h _ rfl).elim
theorem rS {k:Nat} {q:List Nat} {d aX av:I} {v:Value} (h:cA av v) (ae:I.sub (k::q) av=some d) (aa:∀v,fB d v→fB aX v) (ab:(∀vs,d≠.tuple vs)→∀vs,aX≠.tuple vs) (aB:aX.wd=d.wd):
  cA (I.put (k::q) aX av) v:=by
 cases av with
 |tuple aj=>
  simp only[I.sub]at ae
  split at ae
  ·rename_i x ai
   simp only[I.put,ai]
   simp only[cA]at h⊢
   obtain⟨arr,rfl,bd,gR⟩:=h
   refine⟨arr,rfl,by simpa using bd,fun j e y he hy=> ?_⟩
   rw[List.getElem?_set]at he
   split at he
   ·rename_i w1
    subst w1
    split at he
    ·simp only[Option.some.injEq]at he
     subst he
     obtain⟨g1,g2,g3⟩:=gR k x y ai hy
     refine⟨?_,?_,g3.trans (I.p3 q x d aX ae aB).symm⟩
     ·cases q with
      |nil=>
       simp only[I.sub,Option.some.injEq]at ae
       subst ae
       exact aa _ g1
      |cons bw q=>exact An g1
     ·cases q with
      |nil=>
       simp only[I.sub,Option.some.injEq]at ae
       subst ae
       exact ab g2
      |cons bw q=>exact Ao g2
    ·cases he
   ·exact gR j e y he hy
  ·cases ae
 |agg aj=>simp only[I.put];split<;>exact h
 |aG sz aj=>simp only[I.put];split<;>exact h
 |bG y=>cases k<;>exact h
 |_=>exact h
theorem w2 {d:I} {v:Value} (h:fB d v):fB d.b0 v:=by cases d<;>exact h
theorem Ap {s:ag} {x:Nat} {q:List Nat} {d:I} (ae:I.sub q (s x)=some d) (ah:d.plain=false):
  (cf (fq x s) x (I.put q d.b0 (s x)) x).plain=false→(s x).plain=false∧∀v,cA (s x) v→cA (cf (fq x s) x (I.put q d.b0 (s x)) x) v:=by
  rw[jL]
  intro e0
  cases q with
  |nil=>
   exfalso
   have:∀d:I,d.b0.plain=true:=by
    intro d
    have key:∀n,(∀d:I,SizeOf.sizeOf d≤n→d.b0.plain=true)∧(∀ds:List I,SizeOf.sizeOf ds≤n→I.dV (I.ib ds)=true):=by
     intro n
     induction n with
     |zero=>exact⟨fun d bd=>by cases d<;>simp at bd<;>omega,fun ds bd=>by cases ds<;>simp at bd<;>omega⟩
     |succ n ih=>
      refine⟨fun d bd=> ?_,fun ds bd=> ?_⟩
      ·cases d with
       |agg aj=>simp only[I.b0,I.plain];exact ih.2 _ (by simp at bd;omega)
       |tuple aj=>simp only[I.b0,I.plain];exact ih.2 _ (by simp at bd;omega)
       |_=>rfl
      ·cases ds with
       |nil=>rfl
       |cons d ds=>
        simp at bd
        simp only[I.ib,I.dV,Bool.and_eq_true]
        exact⟨ih.1 _ (by omega),ih.2 _ (by omega)⟩
    exact(key _).1 d (Nat.le_refl _)
   simp only[I.put]at e0
   rw[this]at e0
   cases e0
  |cons k q=>
   refine⟨?_,fun v aD=>rS aD ae (fun v h=>w2 h) (fun h vs e=> ?_) (I.nP d)⟩
   ·cases rT:(s x).plain with
    |false=>rfl
    |true=>rw[I.wT _ _ _ rT ae]at ah;cases ah
   ·cases d<;>first|(exact h _ rfl)|(simp[I.b0]at e)
theorem a1.take (h:a1 w0 F0 X F S s an w) {x:Nat} {q:List Nat} {d:I} (ae:I.sub q (s x)=some d) (ah:d.plain=false):
  ∃(Sn dx:Nat→Prop) (bK:List Value) (a:Option (Nat×Nat)),a1 w0 F0 X F (ei S x Sn) (cf (fq x s) x (I.put q d.b0 (s x))) an w∧
   b_ w q (s x) (bs (an x)) none=some (d,bK,a)∧ak w F d bK dx∧(∀b,dx b→S x b)∧(∀b,Sn b→S x b)∧(∀b,dx b→¬Sn b)∧
   (∀(aX:I) (v:Value) (aE:Nat→Prop),au w F s an aX v aE→au w F (cf (fq x s) x (I.put q d.b0 (s x))) an (bZ.bo x aX) v aE):=by
 have aK:=fg ae (.inl ah)
 have ai:=h.b2 x
 rw[au.bB aK]at ai
 obtain⟨bK,a,cK,dx,g0,g1,g2,g3,g4,g5⟩:=ctx q (s x) (bs (an x)) (S x) none d ai.2 ae
 have hj:ak w F (I.put q d.b0 (s x)) (bs (an x)) cK:=by
  have fs:ak w F d.b0 bK (fun _=>False):=ak.b0 _ _ _ _ g4
  have lZ:∀b,(cK b∨False)→cK b:=fun b h=>h.elim id False.elim
  rcases g5 with⟨l,r,aF,aJ,aN⟩|⟨b,cur,e,fr,l,r,aF,aJ,aN,bt,bN,bh⟩
  ·have:=aN w _ bK _ (fun _ _=>rfl) (fun _ _=>rfl) (I.nP d) fs (fun _ h=>h.elim)
   rw[←aF]at this
   exact ak.mono (fun _ h=>h) _ _ _ _ lZ this
  ·have:=bh w _ bK _ (fun _ _=>rfl) (fun _ _ _=>rfl) (by rw[aN,←bN]) (I.nP d) fs (fun _ h=>h.elim)
   exact ak.mono (fun _ h=>h) _ _ _ _ lZ this
 have Gy:cA (I.put q d.b0 (s x)) (an x)∧(I.put q d.b0 (s x)).tree=true∨I.put q d.b0 (s x)= .hole:=by
  cases q with
  |nil=>
   simp only[I.sub,Option.some.injEq]at ae
   subst ae
   simp only[I.put]
   cases U:s x with
   |aG sz xs=>right;rfl
   |bG y=>right;rfl
   |b9 y=>right;rfl
   |agg aj=>left;rw[U]at ai;exact⟨ai.1,rfl⟩
   |tuple aj=>
    left
    rw[U]at ai
    refine⟨?_,rfl⟩
    simp only[cA,I.b0]at ai⊢
    obtain⟨arr,e,bd,gR⟩:=ai.1
    have aI:∀aj:List I,I.ib aj=aj.map I.b0:=by
     intro aj;induction aj with
     |nil=>rfl
     |cons a aj ih=>simp[I.ib,ih]
    refine⟨arr,e,by rw[aI];simpa using bd,fun k eA y he hy=> ?_⟩
    rw[aI,List.getElem?_map]at he
    cases al:aj[k]? with
    |none=>rw[al]at he;cases he
    |some z=>
     rw[al]at he
     simp only[Option.map_some,Option.some.injEq]at he
     subst he
     obtain⟨g1,g2,g3⟩:=gR k z y al hy
     refine⟨w2 g1,fun vs e=> ?_,g3.trans (I.nP z).symm⟩
     cases z<;>first|(exact g2 _ rfl)|(simp[I.b0]at e)
   |_=>rw[U]at ah;simp[I.plain]at ah
  |cons k q=>
   left
   refine⟨rS ai.1 ae (fun v h=>w2 h) (fun h vs e=> ?_) (I.nP d),?_⟩
   ·cases d<;>first|(exact h _ rfl)|(simp[I.b0]at e)
   ·rcases nQ k q d.b0 (s x)with⟨aj,gs,aF,e⟩|⟨aj,gs,aF,e⟩|⟨sz,xs,bA,aF,e⟩|⟨y,z,aF,e⟩|e<;>rw[e]<;>first|rfl|exact aK
 refine⟨cK,dx,bK,a,?_,g0,g4,g2,g1,fun b aa ab=>g3 b ab aa,?_⟩
 rotate_left
 ·have eP:∀y,y≠x→(cf (fq x s) x (I.put q d.b0 (s x)) y).tree=true→cf (fq x s) x (I.put q d.b0 (s x)) y=s y∧an y=an y:=fun y hy aK=>by
   rw[gJ _ _ hy]at aK⊢
   exact⟨(tZ aK).2,rfl⟩
  intro aX v aE eV
  exact(au.bo eP rfl (Ap ae ah) (fun _ _ _ _ _ _=>rfl) (fun _ _=>rfl) _).1 _ _ _ (Nat.le_refl _) (fun _ _=>rfl) eV
 have eP:∀y,y≠x→(cf (fq x s) x (I.put q d.b0 (s x)) y).tree=true→cf (fq x s) x (I.put q d.b0 (s x)) y=s y∧an y=an y:=fun y hy aK=>by
  rw[gJ _ _ hy]at aK⊢
  exact⟨(tZ aK).2,rfl⟩
 have hl:=Ap (s:=s) (x:=x) ae ah
 constructor
 case eB=>exact h.eB
 case eQ=>exact h.eQ
 case de=>exact h.de
 case cV=>exact fun u b J=>by simp only[ei]at J;split at J;exact h.cV x b (g1 b J);exact h.cV u b J
 case dy=>exact fun u b J=>by simp only[ei]at J;split at J;exact h.dy x b (g1 b J);exact h.dy u b J
 case dm=>
  intro u y b cj J hy
  simp only[ei]at J hy
  split at J
  ·rename_i hu
   rw[if_neg (fun e=>cj (hu.trans e.symm))]at hy
   exact h.dm x y b (fun e=>cj (hu.trans e)) (g1 b J) hy
  ·rename_i hu
   split at hy
   ·exact h.dm u x b hu J (g1 b hy)
   ·exact h.dm u y b cj J hy
 case cp=>exact fun u b J=>by simp only[ei]at J;split at J;exact h.cp x b (g1 b J);exact h.cp u b J
 case b2=>
  intro u
  by_cases hu:u=x
  ·subst hu
   rw[jL,rP]
   rcases Gy with⟨aF,aJ⟩|e
   ·exact(au.bB aJ).2 ⟨aF,hj⟩
   ·rw[e,au];trivial
  ·rw[gJ _ _ hu,rQ _ _ hu]
   exact(au.bo eP rfl hl (fun _ _ _ _ _ _=>rfl) (fun _ _=>rfl) _).1 _ _ _ (Nat.le_refl _) (fun _ _=>rfl) (h.b2 u)
 case old=>exact h.old
 case size=>exact h.size
 case os=>exact h.os
 case tape=>exact h.tape
 case output=>exact h.output
 case dW=>exact h.dW
theorem a1.store (h:a1 w0 F0 X F S s an w) {x:Nat} {q:List Nat} {d aX:I} (ae:I.sub q (s x)=some d) (af:I.dD q (s x)=true)
  {dO:List Value} {Sn:Nat→Prop} (aD:ak w F aX dO Sn) (hC:aX.wd=d.wd)
  (cJ:∀b,Sn b→b<w.heap.size) (aW:∀b,Sn b→¬F b) (a_:∀u b,Sn b→¬S u b) (bl:∀b,Sn b→X b∨w0.heap.size≤b):
  ∃(bK:List Value) (b:Nat) (l r:List Value) (cur:Array Value) (e:TypeId) (fr:Nat×Nat),b_ w q (s x) (bs (an x)) none=some (d,bK,some (b,l.length))∧
   w.heap[b]? =some (.cells cur e fr)∧cur.toList=l++(bK++r)∧nO fr cur.size∧
   ∀ar,ar.heap[b]? =some (.cells (l++(dO++r)).toArray e fr)→(∀c,c≠b→ar.heap[c]? =w.heap[c]?)→ar.heap.size=w.heap.size→ar.os=w.os→ar.tape=w.tape→Out ar w→
    ∃aE,a1 w0 F0 X F aE (cf (fq x s) x (I.put q aX (s x))) an ar:=by
 have aK:=fg ae (.inr af)
 have ai:=h.b2 x
 rw[au.bB aK]at ai
 obtain⟨bK,a,cK,dx,g0,g1,g2,g3,g4,g5⟩:=ctx q (s x) (bs (an x)) (S x) none d ai.2 ae
 have Gz:Deep w F q (s x) (bs (an x)) d bK a cK:=by
  rcases g5 with⟨l,r,aF,aJ,aN⟩|g5
  ·exfalso
   have hO:∀(q:List Nat) (av:I) (cs:List Value) (a0:Option (Nat×Nat)) (d:I) (bK:List Value),I.dD q av=true→b_ w q av cs a0=some (d,bK,none)→False:=by
    intro q
    induction q with
    |nil=>intro av cs a0 d bK af;simp[I.dD]at af
    |cons k q ih=>
     have Aq:∀(q:List Nat) (av:I) (cs:List Value) (l:Nat×Nat) (d:I) (bK:List Value),b_ w q av cs (some l)=some (d,bK,none)→False:=by
      intro q
      induction q with
      |nil=>intro av cs l d bK h;simp[b_]at h
      |cons k q ub=>
       intro av cs l d bK h
       cases av with
       |agg aj=>rw[b_]at h;split at h;exact ub _ _ _ _ _ h;cases h
       |tuple aj=>rw[b_]at h;split at h;exact ub _ _ _ _ _ h;cases h
       |aG sz xs=>simp only[b_]at h;split at h;exact ub _ _ _ _ _ h;cases h
       |bG y=>
        cases k with
        |zero=>rw[b_.eq_def]at h;simp only at h;split at h;exact ub _ _ _ _ _ h;cases h
        |succ k=>rw[show b_ w ((k+1)::q) (.bG y) cs (some l)=none from rfl]at h;cases h
       |_=>simp[b_]at h
     intro av cs a0 d bK af h
     cases av with
     |agg aj=>
      simp only[I.dD]at af
      split at af
      ·rename_i y hy
       simp only[b_,hy]at h
       exact ih _ _ _ _ _ af h
      ·cases af
     |tuple aj=>
      simp only[I.dD]at af
      split at af
      ·rename_i y hy
       simp only[b_,hy]at h
       exact ih _ _ _ _ _ af h
      ·cases af
     |aG sz xs=>simp only[b_]at h;split at h;exact Aq _ _ _ _ _ _ h;cases h
     |bG y=>
      cases k with
      |zero=>rw[b_.eq_def]at h;simp only at h;split at h;exact Aq _ _ _ _ _ _ h;cases h
      |succ k=>rw[show b_ w ((k+1)::q) (.bG y) cs a0=none from rfl]at h;cases h
     |_=>simp[I.dD]at af
   simp only[Option.map_none]at aJ
   subst aJ
   exact hO _ _ _ _ _ _ af g0
  ·exact g5
 obtain⟨b,cur,e,fr,l,r,rfl,aJ,aN,bt,bN,bh⟩:=Gz
 refine⟨bK,b,l,r,cur,e,fr,g0,aN,bN,bt,?_⟩
 intro ar ji kH cO w3 w4 oT
 have oU:S x b:=g1 _ aJ
 have l0:∀c,F c→ar.heap[c]? =w.heap[c]? :=fun c af=>kH c (by rintro rfl;exact h.dy x _ oU af)
 have X5:dO.length=bK.length:=by rw[ak.length _ _ _ aD,ak.length _ _ _ g4,hC]
 have hj:=bh ar aX dO Sn l0 (fun c _ cj=>kH c cj) ji hC
  (ak.frame l0 _ _ _ (fun c af=>kH c (by rintro rfl;exact a_ x _ af oU)) aD) (fun c af lZ=>a_ x c af (g1 _ lZ))
 obtain⟨k,fN,rfl⟩:∃k fN,q=k::fN:=by
  cases q with
  |nil=>simp[I.dD]at af
  |cons k q=>exact⟨k,q,rfl⟩
 have rU:∀v,cA (s x) v→cA (I.put (k::fN) aX (s x)) v:=by
  intro v aD
  rcases nQ k fN aX (s x)with⟨aj,gs,aF,e⟩|⟨aj,gs,aF,e⟩|⟨sz,xs,bA,aF,e⟩|⟨y,z,aF,e⟩|e
  ·rw[e];rw[aF]at aD;exact aD
  ·
   rw[aF]at aD ae af⊢
   simp only[I.dD]at af
   split at af
   ·rename_i y hy
    simp only[I.put,hy]
    cases fN with
    |nil=>simp[I.dD]at af
    |cons bw er=>
     simp only[cA]at aD⊢
     obtain⟨arr,rfl,bd,gR⟩:=aD
     refine⟨arr,rfl,by simpa using bd,fun j e hP he oV=> ?_⟩
     rw[List.getElem?_set]at he
     split at he
     ·rename_i w1
      subst w1
      split at he
      ·simp only[Option.some.injEq]at he
       subst he
       obtain⟨g1,g2,g3⟩:=gR _ y hP hy oV
       simp only[I.sub,hy]at ae
       exact⟨An g1,Ao g2,g3.trans (I.p3 (bw::er) y d aX ae hC).symm⟩
      ·cases he
     ·exact gR j e hP he oV
   ·cases af
  ·rw[e];rw[aF]at aD;exact aD
  ·rw[e];rw[aF]at aD;exact aD
  ·rw[e];exact aD
 have GA:(I.put (k::fN) aX (s x)).tree=true:=by
  rcases nQ k fN aX (s x)with⟨aj,gs,aF,e⟩|⟨aj,gs,aF,e⟩|⟨sz,xs,bA,aF,e⟩|⟨y,z,aF,e⟩|e<;>rw[e]<;>first|rfl|exact aK
 let ao:=cf (fq x s) x (I.put (k::fN) aX (s x))
 have eP:∀y,y≠x→(ao y).tree=true→ao y=s y∧an y=an y:=fun y hy aK=>by
  have e:ao y=bo x (s y):=gJ _ _ hy
  rw[e]at aK⊢
  exact⟨(tZ aK).2,rfl⟩
 have hl:(ao x).plain=false→(s x).plain=false∧∀v,cA (s x) v→cA (ao x) v:=by
  intro _
  refine⟨?_,?_⟩
  ·cases rT:(s x).plain with
   |false=>rfl
   |true=>rw[I.Ak _ _ rT]at af;cases af
  ·simp only[ao,jL];exact rU
 refine⟨ei S x (fun c=>cK c∨Sn c),?_⟩
 constructor
 case eB=>exact h.eB
 case eQ=>exact h.eQ
 case de=>exact fun b J=>by rw[cO];exact h.de b J
 case cV=>
  intro u c J
  rw[cO]
  simp only[ei]at J
  split at J
  ·rcases J with J|J
   ·exact h.cV x c (g1 c J)
   ·exact cJ c J
  ·exact h.cV u c J
 case dy=>
  intro u c J
  simp only[ei]at J
  split at J
  ·rcases J with J|J
   ·exact h.dy x c (g1 c J)
   ·exact aW c J
  ·exact h.dy u c J
 case dm=>
  intro u y c cj J hy
  simp only[ei]at J hy
  split at J
  ·rename_i hu
   rw[if_neg (fun e=>cj (hu.trans e.symm))]at hy
   rcases J with J|J
   ·exact h.dm x y c (fun e=>cj (hu.trans e)) (g1 c J) hy
   ·exact a_ y c J hy
  ·rename_i hu
   split at hy
   ·rcases hy with hy|hy
    ·exact h.dm u x c hu J (g1 c hy)
    ·exact a_ u c hy J
   ·exact h.dm u y c cj J hy
 case cp=>
  intro u c J
  simp only[ei]at J
  split at J
  ·rcases J with J|J
   ·exact h.cp x c (g1 c J)
   ·exact bl c J
  ·exact h.cp u c J
 case b2=>
  intro u
  by_cases hu:u=x
  ·subst hu
   rw[jL,rP]
   exact(au.bB GA).2 ⟨rU _ ai.1,hj⟩
  ·rw[gJ _ _ hu,rQ _ _ hu]
   have cj:∀y c,y≠x→S y c→ar.heap[c]? =w.heap[c]? :=fun y c hy af=>kH c (by rintro rfl;exact h.dm y x c hy af oU)
   refine(au.bo eP rfl hl (fun y er d2 hy e7 rV=> ?_) l0 _).1 _ _ _ (Nat.le_refl _) (fun c af=>cj u c hu af) (h.b2 u)
   have rW:=h.b2 y
   rw[au.bB (fg e7 rV)]at rW
   exact tY er _ _ _ none d2 rW.2 e7 (fun c af=>cj y c hy af)
 case old=>
  intro c cJ gn
  by_cases p5:c=b
  ·subst p5
   exfalso
   rcases h.cp x c oU with fs|fs
   ·exact gn fs
   ·omega
  ·exact(kH c p5).trans (h.old c cJ gn)
 case size=>rw[cO];exact h.size
 case os=>exact w3.trans h.os
 case tape=>exact w4.trans h.tape
 case output=>exact oT.trans h.output
 case dW=>exact h.dW
end
end Go.bZ
