/- Part of a proof that a law returns true for every input. No condition. -/
import Derived.Test.YtpddiknnnoomoaaFwA
import Derived.Laws.AppendOwn
import Derived.Calls
namespace Go.bV
inductive p5 where
 |mp (es:List (List UInt8×Bool))
 |kF
 |fu (T e:TypeId) (gX:List UInt8)
inductive j where
 |hole
 |bool (b:Bool)
 |c1
 |int (k:IntKind) (n:Int)
 |str (s:List UInt8)
 |ck
 |bG
 |slice (xs:List j)
 |aK (sz:Nat) (xs:List j)
 |ref (d:j)
 |bc (d:j)
 |agg (ag:List j)
 |tuple (vs:List j)
 |fn (f:FuncId) (cap:List j)
 |h (x:Nat) (q:List Nat)
 |an (x:Nat) (q:List Nat)
 |I (x:Nat) (k:Nat)
 |cr (o:p5)
 deriving Inhabited
mutual
def j.wd:j→Nat
 | .agg ag=>j.cz ag
 | .tuple ag=>j.cz ag
 |_=>1
def j.cz:List j→Nat
 |[]=>0
 |d::ds=>d.wd+j.cz ds
end
def e8 (w:World) (b o:Nat) (cs:List Value):Prop:=∀ad c,cs[ad]? =some c→w.cell? ⟨b,o+ad,none⟩=some c
def hb (fr:Nat×Nat) (n:Nat):Prop:=∀o,o<n→¬(fr.1≤o∧o<fr.2)
theorem hb.le {fr:Nat×Nat} {m n:Nat} (h:hb fr n) (hm:m≤n):hb fr m:=fun o bs=>h o (Nat.lt_of_lt_of_le bs hm)
theorem hb.low {fr:Nat×Nat} {n k:Nat} (h:hb fr (n+k)):hb fr n:=h.le (Nat.le_add_right _ _)
def Value.ea:Value→Bool
 | .agg _=>false
 | .tuple _=>false
 |_=>true
def j.single:j→Bool
 | .agg _=>false
 | .tuple _=>false
 | .hole=>false
 |_=>true
def hC (w:World):p5→List Value→(Nat→Prop)→Prop
 | .mp es,cs,S=>∃r ms iz,cs=[.map (some r)]∧S r∧w.heap[r]? =some (.map ms iz)∧ms.toList.map (fun e=>(e.key,e.val))=es.map (fun e=>(.string ⟨⟨e.1⟩⟩,.bool e.2))
 | .kF,cs,_=>cs=[.map none]
 | .fu T e gX,cs,S=>∃b a m9,cs=[.pointer (some ⟨b,0,none⟩)]∧S b∧w.heap[b]? =some (.cells #[a,m9] T (0,0))∧(a= .pointer none∨a= .pointer (some ⟨b,0,none⟩))∧
   ((gX=[]∧m9= .slice none 0 0)∨
     ∃g cap cur,m9= .slice (some ⟨g,0,none⟩) gX.length cap∧S g∧g≠b∧w.heap[g]? =some (.cells cur e (0,0))∧gX.length≤cap∧cap≤maxLen∧cur.size=cap∧
      cur.toList.take gX.length=gX.map fun x=>.int .u8 x.toNat)
theorem hC.frame {w aq:World}:∀{o:p5} {cs:List Value} {S:Nat→Prop},(∀b,S b→aq.heap[b]? =w.heap[b]?)→hC w o cs S→hC aq o cs S
 | .mp _,_,_,ba,⟨r,ms,iz,U,aa,aw,aN⟩=>⟨r,ms,iz,U,aa,(ba _ aa).trans aw,aN⟩
 | .kF,_,_,_,h=>h
 | .fu _ _ _,_,_,ba,⟨b,a,m9,U,aa,aw,aN,a2⟩=>⟨b,a,m9,U,aa,(ba _ aa).trans aw,aN,a2.imp (fun h=>h) fun⟨g,cap,cur,mg,jW,i3,tM,p6⟩=>⟨g,cap,cur,mg,jW,i3,(ba _ jW).trans tM,p6⟩⟩
theorem hC.mono {w:World}:∀{o:p5} {cs:List Value} {S ay:Nat→Prop},(∀b,S b→ay b)→hC w o cs S→hC w o cs ay
 | .mp _,_,_,_,ba,⟨r,ms,iz,U,aa,aw⟩=>⟨r,ms,iz,U,ba _ aa,aw⟩
 | .kF,_,_,_,_,h=>h
 | .fu _ _ _,_,_,_,ba,⟨b,a,m9,U,aa,aw,aN,a2⟩=>⟨b,a,m9,U,ba _ aa,aw,aN,a2.imp (fun h=>h) fun⟨g,cap,cur,mg,jW,i3⟩=>⟨g,cap,cur,mg,ba _ jW,i3⟩⟩
theorem hC.one {w:World}:∀{o:p5} {cs:List Value} {S:Nat→Prop},hC w o cs S→∃v,Value.ea v=true∧cs=[v]
 | .mp _,_,_,⟨_,_,_,h,_⟩=>⟨_,rfl,h⟩
 | .kF,_,_,h=>⟨_,rfl,h⟩
 | .fu _ _ _,_,_,⟨_,_,_,h,_⟩=>⟨_,rfl,h⟩
mutual
def al (w:World) (F:Nat→Prop):j→List Value→(Nat→Prop)→Prop
 | .hole,cs,_=>∃v,Value.ea v=true∧cs=[v]
 | .bool b,cs,_=>cs=[.bool b]
 | .c1,cs,_=>∃b,cs=[.bool b]
 | .int k n,cs,_=>cs=[.int k n]
 | .str s,cs,_=>cs=[.string ⟨⟨s⟩⟩]
 | .ck,cs,_=>cs=[.pointer none]
 | .bG,cs,_=>cs=[.slice none 0 0]
 | .slice xs,cs,_=>(xs=[]∧∃a c,cs=[.slice a 0 c]∧c≤maxLen∧(a=none→c=0))∨
   ∃b o cap c2 sz,cs=[.slice (some ⟨b,o,none⟩) xs.length cap]∧F b∧xs.length≤cap∧cap≤maxLen∧(∀d∈xs,d.wd=sz)∧
    e8 w b o c2∧aH w F xs c2 (fun _=>False)
 | .aK sz xs,cs,S=>(xs=[]∧∃a,cs=[.slice a 0 0])∨
   ∃b cap cur e fr ay,cs=[.slice (some ⟨b,0,none⟩) xs.length cap]∧S b∧w.heap[b]? =some (.cells cur e fr)∧hb fr (cur.size+(sz-1))∧
    xs.length≤cap∧cap≤maxLen∧cur.size=cap*sz∧(∀d∈xs,d.wd=sz)∧aH w F xs (cur.toList.take (xs.length*sz)) ay∧(∀c,ay c→S c)∧¬ay b
 | .ref d,cs,_=>∃b o c2,cs=[.pointer (some ⟨b,o,none⟩)]∧F b∧e8 w b o c2∧al w F d c2 (fun _=>False)
 | .bc d,cs,S=>∃b cur e fr ay,cs=[.pointer (some ⟨b,0,none⟩)]∧S b∧w.heap[b]? =some (.cells cur e fr)∧hb fr cur.size∧
   al w F d cur.toList ay∧(∀c,ay c→S c)∧¬ay b
 | .agg ag,cs,S=>aH w F ag cs S
 | .tuple ag,cs,S=>aH w F ag cs S
 | .fn f caps,cs,_=>∃arr:Array Value,cs=[.func (.func f) #[] arr]∧(∀d∈caps,d.single=true)∧aH w F caps arr.toList (fun _=>False)
 | .h _ _,_,_=>False
 | .an _ _,_,_=>False
 | .I _ _,_,_=>False
 | .cr o,cs,S=>hC w o cs S
def aH (w:World) (F:Nat→Prop):List j→List Value→(Nat→Prop)→Prop
 |[],cs,_=>cs=[]
 |d::ds,cs,S=>∃bz bA bh cc,cs=bz++bA∧al w F d bz bh∧aH w F ds bA cc∧(∀b,bh b→S b)∧(∀b,cc b→S b)∧(∀b,bh b→¬cc b)
end
theorem cell?_of_block {w aq:World} {b:Nat} (h:aq.heap[b]? =w.heap[b]?) (o:Nat):aq.cell? ⟨b,o,none⟩=w.cell? ⟨b,o,none⟩:=by
 simp[World.cell?,h]
theorem e8.frame {w aq:World} {b o:Nat} {cs:List Value} (h:aq.heap[b]? =w.heap[b]?) (aA:e8 w b o cs):e8 aq b o cs:=
 fun ad c ae=>(cell?_of_block h _).trans (aA ad c ae)
mutual
theorem al.frame {w aq:World} {F:Nat→Prop} (aR:∀b,F b→aq.heap[b]? =w.heap[b]?):
  ∀(d:j) (cs:List Value) (S:Nat→Prop),(∀b,S b→aq.heap[b]? =w.heap[b]?)→al w F d cs S→al aq F d cs S
 | .hole,_,_,_,h=>h
 | .bool _,_,_,_,h=>h
 | .c1,_,_,_,h=>h
 | .int _ _,_,_,_,h=>h
 | .str _,_,_,_,h=>h
 | .ck,_,_,_,h=>h
 | .bG,_,_,_,h=>h
 | .slice xs,cs,S,ba,h=>by
   rw[al]at h⊢
   rcases h with h|⟨b,o,cap,c2,sz,U,aa,aw,aN,a2,bJ,bO⟩
   ·exact .inl h
   ·exact .inr ⟨b,o,cap,c2,sz,U,aa,aw,aN,a2,bJ.frame (aR _ aa),aH.frame aR xs _ _ (fun _ h=>h.elim) bO⟩
 | .aK sz xs,cs,S,ba,h=>by
   rw[al]at h⊢
   rcases h with h|⟨b,cap,cur,e,fr,ay,U,aa,aw,aN,a2,bJ,bO,dg,eR,eI,gY⟩
   ·exact .inl h
   ·exact .inr ⟨b,cap,cur,e,fr,ay,U,aa,(ba _ aa).trans aw,aN,a2,bJ,bO,dg,aH.frame aR xs _ _ (fun c ae=>ba _ (eI _ ae)) eR,eI,gY⟩
 | .ref d,cs,S,ba,h=>by
   rw[al]at h⊢
   obtain⟨b,o,c2,U,aa,aw,aN⟩:=h
   exact⟨b,o,c2,U,aa,aw.frame (aR _ aa),al.frame aR d _ _ (fun _ h=>h.elim) aN⟩
 | .bc d,cs,S,ba,h=>by
   rw[al]at h⊢
   obtain⟨b,cur,e,fr,ay,U,aa,aw,aN,a2,bJ,bO⟩:=h
   exact⟨b,cur,e,fr,ay,U,aa,(ba _ aa).trans aw,aN,al.frame aR d _ _ (fun c ae=>ba _ (bJ _ ae)) a2,bJ,bO⟩
 | .agg ag,cs,S,ba,h=>by rw[al]at h⊢;exact aH.frame aR ag _ _ ba h
 | .tuple ag,cs,S,ba,h=>by rw[al]at h⊢;exact aH.frame aR ag _ _ ba h
 | .fn _ caps,cs,S,ba,h=>by
   rw[al]at h⊢
   obtain⟨arr,U,aa,aw⟩:=h
   exact⟨arr,U,aa,aH.frame aR caps _ _ (fun _ h=>h.elim) aw⟩
 | .h _ _,_,_,_,h=>h
 | .an _ _,_,_,_,h=>h
 | .I _ _,_,_,_,h=>h
 | .cr _,_,_,ba,h=>hC.frame ba h
theorem aH.frame {w aq:World} {F:Nat→Prop} (aR:∀b,F b→aq.heap[b]? =w.heap[b]?):
  ∀(ds:List j) (cs:List Value) (S:Nat→Prop),(∀b,S b→aq.heap[b]? =w.heap[b]?)→aH w F ds cs S→aH aq F ds cs S
 |[],_,_,_,h=>h
 |d::ds,cs,S,ba,h=>by
  rw[aH]at h⊢
  obtain⟨bz,bA,bh,cc,U,aa,aw,aN,a2,bJ⟩:=h
  exact⟨bz,bA,bh,cc,U,al.frame aR d _ _ (fun b I=>ba _ (aN _ I)) aa,aH.frame aR ds _ _ (fun b I=>ba _ (a2 _ I)) aw,aN,a2,bJ⟩
end
mutual
theorem al.mono {w:World} {F a_:Nat→Prop} (aR:∀b,F b→a_ b):
  ∀(d:j) (cs:List Value) (S ay:Nat→Prop),(∀b,S b→ay b)→al w F d cs S→al w a_ d cs ay
 | .hole,_,_,_,_,h=>h
 | .bool _,_,_,_,_,h=>h
 | .c1,_,_,_,_,h=>h
 | .int _ _,_,_,_,_,h=>h
 | .str _,_,_,_,_,h=>h
 | .ck,_,_,_,_,h=>h
 | .bG,_,_,_,_,h=>h
 | .slice xs,cs,S,_,ba,h=>by
   rw[al]at h⊢
   rcases h with h|⟨b,o,cap,c2,sz,U,aa,aw,aN,a2,bJ,bO⟩
   ·exact .inl h
   ·exact .inr ⟨b,o,cap,c2,sz,U,aR _ aa,aw,aN,a2,bJ,aH.mono aR xs _ _ _ (fun _ h=>h) bO⟩
 | .aK sz xs,cs,S,_,ba,h=>by
   rw[al]at h⊢
   rcases h with h|⟨b,cap,cur,e,fr,ay,U,aa,aw,aN,a2,bJ,bO,dg,eR,eI,gY⟩
   ·exact .inl h
   ·exact .inr ⟨b,cap,cur,e,fr,ay,U,ba _ aa,aw,aN,a2,bJ,bO,dg,aH.mono aR xs _ _ _ (fun _ h=>h) eR,fun c ae=>ba _ (eI _ ae),gY⟩
 | .ref d,cs,S,_,ba,h=>by
   rw[al]at h⊢
   obtain⟨b,o,c2,U,aa,aw,aN⟩:=h
   exact⟨b,o,c2,U,aR _ aa,aw,al.mono aR d _ _ _ (fun _ h=>h) aN⟩
 | .bc d,cs,S,_,ba,h=>by
   rw[al]at h⊢
   obtain⟨b,cur,e,fr,ay,U,aa,aw,aN,a2,bJ,bO⟩:=h
   exact⟨b,cur,e,fr,ay,U,ba _ aa,aw,aN,al.mono aR d _ _ _ (fun _ h=>h) a2,fun c ae=>ba _ (bJ _ ae),bO⟩
 | .agg ag,cs,S,_,ba,h=>by rw[al]at h⊢;exact aH.mono aR ag _ _ _ ba h
 | .tuple ag,cs,S,_,ba,h=>by rw[al]at h⊢;exact aH.mono aR ag _ _ _ ba h
 | .fn _ caps,cs,S,_,ba,h=>by
   rw[al]at h⊢
   obtain⟨arr,U,aa,aw⟩:=h
   exact⟨arr,U,aa,aH.mono aR caps _ _ _ (fun _ h=>h) aw⟩
 | .h _ _,_,_,_,_,h=>h
 | .an _ _,_,_,_,_,h=>h
 | .I _ _,_,_,_,_,h=>h
 | .cr _,_,_,_,ba,h=>hC.mono ba h
theorem aH.mono {w:World} {F a_:Nat→Prop} (aR:∀b,F b→a_ b):
  ∀(ds:List j) (cs:List Value) (S ay:Nat→Prop),(∀b,S b→ay b)→aH w F ds cs S→aH w a_ ds cs ay
 |[],_,_,_,_,h=>h
 |d::ds,cs,S,_,ba,h=>by
  rw[aH]at h⊢
  obtain⟨bz,bA,bh,cc,U,aa,aw,aN,a2,bJ⟩:=h
  exact⟨bz,bA,bh,cc,U,al.mono aR d _ _ _ (fun _ h=>h) aa,aH.mono aR ds _ _ _ (fun _ h=>h) aw,fun b I=>ba _ (aN _ I),fun b I=>ba _ (a2 _ I),bJ⟩
end
mutual
theorem al.length {w:World} {F:Nat→Prop}:∀(d:j) (cs:List Value) (S:Nat→Prop),al w F d cs S→cs.length=d.wd
 | .hole,cs,S,h=>by rw[al]at h;obtain⟨v,_,rfl⟩:=h;rfl
 | .bool _,cs,S,h=>by rw[al]at h;subst h;rfl
 | .c1,cs,S,h=>by rw[al]at h;obtain⟨b,rfl⟩:=h;rfl
 | .int _ _,cs,S,h=>by rw[al]at h;subst h;rfl
 | .str _,cs,S,h=>by rw[al]at h;subst h;rfl
 | .ck,cs,S,h=>by rw[al]at h;subst h;rfl
 | .bG,cs,S,h=>by rw[al]at h;subst h;rfl
 | .slice xs,cs,S,h=>by
   rw[al]at h
   rcases h with⟨_,a,c,rfl,_⟩|⟨b,o,cap,c2,sz,rfl,_⟩<;>rfl
 | .aK sz xs,cs,S,h=>by
   rw[al]at h
   rcases h with⟨_,a,rfl⟩|⟨b,cap,cur,e,fr,ay,rfl,_⟩<;>rfl
 | .ref d,cs,S,h=>by rw[al]at h;obtain⟨b,o,c2,rfl,_⟩:=h;rfl
 | .bc d,cs,S,h=>by rw[al]at h;obtain⟨b,o,c2,_,_,rfl,_⟩:=h;rfl
 | .agg ag,cs,S,h=>by rw[al]at h;exact aH.length ag _ _ h
 | .tuple ag,cs,S,h=>by rw[al]at h;exact aH.length ag _ _ h
 | .fn _ _,cs,S,h=>by rw[al]at h;obtain⟨arr,rfl,_⟩:=h;rfl
 | .h _ _,cs,S,h=>by rw[al]at h;exact h.elim
 | .an _ _,cs,S,h=>by rw[al]at h;exact h.elim
 | .I _ _,cs,S,h=>by rw[al]at h;exact h.elim
 | .cr _,cs,S,h=>by rw[al]at h;obtain⟨v,_,rfl⟩:=hC.one h;rfl
theorem aH.length {w:World} {F:Nat→Prop}:∀(ds:List j) (cs:List Value) (S:Nat→Prop),aH w F ds cs S→cs.length=j.cz ds
 |[],cs,S,h=>by rw[aH]at h;subst h;rfl
 |d::ds,cs,S,h=>by
  rw[aH]at h
  obtain⟨bz,bA,bh,cc,rfl,aa,aw,_⟩:=h
  rw[List.length_append,al.length d _ _ aa,aH.length ds _ _ aw,j.cz]
end
mutual
def j.share:j→j
 | .aK _ xs=>.slice (j.shares xs)
 | .bc d=>.ref d.share
 | .slice xs=>.slice (j.shares xs)
 | .ref d=>.ref d.share
 | .agg ag=>.agg (j.shares ag)
 | .tuple ag=>.tuple (j.shares ag)
 | .cr _=>.hole
 |d=>d
def j.shares:List j→List j
 |[]=>[]
 |d::ds=>d.share::j.shares ds
end
theorem j.na (ds:List j):j.shares ds=ds.map j.share:=by
 induction ds with
 |nil=>rfl
 |cons d ds ih=>simp[j.shares,ih]
mutual
theorem j.rZ:∀d:j,d.share.wd=d.wd
 | .hole=>rfl
 | .bool _=>rfl
 | .c1=>rfl
 | .int _ _=>rfl
 | .str _=>rfl
 | .ck=>rfl
 | .bG=>rfl
 | .slice _=>rfl
 | .aK _ _=>rfl
 | .ref _=>rfl
 | .bc _=>rfl
 | .agg ag=>by simp only[j.share,j.wd];exact j.tN ag
 | .tuple ag=>by simp only[j.share,j.wd];exact j.tN ag
 | .fn _ _=>rfl
 | .h _ _=>rfl
 | .an _ _=>rfl
 | .I _ _=>rfl
 | .cr _=>rfl
theorem j.tN:∀ds:List j,j.cz (j.shares ds)=j.cz ds
 |[]=>rfl
 |d::ds=>by simp only[j.shares,j.cz];rw[j.rZ d,j.tN ds]
end
theorem oh {w:World} {b:Nat} {cur:Array Value} {e:TypeId} {fr:Nat×Nat} (h:w.heap[b]? =some (.cells cur e fr)) (n:Nat):e8 w b 0 (cur.toList.take n):=by
 intro ad c ae
 rw[List.getElem?_take]at ae
 split at ae
 ·simp[World.cell?,h];simpa using ae
 ·cases ae
mutual
theorem al.shared {w:World} {F a_:Nat→Prop} (aR:∀b,F b→a_ b):
  ∀(d:j) (cs:List Value) (S:Nat→Prop),(∀b,S b→a_ b)→al w F d cs S→al w a_ d.share cs (fun _=>False)
 | .hole,_,_,_,h=>h
 | .bool _,_,_,_,h=>h
 | .c1,_,_,_,h=>h
 | .int _ _,_,_,_,h=>h
 | .str _,_,_,_,h=>h
 | .ck,_,_,_,h=>h
 | .bG,_,_,_,h=>h
 | .slice xs,cs,S,ba,h=>by
   rw[j.share,al]
   rw[al]at h
   rcases h with⟨rfl,a,c,rfl,ae⟩|⟨b,o,cap,c2,sz,U,aa,aw,aN,a2,bJ,bO⟩
   ·exact .inl ⟨rfl,a,c,rfl,ae⟩
   ·refine .inr ⟨b,o,cap,c2,sz,?_,aR _ aa,?_,aN,?_,bJ,aH.shared aR xs _ _ (fun _ h=>h.elim) bO⟩
    ·simpa [j.na]using U
    ·simpa [j.na]using aw
    ·intro d ab
     rw[j.na]at ab
     obtain⟨aT,eA,rfl⟩:=List.mem_map.1 ab
     rw[j.rZ];exact a2 _ eA
 | .aK sz xs,cs,S,ba,h=>by
   rw[j.share,al]
   rw[al]at h
   rcases h with⟨rfl,a,rfl⟩|⟨b,cap,cur,e,fr,ay,U,aa,aw,aN,a2,bJ,bO,dg,eR,eI,gY⟩
   ·exact .inl ⟨rfl,a,0,rfl,Nat.zero_le _,fun _=>rfl⟩
   ·refine .inr ⟨b,0,cap,_,sz,?_,ba _ aa,?_,bJ,?_,oh aw _,aH.shared aR xs _ _ (fun c ae=>ba _ (eI _ ae)) eR⟩
    ·simpa [j.na]using U
    ·simpa [j.na]using a2
    ·intro d ab
     rw[j.na]at ab
     obtain⟨aT,eA,rfl⟩:=List.mem_map.1 ab
     rw[j.rZ];exact dg _ eA
 | .ref d,cs,S,ba,h=>by
   rw[j.share,al]
   rw[al]at h
   obtain⟨b,o,c2,U,aa,aw,aN⟩:=h
   exact⟨b,o,c2,U,aR _ aa,aw,al.shared aR d _ _ (fun _ h=>h.elim) aN⟩
 | .bc d,cs,S,ba,h=>by
   rw[j.share,al]
   rw[al]at h
   obtain⟨b,cur,e,fr,ay,U,aa,aw,aN,a2,bJ,bO⟩:=h
   refine⟨b,0,cur.toList,U,ba _ aa,?_,al.shared aR d _ _ (fun c ae=>ba _ (bJ _ ae)) a2⟩
   have:=oh aw cur.toList.length
   rwa [List.take_length]at this
 | .agg ag,cs,S,ba,h=>by rw[j.share,al];rw[al]at h;exact aH.shared aR ag _ _ ba h
 | .tuple ag,cs,S,ba,h=>by rw[j.share,al];rw[al]at h;exact aH.shared aR ag _ _ ba h
 | .fn f caps,cs,S,ba,h=>by
   show al w a_ (.fn f caps) cs _
   rw[al]at h⊢
   obtain⟨arr,U,aa,aw⟩:=h
   exact⟨arr,U,aa,aH.mono aR caps _ _ _ (fun _ h=>h) aw⟩
 | .h _ _,_,_,_,h=>h
 | .an _ _,_,_,_,h=>h
 | .I _ _,_,_,_,h=>h
 | .cr _,cs,S,ba,h=>by rw[al]at h;rw[j.share,al];exact hC.one h
theorem aH.shared {w:World} {F a_:Nat→Prop} (aR:∀b,F b→a_ b):
  ∀(ds:List j) (cs:List Value) (S:Nat→Prop),(∀b,S b→a_ b)→aH w F ds cs S→aH w a_ (j.shares ds) cs (fun _=>False)
 |[],_,_,_,h=>h
 |d::ds,cs,S,ba,h=>by
  simp only[j.shares]
  rw[aH]at h⊢
  obtain⟨bz,bA,bh,cc,U,aa,aw,aN,a2,bJ⟩:=h
  exact⟨bz,bA,_,_,U,al.shared aR d _ _ (fun b I=>ba _ (aN _ I)) aa,aH.shared aR ds _ _ (fun b I=>ba _ (a2 _ I)) aw,fun _ h=>h,fun _ h=>h,fun _ h=>h.elim⟩
end
def j.sub:List Nat→j→Option j
 |[],d=>some d
 |k::q,.agg ag=>match ag[k]? with
  |some d=>j.sub q d
  |none=>none
 |k::q,.tuple ag=>match ag[k]? with
  |some d=>j.sub q d
  |none=>none
 |i::q,.aK _ xs=>match xs[i]? with
  |some d=>j.sub q d
  |none=>none
 |0::q,.bc d=>j.sub q d
 |_::_,_=>none
def j.put:List Nat→j→j→j
 |[],n,_=>n
 |k::q,n,.agg ag=>match ag[k]? with
  |some d=>.agg (ag.set k (j.put q n d))
  |none=>.agg ag
 |k::q,n,.tuple ag=>match ag[k]? with
  |some d=>.tuple (ag.set k (j.put q n d))
  |none=>.tuple ag
 |i::q,n,.aK sz xs=>match xs[i]? with
  |some d=>.aK sz (xs.set i (j.put q n d))
  |none=>.aK sz xs
 |0::q,n,.bc d=>.bc (j.put q n d)
 |_::_,_,d=>d
def iY (w:World) (b o n:Nat):List Value:=(List.range n).map fun ad=>(w.cell? ⟨b,o+ad,none⟩).getD undef
theorem e8.iY {w:World} {b o:Nat} {cs:List Value} (h:e8 w b o cs):iY w b o cs.length=cs:=by
 unfold bV.iY
 apply List.ext_getElem?
 intro i
 rw[List.getElem?_map]
 by_cases az:i<cs.length
 ·have:cs[i]? =some cs[i]:=List.getElem?_eq_getElem az
  simp[az,h i _ this]
 ·simp[az]
def bX (w:World):List Nat→j→List Value→Option (Nat×Nat)→Option (j×List Value×Option (Nat×Nat))
 |[],d,cs,a=>some (d,cs,a)
 |k::q,.agg ag,cs,a=>match ag[k]? with
  |some d=>bX w q d ((cs.drop (j.cz (ag.take k))).take d.wd) (a.map fun l=>(l.1,l.2+j.cz (ag.take k)))
  |none=>none
 |k::q,.tuple ag,cs,a=>match ag[k]? with
  |some d=>bX w q d ((cs.drop (j.cz (ag.take k))).take d.wd) (a.map fun l=>(l.1,l.2+j.cz (ag.take k)))
  |none=>none
 |i::q,.aK sz xs,cs,_=>match xs[i]?,cs with
  |some d,[.slice (some ⟨b,_,_⟩) _ _]=>bX w q d (iY w b (i*sz) sz) (some (b,i*sz))
  |_,_=>none
 |0::q,.bc d,cs,_=>match cs with
  |[.pointer (some ⟨b,_,_⟩)]=>bX w q d (iY w b 0 d.wd) (some (b,0))
  |_=>none
 |_::_,_,_,_=>none
theorem nb (bz dy bA:List Value) (n m:Nat) (U:bz.length=n) (aa:dy.length=m):((bz++(dy++bA)).drop n).take m=dy:=by
 rw[List.drop_left' U,List.take_left' aa]
theorem aH.pick {w:World} {F:Nat→Prop}:∀(ds:List j) (cs:List Value) (S:Nat→Prop) (k:Nat) (d:j),
  aH w F ds cs S→ds[k]? =some d→∃(bz dy bA:List Value) (bh e1:Nat→Prop),cs=bz++(dy++bA)∧bz.length=j.cz (ds.take k)∧
   (∀b,bh b→S b)∧(∀b,e1 b→S b)∧(∀b,bh b→¬e1 b)∧al w F d dy e1∧
   ∀(aq:World) (aT:j) (nc:List Value) (ay:Nat→Prop),(∀b,F b→aq.heap[b]? =w.heap[b]?)→(∀b,bh b→aq.heap[b]? =w.heap[b]?)→
    al aq F aT nc ay→(∀b,ay b→¬bh b)→aH aq F (ds.set k aT) (bz++(nc++bA)) (fun b=>bh b∨ay b)
 |[],_,_,_,_,_,ai=>by simp at ai
 |x::ds,cs,S,0,d,h,ai=>by
  rw[aH]at h
  obtain⟨bz,bA,eS,ei,rfl,U,aa,bU,I,hW⟩:=h
  simp at ai;subst ai
  refine⟨[],bz,bA,ei,eS,rfl,rfl,I,bU,fun b I bU=>hW _ bU I,U,?_⟩
  intro aq aT nc ay aR ba ab fL
  simp only[List.set_cons_zero,List.nil_append]
  rw[aH]
  exact⟨nc,bA,ay,ei,rfl,ab,aH.frame aR _ _ _ ba aa,fun b h=>.inr h,fun b h=>.inl h,fun b h=>fL b h⟩
 |x::ds,cs,S,k+1,d,h,ai=>by
  rw[aH]at h
  obtain⟨mh,CD,eS,ei,rfl,U,aa,bU,I,hW⟩:=h
  simp only[List.getElem?_cons_succ]at ai
  have hl:=al.length _ _ _ U
  obtain⟨bz,dy,bA,bh,e1,rfl,ji,mg,jW,i3,p6,tO⟩:=aH.pick ds CD ei k d aa ai
  refine⟨mh++bz,dy,bA,fun b=>eS b∨bh b,e1,by simp,by simp[j.cz,hl,ji],?_,fun b h=>I _ (jW _ h),?_,p6,?_⟩
  ·rintro b (h|h)
   ·exact bU _ h
   ·exact I _ (mg _ h)
  ·rintro b (h|h) ai
   ·exact hW _ h (jW _ ai)
   ·exact i3 _ h ai
  ·intro aq aT nc ay aR ba ab fL
   simp only[List.set_cons_succ]
   rw[aH]
   refine⟨mh,bz++(nc++bA),eS,fun b=>bh b∨ay b,by simp,al.frame aR _ _ _ (fun b I=>ba b (.inl I)) U,
    tO aq aT nc ay aR (fun b I=>ba b (.inr I)) ab (fun b I ae=>fL b I (.inr ae)),fun b h=>.inl (.inl h),?_,?_⟩
   ·rintro b (h|h)
    ·exact .inl (.inr h)
    ·exact .inr h
   ·rintro b h (a5|a5)
    ·exact hW _ h (mg _ a5)
    ·exact fL _ a5 (.inl h)
theorem tP:∀(ag:List j) (k:Nat) (x y:j),ag[k]? =some x→y.wd=x.wd→j.cz (ag.set k y)=j.cz ag:=by
 intro ag
 induction ag with
 |nil=>intro k x y h;simp at h
 |cons a ag ih=>
  intro k x y h e
  cases k with
  |zero=>simp at h;subst h;simp[j.cz,e]
  |succ k=>simp at h;simp[j.cz,ih k x y h e]
theorem nd {sz:Nat}:∀(xs:List j),(∀d∈xs,d.wd=sz)→j.cz xs=xs.length*sz
 |[],_=>by simp[j.cz]
 |x::xs,h=>by
  rw[j.cz,h x (by simp),nd xs (fun d ab=>h d (by simp[ab])),List.length_cons,Nat.add_mul,Nat.one_mul,Nat.add_comm]
theorem j.oi:∀(q:List Nat) (av d aT:j),j.sub q av=some d→aT.wd=d.wd→(j.put q aT av).wd=av.wd:=by
 intro q
 induction q with
 |nil=>intro av d aT h e;simp[j.sub]at h;subst h;simpa [j.put]using e
 |cons k q ih=>
  intro av d aT h e
  cases av with
  |agg ag=>
   simp only[j.sub]at h
   split at h
   ·rename_i x ao
    simp only[j.put,ao,j.wd]
    exact tP _ _ _ _ ao (ih _ _ _ h e)
   ·cases h
  |tuple ag=>
   simp only[j.sub]at h
   split at h
   ·rename_i x ao
    simp only[j.put,ao,j.wd]
    exact tP _ _ _ _ ao (ih _ _ _ h e)
   ·cases h
  |aK sz xs=>
   simp only[j.sub]at h
   split at h
   ·rename_i x ao
    simp only[j.put,ao,j.wd]
   ·cases h
  |bc x=>
   cases k with
   |zero=>simp only[j.put,j.wd]
   |succ k=>simp[j.sub]at h
  |_=>simp[j.sub]at h
theorem tQ {sz:Nat} {xs:List j} {i:Nat} {y:j} (h:∀d∈xs,d.wd=sz) (aW:y.wd=sz):∀d∈xs.set i y,d.wd=sz:=by
 intro d ab
 rcases List.mem_or_eq_of_mem_set ab with ab|rfl
 ·exact h d ab
 ·exact aW
theorem oj {w:World} {b:Nat} {cur:Array Value} {e:TypeId} {fr:Nat×Nat} (h:w.heap[b]? =some (.cells cur e fr)) {l m r:List Value} (ae:cur.toList=l++(m++r)):
  iY w b l.length m.length=m:=by
 refine e8.iY (fun ad c aS=> ?_)
 have cv:ad<m.length:=(List.getElem?_eq_some_iff.1 aS).1
 have:cur.toList[l.length+ad]? =some c:=by
  rw[ae,List.getElem?_append_right (by omega),List.getElem?_append_left (by omega)]
  rw[←aS];congr 1;omega
 simp[World.cell?,h]
 simpa using this
def Flat (w:World) (F:Nat→Prop) (q:List Nat) (av:j) (cs:List Value) (a:Option (Nat×Nat)) (d:j) (bE:List Value) (bM:Option (Nat×Nat)) (cD:Nat→Prop):Prop:=
 ∃l r:List Value,cs=l++(bE++r)∧bM=a.map (fun x=>(x.1,x.2+l.length))∧
  ∀(aq:World) (aT:j) (dz:List Value) (ay:Nat→Prop),(∀b,F b→aq.heap[b]? =w.heap[b]?)→(∀b,cD b→aq.heap[b]? =w.heap[b]?)→
   aT.wd=d.wd→al aq F aT dz ay→(∀b,ay b→¬cD b)→al aq F (j.put q aT av) (l++(dz++r)) (fun b=>cD b∨ay b)
def Deep (w:World) (F:Nat→Prop) (q:List Nat) (av:j) (cs:List Value) (d:j) (bE:List Value) (bM:Option (Nat×Nat)) (cD:Nat→Prop):Prop:=
 ∃(b:Nat) (cur:Array Value) (e:TypeId) (fr:Nat×Nat) (l r:List Value),bM=some (b,l.length)∧cD b∧w.heap[b]? =some (.cells cur e fr)∧hb fr cur.size∧cur.toList=l++(bE++r)∧
  ∀(aq:World) (aT:j) (dz:List Value) (ay:Nat→Prop),(∀b,F b→aq.heap[b]? =w.heap[b]?)→(∀c,cD c→c≠b→aq.heap[c]? =w.heap[c]?)→
   aq.heap[b]? =some (.cells (l++(dz++r)).toArray e fr)→
   aT.wd=d.wd→al aq F aT dz ay→(∀b,ay b→¬cD b)→al aq F (j.put q aT av) cs (fun b=>cD b∨ay b)
theorem ctx {w:World} {F:Nat→Prop}:∀(q:List Nat) (av:j) (cs:List Value) (S:Nat→Prop) (a:Option (Nat×Nat)) (d:j),
  al w F av cs S→j.sub q av=some d→∃(bE:List Value) (bM:Option (Nat×Nat)) (cD dd:Nat→Prop),bX w q av cs a=some (d,bE,bM)∧
   (∀b,cD b→S b)∧(∀b,dd b→S b)∧(∀b,cD b→¬dd b)∧al w F d bE dd∧(Flat w F q av cs a d bE bM cD∨Deep w F q av cs d bE bM cD):=by
 intro q
 induction q with
 |nil=>
  intro av cs S a d h ab
  simp[j.sub]at ab;subst ab
  refine⟨cs,a,fun _=>False,S,rfl,fun _ h=>h.elim,fun _ h=>h,fun _ h=>h.elim,h,.inl ⟨[],[],by simp,?_,?_⟩⟩
  ·cases a<;>simp
  ·intro aq aT dz ay _ _ hw eA _
   simp only[j.put,List.nil_append,List.append_nil]
   exact al.mono (fun _ h=>h) _ _ _ _ (fun b h=>.inr h) eA
 |cons k q ih=>
  have fields:∀(mk:List j→j) (tR:∀(w:World) (F:Nat→Prop) (ag:List j) (cs:List Value) (S:Nat→Prop),al w F (mk ag) cs S=aH w F ag cs S) (ag:List j) (cs:List Value) (S:Nat→Prop) (a:Option (Nat×Nat)) (x d:j),
    (gB:∀aT,j.put (k::q) aT (mk ag)=mk (ag.set k (j.put q aT x)))→aH w F ag cs S→ag[k]? =some x→j.sub q x=some d→
    ∃(bE:List Value) (bM:Option (Nat×Nat)) (cD dd:Nat→Prop),bX w q x ((cs.drop (j.cz (ag.take k))).take x.wd) (a.map fun l=>(l.1,l.2+j.cz (ag.take k)))=some (d,bE,bM)∧
    (∀b,cD b→S b)∧(∀b,dd b→S b)∧(∀b,cD b→¬dd b)∧al w F d bE dd∧(Flat w F (k::q) (mk ag) cs a d bE bM cD∨Deep w F (k::q) (mk ag) cs d bE bM cD):=by
   intro mk tR ag cs S a x d gB h ao ab
   obtain⟨bz,dy,bA,bh,e1,rfl,eT,dw,dU,eB,dH,hX⟩:=aH.pick ag cs S k x h ao
   have hl:=al.length _ _ _ dH
   rw[nb bz dy bA _ _ eT hl]
   obtain⟨bE,bM,cD,dd,dI,aD,aO,bg,b6,cJ⟩:=ih x _ e1 (a.map fun l=>(l.1,l.2+j.cz (ag.take k))) d dH ab
   refine⟨bE,bM,fun b=>bh b∨cD b,dd,dI,?_,fun b I=>dU _ (aO _ I),?_,b6,?_⟩
   ·rintro b (h|h)
    ·exact dw _ h
    ·exact dU _ (aD _ h)
   ·rintro b (h|h) ab
    ·exact eB _ h (aO _ ab)
    ·exact bg _ h ab
   ·have c3:∀(b:Nat) (ay:Nat→Prop),(bh b∨cD b∨ay b)→((bh b∨cD b)∨ay b):=by
     rintro b ay (I|I|I)
     ·exact .inl (.inl I)
     ·exact .inl (.inr I)
     ·exact .inr I
    rcases cJ with⟨l,r,rfl,aL,bb⟩|⟨b,cur,e,fr,l,r,aE,aL,bb,b2,b9,bl⟩
    ·refine .inl ⟨bz++l,r++bA,by simp,?_,?_⟩
     ·rw[aL,←eT];cases a<;>simp[Nat.add_assoc]
     ·intro aq aT dz ay aR ba hw eA fL
      have eb:=bb aq aT dz ay aR (fun b I=>ba b (.inr I)) hw eA (fun b I ae=>fL b I (.inr ae))
      have cw:=hX aq _ _ _ aR (fun b I=>ba b (.inl I)) eb (by
       rintro b (I|I) U
       ·exact eB _ U (aD _ I)
       ·exact fL _ I (.inl U))
      rw[gB,tR]
      have:=aH.mono (fun _ h=>h) _ _ _ _ (fun b=>c3 b ay) cw
      simpa using this
    ·refine .inr ⟨b,cur,e,fr,l,r,aE,.inr aL,bb,b2,b9,?_⟩
     intro aq aT dz ay aR ba hY hw eA fL
     have eb:=bl aq aT dz ay aR (fun c ae=>ba c (.inr ae)) hY hw eA (fun b I ae=>fL b I (.inr ae))
     have cw:=hX aq _ _ _ aR (fun c ae=>ba c (.inl ae) (by rintro rfl;exact eB _ ae (aD _ aL))) eb (by
       rintro b (I|I) U
       ·exact eB _ U (aD _ I)
       ·exact fL _ I (.inl U))
     rw[gB,tR]
     exact aH.mono (fun _ h=>h) _ _ _ _ (fun b=>c3 b ay) cw
  intro av cs S a d h ab
  cases av with
  |agg ag=>
   simp only[j.sub]at ab
   split at ab
   ·rename_i x ao
    rw[al]at h
    have:=fields .agg (fun _ _ _ _ _=>by rw[al]) ag cs S a x d (fun aT=>by simp only[j.put,ao]) h ao ab
    simpa only[bX,ao]using this
   ·cases ab
  |tuple ag=>
   simp only[j.sub]at ab
   split at ab
   ·rename_i x ao
    rw[al]at h
    have:=fields .tuple (fun _ _ _ _ _=>by rw[al]) ag cs S a x d (fun aT=>by simp only[j.put,ao]) h ao ab
    simpa only[bX,ao]using this
   ·cases ab
  |aK sz xs=>
   simp only[j.sub]at ab
   split at ab
   ·rename_i x ao
    rw[al]at h
    rcases h with⟨rfl,_,rfl⟩|⟨b,cap,cur,e,fr,cf,rfl,aa,aw,aN,a2,bJ,bO,dg,eR,eI,gY⟩
    ·simp at ao
    ·obtain⟨bz,dy,bA,bh,e1,p,eT,dw,dU,eB,dH,hX⟩:=aH.pick xs _ cf k x eR ao
     have hl:=al.length _ _ _ dH
     have CE:k<xs.length:=(List.getElem?_eq_some_iff.1 ao).1
     have p7:x.wd=sz:=dg x (List.mem_of_getElem? ao)
     have bs:j.cz (xs.take k)=k*sz:=by
      rw[nd _ (fun d ab=>dg d (List.mem_of_mem_take ab))]
      rw[List.length_take,Nat.min_eq_left (by omega)]
     obtain⟨lv,hc⟩:∃lv,cur.toList=bz++(dy++(bA++lv)):=by
      refine⟨cur.toList.drop (xs.length*sz),?_⟩
      have:=(List.take_append_drop (xs.length*sz) cur.toList).symm
      rw[p]at this
      simpa using this
     have gj:iY w b (k*sz) sz=dy:=by
      have:=oj aw hc
      rwa [eT,bs,hl,p7]at this
     obtain⟨bE,bM,cD,dd,dI,aD,aO,bg,b6,cJ⟩:=ih x _ e1 (some (b,k*sz)) d dH ab
     have gB:∀aT,j.put (k::q) aT (.aK sz xs)= .aK sz (xs.set k (j.put q aT x)):=fun aT=>by simp only[j.put,ao]
     refine⟨bE,bM,fun c=>c=b∨bh c∨cD c,dd,?_,?_,fun c ae=>eI _ (dU _ (aO _ ae)),?_,b6,.inr ?_⟩
     ·simp only[bX,ao,gj];exact dI
     ·rintro c (rfl|h|h)
      ·exact aa
      ·exact eI _ (dw _ h)
      ·exact eI _ (dU _ (aD _ h))
     ·rintro c (rfl|h|h) ab
      ·exact gY (dU _ (aO _ ab))
      ·exact eB _ h (aO _ ab)
      ·exact bg _ h ab
     ·have gM:∀aT,aT.wd=d.wd→(j.put q aT x).wd=sz:=fun aT hw=>(j.oi q x d aT ab hw).trans p7
      rcases cJ with⟨l,r,rfl,aL,bb⟩|⟨dp,hZ,ej,tS,l,r,aE,aL,bb,b2,b9,bl⟩
      ·refine⟨b,cur,e,fr,bz++l,r++(bA++lv),?_,.inl rfl,aw,aN.low,?_,?_⟩
       ·rw[aL];simp[eT,bs]
       ·rw[hc];simp
       ·intro aq aT dz ay aR ba hY hw eA fL
        have eb:=bb aq aT dz ay aR (fun c ae=>ba c (.inr (.inr ae)) (by rintro rfl;exact gY (dU _ (aD _ ae)))) hw eA (fun b I ae=>fL b I (.inr (.inr ae)))
        have cw:=hX aq _ _ _ aR (fun c ae=>ba c (.inr (.inl ae)) (by rintro rfl;exact gY (dw _ ae))) eb (by
         rintro b (I|I) U
         ·exact eB _ U (aD _ I)
         ·exact fL _ I (.inr (.inl U)))
        have iZ:=al.length _ _ _ eA
        have p8:=al.length _ _ _ b6
        rw[gB,al]
        refine .inr ⟨b,cap,_,e,fr,fun b=>bh b∨cD b∨ay b,by simp,.inl (.inl rfl),hY,?_,by simpa using a2,bJ,?_,tQ dg (gM aT hw),?_,?_,?_⟩
        ·have:(bz++l++(dz++(r++(bA++lv)))).toArray.size=cur.size:=by
          have:cur.size=cur.toList.length:=by simp
          rw[this,hc];simp[iZ,p8,hw]
         rw[this];exact aN
        ·rw[←bO]
         have:cur.size=cur.toList.length:=by simp
         rw[this,hc];simp[iZ,p8,hw]
        ·have hlen:(bz++(l++(dz++r)++bA)).length=xs.length*sz:=by
          have:=congrArg List.length p
          rw[List.length_take,Nat.min_eq_left (by simp[bO];exact Nat.mul_le_mul_right _ a2)]at this
          rw[this];simp[iZ,p8,hw]
         have:(bz++l++(dz++(r++(bA++lv))))=(bz++(l++(dz++r)++bA))++lv:=by simp
         rw[List.length_set]
         simp only[this]
         rw[List.take_left' hlen]
         exact cw
        ·rintro c (h|h|h)
         ·exact .inl (.inr (.inl h))
         ·exact .inl (.inr (.inr h))
         ·exact .inr h
        ·rintro(h|h|h)
         ·exact gY (dw _ h)
         ·exact gY (dU _ (aD _ h))
         ·exact fL _ h (.inl rfl)
      ·refine⟨dp,hZ,ej,tS,l,r,aE,.inr (.inr aL),bb,b2,b9,?_⟩
       intro aq aT dz ay aR ba hY hw eA fL
       have eb:=bl aq aT dz ay aR (fun c ae cg=>ba c (.inr (.inr ae)) cg) hY hw eA (fun b I ae=>fL b I (.inr (.inr ae)))
       have cg:∀c,bh c→c≠dp:=by rintro c ae rfl;exact eB _ ae (aD _ aL)
       have cw:=hX aq _ _ _ aR (fun c ae=>ba c (.inr (.inl ae)) (cg c ae)) eb (by
        rintro b (I|I) U
        ·exact eB _ U (aD _ I)
        ·exact fL _ I (.inr (.inl U)))
       have tT:b≠dp:=by rintro rfl;exact gY (dU _ (aD _ aL))
       rw[gB,al]
       refine .inr ⟨b,cap,cur,e,fr,fun b=>bh b∨cD b∨ay b,by simp,.inl (.inl rfl),(ba b (.inl rfl) tT).trans aw,aN,by simpa using a2,bJ,bO,tQ dg (gM aT hw),?_,?_,?_⟩
       ·rw[List.length_set,p];exact cw
       ·rintro c (h|h|h)
        ·exact .inl (.inr (.inl h))
        ·exact .inl (.inr (.inr h))
        ·exact .inr h
       ·rintro(h|h|h)
        ·exact gY (dw _ h)
        ·exact gY (dU _ (aD _ h))
        ·exact fL _ h (.inl rfl)
   ·cases ab
  |bc x=>
   cases k with
   |succ k=>simp[j.sub]at ab
   |zero=>
    simp only[j.sub]at ab
    rw[al]at h
    obtain⟨b,cur,e,fr,cf,rfl,aa,aw,aN,a2,bJ,bO⟩:=h
    have hl:=al.length _ _ _ a2
    have gj:iY w b 0 x.wd=cur.toList:=by
     have:=oj (l:=[]) (m:=cur.toList) (r:=[]) aw (by simp)
     rwa [hl]at this
    obtain⟨bE,bM,cD,dd,dI,aD,aO,bg,b6,cJ⟩:=ih x _ cf (some (b,0)) d a2 ab
    have gB:∀aT,j.put (0::q) aT (.bc x)= .bc (j.put q aT x):=fun aT=>rfl
    refine⟨bE,bM,fun c=>c=b∨cD c,dd,?_,?_,fun c ae=>bJ _ (aO _ ae),?_,b6,.inr ?_⟩
    ·simp only[bX,gj];exact dI
    ·rintro c (rfl|h)
     ·exact aa
     ·exact bJ _ (aD _ h)
    ·rintro c (rfl|h) ab
     ·exact bO (aO _ ab)
     ·exact bg _ h ab
    ·rcases cJ with⟨l,r,aE,aL,bb⟩|⟨dp,hZ,ej,tS,l,r,aE,aL,bb,b2,b9,bl⟩
     ·refine⟨b,cur,e,fr,l,r,?_,.inl rfl,aw,aN,aE,?_⟩
      ·rw[aL];simp
      ·intro aq aT dz ay aR ba hY hw eA fL
       have eb:=bb aq aT dz ay aR (fun c ae=>ba c (.inr ae) (by rintro rfl;exact bO (aD _ ae))) hw eA (fun b I ae=>fL b I (.inr ae))
       have iZ:=al.length _ _ _ eA
       have p8:=al.length _ _ _ b6
       rw[gB,al]
       refine⟨b,_,e,fr,fun b=>cD b∨ay b,rfl,.inl (.inl rfl),hY,?_,eb,?_,?_⟩
       ·have:(l++(dz++r)).toArray.size=cur.size:=by
         have:cur.size=cur.toList.length:=by simp
         rw[this,aE];simp[iZ,p8,hw]
        rw[this];exact aN
       ·rintro c (h|h)
        ·exact .inl (.inr h)
        ·exact .inr h
       ·rintro(h|h)
        ·exact bO (aD _ h)
        ·exact fL _ h (.inl rfl)
     ·refine⟨dp,hZ,ej,tS,l,r,aE,.inr aL,bb,b2,b9,?_⟩
      intro aq aT dz ay aR ba hY hw eA fL
      have eb:=bl aq aT dz ay aR (fun c ae cg=>ba c (.inr ae) cg) hY hw eA (fun b I ae=>fL b I (.inr ae))
      have tT:b≠dp:=by rintro rfl;exact bO (aD _ aL)
      rw[gB,al]
      refine⟨b,cur,e,fr,fun b=>cD b∨ay b,rfl,.inl (.inl rfl),(ba b (.inl rfl) tT).trans aw,aN,eb,?_,?_⟩
      ·rintro c (h|h)
       ·exact .inl (.inr h)
       ·exact .inr h
      ·rintro(h|h)
       ·exact bO (aD _ h)
       ·exact fL _ h (.inl rfl)
  |_=>simp[j.sub]at ab
mutual
def j.plain:j→Bool
 | .aK _ _=>false
 | .bc _=>false
 | .cr _=>false
 | .agg ag=>j.dA ag
 | .tuple ag=>j.dA ag
 |_=>true
def j.dA:List j→Bool
 |[]=>true
 |d::ds=>d.plain&&j.dA ds
end
mutual
def j.bT:j→j
 | .aK _ _=>.hole
 | .bc _=>.hole
 | .cr _=>.hole
 | .agg ag=>.agg (j.hd ag)
 | .tuple ag=>.tuple (j.hd ag)
 |d=>d
def j.hd:List j→List j
 |[]=>[]
 |d::ds=>d.bT::j.hd ds
end
mutual
theorem j.mi:∀d:j,d.bT.wd=d.wd
 | .hole=>rfl
 | .bool _=>rfl
 | .c1=>rfl
 | .int _ _=>rfl
 | .str _=>rfl
 | .ck=>rfl
 | .bG=>rfl
 | .slice _=>rfl
 | .aK _ _=>rfl
 | .ref _=>rfl
 | .bc _=>rfl
 | .agg ag=>by simp only[j.bT,j.wd];exact j.tU ag
 | .tuple ag=>by simp only[j.bT,j.wd];exact j.tU ag
 | .fn _ _=>rfl
 | .h _ _=>rfl
 | .an _ _=>rfl
 | .I _ _=>rfl
 | .cr _=>rfl
theorem j.tU:∀ds:List j,j.cz (j.hd ds)=j.cz ds
 |[]=>rfl
 |d::ds=>by simp only[j.hd,j.cz];rw[j.mi d,j.tU ds]
end
mutual
theorem al.bT {w:World} {F:Nat→Prop}:∀(d:j) (cs:List Value) (S ay:Nat→Prop),al w F d cs S→al w F d.bT cs ay
 | .hole,_,_,_,h=>h
 | .bool _,_,_,_,h=>h
 | .c1,_,_,_,h=>h
 | .int _ _,_,_,_,h=>h
 | .str _,_,_,_,h=>h
 | .ck,_,_,_,h=>h
 | .bG,_,_,_,h=>h
 | .slice xs,cs,S,ay,h=>by
   show al w F (.slice xs) cs ay
   rw[al]at h⊢;exact h
 | .aK sz xs,cs,S,ay,h=>by
   rw[j.bT,al]
   rw[al]at h
   rcases h with⟨_,_,rfl⟩|⟨b,cap,cur,e,fr,cf,rfl,_⟩
   ·exact⟨_,rfl,rfl⟩
   ·exact⟨_,rfl,rfl⟩
 | .ref d,cs,S,ay,h=>by
   show al w F (.ref d) cs ay
   rw[al]at h⊢;exact h
 | .bc d,cs,S,ay,h=>by
   rw[j.bT,al]
   rw[al]at h
   obtain⟨b,cur,e,fr,cf,rfl,_⟩:=h
   exact⟨_,rfl,rfl⟩
 | .agg ag,cs,S,ay,h=>by rw[j.bT,al];rw[al]at h;exact aH.bT ag _ _ _ h
 | .tuple ag,cs,S,ay,h=>by rw[j.bT,al];rw[al]at h;exact aH.bT ag _ _ _ h
 | .fn _ _,_,_,_,h=>h
 | .h _ _,_,_,_,h=>h
 | .an _ _,_,_,_,h=>h
 | .I _ _,_,_,_,h=>h
 | .cr _,_,_,_,h=>by rw[al]at h;rw[j.bT,al];exact hC.one h
theorem aH.bT {w:World} {F:Nat→Prop}:∀(ds:List j) (cs:List Value) (S ay:Nat→Prop),aH w F ds cs S→aH w F (j.hd ds) cs ay
 |[],_,_,_,h=>h
 |d::ds,cs,S,ay,h=>by
  rw[j.hd,aH]
  rw[aH]at h
  obtain⟨bz,bA,bh,cc,U,aa,aw,aN,a2,bJ⟩:=h
  exact⟨bz,bA,fun _=>False,fun _=>False,U,al.bT d _ _ _ aa,aH.bT ds _ _ _ aw,fun _ h=>h.elim,fun _ h=>h.elim,fun _ h=>h.elim⟩
end
mutual
theorem al.plain {w:World} {F:Nat→Prop}:∀(d:j) (cs:List Value) (S ay:Nat→Prop),d.plain=true→al w F d cs S→al w F d cs ay
 | .hole,_,_,_,_,h=>h
 | .bool _,_,_,_,_,h=>h
 | .c1,_,_,_,_,h=>h
 | .int _ _,_,_,_,_,h=>h
 | .str _,_,_,_,_,h=>h
 | .ck,_,_,_,_,h=>h
 | .bG,_,_,_,_,h=>h
 | .slice xs,cs,S,ay,_,h=>by rw[al]at h⊢;exact h
 | .aK sz xs,cs,S,ay,an,h=>by simp[j.plain]at an
 | .ref d,cs,S,ay,_,h=>by rw[al]at h⊢;exact h
 | .bc d,cs,S,ay,an,h=>by simp[j.plain]at an
 | .agg ag,cs,S,ay,an,h=>by rw[al]at h⊢;exact aH.plain ag _ _ _ an h
 | .tuple ag,cs,S,ay,an,h=>by rw[al]at h⊢;exact aH.plain ag _ _ _ an h
 | .fn _ _,_,_,_,_,h=>h
 | .h _ _,_,_,_,_,h=>h
 | .an _ _,_,_,_,_,h=>h
 | .I _ _,_,_,_,_,h=>h
 | .cr _,_,_,_,an,_=>by simp[j.plain]at an
theorem aH.plain {w:World} {F:Nat→Prop}:∀(ds:List j) (cs:List Value) (S ay:Nat→Prop),j.dA ds=true→aH w F ds cs S→aH w F ds cs ay
 |[],_,_,_,_,h=>h
 |d::ds,cs,S,ay,an,h=>by
  rw[aH]at h⊢
  simp only[j.dA,Bool.and_eq_true]at an
  obtain⟨bz,bA,bh,cc,U,aa,aw,aN,a2,bJ⟩:=h
  exact⟨bz,bA,fun _=>False,fun _=>False,U,al.plain d _ _ _ an.1 aa,aH.plain ds _ _ _ an.2 aw,fun _ h=>h.elim,fun _ h=>h.elim,fun _ h=>h.elim⟩
end
def j.di:List Nat→j→Bool
 |[],_=>false
 |k::q,.agg ag=>match ag[k]? with
  |some d=>j.di q d
  |none=>false
 |k::q,.tuple ag=>match ag[k]? with
  |some d=>j.di q d
  |none=>false
 |_::_,.aK _ _=>true
 |_::_,.bc _=>true
 |_::_,_=>false
theorem r0 {ag:List j} (h:j.dA ag=true) {k:Nat} {d:j} (ai:ag[k]? =some d):d.plain=true:=by
 induction ag generalizing k with
 |nil=>simp at ai
 |cons a ag ih=>
  simp only[j.dA,Bool.and_eq_true]at h
  cases k with
  |zero=>simp at ai;subst ai;exact h.1
  |succ k=>simp at ai;exact ih h.2 ai
theorem j.xn:∀(q:List Nat) (d:j),d.plain=true→j.di q d=false:=by
 intro q
 induction q with
 |nil=>intros;rfl
 |cons k q ih=>
  intro d ab
  cases d<;>first|rfl|(simp[j.plain]at ab;done)|skip
  all_goals
   simp only[j.di]
   split
   ·rename_i ag x ao;exact ih _ (r0 (by simpa [j.plain]using ab) ao)
   ·rfl
theorem j.tV:∀(q:List Nat) (d e:j),d.plain=true→j.sub q d=some e→e.plain=true:=by
 intro q
 induction q with
 |nil=>intro d e ab h;simp[j.sub]at h;exact h▸ab
 |cons k q ih=>
  intro d e ab h
  cases d<;>first|(simp[j.plain]at ab;done)|(simp[j.sub]at h;done)|skip
  all_goals
   simp only[j.sub]at h
   split at h
   ·rename_i ag x ao;exact ih _ _ (r0 (by simpa [j.plain]using ab) ao) h
   ·cases h
theorem r1 {w aq:World} {F:Nat→Prop}:∀(q:List Nat) (av:j) (cs:List Value) (S:Nat→Prop) (a:Option (Nat×Nat)) (d:j),
  al w F av cs S→j.sub q av=some d→(∀b,S b→aq.heap[b]? =w.heap[b]?)→bX aq q av cs a=bX w q av cs a:=by
 intro q
 induction q with
 |nil=>intros;rfl
 |cons k q ih=>
  have fields:∀(ag:List j) (cs:List Value) (S:Nat→Prop) (a:Option (Nat×Nat)) (x d:j),aH w F ag cs S→ag[k]? =some x→j.sub q x=some d→
    (∀b,S b→aq.heap[b]? =w.heap[b]?)→
    bX aq q x ((cs.drop (j.cz (ag.take k))).take x.wd) (a.map fun l=>(l.1,l.2+j.cz (ag.take k)))=bX w q x ((cs.drop (j.cz (ag.take k))).take x.wd) (a.map fun l=>(l.1,l.2+j.cz (ag.take k))):=by
   intro ag cs S a x d h ao ab ba
   obtain⟨bz,dy,bA,bh,e1,rfl,eT,dw,dU,eB,dH,hX⟩:=aH.pick ag cs S k x h ao
   rw[nb bz dy bA _ _ eT (al.length _ _ _ dH)]
   exact ih x dy e1 _ d dH ab (fun b I=>ba b (dU _ I))
  intro av cs S a d h ab ba
  cases av with
  |agg ag=>
   simp only[j.sub]at ab
   split at ab
   ·rename_i x ao
    rw[al]at h
    simp only[bX,ao]
    exact fields ag cs S a x d h ao ab ba
   ·cases ab
  |tuple ag=>
   simp only[j.sub]at ab
   split at ab
   ·rename_i x ao
    rw[al]at h
    simp only[bX,ao]
    exact fields ag cs S a x d h ao ab ba
   ·cases ab
  |aK sz xs=>
   simp only[j.sub]at ab
   split at ab
   ·rename_i x ao
    rw[al]at h
    rcases h with⟨rfl,_,rfl⟩|⟨b,cap,cur,e,fr,cf,rfl,aa,aw,aN,a2,bJ,bO,dg,eR,eI,gY⟩
    ·simp at ao
    ·obtain⟨bz,dy,bA,bh,e1,p,eT,dw,dU,eB,dH,hX⟩:=aH.pick xs _ cf k x eR ao
     have hl:=al.length _ _ _ dH
     have CE:k<xs.length:=(List.getElem?_eq_some_iff.1 ao).1
     have p7:x.wd=sz:=dg x (List.mem_of_getElem? ao)
     have bs:j.cz (xs.take k)=k*sz:=by
      rw[nd _ (fun d ab=>dg d (List.mem_of_mem_take ab))]
      rw[List.length_take,Nat.min_eq_left (by omega)]
     obtain⟨lv,hc⟩:∃lv,cur.toList=bz++(dy++(bA++lv)):=by
      refine⟨cur.toList.drop (xs.length*sz),?_⟩
      have:=(List.take_append_drop (xs.length*sz) cur.toList).symm
      rw[p]at this
      simpa using this
     have gj:iY w b (k*sz) sz=dy:=by
      have:=oj aw hc
      rwa [eT,bs,hl,p7]at this
     have tW:iY aq b (k*sz) sz=dy:=by
      have:=oj ((ba b aa).trans aw) hc
      rwa [eT,bs,hl,p7]at this
     simp only[bX,ao,gj,tW]
     exact ih x dy e1 _ d dH ab (fun c ae=>ba c (eI _ (dU _ ae)))
   ·cases ab
  |bc x=>
   cases k with
   |succ k=>simp[j.sub]at ab
   |zero=>
    simp only[j.sub]at ab
    rw[al]at h
    obtain⟨b,cur,e,fr,cf,rfl,aa,aw,aN,a2,bJ,bO⟩:=h
    have hl:=al.length _ _ _ a2
    have gj:iY w b 0 x.wd=cur.toList:=by
     have:=oj (l:=[]) (m:=cur.toList) (r:=[]) aw (by simp)
     rwa [hl]at this
    have tW:iY aq b 0 x.wd=cur.toList:=by
     have:=oj (l:=[]) (m:=cur.toList) (r:=[]) ((ba b aa).trans aw) (by simp)
     rwa [hl]at this
    simp only[bX,gj,tW]
    exact ih x cur.toList cf _ d a2 ab (fun c ae=>ba c (bJ _ ae))
  |_=>simp[j.sub]at ab
def e9:Value→List Value
 | .agg cs=>cs.toList
 |v=>[v]
def bd:Value→List Value
 | .tuple vs=>vs.toList.flatMap e9
 |v=>e9 v
def fh:j→Value→Prop
 | .agg _,v=>∃arr,v= .agg arr
 |_,v=>Value.ea v=true
def cl:j→Value→Prop
 | .tuple ds,v=>∃arr:Array Value,v= .tuple arr∧arr.size=ds.length∧∀(k:Nat) (d:j) (x:Value),ds[k]? =some d→arr[k]? =some x→fh d x∧(∀vs,d≠.tuple vs)∧(e9 x).length=d.wd
 |d,v=>fh d v
abbrev af:=Nat→j
mutual
def ar (w:World) (F:Nat→Prop) (s:af) (ak:Nat→Value):j→Value→(Nat→Prop)→Prop
 | .hole,_,_=>True
 | .h x q,v,_=>∀d,j.sub q (s x)=some d→d.plain=false→∃bE a,bX w q (s x) (bd (ak x)) none=some (d,bE,a)∧bd v=bE∧cl d v
 | .an x q,v,_=>∀d,j.sub q (s x)=some d→j.di q (s x)=true→∃bE b o,bX w q (s x) (bd (ak x)) none=some (d,bE,some (b,o))∧v= .pointer (some ⟨b,o,none⟩)
 | .I x k,v,_=>(s x).plain=false→∃b cur e fr,v= .pointer (some ⟨b,k,none⟩)∧F b∧w.heap[b]? =some (.cells cur e fr)∧cur.toList=bd (ak x)
 | .fn f cap,v,_=>∃arr:Array Value,v= .func (.func f) #[] arr∧cx w F s ak cap arr.toList
 | .bool b,v,S=>cl (.bool b) v∧al w F (.bool b) (bd v) S
 | .c1,v,S=>cl .c1 v∧al w F .c1 (bd v) S
 | .int k n,v,S=>cl (.int k n) v∧al w F (.int k n) (bd v) S
 | .str x,v,S=>cl (.str x) v∧al w F (.str x) (bd v) S
 | .ck,v,S=>cl .ck v∧al w F .ck (bd v) S
 | .bG,v,S=>cl .bG v∧al w F .bG (bd v) S
 | .slice xs,v,S=>cl (.slice xs) v∧al w F (.slice xs) (bd v) S
 | .aK sz xs,v,S=>cl (.aK sz xs) v∧al w F (.aK sz xs) (bd v) S
 | .ref d,v,S=>cl (.ref d) v∧al w F (.ref d) (bd v) S
 | .bc d,v,S=>cl (.bc d) v∧al w F (.bc d) (bd v) S
 | .agg d,v,S=>cl (.agg d) v∧al w F (.agg d) (bd v) S
 | .tuple d,v,S=>cl (.tuple d) v∧al w F (.tuple d) (bd v) S
 | .cr o,v,S=>cl (.cr o) v∧al w F (.cr o) (bd v) S
def cx (w:World) (F:Nat→Prop) (s:af) (ak:Nat→Value):List j→List Value→Prop
 |[],vs=>vs=[]
 |d::ds,vs=>∃v fZ,vs=v::fZ∧ar w F s ak d v (fun _=>False)∧cx w F s ak ds fZ
end
def j.tree:j→Bool
 | .hole=>false
 | .h _ _=>false
 | .an _ _=>false
 | .I _ _=>false
 | .fn _ _=>false
 |_=>true
theorem ar.bx {w:World} {F:Nat→Prop} {s:af} {ak:Nat→Value} {d:j} {v:Value} {S:Nat→Prop} (aG:d.tree=true):
  ar w F s ak d v S↔(cl d v∧al w F d (bd v) S):=by
 cases d<;>first|(simp[j.tree]at aG;done)|rw[ar]
theorem e2 {q:List Nat} {av d:j} (h:j.sub q av=some d) (an:d.plain=false∨j.di q av=true):av.tree=true:=by
 cases q with
 |nil=>
  simp[j.sub]at h;subst h
  rcases an with an|an
  ·cases av<;>first|rfl|(simp[j.plain]at an)
  ·simp[j.di]at an
 |cons k q=>cases av<;>first|rfl|(simp[j.sub]at h)
theorem tX {d:j} (h:d.plain=false):d.tree=true:=e2 (q:=[]) (by simp only[j.sub]) (.inl h)
theorem ar.frame {w aq:World} {F a_:Nat→Prop} {s:af} {ak:Nat→Value} {Sx:Nat→Nat→Prop} (aR:∀b,F b→aq.heap[b]? =w.heap[b]?) (xo:∀b,F b→a_ b)
  (ba:∀x b,Sx x b→aq.heap[b]? =w.heap[b]?) (jj:∀x,ar w F s ak (s x) (ak x) (Sx x)):
  ∀(d:j) (v:Value) (S:Nat→Prop),(∀b,S b→aq.heap[b]? =w.heap[b]?)→ar w F s ak d v S→ar aq a_ s ak d v S:=by
 have gN:∀(x:Nat) (q:List Nat) (d:j),j.sub q (s x)=some d→(d.plain=false∨j.di q (s x)=true)→bX aq q (s x) (bd (ak x)) none=bX w q (s x) (bd (ak x)) none:=by
  intro x q d ab an
  have aG:=e2 ab an
  have:=jj x
  rw[ar.bx aG]at this
  exact r1 q _ _ (Sx x) none d this.2 ab (ba x)
 have CF:∀(d:j) (v:Value) (S:Nat→Prop),d.tree=true→(∀b,S b→aq.heap[b]? =w.heap[b]?)→ar w F s ak d v S→ar aq a_ s ak d v S:=by
  intro d v S aG nf h
  rw[ar.bx aG]at h⊢
  exact⟨h.1,al.mono xo _ _ _ _ (fun _ h=>h) (al.frame aR _ _ _ nf h.2)⟩
 have step:∀n,(∀(d:j) (v:Value) (S:Nat→Prop),SizeOf.sizeOf d≤n→(∀b,S b→aq.heap[b]? =w.heap[b]?)→ar w F s ak d v S→ar aq a_ s ak d v S)∧
   (∀(ds:List j) (vs:List Value),SizeOf.sizeOf ds≤n→cx w F s ak ds vs→cx aq a_ s ak ds vs):=by
  intro n
  induction n with
  |zero=>
   refine⟨fun d v S bj=> ?_,fun ds vs bj=> ?_⟩
   ·cases d<;>simp at bj<;>omega
   ·cases ds<;>simp at bj<;>omega
  |succ n ih=>
   refine⟨fun d v S bj nf h=> ?_,fun ds vs bj h=> ?_⟩
   ·cases d with
    |hole=>rw[ar];trivial
    |h x q=>
     rw[ar]at h⊢
     intro d ab an
     rw[gN x q d ab (.inl an)]
     exact h d ab an
    |an x q=>
     rw[ar]at h⊢
     intro d ab an
     rw[gN x q d ab (.inr an)]
     exact h d ab an
    |I x k=>
     rw[ar]at h⊢
     intro an
     obtain⟨b,cur,e,fr,U,aa,aw,aN⟩:=h an
     exact⟨b,cur,e,fr,U,xo b aa,(aR b aa).trans aw,aN⟩
    |fn f cap=>
     rw[ar]at h⊢
     obtain⟨arr,rfl,ae⟩:=h
     exact⟨arr,rfl,ih.2 _ _ (by simp at bj;omega) ae⟩
    |_=>exact CF _ _ _ rfl nf h
   ·cases ds with
    |nil=>rw[cx]at h⊢;exact h
    |cons d ds=>
     rw[cx]at h⊢
     obtain⟨v,fZ,rfl,U,aa⟩:=h
     simp at bj
     exact⟨v,fZ,rfl,ih.1 _ _ _ (by omega) (fun _ h=>h.elim) U,ih.2 _ _ (by omega) aa⟩
 intro d v S nf h
 exact(step (SizeOf.sizeOf d)).1 d v S (Nat.le_refl _) nf h
mutual
def bK (x:Nat):j→j
 | .h y q=>if y=x then .hole else .h y q
 | .an y q=>if y=x then .hole else .an y q
 | .I y k=>if y=x then .hole else .I y k
 | .fn f cap=>.fn f (fM x cap)
 |d=>d
def fM (x:Nat):List j→List j
 |[]=>[]
 |d::ds=>bK x d::fM x ds
end
mutual
def bo (x:Nat):j→j
 | .h y q=>if y=x then(if q=[]then .h y q else .hole)else .h y q
 | .an y q=>if y=x then .hole else .an y q
 | .fn f cap=>.fn f (fv x cap)
 |d=>d
def fv (x:Nat):List j→List j
 |[]=>[]
 |d::ds=>bo x d::fv x ds
end
def bZ {α:Type} (f:Nat→α) (t:Nat) (v:α):Nat→α:=fun u=>if u=t then v else f u
def hD (t:Nat) (s:af):af:=fun u=>bK t (s u)
def e_ (t:Nat) (s:af):af:=fun u=>bo t (s u)
theorem iA {α:Type} (f:Nat→α) (t:Nat) (v:α):bZ f t v t=v:=by simp[bZ]
theorem f_ {α:Type} (f:Nat→α) {t u:Nat} (v:α) (h:u≠t):bZ f t v u=f u:=by simp[bZ,h]
theorem CG {t:Nat} {d:j} (h:d.tree=true):bK t d=d:=by cases d<;>first|rfl|(simp[j.tree]at h)
theorem tY {t:Nat} {d:j} (h:d.tree=true):bo t d=d:=by cases d<;>first|rfl|(simp[j.tree]at h)
theorem CH {t:Nat} {d:j} (h:(bK t d).tree=true):d.tree=true∧bK t d=d:=by
 cases d<;>first|exact⟨rfl,rfl⟩|(simp only[bK]at h;first|(split at h<;>simp[j.tree]at h)|simp[j.tree]at h)
theorem r2 {t:Nat} {d:j} (h:(bo t d).tree=true):d.tree=true∧bo t d=d:=by
 cases d<;>first|exact⟨rfl,rfl⟩|(simp only[bo]at h;first|(split at h<;>(try split at h)<;>simp[j.tree]at h)|simp[j.tree]at h)
section
variable {w:World} {F:Nat→Prop} {s aj:af} {ak gC:Nat→Value} {t:Nat}
theorem ar.bK (ev:∀x,x≠t→(aj x).tree=true→aj x=s x∧gC x=ak x):∀(n:Nat),
  (∀(d:j) (v:Value) (S:Nat→Prop),SizeOf.sizeOf d≤n→ar w F s ak d v S→ar w F aj gC (bV.bK t d) v S)∧
  (∀(ds:List j) (vs:List Value),SizeOf.sizeOf ds≤n→cx w F s ak ds vs→cx w F aj gC (fM t ds) vs):=by
 intro n
 induction n with
 |zero=>
  refine⟨fun d v S bj=> ?_,fun ds vs bj=> ?_⟩
  ·cases d<;>simp at bj<;>omega
  ·cases ds<;>simp at bj<;>omega
 |succ n ih=>
  refine⟨fun d v S bj h=> ?_,fun ds vs bj h=> ?_⟩
  ·cases d with
   |hole=>rw[bV.bK.eq_def];simp only;rw[ar];trivial
   |h x q=>
    simp only[bV.bK]
    split
    ·rw[ar];trivial
    ·rename_i ao
     rw[ar]at h⊢
     intro d ab an
     obtain⟨aE,aL⟩:=ev x ao (e2 ab (.inl an))
     rw[aE,aL];rw[aE]at ab
     exact h d ab an
   |an x q=>
    simp only[bV.bK]
    split
    ·rw[ar];trivial
    ·rename_i ao
     rw[ar]at h⊢
     intro d ab an
     obtain⟨aE,aL⟩:=ev x ao (e2 ab (.inr an))
     rw[aE,aL];rw[aE]at ab an
     exact h d ab an
   |I x k=>
    simp only[bV.bK]
    split
    ·rw[ar];trivial
    ·rename_i ao
     rw[ar]at h⊢
     intro an
     obtain⟨aE,aL⟩:=ev x ao (tX an)
     rw[aL];rw[aE]at an
     exact h an
   |fn f cap=>
    simp only[bV.bK]
    rw[ar]at h⊢
    obtain⟨arr,rfl,ae⟩:=h
    exact⟨arr,rfl,ih.2 _ _ (by simp at bj;omega) ae⟩
   |_=>
    rw[CG (by rfl)]
    exact(ar.bx (by rfl)).2 ((ar.bx (by rfl)).1 h)
  ·cases ds with
   |nil=>rw[fM,cx];rw[cx]at h;exact h
   |cons d ds=>
    rw[fM,cx];rw[cx]at h
    obtain⟨v,fZ,rfl,U,aa⟩:=h
    simp at bj
    exact⟨v,fZ,rfl,ih.1 _ _ _ (by omega) U,ih.2 _ _ (by omega) aa⟩
theorem ar.bo {aq:World} (ev:∀x,x≠t→(aj x).tree=true→aj x=s x∧gC x=ak x) (hE:gC t=ak t) (h0:(aj t).plain=false→(s t).plain=false∧∀v,cl (s t) v→cl (aj t) v)
  (gN:∀x q d,x≠t→j.sub q (s x)=some d→(d.plain=false∨j.di q (s x)=true)→bX aq q (s x) (bd (ak x)) none=bX w q (s x) (bd (ak x)) none)
  (aR:∀b,F b→aq.heap[b]? =w.heap[b]?):∀(n:Nat),
  (∀(d:j) (v:Value) (S:Nat→Prop),SizeOf.sizeOf d≤n→(∀b,S b→aq.heap[b]? =w.heap[b]?)→ar w F s ak d v S→ar aq F aj gC (bV.bo t d) v S)∧
  (∀(ds:List j) (vs:List Value),SizeOf.sizeOf ds≤n→cx w F s ak ds vs→cx aq F aj gC (fv t ds) vs):=by
 intro n
 induction n with
 |zero=>
  refine⟨fun d v S bj=> ?_,fun ds vs bj=> ?_⟩
  ·cases d<;>simp at bj<;>omega
  ·cases ds<;>simp at bj<;>omega
 |succ n ih=>
  refine⟨fun d v S bj nf h=> ?_,fun ds vs bj h=> ?_⟩
  ·cases d with
   |hole=>rw[bV.bo.eq_def];simp only;rw[ar];trivial
   |h x q=>
    simp only[bV.bo]
    split
    ·rename_i ao
     subst ao
     split
     ·rename_i bN
      subst bN
      rw[ar]at h⊢
      intro d ab an
      simp only[j.sub,Option.some.injEq]at ab
      subst ab
      obtain⟨eb,cw⟩:=h0 an
      obtain⟨bE,a,aD,aO,bg⟩:=h (s x) rfl eb
      simp only[bX,Option.some.injEq,Prod.mk.injEq]at aD
      obtain⟨-,aD,Pn⟩:=aD
      refine⟨bd (gC x),none,rfl,?_,cw _ bg⟩
      rw[hE,aO,←aD]
     ·rw[ar];trivial
    ·rename_i ao
     rw[ar]at h⊢
     intro d ab an
     obtain⟨aE,aL⟩:=ev x ao (e2 ab (.inl an))
     rw[aE,aL];rw[aE]at ab
     rw[gN x q d ao ab (.inl an)]
     exact h d ab an
   |an x q=>
    simp only[bV.bo]
    split
    ·rw[ar];trivial
    ·rename_i ao
     rw[ar]at h⊢
     intro d ab an
     obtain⟨aE,aL⟩:=ev x ao (e2 ab (.inr an))
     rw[aE,aL];rw[aE]at ab an
     rw[gN x q d ao ab (.inr an)]
     exact h d ab an
   |I x k=>
    simp only[bV.bo]
    rw[ar]at h⊢
    intro an
    by_cases ao:x=t
    ·subst ao
     obtain⟨b,cur,e,fr,U,aa,aw,aN⟩:=h (h0 an).1
     exact⟨b,cur,e,fr,U,aa,(aR b aa).trans aw,by rw[hE];exact aN⟩
    ·obtain⟨aE,aL⟩:=ev x ao (tX an)
     rw[aE]at an
     obtain⟨b,cur,e,fr,U,aa,aw,aN⟩:=h an
     exact⟨b,cur,e,fr,U,aa,(aR b aa).trans aw,by rw[aL];exact aN⟩
   |fn f cap=>
    simp only[bV.bo]
    rw[ar]at h⊢
    obtain⟨arr,rfl,ae⟩:=h
    exact⟨arr,rfl,ih.2 _ _ (by simp at bj;omega) ae⟩
   |_=>
    rw[tY (by rfl)]
    have a5:=(ar.bx (by rfl)).1 h
    exact(ar.bx (by rfl)).2 ⟨a5.1,al.frame aR _ _ _ nf a5.2⟩
  ·cases ds with
   |nil=>rw[fv,cx];rw[cx]at h;exact h
   |cons d ds=>
    rw[fv,cx];rw[cx]at h
    obtain⟨v,fZ,rfl,U,aa⟩:=h
    simp at bj
    exact⟨v,fZ,rfl,ih.1 _ _ _ (by omega) (fun _ h=>h.elim) U,ih.2 _ _ (by omega) aa⟩
theorem ar.void (ev:∀x,x≠t→(aj x).tree=true→aj x=s x∧gC x=ak x) (jX:(aj t).plain=true):∀(n:Nat),
  (∀(d:j) (v:Value) (S:Nat→Prop),SizeOf.sizeOf d≤n→ar w F s ak d v S→ar w F aj gC d v S)∧
  (∀(ds:List j) (vs:List Value),SizeOf.sizeOf ds≤n→cx w F s ak ds vs→cx w F aj gC ds vs):=by
 intro n
 induction n with
 |zero=>
  refine⟨fun d v S bj=> ?_,fun ds vs bj=> ?_⟩
  ·cases d<;>simp at bj<;>omega
  ·cases ds<;>simp at bj<;>omega
 |succ n ih=>
  refine⟨fun d v S bj h=> ?_,fun ds vs bj h=> ?_⟩
  ·cases d with
   |hole=>rw[ar];trivial
   |h x q=>
    rw[ar]at h⊢
    intro d ab an
    by_cases ao:x=t
    ·subst ao
     rw[j.tV _ _ _ jX ab]at an;cases an
    ·obtain⟨aE,aL⟩:=ev x ao (e2 ab (.inl an))
     rw[aE,aL];rw[aE]at ab
     exact h d ab an
   |an x q=>
    rw[ar]at h⊢
    intro d ab an
    by_cases ao:x=t
    ·subst ao
     rw[j.xn _ _ jX]at an;cases an
    ·obtain⟨aE,aL⟩:=ev x ao (e2 ab (.inr an))
     rw[aE,aL];rw[aE]at ab an
     exact h d ab an
   |I x k=>
    rw[ar]at h⊢
    intro an
    by_cases ao:x=t
    ·subst ao;rw[jX]at an;cases an
    ·obtain⟨aE,aL⟩:=ev x ao (tX an)
     rw[aL];rw[aE]at an
     exact h an
   |fn f cap=>
    rw[ar]at h⊢
    obtain⟨arr,rfl,ae⟩:=h
    exact⟨arr,rfl,ih.2 _ _ (by simp at bj;omega) ae⟩
   |_=>exact(ar.bx (by rfl)).2 ((ar.bx (by rfl)).1 h)
  ·cases ds with
   |nil=>rw[cx];rw[cx]at h;exact h
   |cons d ds=>
    rw[cx];rw[cx]at h
    obtain⟨v,fZ,rfl,U,aa⟩:=h
    simp at bj
    exact⟨v,fZ,rfl,ih.1 _ _ _ (by omega) U,ih.2 _ _ (by omega) aa⟩
end
def xp:Bool:=false
def Out (w w0:World):Prop:=w.output=w0.output∧(xp=true→w0.drawn≤w.drawn)
theorem Out.trans {a b c:World} (h:Out a b) (aa:Out b c):Out a c:=⟨Eq.trans h.1 aa.1,fun d=>Nat.le_trans (aa.2 d) (h.2 d)⟩
theorem Out.refl (w:World):Out w w:=⟨rfl,fun _=>Nat.le_refl _⟩
def CI:List (Nat×(Obj→Prop)):=[]
def om (w:World) (X:Nat→Prop):Prop:=∀p∈CI,p.1<w.heap.size∧¬X p.1∧∃o,w.heap[p.1]? =some o∧p.2 o
theorem om.next {w aq:World} {X Y:Nat→Prop} (h:om w X) (R:w.heap.size≤aq.heap.size) (I:∀b,b<w.heap.size→¬X b→aq.heap[b]? =w.heap[b]?) (aW:∀b,Y b→X b∨w.heap.size≤b):om aq Y:=fun p an=>by
 obtain⟨U,aa,o,aw,aN⟩:=h p an
 refine⟨Nat.lt_of_lt_of_le U R,fun h=> ?_,o,(I _ U aa).trans aw,aN⟩
 rcases aW _ h with h|h
 ·exact aa h
 ·omega
structure aY (w0:World) (F0 X F:Nat→Prop) (S:Nat→Nat→Prop) (s:af) (ak:Nat→Value) (w:World):Prop where
 ep:∀b,F0 b→F b
 eC:∀b,F b→F0 b∨X b∨w0.heap.size≤b
 c_:∀b,F b→b<w.heap.size
 cP:∀t b,S t b→b<w.heap.size
 dj:∀t b,S t b→¬F b
 c8:∀t u b,t≠u→S t b→¬S u b
 cf:∀t b,S t b→X b∨w0.heap.size≤b
 b0:∀t,ar w F s ak (s t) (ak t) (S t)
 old:∀b,b<w0.heap.size→¬X b→w.heap[b]? =w0.heap[b]?
 size:w0.heap.size≤w.heap.size
 os:w.os=w0.os
 tape:w.tape=w0.tape
 output:Out w w0
 er:om w0 X
section
variable {w0 w aq:World} {F0 X F:Nat→Prop} {S:Nat→Nat→Prop} {s:af} {ak:Nat→Value}
theorem aY.grow (h:aY w0 F0 X F S s ak w) (I:∀b,b<w.heap.size→aq.heap[b]? =w.heap[b]?) (R:w.heap.size≤aq.heap.size)
  (U:aq.os=w.os) (aa:aq.tape=w.tape) (aw:Out aq w):aY w0 F0 X F S s ak aq where
 ep:=h.ep
 eC:=h.eC
 c_:=fun b aR=>Nat.lt_of_lt_of_le (h.c_ b aR) R
 cP:=fun t b aR=>Nat.lt_of_lt_of_le (h.cP t b aR) R
 dj:=h.dj
 c8:=h.c8
 cf:=h.cf
 b0:=fun t=>ar.frame (Sx:=S) (fun b aR=>I b (h.c_ b aR)) (fun _ h=>h) (fun x b ba=>I b (h.cP x b ba)) h.b0 _ _ _ (fun b ba=>I b (h.cP t b ba)) (h.b0 t)
 old:=fun b cv ga=>(I b (Nat.lt_of_lt_of_le cv h.size)).trans (h.old b cv ga)
 size:=Nat.le_trans h.size R
 os:=U.trans h.os
 tape:=aa.trans h.tape
 output:=aw.trans h.output
 er:=h.er
def dV (S:Nat→Nat→Prop) (t:Nat) (Sn:Nat→Prop):Nat→Nat→Prop:=fun u b=>if u=t then Sn b else S u b
theorem p9 (S:Nat→Nat→Prop) (t:Nat) (Sn:Nat→Prop):dV S t Sn t=Sn:=by funext b;simp[dV]
theorem p_ (S:Nat→Nat→Prop) {t u:Nat} (Sn:Nat→Prop) (h:u≠t):dV S t Sn u=S u:=by funext b;simp[dV,h]
theorem aY.qa (h:aY w0 F0 X F S s ak w) {t:Nat} {d:j} {v:Value} (an:d.plain=true) (ab:ar w F s ak d v (fun _=>False)):
  aY w0 F0 X F (dV S t (fun _=>False)) (bZ s t d) (bZ ak t v) w where
 ep:=h.ep
 eC:=h.eC
 c_:=h.c_
 cP:=fun u b I=>by simp only[dV]at I;split at I;exact I.elim;exact h.cP u b I
 dj:=fun u b I=>by simp only[dV]at I;split at I;exact I.elim;exact h.dj u b I
 c8:=fun u x b cg I ao=>by
  simp only[dV]at I ao
  split at I
  ·exact I.elim
  ·split at ao
   ·exact ao.elim
   ·exact h.c8 u x b cg I ao
 cf:=fun u b I=>by simp only[dV]at I;split at I;exact I.elim;exact h.cf u b I
 b0:=fun u=>by
  have ev:∀x,x≠t→(bZ s t d x).tree=true→bZ s t d x=s x∧bZ ak t v x=ak x:=fun x ao _=>⟨f_ _ _ ao,f_ _ _ ao⟩
  have jX:(bZ s t d t).plain=true:=by rw[iA];exact an
  by_cases hu:u=t
  ·subst hu
   rw[iA,iA,p9]
   exact(ar.void ev jX _).1 _ _ _ (Nat.le_refl _) ab
  ·rw[f_ _ _ hu,f_ _ _ hu,p_ _ _ hu]
   exact(ar.void ev jX _).1 _ _ _ (Nat.le_refl _) (h.b0 u)
 old:=h.old
 size:=h.size
 os:=h.os
 tape:=h.tape
 output:=h.output
 er:=h.er
theorem aY.xq (h:aY w0 F0 X F S s ak w) {t:Nat} {d:j} {v:Value} {Sn:Nat→Prop} (ab:d.tree=true) (R:cl d v) (aC:al w F d (bd v) Sn)
  (cv:∀b,Sn b→b<w.heap.size) (aR:∀b,Sn b→¬F b) (ba:∀u b,u≠t→Sn b→¬S u b) (bI:∀b,Sn b→X b∨w0.heap.size≤b):
  aY w0 F0 X F (dV S t Sn) (bZ (hD t s) t d) (bZ ak t v) w where
 ep:=h.ep
 eC:=h.eC
 c_:=h.c_
 cP:=fun u b I=>by simp only[dV]at I;split at I;exact cv b I;exact h.cP u b I
 dj:=fun u b I=>by simp only[dV]at I;split at I;exact aR b I;exact h.dj u b I
 c8:=fun u x b cg I ao=>by
  simp only[dV]at I ao
  split at I
  ·rename_i hu
   rw[if_neg (fun e=>cg (hu.trans e.symm))]at ao
   exact ba x b (fun e=>cg (hu.trans e.symm)) I ao
  ·rename_i hu
   split at ao
   ·exact ba u b hu ao I
   ·exact h.c8 u x b cg I ao
 cf:=fun u b I=>by simp only[dV]at I;split at I;exact bI b I;exact h.cf u b I
 b0:=fun u=>by
  have ev:∀x,x≠t→(bZ (hD t s) t d x).tree=true→bZ (hD t s) t d x=s x∧bZ ak t v x=ak x:=fun x ao aG=>by
   rw[f_ _ _ ao]at aG⊢
   exact⟨(CH aG).2,f_ _ _ ao⟩
  by_cases hu:u=t
  ·subst hu
   rw[iA,iA,p9]
   exact(ar.bx ab).2 ⟨R,aC⟩
  ·rw[f_ _ _ hu,f_ _ _ hu,p_ _ _ hu]
   exact(ar.bK ev _).1 _ _ _ (Nat.le_refl _) (h.b0 u)
 old:=h.old
 size:=h.size
 os:=h.os
 tape:=h.tape
 output:=h.output
 er:=h.er
theorem mj (k:Nat) (q:List Nat) (aT x:j):(∃ag gs,x= .agg ag∧j.put (k::q) aT x= .agg gs)∨(∃ag gs,x= .tuple ag∧j.put (k::q) aT x= .tuple gs)∨
  (∃sz xs ys,x= .aK sz xs∧j.put (k::q) aT x= .aK sz ys)∨(∃y z,x= .bc y∧j.put (k::q) aT x= .bc z)∨j.put (k::q) aT x=x:=by
 cases x with
 |agg ag=>simp only[j.put];split<;>exact .inl ⟨_,_,rfl,rfl⟩
 |tuple ag=>simp only[j.put];split<;>exact .inr (.inl ⟨_,_,rfl,rfl⟩)
 |aK sz ag=>simp only[j.put];split<;>exact .inr (.inr (.inl ⟨_,_,_,rfl,rfl⟩))
 |bc y=>cases k<;>exact .inr (.inr (.inr (.inl ⟨_,_,rfl,rfl⟩)))
 |_=>exact .inr (.inr (.inr (.inr rfl)))
theorem xr {k:Nat} {q:List Nat} {aT x:j} {v:Value} (h:fh x v):fh (j.put (k::q) aT x) v:=by
 rcases mj k q aT x with⟨ag,gs,rfl,e⟩|⟨ag,gs,rfl,e⟩|⟨sz,xs,ys,rfl,e⟩|⟨y,z,rfl,e⟩|e<;>rw[e]<;>exact h
theorem xt {k:Nat} {q:List Nat} {aT x:j} (h:∀vs,x≠.tuple vs):∀vs,j.put (k::q) aT x≠.tuple vs:=by
 rcases mj k q aT x with⟨ag,gs,rfl,e⟩|⟨ag,gs,rfl,e⟩|⟨sz,xs,ys,rfl,e⟩|⟨y,z,rfl,e⟩|e<;>rw[e]<;>first|exact h|(intro vs a5;cases a5;done)|exact(h _ rfl).elim
theorem qb {k:Nat} {q:List Nat} {d aT av:j} {v:Value} (h:cl av v) (ab:j.sub (k::q) av=some d) (U:∀v,fh d v→fh aT v) (aa:(∀vs,d≠.tuple vs)→∀vs,aT≠.tuple vs) (aw:aT.wd=d.wd):
  cl (j.put (k::q) aT av) v:=by
 cases av with
 |tuple ag=>
  simp only[j.sub]at ab
  split at ab
  ·rename_i x ao
   simp only[j.put,ao]
   simp only[cl]at h⊢
   obtain⟨arr,rfl,bj,jj⟩:=h
   refine⟨arr,rfl,by simpa using bj,fun ad e y he aW=> ?_⟩
   rw[List.getElem?_set]at he
   split at he
   ·rename_i tZ
    subst tZ
    split at he
    ·simp only[Option.some.injEq]at he
     subst he
     obtain⟨aD,aO,bg⟩:=jj k x y ao aW
     refine⟨?_,?_,bg.trans (j.oi q x d aT ab aw).symm⟩
     ·cases q with
      |nil=>
       simp only[j.sub,Option.some.injEq]at ab
       subst ab
       exact U _ aD
      |cons bp q=>exact xr aD
     ·cases q with
      |nil=>
       simp only[j.sub,Option.some.injEq]at ab
       subst ab
       exact aa aO
      |cons bp q=>exact xt aO
    ·cases he
   ·exact jj ad e y he aW
  ·cases ab
 |agg ag=>simp only[j.put];split<;>exact h
 |aK sz ag=>simp only[j.put];split<;>exact h
 |bc y=>cases k<;>exact h
 |_=>exact h
theorem t_ {d:j} {v:Value} (h:fh d v):fh d.bT v:=by cases d<;>exact h
theorem xu {s:af} {x:Nat} {q:List Nat} {d:j} (ab:j.sub q (s x)=some d) (an:d.plain=false):
  (bZ (e_ x s) x (j.put q d.bT (s x)) x).plain=false→(s x).plain=false∧∀v,cl (s x) v→cl (bZ (e_ x s) x (j.put q d.bT (s x)) x) v:=by
  rw[iA]
  intro eJ
  cases q with
  |nil=>
   exfalso
   have:∀d:j,d.bT.plain=true:=by
    intro d
    have key:∀n,(∀d:j,SizeOf.sizeOf d≤n→d.bT.plain=true)∧(∀ds:List j,SizeOf.sizeOf ds≤n→j.dA (j.hd ds)=true):=by
     intro n
     induction n with
     |zero=>exact⟨fun d bj=>by cases d<;>simp at bj<;>omega,fun ds bj=>by cases ds<;>simp at bj<;>omega⟩
     |succ n ih=>
      refine⟨fun d bj=> ?_,fun ds bj=> ?_⟩
      ·cases d with
       |agg ag=>simp only[j.bT,j.plain];exact ih.2 _ (by simp at bj;omega)
       |tuple ag=>simp only[j.bT,j.plain];exact ih.2 _ (by simp at bj;omega)
       |_=>rfl
      ·cases ds with
       |nil=>rfl
       |cons d ds=>
        simp at bj
        simp only[j.hd,j.dA,Bool.and_eq_true]
        exact⟨ih.1 _ (by omega),ih.2 _ (by omega)⟩
    exact(key _).1 d (Nat.le_refl _)
   simp only[j.put]at eJ
   rw[this]at eJ
   cases eJ
  |cons k q=>
   refine⟨?_,fun v aC=>qb aC ab (fun v h=>t_ h) (fun h vs e=> ?_) (j.mi d)⟩
   ·cases qc:(s x).plain with
    |false=>rfl
    |true=>rw[j.tV _ _ _ qc ab]at an;cases an
   ·cases d<;>first|(exact h _ rfl)|(simp[j.bT]at e)
theorem aY.take (h:aY w0 F0 X F S s ak w) {x:Nat} {q:List Nat} {d:j} (ab:j.sub q (s x)=some d) (an:d.plain=false):
  ∃(Sn dd:Nat→Prop) (bE:List Value) (a:Option (Nat×Nat)),aY w0 F0 X F (dV S x Sn) (bZ (e_ x s) x (j.put q d.bT (s x))) ak w∧
   bX w q (s x) (bd (ak x)) none=some (d,bE,a)∧al w F d bE dd∧(∀b,dd b→S x b)∧(∀b,Sn b→S x b)∧(∀b,dd b→¬Sn b)∧
   (∀(aT:j) (v:Value) (ay:Nat→Prop),ar w F s ak aT v ay→ar w F (bZ (e_ x s) x (j.put q d.bT (s x))) ak (bV.bo x aT) v ay):=by
 have aG:=e2 ab (.inl an)
 have ao:=h.b0 x
 rw[ar.bx aG]at ao
 obtain⟨bE,a,cD,dd,dI,aD,aO,bg,b6,cJ⟩:=ctx q (s x) (bd (ak x)) (S x) none d ao.2 ab
 have gB:al w F (j.put q d.bT (s x)) (bd (ak x)) cD:=by
  have iB:al w F d.bT bE (fun _=>False):=al.bT _ _ _ _ b6
  have kG:∀b,(cD b∨False)→cD b:=fun b h=>h.elim id False.elim
  rcases cJ with⟨l,r,aE,aL,bb⟩|⟨b,cur,e,fr,l,r,aE,aL,bb,b2,b9,bl⟩
  ·have:=bb w _ bE _ (fun _ _=>rfl) (fun _ _=>rfl) (j.mi d) iB (fun _ h=>h.elim)
   rw[←aE]at this
   exact al.mono (fun _ h=>h) _ _ _ _ kG this
  ·have:=bl w _ bE _ (fun _ _=>rfl) (fun _ _ _=>rfl) (by rw[bb,←b9]) (j.mi d) iB (fun _ h=>h.elim)
   exact al.mono (fun _ h=>h) _ _ _ _ kG this
 have CJ:cl (j.put q d.bT (s x)) (ak x)∧(j.put q d.bT (s x)).tree=true∨j.put q d.bT (s x)= .hole:=by
  cases q with
  |nil=>
   simp only[j.sub,Option.some.injEq]at ab
   subst ab
   simp only[j.put]
   cases R:s x with
   |aK sz xs=>right;rfl
   |bc y=>right;rfl
   |cr y=>right;rfl
   |agg ag=>left;rw[R]at ao;exact⟨ao.1,rfl⟩
   |tuple ag=>
    left
    rw[R]at ao
    refine⟨?_,rfl⟩
    simp only[cl,j.bT]at ao⊢
    obtain⟨arr,e,bj,jj⟩:=ao.1
    have hl:∀ag:List j,j.hd ag=ag.map j.bT:=by
     intro ag;induction ag with
     |nil=>rfl
     |cons a ag ih=>simp[j.hd,ih]
    refine⟨arr,e,by rw[hl];simpa using bj,fun k ej y he aW=> ?_⟩
    rw[hl,List.getElem?_map]at he
    cases ai:ag[k]? with
    |none=>rw[ai]at he;cases he
    |some z=>
     rw[ai]at he
     simp only[Option.map_some,Option.some.injEq]at he
     subst he
     obtain⟨aD,aO,bg⟩:=jj k z y ai aW
     refine⟨t_ aD,fun vs e=> ?_,bg.trans (j.mi z).symm⟩
     cases z<;>first|(exact aO _ rfl)|(simp[j.bT]at e)
   |_=>rw[R]at an;simp[j.plain]at an
  |cons k q=>
   left
   refine⟨qb ao.1 ab (fun v h=>t_ h) (fun h vs e=> ?_) (j.mi d),?_⟩
   ·cases d<;>first|(exact h _ rfl)|(simp[j.bT]at e)
   ·rcases mj k q d.bT (s x)with⟨ag,gs,aE,e⟩|⟨ag,gs,aE,e⟩|⟨sz,xs,ys,aE,e⟩|⟨y,z,aE,e⟩|e<;>rw[e]<;>first|rfl|exact aG
 refine⟨cD,dd,bE,a,?_,dI,b6,aO,aD,fun b U aa=>bg b aa U,?_⟩
 rotate_left
 ·have ev:∀y,y≠x→(bZ (e_ x s) x (j.put q d.bT (s x)) y).tree=true→bZ (e_ x s) x (j.put q d.bT (s x)) y=s y∧ak y=ak y:=fun y aW aG=>by
   rw[f_ _ _ aW]at aG⊢
   exact⟨(r2 aG).2,rfl⟩
  intro aT v ay eA
  exact(ar.bo ev rfl (xu ab an) (fun _ _ _ _ _ _=>rfl) (fun _ _=>rfl) _).1 _ _ _ (Nat.le_refl _) (fun _ _=>rfl) eA
 have ev:∀y,y≠x→(bZ (e_ x s) x (j.put q d.bT (s x)) y).tree=true→bZ (e_ x s) x (j.put q d.bT (s x)) y=s y∧ak y=ak y:=fun y aW aG=>by
  rw[f_ _ _ aW]at aG⊢
  exact⟨(r2 aG).2,rfl⟩
 have h0:=xu (s:=s) (x:=x) ab an
 constructor
 case ep=>exact h.ep
 case eC=>exact h.eC
 case c_=>exact h.c_
 case cP=>exact fun u b I=>by simp only[dV]at I;split at I;exact h.cP x b (aD b I);exact h.cP u b I
 case dj=>exact fun u b I=>by simp only[dV]at I;split at I;exact h.dj x b (aD b I);exact h.dj u b I
 case c8=>
  intro u y b cg I aW
  simp only[dV]at I aW
  split at I
  ·rename_i hu
   rw[if_neg (fun e=>cg (hu.trans e.symm))]at aW
   exact h.c8 x y b (fun e=>cg (hu.trans e)) (aD b I) aW
  ·rename_i hu
   split at aW
   ·exact h.c8 u x b hu I (aD b aW)
   ·exact h.c8 u y b cg I aW
 case cf=>exact fun u b I=>by simp only[dV]at I;split at I;exact h.cf x b (aD b I);exact h.cf u b I
 case b0=>
  intro u
  by_cases hu:u=x
  ·subst hu
   rw[iA,p9]
   rcases CJ with⟨aE,aL⟩|e
   ·exact(ar.bx aL).2 ⟨aE,gB⟩
   ·rw[e,ar];trivial
  ·rw[f_ _ _ hu,p_ _ _ hu]
   exact(ar.bo ev rfl h0 (fun _ _ _ _ _ _=>rfl) (fun _ _=>rfl) _).1 _ _ _ (Nat.le_refl _) (fun _ _=>rfl) (h.b0 u)
 case old=>exact h.old
 case size=>exact h.size
 case os=>exact h.os
 case tape=>exact h.tape
 case output=>exact h.output
 case er=>exact h.er
theorem aY.store (h:aY w0 F0 X F S s ak w) {x:Nat} {q:List Nat} {d aT:j} (ab:j.sub q (s x)=some d) (ae:j.di q (s x)=true)
  {dz:List Value} {Sn:Nat→Prop} (aC:al w F aT dz Sn) (gM:aT.wd=d.wd)
  (cv:∀b,Sn b→b<w.heap.size) (aR:∀b,Sn b→¬F b) (ba:∀u b,Sn b→¬S u b) (bI:∀b,Sn b→X b∨w0.heap.size≤b):
  ∃(bE:List Value) (b:Nat) (l r:List Value) (cur:Array Value) (e:TypeId) (fr:Nat×Nat),bX w q (s x) (bd (ak x)) none=some (d,bE,some (b,l.length))∧
   w.heap[b]? =some (.cells cur e fr)∧cur.toList=l++(bE++r)∧hb fr cur.size∧
   ∀aq,aq.heap[b]? =some (.cells (l++(dz++r)).toArray e fr)→(∀c,c≠b→aq.heap[c]? =w.heap[c]?)→aq.heap.size=w.heap.size→aq.os=w.os→aq.tape=w.tape→Out aq w→
    ∃ay,aY w0 F0 X F ay (bZ (e_ x s) x (j.put q aT (s x))) ak aq:=by
 have aG:=e2 ab (.inr ae)
 have ao:=h.b0 x
 rw[ar.bx aG]at ao
 obtain⟨bE,a,cD,dd,dI,aD,aO,bg,b6,cJ⟩:=ctx q (s x) (bd (ak x)) (S x) none d ao.2 ab
 have CK:Deep w F q (s x) (bd (ak x)) d bE a cD:=by
  rcases cJ with⟨l,r,aE,aL,bb⟩|cJ
  ·exfalso
   have hF:∀(q:List Nat) (av:j) (cs:List Value) (a0:Option (Nat×Nat)) (d:j) (bE:List Value),j.di q av=true→bX w q av cs a0=some (d,bE,none)→False:=by
    intro q
    induction q with
    |nil=>intro av cs a0 d bE ae;simp[j.di]at ae
    |cons k q ih=>
     have xv:∀(q:List Nat) (av:j) (cs:List Value) (l:Nat×Nat) (d:j) (bE:List Value),bX w q av cs (some l)=some (d,bE,none)→False:=by
      intro q
      induction q with
      |nil=>intro av cs l d bE h;simp[bX]at h
      |cons k q r3=>
       intro av cs l d bE h
       cases av with
       |agg ag=>rw[bX]at h;split at h;exact r3 _ _ _ _ _ h;cases h
       |tuple ag=>rw[bX]at h;split at h;exact r3 _ _ _ _ _ h;cases h
       |aK sz xs=>simp only[bX]at h;split at h;exact r3 _ _ _ _ _ h;cases h
       |bc y=>
        cases k with
        |zero=>rw[bX.eq_def]at h;simp only at h;split at h;exact r3 _ _ _ _ _ h;cases h
        |succ k=>rw[show bX w ((k+1)::q) (.bc y) cs (some l)=none from rfl]at h;cases h
       |_=>simp[bX]at h
     intro av cs a0 d bE ae h
     cases av with
     |agg ag=>
      simp only[j.di]at ae
      split at ae
      ·rename_i y aW
       simp only[bX,aW]at h
       exact ih _ _ _ _ _ ae h
      ·cases ae
     |tuple ag=>
      simp only[j.di]at ae
      split at ae
      ·rename_i y aW
       simp only[bX,aW]at h
       exact ih _ _ _ _ _ ae h
      ·cases ae
     |aK sz xs=>simp only[bX]at h;split at h;exact xv _ _ _ _ _ _ h;cases h
     |bc y=>
      cases k with
      |zero=>rw[bX.eq_def]at h;simp only at h;split at h;exact xv _ _ _ _ _ _ h;cases h
      |succ k=>rw[show bX w ((k+1)::q) (.bc y) cs a0=none from rfl]at h;cases h
     |_=>simp[j.di]at ae
   simp only[Option.map_none]at aL
   subst aL
   exact hF _ _ _ _ _ _ ae dI
  ·exact cJ
 obtain⟨b,cur,e,fr,l,r,rfl,aL,bb,b2,b9,bl⟩:=CK
 refine⟨bE,b,l,r,cur,e,fr,dI,bb,b9,b2,?_⟩
 intro aq hY iC cp ua ub ng
 have nh:S x b:=aD _ aL
 have kH:∀c,F c→aq.heap[c]? =w.heap[c]? :=fun c ae=>iC c (by rintro rfl;exact h.dj x _ nh ae)
 have Po:dz.length=bE.length:=by rw[al.length _ _ _ aC,al.length _ _ _ b6,gM]
 have gB:=bl aq aT dz Sn kH (fun c _ cg=>iC c cg) hY gM
  (al.frame kH _ _ _ (fun c ae=>iC c (by rintro rfl;exact ba x _ ae nh)) aC) (fun c ae kG=>ba x c ae (aD _ kG))
 obtain⟨k,fV,rfl⟩:∃k fV,q=k::fV:=by
  cases q with
  |nil=>simp[j.di]at ae
  |cons k q=>exact⟨k,q,rfl⟩
 have qd:∀v,cl (s x) v→cl (j.put (k::fV) aT (s x)) v:=by
  intro v aC
  rcases mj k fV aT (s x)with⟨ag,gs,aE,e⟩|⟨ag,gs,aE,e⟩|⟨sz,xs,ys,aE,e⟩|⟨y,z,aE,e⟩|e
  ·rw[e];rw[aE]at aC;exact aC
  ·
   rw[aE]at aC ab ae⊢
   simp only[j.di]at ae
   split at ae
   ·rename_i y aW
    simp only[j.put,aW]
    cases fV with
    |nil=>simp[j.di]at ae
    |cons bp ek=>
     simp only[cl]at aC⊢
     obtain⟨arr,rfl,bj,jj⟩:=aC
     refine⟨arr,rfl,by simpa using bj,fun ad e gZ he ni=> ?_⟩
     rw[List.getElem?_set]at he
     split at he
     ·rename_i tZ
      subst tZ
      split at he
      ·simp only[Option.some.injEq]at he
       subst he
       obtain⟨aD,aO,bg⟩:=jj _ y gZ aW ni
       simp only[j.sub,aW]at ab
       exact⟨xr aD,xt aO,bg.trans (j.oi (bp::ek) y d aT ab gM).symm⟩
      ·cases he
     ·exact jj ad e gZ he ni
   ·cases ae
  ·rw[e];rw[aE]at aC;exact aC
  ·rw[e];rw[aE]at aC;exact aC
  ·rw[e];exact aC
 have CL:(j.put (k::fV) aT (s x)).tree=true:=by
  rcases mj k fV aT (s x)with⟨ag,gs,aE,e⟩|⟨ag,gs,aE,e⟩|⟨sz,xs,ys,aE,e⟩|⟨y,z,aE,e⟩|e<;>rw[e]<;>first|rfl|exact aG
 let aj:=bZ (e_ x s) x (j.put (k::fV) aT (s x))
 have ev:∀y,y≠x→(aj y).tree=true→aj y=s y∧ak y=ak y:=fun y aW aG=>by
  have e:aj y=bo x (s y):=f_ _ _ aW
  rw[e]at aG⊢
  exact⟨(r2 aG).2,rfl⟩
 have h0:(aj x).plain=false→(s x).plain=false∧∀v,cl (s x) v→cl (aj x) v:=by
  intro _
  refine⟨?_,?_⟩
  ·cases qc:(s x).plain with
   |false=>rfl
   |true=>rw[j.xn _ _ qc]at ae;cases ae
  ·simp only[aj,iA];exact qd
 refine⟨dV S x (fun c=>cD c∨Sn c),?_⟩
 constructor
 case ep=>exact h.ep
 case eC=>exact h.eC
 case c_=>exact fun b I=>by rw[cp];exact h.c_ b I
 case cP=>
  intro u c I
  rw[cp]
  simp only[dV]at I
  split at I
  ·rcases I with I|I
   ·exact h.cP x c (aD c I)
   ·exact cv c I
  ·exact h.cP u c I
 case dj=>
  intro u c I
  simp only[dV]at I
  split at I
  ·rcases I with I|I
   ·exact h.dj x c (aD c I)
   ·exact aR c I
  ·exact h.dj u c I
 case c8=>
  intro u y c cg I aW
  simp only[dV]at I aW
  split at I
  ·rename_i hu
   rw[if_neg (fun e=>cg (hu.trans e.symm))]at aW
   rcases I with I|I
   ·exact h.c8 x y c (fun e=>cg (hu.trans e)) (aD c I) aW
   ·exact ba y c I aW
  ·rename_i hu
   split at aW
   ·rcases aW with aW|aW
    ·exact h.c8 u x c hu I (aD c aW)
    ·exact ba u c aW I
   ·exact h.c8 u y c cg I aW
 case cf=>
  intro u c I
  simp only[dV]at I
  split at I
  ·rcases I with I|I
   ·exact h.cf x c (aD c I)
   ·exact bI c I
  ·exact h.cf u c I
 case b0=>
  intro u
  by_cases hu:u=x
  ·subst hu
   rw[iA,p9]
   exact(ar.bx CL).2 ⟨qd _ ao.1,gB⟩
  ·rw[f_ _ _ hu,p_ _ _ hu]
   have cg:∀y c,y≠x→S y c→aq.heap[c]? =w.heap[c]? :=fun y c aW ae=>iC c (by rintro rfl;exact h.c8 y x c aW ae nh)
   refine(ar.bo ev rfl h0 (fun y ek d2 aW fa qe=> ?_) kH _).1 _ _ _ (Nat.le_refl _) (fun c ae=>cg u c hu ae) (h.b0 u)
   have qf:=h.b0 y
   rw[ar.bx (e2 fa qe)]at qf
   exact r1 ek _ _ _ none d2 qf.2 fa (fun c ae=>cg y c aW ae)
 case old=>
  intro c cv ga
  by_cases ml:c=b
  ·subst ml
   exfalso
   rcases h.cf x c nh with iB|iB
   ·exact ga iB
   ·omega
  ·exact(iC c ml).trans (h.old c cv ga)
 case size=>rw[cp];exact h.size
 case os=>exact ua.trans h.os
 case tape=>exact ub.trans h.tape
 case output=>exact ng.trans h.output
 case er=>exact h.er
end
end Go.bV
