/- Part of a proof that a law returns true for every input. No condition. -/
import Derived.Test.YtpddiknnnoomoaaFwA
import Derived.Laws.AppendOwn
import Derived.Calls
namespace Go.bZ
inductive qP where
 |mp (es:List (List UInt8×Bool))
 |lq
 |fB (T e:TypeId) (hp:List UInt8)
inductive j where
 |hole
 |bool (b:Bool)
 |c2
 |int (k:IntKind) (n:Int)
 |str (s:List UInt8)
 |cw
 |bt
 |slice (xs:List j)
 |aH (sz:Nat) (xs:List j)
 |ref (d:j)
 |bm (d:j)
 |agg (ah:List j)
 |tuple (vs:List j)
 |fn (f:FuncId) (cap:List j)
 |h (x:Nat) (q:List Nat)
 |an (x:Nat) (q:List Nat)
 |I (x:Nat) (k:Nat)
 |cx (o:qP)
 deriving Inhabited
mutual
def j.wd:j→Nat
 | .agg ah=>j.cF ah
 | .tuple ah=>j.cF ah
 |_=>1
def j.cF:List j→Nat
 |[]=>0
 |d::ds=>d.wd+j.cF ds
end
def e8 (w:World) (b o:Nat) (cs:List Value):Prop:=∀ad c,cs[ad]? =some c→w.cell? ⟨b,o+ad,none⟩=some c
def hM (fr:Nat×Nat) (n:Nat):Prop:=∀o,o<n→¬(fr.1≤o∧o<fr.2)
theorem hM.le {fr:Nat×Nat} {m n:Nat} (h:hM fr n) (hm:m≤n):hM fr m:=fun o bs=>h o (Nat.lt_of_lt_of_le bs hm)
theorem hM.low {fr:Nat×Nat} {n k:Nat} (h:hM fr (n+k)):hM fr n:=h.le (Nat.le_add_right _ _)
def Value.dZ:Value→Bool
 | .agg _=>false
 | .tuple _=>false
 |_=>true
def j.single:j→Bool
 | .agg _=>false
 | .tuple _=>false
 | .hole=>false
 |_=>true
def h_ (w:World):qP→List Value→(Nat→Prop)→Prop
 | .mp es,cs,S=>∃r ms ja,cs=[.map (some r)]∧S r∧w.heap[r]? =some (.map ms ja)∧ms.toList.map (fun e=>(e.key,e.val))=es.map (fun e=>(.string ⟨⟨e.1⟩⟩,.bool e.2))
 | .lq,cs,_=>cs=[.map none]
 | .fB T e hp,cs,S=>∃b a nW,cs=[.pointer (some ⟨b,0,none⟩)]∧S b∧w.heap[b]? =some (.cells #[a,nW] T (0,0))∧(a= .pointer none∨a= .pointer (some ⟨b,0,none⟩))∧
   ((hp=[]∧nW= .slice none 0 0)∨
     ∃g cap cur,nW= .slice (some ⟨g,0,none⟩) hp.length cap∧S g∧g≠b∧w.heap[g]? =some (.cells cur e (0,0))∧hp.length≤cap∧cap≤maxLen∧cur.size=cap∧
      cur.toList.take hp.length=hp.map fun x=>.int .u8 x.toNat)
theorem h_.frame {w aq:World}:∀{o:qP} {cs:List Value} {S:Nat→Prop},(∀b,S b→aq.heap[b]? =w.heap[b]?)→h_ w o cs S→h_ aq o cs S
 | .mp _,_,_,a_,⟨r,ms,ja,U,aa,aw,aN⟩=>⟨r,ms,ja,U,aa,(a_ _ aa).trans aw,aN⟩
 | .lq,_,_,_,h=>h
 | .fB _ _ _,_,_,a_,⟨b,a,nW,U,aa,aw,aN,a8⟩=>⟨b,a,nW,U,aa,(a_ _ aa).trans aw,aN,a8.imp (fun h=>h) fun⟨g,cap,cur,m5,kB,i3,uM,qQ⟩=>⟨g,cap,cur,m5,kB,i3,(a_ _ kB).trans uM,qQ⟩⟩
theorem h_.mono {w:World}:∀{o:qP} {cs:List Value} {S az:Nat→Prop},(∀b,S b→az b)→h_ w o cs S→h_ w o cs az
 | .mp _,_,_,_,a_,⟨r,ms,ja,U,aa,aw⟩=>⟨r,ms,ja,U,a_ _ aa,aw⟩
 | .lq,_,_,_,_,h=>h
 | .fB _ _ _,_,_,_,a_,⟨b,a,nW,U,aa,aw,aN,a8⟩=>⟨b,a,nW,U,a_ _ aa,aw,aN,a8.imp (fun h=>h) fun⟨g,cap,cur,m5,kB,i3⟩=>⟨g,cap,cur,m5,a_ _ kB,i3⟩⟩
theorem h_.one {w:World}:∀{o:qP} {cs:List Value} {S:Nat→Prop},h_ w o cs S→∃v,Value.dZ v=true∧cs=[v]
 | .mp _,_,_,⟨_,_,_,h,_⟩=>⟨_,rfl,h⟩
 | .lq,_,_,h=>⟨_,rfl,h⟩
 | .fB _ _ _,_,_,⟨_,_,_,h,_⟩=>⟨_,rfl,h⟩
mutual
def ai (w:World) (F:Nat→Prop):j→List Value→(Nat→Prop)→Prop
 | .hole,cs,_=>∃v,Value.dZ v=true∧cs=[v]
 | .bool b,cs,_=>cs=[.bool b]
 | .c2,cs,_=>∃b,cs=[.bool b]
 | .int k n,cs,_=>cs=[.int k n]
 | .str s,cs,_=>cs=[.string ⟨⟨s⟩⟩]
 | .cw,cs,_=>cs=[.pointer none]
 | .bt,cs,_=>cs=[.slice none 0 0]
 | .slice xs,cs,_=>(xs=[]∧∃a c,cs=[.slice a 0 c]∧c≤maxLen∧(a=none→c=0))∨
   ∃b o cap cO sz,cs=[.slice (some ⟨b,o,none⟩) xs.length cap]∧F b∧xs.length≤cap∧cap≤maxLen∧(∀d∈xs,d.wd=sz)∧
    e8 w b o cO∧aJ w F xs cO (fun _=>False)
 | .aH sz xs,cs,S=>(xs=[]∧∃a,cs=[.slice a 0 0])∨
   ∃b cap cur e fr az,cs=[.slice (some ⟨b,0,none⟩) xs.length cap]∧S b∧w.heap[b]? =some (.cells cur e fr)∧hM fr (cur.size+(sz-1))∧
    xs.length≤cap∧cap≤maxLen∧cur.size=cap*sz∧(∀d∈xs,d.wd=sz)∧aJ w F xs (cur.toList.take (xs.length*sz)) az∧(∀c,az c→S c)∧¬az b
 | .ref d,cs,_=>∃b o cO,cs=[.pointer (some ⟨b,o,none⟩)]∧F b∧e8 w b o cO∧ai w F d cO (fun _=>False)
 | .bm d,cs,S=>∃b cur e fr az,cs=[.pointer (some ⟨b,0,none⟩)]∧S b∧w.heap[b]? =some (.cells cur e fr)∧hM fr cur.size∧
   ai w F d cur.toList az∧(∀c,az c→S c)∧¬az b
 | .agg ah,cs,S=>aJ w F ah cs S
 | .tuple ah,cs,S=>aJ w F ah cs S
 | .fn f caps,cs,_=>∃arr:Array Value,cs=[.func (.func f) #[] arr]∧(∀d∈caps,d.single=true)∧aJ w F caps arr.toList (fun _=>False)
 | .h _ _,_,_=>False
 | .an _ _,_,_=>False
 | .I _ _,_,_=>False
 | .cx o,cs,S=>h_ w o cs S
def aJ (w:World) (F:Nat→Prop):List j→List Value→(Nat→Prop)→Prop
 |[],cs,_=>cs=[]
 |d::ds,cs,S=>∃bB bF bj ch,cs=bB++bF∧ai w F d bB bj∧aJ w F ds bF ch∧(∀b,bj b→S b)∧(∀b,ch b→S b)∧(∀b,bj b→¬ch b)
end
theorem cell?_of_block {w aq:World} {b:Nat} (h:aq.heap[b]? =w.heap[b]?) (o:Nat):aq.cell? ⟨b,o,none⟩=w.cell? ⟨b,o,none⟩:=by
 simp[World.cell?,h]
theorem e8.frame {w aq:World} {b o:Nat} {cs:List Value} (h:aq.heap[b]? =w.heap[b]?) (aB:e8 w b o cs):e8 aq b o cs:=
 fun ad c ae=>(cell?_of_block h _).trans (aB ad c ae)
mutual
theorem ai.frame {w aq:World} {F:Nat→Prop} (aS:∀b,F b→aq.heap[b]? =w.heap[b]?):
  ∀(d:j) (cs:List Value) (S:Nat→Prop),(∀b,S b→aq.heap[b]? =w.heap[b]?)→ai w F d cs S→ai aq F d cs S
 | .hole,_,_,_,h=>h
 | .bool _,_,_,_,h=>h
 | .c2,_,_,_,h=>h
 | .int _ _,_,_,_,h=>h
 | .str _,_,_,_,h=>h
 | .cw,_,_,_,h=>h
 | .bt,_,_,_,h=>h
 | .slice xs,cs,S,a_,h=>by
   rw[ai]at h⊢
   rcases h with h|⟨b,o,cap,cO,sz,U,aa,aw,aN,a8,bI,bO⟩
   ·exact .inl h
   ·exact .inr ⟨b,o,cap,cO,sz,U,aa,aw,aN,a8,bI.frame (aS _ aa),aJ.frame aS xs _ _ (fun _ h=>h.elim) bO⟩
 | .aH sz xs,cs,S,a_,h=>by
   rw[ai]at h⊢
   rcases h with h|⟨b,cap,cur,e,fr,az,U,aa,aw,aN,a8,bI,bO,di,eY,eZ,hq⟩
   ·exact .inl h
   ·exact .inr ⟨b,cap,cur,e,fr,az,U,aa,(a_ _ aa).trans aw,aN,a8,bI,bO,di,aJ.frame aS xs _ _ (fun c ae=>a_ _ (eZ _ ae)) eY,eZ,hq⟩
 | .ref d,cs,S,a_,h=>by
   rw[ai]at h⊢
   obtain⟨b,o,cO,U,aa,aw,aN⟩:=h
   exact⟨b,o,cO,U,aa,aw.frame (aS _ aa),ai.frame aS d _ _ (fun _ h=>h.elim) aN⟩
 | .bm d,cs,S,a_,h=>by
   rw[ai]at h⊢
   obtain⟨b,cur,e,fr,az,U,aa,aw,aN,a8,bI,bO⟩:=h
   exact⟨b,cur,e,fr,az,U,aa,(a_ _ aa).trans aw,aN,ai.frame aS d _ _ (fun c ae=>a_ _ (bI _ ae)) a8,bI,bO⟩
 | .agg ah,cs,S,a_,h=>by rw[ai]at h⊢;exact aJ.frame aS ah _ _ a_ h
 | .tuple ah,cs,S,a_,h=>by rw[ai]at h⊢;exact aJ.frame aS ah _ _ a_ h
 | .fn _ caps,cs,S,a_,h=>by
   rw[ai]at h⊢
   obtain⟨arr,U,aa,aw⟩:=h
   exact⟨arr,U,aa,aJ.frame aS caps _ _ (fun _ h=>h.elim) aw⟩
 | .h _ _,_,_,_,h=>h
 | .an _ _,_,_,_,h=>h
 | .I _ _,_,_,_,h=>h
 | .cx _,_,_,a_,h=>h_.frame a_ h
theorem aJ.frame {w aq:World} {F:Nat→Prop} (aS:∀b,F b→aq.heap[b]? =w.heap[b]?):
  ∀(ds:List j) (cs:List Value) (S:Nat→Prop),(∀b,S b→aq.heap[b]? =w.heap[b]?)→aJ w F ds cs S→aJ aq F ds cs S
 |[],_,_,_,h=>h
 |d::ds,cs,S,a_,h=>by
  rw[aJ]at h⊢
  obtain⟨bB,bF,bj,ch,U,aa,aw,aN,a8,bI⟩:=h
  exact⟨bB,bF,bj,ch,U,ai.frame aS d _ _ (fun b I=>a_ _ (aN _ I)) aa,aJ.frame aS ds _ _ (fun b I=>a_ _ (a8 _ I)) aw,aN,a8,bI⟩
end
mutual
theorem ai.mono {w:World} {F a7:Nat→Prop} (aS:∀b,F b→a7 b):
  ∀(d:j) (cs:List Value) (S az:Nat→Prop),(∀b,S b→az b)→ai w F d cs S→ai w a7 d cs az
 | .hole,_,_,_,_,h=>h
 | .bool _,_,_,_,_,h=>h
 | .c2,_,_,_,_,h=>h
 | .int _ _,_,_,_,_,h=>h
 | .str _,_,_,_,_,h=>h
 | .cw,_,_,_,_,h=>h
 | .bt,_,_,_,_,h=>h
 | .slice xs,cs,S,_,a_,h=>by
   rw[ai]at h⊢
   rcases h with h|⟨b,o,cap,cO,sz,U,aa,aw,aN,a8,bI,bO⟩
   ·exact .inl h
   ·exact .inr ⟨b,o,cap,cO,sz,U,aS _ aa,aw,aN,a8,bI,aJ.mono aS xs _ _ _ (fun _ h=>h) bO⟩
 | .aH sz xs,cs,S,_,a_,h=>by
   rw[ai]at h⊢
   rcases h with h|⟨b,cap,cur,e,fr,az,U,aa,aw,aN,a8,bI,bO,di,eY,eZ,hq⟩
   ·exact .inl h
   ·exact .inr ⟨b,cap,cur,e,fr,az,U,a_ _ aa,aw,aN,a8,bI,bO,di,aJ.mono aS xs _ _ _ (fun _ h=>h) eY,fun c ae=>a_ _ (eZ _ ae),hq⟩
 | .ref d,cs,S,_,a_,h=>by
   rw[ai]at h⊢
   obtain⟨b,o,cO,U,aa,aw,aN⟩:=h
   exact⟨b,o,cO,U,aS _ aa,aw,ai.mono aS d _ _ _ (fun _ h=>h) aN⟩
 | .bm d,cs,S,_,a_,h=>by
   rw[ai]at h⊢
   obtain⟨b,cur,e,fr,az,U,aa,aw,aN,a8,bI,bO⟩:=h
   exact⟨b,cur,e,fr,az,U,a_ _ aa,aw,aN,ai.mono aS d _ _ _ (fun _ h=>h) a8,fun c ae=>a_ _ (bI _ ae),bO⟩
 | .agg ah,cs,S,_,a_,h=>by rw[ai]at h⊢;exact aJ.mono aS ah _ _ _ a_ h
 | .tuple ah,cs,S,_,a_,h=>by rw[ai]at h⊢;exact aJ.mono aS ah _ _ _ a_ h
 | .fn _ caps,cs,S,_,a_,h=>by
   rw[ai]at h⊢
   obtain⟨arr,U,aa,aw⟩:=h
   exact⟨arr,U,aa,aJ.mono aS caps _ _ _ (fun _ h=>h) aw⟩
 | .h _ _,_,_,_,_,h=>h
 | .an _ _,_,_,_,_,h=>h
 | .I _ _,_,_,_,_,h=>h
 | .cx _,_,_,_,a_,h=>h_.mono a_ h
theorem aJ.mono {w:World} {F a7:Nat→Prop} (aS:∀b,F b→a7 b):
  ∀(ds:List j) (cs:List Value) (S az:Nat→Prop),(∀b,S b→az b)→aJ w F ds cs S→aJ w a7 ds cs az
 |[],_,_,_,_,h=>h
 |d::ds,cs,S,_,a_,h=>by
  rw[aJ]at h⊢
  obtain⟨bB,bF,bj,ch,U,aa,aw,aN,a8,bI⟩:=h
  exact⟨bB,bF,bj,ch,U,ai.mono aS d _ _ _ (fun _ h=>h) aa,aJ.mono aS ds _ _ _ (fun _ h=>h) aw,fun b I=>a_ _ (aN _ I),fun b I=>a_ _ (a8 _ I),bI⟩
end
mutual
theorem ai.length {w:World} {F:Nat→Prop}:∀(d:j) (cs:List Value) (S:Nat→Prop),ai w F d cs S→cs.length=d.wd
 | .hole,cs,S,h=>by rw[ai]at h;obtain⟨v,_,rfl⟩:=h;rfl
 | .bool _,cs,S,h=>by rw[ai]at h;subst h;rfl
 | .c2,cs,S,h=>by rw[ai]at h;obtain⟨b,rfl⟩:=h;rfl
 | .int _ _,cs,S,h=>by rw[ai]at h;subst h;rfl
 | .str _,cs,S,h=>by rw[ai]at h;subst h;rfl
 | .cw,cs,S,h=>by rw[ai]at h;subst h;rfl
 | .bt,cs,S,h=>by rw[ai]at h;subst h;rfl
 | .slice xs,cs,S,h=>by
   rw[ai]at h
   rcases h with⟨_,a,c,rfl,_⟩|⟨b,o,cap,cO,sz,rfl,_⟩<;>rfl
 | .aH sz xs,cs,S,h=>by
   rw[ai]at h
   rcases h with⟨_,a,rfl⟩|⟨b,cap,cur,e,fr,az,rfl,_⟩<;>rfl
 | .ref d,cs,S,h=>by rw[ai]at h;obtain⟨b,o,cO,rfl,_⟩:=h;rfl
 | .bm d,cs,S,h=>by rw[ai]at h;obtain⟨b,o,cO,_,_,rfl,_⟩:=h;rfl
 | .agg ah,cs,S,h=>by rw[ai]at h;exact aJ.length ah _ _ h
 | .tuple ah,cs,S,h=>by rw[ai]at h;exact aJ.length ah _ _ h
 | .fn _ _,cs,S,h=>by rw[ai]at h;obtain⟨arr,rfl,_⟩:=h;rfl
 | .h _ _,cs,S,h=>by rw[ai]at h;exact h.elim
 | .an _ _,cs,S,h=>by rw[ai]at h;exact h.elim
 | .I _ _,cs,S,h=>by rw[ai]at h;exact h.elim
 | .cx _,cs,S,h=>by rw[ai]at h;obtain⟨v,_,rfl⟩:=h_.one h;rfl
theorem aJ.length {w:World} {F:Nat→Prop}:∀(ds:List j) (cs:List Value) (S:Nat→Prop),aJ w F ds cs S→cs.length=j.cF ds
 |[],cs,S,h=>by rw[aJ]at h;subst h;rfl
 |d::ds,cs,S,h=>by
  rw[aJ]at h
  obtain⟨bB,bF,bj,ch,rfl,aa,aw,_⟩:=h
  rw[List.length_append,ai.length d _ _ aa,aJ.length ds _ _ aw,j.cF]
end
mutual
def j.share:j→j
 | .aH _ xs=>.slice (j.shares xs)
 | .bm d=>.ref d.share
 | .slice xs=>.slice (j.shares xs)
 | .ref d=>.ref d.share
 | .agg ah=>.agg (j.shares ah)
 | .tuple ah=>.tuple (j.shares ah)
 | .cx _=>.hole
 |d=>d
def j.shares:List j→List j
 |[]=>[]
 |d::ds=>d.share::j.shares ds
end
theorem j.nX (ds:List j):j.shares ds=ds.map j.share:=by
 induction ds with
 |nil=>rfl
 |cons d ds ih=>simp[j.shares,ih]
mutual
theorem j.sN:∀d:j,d.share.wd=d.wd
 | .hole=>rfl
 | .bool _=>rfl
 | .c2=>rfl
 | .int _ _=>rfl
 | .str _=>rfl
 | .cw=>rfl
 | .bt=>rfl
 | .slice _=>rfl
 | .aH _ _=>rfl
 | .ref _=>rfl
 | .bm _=>rfl
 | .agg ah=>by simp only[j.share,j.wd];exact j.uN ah
 | .tuple ah=>by simp only[j.share,j.wd];exact j.uN ah
 | .fn _ _=>rfl
 | .h _ _=>rfl
 | .an _ _=>rfl
 | .I _ _=>rfl
 | .cx _=>rfl
theorem j.uN:∀ds:List j,j.cF (j.shares ds)=j.cF ds
 |[]=>rfl
 |d::ds=>by simp only[j.shares,j.cF];rw[j.sN d,j.uN ds]
end
theorem pg {w:World} {b:Nat} {cur:Array Value} {e:TypeId} {fr:Nat×Nat} (h:w.heap[b]? =some (.cells cur e fr)) (n:Nat):e8 w b 0 (cur.toList.take n):=by
 intro ad c ae
 rw[List.getElem?_take]at ae
 split at ae
 ·simp[World.cell?,h];simpa using ae
 ·cases ae
mutual
theorem ai.shared {w:World} {F a7:Nat→Prop} (aS:∀b,F b→a7 b):
  ∀(d:j) (cs:List Value) (S:Nat→Prop),(∀b,S b→a7 b)→ai w F d cs S→ai w a7 d.share cs (fun _=>False)
 | .hole,_,_,_,h=>h
 | .bool _,_,_,_,h=>h
 | .c2,_,_,_,h=>h
 | .int _ _,_,_,_,h=>h
 | .str _,_,_,_,h=>h
 | .cw,_,_,_,h=>h
 | .bt,_,_,_,h=>h
 | .slice xs,cs,S,a_,h=>by
   rw[j.share,ai]
   rw[ai]at h
   rcases h with⟨rfl,a,c,rfl,ae⟩|⟨b,o,cap,cO,sz,U,aa,aw,aN,a8,bI,bO⟩
   ·exact .inl ⟨rfl,a,c,rfl,ae⟩
   ·refine .inr ⟨b,o,cap,cO,sz,?_,aS _ aa,?_,aN,?_,bI,aJ.shared aS xs _ _ (fun _ h=>h.elim) bO⟩
    ·simpa [j.nX]using U
    ·simpa [j.nX]using aw
    ·intro d ab
     rw[j.nX]at ab
     obtain⟨aV,eJ,rfl⟩:=List.mem_map.1 ab
     rw[j.sN];exact a8 _ eJ
 | .aH sz xs,cs,S,a_,h=>by
   rw[j.share,ai]
   rw[ai]at h
   rcases h with⟨rfl,a,rfl⟩|⟨b,cap,cur,e,fr,az,U,aa,aw,aN,a8,bI,bO,di,eY,eZ,hq⟩
   ·exact .inl ⟨rfl,a,0,rfl,Nat.zero_le _,fun _=>rfl⟩
   ·refine .inr ⟨b,0,cap,_,sz,?_,a_ _ aa,?_,bI,?_,pg aw _,aJ.shared aS xs _ _ (fun c ae=>a_ _ (eZ _ ae)) eY⟩
    ·simpa [j.nX]using U
    ·simpa [j.nX]using a8
    ·intro d ab
     rw[j.nX]at ab
     obtain⟨aV,eJ,rfl⟩:=List.mem_map.1 ab
     rw[j.sN];exact di _ eJ
 | .ref d,cs,S,a_,h=>by
   rw[j.share,ai]
   rw[ai]at h
   obtain⟨b,o,cO,U,aa,aw,aN⟩:=h
   exact⟨b,o,cO,U,aS _ aa,aw,ai.shared aS d _ _ (fun _ h=>h.elim) aN⟩
 | .bm d,cs,S,a_,h=>by
   rw[j.share,ai]
   rw[ai]at h
   obtain⟨b,cur,e,fr,az,U,aa,aw,aN,a8,bI,bO⟩:=h
   refine⟨b,0,cur.toList,U,a_ _ aa,?_,ai.shared aS d _ _ (fun c ae=>a_ _ (bI _ ae)) a8⟩
   have:=pg aw cur.toList.length
   rwa [List.take_length]at this
 | .agg ah,cs,S,a_,h=>by rw[j.share,ai];rw[ai]at h;exact aJ.shared aS ah _ _ a_ h
 | .tuple ah,cs,S,a_,h=>by rw[j.share,ai];rw[ai]at h;exact aJ.shared aS ah _ _ a_ h
 | .fn f caps,cs,S,a_,h=>by
   show ai w a7 (.fn f caps) cs _
   rw[ai]at h⊢
   obtain⟨arr,U,aa,aw⟩:=h
   exact⟨arr,U,aa,aJ.mono aS caps _ _ _ (fun _ h=>h) aw⟩
 | .h _ _,_,_,_,h=>h
 | .an _ _,_,_,_,h=>h
 | .I _ _,_,_,_,h=>h
 | .cx _,cs,S,a_,h=>by rw[ai]at h;rw[j.share,ai];exact h_.one h
theorem aJ.shared {w:World} {F a7:Nat→Prop} (aS:∀b,F b→a7 b):
  ∀(ds:List j) (cs:List Value) (S:Nat→Prop),(∀b,S b→a7 b)→aJ w F ds cs S→aJ w a7 (j.shares ds) cs (fun _=>False)
 |[],_,_,_,h=>h
 |d::ds,cs,S,a_,h=>by
  simp only[j.shares]
  rw[aJ]at h⊢
  obtain⟨bB,bF,bj,ch,U,aa,aw,aN,a8,bI⟩:=h
  exact⟨bB,bF,_,_,U,ai.shared aS d _ _ (fun b I=>a_ _ (aN _ I)) aa,aJ.shared aS ds _ _ (fun b I=>a_ _ (a8 _ I)) aw,fun _ h=>h,fun _ h=>h,fun _ h=>h.elim⟩
end
def j.sub:List Nat→j→Option j
 |[],d=>some d
 |k::q,.agg ah=>match ah[k]? with
  |some d=>j.sub q d
  |none=>none
 |k::q,.tuple ah=>match ah[k]? with
  |some d=>j.sub q d
  |none=>none
 |i::q,.aH _ xs=>match xs[i]? with
  |some d=>j.sub q d
  |none=>none
 |0::q,.bm d=>j.sub q d
 |_::_,_=>none
def j.put:List Nat→j→j→j
 |[],n,_=>n
 |k::q,n,.agg ah=>match ah[k]? with
  |some d=>.agg (ah.set k (j.put q n d))
  |none=>.agg ah
 |k::q,n,.tuple ah=>match ah[k]? with
  |some d=>.tuple (ah.set k (j.put q n d))
  |none=>.tuple ah
 |i::q,n,.aH sz xs=>match xs[i]? with
  |some d=>.aH sz (xs.set i (j.put q n d))
  |none=>.aH sz xs
 |0::q,n,.bm d=>.bm (j.put q n d)
 |_::_,_,d=>d
def jF (w:World) (b o n:Nat):List Value:=(List.range n).map fun ad=>(w.cell? ⟨b,o+ad,none⟩).getD undef
theorem e8.jF {w:World} {b o:Nat} {cs:List Value} (h:e8 w b o cs):jF w b o cs.length=cs:=by
 unfold bZ.jF
 apply List.ext_getElem?
 intro i
 rw[List.getElem?_map]
 by_cases ay:i<cs.length
 ·have:cs[i]? =some cs[i]:=List.getElem?_eq_getElem ay
  simp[ay,h i _ this]
 ·simp[ay]
def b0 (w:World):List Nat→j→List Value→Option (Nat×Nat)→Option (j×List Value×Option (Nat×Nat))
 |[],d,cs,a=>some (d,cs,a)
 |k::q,.agg ah,cs,a=>match ah[k]? with
  |some d=>b0 w q d ((cs.drop (j.cF (ah.take k))).take d.wd) (a.map fun l=>(l.1,l.2+j.cF (ah.take k)))
  |none=>none
 |k::q,.tuple ah,cs,a=>match ah[k]? with
  |some d=>b0 w q d ((cs.drop (j.cF (ah.take k))).take d.wd) (a.map fun l=>(l.1,l.2+j.cF (ah.take k)))
  |none=>none
 |i::q,.aH sz xs,cs,_=>match xs[i]?,cs with
  |some d,[.slice (some ⟨b,_,_⟩) _ _]=>b0 w q d (jF w b (i*sz) sz) (some (b,i*sz))
  |_,_=>none
 |0::q,.bm d,cs,_=>match cs with
  |[.pointer (some ⟨b,_,_⟩)]=>b0 w q d (jF w b 0 d.wd) (some (b,0))
  |_=>none
 |_::_,_,_,_=>none
theorem nY (bB dB bF:List Value) (n m:Nat) (U:bB.length=n) (aa:dB.length=m):((bB++(dB++bF)).drop n).take m=dB:=by
 rw[List.drop_left' U,List.take_left' aa]
theorem aJ.pick {w:World} {F:Nat→Prop}:∀(ds:List j) (cs:List Value) (S:Nat→Prop) (k:Nat) (d:j),
  aJ w F ds cs S→ds[k]? =some d→∃(bB dB bF:List Value) (bj e9:Nat→Prop),cs=bB++(dB++bF)∧bB.length=j.cF (ds.take k)∧
   (∀b,bj b→S b)∧(∀b,e9 b→S b)∧(∀b,bj b→¬e9 b)∧ai w F d dB e9∧
   ∀(aq:World) (aV:j) (nZ:List Value) (az:Nat→Prop),(∀b,F b→aq.heap[b]? =w.heap[b]?)→(∀b,bj b→aq.heap[b]? =w.heap[b]?)→
    ai aq F aV nZ az→(∀b,az b→¬bj b)→aJ aq F (ds.set k aV) (bB++(nZ++bF)) (fun b=>bj b∨az b)
 |[],_,_,_,_,_,al=>by simp at al
 |x::ds,cs,S,0,d,h,al=>by
  rw[aJ]at h
  obtain⟨bB,bF,e0,eh,rfl,U,aa,bN,I,fC⟩:=h
  simp at al;subst al
  refine⟨[],bB,bF,eh,e0,rfl,rfl,I,bN,fun b I bN=>fC _ bN I,U,?_⟩
  intro aq aV nZ az aS a_ ab fZ
  simp only[List.set_cons_zero,List.nil_append]
  rw[aJ]
  exact⟨nZ,bF,az,eh,rfl,ab,aJ.frame aS _ _ _ a_ aa,fun b h=>.inr h,fun b h=>.inl h,fun b h=>fZ b h⟩
 |x::ds,cs,S,k+1,d,h,al=>by
  rw[aJ]at h
  obtain⟨kC,DF,e0,eh,rfl,U,aa,bN,I,fC⟩:=h
  simp only[List.getElem?_cons_succ]at al
  have hl:=ai.length _ _ _ U
  obtain⟨bB,dB,bF,bj,e9,rfl,jW,m5,kB,i3,qQ,uO⟩:=aJ.pick ds DF eh k d aa al
  refine⟨kC++bB,dB,bF,fun b=>e0 b∨bj b,e9,by simp,by simp[j.cF,hl,jW],?_,fun b h=>I _ (kB _ h),?_,qQ,?_⟩
  ·rintro b (h|h)
   ·exact bN _ h
   ·exact I _ (m5 _ h)
  ·rintro b (h|h) al
   ·exact fC _ h (kB _ al)
   ·exact i3 _ h al
  ·intro aq aV nZ az aS a_ ab fZ
   simp only[List.set_cons_succ]
   rw[aJ]
   refine⟨kC,bB++(nZ++bF),e0,fun b=>bj b∨az b,by simp,ai.frame aS _ _ _ (fun b I=>a_ b (.inl I)) U,
    uO aq aV nZ az aS (fun b I=>a_ b (.inr I)) ab (fun b I ae=>fZ b I (.inr ae)),fun b h=>.inl (.inl h),?_,?_⟩
   ·rintro b (h|h)
    ·exact .inl (.inr h)
    ·exact .inr h
   ·rintro b h (a2|a2)
    ·exact fC _ h (m5 _ a2)
    ·exact fZ _ a2 (.inl h)
theorem uP:∀(ah:List j) (k:Nat) (x y:j),ah[k]? =some x→y.wd=x.wd→j.cF (ah.set k y)=j.cF ah:=by
 intro ah
 induction ah with
 |nil=>intro k x y h;simp at h
 |cons a ah ih=>
  intro k x y h e
  cases k with
  |zero=>simp at h;subst h;simp[j.cF,e]
  |succ k=>simp at h;simp[j.cF,ih k x y h e]
theorem n0 {sz:Nat}:∀(xs:List j),(∀d∈xs,d.wd=sz)→j.cF xs=xs.length*sz
 |[],_=>by simp[j.cF]
 |x::xs,h=>by
  rw[j.cF,h x (by simp),n0 xs (fun d ab=>h d (by simp[ab])),List.length_cons,Nat.add_mul,Nat.one_mul,Nat.add_comm]
theorem j.ph:∀(q:List Nat) (av d aV:j),j.sub q av=some d→aV.wd=d.wd→(j.put q aV av).wd=av.wd:=by
 intro q
 induction q with
 |nil=>intro av d aV h e;simp[j.sub]at h;subst h;simpa [j.put]using e
 |cons k q ih=>
  intro av d aV h e
  cases av with
  |agg ah=>
   simp only[j.sub]at h
   split at h
   ·rename_i x ao
    simp only[j.put,ao,j.wd]
    exact uP _ _ _ _ ao (ih _ _ _ h e)
   ·cases h
  |tuple ah=>
   simp only[j.sub]at h
   split at h
   ·rename_i x ao
    simp only[j.put,ao,j.wd]
    exact uP _ _ _ _ ao (ih _ _ _ h e)
   ·cases h
  |aH sz xs=>
   simp only[j.sub]at h
   split at h
   ·rename_i x ao
    simp only[j.put,ao,j.wd]
   ·cases h
  |bm x=>
   cases k with
   |zero=>simp only[j.put,j.wd]
   |succ k=>simp[j.sub]at h
  |_=>simp[j.sub]at h
theorem uQ {sz:Nat} {xs:List j} {i:Nat} {y:j} (h:∀d∈xs,d.wd=sz) (aT:y.wd=sz):∀d∈xs.set i y,d.wd=sz:=by
 intro d ab
 rcases List.mem_or_eq_of_mem_set ab with ab|rfl
 ·exact h d ab
 ·exact aT
theorem pj {w:World} {b:Nat} {cur:Array Value} {e:TypeId} {fr:Nat×Nat} (h:w.heap[b]? =some (.cells cur e fr)) {l m r:List Value} (ae:cur.toList=l++(m++r)):
  jF w b l.length m.length=m:=by
 refine e8.jF (fun ad c aU=> ?_)
 have cC:ad<m.length:=(List.getElem?_eq_some_iff.1 aU).1
 have:cur.toList[l.length+ad]? =some c:=by
  rw[ae,List.getElem?_append_right (by omega),List.getElem?_append_left (by omega)]
  rw[←aU];congr 1;omega
 simp[World.cell?,h]
 simpa using this
def Flat (w:World) (F:Nat→Prop) (q:List Nat) (av:j) (cs:List Value) (a:Option (Nat×Nat)) (d:j) (bG:List Value) (bM:Option (Nat×Nat)) (cI:Nat→Prop):Prop:=
 ∃l r:List Value,cs=l++(bG++r)∧bM=a.map (fun x=>(x.1,x.2+l.length))∧
  ∀(aq:World) (aV:j) (dC:List Value) (az:Nat→Prop),(∀b,F b→aq.heap[b]? =w.heap[b]?)→(∀b,cI b→aq.heap[b]? =w.heap[b]?)→
   aV.wd=d.wd→ai aq F aV dC az→(∀b,az b→¬cI b)→ai aq F (j.put q aV av) (l++(dC++r)) (fun b=>cI b∨az b)
def Deep (w:World) (F:Nat→Prop) (q:List Nat) (av:j) (cs:List Value) (d:j) (bG:List Value) (bM:Option (Nat×Nat)) (cI:Nat→Prop):Prop:=
 ∃(b:Nat) (cur:Array Value) (e:TypeId) (fr:Nat×Nat) (l r:List Value),bM=some (b,l.length)∧cI b∧w.heap[b]? =some (.cells cur e fr)∧hM fr cur.size∧cur.toList=l++(bG++r)∧
  ∀(aq:World) (aV:j) (dC:List Value) (az:Nat→Prop),(∀b,F b→aq.heap[b]? =w.heap[b]?)→(∀c,cI c→c≠b→aq.heap[c]? =w.heap[c]?)→
   aq.heap[b]? =some (.cells (l++(dC++r)).toArray e fr)→
   aV.wd=d.wd→ai aq F aV dC az→(∀b,az b→¬cI b)→ai aq F (j.put q aV av) cs (fun b=>cI b∨az b)
theorem ctx {w:World} {F:Nat→Prop}:∀(q:List Nat) (av:j) (cs:List Value) (S:Nat→Prop) (a:Option (Nat×Nat)) (d:j),
  ai w F av cs S→j.sub q av=some d→∃(bG:List Value) (bM:Option (Nat×Nat)) (cI df:Nat→Prop),b0 w q av cs a=some (d,bG,bM)∧
   (∀b,cI b→S b)∧(∀b,df b→S b)∧(∀b,cI b→¬df b)∧ai w F d bG df∧(Flat w F q av cs a d bG bM cI∨Deep w F q av cs d bG bM cI):=by
 intro q
 induction q with
 |nil=>
  intro av cs S a d h ab
  simp[j.sub]at ab;subst ab
  refine⟨cs,a,fun _=>False,S,rfl,fun _ h=>h.elim,fun _ h=>h,fun _ h=>h.elim,h,.inl ⟨[],[],by simp,?_,?_⟩⟩
  ·cases a<;>simp
  ·intro aq aV dC az _ _ hw eJ _
   simp only[j.put,List.nil_append,List.append_nil]
   exact ai.mono (fun _ h=>h) _ _ _ _ (fun b h=>.inr h) eJ
 |cons k q ih=>
  have fields:∀(mk:List j→j) (uR:∀(w:World) (F:Nat→Prop) (ah:List j) (cs:List Value) (S:Nat→Prop),ai w F (mk ah) cs S=aJ w F ah cs S) (ah:List j) (cs:List Value) (S:Nat→Prop) (a:Option (Nat×Nat)) (x d:j),
    (gY:∀aV,j.put (k::q) aV (mk ah)=mk (ah.set k (j.put q aV x)))→aJ w F ah cs S→ah[k]? =some x→j.sub q x=some d→
    ∃(bG:List Value) (bM:Option (Nat×Nat)) (cI df:Nat→Prop),b0 w q x ((cs.drop (j.cF (ah.take k))).take x.wd) (a.map fun l=>(l.1,l.2+j.cF (ah.take k)))=some (d,bG,bM)∧
    (∀b,cI b→S b)∧(∀b,df b→S b)∧(∀b,cI b→¬df b)∧ai w F d bG df∧(Flat w F (k::q) (mk ah) cs a d bG bM cI∨Deep w F (k::q) (mk ah) cs d bG bM cI):=by
   intro mk uR ah cs S a x d gY h ao ab
   obtain⟨bB,dB,bF,bj,e9,rfl,e1,dD,eK,fo,dK,iG⟩:=aJ.pick ah cs S k x h ao
   have hl:=ai.length _ _ _ dK
   rw[nY bB dB bF _ _ e1 hl]
   obtain⟨bG,bM,cI,df,dL,aE,aO,bg,cd,cQ⟩:=ih x _ e9 (a.map fun l=>(l.1,l.2+j.cF (ah.take k))) d dK ab
   refine⟨bG,bM,fun b=>bj b∨cI b,df,dL,?_,fun b I=>eK _ (aO _ I),?_,cd,?_⟩
   ·rintro b (h|h)
    ·exact dD _ h
    ·exact eK _ (aE _ h)
   ·rintro b (h|h) ab
    ·exact fo _ h (aO _ ab)
    ·exact bg _ h ab
   ·have da:∀(b:Nat) (az:Nat→Prop),(bj b∨cI b∨az b)→((bj b∨cI b)∨az b):=by
     rintro b az (I|I|I)
     ·exact .inl (.inl I)
     ·exact .inl (.inr I)
     ·exact .inr I
    rcases cQ with⟨l,r,rfl,aL,a1⟩|⟨b,cur,e,fr,l,r,aG,aL,a1,b2,cb,bp⟩
    ·refine .inl ⟨bB++l,r++bF,by simp,?_,?_⟩
     ·rw[aL,←e1];cases a<;>simp[Nat.add_assoc]
     ·intro aq aV dC az aS a_ hw eJ fZ
      have dw:=a1 aq aV dC az aS (fun b I=>a_ b (.inr I)) hw eJ (fun b I ae=>fZ b I (.inr ae))
      have cy:=iG aq _ _ _ aS (fun b I=>a_ b (.inl I)) dw (by
       rintro b (I|I) U
       ·exact fo _ U (aE _ I)
       ·exact fZ _ I (.inl U))
      rw[gY,uR]
      have:=aJ.mono (fun _ h=>h) _ _ _ _ (fun b=>da b az) cy
      simpa using this
    ·refine .inr ⟨b,cur,e,fr,l,r,aG,.inr aL,a1,b2,cb,?_⟩
     intro aq aV dC az aS a_ iH hw eJ fZ
     have dw:=bp aq aV dC az aS (fun c ae=>a_ c (.inr ae)) iH hw eJ (fun b I ae=>fZ b I (.inr ae))
     have cy:=iG aq _ _ _ aS (fun c ae=>a_ c (.inl ae) (by rintro rfl;exact fo _ ae (aE _ aL))) dw (by
       rintro b (I|I) U
       ·exact fo _ U (aE _ I)
       ·exact fZ _ I (.inl U))
     rw[gY,uR]
     exact aJ.mono (fun _ h=>h) _ _ _ _ (fun b=>da b az) cy
  intro av cs S a d h ab
  cases av with
  |agg ah=>
   simp only[j.sub]at ab
   split at ab
   ·rename_i x ao
    rw[ai]at h
    have:=fields .agg (fun _ _ _ _ _=>by rw[ai]) ah cs S a x d (fun aV=>by simp only[j.put,ao]) h ao ab
    simpa only[b0,ao]using this
   ·cases ab
  |tuple ah=>
   simp only[j.sub]at ab
   split at ab
   ·rename_i x ao
    rw[ai]at h
    have:=fields .tuple (fun _ _ _ _ _=>by rw[ai]) ah cs S a x d (fun aV=>by simp only[j.put,ao]) h ao ab
    simpa only[b0,ao]using this
   ·cases ab
  |aH sz xs=>
   simp only[j.sub]at ab
   split at ab
   ·rename_i x ao
    rw[ai]at h
    rcases h with⟨rfl,_,rfl⟩|⟨b,cap,cur,e,fr,cl,rfl,aa,aw,aN,a8,bI,bO,di,eY,eZ,hq⟩
    ·simp at ao
    ·obtain⟨bB,dB,bF,bj,e9,p,e1,dD,eK,fo,dK,iG⟩:=aJ.pick xs _ cl k x eY ao
     have hl:=ai.length _ _ _ dK
     have DG:k<xs.length:=(List.getElem?_eq_some_iff.1 ao).1
     have qR:x.wd=sz:=di x (List.mem_of_getElem? ao)
     have bs:j.cF (xs.take k)=k*sz:=by
      rw[n0 _ (fun d ab=>di d (List.mem_of_mem_take ab))]
      rw[List.length_take,Nat.min_eq_left (by omega)]
     obtain⟨mh,hN⟩:∃mh,cur.toList=bB++(dB++(bF++mh)):=by
      refine⟨cur.toList.drop (xs.length*sz),?_⟩
      have:=(List.take_append_drop (xs.length*sz) cur.toList).symm
      rw[p]at this
      simpa using this
     have gK:jF w b (k*sz) sz=dB:=by
      have:=pj aw hN
      rwa [e1,bs,hl,qR]at this
     obtain⟨bG,bM,cI,df,dL,aE,aO,bg,cd,cQ⟩:=ih x _ e9 (some (b,k*sz)) d dK ab
     have gY:∀aV,j.put (k::q) aV (.aH sz xs)= .aH sz (xs.set k (j.put q aV x)):=fun aV=>by simp only[j.put,ao]
     refine⟨bG,bM,fun c=>c=b∨bj c∨cI c,df,?_,?_,fun c ae=>eZ _ (eK _ (aO _ ae)),?_,cd,.inr ?_⟩
     ·simp only[b0,ao,gK];exact dL
     ·rintro c (rfl|h|h)
      ·exact aa
      ·exact eZ _ (dD _ h)
      ·exact eZ _ (eK _ (aE _ h))
     ·rintro c (rfl|h|h) ab
      ·exact hq (eK _ (aO _ ab))
      ·exact fo _ h (aO _ ab)
      ·exact bg _ h ab
     ·have g9:∀aV,aV.wd=d.wd→(j.put q aV x).wd=sz:=fun aV hw=>(j.ph q x d aV ab hw).trans qR
      rcases cQ with⟨l,r,rfl,aL,a1⟩|⟨dr,iI,ei,uS,l,r,aG,aL,a1,b2,cb,bp⟩
      ·refine⟨b,cur,e,fr,bB++l,r++(bF++mh),?_,.inl rfl,aw,aN.low,?_,?_⟩
       ·rw[aL];simp[e1,bs]
       ·rw[hN];simp
       ·intro aq aV dC az aS a_ iH hw eJ fZ
        have dw:=a1 aq aV dC az aS (fun c ae=>a_ c (.inr (.inr ae)) (by rintro rfl;exact hq (eK _ (aE _ ae)))) hw eJ (fun b I ae=>fZ b I (.inr (.inr ae)))
        have cy:=iG aq _ _ _ aS (fun c ae=>a_ c (.inr (.inl ae)) (by rintro rfl;exact hq (dD _ ae))) dw (by
         rintro b (I|I) U
         ·exact fo _ U (aE _ I)
         ·exact fZ _ I (.inr (.inl U)))
        have jG:=ai.length _ _ _ eJ
        have qS:=ai.length _ _ _ cd
        rw[gY,ai]
        refine .inr ⟨b,cap,_,e,fr,fun b=>bj b∨cI b∨az b,by simp,.inl (.inl rfl),iH,?_,by simpa using a8,bI,?_,uQ di (g9 aV hw),?_,?_,?_⟩
        ·have:(bB++l++(dC++(r++(bF++mh)))).toArray.size=cur.size:=by
          have:cur.size=cur.toList.length:=by simp
          rw[this,hN];simp[jG,qS,hw]
         rw[this];exact aN
        ·rw[←bO]
         have:cur.size=cur.toList.length:=by simp
         rw[this,hN];simp[jG,qS,hw]
        ·have hlen:(bB++(l++(dC++r)++bF)).length=xs.length*sz:=by
          have:=congrArg List.length p
          rw[List.length_take,Nat.min_eq_left (by simp[bO];exact Nat.mul_le_mul_right _ a8)]at this
          rw[this];simp[jG,qS,hw]
         have:(bB++l++(dC++(r++(bF++mh))))=(bB++(l++(dC++r)++bF))++mh:=by simp
         rw[List.length_set]
         simp only[this]
         rw[List.take_left' hlen]
         exact cy
        ·rintro c (h|h|h)
         ·exact .inl (.inr (.inl h))
         ·exact .inl (.inr (.inr h))
         ·exact .inr h
        ·rintro(h|h|h)
         ·exact hq (dD _ h)
         ·exact hq (eK _ (aE _ h))
         ·exact fZ _ h (.inl rfl)
      ·refine⟨dr,iI,ei,uS,l,r,aG,.inr (.inr aL),a1,b2,cb,?_⟩
       intro aq aV dC az aS a_ iH hw eJ fZ
       have dw:=bp aq aV dC az aS (fun c ae cr=>a_ c (.inr (.inr ae)) cr) iH hw eJ (fun b I ae=>fZ b I (.inr (.inr ae)))
       have cr:∀c,bj c→c≠dr:=by rintro c ae rfl;exact fo _ ae (aE _ aL)
       have cy:=iG aq _ _ _ aS (fun c ae=>a_ c (.inr (.inl ae)) (cr c ae)) dw (by
        rintro b (I|I) U
        ·exact fo _ U (aE _ I)
        ·exact fZ _ I (.inr (.inl U)))
       have uT:b≠dr:=by rintro rfl;exact hq (eK _ (aE _ aL))
       rw[gY,ai]
       refine .inr ⟨b,cap,cur,e,fr,fun b=>bj b∨cI b∨az b,by simp,.inl (.inl rfl),(a_ b (.inl rfl) uT).trans aw,aN,by simpa using a8,bI,bO,uQ di (g9 aV hw),?_,?_,?_⟩
       ·rw[List.length_set,p];exact cy
       ·rintro c (h|h|h)
        ·exact .inl (.inr (.inl h))
        ·exact .inl (.inr (.inr h))
        ·exact .inr h
       ·rintro(h|h|h)
        ·exact hq (dD _ h)
        ·exact hq (eK _ (aE _ h))
        ·exact fZ _ h (.inl rfl)
   ·cases ab
  |bm x=>
   cases k with
   |succ k=>simp[j.sub]at ab
   |zero=>
    simp only[j.sub]at ab
    rw[ai]at h
    obtain⟨b,cur,e,fr,cl,rfl,aa,aw,aN,a8,bI,bO⟩:=h
    have hl:=ai.length _ _ _ a8
    have gK:jF w b 0 x.wd=cur.toList:=by
     have:=pj (l:=[]) (m:=cur.toList) (r:=[]) aw (by simp)
     rwa [hl]at this
    obtain⟨bG,bM,cI,df,dL,aE,aO,bg,cd,cQ⟩:=ih x _ cl (some (b,0)) d a8 ab
    have gY:∀aV,j.put (0::q) aV (.bm x)= .bm (j.put q aV x):=fun aV=>rfl
    refine⟨bG,bM,fun c=>c=b∨cI c,df,?_,?_,fun c ae=>bI _ (aO _ ae),?_,cd,.inr ?_⟩
    ·simp only[b0,gK];exact dL
    ·rintro c (rfl|h)
     ·exact aa
     ·exact bI _ (aE _ h)
    ·rintro c (rfl|h) ab
     ·exact bO (aO _ ab)
     ·exact bg _ h ab
    ·rcases cQ with⟨l,r,aG,aL,a1⟩|⟨dr,iI,ei,uS,l,r,aG,aL,a1,b2,cb,bp⟩
     ·refine⟨b,cur,e,fr,l,r,?_,.inl rfl,aw,aN,aG,?_⟩
      ·rw[aL];simp
      ·intro aq aV dC az aS a_ iH hw eJ fZ
       have dw:=a1 aq aV dC az aS (fun c ae=>a_ c (.inr ae) (by rintro rfl;exact bO (aE _ ae))) hw eJ (fun b I ae=>fZ b I (.inr ae))
       have jG:=ai.length _ _ _ eJ
       have qS:=ai.length _ _ _ cd
       rw[gY,ai]
       refine⟨b,_,e,fr,fun b=>cI b∨az b,rfl,.inl (.inl rfl),iH,?_,dw,?_,?_⟩
       ·have:(l++(dC++r)).toArray.size=cur.size:=by
         have:cur.size=cur.toList.length:=by simp
         rw[this,aG];simp[jG,qS,hw]
        rw[this];exact aN
       ·rintro c (h|h)
        ·exact .inl (.inr h)
        ·exact .inr h
       ·rintro(h|h)
        ·exact bO (aE _ h)
        ·exact fZ _ h (.inl rfl)
     ·refine⟨dr,iI,ei,uS,l,r,aG,.inr aL,a1,b2,cb,?_⟩
      intro aq aV dC az aS a_ iH hw eJ fZ
      have dw:=bp aq aV dC az aS (fun c ae cr=>a_ c (.inr ae) cr) iH hw eJ (fun b I ae=>fZ b I (.inr ae))
      have uT:b≠dr:=by rintro rfl;exact bO (aE _ aL)
      rw[gY,ai]
      refine⟨b,cur,e,fr,fun b=>cI b∨az b,rfl,.inl (.inl rfl),(a_ b (.inl rfl) uT).trans aw,aN,dw,?_,?_⟩
      ·rintro c (h|h)
       ·exact .inl (.inr h)
       ·exact .inr h
      ·rintro(h|h)
       ·exact bO (aE _ h)
       ·exact fZ _ h (.inl rfl)
  |_=>simp[j.sub]at ab
mutual
def j.plain:j→Bool
 | .aH _ _=>false
 | .bm _=>false
 | .cx _=>false
 | .agg ah=>j.dE ah
 | .tuple ah=>j.dE ah
 |_=>true
def j.dE:List j→Bool
 |[]=>true
 |d::ds=>d.plain&&j.dE ds
end
mutual
def j.bT:j→j
 | .aH _ _=>.hole
 | .bm _=>.hole
 | .cx _=>.hole
 | .agg ah=>.agg (j.hO ah)
 | .tuple ah=>.tuple (j.hO ah)
 |d=>d
def j.hO:List j→List j
 |[]=>[]
 |d::ds=>d.bT::j.hO ds
end
mutual
theorem j.m6:∀d:j,d.bT.wd=d.wd
 | .hole=>rfl
 | .bool _=>rfl
 | .c2=>rfl
 | .int _ _=>rfl
 | .str _=>rfl
 | .cw=>rfl
 | .bt=>rfl
 | .slice _=>rfl
 | .aH _ _=>rfl
 | .ref _=>rfl
 | .bm _=>rfl
 | .agg ah=>by simp only[j.bT,j.wd];exact j.uU ah
 | .tuple ah=>by simp only[j.bT,j.wd];exact j.uU ah
 | .fn _ _=>rfl
 | .h _ _=>rfl
 | .an _ _=>rfl
 | .I _ _=>rfl
 | .cx _=>rfl
theorem j.uU:∀ds:List j,j.cF (j.hO ds)=j.cF ds
 |[]=>rfl
 |d::ds=>by simp only[j.hO,j.cF];rw[j.m6 d,j.uU ds]
end
mutual
theorem ai.bT {w:World} {F:Nat→Prop}:∀(d:j) (cs:List Value) (S az:Nat→Prop),ai w F d cs S→ai w F d.bT cs az
 | .hole,_,_,_,h=>h
 | .bool _,_,_,_,h=>h
 | .c2,_,_,_,h=>h
 | .int _ _,_,_,_,h=>h
 | .str _,_,_,_,h=>h
 | .cw,_,_,_,h=>h
 | .bt,_,_,_,h=>h
 | .slice xs,cs,S,az,h=>by
   show ai w F (.slice xs) cs az
   rw[ai]at h⊢;exact h
 | .aH sz xs,cs,S,az,h=>by
   rw[j.bT,ai]
   rw[ai]at h
   rcases h with⟨_,_,rfl⟩|⟨b,cap,cur,e,fr,cl,rfl,_⟩
   ·exact⟨_,rfl,rfl⟩
   ·exact⟨_,rfl,rfl⟩
 | .ref d,cs,S,az,h=>by
   show ai w F (.ref d) cs az
   rw[ai]at h⊢;exact h
 | .bm d,cs,S,az,h=>by
   rw[j.bT,ai]
   rw[ai]at h
   obtain⟨b,cur,e,fr,cl,rfl,_⟩:=h
   exact⟨_,rfl,rfl⟩
 | .agg ah,cs,S,az,h=>by rw[j.bT,ai];rw[ai]at h;exact aJ.bT ah _ _ _ h
 | .tuple ah,cs,S,az,h=>by rw[j.bT,ai];rw[ai]at h;exact aJ.bT ah _ _ _ h
 | .fn _ _,_,_,_,h=>h
 | .h _ _,_,_,_,h=>h
 | .an _ _,_,_,_,h=>h
 | .I _ _,_,_,_,h=>h
 | .cx _,_,_,_,h=>by rw[ai]at h;rw[j.bT,ai];exact h_.one h
theorem aJ.bT {w:World} {F:Nat→Prop}:∀(ds:List j) (cs:List Value) (S az:Nat→Prop),aJ w F ds cs S→aJ w F (j.hO ds) cs az
 |[],_,_,_,h=>h
 |d::ds,cs,S,az,h=>by
  rw[j.hO,aJ]
  rw[aJ]at h
  obtain⟨bB,bF,bj,ch,U,aa,aw,aN,a8,bI⟩:=h
  exact⟨bB,bF,fun _=>False,fun _=>False,U,ai.bT d _ _ _ aa,aJ.bT ds _ _ _ aw,fun _ h=>h.elim,fun _ h=>h.elim,fun _ h=>h.elim⟩
end
mutual
theorem ai.plain {w:World} {F:Nat→Prop}:∀(d:j) (cs:List Value) (S az:Nat→Prop),d.plain=true→ai w F d cs S→ai w F d cs az
 | .hole,_,_,_,_,h=>h
 | .bool _,_,_,_,_,h=>h
 | .c2,_,_,_,_,h=>h
 | .int _ _,_,_,_,_,h=>h
 | .str _,_,_,_,_,h=>h
 | .cw,_,_,_,_,h=>h
 | .bt,_,_,_,_,h=>h
 | .slice xs,cs,S,az,_,h=>by rw[ai]at h⊢;exact h
 | .aH sz xs,cs,S,az,an,h=>by simp[j.plain]at an
 | .ref d,cs,S,az,_,h=>by rw[ai]at h⊢;exact h
 | .bm d,cs,S,az,an,h=>by simp[j.plain]at an
 | .agg ah,cs,S,az,an,h=>by rw[ai]at h⊢;exact aJ.plain ah _ _ _ an h
 | .tuple ah,cs,S,az,an,h=>by rw[ai]at h⊢;exact aJ.plain ah _ _ _ an h
 | .fn _ _,_,_,_,_,h=>h
 | .h _ _,_,_,_,_,h=>h
 | .an _ _,_,_,_,_,h=>h
 | .I _ _,_,_,_,_,h=>h
 | .cx _,_,_,_,an,_=>by simp[j.plain]at an
theorem aJ.plain {w:World} {F:Nat→Prop}:∀(ds:List j) (cs:List Value) (S az:Nat→Prop),j.dE ds=true→aJ w F ds cs S→aJ w F ds cs az
 |[],_,_,_,_,h=>h
 |d::ds,cs,S,az,an,h=>by
  rw[aJ]at h⊢
  simp only[j.dE,Bool.and_eq_true]at an
  obtain⟨bB,bF,bj,ch,U,aa,aw,aN,a8,bI⟩:=h
  exact⟨bB,bF,fun _=>False,fun _=>False,U,ai.plain d _ _ _ an.1 aa,aJ.plain ds _ _ _ an.2 aw,fun _ h=>h.elim,fun _ h=>h.elim,fun _ h=>h.elim⟩
end
def j.dn:List Nat→j→Bool
 |[],_=>false
 |k::q,.agg ah=>match ah[k]? with
  |some d=>j.dn q d
  |none=>false
 |k::q,.tuple ah=>match ah[k]? with
  |some d=>j.dn q d
  |none=>false
 |_::_,.aH _ _=>true
 |_::_,.bm _=>true
 |_::_,_=>false
theorem sO {ah:List j} (h:j.dE ah=true) {k:Nat} {d:j} (al:ah[k]? =some d):d.plain=true:=by
 induction ah generalizing k with
 |nil=>simp at al
 |cons a ah ih=>
  simp only[j.dE,Bool.and_eq_true]at h
  cases k with
  |zero=>simp at al;subst al;exact h.1
  |succ k=>simp at al;exact ih h.2 al
theorem j.x6:∀(q:List Nat) (d:j),d.plain=true→j.dn q d=false:=by
 intro q
 induction q with
 |nil=>intros;rfl
 |cons k q ih=>
  intro d ab
  cases d<;>first|rfl|(simp[j.plain]at ab;done)|skip
  all_goals
   simp only[j.dn]
   split
   ·rename_i ah x ao;exact ih _ (sO (by simpa [j.plain]using ab) ao)
   ·rfl
theorem j.uV:∀(q:List Nat) (d e:j),d.plain=true→j.sub q d=some e→e.plain=true:=by
 intro q
 induction q with
 |nil=>intro d e ab h;simp[j.sub]at h;exact h▸ab
 |cons k q ih=>
  intro d e ab h
  cases d<;>first|(simp[j.plain]at ab;done)|(simp[j.sub]at h;done)|skip
  all_goals
   simp only[j.sub]at h
   split at h
   ·rename_i ah x ao;exact ih _ _ (sO (by simpa [j.plain]using ab) ao) h
   ·cases h
theorem sP {w aq:World} {F:Nat→Prop}:∀(q:List Nat) (av:j) (cs:List Value) (S:Nat→Prop) (a:Option (Nat×Nat)) (d:j),
  ai w F av cs S→j.sub q av=some d→(∀b,S b→aq.heap[b]? =w.heap[b]?)→b0 aq q av cs a=b0 w q av cs a:=by
 intro q
 induction q with
 |nil=>intros;rfl
 |cons k q ih=>
  have fields:∀(ah:List j) (cs:List Value) (S:Nat→Prop) (a:Option (Nat×Nat)) (x d:j),aJ w F ah cs S→ah[k]? =some x→j.sub q x=some d→
    (∀b,S b→aq.heap[b]? =w.heap[b]?)→
    b0 aq q x ((cs.drop (j.cF (ah.take k))).take x.wd) (a.map fun l=>(l.1,l.2+j.cF (ah.take k)))=b0 w q x ((cs.drop (j.cF (ah.take k))).take x.wd) (a.map fun l=>(l.1,l.2+j.cF (ah.take k))):=by
   intro ah cs S a x d h ao ab a_
   obtain⟨bB,dB,bF,bj,e9,rfl,e1,dD,eK,fo,dK,iG⟩:=aJ.pick ah cs S k x h ao
   rw[nY bB dB bF _ _ e1 (ai.length _ _ _ dK)]
   exact ih x dB e9 _ d dK ab (fun b I=>a_ b (eK _ I))
  intro av cs S a d h ab a_
  cases av with
  |agg ah=>
   simp only[j.sub]at ab
   split at ab
   ·rename_i x ao
    rw[ai]at h
    simp only[b0,ao]
    exact fields ah cs S a x d h ao ab a_
   ·cases ab
  |tuple ah=>
   simp only[j.sub]at ab
   split at ab
   ·rename_i x ao
    rw[ai]at h
    simp only[b0,ao]
    exact fields ah cs S a x d h ao ab a_
   ·cases ab
  |aH sz xs=>
   simp only[j.sub]at ab
   split at ab
   ·rename_i x ao
    rw[ai]at h
    rcases h with⟨rfl,_,rfl⟩|⟨b,cap,cur,e,fr,cl,rfl,aa,aw,aN,a8,bI,bO,di,eY,eZ,hq⟩
    ·simp at ao
    ·obtain⟨bB,dB,bF,bj,e9,p,e1,dD,eK,fo,dK,iG⟩:=aJ.pick xs _ cl k x eY ao
     have hl:=ai.length _ _ _ dK
     have DG:k<xs.length:=(List.getElem?_eq_some_iff.1 ao).1
     have qR:x.wd=sz:=di x (List.mem_of_getElem? ao)
     have bs:j.cF (xs.take k)=k*sz:=by
      rw[n0 _ (fun d ab=>di d (List.mem_of_mem_take ab))]
      rw[List.length_take,Nat.min_eq_left (by omega)]
     obtain⟨mh,hN⟩:∃mh,cur.toList=bB++(dB++(bF++mh)):=by
      refine⟨cur.toList.drop (xs.length*sz),?_⟩
      have:=(List.take_append_drop (xs.length*sz) cur.toList).symm
      rw[p]at this
      simpa using this
     have gK:jF w b (k*sz) sz=dB:=by
      have:=pj aw hN
      rwa [e1,bs,hl,qR]at this
     have uW:jF aq b (k*sz) sz=dB:=by
      have:=pj ((a_ b aa).trans aw) hN
      rwa [e1,bs,hl,qR]at this
     simp only[b0,ao,gK,uW]
     exact ih x dB e9 _ d dK ab (fun c ae=>a_ c (eZ _ (eK _ ae)))
   ·cases ab
  |bm x=>
   cases k with
   |succ k=>simp[j.sub]at ab
   |zero=>
    simp only[j.sub]at ab
    rw[ai]at h
    obtain⟨b,cur,e,fr,cl,rfl,aa,aw,aN,a8,bI,bO⟩:=h
    have hl:=ai.length _ _ _ a8
    have gK:jF w b 0 x.wd=cur.toList:=by
     have:=pj (l:=[]) (m:=cur.toList) (r:=[]) aw (by simp)
     rwa [hl]at this
    have uW:jF aq b 0 x.wd=cur.toList:=by
     have:=pj (l:=[]) (m:=cur.toList) (r:=[]) ((a_ b aa).trans aw) (by simp)
     rwa [hl]at this
    simp only[b0,gK,uW]
    exact ih x cur.toList cl _ d a8 ab (fun c ae=>a_ c (bI _ ae))
  |_=>simp[j.sub]at ab
def e_:Value→List Value
 | .agg cs=>cs.toList
 |v=>[v]
def ba:Value→List Value
 | .tuple vs=>vs.toList.flatMap e_
 |v=>e_ v
def fp:j→Value→Prop
 | .agg _,v=>∃arr,v= .agg arr
 |_,v=>Value.dZ v=true
def ct:j→Value→Prop
 | .tuple ds,v=>∃arr:Array Value,v= .tuple arr∧arr.size=ds.length∧∀(k:Nat) (d:j) (x:Value),ds[k]? =some d→arr[k]? =some x→fp d x∧(∀vs,d≠.tuple vs)∧(e_ x).length=d.wd
 |d,v=>fp d v
abbrev ag:=Nat→j
mutual
def ar (w:World) (F:Nat→Prop) (s:ag) (ak:Nat→Value):j→Value→(Nat→Prop)→Prop
 | .hole,_,_=>True
 | .h x q,v,_=>∀d,j.sub q (s x)=some d→d.plain=false→∃bG a,b0 w q (s x) (ba (ak x)) none=some (d,bG,a)∧ba v=bG∧ct d v
 | .an x q,v,_=>∀d,j.sub q (s x)=some d→j.dn q (s x)=true→∃bG b o,b0 w q (s x) (ba (ak x)) none=some (d,bG,some (b,o))∧v= .pointer (some ⟨b,o,none⟩)
 | .I x k,v,_=>(s x).plain=false→∃b cur e fr,v= .pointer (some ⟨b,k,none⟩)∧F b∧w.heap[b]? =some (.cells cur e fr)∧cur.toList=ba (ak x)
 | .fn f cap,v,_=>∃arr:Array Value,v= .func (.func f) #[] arr∧cE w F s ak cap arr.toList
 | .bool b,v,S=>ct (.bool b) v∧ai w F (.bool b) (ba v) S
 | .c2,v,S=>ct .c2 v∧ai w F .c2 (ba v) S
 | .int k n,v,S=>ct (.int k n) v∧ai w F (.int k n) (ba v) S
 | .str x,v,S=>ct (.str x) v∧ai w F (.str x) (ba v) S
 | .cw,v,S=>ct .cw v∧ai w F .cw (ba v) S
 | .bt,v,S=>ct .bt v∧ai w F .bt (ba v) S
 | .slice xs,v,S=>ct (.slice xs) v∧ai w F (.slice xs) (ba v) S
 | .aH sz xs,v,S=>ct (.aH sz xs) v∧ai w F (.aH sz xs) (ba v) S
 | .ref d,v,S=>ct (.ref d) v∧ai w F (.ref d) (ba v) S
 | .bm d,v,S=>ct (.bm d) v∧ai w F (.bm d) (ba v) S
 | .agg d,v,S=>ct (.agg d) v∧ai w F (.agg d) (ba v) S
 | .tuple d,v,S=>ct (.tuple d) v∧ai w F (.tuple d) (ba v) S
 | .cx o,v,S=>ct (.cx o) v∧ai w F (.cx o) (ba v) S
def cE (w:World) (F:Nat→Prop) (s:ag) (ak:Nat→Value):List j→List Value→Prop
 |[],vs=>vs=[]
 |d::ds,vs=>∃v gA,vs=v::gA∧ar w F s ak d v (fun _=>False)∧cE w F s ak ds gA
end
def j.tree:j→Bool
 | .hole=>false
 | .h _ _=>false
 | .an _ _=>false
 | .I _ _=>false
 | .fn _ _=>false
 |_=>true
theorem ar.bx {w:World} {F:Nat→Prop} {s:ag} {ak:Nat→Value} {d:j} {v:Value} {S:Nat→Prop} (aM:d.tree=true):
  ar w F s ak d v S↔(ct d v∧ai w F d (ba v) S):=by
 cases d<;>first|(simp[j.tree]at aM;done)|rw[ar]
theorem fa {q:List Nat} {av d:j} (h:j.sub q av=some d) (an:d.plain=false∨j.dn q av=true):av.tree=true:=by
 cases q with
 |nil=>
  simp[j.sub]at h;subst h
  rcases an with an|an
  ·cases av<;>first|rfl|(simp[j.plain]at an)
  ·simp[j.dn]at an
 |cons k q=>cases av<;>first|rfl|(simp[j.sub]at h)
theorem uX {d:j} (h:d.plain=false):d.tree=true:=fa (q:=[]) (by simp only[j.sub]) (.inl h)
theorem ar.frame {w aq:World} {F a7:Nat→Prop} {s:ag} {ak:Nat→Value} {Sx:Nat→Nat→Prop} (aS:∀b,F b→aq.heap[b]? =w.heap[b]?) (x7:∀b,F b→a7 b)
  (a_:∀x b,Sx x b→aq.heap[b]? =w.heap[b]?) (jX:∀x,ar w F s ak (s x) (ak x) (Sx x)):
  ∀(d:j) (v:Value) (S:Nat→Prop),(∀b,S b→aq.heap[b]? =w.heap[b]?)→ar w F s ak d v S→ar aq a7 s ak d v S:=by
 have g_:∀(x:Nat) (q:List Nat) (d:j),j.sub q (s x)=some d→(d.plain=false∨j.dn q (s x)=true)→b0 aq q (s x) (ba (ak x)) none=b0 w q (s x) (ba (ak x)) none:=by
  intro x q d ab an
  have aM:=fa ab an
  have:=jX x
  rw[ar.bx aM]at this
  exact sP q _ _ (Sx x) none d this.2 ab (a_ x)
 have DH:∀(d:j) (v:Value) (S:Nat→Prop),d.tree=true→(∀b,S b→aq.heap[b]? =w.heap[b]?)→ar w F s ak d v S→ar aq a7 s ak d v S:=by
  intro d v S aM n1 h
  rw[ar.bx aM]at h⊢
  exact⟨h.1,ai.mono x7 _ _ _ _ (fun _ h=>h) (ai.frame aS _ _ _ n1 h.2)⟩
 have step:∀n,(∀(d:j) (v:Value) (S:Nat→Prop),SizeOf.sizeOf d≤n→(∀b,S b→aq.heap[b]? =w.heap[b]?)→ar w F s ak d v S→ar aq a7 s ak d v S)∧
   (∀(ds:List j) (vs:List Value),SizeOf.sizeOf ds≤n→cE w F s ak ds vs→cE aq a7 s ak ds vs):=by
  intro n
  induction n with
  |zero=>
   refine⟨fun d v S bf=> ?_,fun ds vs bf=> ?_⟩
   ·cases d<;>simp at bf<;>omega
   ·cases ds<;>simp at bf<;>omega
  |succ n ih=>
   refine⟨fun d v S bf n1 h=> ?_,fun ds vs bf h=> ?_⟩
   ·cases d with
    |hole=>rw[ar];trivial
    |h x q=>
     rw[ar]at h⊢
     intro d ab an
     rw[g_ x q d ab (.inl an)]
     exact h d ab an
    |an x q=>
     rw[ar]at h⊢
     intro d ab an
     rw[g_ x q d ab (.inr an)]
     exact h d ab an
    |I x k=>
     rw[ar]at h⊢
     intro an
     obtain⟨b,cur,e,fr,U,aa,aw,aN⟩:=h an
     exact⟨b,cur,e,fr,U,x7 b aa,(aS b aa).trans aw,aN⟩
    |fn f cap=>
     rw[ar]at h⊢
     obtain⟨arr,rfl,ae⟩:=h
     exact⟨arr,rfl,ih.2 _ _ (by simp at bf;omega) ae⟩
    |_=>exact DH _ _ _ rfl n1 h
   ·cases ds with
    |nil=>rw[cE]at h⊢;exact h
    |cons d ds=>
     rw[cE]at h⊢
     obtain⟨v,gA,rfl,U,aa⟩:=h
     simp at bf
     exact⟨v,gA,rfl,ih.1 _ _ _ (by omega) (fun _ h=>h.elim) U,ih.2 _ _ (by omega) aa⟩
 intro d v S n1 h
 exact(step (SizeOf.sizeOf d)).1 d v S (Nat.le_refl _) n1 h
mutual
def bJ (x:Nat):j→j
 | .h y q=>if y=x then .hole else .h y q
 | .an y q=>if y=x then .hole else .an y q
 | .I y k=>if y=x then .hole else .I y k
 | .fn f cap=>.fn f (f_ x cap)
 |d=>d
def f_ (x:Nat):List j→List j
 |[]=>[]
 |d::ds=>bJ x d::f_ x ds
end
mutual
def bn (x:Nat):j→j
 | .h y q=>if y=x then(if q=[]then .h y q else .hole)else .h y q
 | .an y q=>if y=x then .hole else .an y q
 | .fn f cap=>.fn f (fD x cap)
 |d=>d
def fD (x:Nat):List j→List j
 |[]=>[]
 |d::ds=>bn x d::fD x ds
end
def b4 {α:Type} (f:Nat→α) (t:Nat) (v:α):Nat→α:=fun u=>if u=t then v else f u
def ia (t:Nat) (s:ag):ag:=fun u=>bJ t (s u)
def ff (t:Nat) (s:ag):ag:=fun u=>bn t (s u)
theorem jb {α:Type} (f:Nat→α) (t:Nat) (v:α):b4 f t v t=v:=by simp[b4]
theorem gB {α:Type} (f:Nat→α) {t u:Nat} (v:α) (h:u≠t):b4 f t v u=f u:=by simp[b4,h]
theorem DI {t:Nat} {d:j} (h:d.tree=true):bJ t d=d:=by cases d<;>first|rfl|(simp[j.tree]at h)
theorem uY {t:Nat} {d:j} (h:d.tree=true):bn t d=d:=by cases d<;>first|rfl|(simp[j.tree]at h)
theorem DJ {t:Nat} {d:j} (h:(bJ t d).tree=true):d.tree=true∧bJ t d=d:=by
 cases d<;>first|exact⟨rfl,rfl⟩|(simp only[bJ]at h;first|(split at h<;>simp[j.tree]at h)|simp[j.tree]at h)
theorem sQ {t:Nat} {d:j} (h:(bn t d).tree=true):d.tree=true∧bn t d=d:=by
 cases d<;>first|exact⟨rfl,rfl⟩|(simp only[bn]at h;first|(split at h<;>(try split at h)<;>simp[j.tree]at h)|simp[j.tree]at h)
section
variable {w:World} {F:Nat→Prop} {s aj:ag} {ak gZ:Nat→Value} {t:Nat}
theorem ar.bJ (eD:∀x,x≠t→(aj x).tree=true→aj x=s x∧gZ x=ak x):∀(n:Nat),
  (∀(d:j) (v:Value) (S:Nat→Prop),SizeOf.sizeOf d≤n→ar w F s ak d v S→ar w F aj gZ (bZ.bJ t d) v S)∧
  (∀(ds:List j) (vs:List Value),SizeOf.sizeOf ds≤n→cE w F s ak ds vs→cE w F aj gZ (f_ t ds) vs):=by
 intro n
 induction n with
 |zero=>
  refine⟨fun d v S bf=> ?_,fun ds vs bf=> ?_⟩
  ·cases d<;>simp at bf<;>omega
  ·cases ds<;>simp at bf<;>omega
 |succ n ih=>
  refine⟨fun d v S bf h=> ?_,fun ds vs bf h=> ?_⟩
  ·cases d with
   |hole=>rw[bZ.bJ.eq_def];simp only;rw[ar];trivial
   |h x q=>
    simp only[bZ.bJ]
    split
    ·rw[ar];trivial
    ·rename_i ao
     rw[ar]at h⊢
     intro d ab an
     obtain⟨aG,aL⟩:=eD x ao (fa ab (.inl an))
     rw[aG,aL];rw[aG]at ab
     exact h d ab an
   |an x q=>
    simp only[bZ.bJ]
    split
    ·rw[ar];trivial
    ·rename_i ao
     rw[ar]at h⊢
     intro d ab an
     obtain⟨aG,aL⟩:=eD x ao (fa ab (.inr an))
     rw[aG,aL];rw[aG]at ab an
     exact h d ab an
   |I x k=>
    simp only[bZ.bJ]
    split
    ·rw[ar];trivial
    ·rename_i ao
     rw[ar]at h⊢
     intro an
     obtain⟨aG,aL⟩:=eD x ao (uX an)
     rw[aL];rw[aG]at an
     exact h an
   |fn f cap=>
    simp only[bZ.bJ]
    rw[ar]at h⊢
    obtain⟨arr,rfl,ae⟩:=h
    exact⟨arr,rfl,ih.2 _ _ (by simp at bf;omega) ae⟩
   |_=>
    rw[DI (by rfl)]
    exact(ar.bx (by rfl)).2 ((ar.bx (by rfl)).1 h)
  ·cases ds with
   |nil=>rw[f_,cE];rw[cE]at h;exact h
   |cons d ds=>
    rw[f_,cE];rw[cE]at h
    obtain⟨v,gA,rfl,U,aa⟩:=h
    simp at bf
    exact⟨v,gA,rfl,ih.1 _ _ _ (by omega) U,ih.2 _ _ (by omega) aa⟩
theorem ar.bn {aq:World} (eD:∀x,x≠t→(aj x).tree=true→aj x=s x∧gZ x=ak x) (ib:gZ t=ak t) (iJ:(aj t).plain=false→(s t).plain=false∧∀v,ct (s t) v→ct (aj t) v)
  (g_:∀x q d,x≠t→j.sub q (s x)=some d→(d.plain=false∨j.dn q (s x)=true)→b0 aq q (s x) (ba (ak x)) none=b0 w q (s x) (ba (ak x)) none)
  (aS:∀b,F b→aq.heap[b]? =w.heap[b]?):∀(n:Nat),
  (∀(d:j) (v:Value) (S:Nat→Prop),SizeOf.sizeOf d≤n→(∀b,S b→aq.heap[b]? =w.heap[b]?)→ar w F s ak d v S→ar aq F aj gZ (bZ.bn t d) v S)∧
  (∀(ds:List j) (vs:List Value),SizeOf.sizeOf ds≤n→cE w F s ak ds vs→cE aq F aj gZ (fD t ds) vs):=by
 intro n
 induction n with
 |zero=>
  refine⟨fun d v S bf=> ?_,fun ds vs bf=> ?_⟩
  ·cases d<;>simp at bf<;>omega
  ·cases ds<;>simp at bf<;>omega
 |succ n ih=>
  refine⟨fun d v S bf n1 h=> ?_,fun ds vs bf h=> ?_⟩
  ·cases d with
   |hole=>rw[bZ.bn.eq_def];simp only;rw[ar];trivial
   |h x q=>
    simp only[bZ.bn]
    split
    ·rename_i ao
     subst ao
     split
     ·rename_i bX
      subst bX
      rw[ar]at h⊢
      intro d ab an
      simp only[j.sub,Option.some.injEq]at ab
      subst ab
      obtain⟨dw,cy⟩:=iJ an
      obtain⟨bG,a,aE,aO,bg⟩:=h (s x) rfl dw
      simp only[b0,Option.some.injEq,Prod.mk.injEq]at aE
      obtain⟨-,aE,Rk⟩:=aE
      refine⟨ba (gZ x),none,rfl,?_,cy _ bg⟩
      rw[ib,aO,←aE]
     ·rw[ar];trivial
    ·rename_i ao
     rw[ar]at h⊢
     intro d ab an
     obtain⟨aG,aL⟩:=eD x ao (fa ab (.inl an))
     rw[aG,aL];rw[aG]at ab
     rw[g_ x q d ao ab (.inl an)]
     exact h d ab an
   |an x q=>
    simp only[bZ.bn]
    split
    ·rw[ar];trivial
    ·rename_i ao
     rw[ar]at h⊢
     intro d ab an
     obtain⟨aG,aL⟩:=eD x ao (fa ab (.inr an))
     rw[aG,aL];rw[aG]at ab an
     rw[g_ x q d ao ab (.inr an)]
     exact h d ab an
   |I x k=>
    simp only[bZ.bn]
    rw[ar]at h⊢
    intro an
    by_cases ao:x=t
    ·subst ao
     obtain⟨b,cur,e,fr,U,aa,aw,aN⟩:=h (iJ an).1
     exact⟨b,cur,e,fr,U,aa,(aS b aa).trans aw,by rw[ib];exact aN⟩
    ·obtain⟨aG,aL⟩:=eD x ao (uX an)
     rw[aG]at an
     obtain⟨b,cur,e,fr,U,aa,aw,aN⟩:=h an
     exact⟨b,cur,e,fr,U,aa,(aS b aa).trans aw,by rw[aL];exact aN⟩
   |fn f cap=>
    simp only[bZ.bn]
    rw[ar]at h⊢
    obtain⟨arr,rfl,ae⟩:=h
    exact⟨arr,rfl,ih.2 _ _ (by simp at bf;omega) ae⟩
   |_=>
    rw[uY (by rfl)]
    have a2:=(ar.bx (by rfl)).1 h
    exact(ar.bx (by rfl)).2 ⟨a2.1,ai.frame aS _ _ _ n1 a2.2⟩
  ·cases ds with
   |nil=>rw[fD,cE];rw[cE]at h;exact h
   |cons d ds=>
    rw[fD,cE];rw[cE]at h
    obtain⟨v,gA,rfl,U,aa⟩:=h
    simp at bf
    exact⟨v,gA,rfl,ih.1 _ _ _ (by omega) (fun _ h=>h.elim) U,ih.2 _ _ (by omega) aa⟩
theorem ar.void (eD:∀x,x≠t→(aj x).tree=true→aj x=s x∧gZ x=ak x) (kD:(aj t).plain=true):∀(n:Nat),
  (∀(d:j) (v:Value) (S:Nat→Prop),SizeOf.sizeOf d≤n→ar w F s ak d v S→ar w F aj gZ d v S)∧
  (∀(ds:List j) (vs:List Value),SizeOf.sizeOf ds≤n→cE w F s ak ds vs→cE w F aj gZ ds vs):=by
 intro n
 induction n with
 |zero=>
  refine⟨fun d v S bf=> ?_,fun ds vs bf=> ?_⟩
  ·cases d<;>simp at bf<;>omega
  ·cases ds<;>simp at bf<;>omega
 |succ n ih=>
  refine⟨fun d v S bf h=> ?_,fun ds vs bf h=> ?_⟩
  ·cases d with
   |hole=>rw[ar];trivial
   |h x q=>
    rw[ar]at h⊢
    intro d ab an
    by_cases ao:x=t
    ·subst ao
     rw[j.uV _ _ _ kD ab]at an;cases an
    ·obtain⟨aG,aL⟩:=eD x ao (fa ab (.inl an))
     rw[aG,aL];rw[aG]at ab
     exact h d ab an
   |an x q=>
    rw[ar]at h⊢
    intro d ab an
    by_cases ao:x=t
    ·subst ao
     rw[j.x6 _ _ kD]at an;cases an
    ·obtain⟨aG,aL⟩:=eD x ao (fa ab (.inr an))
     rw[aG,aL];rw[aG]at ab an
     exact h d ab an
   |I x k=>
    rw[ar]at h⊢
    intro an
    by_cases ao:x=t
    ·subst ao;rw[kD]at an;cases an
    ·obtain⟨aG,aL⟩:=eD x ao (uX an)
     rw[aL];rw[aG]at an
     exact h an
   |fn f cap=>
    rw[ar]at h⊢
    obtain⟨arr,rfl,ae⟩:=h
    exact⟨arr,rfl,ih.2 _ _ (by simp at bf;omega) ae⟩
   |_=>exact(ar.bx (by rfl)).2 ((ar.bx (by rfl)).1 h)
  ·cases ds with
   |nil=>rw[cE];rw[cE]at h;exact h
   |cons d ds=>
    rw[cE];rw[cE]at h
    obtain⟨v,gA,rfl,U,aa⟩:=h
    simp at bf
    exact⟨v,gA,rfl,ih.1 _ _ _ (by omega) U,ih.2 _ _ (by omega) aa⟩
end
def x8:Bool:=false
def Out (w w0:World):Prop:=w.output=w0.output∧(x8=true→w0.drawn≤w.drawn)
theorem Out.trans {a b c:World} (h:Out a b) (aa:Out b c):Out a c:=⟨Eq.trans h.1 aa.1,fun d=>Nat.le_trans (aa.2 d) (h.2 d)⟩
theorem Out.refl (w:World):Out w w:=⟨rfl,fun _=>Nat.le_refl _⟩
def DK:List (Nat×(Obj→Prop)):=[]
def pk (w:World) (X:Nat→Prop):Prop:=∀p∈DK,p.1<w.heap.size∧¬X p.1∧∃o,w.heap[p.1]? =some o∧p.2 o
theorem pk.next {w aq:World} {X Y:Nat→Prop} (h:pk w X) (R:w.heap.size≤aq.heap.size) (I:∀b,b<w.heap.size→¬X b→aq.heap[b]? =w.heap[b]?) (aT:∀b,Y b→X b∨w.heap.size≤b):pk aq Y:=fun p an=>by
 obtain⟨U,aa,o,aw,aN⟩:=h p an
 refine⟨Nat.lt_of_lt_of_le U R,fun h=> ?_,o,(I _ U aa).trans aw,aN⟩
 rcases aT _ h with h|h
 ·exact aa h
 ·omega
structure aX (w0:World) (F0 X F:Nat→Prop) (S:Nat→Nat→Prop) (s:ag) (ak:Nat→Value) (w:World):Prop where
 er:∀b,F0 b→F b
 eL:∀b,F b→F0 b∨X b∨w0.heap.size≤b
 db:∀b,F b→b<w.heap.size
 cT:∀t b,S t b→b<w.heap.size
 dp:∀t b,S t b→¬F b
 c8:∀t u b,t≠u→S t b→¬S u b
 cl:∀t b,S t b→X b∨w0.heap.size≤b
 b5:∀t,ar w F s ak (s t) (ak t) (S t)
 old:∀b,b<w0.heap.size→¬X b→w.heap[b]? =w0.heap[b]?
 size:w0.heap.size≤w.heap.size
 os:w.os=w0.os
 tape:w.tape=w0.tape
 output:Out w w0
 et:pk w0 X
section
variable {w0 w aq:World} {F0 X F:Nat→Prop} {S:Nat→Nat→Prop} {s:ag} {ak:Nat→Value}
theorem aX.grow (h:aX w0 F0 X F S s ak w) (I:∀b,b<w.heap.size→aq.heap[b]? =w.heap[b]?) (R:w.heap.size≤aq.heap.size)
  (U:aq.os=w.os) (aa:aq.tape=w.tape) (aw:Out aq w):aX w0 F0 X F S s ak aq where
 er:=h.er
 eL:=h.eL
 db:=fun b aS=>Nat.lt_of_lt_of_le (h.db b aS) R
 cT:=fun t b aS=>Nat.lt_of_lt_of_le (h.cT t b aS) R
 dp:=h.dp
 c8:=h.c8
 cl:=h.cl
 b5:=fun t=>ar.frame (Sx:=S) (fun b aS=>I b (h.db b aS)) (fun _ h=>h) (fun x b a_=>I b (h.cT x b a_)) h.b5 _ _ _ (fun b a_=>I b (h.cT t b a_)) (h.b5 t)
 old:=fun b cC gC=>(I b (Nat.lt_of_lt_of_le cC h.size)).trans (h.old b cC gC)
 size:=Nat.le_trans h.size R
 os:=U.trans h.os
 tape:=aa.trans h.tape
 output:=aw.trans h.output
 et:=h.et
def dV (S:Nat→Nat→Prop) (t:Nat) (Sn:Nat→Prop):Nat→Nat→Prop:=fun u b=>if u=t then Sn b else S u b
theorem qT (S:Nat→Nat→Prop) (t:Nat) (Sn:Nat→Prop):dV S t Sn t=Sn:=by funext b;simp[dV]
theorem qU (S:Nat→Nat→Prop) {t u:Nat} (Sn:Nat→Prop) (h:u≠t):dV S t Sn u=S u:=by funext b;simp[dV,h]
theorem aX.qV (h:aX w0 F0 X F S s ak w) {t:Nat} {d:j} {v:Value} (an:d.plain=true) (ab:ar w F s ak d v (fun _=>False)):
  aX w0 F0 X F (dV S t (fun _=>False)) (b4 s t d) (b4 ak t v) w where
 er:=h.er
 eL:=h.eL
 db:=h.db
 cT:=fun u b I=>by simp only[dV]at I;split at I;exact I.elim;exact h.cT u b I
 dp:=fun u b I=>by simp only[dV]at I;split at I;exact I.elim;exact h.dp u b I
 c8:=fun u x b cr I ao=>by
  simp only[dV]at I ao
  split at I
  ·exact I.elim
  ·split at ao
   ·exact ao.elim
   ·exact h.c8 u x b cr I ao
 cl:=fun u b I=>by simp only[dV]at I;split at I;exact I.elim;exact h.cl u b I
 b5:=fun u=>by
  have eD:∀x,x≠t→(b4 s t d x).tree=true→b4 s t d x=s x∧b4 ak t v x=ak x:=fun x ao _=>⟨gB _ _ ao,gB _ _ ao⟩
  have kD:(b4 s t d t).plain=true:=by rw[jb];exact an
  by_cases hu:u=t
  ·subst hu
   rw[jb,jb,qT]
   exact(ar.void eD kD _).1 _ _ _ (Nat.le_refl _) ab
  ·rw[gB _ _ hu,gB _ _ hu,qU _ _ hu]
   exact(ar.void eD kD _).1 _ _ _ (Nat.le_refl _) (h.b5 u)
 old:=h.old
 size:=h.size
 os:=h.os
 tape:=h.tape
 output:=h.output
 et:=h.et
theorem aX.x9 (h:aX w0 F0 X F S s ak w) {t:Nat} {d:j} {v:Value} {Sn:Nat→Prop} (ab:d.tree=true) (R:ct d v) (aC:ai w F d (ba v) Sn)
  (cC:∀b,Sn b→b<w.heap.size) (aS:∀b,Sn b→¬F b) (a_:∀u b,u≠t→Sn b→¬S u b) (bu:∀b,Sn b→X b∨w0.heap.size≤b):
  aX w0 F0 X F (dV S t Sn) (b4 (ia t s) t d) (b4 ak t v) w where
 er:=h.er
 eL:=h.eL
 db:=h.db
 cT:=fun u b I=>by simp only[dV]at I;split at I;exact cC b I;exact h.cT u b I
 dp:=fun u b I=>by simp only[dV]at I;split at I;exact aS b I;exact h.dp u b I
 c8:=fun u x b cr I ao=>by
  simp only[dV]at I ao
  split at I
  ·rename_i hu
   rw[if_neg (fun e=>cr (hu.trans e.symm))]at ao
   exact a_ x b (fun e=>cr (hu.trans e.symm)) I ao
  ·rename_i hu
   split at ao
   ·exact a_ u b hu ao I
   ·exact h.c8 u x b cr I ao
 cl:=fun u b I=>by simp only[dV]at I;split at I;exact bu b I;exact h.cl u b I
 b5:=fun u=>by
  have eD:∀x,x≠t→(b4 (ia t s) t d x).tree=true→b4 (ia t s) t d x=s x∧b4 ak t v x=ak x:=fun x ao aM=>by
   rw[gB _ _ ao]at aM⊢
   exact⟨(DJ aM).2,gB _ _ ao⟩
  by_cases hu:u=t
  ·subst hu
   rw[jb,jb,qT]
   exact(ar.bx ab).2 ⟨R,aC⟩
  ·rw[gB _ _ hu,gB _ _ hu,qU _ _ hu]
   exact(ar.bJ eD _).1 _ _ _ (Nat.le_refl _) (h.b5 u)
 old:=h.old
 size:=h.size
 os:=h.os
 tape:=h.tape
 output:=h.output
 et:=h.et
theorem m7 (k:Nat) (q:List Nat) (aV x:j):(∃ah gs,x= .agg ah∧j.put (k::q) aV x= .agg gs)∨(∃ah gs,x= .tuple ah∧j.put (k::q) aV x= .tuple gs)∨
  (∃sz xs ys,x= .aH sz xs∧j.put (k::q) aV x= .aH sz ys)∨(∃y z,x= .bm y∧j.put (k::q) aV x= .bm z)∨j.put (k::q) aV x=x:=by
 cases x with
 |agg ah=>simp only[j.put];split<;>exact .inl ⟨_,_,rfl,rfl⟩
 |tuple ah=>simp only[j.put];split<;>exact .inr (.inl ⟨_,_,rfl,rfl⟩)
 |aH sz ah=>simp only[j.put];split<;>exact .inr (.inr (.inl ⟨_,_,_,rfl,rfl⟩))
 |bm y=>cases k<;>exact .inr (.inr (.inr (.inl ⟨_,_,rfl,rfl⟩)))
 |_=>exact .inr (.inr (.inr (.inr rfl)))
theorem x_ {k:Nat} {q:List Nat} {aV x:j} {v:Value} (h:fp x v):fp (j.put (k::q) aV x) v:=by
 rcases m7 k q aV x with⟨ah,gs,rfl,e⟩|⟨ah,gs,rfl,e⟩|⟨sz,xs,ys,rfl,e⟩|⟨y,z,rfl,e⟩|e<;>rw[e]<;>exact h
theorem ya {k:Nat} {q:List Nat} {aV x:j} (h:∀vs,x≠.tuple vs):∀vs,j.put (k::q) aV x≠.tuple vs:=by
 rcases m7 k q aV x with⟨ah,gs,rfl,e⟩|⟨ah,gs,rfl,e⟩|⟨sz,xs,ys,rfl,e⟩|⟨y,z,rfl,e⟩|e<;>rw[e]<;>first|exact h|(intro vs a2;cases a2;done)|exact(h _ rfl).elim
theorem qW {k:Nat} {q:List Nat} {d aV av:j} {v:Value} (h:ct av v) (ab:j.sub (k::q) av=some d) (U:∀v,fp d v→fp aV v) (aa:(∀vs,d≠.tuple vs)→∀vs,aV≠.tuple vs) (aw:aV.wd=d.wd):
  ct (j.put (k::q) aV av) v:=by
 cases av with
 |tuple ah=>
  simp only[j.sub]at ab
  split at ab
  ·rename_i x ao
   simp only[j.put,ao]
   simp only[ct]at h⊢
   obtain⟨arr,rfl,bf,jX⟩:=h
   refine⟨arr,rfl,by simpa using bf,fun ad e y he aT=> ?_⟩
   rw[List.getElem?_set]at he
   split at he
   ·rename_i uZ
    subst uZ
    split at he
    ·simp only[Option.some.injEq]at he
     subst he
     obtain⟨aE,aO,bg⟩:=jX k x y ao aT
     refine⟨?_,?_,bg.trans (j.ph q x d aV ab aw).symm⟩
     ·cases q with
      |nil=>
       simp only[j.sub,Option.some.injEq]at ab
       subst ab
       exact U _ aE
      |cons bq q=>exact x_ aE
     ·cases q with
      |nil=>
       simp only[j.sub,Option.some.injEq]at ab
       subst ab
       exact aa aO
      |cons bq q=>exact ya aO
    ·cases he
   ·exact jX ad e y he aT
  ·cases ab
 |agg ah=>simp only[j.put];split<;>exact h
 |aH sz ah=>simp only[j.put];split<;>exact h
 |bm y=>cases k<;>exact h
 |_=>exact h
theorem u0 {d:j} {v:Value} (h:fp d v):fp d.bT v:=by cases d<;>exact h
theorem yb {s:ag} {x:Nat} {q:List Nat} {d:j} (ab:j.sub q (s x)=some d) (an:d.plain=false):
  (b4 (ff x s) x (j.put q d.bT (s x)) x).plain=false→(s x).plain=false∧∀v,ct (s x) v→ct (b4 (ff x s) x (j.put q d.bT (s x)) x) v:=by
  rw[jb]
  intro eE
  cases q with
  |nil=>
   exfalso
   have:∀d:j,d.bT.plain=true:=by
    intro d
    have key:∀n,(∀d:j,SizeOf.sizeOf d≤n→d.bT.plain=true)∧(∀ds:List j,SizeOf.sizeOf ds≤n→j.dE (j.hO ds)=true):=by
     intro n
     induction n with
     |zero=>exact⟨fun d bf=>by cases d<;>simp at bf<;>omega,fun ds bf=>by cases ds<;>simp at bf<;>omega⟩
     |succ n ih=>
      refine⟨fun d bf=> ?_,fun ds bf=> ?_⟩
      ·cases d with
       |agg ah=>simp only[j.bT,j.plain];exact ih.2 _ (by simp at bf;omega)
       |tuple ah=>simp only[j.bT,j.plain];exact ih.2 _ (by simp at bf;omega)
       |_=>rfl
      ·cases ds with
       |nil=>rfl
       |cons d ds=>
        simp at bf
        simp only[j.hO,j.dE,Bool.and_eq_true]
        exact⟨ih.1 _ (by omega),ih.2 _ (by omega)⟩
    exact(key _).1 d (Nat.le_refl _)
   simp only[j.put]at eE
   rw[this]at eE
   cases eE
  |cons k q=>
   refine⟨?_,fun v aC=>qW aC ab (fun v h=>u0 h) (fun h vs e=> ?_) (j.m6 d)⟩
   ·cases qX:(s x).plain with
    |false=>rfl
    |true=>rw[j.uV _ _ _ qX ab]at an;cases an
   ·cases d<;>first|(exact h _ rfl)|(simp[j.bT]at e)
theorem aX.take (h:aX w0 F0 X F S s ak w) {x:Nat} {q:List Nat} {d:j} (ab:j.sub q (s x)=some d) (an:d.plain=false):
  ∃(Sn df:Nat→Prop) (bG:List Value) (a:Option (Nat×Nat)),aX w0 F0 X F (dV S x Sn) (b4 (ff x s) x (j.put q d.bT (s x))) ak w∧
   b0 w q (s x) (ba (ak x)) none=some (d,bG,a)∧ai w F d bG df∧(∀b,df b→S x b)∧(∀b,Sn b→S x b)∧(∀b,df b→¬Sn b)∧
   (∀(aV:j) (v:Value) (az:Nat→Prop),ar w F s ak aV v az→ar w F (b4 (ff x s) x (j.put q d.bT (s x))) ak (bZ.bn x aV) v az):=by
 have aM:=fa ab (.inl an)
 have ao:=h.b5 x
 rw[ar.bx aM]at ao
 obtain⟨bG,a,cI,df,dL,aE,aO,bg,cd,cQ⟩:=ctx q (s x) (ba (ak x)) (S x) none d ao.2 ab
 have gY:ai w F (j.put q d.bT (s x)) (ba (ak x)) cI:=by
  have jc:ai w F d.bT bG (fun _=>False):=ai.bT _ _ _ _ cd
  have lr:∀b,(cI b∨False)→cI b:=fun b h=>h.elim id False.elim
  rcases cQ with⟨l,r,aG,aL,a1⟩|⟨b,cur,e,fr,l,r,aG,aL,a1,b2,cb,bp⟩
  ·have:=a1 w _ bG _ (fun _ _=>rfl) (fun _ _=>rfl) (j.m6 d) jc (fun _ h=>h.elim)
   rw[←aG]at this
   exact ai.mono (fun _ h=>h) _ _ _ _ lr this
  ·have:=bp w _ bG _ (fun _ _=>rfl) (fun _ _ _=>rfl) (by rw[a1,←cb]) (j.m6 d) jc (fun _ h=>h.elim)
   exact ai.mono (fun _ h=>h) _ _ _ _ lr this
 have DL:ct (j.put q d.bT (s x)) (ak x)∧(j.put q d.bT (s x)).tree=true∨j.put q d.bT (s x)= .hole:=by
  cases q with
  |nil=>
   simp only[j.sub,Option.some.injEq]at ab
   subst ab
   simp only[j.put]
   cases R:s x with
   |aH sz xs=>right;rfl
   |bm y=>right;rfl
   |cx y=>right;rfl
   |agg ah=>left;rw[R]at ao;exact⟨ao.1,rfl⟩
   |tuple ah=>
    left
    rw[R]at ao
    refine⟨?_,rfl⟩
    simp only[ct,j.bT]at ao⊢
    obtain⟨arr,e,bf,jX⟩:=ao.1
    have hl:∀ah:List j,j.hO ah=ah.map j.bT:=by
     intro ah;induction ah with
     |nil=>rfl
     |cons a ah ih=>simp[j.hO,ih]
    refine⟨arr,e,by rw[hl];simpa using bf,fun k ei y he aT=> ?_⟩
    rw[hl,List.getElem?_map]at he
    cases al:ah[k]? with
    |none=>rw[al]at he;cases he
    |some z=>
     rw[al]at he
     simp only[Option.map_some,Option.some.injEq]at he
     subst he
     obtain⟨aE,aO,bg⟩:=jX k z y al aT
     refine⟨u0 aE,fun vs e=> ?_,bg.trans (j.m6 z).symm⟩
     cases z<;>first|(exact aO _ rfl)|(simp[j.bT]at e)
   |_=>rw[R]at an;simp[j.plain]at an
  |cons k q=>
   left
   refine⟨qW ao.1 ab (fun v h=>u0 h) (fun h vs e=> ?_) (j.m6 d),?_⟩
   ·cases d<;>first|(exact h _ rfl)|(simp[j.bT]at e)
   ·rcases m7 k q d.bT (s x)with⟨ah,gs,aG,e⟩|⟨ah,gs,aG,e⟩|⟨sz,xs,ys,aG,e⟩|⟨y,z,aG,e⟩|e<;>rw[e]<;>first|rfl|exact aM
 refine⟨cI,df,bG,a,?_,dL,cd,aO,aE,fun b U aa=>bg b aa U,?_⟩
 rotate_left
 ·have eD:∀y,y≠x→(b4 (ff x s) x (j.put q d.bT (s x)) y).tree=true→b4 (ff x s) x (j.put q d.bT (s x)) y=s y∧ak y=ak y:=fun y aT aM=>by
   rw[gB _ _ aT]at aM⊢
   exact⟨(sQ aM).2,rfl⟩
  intro aV v az eJ
  exact(ar.bn eD rfl (yb ab an) (fun _ _ _ _ _ _=>rfl) (fun _ _=>rfl) _).1 _ _ _ (Nat.le_refl _) (fun _ _=>rfl) eJ
 have eD:∀y,y≠x→(b4 (ff x s) x (j.put q d.bT (s x)) y).tree=true→b4 (ff x s) x (j.put q d.bT (s x)) y=s y∧ak y=ak y:=fun y aT aM=>by
  rw[gB _ _ aT]at aM⊢
  exact⟨(sQ aM).2,rfl⟩
 have iJ:=yb (s:=s) (x:=x) ab an
 constructor
 case er=>exact h.er
 case eL=>exact h.eL
 case db=>exact h.db
 case cT=>exact fun u b I=>by simp only[dV]at I;split at I;exact h.cT x b (aE b I);exact h.cT u b I
 case dp=>exact fun u b I=>by simp only[dV]at I;split at I;exact h.dp x b (aE b I);exact h.dp u b I
 case c8=>
  intro u y b cr I aT
  simp only[dV]at I aT
  split at I
  ·rename_i hu
   rw[if_neg (fun e=>cr (hu.trans e.symm))]at aT
   exact h.c8 x y b (fun e=>cr (hu.trans e)) (aE b I) aT
  ·rename_i hu
   split at aT
   ·exact h.c8 u x b hu I (aE b aT)
   ·exact h.c8 u y b cr I aT
 case cl=>exact fun u b I=>by simp only[dV]at I;split at I;exact h.cl x b (aE b I);exact h.cl u b I
 case b5=>
  intro u
  by_cases hu:u=x
  ·subst hu
   rw[jb,qT]
   rcases DL with⟨aG,aL⟩|e
   ·exact(ar.bx aL).2 ⟨aG,gY⟩
   ·rw[e,ar];trivial
  ·rw[gB _ _ hu,qU _ _ hu]
   exact(ar.bn eD rfl iJ (fun _ _ _ _ _ _=>rfl) (fun _ _=>rfl) _).1 _ _ _ (Nat.le_refl _) (fun _ _=>rfl) (h.b5 u)
 case old=>exact h.old
 case size=>exact h.size
 case os=>exact h.os
 case tape=>exact h.tape
 case output=>exact h.output
 case et=>exact h.et
theorem aX.store (h:aX w0 F0 X F S s ak w) {x:Nat} {q:List Nat} {d aV:j} (ab:j.sub q (s x)=some d) (ae:j.dn q (s x)=true)
  {dC:List Value} {Sn:Nat→Prop} (aC:ai w F aV dC Sn) (g9:aV.wd=d.wd)
  (cC:∀b,Sn b→b<w.heap.size) (aS:∀b,Sn b→¬F b) (a_:∀u b,Sn b→¬S u b) (bu:∀b,Sn b→X b∨w0.heap.size≤b):
  ∃(bG:List Value) (b:Nat) (l r:List Value) (cur:Array Value) (e:TypeId) (fr:Nat×Nat),b0 w q (s x) (ba (ak x)) none=some (d,bG,some (b,l.length))∧
   w.heap[b]? =some (.cells cur e fr)∧cur.toList=l++(bG++r)∧hM fr cur.size∧
   ∀aq,aq.heap[b]? =some (.cells (l++(dC++r)).toArray e fr)→(∀c,c≠b→aq.heap[c]? =w.heap[c]?)→aq.heap.size=w.heap.size→aq.os=w.os→aq.tape=w.tape→Out aq w→
    ∃az,aX w0 F0 X F az (b4 (ff x s) x (j.put q aV (s x))) ak aq:=by
 have aM:=fa ab (.inr ae)
 have ao:=h.b5 x
 rw[ar.bx aM]at ao
 obtain⟨bG,a,cI,df,dL,aE,aO,bg,cd,cQ⟩:=ctx q (s x) (ba (ak x)) (S x) none d ao.2 ab
 have DM:Deep w F q (s x) (ba (ak x)) d bG a cI:=by
  rcases cQ with⟨l,r,aG,aL,a1⟩|cQ
  ·exfalso
   have ic:∀(q:List Nat) (av:j) (cs:List Value) (a0:Option (Nat×Nat)) (d:j) (bG:List Value),j.dn q av=true→b0 w q av cs a0=some (d,bG,none)→False:=by
    intro q
    induction q with
    |nil=>intro av cs a0 d bG ae;simp[j.dn]at ae
    |cons k q ih=>
     have yc:∀(q:List Nat) (av:j) (cs:List Value) (l:Nat×Nat) (d:j) (bG:List Value),b0 w q av cs (some l)=some (d,bG,none)→False:=by
      intro q
      induction q with
      |nil=>intro av cs l d bG h;simp[b0]at h
      |cons k q sR=>
       intro av cs l d bG h
       cases av with
       |agg ah=>rw[b0]at h;split at h;exact sR _ _ _ _ _ h;cases h
       |tuple ah=>rw[b0]at h;split at h;exact sR _ _ _ _ _ h;cases h
       |aH sz xs=>simp only[b0]at h;split at h;exact sR _ _ _ _ _ h;cases h
       |bm y=>
        cases k with
        |zero=>rw[b0.eq_def]at h;simp only at h;split at h;exact sR _ _ _ _ _ h;cases h
        |succ k=>rw[show b0 w ((k+1)::q) (.bm y) cs (some l)=none from rfl]at h;cases h
       |_=>simp[b0]at h
     intro av cs a0 d bG ae h
     cases av with
     |agg ah=>
      simp only[j.dn]at ae
      split at ae
      ·rename_i y aT
       simp only[b0,aT]at h
       exact ih _ _ _ _ _ ae h
      ·cases ae
     |tuple ah=>
      simp only[j.dn]at ae
      split at ae
      ·rename_i y aT
       simp only[b0,aT]at h
       exact ih _ _ _ _ _ ae h
      ·cases ae
     |aH sz xs=>simp only[b0]at h;split at h;exact yc _ _ _ _ _ _ h;cases h
     |bm y=>
      cases k with
      |zero=>rw[b0.eq_def]at h;simp only at h;split at h;exact yc _ _ _ _ _ _ h;cases h
      |succ k=>rw[show b0 w ((k+1)::q) (.bm y) cs a0=none from rfl]at h;cases h
     |_=>simp[j.dn]at ae
   simp only[Option.map_none]at aL
   subst aL
   exact ic _ _ _ _ _ _ ae dL
  ·exact cQ
 obtain⟨b,cur,e,fr,l,r,rfl,aL,a1,b2,cb,bp⟩:=DM
 refine⟨bG,b,l,r,cur,e,fr,dL,a1,cb,b2,?_⟩
 intro aq iH jd cm u1 u2 n2
 have n3:S x b:=aE _ aL
 have lu:∀c,F c→aq.heap[c]? =w.heap[c]? :=fun c ae=>jd c (by rintro rfl;exact h.dp x _ n3 ae)
 have Rl:dC.length=bG.length:=by rw[ai.length _ _ _ aC,ai.length _ _ _ cd,g9]
 have gY:=bp aq aV dC Sn lu (fun c _ cr=>jd c cr) iH g9
  (ai.frame lu _ _ _ (fun c ae=>jd c (by rintro rfl;exact a_ x _ ae n3)) aC) (fun c ae lr=>a_ x c ae (aE _ lr))
 obtain⟨k,gm,rfl⟩:∃k gm,q=k::gm:=by
  cases q with
  |nil=>simp[j.dn]at ae
  |cons k q=>exact⟨k,q,rfl⟩
 have qY:∀v,ct (s x) v→ct (j.put (k::gm) aV (s x)) v:=by
  intro v aC
  rcases m7 k gm aV (s x)with⟨ah,gs,aG,e⟩|⟨ah,gs,aG,e⟩|⟨sz,xs,ys,aG,e⟩|⟨y,z,aG,e⟩|e
  ·rw[e];rw[aG]at aC;exact aC
  ·
   rw[aG]at aC ab ae⊢
   simp only[j.dn]at ae
   split at ae
   ·rename_i y aT
    simp only[j.put,aT]
    cases gm with
    |nil=>simp[j.dn]at ae
    |cons bq ej=>
     simp only[ct]at aC⊢
     obtain⟨arr,rfl,bf,jX⟩:=aC
     refine⟨arr,rfl,by simpa using bf,fun ad e hr he n4=> ?_⟩
     rw[List.getElem?_set]at he
     split at he
     ·rename_i uZ
      subst uZ
      split at he
      ·simp only[Option.some.injEq]at he
       subst he
       obtain⟨aE,aO,bg⟩:=jX _ y hr aT n4
       simp only[j.sub,aT]at ab
       exact⟨x_ aE,ya aO,bg.trans (j.ph (bq::ej) y d aV ab g9).symm⟩
      ·cases he
     ·exact jX ad e hr he n4
   ·cases ae
  ·rw[e];rw[aG]at aC;exact aC
  ·rw[e];rw[aG]at aC;exact aC
  ·rw[e];exact aC
 have DN:(j.put (k::gm) aV (s x)).tree=true:=by
  rcases m7 k gm aV (s x)with⟨ah,gs,aG,e⟩|⟨ah,gs,aG,e⟩|⟨sz,xs,ys,aG,e⟩|⟨y,z,aG,e⟩|e<;>rw[e]<;>first|rfl|exact aM
 let aj:=b4 (ff x s) x (j.put (k::gm) aV (s x))
 have eD:∀y,y≠x→(aj y).tree=true→aj y=s y∧ak y=ak y:=fun y aT aM=>by
  have e:aj y=bn x (s y):=gB _ _ aT
  rw[e]at aM⊢
  exact⟨(sQ aM).2,rfl⟩
 have iJ:(aj x).plain=false→(s x).plain=false∧∀v,ct (s x) v→ct (aj x) v:=by
  intro _
  refine⟨?_,?_⟩
  ·cases qX:(s x).plain with
   |false=>rfl
   |true=>rw[j.x6 _ _ qX]at ae;cases ae
  ·simp only[aj,jb];exact qY
 refine⟨dV S x (fun c=>cI c∨Sn c),?_⟩
 constructor
 case er=>exact h.er
 case eL=>exact h.eL
 case db=>exact fun b I=>by rw[cm];exact h.db b I
 case cT=>
  intro u c I
  rw[cm]
  simp only[dV]at I
  split at I
  ·rcases I with I|I
   ·exact h.cT x c (aE c I)
   ·exact cC c I
  ·exact h.cT u c I
 case dp=>
  intro u c I
  simp only[dV]at I
  split at I
  ·rcases I with I|I
   ·exact h.dp x c (aE c I)
   ·exact aS c I
  ·exact h.dp u c I
 case c8=>
  intro u y c cr I aT
  simp only[dV]at I aT
  split at I
  ·rename_i hu
   rw[if_neg (fun e=>cr (hu.trans e.symm))]at aT
   rcases I with I|I
   ·exact h.c8 x y c (fun e=>cr (hu.trans e)) (aE c I) aT
   ·exact a_ y c I aT
  ·rename_i hu
   split at aT
   ·rcases aT with aT|aT
    ·exact h.c8 u x c hu I (aE c aT)
    ·exact a_ u c aT I
   ·exact h.c8 u y c cr I aT
 case cl=>
  intro u c I
  simp only[dV]at I
  split at I
  ·rcases I with I|I
   ·exact h.cl x c (aE c I)
   ·exact bu c I
  ·exact h.cl u c I
 case b5=>
  intro u
  by_cases hu:u=x
  ·subst hu
   rw[jb,qT]
   exact(ar.bx DN).2 ⟨qY _ ao.1,gY⟩
  ·rw[gB _ _ hu,qU _ _ hu]
   have cr:∀y c,y≠x→S y c→aq.heap[c]? =w.heap[c]? :=fun y c aT ae=>jd c (by rintro rfl;exact h.c8 y x c aT ae n3)
   refine(ar.bn eD rfl iJ (fun y ej d2 aT fg qZ=> ?_) lu _).1 _ _ _ (Nat.le_refl _) (fun c ae=>cr u c hu ae) (h.b5 u)
   have q0:=h.b5 y
   rw[ar.bx (fa fg qZ)]at q0
   exact sP ej _ _ _ none d2 q0.2 fg (fun c ae=>cr y c aT ae)
 case old=>
  intro c cC gC
  by_cases m8:c=b
  ·subst m8
   exfalso
   rcases h.cl x c n3 with jc|jc
   ·exact gC jc
   ·omega
  ·exact(jd c m8).trans (h.old c cC gC)
 case size=>rw[cm];exact h.size
 case os=>exact u1.trans h.os
 case tape=>exact u2.trans h.tape
 case output=>exact n2.trans h.output
 case et=>exact h.et
end
end Go.bZ
