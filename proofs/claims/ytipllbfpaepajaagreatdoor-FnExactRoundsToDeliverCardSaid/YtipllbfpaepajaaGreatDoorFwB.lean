/- Part of a proof that a law returns true for every input. No condition. -/
import Derived.Test.YtipllbfpaepajaaGreatDoorFwA
import Derived.Laws.AppendOwn
import Derived.Calls
namespace Go.b9
inductive r3 where
 |mp (es:List (List UInt8×Bool))
 |nS
 |fy (T e:TypeId) (hY:List UInt8)
inductive I where
 |hole
 |bool (b:Bool)
 |dd
 |int (k:IntKind) (n:Int)
 |str (s:List UInt8)
 |cn
 |bH
 |slice (xs:List I)
 |aK (sz:Nat) (xs:List I)
 |ref (d:I)
 |a1 (d:I)
 |agg (af:List I)
 |tuple (vs:List I)
 |fn (f:FuncId) (cap:List I)
 |h (x:Nat) (q:List Nat)
 |ak (x:Nat) (q:List Nat)
 |R (x:Nat) (k:Nat)
 |cA (o:r3)
 deriving Inhabited
mutual
def I.wd:I→Nat
 | .agg af=>I.cH af
 | .tuple af=>I.cH af
 |_=>1
def I.cH:List I→Nat
 |[]=>0
 |d::ds=>d.wd+I.cH ds
end
def fi (w:World) (b o:Nat) (cs:List Value):Prop:=∀j c,cs[j]? =some c→w.cell? ⟨b,o+j,none⟩=some c
def nT (fr:Nat×Nat) (n:Nat):Prop:=∀o,o<n→¬(fr.1≤o∧o<fr.2)
def Value.eF:Value→Bool
 | .agg _=>false
 | .tuple _=>false
 |_=>true
def I.single:I→Bool
 | .agg _=>false
 | .tuple _=>false
 | .hole=>false
 |_=>true
def iT (w:World):r3→List Value→(Nat→Prop)→Prop
 | .mp es,cs,S=>∃r ms jR,cs=[.map (some r)]∧S r∧w.heap[r]? =some (.map ms jR)∧ms.toList.map (fun e=>(e.key,e.val))=es.map (fun e=>(.string ⟨⟨e.1⟩⟩,.bool e.2))
 | .nS,cs,_=>cs=[.map none]
 | .fy T e hY,cs,S=>∃b a oY,cs=[.pointer (some ⟨b,0,none⟩)]∧S b∧w.heap[b]? =some (.cells #[a,oY] T (0,0))∧(a= .pointer none∨a= .pointer (some ⟨b,0,none⟩))∧
   ((hY=[]∧oY= .slice none 0 0)∨
     ∃g cap cur,oY= .slice (some ⟨g,0,none⟩) hY.length cap∧S g∧g≠b∧w.heap[g]? =some (.cells cur e (0,0))∧hY.length≤cap∧cap≤maxLen∧cur.size=cap∧
      cur.toList.take hY.length=hY.map fun x=>.int .u8 x.toNat)
theorem iT.frame {w aw:World}:∀{o:r3} {cs:List Value} {S:Nat→Prop},(∀b,S b→aw.heap[b]? =w.heap[b]?)→iT w o cs S→iT aw o cs S
 | .mp _,_,_,bd,⟨r,ms,jR,aa,ad,aB,aO⟩=>⟨r,ms,jR,aa,ad,(bd _ ad).trans aB,aO⟩
 | .nS,_,_,_,h=>h
 | .fy _ _ _,_,_,bd,⟨b,a,oY,aa,ad,aB,aO,a6⟩=>⟨b,a,oY,aa,ad,(bd _ ad).trans aB,aO,a6.imp (fun h=>h) fun⟨g,cap,cur,l5,i2,i3,i4,i5⟩=>⟨g,cap,cur,l5,i2,i3,(bd _ i2).trans i4,i5⟩⟩
theorem iT.mono {w:World}:∀{o:r3} {cs:List Value} {S aD:Nat→Prop},(∀b,S b→aD b)→iT w o cs S→iT w o cs aD
 | .mp _,_,_,_,bd,⟨r,ms,jR,aa,ad,aB⟩=>⟨r,ms,jR,aa,bd _ ad,aB⟩
 | .nS,_,_,_,_,h=>h
 | .fy _ _ _,_,_,_,bd,⟨b,a,oY,aa,ad,aB,aO,a6⟩=>⟨b,a,oY,aa,bd _ ad,aB,aO,a6.imp (fun h=>h) fun⟨g,cap,cur,l5,i2,i3⟩=>⟨g,cap,cur,l5,bd _ i2,i3⟩⟩
theorem iT.one {w:World}:∀{o:r3} {cs:List Value} {S:Nat→Prop},iT w o cs S→∃v,Value.eF v=true∧cs=[v]
 | .mp _,_,_,⟨_,_,_,h,_⟩=>⟨_,rfl,h⟩
 | .nS,_,_,h=>⟨_,rfl,h⟩
 | .fy _ _ _,_,_,⟨_,_,_,h,_⟩=>⟨_,rfl,h⟩
mutual
def al (w:World) (F:Nat→Prop):I→List Value→(Nat→Prop)→Prop
 | .hole,cs,_=>∃v,Value.eF v=true∧cs=[v]
 | .bool b,cs,_=>cs=[.bool b]
 | .dd,cs,_=>∃b,cs=[.bool b]
 | .int k n,cs,_=>cs=[.int k n]
 | .str s,cs,_=>cs=[.string ⟨⟨s⟩⟩]
 | .cn,cs,_=>cs=[.pointer none]
 | .bH,cs,_=>cs=[.slice none 0 0]
 | .slice xs,cs,_=>(xs=[]∧∃a c,cs=[.slice a 0 c]∧c≤maxLen∧(a=none→c=0))∨
   ∃b o cap cO sz,cs=[.slice (some ⟨b,o,none⟩) xs.length cap]∧F b∧xs.length≤cap∧cap≤maxLen∧(∀d∈xs,d.wd=sz)∧
    fi w b o cO∧aM w F xs cO (fun _=>False)
 | .aK sz xs,cs,S=>(xs=[]∧∃a,cs=[.slice a 0 0])∨
   ∃b cap cur e fr aD,cs=[.slice (some ⟨b,0,none⟩) xs.length cap]∧S b∧w.heap[b]? =some (.cells cur e fr)∧nT fr cur.size∧
    xs.length≤cap∧cap≤maxLen∧cur.size=cap*sz∧(∀d∈xs,d.wd=sz)∧aM w F xs (cur.toList.take (xs.length*sz)) aD∧(∀c,aD c→S c)∧¬aD b
 | .ref d,cs,_=>∃b o cO,cs=[.pointer (some ⟨b,o,none⟩)]∧F b∧fi w b o cO∧al w F d cO (fun _=>False)
 | .a1 d,cs,S=>∃b cur e fr aD,cs=[.pointer (some ⟨b,0,none⟩)]∧S b∧w.heap[b]? =some (.cells cur e fr)∧nT fr cur.size∧
   al w F d cur.toList aD∧(∀c,aD c→S c)∧¬aD b
 | .agg af,cs,S=>aM w F af cs S
 | .tuple af,cs,S=>aM w F af cs S
 | .fn f caps,cs,_=>∃arr:Array Value,cs=[.func (.func f) #[] arr]∧(∀d∈caps,d.single=true)∧aM w F caps arr.toList (fun _=>False)
 | .h _ _,_,_=>False
 | .ak _ _,_,_=>False
 | .R _ _,_,_=>False
 | .cA o,cs,S=>iT w o cs S
def aM (w:World) (F:Nat→Prop):List I→List Value→(Nat→Prop)→Prop
 |[],cs,_=>cs=[]
 |d::ds,cs,S=>∃bN c2 bk cp,cs=bN++c2∧al w F d bN bk∧aM w F ds c2 cp∧(∀b,bk b→S b)∧(∀b,cp b→S b)∧(∀b,bk b→¬cp b)
end
theorem cell?_of_block {w aw:World} {b:Nat} (h:aw.heap[b]? =w.heap[b]?) (o:Nat):aw.cell? ⟨b,o,none⟩=w.cell? ⟨b,o,none⟩:=by
 simp[World.cell?,h]
theorem fi.frame {w aw:World} {b o:Nat} {cs:List Value} (h:aw.heap[b]? =w.heap[b]?) (aC:fi w b o cs):fi aw b o cs:=
 fun j c ai=>(cell?_of_block h _).trans (aC j c ai)
mutual
theorem al.frame {w aw:World} {F:Nat→Prop} (aX:∀b,F b→aw.heap[b]? =w.heap[b]?):
  ∀(d:I) (cs:List Value) (S:Nat→Prop),(∀b,S b→aw.heap[b]? =w.heap[b]?)→al w F d cs S→al aw F d cs S
 | .hole,_,_,_,h=>h
 | .bool _,_,_,_,h=>h
 | .dd,_,_,_,h=>h
 | .int _ _,_,_,_,h=>h
 | .str _,_,_,_,h=>h
 | .cn,_,_,_,h=>h
 | .bH,_,_,_,h=>h
 | .slice xs,cs,S,bd,h=>by
   rw[al]at h⊢
   rcases h with h|⟨b,o,cap,cO,sz,aa,ad,aB,aO,a6,bp,bB⟩
   ·exact .inl h
   ·exact .inr ⟨b,o,cap,cO,sz,aa,ad,aB,aO,a6,bp.frame (aX _ ad),aM.frame aX xs _ _ (fun _ h=>h.elim) bB⟩
 | .aK sz xs,cs,S,bd,h=>by
   rw[al]at h⊢
   rcases h with h|⟨b,cap,cur,e,fr,aD,aa,ad,aB,aO,a6,bp,bB,cE,eL,fj,iU⟩
   ·exact .inl h
   ·exact .inr ⟨b,cap,cur,e,fr,aD,aa,ad,(bd _ ad).trans aB,aO,a6,bp,bB,cE,aM.frame aX xs _ _ (fun c ai=>bd _ (fj _ ai)) eL,fj,iU⟩
 | .ref d,cs,S,bd,h=>by
   rw[al]at h⊢
   obtain⟨b,o,cO,aa,ad,aB,aO⟩:=h
   exact⟨b,o,cO,aa,ad,aB.frame (aX _ ad),al.frame aX d _ _ (fun _ h=>h.elim) aO⟩
 | .a1 d,cs,S,bd,h=>by
   rw[al]at h⊢
   obtain⟨b,cur,e,fr,aD,aa,ad,aB,aO,a6,bp,bB⟩:=h
   exact⟨b,cur,e,fr,aD,aa,ad,(bd _ ad).trans aB,aO,al.frame aX d _ _ (fun c ai=>bd _ (bp _ ai)) a6,bp,bB⟩
 | .agg af,cs,S,bd,h=>by rw[al]at h⊢;exact aM.frame aX af _ _ bd h
 | .tuple af,cs,S,bd,h=>by rw[al]at h⊢;exact aM.frame aX af _ _ bd h
 | .fn _ caps,cs,S,bd,h=>by
   rw[al]at h⊢
   obtain⟨arr,aa,ad,aB⟩:=h
   exact⟨arr,aa,ad,aM.frame aX caps _ _ (fun _ h=>h.elim) aB⟩
 | .h _ _,_,_,_,h=>h
 | .ak _ _,_,_,_,h=>h
 | .R _ _,_,_,_,h=>h
 | .cA _,_,_,bd,h=>iT.frame bd h
theorem aM.frame {w aw:World} {F:Nat→Prop} (aX:∀b,F b→aw.heap[b]? =w.heap[b]?):
  ∀(ds:List I) (cs:List Value) (S:Nat→Prop),(∀b,S b→aw.heap[b]? =w.heap[b]?)→aM w F ds cs S→aM aw F ds cs S
 |[],_,_,_,h=>h
 |d::ds,cs,S,bd,h=>by
  rw[aM]at h⊢
  obtain⟨bN,c2,bk,cp,aa,ad,aB,aO,a6,bp⟩:=h
  exact⟨bN,c2,bk,cp,aa,al.frame aX d _ _ (fun b R=>bd _ (aO _ R)) ad,aM.frame aX ds _ _ (fun b R=>bd _ (a6 _ R)) aB,aO,a6,bp⟩
end
mutual
theorem al.mono {w:World} {F bc:Nat→Prop} (aX:∀b,F b→bc b):
  ∀(d:I) (cs:List Value) (S aD:Nat→Prop),(∀b,S b→aD b)→al w F d cs S→al w bc d cs aD
 | .hole,_,_,_,_,h=>h
 | .bool _,_,_,_,_,h=>h
 | .dd,_,_,_,_,h=>h
 | .int _ _,_,_,_,_,h=>h
 | .str _,_,_,_,_,h=>h
 | .cn,_,_,_,_,h=>h
 | .bH,_,_,_,_,h=>h
 | .slice xs,cs,S,_,bd,h=>by
   rw[al]at h⊢
   rcases h with h|⟨b,o,cap,cO,sz,aa,ad,aB,aO,a6,bp,bB⟩
   ·exact .inl h
   ·exact .inr ⟨b,o,cap,cO,sz,aa,aX _ ad,aB,aO,a6,bp,aM.mono aX xs _ _ _ (fun _ h=>h) bB⟩
 | .aK sz xs,cs,S,_,bd,h=>by
   rw[al]at h⊢
   rcases h with h|⟨b,cap,cur,e,fr,aD,aa,ad,aB,aO,a6,bp,bB,cE,eL,fj,iU⟩
   ·exact .inl h
   ·exact .inr ⟨b,cap,cur,e,fr,aD,aa,bd _ ad,aB,aO,a6,bp,bB,cE,aM.mono aX xs _ _ _ (fun _ h=>h) eL,fun c ai=>bd _ (fj _ ai),iU⟩
 | .ref d,cs,S,_,bd,h=>by
   rw[al]at h⊢
   obtain⟨b,o,cO,aa,ad,aB,aO⟩:=h
   exact⟨b,o,cO,aa,aX _ ad,aB,al.mono aX d _ _ _ (fun _ h=>h) aO⟩
 | .a1 d,cs,S,_,bd,h=>by
   rw[al]at h⊢
   obtain⟨b,cur,e,fr,aD,aa,ad,aB,aO,a6,bp,bB⟩:=h
   exact⟨b,cur,e,fr,aD,aa,bd _ ad,aB,aO,al.mono aX d _ _ _ (fun _ h=>h) a6,fun c ai=>bd _ (bp _ ai),bB⟩
 | .agg af,cs,S,_,bd,h=>by rw[al]at h⊢;exact aM.mono aX af _ _ _ bd h
 | .tuple af,cs,S,_,bd,h=>by rw[al]at h⊢;exact aM.mono aX af _ _ _ bd h
 | .fn _ caps,cs,S,_,bd,h=>by
   rw[al]at h⊢
   obtain⟨arr,aa,ad,aB⟩:=h
   exact⟨arr,aa,ad,aM.mono aX caps _ _ _ (fun _ h=>h) aB⟩
 | .h _ _,_,_,_,_,h=>h
 | .ak _ _,_,_,_,_,h=>h
 | .R _ _,_,_,_,_,h=>h
 | .cA _,_,_,_,bd,h=>iT.mono bd h
theorem aM.mono {w:World} {F bc:Nat→Prop} (aX:∀b,F b→bc b):
  ∀(ds:List I) (cs:List Value) (S aD:Nat→Prop),(∀b,S b→aD b)→aM w F ds cs S→aM w bc ds cs aD
 |[],_,_,_,_,h=>h
 |d::ds,cs,S,_,bd,h=>by
  rw[aM]at h⊢
  obtain⟨bN,c2,bk,cp,aa,ad,aB,aO,a6,bp⟩:=h
  exact⟨bN,c2,bk,cp,aa,al.mono aX d _ _ _ (fun _ h=>h) ad,aM.mono aX ds _ _ _ (fun _ h=>h) aB,fun b R=>bd _ (aO _ R),fun b R=>bd _ (a6 _ R),bp⟩
end
mutual
theorem al.length {w:World} {F:Nat→Prop}:∀(d:I) (cs:List Value) (S:Nat→Prop),al w F d cs S→cs.length=d.wd
 | .hole,cs,S,h=>by rw[al]at h;obtain⟨v,_,rfl⟩:=h;rfl
 | .bool _,cs,S,h=>by rw[al]at h;subst h;rfl
 | .dd,cs,S,h=>by rw[al]at h;obtain⟨b,rfl⟩:=h;rfl
 | .int _ _,cs,S,h=>by rw[al]at h;subst h;rfl
 | .str _,cs,S,h=>by rw[al]at h;subst h;rfl
 | .cn,cs,S,h=>by rw[al]at h;subst h;rfl
 | .bH,cs,S,h=>by rw[al]at h;subst h;rfl
 | .slice xs,cs,S,h=>by
   rw[al]at h
   rcases h with⟨_,a,c,rfl,_⟩|⟨b,o,cap,cO,sz,rfl,_⟩<;>rfl
 | .aK sz xs,cs,S,h=>by
   rw[al]at h
   rcases h with⟨_,a,rfl⟩|⟨b,cap,cur,e,fr,aD,rfl,_⟩<;>rfl
 | .ref d,cs,S,h=>by rw[al]at h;obtain⟨b,o,cO,rfl,_⟩:=h;rfl
 | .a1 d,cs,S,h=>by rw[al]at h;obtain⟨b,o,cO,_,_,rfl,_⟩:=h;rfl
 | .agg af,cs,S,h=>by rw[al]at h;exact aM.length af _ _ h
 | .tuple af,cs,S,h=>by rw[al]at h;exact aM.length af _ _ h
 | .fn _ _,cs,S,h=>by rw[al]at h;obtain⟨arr,rfl,_⟩:=h;rfl
 | .h _ _,cs,S,h=>by rw[al]at h;exact h.elim
 | .ak _ _,cs,S,h=>by rw[al]at h;exact h.elim
 | .R _ _,cs,S,h=>by rw[al]at h;exact h.elim
 | .cA _,cs,S,h=>by rw[al]at h;obtain⟨v,_,rfl⟩:=iT.one h;rfl
theorem aM.length {w:World} {F:Nat→Prop}:∀(ds:List I) (cs:List Value) (S:Nat→Prop),aM w F ds cs S→cs.length=I.cH ds
 |[],cs,S,h=>by rw[aM]at h;subst h;rfl
 |d::ds,cs,S,h=>by
  rw[aM]at h
  obtain⟨bN,c2,bk,cp,rfl,ad,aB,_⟩:=h
  rw[List.length_append,al.length d _ _ ad,aM.length ds _ _ aB,I.cH]
end
mutual
def I.share:I→I
 | .aK _ xs=>.slice (I.shares xs)
 | .a1 d=>.ref d.share
 | .slice xs=>.slice (I.shares xs)
 | .ref d=>.ref d.share
 | .agg af=>.agg (I.shares af)
 | .tuple af=>.tuple (I.shares af)
 | .cA _=>.hole
 |d=>d
def I.shares:List I→List I
 |[]=>[]
 |d::ds=>d.share::I.shares ds
end
theorem I.oZ (ds:List I):I.shares ds=ds.map I.share:=by
 induction ds with
 |nil=>rfl
 |cons d ds ih=>simp[I.shares,ih]
mutual
theorem I.uk:∀d:I,d.share.wd=d.wd
 | .hole=>rfl
 | .bool _=>rfl
 | .dd=>rfl
 | .int _ _=>rfl
 | .str _=>rfl
 | .cn=>rfl
 | .bH=>rfl
 | .slice _=>rfl
 | .aK _ _=>rfl
 | .ref _=>rfl
 | .a1 _=>rfl
 | .agg af=>by simp only[I.share,I.wd];exact I.wQ af
 | .tuple af=>by simp only[I.share,I.wd];exact I.wQ af
 | .fn _ _=>rfl
 | .h _ _=>rfl
 | .ak _ _=>rfl
 | .R _ _=>rfl
 | .cA _=>rfl
theorem I.wQ:∀ds:List I,I.cH (I.shares ds)=I.cH ds
 |[]=>rfl
 |d::ds=>by simp only[I.shares,I.cH];rw[I.uk d,I.wQ ds]
end
theorem qh {w:World} {b:Nat} {cur:Array Value} {e:TypeId} {fr:Nat×Nat} (h:w.heap[b]? =some (.cells cur e fr)) (n:Nat):fi w b 0 (cur.toList.take n):=by
 intro j c ai
 rw[List.getElem?_take]at ai
 split at ai
 ·simp[World.cell?,h];simpa using ai
 ·cases ai
mutual
theorem al.shared {w:World} {F bc:Nat→Prop} (aX:∀b,F b→bc b):
  ∀(d:I) (cs:List Value) (S:Nat→Prop),(∀b,S b→bc b)→al w F d cs S→al w bc d.share cs (fun _=>False)
 | .hole,_,_,_,h=>h
 | .bool _,_,_,_,h=>h
 | .dd,_,_,_,h=>h
 | .int _ _,_,_,_,h=>h
 | .str _,_,_,_,h=>h
 | .cn,_,_,_,h=>h
 | .bH,_,_,_,h=>h
 | .slice xs,cs,S,bd,h=>by
   rw[I.share,al]
   rw[al]at h
   rcases h with⟨rfl,a,c,rfl,ai⟩|⟨b,o,cap,cO,sz,aa,ad,aB,aO,a6,bp,bB⟩
   ·exact .inl ⟨rfl,a,c,rfl,ai⟩
   ·refine .inr ⟨b,o,cap,cO,sz,?_,aX _ ad,?_,aO,?_,bp,aM.shared aX xs _ _ (fun _ h=>h.elim) bB⟩
    ·simpa [I.oZ]using aa
    ·simpa [I.oZ]using aB
    ·intro d ae
     rw[I.oZ]at ae
     obtain⟨aV,eX,rfl⟩:=List.mem_map.1 ae
     rw[I.uk];exact a6 _ eX
 | .aK sz xs,cs,S,bd,h=>by
   rw[I.share,al]
   rw[al]at h
   rcases h with⟨rfl,a,rfl⟩|⟨b,cap,cur,e,fr,aD,aa,ad,aB,aO,a6,bp,bB,cE,eL,fj,iU⟩
   ·exact .inl ⟨rfl,a,0,rfl,Nat.zero_le _,fun _=>rfl⟩
   ·refine .inr ⟨b,0,cap,_,sz,?_,bd _ ad,?_,bp,?_,qh aB _,aM.shared aX xs _ _ (fun c ai=>bd _ (fj _ ai)) eL⟩
    ·simpa [I.oZ]using aa
    ·simpa [I.oZ]using a6
    ·intro d ae
     rw[I.oZ]at ae
     obtain⟨aV,eX,rfl⟩:=List.mem_map.1 ae
     rw[I.uk];exact cE _ eX
 | .ref d,cs,S,bd,h=>by
   rw[I.share,al]
   rw[al]at h
   obtain⟨b,o,cO,aa,ad,aB,aO⟩:=h
   exact⟨b,o,cO,aa,aX _ ad,aB,al.shared aX d _ _ (fun _ h=>h.elim) aO⟩
 | .a1 d,cs,S,bd,h=>by
   rw[I.share,al]
   rw[al]at h
   obtain⟨b,cur,e,fr,aD,aa,ad,aB,aO,a6,bp,bB⟩:=h
   refine⟨b,0,cur.toList,aa,bd _ ad,?_,al.shared aX d _ _ (fun c ai=>bd _ (bp _ ai)) a6⟩
   have:=qh aB cur.toList.length
   rwa [List.take_length]at this
 | .agg af,cs,S,bd,h=>by rw[I.share,al];rw[al]at h;exact aM.shared aX af _ _ bd h
 | .tuple af,cs,S,bd,h=>by rw[I.share,al];rw[al]at h;exact aM.shared aX af _ _ bd h
 | .fn f caps,cs,S,bd,h=>by
   show al w bc (.fn f caps) cs _
   rw[al]at h⊢
   obtain⟨arr,aa,ad,aB⟩:=h
   exact⟨arr,aa,ad,aM.mono aX caps _ _ _ (fun _ h=>h) aB⟩
 | .h _ _,_,_,_,h=>h
 | .ak _ _,_,_,_,h=>h
 | .R _ _,_,_,_,h=>h
 | .cA _,cs,S,bd,h=>by rw[al]at h;rw[I.share,al];exact iT.one h
theorem aM.shared {w:World} {F bc:Nat→Prop} (aX:∀b,F b→bc b):
  ∀(ds:List I) (cs:List Value) (S:Nat→Prop),(∀b,S b→bc b)→aM w F ds cs S→aM w bc (I.shares ds) cs (fun _=>False)
 |[],_,_,_,h=>h
 |d::ds,cs,S,bd,h=>by
  simp only[I.shares]
  rw[aM]at h⊢
  obtain⟨bN,c2,bk,cp,aa,ad,aB,aO,a6,bp⟩:=h
  exact⟨bN,c2,_,_,aa,al.shared aX d _ _ (fun b R=>bd _ (aO _ R)) ad,aM.shared aX ds _ _ (fun b R=>bd _ (a6 _ R)) aB,fun _ h=>h,fun _ h=>h,fun _ h=>h.elim⟩
end
def I.sub:List Nat→I→Option I
 |[],d=>some d
 |k::q,.agg af=>match af[k]? with
  |some d=>I.sub q d
  |none=>none
 |k::q,.tuple af=>match af[k]? with
  |some d=>I.sub q d
  |none=>none
 |i::q,.aK _ xs=>match xs[i]? with
  |some d=>I.sub q d
  |none=>none
 |0::q,.a1 d=>I.sub q d
 |_::_,_=>none
def I.put:List Nat→I→I→I
 |[],n,_=>n
 |k::q,n,.agg af=>match af[k]? with
  |some d=>.agg (af.set k (I.put q n d))
  |none=>.agg af
 |k::q,n,.tuple af=>match af[k]? with
  |some d=>.tuple (af.set k (I.put q n d))
  |none=>.tuple af
 |i::q,n,.aK sz xs=>match xs[i]? with
  |some d=>.aK sz (xs.set i (I.put q n d))
  |none=>.aK sz xs
 |0::q,n,.a1 d=>.a1 (I.put q n d)
 |_::_,_,d=>d
def kj (w:World) (b o n:Nat):List Value:=(List.range n).map fun j=>(w.cell? ⟨b,o+j,none⟩).getD undef
theorem fi.kj {w:World} {b o:Nat} {cs:List Value} (h:fi w b o cs):kj w b o cs.length=cs:=by
 unfold b9.kj
 apply List.ext_getElem?
 intro i
 rw[List.getElem?_map]
 by_cases aA:i<cs.length
 ·have:cs[i]? =some cs[i]:=List.getElem?_eq_getElem aA
  simp[aA,h i _ this]
 ·simp[aA]
def cb (w:World):List Nat→I→List Value→Option (Nat×Nat)→Option (I×List Value×Option (Nat×Nat))
 |[],d,cs,a=>some (d,cs,a)
 |k::q,.agg af,cs,a=>match af[k]? with
  |some d=>cb w q d ((cs.drop (I.cH (af.take k))).take d.wd) (a.map fun l=>(l.1,l.2+I.cH (af.take k)))
  |none=>none
 |k::q,.tuple af,cs,a=>match af[k]? with
  |some d=>cb w q d ((cs.drop (I.cH (af.take k))).take d.wd) (a.map fun l=>(l.1,l.2+I.cH (af.take k)))
  |none=>none
 |i::q,.aK sz xs,cs,_=>match xs[i]?,cs with
  |some d,[.slice (some ⟨b,_,_⟩) _ _]=>cb w q d (kj w b (i*sz) sz) (some (b,i*sz))
  |_,_=>none
 |0::q,.a1 d,cs,_=>match cs with
  |[.pointer (some ⟨b,_,_⟩)]=>cb w q d (kj w b 0 d.wd) (some (b,0))
  |_=>none
 |_::_,_,_,_=>none
theorem o0 (bN dT c2:List Value) (n m:Nat) (aa:bN.length=n) (ad:dT.length=m):((bN++(dT++c2)).drop n).take m=dT:=by
 rw[List.drop_left' aa,List.take_left' ad]
theorem aM.pick {w:World} {F:Nat→Prop}:∀(ds:List I) (cs:List Value) (S:Nat→Prop) (k:Nat) (d:I),
  aM w F ds cs S→ds[k]? =some d→∃(bN dT c2:List Value) (bk fk:Nat→Prop),cs=bN++(dT++c2)∧bN.length=I.cH (ds.take k)∧
   (∀b,bk b→S b)∧(∀b,fk b→S b)∧(∀b,bk b→¬fk b)∧al w F d dT fk∧
   ∀(aw:World) (aV:I) (o1:List Value) (aD:Nat→Prop),(∀b,F b→aw.heap[b]? =w.heap[b]?)→(∀b,bk b→aw.heap[b]? =w.heap[b]?)→
    al aw F aV o1 aD→(∀b,aD b→¬bk b)→aM aw F (ds.set k aV) (bN++(o1++c2)) (fun b=>bk b∨aD b)
 |[],_,_,_,_,_,ar=>by simp at ar
 |x::ds,cs,S,0,d,h,ar=>by
  rw[aM]at h
  obtain⟨bN,c2,e_,eM,rfl,aa,ad,bQ,R,jk⟩:=h
  simp at ar;subst ar
  refine⟨[],bN,c2,eM,e_,rfl,rfl,R,bQ,fun b R bQ=>jk _ bQ R,aa,?_⟩
  intro aw aV o1 aD aX bd ae gm
  simp only[List.set_cons_zero,List.nil_append]
  rw[aM]
  exact⟨o1,c2,aD,eM,rfl,ae,aM.frame aX _ _ _ bd ad,fun b h=>.inr h,fun b h=>.inl h,fun b h=>gm b h⟩
 |x::ds,cs,S,k+1,d,h,ar=>by
  rw[aM]at h
  obtain⟨c0,GB,e_,eM,rfl,aa,ad,bQ,R,jk⟩:=h
  simp only[List.getElem?_cons_succ]at ar
  have aJ:=al.length _ _ _ aa
  obtain⟨bN,dT,c2,bk,fk,rfl,i0,l5,i2,i3,i5,wR⟩:=aM.pick ds GB eM k d ad ar
  refine⟨c0++bN,dT,c2,fun b=>e_ b∨bk b,fk,by simp,by simp[I.cH,aJ,i0],?_,fun b h=>R _ (i2 _ h),?_,i5,?_⟩
  ·rintro b (h|h)
   ·exact bQ _ h
   ·exact R _ (l5 _ h)
  ·rintro b (h|h) ar
   ·exact jk _ h (i2 _ ar)
   ·exact i3 _ h ar
  ·intro aw aV o1 aD aX bd ae gm
   simp only[List.set_cons_succ]
   rw[aM]
   refine⟨c0,bN++(o1++c2),e_,fun b=>bk b∨aD b,by simp,al.frame aX _ _ _ (fun b R=>bd b (.inl R)) aa,
    wR aw aV o1 aD aX (fun b R=>bd b (.inr R)) ae (fun b R ai=>gm b R (.inr ai)),fun b h=>.inl (.inl h),?_,?_⟩
   ·rintro b (h|h)
    ·exact .inl (.inr h)
    ·exact .inr h
   ·rintro b h (aQ|aQ)
    ·exact jk _ h (l5 _ aQ)
    ·exact gm _ aQ (.inl h)
theorem wS:∀(af:List I) (k:Nat) (x y:I),af[k]? =some x→y.wd=x.wd→I.cH (af.set k y)=I.cH af:=by
 intro af
 induction af with
 |nil=>intro k x y h;simp at h
 |cons a af ih=>
  intro k x y h e
  cases k with
  |zero=>simp at h;subst h;simp[I.cH,e]
  |succ k=>simp at h;simp[I.cH,ih k x y h e]
theorem o2 {sz:Nat}:∀(xs:List I),(∀d∈xs,d.wd=sz)→I.cH xs=xs.length*sz
 |[],_=>by simp[I.cH]
 |x::xs,h=>by
  rw[I.cH,h x (by simp),o2 xs (fun d ae=>h d (by simp[ae])),List.length_cons,Nat.add_mul,Nat.one_mul,Nat.add_comm]
theorem I.qi:∀(q:List Nat) (av d aV:I),I.sub q av=some d→aV.wd=d.wd→(I.put q aV av).wd=av.wd:=by
 intro q
 induction q with
 |nil=>intro av d aV h e;simp[I.sub]at h;subst h;simpa [I.put]using e
 |cons k q ih=>
  intro av d aV h e
  cases av with
  |agg af=>
   simp only[I.sub]at h
   split at h
   ·rename_i x ao
    simp only[I.put,ao,I.wd]
    exact wS _ _ _ _ ao (ih _ _ _ h e)
   ·cases h
  |tuple af=>
   simp only[I.sub]at h
   split at h
   ·rename_i x ao
    simp only[I.put,ao,I.wd]
    exact wS _ _ _ _ ao (ih _ _ _ h e)
   ·cases h
  |aK sz xs=>
   simp only[I.sub]at h
   split at h
   ·rename_i x ao
    simp only[I.put,ao,I.wd]
   ·cases h
  |a1 x=>
   cases k with
   |zero=>simp only[I.put,I.wd]
   |succ k=>simp[I.sub]at h
  |_=>simp[I.sub]at h
theorem wT {sz:Nat} {xs:List I} {i:Nat} {y:I} (h:∀d∈xs,d.wd=sz) (hy:y.wd=sz):∀d∈xs.set i y,d.wd=sz:=by
 intro d ae
 rcases List.mem_or_eq_of_mem_set ae with ae|rfl
 ·exact h d ae
 ·exact hy
theorem qj {w:World} {b:Nat} {cur:Array Value} {e:TypeId} {fr:Nat×Nat} (h:w.heap[b]? =some (.cells cur e fr)) {l m r:List Value} (ai:cur.toList=l++(m++r)):
  kj w b l.length m.length=m:=by
 refine fi.kj (fun j c bY=> ?_)
 have cY:j<m.length:=(List.getElem?_eq_some_iff.1 bY).1
 have:cur.toList[l.length+j]? =some c:=by
  rw[ai,List.getElem?_append_right (by omega),List.getElem?_append_left (by omega)]
  rw[←bY];congr 1;omega
 simp[World.cell?,h]
 simpa using this
def Flat (w:World) (F:Nat→Prop) (q:List Nat) (av:I) (cs:List Value) (a:Option (Nat×Nat)) (d:I) (bP:List Value) (b2:Option (Nat×Nat)) (cL:Nat→Prop):Prop:=
 ∃l r:List Value,cs=l++(bP++r)∧b2=a.map (fun x=>(x.1,x.2+l.length))∧
  ∀(aw:World) (aV:I) (dU:List Value) (aD:Nat→Prop),(∀b,F b→aw.heap[b]? =w.heap[b]?)→(∀b,cL b→aw.heap[b]? =w.heap[b]?)→
   aV.wd=d.wd→al aw F aV dU aD→(∀b,aD b→¬cL b)→al aw F (I.put q aV av) (l++(dU++r)) (fun b=>cL b∨aD b)
def Deep (w:World) (F:Nat→Prop) (q:List Nat) (av:I) (cs:List Value) (d:I) (bP:List Value) (b2:Option (Nat×Nat)) (cL:Nat→Prop):Prop:=
 ∃(b:Nat) (cur:Array Value) (e:TypeId) (fr:Nat×Nat) (l r:List Value),b2=some (b,l.length)∧cL b∧w.heap[b]? =some (.cells cur e fr)∧nT fr cur.size∧cur.toList=l++(bP++r)∧
  ∀(aw:World) (aV:I) (dU:List Value) (aD:Nat→Prop),(∀b,F b→aw.heap[b]? =w.heap[b]?)→(∀c,cL c→c≠b→aw.heap[c]? =w.heap[c]?)→
   aw.heap[b]? =some (.cells (l++(dU++r)).toArray e fr)→
   aV.wd=d.wd→al aw F aV dU aD→(∀b,aD b→¬cL b)→al aw F (I.put q aV av) cs (fun b=>cL b∨aD b)
theorem ctx {w:World} {F:Nat→Prop}:∀(q:List Nat) (av:I) (cs:List Value) (S:Nat→Prop) (a:Option (Nat×Nat)) (d:I),
  al w F av cs S→I.sub q av=some d→∃(bP:List Value) (b2:Option (Nat×Nat)) (cL dp:Nat→Prop),cb w q av cs a=some (d,bP,b2)∧
   (∀b,cL b→S b)∧(∀b,dp b→S b)∧(∀b,cL b→¬dp b)∧al w F d bP dp∧(Flat w F q av cs a d bP b2 cL∨Deep w F q av cs d bP b2 cL):=by
 intro q
 induction q with
 |nil=>
  intro av cs S a d h ae
  simp[I.sub]at ae;subst ae
  refine⟨cs,a,fun _=>False,S,rfl,fun _ h=>h.elim,fun _ h=>h,fun _ h=>h.elim,h,.inl ⟨[],[],by simp,?_,?_⟩⟩
  ·cases a<;>simp
  ·intro aw aV dU aD _ _ hw eX _
   simp only[I.put,List.nil_append,List.append_nil]
   exact al.mono (fun _ h=>h) _ _ _ _ (fun b h=>.inr h) eX
 |cons k q ih=>
  have fields:∀(mk:List I→I) (wU:∀(w:World) (F:Nat→Prop) (af:List I) (cs:List Value) (S:Nat→Prop),al w F (mk af) cs S=aM w F af cs S) (af:List I) (cs:List Value) (S:Nat→Prop) (a:Option (Nat×Nat)) (x d:I),
    (hr:∀aV,I.put (k::q) aV (mk af)=mk (af.set k (I.put q aV x)))→aM w F af cs S→af[k]? =some x→I.sub q x=some d→
    ∃(bP:List Value) (b2:Option (Nat×Nat)) (cL dp:Nat→Prop),cb w q x ((cs.drop (I.cH (af.take k))).take x.wd) (a.map fun l=>(l.1,l.2+I.cH (af.take k)))=some (d,bP,b2)∧
    (∀b,cL b→S b)∧(∀b,dp b→S b)∧(∀b,cL b→¬dp b)∧al w F d bP dp∧(Flat w F (k::q) (mk af) cs a d bP b2 cL∨Deep w F (k::q) (mk af) cs d bP b2 cL):=by
   intro mk wU af cs S a x d hr h ao ae
   obtain⟨bN,dT,c2,bk,fk,rfl,fa,dV,eY,fH,ee,jl⟩:=aM.pick af cs S k x h ao
   have aJ:=al.length _ _ _ ee
   rw[o0 bN dT c2 _ _ fa aJ]
   obtain⟨bP,b2,cL,dp,g0,g1,g2,g3,g4,g5⟩:=ih x _ fk (a.map fun l=>(l.1,l.2+I.cH (af.take k))) d ee ae
   refine⟨bP,b2,fun b=>bk b∨cL b,dp,g0,?_,fun b R=>eY _ (g2 _ R),?_,g4,?_⟩
   ·rintro b (h|h)
    ·exact dV _ h
    ·exact eY _ (g1 _ h)
   ·rintro b (h|h) ae
    ·exact fH _ h (g2 _ ae)
    ·exact g3 _ h ae
   ·have dj:∀(b:Nat) (aD:Nat→Prop),(bk b∨cL b∨aD b)→((bk b∨cL b)∨aD b):=by
     rintro b aD (R|R|R)
     ·exact .inl (.inl R)
     ·exact .inl (.inr R)
     ·exact .inr R
    rcases g5 with⟨l,r,rfl,aI,aL⟩|⟨b,cur,e,fr,l,r,aF,aI,aL,bX,b7,bs⟩
    ·refine .inl ⟨bN++l,r++c2,by simp,?_,?_⟩
     ·rw[aI,←fa];cases a<;>simp[Nat.add_assoc]
     ·intro aw aV dU aD aX bd hw eX gm
      have ev:=aL aw aV dU aD aX (fun b R=>bd b (.inr R)) hw eX (fun b R ai=>gm b R (.inr ai))
      have cr:=jl aw _ _ _ aX (fun b R=>bd b (.inl R)) ev (by
       rintro b (R|R) aa
       ·exact fH _ aa (g1 _ R)
       ·exact gm _ R (.inl aa))
      rw[hr,wU]
      have:=aM.mono (fun _ h=>h) _ _ _ _ (fun b=>dj b aD) cr
      simpa using this
    ·refine .inr ⟨b,cur,e,fr,l,r,aF,.inr aI,aL,bX,b7,?_⟩
     intro aw aV dU aD aX bd jm hw eX gm
     have ev:=bs aw aV dU aD aX (fun c ai=>bd c (.inr ai)) jm hw eX (fun b R ai=>gm b R (.inr ai))
     have cr:=jl aw _ _ _ aX (fun c ai=>bd c (.inl ai) (by rintro rfl;exact fH _ ai (g1 _ aI))) ev (by
       rintro b (R|R) aa
       ·exact fH _ aa (g1 _ R)
       ·exact gm _ R (.inl aa))
     rw[hr,wU]
     exact aM.mono (fun _ h=>h) _ _ _ _ (fun b=>dj b aD) cr
  intro av cs S a d h ae
  cases av with
  |agg af=>
   simp only[I.sub]at ae
   split at ae
   ·rename_i x ao
    rw[al]at h
    have:=fields .agg (fun _ _ _ _ _=>by rw[al]) af cs S a x d (fun aV=>by simp only[I.put,ao]) h ao ae
    simpa only[cb,ao]using this
   ·cases ae
  |tuple af=>
   simp only[I.sub]at ae
   split at ae
   ·rename_i x ao
    rw[al]at h
    have:=fields .tuple (fun _ _ _ _ _=>by rw[al]) af cs S a x d (fun aV=>by simp only[I.put,ao]) h ao ae
    simpa only[cb,ao]using this
   ·cases ae
  |aK sz xs=>
   simp only[I.sub]at ae
   split at ae
   ·rename_i x ao
    rw[al]at h
    rcases h with⟨rfl,_,rfl⟩|⟨b,cap,cur,e,fr,cz,rfl,ad,aB,aO,a6,bp,bB,cE,eL,fj,iU⟩
    ·simp at ao
    ·obtain⟨bN,dT,c2,bk,fk,p,fa,dV,eY,fH,ee,jl⟩:=aM.pick xs _ cz k x eL ao
     have aJ:=al.length _ _ _ ee
     have GC:k<xs.length:=(List.getElem?_eq_some_iff.1 ao).1
     have r4:x.wd=sz:=cE x (List.mem_of_getElem? ao)
     have bI:I.cH (xs.take k)=k*sz:=by
      rw[o2 _ (fun d ae=>cE d (List.mem_of_mem_take ae))]
      rw[List.length_take,Nat.min_eq_left (by omega)]
     obtain⟨mY,ir⟩:∃mY,cur.toList=bN++(dT++(c2++mY)):=by
      refine⟨cur.toList.drop (xs.length*sz),?_⟩
      have:=(List.take_append_drop (xs.length*sz) cur.toList).symm
      rw[p]at this
      simpa using this
     have gW:kj w b (k*sz) sz=dT:=by
      have:=qj aB ir
      rwa [fa,bI,aJ,r4]at this
     obtain⟨bP,b2,cL,dp,g0,g1,g2,g3,g4,g5⟩:=ih x _ fk (some (b,k*sz)) d ee ae
     have hr:∀aV,I.put (k::q) aV (.aK sz xs)= .aK sz (xs.set k (I.put q aV x)):=fun aV=>by simp only[I.put,ao]
     refine⟨bP,b2,fun c=>c=b∨bk c∨cL c,dp,?_,?_,fun c ai=>fj _ (eY _ (g2 _ ai)),?_,g4,.inr ?_⟩
     ·simp only[cb,ao,gW];exact g0
     ·rintro c (rfl|h|h)
      ·exact ad
      ·exact fj _ (dV _ h)
      ·exact fj _ (eY _ (g1 _ h))
     ·rintro c (rfl|h|h) ae
      ·exact iU (eY _ (g2 _ ae))
      ·exact fH _ h (g2 _ ae)
      ·exact g3 _ h ae
     ·have hG:∀aV,aV.wd=d.wd→(I.put q aV x).wd=sz:=fun aV hw=>(I.qi q x d aV ae hw).trans r4
      rcases g5 with⟨l,r,rfl,aI,aL⟩|⟨dG,wV,ew,wW,l,r,aF,aI,aL,bX,b7,bs⟩
      ·refine⟨b,cur,e,fr,bN++l,r++(c2++mY),?_,.inl rfl,aB,aO,?_,?_⟩
       ·rw[aI];simp[fa,bI]
       ·rw[ir];simp
       ·intro aw aV dU aD aX bd jm hw eX gm
        have ev:=aL aw aV dU aD aX (fun c ai=>bd c (.inr (.inr ai)) (by rintro rfl;exact iU (eY _ (g1 _ ai)))) hw eX (fun b R ai=>gm b R (.inr (.inr ai)))
        have cr:=jl aw _ _ _ aX (fun c ai=>bd c (.inr (.inl ai)) (by rintro rfl;exact iU (dV _ ai))) ev (by
         rintro b (R|R) aa
         ·exact fH _ aa (g1 _ R)
         ·exact gm _ R (.inr (.inl aa)))
        have r5:=al.length _ _ _ eX
        have r6:=al.length _ _ _ g4
        rw[hr,al]
        refine .inr ⟨b,cap,_,e,fr,fun b=>bk b∨cL b∨aD b,by simp,.inl (.inl rfl),jm,?_,by simpa using a6,bp,?_,wT cE (hG aV hw),?_,?_,?_⟩
        ·have:(bN++l++(dU++(r++(c2++mY)))).toArray.size=cur.size:=by
          have:cur.size=cur.toList.length:=by simp
          rw[this,ir];simp[r5,r6,hw]
         rw[this];exact aO
        ·rw[←bB]
         have:cur.size=cur.toList.length:=by simp
         rw[this,ir];simp[r5,r6,hw]
        ·have hlen:(bN++(l++(dU++r)++c2)).length=xs.length*sz:=by
          have:=congrArg List.length p
          rw[List.length_take,Nat.min_eq_left (by simp[bB];exact Nat.mul_le_mul_right _ a6)]at this
          rw[this];simp[r5,r6,hw]
         have:(bN++l++(dU++(r++(c2++mY))))=(bN++(l++(dU++r)++c2))++mY:=by simp
         rw[List.length_set]
         simp only[this]
         rw[List.take_left' hlen]
         exact cr
        ·rintro c (h|h|h)
         ·exact .inl (.inr (.inl h))
         ·exact .inl (.inr (.inr h))
         ·exact .inr h
        ·rintro(h|h|h)
         ·exact iU (dV _ h)
         ·exact iU (eY _ (g1 _ h))
         ·exact gm _ h (.inl rfl)
      ·refine⟨dG,wV,ew,wW,l,r,aF,.inr (.inr aI),aL,bX,b7,?_⟩
       intro aw aV dU aD aX bd jm hw eX gm
       have ev:=bs aw aV dU aD aX (fun c ai cB=>bd c (.inr (.inr ai)) cB) jm hw eX (fun b R ai=>gm b R (.inr (.inr ai)))
       have cB:∀c,bk c→c≠dG:=by rintro c ai rfl;exact fH _ ai (g1 _ aI)
       have cr:=jl aw _ _ _ aX (fun c ai=>bd c (.inr (.inl ai)) (cB c ai)) ev (by
        rintro b (R|R) aa
        ·exact fH _ aa (g1 _ R)
        ·exact gm _ R (.inr (.inl aa)))
       have wX:b≠dG:=by rintro rfl;exact iU (eY _ (g1 _ aI))
       rw[hr,al]
       refine .inr ⟨b,cap,cur,e,fr,fun b=>bk b∨cL b∨aD b,by simp,.inl (.inl rfl),(bd b (.inl rfl) wX).trans aB,aO,by simpa using a6,bp,bB,wT cE (hG aV hw),?_,?_,?_⟩
       ·rw[List.length_set,p];exact cr
       ·rintro c (h|h|h)
        ·exact .inl (.inr (.inl h))
        ·exact .inl (.inr (.inr h))
        ·exact .inr h
       ·rintro(h|h|h)
        ·exact iU (dV _ h)
        ·exact iU (eY _ (g1 _ h))
        ·exact gm _ h (.inl rfl)
   ·cases ae
  |a1 x=>
   cases k with
   |succ k=>simp[I.sub]at ae
   |zero=>
    simp only[I.sub]at ae
    rw[al]at h
    obtain⟨b,cur,e,fr,cz,rfl,ad,aB,aO,a6,bp,bB⟩:=h
    have aJ:=al.length _ _ _ a6
    have gW:kj w b 0 x.wd=cur.toList:=by
     have:=qj (l:=[]) (m:=cur.toList) (r:=[]) aB (by simp)
     rwa [aJ]at this
    obtain⟨bP,b2,cL,dp,g0,g1,g2,g3,g4,g5⟩:=ih x _ cz (some (b,0)) d a6 ae
    have hr:∀aV,I.put (0::q) aV (.a1 x)= .a1 (I.put q aV x):=fun aV=>rfl
    refine⟨bP,b2,fun c=>c=b∨cL c,dp,?_,?_,fun c ai=>bp _ (g2 _ ai),?_,g4,.inr ?_⟩
    ·simp only[cb,gW];exact g0
    ·rintro c (rfl|h)
     ·exact ad
     ·exact bp _ (g1 _ h)
    ·rintro c (rfl|h) ae
     ·exact bB (g2 _ ae)
     ·exact g3 _ h ae
    ·rcases g5 with⟨l,r,aF,aI,aL⟩|⟨dG,wV,ew,wW,l,r,aF,aI,aL,bX,b7,bs⟩
     ·refine⟨b,cur,e,fr,l,r,?_,.inl rfl,aB,aO,aF,?_⟩
      ·rw[aI];simp
      ·intro aw aV dU aD aX bd jm hw eX gm
       have ev:=aL aw aV dU aD aX (fun c ai=>bd c (.inr ai) (by rintro rfl;exact bB (g1 _ ai))) hw eX (fun b R ai=>gm b R (.inr ai))
       have r5:=al.length _ _ _ eX
       have r6:=al.length _ _ _ g4
       rw[hr,al]
       refine⟨b,_,e,fr,fun b=>cL b∨aD b,rfl,.inl (.inl rfl),jm,?_,ev,?_,?_⟩
       ·have:(l++(dU++r)).toArray.size=cur.size:=by
         have:cur.size=cur.toList.length:=by simp
         rw[this,aF];simp[r5,r6,hw]
        rw[this];exact aO
       ·rintro c (h|h)
        ·exact .inl (.inr h)
        ·exact .inr h
       ·rintro(h|h)
        ·exact bB (g1 _ h)
        ·exact gm _ h (.inl rfl)
     ·refine⟨dG,wV,ew,wW,l,r,aF,.inr aI,aL,bX,b7,?_⟩
      intro aw aV dU aD aX bd jm hw eX gm
      have ev:=bs aw aV dU aD aX (fun c ai cB=>bd c (.inr ai) cB) jm hw eX (fun b R ai=>gm b R (.inr ai))
      have wX:b≠dG:=by rintro rfl;exact bB (g1 _ aI)
      rw[hr,al]
      refine⟨b,cur,e,fr,fun b=>cL b∨aD b,rfl,.inl (.inl rfl),(bd b (.inl rfl) wX).trans aB,aO,ev,?_,?_⟩
      ·rintro c (h|h)
       ·exact .inl (.inr h)
       ·exact .inr h
      ·rintro(h|h)
       ·exact bB (g1 _ h)
       ·exact gm _ h (.inl rfl)
  |_=>simp[I.sub]at ae
mutual
def I.plain:I→Bool
 | .aK _ _=>false
 | .a1 _=>false
 | .cA _=>false
 | .agg af=>I.dW af
 | .tuple af=>I.dW af
 |_=>true
def I.dW:List I→Bool
 |[]=>true
 |d::ds=>d.plain&&I.dW ds
end
mutual
def I.b6:I→I
 | .aK _ _=>.hole
 | .a1 _=>.hole
 | .cA _=>.hole
 | .agg af=>.agg (I.iu af)
 | .tuple af=>.tuple (I.iu af)
 |d=>d
def I.iu:List I→List I
 |[]=>[]
 |d::ds=>d.b6::I.iu ds
end
mutual
theorem I.nU:∀d:I,d.b6.wd=d.wd
 | .hole=>rfl
 | .bool _=>rfl
 | .dd=>rfl
 | .int _ _=>rfl
 | .str _=>rfl
 | .cn=>rfl
 | .bH=>rfl
 | .slice _=>rfl
 | .aK _ _=>rfl
 | .ref _=>rfl
 | .a1 _=>rfl
 | .agg af=>by simp only[I.b6,I.wd];exact I.wY af
 | .tuple af=>by simp only[I.b6,I.wd];exact I.wY af
 | .fn _ _=>rfl
 | .h _ _=>rfl
 | .ak _ _=>rfl
 | .R _ _=>rfl
 | .cA _=>rfl
theorem I.wY:∀ds:List I,I.cH (I.iu ds)=I.cH ds
 |[]=>rfl
 |d::ds=>by simp only[I.iu,I.cH];rw[I.nU d,I.wY ds]
end
mutual
theorem al.b6 {w:World} {F:Nat→Prop}:∀(d:I) (cs:List Value) (S aD:Nat→Prop),al w F d cs S→al w F d.b6 cs aD
 | .hole,_,_,_,h=>h
 | .bool _,_,_,_,h=>h
 | .dd,_,_,_,h=>h
 | .int _ _,_,_,_,h=>h
 | .str _,_,_,_,h=>h
 | .cn,_,_,_,h=>h
 | .bH,_,_,_,h=>h
 | .slice xs,cs,S,aD,h=>by
   show al w F (.slice xs) cs aD
   rw[al]at h⊢;exact h
 | .aK sz xs,cs,S,aD,h=>by
   rw[I.b6,al]
   rw[al]at h
   rcases h with⟨_,_,rfl⟩|⟨b,cap,cur,e,fr,cz,rfl,_⟩
   ·exact⟨_,rfl,rfl⟩
   ·exact⟨_,rfl,rfl⟩
 | .ref d,cs,S,aD,h=>by
   show al w F (.ref d) cs aD
   rw[al]at h⊢;exact h
 | .a1 d,cs,S,aD,h=>by
   rw[I.b6,al]
   rw[al]at h
   obtain⟨b,cur,e,fr,cz,rfl,_⟩:=h
   exact⟨_,rfl,rfl⟩
 | .agg af,cs,S,aD,h=>by rw[I.b6,al];rw[al]at h;exact aM.b6 af _ _ _ h
 | .tuple af,cs,S,aD,h=>by rw[I.b6,al];rw[al]at h;exact aM.b6 af _ _ _ h
 | .fn _ _,_,_,_,h=>h
 | .h _ _,_,_,_,h=>h
 | .ak _ _,_,_,_,h=>h
 | .R _ _,_,_,_,h=>h
 | .cA _,_,_,_,h=>by rw[al]at h;rw[I.b6,al];exact iT.one h
theorem aM.b6 {w:World} {F:Nat→Prop}:∀(ds:List I) (cs:List Value) (S aD:Nat→Prop),aM w F ds cs S→aM w F (I.iu ds) cs aD
 |[],_,_,_,h=>h
 |d::ds,cs,S,aD,h=>by
  rw[I.iu,aM]
  rw[aM]at h
  obtain⟨bN,c2,bk,cp,aa,ad,aB,aO,a6,bp⟩:=h
  exact⟨bN,c2,fun _=>False,fun _=>False,aa,al.b6 d _ _ _ ad,aM.b6 ds _ _ _ aB,fun _ h=>h.elim,fun _ h=>h.elim,fun _ h=>h.elim⟩
end
mutual
theorem al.plain {w:World} {F:Nat→Prop}:∀(d:I) (cs:List Value) (S aD:Nat→Prop),d.plain=true→al w F d cs S→al w F d cs aD
 | .hole,_,_,_,_,h=>h
 | .bool _,_,_,_,_,h=>h
 | .dd,_,_,_,_,h=>h
 | .int _ _,_,_,_,_,h=>h
 | .str _,_,_,_,_,h=>h
 | .cn,_,_,_,_,h=>h
 | .bH,_,_,_,_,h=>h
 | .slice xs,cs,S,aD,_,h=>by rw[al]at h⊢;exact h
 | .aK sz xs,cs,S,aD,ak,h=>by simp[I.plain]at ak
 | .ref d,cs,S,aD,_,h=>by rw[al]at h⊢;exact h
 | .a1 d,cs,S,aD,ak,h=>by simp[I.plain]at ak
 | .agg af,cs,S,aD,ak,h=>by rw[al]at h⊢;exact aM.plain af _ _ _ ak h
 | .tuple af,cs,S,aD,ak,h=>by rw[al]at h⊢;exact aM.plain af _ _ _ ak h
 | .fn _ _,_,_,_,_,h=>h
 | .h _ _,_,_,_,_,h=>h
 | .ak _ _,_,_,_,_,h=>h
 | .R _ _,_,_,_,_,h=>h
 | .cA _,_,_,_,ak,_=>by simp[I.plain]at ak
theorem aM.plain {w:World} {F:Nat→Prop}:∀(ds:List I) (cs:List Value) (S aD:Nat→Prop),I.dW ds=true→aM w F ds cs S→aM w F ds cs aD
 |[],_,_,_,_,h=>h
 |d::ds,cs,S,aD,ak,h=>by
  rw[aM]at h⊢
  simp only[I.dW,Bool.and_eq_true]at ak
  obtain⟨bN,c2,bk,cp,aa,ad,aB,aO,a6,bp⟩:=h
  exact⟨bN,c2,fun _=>False,fun _=>False,aa,al.plain d _ _ _ ak.1 ad,aM.plain ds _ _ _ ak.2 aB,fun _ h=>h.elim,fun _ h=>h.elim,fun _ h=>h.elim⟩
end
def I.dC:List Nat→I→Bool
 |[],_=>false
 |k::q,.agg af=>match af[k]? with
  |some d=>I.dC q d
  |none=>false
 |k::q,.tuple af=>match af[k]? with
  |some d=>I.dC q d
  |none=>false
 |_::_,.aK _ _=>true
 |_::_,.a1 _=>true
 |_::_,_=>false
theorem um {af:List I} (h:I.dW af=true) {k:Nat} {d:I} (ar:af[k]? =some d):d.plain=true:=by
 induction af generalizing k with
 |nil=>simp at ar
 |cons a af ih=>
  simp only[I.dW,Bool.and_eq_true]at h
  cases k with
  |zero=>simp at ar;subst ar;exact h.1
  |succ k=>simp at ar;exact ih h.2 ar
theorem I.Aw:∀(q:List Nat) (d:I),d.plain=true→I.dC q d=false:=by
 intro q
 induction q with
 |nil=>intros;rfl
 |cons k q ih=>
  intro d ae
  cases d<;>first|rfl|(simp[I.plain]at ae;done)|skip
  all_goals
   simp only[I.dC]
   split
   ·rename_i af x ao;exact ih _ (um (by simpa [I.plain]using ae) ao)
   ·rfl
theorem I.wZ:∀(q:List Nat) (d e:I),d.plain=true→I.sub q d=some e→e.plain=true:=by
 intro q
 induction q with
 |nil=>intro d e ae h;simp[I.sub]at h;exact h▸ae
 |cons k q ih=>
  intro d e ae h
  cases d<;>first|(simp[I.plain]at ae;done)|(simp[I.sub]at h;done)|skip
  all_goals
   simp only[I.sub]at h
   split at h
   ·rename_i af x ao;exact ih _ _ (um (by simpa [I.plain]using ae) ao) h
   ·cases h
theorem uo {w aw:World} {F:Nat→Prop}:∀(q:List Nat) (av:I) (cs:List Value) (S:Nat→Prop) (a:Option (Nat×Nat)) (d:I),
  al w F av cs S→I.sub q av=some d→(∀b,S b→aw.heap[b]? =w.heap[b]?)→cb aw q av cs a=cb w q av cs a:=by
 intro q
 induction q with
 |nil=>intros;rfl
 |cons k q ih=>
  have fields:∀(af:List I) (cs:List Value) (S:Nat→Prop) (a:Option (Nat×Nat)) (x d:I),aM w F af cs S→af[k]? =some x→I.sub q x=some d→
    (∀b,S b→aw.heap[b]? =w.heap[b]?)→
    cb aw q x ((cs.drop (I.cH (af.take k))).take x.wd) (a.map fun l=>(l.1,l.2+I.cH (af.take k)))=cb w q x ((cs.drop (I.cH (af.take k))).take x.wd) (a.map fun l=>(l.1,l.2+I.cH (af.take k))):=by
   intro af cs S a x d h ao ae bd
   obtain⟨bN,dT,c2,bk,fk,rfl,fa,dV,eY,fH,ee,jl⟩:=aM.pick af cs S k x h ao
   rw[o0 bN dT c2 _ _ fa (al.length _ _ _ ee)]
   exact ih x dT fk _ d ee ae (fun b R=>bd b (eY _ R))
  intro av cs S a d h ae bd
  cases av with
  |agg af=>
   simp only[I.sub]at ae
   split at ae
   ·rename_i x ao
    rw[al]at h
    simp only[cb,ao]
    exact fields af cs S a x d h ao ae bd
   ·cases ae
  |tuple af=>
   simp only[I.sub]at ae
   split at ae
   ·rename_i x ao
    rw[al]at h
    simp only[cb,ao]
    exact fields af cs S a x d h ao ae bd
   ·cases ae
  |aK sz xs=>
   simp only[I.sub]at ae
   split at ae
   ·rename_i x ao
    rw[al]at h
    rcases h with⟨rfl,_,rfl⟩|⟨b,cap,cur,e,fr,cz,rfl,ad,aB,aO,a6,bp,bB,cE,eL,fj,iU⟩
    ·simp at ao
    ·obtain⟨bN,dT,c2,bk,fk,p,fa,dV,eY,fH,ee,jl⟩:=aM.pick xs _ cz k x eL ao
     have aJ:=al.length _ _ _ ee
     have GC:k<xs.length:=(List.getElem?_eq_some_iff.1 ao).1
     have r4:x.wd=sz:=cE x (List.mem_of_getElem? ao)
     have bI:I.cH (xs.take k)=k*sz:=by
      rw[o2 _ (fun d ae=>cE d (List.mem_of_mem_take ae))]
      rw[List.length_take,Nat.min_eq_left (by omega)]
     obtain⟨mY,ir⟩:∃mY,cur.toList=bN++(dT++(c2++mY)):=by
      refine⟨cur.toList.drop (xs.length*sz),?_⟩
      have:=(List.take_append_drop (xs.length*sz) cur.toList).symm
      rw[p]at this
      simpa using this
     have gW:kj w b (k*sz) sz=dT:=by
      have:=qj aB ir
      rwa [fa,bI,aJ,r4]at this
     have w1:kj aw b (k*sz) sz=dT:=by
      have:=qj ((bd b ad).trans aB) ir
      rwa [fa,bI,aJ,r4]at this
     simp only[cb,ao,gW,w1]
     exact ih x dT fk _ d ee ae (fun c ai=>bd c (fj _ (eY _ ai)))
   ·cases ae
  |a1 x=>
   cases k with
   |succ k=>simp[I.sub]at ae
   |zero=>
    simp only[I.sub]at ae
    rw[al]at h
    obtain⟨b,cur,e,fr,cz,rfl,ad,aB,aO,a6,bp,bB⟩:=h
    have aJ:=al.length _ _ _ a6
    have gW:kj w b 0 x.wd=cur.toList:=by
     have:=qj (l:=[]) (m:=cur.toList) (r:=[]) aB (by simp)
     rwa [aJ]at this
    have w1:kj aw b 0 x.wd=cur.toList:=by
     have:=qj (l:=[]) (m:=cur.toList) (r:=[]) ((bd b ad).trans aB) (by simp)
     rwa [aJ]at this
    simp only[cb,gW,w1]
    exact ih x cur.toList cz _ d a6 ae (fun c ai=>bd c (bp _ ai))
  |_=>simp[I.sub]at ae
def fl:Value→List Value
 | .agg cs=>cs.toList
 |v=>[v]
def bw:Value→List Value
 | .tuple vs=>vs.toList.flatMap fl
 |v=>fl v
def fI:I→Value→Prop
 | .agg _,v=>∃arr,v= .agg arr
 |_,v=>Value.eF v=true
def cx:I→Value→Prop
 | .tuple ds,v=>∃arr:Array Value,v= .tuple arr∧arr.size=ds.length∧∀(k:Nat) (d:I) (x:Value),ds[k]? =some d→arr[k]? =some x→fI d x∧(∀vs,d≠.tuple vs)∧(fl x).length=d.wd
 |d,v=>fI d v
abbrev aj:=Nat→I
mutual
def ax (w:World) (F:Nat→Prop) (s:aj) (an:Nat→Value):I→Value→(Nat→Prop)→Prop
 | .hole,_,_=>True
 | .h x q,v,_=>∀d,I.sub q (s x)=some d→d.plain=false→∃bP a,cb w q (s x) (bw (an x)) none=some (d,bP,a)∧bw v=bP∧cx d v
 | .ak x q,v,_=>∀d,I.sub q (s x)=some d→I.dC q (s x)=true→∃bP b o,cb w q (s x) (bw (an x)) none=some (d,bP,some (b,o))∧v= .pointer (some ⟨b,o,none⟩)
 | .R x k,v,_=>(s x).plain=false→∃b cur e fr,v= .pointer (some ⟨b,k,none⟩)∧F b∧w.heap[b]? =some (.cells cur e fr)∧cur.toList=bw (an x)
 | .fn f cap,v,_=>∃arr:Array Value,v= .func (.func f) #[] arr∧cG w F s an cap arr.toList
 | .bool b,v,S=>cx (.bool b) v∧al w F (.bool b) (bw v) S
 | .dd,v,S=>cx .dd v∧al w F .dd (bw v) S
 | .int k n,v,S=>cx (.int k n) v∧al w F (.int k n) (bw v) S
 | .str x,v,S=>cx (.str x) v∧al w F (.str x) (bw v) S
 | .cn,v,S=>cx .cn v∧al w F .cn (bw v) S
 | .bH,v,S=>cx .bH v∧al w F .bH (bw v) S
 | .slice xs,v,S=>cx (.slice xs) v∧al w F (.slice xs) (bw v) S
 | .aK sz xs,v,S=>cx (.aK sz xs) v∧al w F (.aK sz xs) (bw v) S
 | .ref d,v,S=>cx (.ref d) v∧al w F (.ref d) (bw v) S
 | .a1 d,v,S=>cx (.a1 d) v∧al w F (.a1 d) (bw v) S
 | .agg d,v,S=>cx (.agg d) v∧al w F (.agg d) (bw v) S
 | .tuple d,v,S=>cx (.tuple d) v∧al w F (.tuple d) (bw v) S
 | .cA o,v,S=>cx (.cA o) v∧al w F (.cA o) (bw v) S
def cG (w:World) (F:Nat→Prop) (s:aj) (an:Nat→Value):List I→List Value→Prop
 |[],vs=>vs=[]
 |d::ds,vs=>∃v gQ,vs=v::gQ∧ax w F s an d v (fun _=>False)∧cG w F s an ds gQ
end
def I.tree:I→Bool
 | .hole=>false
 | .h _ _=>false
 | .ak _ _=>false
 | .R _ _=>false
 | .fn _ _=>false
 |_=>true
theorem ax.bJ {w:World} {F:Nat→Prop} {s:aj} {an:Nat→Value} {d:I} {v:Value} {S:Nat→Prop} (aN:d.tree=true):
  ax w F s an d v S↔(cx d v∧al w F d (bw v) S):=by
 cases d<;>first|(simp[I.tree]at aN;done)|rw[ax]
theorem fm {q:List Nat} {av d:I} (h:I.sub q av=some d) (ak:d.plain=false∨I.dC q av=true):av.tree=true:=by
 cases q with
 |nil=>
  simp[I.sub]at h;subst h
  rcases ak with ak|ak
  ·cases av<;>first|rfl|(simp[I.plain]at ak)
  ·simp[I.dC]at ak
 |cons k q=>cases av<;>first|rfl|(simp[I.sub]at h)
theorem w2 {d:I} (h:d.plain=false):d.tree=true:=fm (q:=[]) (by simp only[I.sub]) (.inl h)
theorem ax.frame {w aw:World} {F bc:Nat→Prop} {s:aj} {an:Nat→Value} {Sx:Nat→Nat→Prop} (aX:∀b,F b→aw.heap[b]? =w.heap[b]?) (Ax:∀b,F b→bc b)
  (bd:∀x b,Sx x b→aw.heap[b]? =w.heap[b]?) (hH:∀x,ax w F s an (s x) (an x) (Sx x)):
  ∀(d:I) (v:Value) (S:Nat→Prop),(∀b,S b→aw.heap[b]? =w.heap[b]?)→ax w F s an d v S→ax aw bc s an d v S:=by
 have hI:∀(x:Nat) (q:List Nat) (d:I),I.sub q (s x)=some d→(d.plain=false∨I.dC q (s x)=true)→cb aw q (s x) (bw (an x)) none=cb w q (s x) (bw (an x)) none:=by
  intro x q d ae ak
  have aN:=fm ae ak
  have:=hH x
  rw[ax.bJ aN]at this
  exact uo q _ _ (Sx x) none d this.2 ae (bd x)
 have GD:∀(d:I) (v:Value) (S:Nat→Prop),d.tree=true→(∀b,S b→aw.heap[b]? =w.heap[b]?)→ax w F s an d v S→ax aw bc s an d v S:=by
  intro d v S aN o3 h
  rw[ax.bJ aN]at h⊢
  exact⟨h.1,al.mono Ax _ _ _ _ (fun _ h=>h) (al.frame aX _ _ _ o3 h.2)⟩
 have step:∀n,(∀(d:I) (v:Value) (S:Nat→Prop),SizeOf.sizeOf d≤n→(∀b,S b→aw.heap[b]? =w.heap[b]?)→ax w F s an d v S→ax aw bc s an d v S)∧
   (∀(ds:List I) (vs:List Value),SizeOf.sizeOf ds≤n→cG w F s an ds vs→cG aw bc s an ds vs):=by
  intro n
  induction n with
  |zero=>
   refine⟨fun d v S bl=> ?_,fun ds vs bl=> ?_⟩
   ·cases d<;>simp at bl<;>omega
   ·cases ds<;>simp at bl<;>omega
  |succ n ih=>
   refine⟨fun d v S bl o3 h=> ?_,fun ds vs bl h=> ?_⟩
   ·cases d with
    |hole=>rw[ax];trivial
    |h x q=>
     rw[ax]at h⊢
     intro d ae ak
     rw[hI x q d ae (.inl ak)]
     exact h d ae ak
    |ak x q=>
     rw[ax]at h⊢
     intro d ae ak
     rw[hI x q d ae (.inr ak)]
     exact h d ae ak
    |R x k=>
     rw[ax]at h⊢
     intro ak
     obtain⟨b,cur,e,fr,aa,ad,aB,aO⟩:=h ak
     exact⟨b,cur,e,fr,aa,Ax b ad,(aX b ad).trans aB,aO⟩
    |fn f cap=>
     rw[ax]at h⊢
     obtain⟨arr,rfl,ai⟩:=h
     exact⟨arr,rfl,ih.2 _ _ (by simp at bl;omega) ai⟩
    |_=>exact GD _ _ _ rfl o3 h
   ·cases ds with
    |nil=>rw[cG]at h⊢;exact h
    |cons d ds=>
     rw[cG]at h⊢
     obtain⟨v,gQ,rfl,aa,ad⟩:=h
     simp at bl
     exact⟨v,gQ,rfl,ih.1 _ _ _ (by omega) (fun _ h=>h.elim) aa,ih.2 _ _ (by omega) ad⟩
 intro d v S o3 h
 exact(step (SizeOf.sizeOf d)).1 d v S (Nat.le_refl _) o3 h
mutual
def bT (x:Nat):I→I
 | .h y q=>if y=x then .hole else .h y q
 | .ak y q=>if y=x then .hole else .ak y q
 | .R y k=>if y=x then .hole else .R y k
 | .fn f cap=>.fn f (gn x cap)
 |d=>d
def gn (x:Nat):List I→List I
 |[]=>[]
 |d::ds=>bT x d::gn x ds
end
mutual
def bn (x:Nat):I→I
 | .h y q=>if y=x then(if q=[]then .h y q else .hole)else .h y q
 | .ak y q=>if y=x then .hole else .ak y q
 | .fn f cap=>.fn f (fS x cap)
 |d=>d
def fS (x:Nat):List I→List I
 |[]=>[]
 |d::ds=>bn x d::fS x ds
end
def cg {α:Type} (f:Nat→α) (t:Nat) (v:α):Nat→α:=fun u=>if u=t then v else f u
def iV (t:Nat) (s:aj):aj:=fun u=>bT t (s u)
def fz (t:Nat) (s:aj):aj:=fun u=>bn t (s u)
theorem jS {α:Type} (f:Nat→α) (t:Nat) (v:α):cg f t v t=v:=by simp[cg]
theorem gR {α:Type} (f:Nat→α) {t u:Nat} (v:α) (h:u≠t):cg f t v u=f u:=by simp[cg,h]
theorem GF {t:Nat} {d:I} (h:d.tree=true):bT t d=d:=by cases d<;>first|rfl|(simp[I.tree]at h)
theorem w3 {t:Nat} {d:I} (h:d.tree=true):bn t d=d:=by cases d<;>first|rfl|(simp[I.tree]at h)
theorem GG {t:Nat} {d:I} (h:(bT t d).tree=true):d.tree=true∧bT t d=d:=by
 cases d<;>first|exact⟨rfl,rfl⟩|(simp only[bT]at h;first|(split at h<;>simp[I.tree]at h)|simp[I.tree]at h)
theorem uq {t:Nat} {d:I} (h:(bn t d).tree=true):d.tree=true∧bn t d=d:=by
 cases d<;>first|exact⟨rfl,rfl⟩|(simp only[bn]at h;first|(split at h<;>(try split at h)<;>simp[I.tree]at h)|simp[I.tree]at h)
section
variable {w:World} {F:Nat→Prop} {s aq:aj} {an hs:Nat→Value} {t:Nat}
theorem ax.bT (fo:∀x,x≠t→(aq x).tree=true→aq x=s x∧hs x=an x):∀(n:Nat),
  (∀(d:I) (v:Value) (S:Nat→Prop),SizeOf.sizeOf d≤n→ax w F s an d v S→ax w F aq hs (b9.bT t d) v S)∧
  (∀(ds:List I) (vs:List Value),SizeOf.sizeOf ds≤n→cG w F s an ds vs→cG w F aq hs (gn t ds) vs):=by
 intro n
 induction n with
 |zero=>
  refine⟨fun d v S bl=> ?_,fun ds vs bl=> ?_⟩
  ·cases d<;>simp at bl<;>omega
  ·cases ds<;>simp at bl<;>omega
 |succ n ih=>
  refine⟨fun d v S bl h=> ?_,fun ds vs bl h=> ?_⟩
  ·cases d with
   |hole=>rw[b9.bT.eq_def];simp only;rw[ax];trivial
   |h x q=>
    simp only[b9.bT]
    split
    ·rw[ax];trivial
    ·rename_i ao
     rw[ax]at h⊢
     intro d ae ak
     obtain⟨aF,aI⟩:=fo x ao (fm ae (.inl ak))
     rw[aF,aI];rw[aF]at ae
     exact h d ae ak
   |ak x q=>
    simp only[b9.bT]
    split
    ·rw[ax];trivial
    ·rename_i ao
     rw[ax]at h⊢
     intro d ae ak
     obtain⟨aF,aI⟩:=fo x ao (fm ae (.inr ak))
     rw[aF,aI];rw[aF]at ae ak
     exact h d ae ak
   |R x k=>
    simp only[b9.bT]
    split
    ·rw[ax];trivial
    ·rename_i ao
     rw[ax]at h⊢
     intro ak
     obtain⟨aF,aI⟩:=fo x ao (w2 ak)
     rw[aI];rw[aF]at ak
     exact h ak
   |fn f cap=>
    simp only[b9.bT]
    rw[ax]at h⊢
    obtain⟨arr,rfl,ai⟩:=h
    exact⟨arr,rfl,ih.2 _ _ (by simp at bl;omega) ai⟩
   |_=>
    rw[GF (by rfl)]
    exact(ax.bJ (by rfl)).2 ((ax.bJ (by rfl)).1 h)
  ·cases ds with
   |nil=>rw[gn,cG];rw[cG]at h;exact h
   |cons d ds=>
    rw[gn,cG];rw[cG]at h
    obtain⟨v,gQ,rfl,aa,ad⟩:=h
    simp at bl
    exact⟨v,gQ,rfl,ih.1 _ _ _ (by omega) aa,ih.2 _ _ (by omega) ad⟩
theorem ax.bn {aw:World} (fo:∀x,x≠t→(aq x).tree=true→aq x=s x∧hs x=an x) (iW:hs t=an t) (jn:(aq t).plain=false→(s t).plain=false∧∀v,cx (s t) v→cx (aq t) v)
  (hI:∀x q d,x≠t→I.sub q (s x)=some d→(d.plain=false∨I.dC q (s x)=true)→cb aw q (s x) (bw (an x)) none=cb w q (s x) (bw (an x)) none)
  (aX:∀b,F b→aw.heap[b]? =w.heap[b]?):∀(n:Nat),
  (∀(d:I) (v:Value) (S:Nat→Prop),SizeOf.sizeOf d≤n→(∀b,S b→aw.heap[b]? =w.heap[b]?)→ax w F s an d v S→ax aw F aq hs (b9.bn t d) v S)∧
  (∀(ds:List I) (vs:List Value),SizeOf.sizeOf ds≤n→cG w F s an ds vs→cG aw F aq hs (fS t ds) vs):=by
 intro n
 induction n with
 |zero=>
  refine⟨fun d v S bl=> ?_,fun ds vs bl=> ?_⟩
  ·cases d<;>simp at bl<;>omega
  ·cases ds<;>simp at bl<;>omega
 |succ n ih=>
  refine⟨fun d v S bl o3 h=> ?_,fun ds vs bl h=> ?_⟩
  ·cases d with
   |hole=>rw[b9.bn.eq_def];simp only;rw[ax];trivial
   |h x q=>
    simp only[b9.bn]
    split
    ·rename_i ao
     subst ao
     split
     ·rename_i ca
      subst ca
      rw[ax]at h⊢
      intro d ae ak
      simp only[I.sub,Option.some.injEq]at ae
      subst ae
      obtain⟨ev,cr⟩:=jn ak
      obtain⟨bP,a,g1,g2,g3⟩:=h (s x) rfl ev
      simp only[cb,Option.some.injEq,Prod.mk.injEq]at g1
      obtain⟨-,g1,YD⟩:=g1
      refine⟨bw (hs x),none,rfl,?_,cr _ g3⟩
      rw[iW,g2,←g1]
     ·rw[ax];trivial
    ·rename_i ao
     rw[ax]at h⊢
     intro d ae ak
     obtain⟨aF,aI⟩:=fo x ao (fm ae (.inl ak))
     rw[aF,aI];rw[aF]at ae
     rw[hI x q d ao ae (.inl ak)]
     exact h d ae ak
   |ak x q=>
    simp only[b9.bn]
    split
    ·rw[ax];trivial
    ·rename_i ao
     rw[ax]at h⊢
     intro d ae ak
     obtain⟨aF,aI⟩:=fo x ao (fm ae (.inr ak))
     rw[aF,aI];rw[aF]at ae ak
     rw[hI x q d ao ae (.inr ak)]
     exact h d ae ak
   |R x k=>
    simp only[b9.bn]
    rw[ax]at h⊢
    intro ak
    by_cases ao:x=t
    ·subst ao
     obtain⟨b,cur,e,fr,aa,ad,aB,aO⟩:=h (jn ak).1
     exact⟨b,cur,e,fr,aa,ad,(aX b ad).trans aB,by rw[iW];exact aO⟩
    ·obtain⟨aF,aI⟩:=fo x ao (w2 ak)
     rw[aF]at ak
     obtain⟨b,cur,e,fr,aa,ad,aB,aO⟩:=h ak
     exact⟨b,cur,e,fr,aa,ad,(aX b ad).trans aB,by rw[aI];exact aO⟩
   |fn f cap=>
    simp only[b9.bn]
    rw[ax]at h⊢
    obtain⟨arr,rfl,ai⟩:=h
    exact⟨arr,rfl,ih.2 _ _ (by simp at bl;omega) ai⟩
   |_=>
    rw[w3 (by rfl)]
    have aQ:=(ax.bJ (by rfl)).1 h
    exact(ax.bJ (by rfl)).2 ⟨aQ.1,al.frame aX _ _ _ o3 aQ.2⟩
  ·cases ds with
   |nil=>rw[fS,cG];rw[cG]at h;exact h
   |cons d ds=>
    rw[fS,cG];rw[cG]at h
    obtain⟨v,gQ,rfl,aa,ad⟩:=h
    simp at bl
    exact⟨v,gQ,rfl,ih.1 _ _ _ (by omega) (fun _ h=>h.elim) aa,ih.2 _ _ (by omega) ad⟩
theorem ax.void (fo:∀x,x≠t→(aq x).tree=true→aq x=s x∧hs x=an x) (lq:(aq t).plain=true):∀(n:Nat),
  (∀(d:I) (v:Value) (S:Nat→Prop),SizeOf.sizeOf d≤n→ax w F s an d v S→ax w F aq hs d v S)∧
  (∀(ds:List I) (vs:List Value),SizeOf.sizeOf ds≤n→cG w F s an ds vs→cG w F aq hs ds vs):=by
 intro n
 induction n with
 |zero=>
  refine⟨fun d v S bl=> ?_,fun ds vs bl=> ?_⟩
  ·cases d<;>simp at bl<;>omega
  ·cases ds<;>simp at bl<;>omega
 |succ n ih=>
  refine⟨fun d v S bl h=> ?_,fun ds vs bl h=> ?_⟩
  ·cases d with
   |hole=>rw[ax];trivial
   |h x q=>
    rw[ax]at h⊢
    intro d ae ak
    by_cases ao:x=t
    ·subst ao
     rw[I.wZ _ _ _ lq ae]at ak;cases ak
    ·obtain⟨aF,aI⟩:=fo x ao (fm ae (.inl ak))
     rw[aF,aI];rw[aF]at ae
     exact h d ae ak
   |ak x q=>
    rw[ax]at h⊢
    intro d ae ak
    by_cases ao:x=t
    ·subst ao
     rw[I.Aw _ _ lq]at ak;cases ak
    ·obtain⟨aF,aI⟩:=fo x ao (fm ae (.inr ak))
     rw[aF,aI];rw[aF]at ae ak
     exact h d ae ak
   |R x k=>
    rw[ax]at h⊢
    intro ak
    by_cases ao:x=t
    ·subst ao;rw[lq]at ak;cases ak
    ·obtain⟨aF,aI⟩:=fo x ao (w2 ak)
     rw[aI];rw[aF]at ak
     exact h ak
   |fn f cap=>
    rw[ax]at h⊢
    obtain⟨arr,rfl,ai⟩:=h
    exact⟨arr,rfl,ih.2 _ _ (by simp at bl;omega) ai⟩
   |_=>exact(ax.bJ (by rfl)).2 ((ax.bJ (by rfl)).1 h)
  ·cases ds with
   |nil=>rw[cG];rw[cG]at h;exact h
   |cons d ds=>
    rw[cG];rw[cG]at h
    obtain⟨v,gQ,rfl,aa,ad⟩:=h
    simp at bl
    exact⟨v,gQ,rfl,ih.1 _ _ _ (by omega) aa,ih.2 _ _ (by omega) ad⟩
end
def w4:Bool:=false
def Out (w w0:World):Prop:=w.output=w0.output∧(w4=true→w0.drawn≤w.drawn)
theorem Out.trans {a b c:World} (h:Out a b) (ad:Out b c):Out a c:=⟨Eq.trans h.1 ad.1,fun d=>Nat.le_trans (ad.2 d) (h.2 d)⟩
theorem Out.refl (w:World):Out w w:=⟨rfl,fun _=>Nat.le_refl _⟩
def w5 (o:Obj):Prop:=∃az cs e fr,o= .cells cs e fr∧cs[0]? =some az∧(az= .nilIface∨∃w6 w7,az= .iface w6 w7)
def w8 (o:Obj):Prop:=∃e fr,o= .cells ((List.range 20).map fun i=>Value.int .u64 ((10^i:Nat):Int)).toArray e fr
def w9:List (Nat×(Obj→Prop)):=[(4,w5),(1,w8)]
def mZ (w:World) (X:Nat→Prop):Prop:=∀p∈w9,p.1<w.heap.size∧¬X p.1∧∃o,w.heap[p.1]? =some o∧p.2 o
theorem mZ.next {w aw:World} {X Y:Nat→Prop} (h:mZ w X) (U:w.heap.size≤aw.heap.size) (R:∀b,b<w.heap.size→¬X b→aw.heap[b]? =w.heap[b]?) (hy:∀b,Y b→X b∨w.heap.size≤b):mZ aw Y:=fun p ak=>by
 obtain⟨aa,ad,o,aB,aO⟩:=h p ak
 refine⟨Nat.lt_of_lt_of_le aa U,fun h=> ?_,o,(R _ aa ad).trans aB,aO⟩
 rcases hy _ h with h|h
 ·exact ad h
 ·omega
structure a7 (w0:World) (F0 X F:Nat→Prop) (S:Nat→Nat→Prop) (s:aj) (an:Nat→Value) (w:World):Prop where
 eU:∀b,F0 b→F b
 e4:∀b,F b→F0 b∨X b∨w0.heap.size≤b
 dw:∀b,F b→b<w.heap.size
 c6:∀t b,S t b→b<w.heap.size
 dP:∀t b,S t b→¬F b
 dq:∀t u b,t≠u→S t b→¬S u b
 cz:∀t b,S t b→X b∨w0.heap.size≤b
 cd:∀t,ax w F s an (s t) (an t) (S t)
 old:∀b,b<w0.heap.size→¬X b→w.heap[b]? =w0.heap[b]?
 size:w0.heap.size≤w.heap.size
 os:w.os=w0.os
 tape:w.tape=w0.tape
 output:Out w w0
 eN:mZ w0 X
section
variable {w0 w aw:World} {F0 X F:Nat→Prop} {S:Nat→Nat→Prop} {s:aj} {an:Nat→Value}
theorem a7.grow (h:a7 w0 F0 X F S s an w) (R:∀b,b<w.heap.size→aw.heap[b]? =w.heap[b]?) (U:w.heap.size≤aw.heap.size)
  (aa:aw.os=w.os) (ad:aw.tape=w.tape) (aB:Out aw w):a7 w0 F0 X F S s an aw where
 eU:=h.eU
 e4:=h.e4
 dw:=fun b aX=>Nat.lt_of_lt_of_le (h.dw b aX) U
 c6:=fun t b aX=>Nat.lt_of_lt_of_le (h.c6 t b aX) U
 dP:=h.dP
 dq:=h.dq
 cz:=h.cz
 cd:=fun t=>ax.frame (Sx:=S) (fun b aX=>R b (h.dw b aX)) (fun _ h=>h) (fun x b bd=>R b (h.c6 x b bd)) h.cd _ _ _ (fun b bd=>R b (h.c6 t b bd)) (h.cd t)
 old:=fun b cY ht=>(R b (Nat.lt_of_lt_of_le cY h.size)).trans (h.old b cY ht)
 size:=Nat.le_trans h.size U
 os:=aa.trans h.os
 tape:=ad.trans h.tape
 output:=aB.trans h.output
 eN:=h.eN
def ey (S:Nat→Nat→Prop) (t:Nat) (Sn:Nat→Prop):Nat→Nat→Prop:=fun u b=>if u=t then Sn b else S u b
theorem r7 (S:Nat→Nat→Prop) (t:Nat) (Sn:Nat→Prop):ey S t Sn t=Sn:=by funext b;simp[ey]
theorem r8 (S:Nat→Nat→Prop) {t u:Nat} (Sn:Nat→Prop) (h:u≠t):ey S t Sn u=S u:=by funext b;simp[ey,h]
theorem a7.r9 (h:a7 w0 F0 X F S s an w) {t:Nat} {d:I} {v:Value} (ak:d.plain=true) (ae:ax w F s an d v (fun _=>False)):
  a7 w0 F0 X F (ey S t (fun _=>False)) (cg s t d) (cg an t v) w where
 eU:=h.eU
 e4:=h.e4
 dw:=h.dw
 c6:=fun u b R=>by simp only[ey]at R;split at R;exact R.elim;exact h.c6 u b R
 dP:=fun u b R=>by simp only[ey]at R;split at R;exact R.elim;exact h.dP u b R
 dq:=fun u x b cB R ao=>by
  simp only[ey]at R ao
  split at R
  ·exact R.elim
  ·split at ao
   ·exact ao.elim
   ·exact h.dq u x b cB R ao
 cz:=fun u b R=>by simp only[ey]at R;split at R;exact R.elim;exact h.cz u b R
 cd:=fun u=>by
  have fo:∀x,x≠t→(cg s t d x).tree=true→cg s t d x=s x∧cg an t v x=an x:=fun x ao _=>⟨gR _ _ ao,gR _ _ ao⟩
  have lq:(cg s t d t).plain=true:=by rw[jS];exact ak
  by_cases hu:u=t
  ·subst hu
   rw[jS,jS,r7]
   exact(ax.void fo lq _).1 _ _ _ (Nat.le_refl _) ae
  ·rw[gR _ _ hu,gR _ _ hu,r8 _ _ hu]
   exact(ax.void fo lq _).1 _ _ _ (Nat.le_refl _) (h.cd u)
 old:=h.old
 size:=h.size
 os:=h.os
 tape:=h.tape
 output:=h.output
 eN:=h.eN
theorem a7.Ay (h:a7 w0 F0 X F S s an w) {t:Nat} {d:I} {v:Value} {Sn:Nat→Prop} (ae:d.tree=true) (U:cx d v) (aE:al w F d (bw v) Sn)
  (cY:∀b,Sn b→b<w.heap.size) (aX:∀b,Sn b→¬F b) (bd:∀u b,u≠t→Sn b→¬S u b) (bz:∀b,Sn b→X b∨w0.heap.size≤b):
  a7 w0 F0 X F (ey S t Sn) (cg (iV t s) t d) (cg an t v) w where
 eU:=h.eU
 e4:=h.e4
 dw:=h.dw
 c6:=fun u b R=>by simp only[ey]at R;split at R;exact cY b R;exact h.c6 u b R
 dP:=fun u b R=>by simp only[ey]at R;split at R;exact aX b R;exact h.dP u b R
 dq:=fun u x b cB R ao=>by
  simp only[ey]at R ao
  split at R
  ·rename_i hu
   rw[if_neg (fun e=>cB (hu.trans e.symm))]at ao
   exact bd x b (fun e=>cB (hu.trans e.symm)) R ao
  ·rename_i hu
   split at ao
   ·exact bd u b hu ao R
   ·exact h.dq u x b cB R ao
 cz:=fun u b R=>by simp only[ey]at R;split at R;exact bz b R;exact h.cz u b R
 cd:=fun u=>by
  have fo:∀x,x≠t→(cg (iV t s) t d x).tree=true→cg (iV t s) t d x=s x∧cg an t v x=an x:=fun x ao aN=>by
   rw[gR _ _ ao]at aN⊢
   exact⟨(GG aN).2,gR _ _ ao⟩
  by_cases hu:u=t
  ·subst hu
   rw[jS,jS,r7]
   exact(ax.bJ ae).2 ⟨U,aE⟩
  ·rw[gR _ _ hu,gR _ _ hu,r8 _ _ hu]
   exact(ax.bT fo _).1 _ _ _ (Nat.le_refl _) (h.cd u)
 old:=h.old
 size:=h.size
 os:=h.os
 tape:=h.tape
 output:=h.output
 eN:=h.eN
theorem nV (k:Nat) (q:List Nat) (aV x:I):(∃af gs,x= .agg af∧I.put (k::q) aV x= .agg gs)∨(∃af gs,x= .tuple af∧I.put (k::q) aV x= .tuple gs)∨
  (∃sz xs bD,x= .aK sz xs∧I.put (k::q) aV x= .aK sz bD)∨(∃y z,x= .a1 y∧I.put (k::q) aV x= .a1 z)∨I.put (k::q) aV x=x:=by
 cases x with
 |agg af=>simp only[I.put];split<;>exact .inl ⟨_,_,rfl,rfl⟩
 |tuple af=>simp only[I.put];split<;>exact .inr (.inl ⟨_,_,rfl,rfl⟩)
 |aK sz af=>simp only[I.put];split<;>exact .inr (.inr (.inl ⟨_,_,_,rfl,rfl⟩))
 |a1 y=>cases k<;>exact .inr (.inr (.inr (.inl ⟨_,_,rfl,rfl⟩)))
 |_=>exact .inr (.inr (.inr (.inr rfl)))
theorem Az {k:Nat} {q:List Nat} {aV x:I} {v:Value} (h:fI x v):fI (I.put (k::q) aV x) v:=by
 rcases nV k q aV x with⟨af,gs,rfl,e⟩|⟨af,gs,rfl,e⟩|⟨sz,xs,bD,rfl,e⟩|⟨y,z,rfl,e⟩|e<;>rw[e]<;>exact h
theorem AA {k:Nat} {q:List Nat} {aV x:I} (h:∀vs,x≠.tuple vs):∀vs,I.put (k::q) aV x≠.tuple vs:=by
 rcases nV k q aV x with⟨af,gs,rfl,e⟩|⟨af,gs,rfl,e⟩|⟨sz,xs,bD,rfl,e⟩|⟨y,z,rfl,e⟩|e<;>rw[e]<;>first|exact h|(intro vs aQ;cases aQ;done)|exact(h _ rfl).elim
theorem r_ {k:Nat} {q:List Nat} {d aV av:I} {v:Value} (h:cx av v) (ae:I.sub (k::q) av=some d) (aa:∀v,fI d v→fI aV v) (ad:(∀vs,d≠.tuple vs)→∀vs,aV≠.tuple vs) (aB:aV.wd=d.wd):
  cx (I.put (k::q) aV av) v:=by
 cases av with
 |tuple af=>
  simp only[I.sub]at ae
  split at ae
  ·rename_i x ao
   simp only[I.put,ao]
   simp only[cx]at h⊢
   obtain⟨arr,rfl,bl,hH⟩:=h
   refine⟨arr,rfl,by simpa using bl,fun j e y he hy=> ?_⟩
   rw[List.getElem?_set]at he
   split at he
   ·rename_i w_
    subst w_
    split at he
    ·simp only[Option.some.injEq]at he
     subst he
     obtain⟨g1,g2,g3⟩:=hH k x y ao hy
     refine⟨?_,?_,g3.trans (I.qi q x d aV ae aB).symm⟩
     ·cases q with
      |nil=>
       simp only[I.sub,Option.some.injEq]at ae
       subst ae
       exact aa _ g1
      |cons bF q=>exact Az g1
     ·cases q with
      |nil=>
       simp only[I.sub,Option.some.injEq]at ae
       subst ae
       exact ad g2
      |cons bF q=>exact AA g2
    ·cases he
   ·exact hH j e y he hy
  ·cases ae
 |agg af=>simp only[I.put];split<;>exact h
 |aK sz af=>simp only[I.put];split<;>exact h
 |a1 y=>cases k<;>exact h
 |_=>exact h
theorem xa {d:I} {v:Value} (h:fI d v):fI d.b6 v:=by cases d<;>exact h
theorem AB {s:aj} {x:Nat} {q:List Nat} {d:I} (ae:I.sub q (s x)=some d) (ak:d.plain=false):
  (cg (fz x s) x (I.put q d.b6 (s x)) x).plain=false→(s x).plain=false∧∀v,cx (s x) v→cx (cg (fz x s) x (I.put q d.b6 (s x)) x) v:=by
  rw[jS]
  intro e5
  cases q with
  |nil=>
   exfalso
   have:∀d:I,d.b6.plain=true:=by
    intro d
    have key:∀n,(∀d:I,SizeOf.sizeOf d≤n→d.b6.plain=true)∧(∀ds:List I,SizeOf.sizeOf ds≤n→I.dW (I.iu ds)=true):=by
     intro n
     induction n with
     |zero=>exact⟨fun d bl=>by cases d<;>simp at bl<;>omega,fun ds bl=>by cases ds<;>simp at bl<;>omega⟩
     |succ n ih=>
      refine⟨fun d bl=> ?_,fun ds bl=> ?_⟩
      ·cases d with
       |agg af=>simp only[I.b6,I.plain];exact ih.2 _ (by simp at bl;omega)
       |tuple af=>simp only[I.b6,I.plain];exact ih.2 _ (by simp at bl;omega)
       |_=>rfl
      ·cases ds with
       |nil=>rfl
       |cons d ds=>
        simp at bl
        simp only[I.iu,I.dW,Bool.and_eq_true]
        exact⟨ih.1 _ (by omega),ih.2 _ (by omega)⟩
    exact(key _).1 d (Nat.le_refl _)
   simp only[I.put]at e5
   rw[this]at e5
   cases e5
  |cons k q=>
   refine⟨?_,fun v aE=>r_ aE ae (fun v h=>xa h) (fun h vs e=> ?_) (I.nU d)⟩
   ·cases sa:(s x).plain with
    |false=>rfl
    |true=>rw[I.wZ _ _ _ sa ae]at ak;cases ak
   ·cases d<;>first|(exact h _ rfl)|(simp[I.b6]at e)
theorem a7.take (h:a7 w0 F0 X F S s an w) {x:Nat} {q:List Nat} {d:I} (ae:I.sub q (s x)=some d) (ak:d.plain=false):
  ∃(Sn dp:Nat→Prop) (bP:List Value) (a:Option (Nat×Nat)),a7 w0 F0 X F (ey S x Sn) (cg (fz x s) x (I.put q d.b6 (s x))) an w∧
   cb w q (s x) (bw (an x)) none=some (d,bP,a)∧al w F d bP dp∧(∀b,dp b→S x b)∧(∀b,Sn b→S x b)∧(∀b,dp b→¬Sn b)∧
   (∀(aV:I) (v:Value) (aD:Nat→Prop),ax w F s an aV v aD→ax w F (cg (fz x s) x (I.put q d.b6 (s x))) an (b9.bn x aV) v aD):=by
 have aN:=fm ae (.inl ak)
 have ao:=h.cd x
 rw[ax.bJ aN]at ao
 obtain⟨bP,a,cL,dp,g0,g1,g2,g3,g4,g5⟩:=ctx q (s x) (bw (an x)) (S x) none d ao.2 ae
 have hr:al w F (I.put q d.b6 (s x)) (bw (an x)) cL:=by
  have fb:al w F d.b6 bP (fun _=>False):=al.b6 _ _ _ _ g4
  have l6:∀b,(cL b∨False)→cL b:=fun b h=>h.elim id False.elim
  rcases g5 with⟨l,r,aF,aI,aL⟩|⟨b,cur,e,fr,l,r,aF,aI,aL,bX,b7,bs⟩
  ·have:=aL w _ bP _ (fun _ _=>rfl) (fun _ _=>rfl) (I.nU d) fb (fun _ h=>h.elim)
   rw[←aF]at this
   exact al.mono (fun _ h=>h) _ _ _ _ l6 this
  ·have:=bs w _ bP _ (fun _ _=>rfl) (fun _ _ _=>rfl) (by rw[aL,←b7]) (I.nU d) fb (fun _ h=>h.elim)
   exact al.mono (fun _ h=>h) _ _ _ _ l6 this
 have GH:cx (I.put q d.b6 (s x)) (an x)∧(I.put q d.b6 (s x)).tree=true∨I.put q d.b6 (s x)= .hole:=by
  cases q with
  |nil=>
   simp only[I.sub,Option.some.injEq]at ae
   subst ae
   simp only[I.put]
   cases U:s x with
   |aK sz xs=>right;rfl
   |a1 y=>right;rfl
   |cA y=>right;rfl
   |agg af=>left;rw[U]at ao;exact⟨ao.1,rfl⟩
   |tuple af=>
    left
    rw[U]at ao
    refine⟨?_,rfl⟩
    simp only[cx,I.b6]at ao⊢
    obtain⟨arr,e,bl,hH⟩:=ao.1
    have aJ:∀af:List I,I.iu af=af.map I.b6:=by
     intro af;induction af with
     |nil=>rfl
     |cons a af ih=>simp[I.iu,ih]
    refine⟨arr,e,by rw[aJ];simpa using bl,fun k ew y he hy=> ?_⟩
    rw[aJ,List.getElem?_map]at he
    cases ar:af[k]? with
    |none=>rw[ar]at he;cases he
    |some z=>
     rw[ar]at he
     simp only[Option.map_some,Option.some.injEq]at he
     subst he
     obtain⟨g1,g2,g3⟩:=hH k z y ar hy
     refine⟨xa g1,fun vs e=> ?_,g3.trans (I.nU z).symm⟩
     cases z<;>first|(exact g2 _ rfl)|(simp[I.b6]at e)
   |_=>rw[U]at ak;simp[I.plain]at ak
  |cons k q=>
   left
   refine⟨r_ ao.1 ae (fun v h=>xa h) (fun h vs e=> ?_) (I.nU d),?_⟩
   ·cases d<;>first|(exact h _ rfl)|(simp[I.b6]at e)
   ·rcases nV k q d.b6 (s x)with⟨af,gs,aF,e⟩|⟨af,gs,aF,e⟩|⟨sz,xs,bD,aF,e⟩|⟨y,z,aF,e⟩|e<;>rw[e]<;>first|rfl|exact aN
 refine⟨cL,dp,bP,a,?_,g0,g4,g2,g1,fun b aa ad=>g3 b ad aa,?_⟩
 rotate_left
 ·have fo:∀y,y≠x→(cg (fz x s) x (I.put q d.b6 (s x)) y).tree=true→cg (fz x s) x (I.put q d.b6 (s x)) y=s y∧an y=an y:=fun y hy aN=>by
   rw[gR _ _ hy]at aN⊢
   exact⟨(uq aN).2,rfl⟩
  intro aV v aD eX
  exact(ax.bn fo rfl (AB ae ak) (fun _ _ _ _ _ _=>rfl) (fun _ _=>rfl) _).1 _ _ _ (Nat.le_refl _) (fun _ _=>rfl) eX
 have fo:∀y,y≠x→(cg (fz x s) x (I.put q d.b6 (s x)) y).tree=true→cg (fz x s) x (I.put q d.b6 (s x)) y=s y∧an y=an y:=fun y hy aN=>by
  rw[gR _ _ hy]at aN⊢
  exact⟨(uq aN).2,rfl⟩
 have jn:=AB (s:=s) (x:=x) ae ak
 constructor
 case eU=>exact h.eU
 case e4=>exact h.e4
 case dw=>exact h.dw
 case c6=>exact fun u b R=>by simp only[ey]at R;split at R;exact h.c6 x b (g1 b R);exact h.c6 u b R
 case dP=>exact fun u b R=>by simp only[ey]at R;split at R;exact h.dP x b (g1 b R);exact h.dP u b R
 case dq=>
  intro u y b cB R hy
  simp only[ey]at R hy
  split at R
  ·rename_i hu
   rw[if_neg (fun e=>cB (hu.trans e.symm))]at hy
   exact h.dq x y b (fun e=>cB (hu.trans e)) (g1 b R) hy
  ·rename_i hu
   split at hy
   ·exact h.dq u x b hu R (g1 b hy)
   ·exact h.dq u y b cB R hy
 case cz=>exact fun u b R=>by simp only[ey]at R;split at R;exact h.cz x b (g1 b R);exact h.cz u b R
 case cd=>
  intro u
  by_cases hu:u=x
  ·subst hu
   rw[jS,r7]
   rcases GH with⟨aF,aI⟩|e
   ·exact(ax.bJ aI).2 ⟨aF,hr⟩
   ·rw[e,ax];trivial
  ·rw[gR _ _ hu,r8 _ _ hu]
   exact(ax.bn fo rfl jn (fun _ _ _ _ _ _=>rfl) (fun _ _=>rfl) _).1 _ _ _ (Nat.le_refl _) (fun _ _=>rfl) (h.cd u)
 case old=>exact h.old
 case size=>exact h.size
 case os=>exact h.os
 case tape=>exact h.tape
 case output=>exact h.output
 case eN=>exact h.eN
theorem a7.store (h:a7 w0 F0 X F S s an w) {x:Nat} {q:List Nat} {d aV:I} (ae:I.sub q (s x)=some d) (ai:I.dC q (s x)=true)
  {dU:List Value} {Sn:Nat→Prop} (aE:al w F aV dU Sn) (hG:aV.wd=d.wd)
  (cY:∀b,Sn b→b<w.heap.size) (aX:∀b,Sn b→¬F b) (bd:∀u b,Sn b→¬S u b) (bz:∀b,Sn b→X b∨w0.heap.size≤b):
  ∃(bP:List Value) (b:Nat) (l r:List Value) (cur:Array Value) (e:TypeId) (fr:Nat×Nat),cb w q (s x) (bw (an x)) none=some (d,bP,some (b,l.length))∧
   w.heap[b]? =some (.cells cur e fr)∧cur.toList=l++(bP++r)∧nT fr cur.size∧
   ∀aw,aw.heap[b]? =some (.cells (l++(dU++r)).toArray e fr)→(∀c,c≠b→aw.heap[c]? =w.heap[c]?)→aw.heap.size=w.heap.size→aw.os=w.os→aw.tape=w.tape→Out aw w→
    ∃aD,a7 w0 F0 X F aD (cg (fz x s) x (I.put q aV (s x))) an aw:=by
 have aN:=fm ae (.inr ai)
 have ao:=h.cd x
 rw[ax.bJ aN]at ao
 obtain⟨bP,a,cL,dp,g0,g1,g2,g3,g4,g5⟩:=ctx q (s x) (bw (an x)) (S x) none d ao.2 ae
 have GI:Deep w F q (s x) (bw (an x)) d bP a cL:=by
  rcases g5 with⟨l,r,aF,aI,aL⟩|g5
  ·exfalso
   have hZ:∀(q:List Nat) (av:I) (cs:List Value) (a0:Option (Nat×Nat)) (d:I) (bP:List Value),I.dC q av=true→cb w q av cs a0=some (d,bP,none)→False:=by
    intro q
    induction q with
    |nil=>intro av cs a0 d bP ai;simp[I.dC]at ai
    |cons k q ih=>
     have AD:∀(q:List Nat) (av:I) (cs:List Value) (l:Nat×Nat) (d:I) (bP:List Value),cb w q av cs (some l)=some (d,bP,none)→False:=by
      intro q
      induction q with
      |nil=>intro av cs l d bP h;simp[cb]at h
      |cons k q ur=>
       intro av cs l d bP h
       cases av with
       |agg af=>rw[cb]at h;split at h;exact ur _ _ _ _ _ h;cases h
       |tuple af=>rw[cb]at h;split at h;exact ur _ _ _ _ _ h;cases h
       |aK sz xs=>simp only[cb]at h;split at h;exact ur _ _ _ _ _ h;cases h
       |a1 y=>
        cases k with
        |zero=>rw[cb.eq_def]at h;simp only at h;split at h;exact ur _ _ _ _ _ h;cases h
        |succ k=>rw[show cb w ((k+1)::q) (.a1 y) cs (some l)=none from rfl]at h;cases h
       |_=>simp[cb]at h
     intro av cs a0 d bP ai h
     cases av with
     |agg af=>
      simp only[I.dC]at ai
      split at ai
      ·rename_i y hy
       simp only[cb,hy]at h
       exact ih _ _ _ _ _ ai h
      ·cases ai
     |tuple af=>
      simp only[I.dC]at ai
      split at ai
      ·rename_i y hy
       simp only[cb,hy]at h
       exact ih _ _ _ _ _ ai h
      ·cases ai
     |aK sz xs=>simp only[cb]at h;split at h;exact AD _ _ _ _ _ _ h;cases h
     |a1 y=>
      cases k with
      |zero=>rw[cb.eq_def]at h;simp only at h;split at h;exact AD _ _ _ _ _ _ h;cases h
      |succ k=>rw[show cb w ((k+1)::q) (.a1 y) cs a0=none from rfl]at h;cases h
     |_=>simp[I.dC]at ai
   simp only[Option.map_none]at aI
   subst aI
   exact hZ _ _ _ _ _ _ ai g0
  ·exact g5
 obtain⟨b,cur,e,fr,l,r,rfl,aI,aL,bX,b7,bs⟩:=GI
 refine⟨bP,b,l,r,cur,e,fr,g0,aL,b7,bX,?_⟩
 intro aw jm kL cP xb xc o4
 have o5:S x b:=g1 _ aI
 have l7:∀c,F c→aw.heap[c]? =w.heap[c]? :=fun c ai=>kL c (by rintro rfl;exact h.dP x _ o5 ai)
 have YE:dU.length=bP.length:=by rw[al.length _ _ _ aE,al.length _ _ _ g4,hG]
 have hr:=bs aw aV dU Sn l7 (fun c _ cB=>kL c cB) jm hG
  (al.frame l7 _ _ _ (fun c ai=>kL c (by rintro rfl;exact bd x _ ai o5)) aE) (fun c ai l6=>bd x c ai (g1 _ l6))
 obtain⟨k,fT,rfl⟩:∃k fT,q=k::fT:=by
  cases q with
  |nil=>simp[I.dC]at ai
  |cons k q=>exact⟨k,q,rfl⟩
 have sb:∀v,cx (s x) v→cx (I.put (k::fT) aV (s x)) v:=by
  intro v aE
  rcases nV k fT aV (s x)with⟨af,gs,aF,e⟩|⟨af,gs,aF,e⟩|⟨sz,xs,bD,aF,e⟩|⟨y,z,aF,e⟩|e
  ·rw[e];rw[aF]at aE;exact aE
  ·
   rw[aF]at aE ae ai⊢
   simp only[I.dC]at ai
   split at ai
   ·rename_i y hy
    simp only[I.put,hy]
    cases fT with
    |nil=>simp[I.dC]at ai
    |cons bF ep=>
     simp only[cx]at aE⊢
     obtain⟨arr,rfl,bl,hH⟩:=aE
     refine⟨arr,rfl,by simpa using bl,fun j e h0 he o6=> ?_⟩
     rw[List.getElem?_set]at he
     split at he
     ·rename_i w_
      subst w_
      split at he
      ·simp only[Option.some.injEq]at he
       subst he
       obtain⟨g1,g2,g3⟩:=hH _ y h0 hy o6
       simp only[I.sub,hy]at ae
       exact⟨Az g1,AA g2,g3.trans (I.qi (bF::ep) y d aV ae hG).symm⟩
      ·cases he
     ·exact hH j e h0 he o6
   ·cases ai
  ·rw[e];rw[aF]at aE;exact aE
  ·rw[e];rw[aF]at aE;exact aE
  ·rw[e];exact aE
 have GJ:(I.put (k::fT) aV (s x)).tree=true:=by
  rcases nV k fT aV (s x)with⟨af,gs,aF,e⟩|⟨af,gs,aF,e⟩|⟨sz,xs,bD,aF,e⟩|⟨y,z,aF,e⟩|e<;>rw[e]<;>first|rfl|exact aN
 let aq:=cg (fz x s) x (I.put (k::fT) aV (s x))
 have fo:∀y,y≠x→(aq y).tree=true→aq y=s y∧an y=an y:=fun y hy aN=>by
  have e:aq y=bn x (s y):=gR _ _ hy
  rw[e]at aN⊢
  exact⟨(uq aN).2,rfl⟩
 have jn:(aq x).plain=false→(s x).plain=false∧∀v,cx (s x) v→cx (aq x) v:=by
  intro _
  refine⟨?_,?_⟩
  ·cases sa:(s x).plain with
   |false=>rfl
   |true=>rw[I.Aw _ _ sa]at ai;cases ai
  ·simp only[aq,jS];exact sb
 refine⟨ey S x (fun c=>cL c∨Sn c),?_⟩
 constructor
 case eU=>exact h.eU
 case e4=>exact h.e4
 case dw=>exact fun b R=>by rw[cP];exact h.dw b R
 case c6=>
  intro u c R
  rw[cP]
  simp only[ey]at R
  split at R
  ·rcases R with R|R
   ·exact h.c6 x c (g1 c R)
   ·exact cY c R
  ·exact h.c6 u c R
 case dP=>
  intro u c R
  simp only[ey]at R
  split at R
  ·rcases R with R|R
   ·exact h.dP x c (g1 c R)
   ·exact aX c R
  ·exact h.dP u c R
 case dq=>
  intro u y c cB R hy
  simp only[ey]at R hy
  split at R
  ·rename_i hu
   rw[if_neg (fun e=>cB (hu.trans e.symm))]at hy
   rcases R with R|R
   ·exact h.dq x y c (fun e=>cB (hu.trans e)) (g1 c R) hy
   ·exact bd y c R hy
  ·rename_i hu
   split at hy
   ·rcases hy with hy|hy
    ·exact h.dq u x c hu R (g1 c hy)
    ·exact bd u c hy R
   ·exact h.dq u y c cB R hy
 case cz=>
  intro u c R
  simp only[ey]at R
  split at R
  ·rcases R with R|R
   ·exact h.cz x c (g1 c R)
   ·exact bz c R
  ·exact h.cz u c R
 case cd=>
  intro u
  by_cases hu:u=x
  ·subst hu
   rw[jS,r7]
   exact(ax.bJ GJ).2 ⟨sb _ ao.1,hr⟩
  ·rw[gR _ _ hu,r8 _ _ hu]
   have cB:∀y c,y≠x→S y c→aw.heap[c]? =w.heap[c]? :=fun y c hy ai=>kL c (by rintro rfl;exact h.dq y x c hy ai o5)
   refine(ax.bn fo rfl jn (fun y ep d2 hy eZ sc=> ?_) l7 _).1 _ _ _ (Nat.le_refl _) (fun c ai=>cB u c hu ai) (h.cd u)
   have sd:=h.cd y
   rw[ax.bJ (fm eZ sc)]at sd
   exact uo ep _ _ _ none d2 sd.2 eZ (fun c ai=>cB y c hy ai)
 case old=>
  intro c cY ht
  by_cases qk:c=b
  ·subst qk
   exfalso
   rcases h.cz x c o5 with fb|fb
   ·exact ht fb
   ·omega
  ·exact(kL c qk).trans (h.old c cY ht)
 case size=>rw[cP];exact h.size
 case os=>exact xb.trans h.os
 case tape=>exact xc.trans h.tape
 case output=>exact o4.trans h.output
 case eN=>exact h.eN
end
end Go.b9
