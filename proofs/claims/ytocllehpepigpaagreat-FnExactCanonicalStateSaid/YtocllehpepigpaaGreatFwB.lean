/- Part of a proof that a law returns true for every input. No condition. -/
import Derived.Test.YtocllehpepigpaaGreatFwA
import Derived.Laws.AppendOwn
import Derived.Calls
namespace Go.cZ
inductive xp where
 |mp (es:List (List UInt8×Bool))
 |xq
 |i7 (T e:TypeId) (lb:List UInt8)
inductive I where
 |hole
 |bool (b:Bool)
 |fb
 |int (k:IntKind) (n:Int)
 |str (s:List UInt8)
 |dI
 |bk
 |slice (xs:List I)
 |an (sz:Nat) (xs:List I)
 |ref (d:I)
 |bd (d:I)
 |agg (ay:List I)
 |tuple (vs:List I)
 |fn (f:FuncId) (cap:List I)
 |h (x:Nat) (q:List Nat)
 |au (x:Nat) (q:List Nat)
 |ae (x:Nat) (k:Nat)
 |en (o:xp)
 deriving Inhabited
mutual
def I.wd:I→Nat
 | .agg ay=>I.eC ay
 | .tuple ay=>I.eC ay
 |_=>1
def I.eC:List I→Nat
 |[]=>0
 |d::ds=>d.wd+I.eC ds
end
def Rd (w:World) (b o:Nat) (cs:List Value):Prop:=∀j c,cs[j]? =some c→w.cell? ⟨b,o+j,none⟩=some c
def oV (fr:Nat×Nat) (n:Nat):Prop:=∀o,o<n→¬(fr.1≤o∧o<fr.2)
def Value.gC:Value→Bool
 | .agg _=>false
 | .tuple _=>false
 |_=>true
def I.single:I→Bool
 | .agg _=>false
 | .tuple _=>false
 | .hole=>false
 |_=>true
def lY (w:World):xp→List Value→(Nat→Prop)→Prop
 | .mp es,cs,S=>∃r ms mV,cs=[.map (some r)]∧S r∧w.heap[r]? =some (.map ms mV)∧ms.toList.map (fun e=>(e.key,e.val))=es.map (fun e=>(.string ⟨⟨e.1⟩⟩,.bool e.2))
 | .xq,cs,_=>cs=[.map none]
 | .i7 T e lb,cs,S=>∃b a sF,cs=[.pointer (some ⟨b,0,none⟩)]∧S b∧w.heap[b]? =some (.cells #[a,sF] T (0,0))∧(a= .pointer none∨a= .pointer (some ⟨b,0,none⟩))∧
   ((lb=[]∧sF= .slice none 0 0)∨
     ∃g cap cur,sF= .slice (some ⟨g,0,none⟩) lb.length cap∧S g∧g≠b∧w.heap[g]? =some (.cells cur e (0,0))∧lb.length≤cap∧cap≤maxLen∧cur.size=cap∧
      cur.toList.take lb.length=lb.map fun x=>.int .u8 x.toNat)
theorem lY.frame {w aG:World}:∀{o:xp} {cs:List Value} {S:Nat→Prop},(∀b,S b→aG.heap[b]? =w.heap[b]?)→lY w o cs S→lY aG o cs S
 | .mp _,_,_,b1,⟨r,ms,mV,h1,ah,aC,a8⟩=>⟨r,ms,mV,h1,ah,(b1 _ ah).trans aC,a8⟩
 | .xq,_,_,_,h=>h
 | .i7 _ _ _,_,_,b1,⟨b,a,sF,h1,ah,aC,a8,bK⟩=>⟨b,a,sF,h1,ah,(b1 _ ah).trans aC,a8,bK.imp (fun h=>h) fun⟨g,cap,cur,ry,i2,i3,i4,i5⟩=>⟨g,cap,cur,ry,i2,i3,(b1 _ i2).trans i4,i5⟩⟩
theorem lY.mono {w:World}:∀{o:xp} {cs:List Value} {S aR:Nat→Prop},(∀b,S b→aR b)→lY w o cs S→lY w o cs aR
 | .mp _,_,_,_,b1,⟨r,ms,mV,h1,ah,aC⟩=>⟨r,ms,mV,h1,b1 _ ah,aC⟩
 | .xq,_,_,_,_,h=>h
 | .i7 _ _ _,_,_,_,b1,⟨b,a,sF,h1,ah,aC,a8,bK⟩=>⟨b,a,sF,h1,b1 _ ah,aC,a8,bK.imp (fun h=>h) fun⟨g,cap,cur,ry,i2,i3⟩=>⟨g,cap,cur,ry,b1 _ i2,i3⟩⟩
theorem lY.one {w:World}:∀{o:xp} {cs:List Value} {S:Nat→Prop},lY w o cs S→∃v,Value.gC v=true∧cs=[v]
 | .mp _,_,_,⟨_,_,_,h,_⟩=>⟨_,rfl,h⟩
 | .xq,_,_,h=>⟨_,rfl,h⟩
 | .i7 _ _ _,_,_,⟨_,_,_,h,_⟩=>⟨_,rfl,h⟩
mutual
def ax (w:World) (F:Nat→Prop):I→List Value→(Nat→Prop)→Prop
 | .hole,cs,_=>∃v,Value.gC v=true∧cs=[v]
 | .bool b,cs,_=>cs=[.bool b]
 | .fb,cs,_=>∃b,cs=[.bool b]
 | .int k n,cs,_=>cs=[.int k n]
 | .str s,cs,_=>cs=[.string ⟨⟨s⟩⟩]
 | .dI,cs,_=>cs=[.pointer none]
 | .bk,cs,_=>cs=[.slice none 0 0]
 | .slice xs,cs,_=>(xs=[]∧∃a c,cs=[.slice a 0 c]∧c≤maxLen∧(a=none→c=0))∨
   ∃b o cap eR sz,cs=[.slice (some ⟨b,o,none⟩) xs.length cap]∧F b∧xs.length≤cap∧cap≤maxLen∧(∀d∈xs,d.wd=sz)∧
    Rd w b o eR∧bc w F xs eR (fun _=>False)
 | .an sz xs,cs,S=>(xs=[]∧∃a,cs=[.slice a 0 0])∨
   ∃b cap cur e fr aR,cs=[.slice (some ⟨b,0,none⟩) xs.length cap]∧S b∧w.heap[b]? =some (.cells cur e fr)∧oV fr cur.size∧
    xs.length≤cap∧cap≤maxLen∧cur.size=cap*sz∧(∀d∈xs,d.wd=sz)∧bc w F xs (cur.toList.take (xs.length*sz)) aR∧(∀c,aR c→S c)∧¬aR b
 | .ref d,cs,_=>∃b o eR,cs=[.pointer (some ⟨b,o,none⟩)]∧F b∧Rd w b o eR∧ax w F d eR (fun _=>False)
 | .bd d,cs,S=>∃b cur e fr aR,cs=[.pointer (some ⟨b,0,none⟩)]∧S b∧w.heap[b]? =some (.cells cur e fr)∧oV fr cur.size∧
   ax w F d cur.toList aR∧(∀c,aR c→S c)∧¬aR b
 | .agg ay,cs,S=>bc w F ay cs S
 | .tuple ay,cs,S=>bc w F ay cs S
 | .fn f caps,cs,_=>∃arr:Array Value,cs=[.func (.func f) #[] arr]∧(∀d∈caps,d.single=true)∧bc w F caps arr.toList (fun _=>False)
 | .h _ _,_,_=>False
 | .au _ _,_,_=>False
 | .ae _ _,_,_=>False
 | .en o,cs,S=>lY w o cs S
def bc (w:World) (F:Nat→Prop):List I→List Value→(Nat→Prop)→Prop
 |[],cs,_=>cs=[]
 |d::ds,cs,S=>∃cB cu cq dU,cs=cB++cu∧ax w F d cB cq∧bc w F ds cu dU∧(∀b,cq b→S b)∧(∀b,dU b→S b)∧(∀b,cq b→¬dU b)
end
theorem cell?_of_block {w aG:World} {b:Nat} (h:aG.heap[b]? =w.heap[b]?) (o:Nat):aG.cell? ⟨b,o,none⟩=w.cell? ⟨b,o,none⟩:=by
 simp[World.cell?,h]
theorem Rd.frame {w aG:World} {b o:Nat} {cs:List Value} (h:aG.heap[b]? =w.heap[b]?) (aX:Rd w b o cs):Rd aG b o cs:=
 fun j c aq=>(cell?_of_block h _).trans (aX j c aq)
mutual
theorem ax.frame {w aG:World} {F:Nat→Prop} (bI:∀b,F b→aG.heap[b]? =w.heap[b]?):
  ∀(d:I) (cs:List Value) (S:Nat→Prop),(∀b,S b→aG.heap[b]? =w.heap[b]?)→ax w F d cs S→ax aG F d cs S
 | .hole,_,_,_,h=>h
 | .bool _,_,_,_,h=>h
 | .fb,_,_,_,h=>h
 | .int _ _,_,_,_,h=>h
 | .str _,_,_,_,h=>h
 | .dI,_,_,_,h=>h
 | .bk,_,_,_,h=>h
 | .slice xs,cs,S,b1,h=>by
   rw[ax]at h⊢
   rcases h with h|⟨b,o,cap,eR,sz,h1,ah,aC,a8,bK,cU,cJ⟩
   ·exact .inl h
   ·exact .inr ⟨b,o,cap,eR,sz,h1,ah,aC,a8,bK,cU.frame (bI _ ah),bc.frame bI xs _ _ (fun _ h=>h.elim) cJ⟩
 | .an sz xs,cs,S,b1,h=>by
   rw[ax]at h⊢
   rcases h with h|⟨b,cap,cur,e,fr,aR,h1,ah,aC,a8,bK,cU,cJ,fw,hR,h3,lf⟩
   ·exact .inl h
   ·exact .inr ⟨b,cap,cur,e,fr,aR,h1,ah,(b1 _ ah).trans aC,a8,bK,cU,cJ,fw,bc.frame bI xs _ _ (fun c aq=>b1 _ (h3 _ aq)) hR,h3,lf⟩
 | .ref d,cs,S,b1,h=>by
   rw[ax]at h⊢
   obtain⟨b,o,eR,h1,ah,aC,a8⟩:=h
   exact⟨b,o,eR,h1,ah,aC.frame (bI _ ah),ax.frame bI d _ _ (fun _ h=>h.elim) a8⟩
 | .bd d,cs,S,b1,h=>by
   rw[ax]at h⊢
   obtain⟨b,cur,e,fr,aR,h1,ah,aC,a8,bK,cU,cJ⟩:=h
   exact⟨b,cur,e,fr,aR,h1,ah,(b1 _ ah).trans aC,a8,ax.frame bI d _ _ (fun c aq=>b1 _ (cU _ aq)) bK,cU,cJ⟩
 | .agg ay,cs,S,b1,h=>by rw[ax]at h⊢;exact bc.frame bI ay _ _ b1 h
 | .tuple ay,cs,S,b1,h=>by rw[ax]at h⊢;exact bc.frame bI ay _ _ b1 h
 | .fn _ caps,cs,S,b1,h=>by
   rw[ax]at h⊢
   obtain⟨arr,h1,ah,aC⟩:=h
   exact⟨arr,h1,ah,bc.frame bI caps _ _ (fun _ h=>h.elim) aC⟩
 | .h _ _,_,_,_,h=>h
 | .au _ _,_,_,_,h=>h
 | .ae _ _,_,_,_,h=>h
 | .en _,_,_,b1,h=>lY.frame b1 h
theorem bc.frame {w aG:World} {F:Nat→Prop} (bI:∀b,F b→aG.heap[b]? =w.heap[b]?):
  ∀(ds:List I) (cs:List Value) (S:Nat→Prop),(∀b,S b→aG.heap[b]? =w.heap[b]?)→bc w F ds cs S→bc aG F ds cs S
 |[],_,_,_,h=>h
 |d::ds,cs,S,b1,h=>by
  rw[bc]at h⊢
  obtain⟨cB,cu,cq,dU,h1,ah,aC,a8,bK,cU⟩:=h
  exact⟨cB,cu,cq,dU,h1,ax.frame bI d _ _ (fun b ae=>b1 _ (a8 _ ae)) ah,bc.frame bI ds _ _ (fun b ae=>b1 _ (bK _ ae)) aC,a8,bK,cU⟩
end
mutual
theorem ax.mono {w:World} {F b2:Nat→Prop} (bI:∀b,F b→b2 b):
  ∀(d:I) (cs:List Value) (S aR:Nat→Prop),(∀b,S b→aR b)→ax w F d cs S→ax w b2 d cs aR
 | .hole,_,_,_,_,h=>h
 | .bool _,_,_,_,_,h=>h
 | .fb,_,_,_,_,h=>h
 | .int _ _,_,_,_,_,h=>h
 | .str _,_,_,_,_,h=>h
 | .dI,_,_,_,_,h=>h
 | .bk,_,_,_,_,h=>h
 | .slice xs,cs,S,_,b1,h=>by
   rw[ax]at h⊢
   rcases h with h|⟨b,o,cap,eR,sz,h1,ah,aC,a8,bK,cU,cJ⟩
   ·exact .inl h
   ·exact .inr ⟨b,o,cap,eR,sz,h1,bI _ ah,aC,a8,bK,cU,bc.mono bI xs _ _ _ (fun _ h=>h) cJ⟩
 | .an sz xs,cs,S,_,b1,h=>by
   rw[ax]at h⊢
   rcases h with h|⟨b,cap,cur,e,fr,aR,h1,ah,aC,a8,bK,cU,cJ,fw,hR,h3,lf⟩
   ·exact .inl h
   ·exact .inr ⟨b,cap,cur,e,fr,aR,h1,b1 _ ah,aC,a8,bK,cU,cJ,fw,bc.mono bI xs _ _ _ (fun _ h=>h) hR,fun c aq=>b1 _ (h3 _ aq),lf⟩
 | .ref d,cs,S,_,b1,h=>by
   rw[ax]at h⊢
   obtain⟨b,o,eR,h1,ah,aC,a8⟩:=h
   exact⟨b,o,eR,h1,bI _ ah,aC,ax.mono bI d _ _ _ (fun _ h=>h) a8⟩
 | .bd d,cs,S,_,b1,h=>by
   rw[ax]at h⊢
   obtain⟨b,cur,e,fr,aR,h1,ah,aC,a8,bK,cU,cJ⟩:=h
   exact⟨b,cur,e,fr,aR,h1,b1 _ ah,aC,a8,ax.mono bI d _ _ _ (fun _ h=>h) bK,fun c aq=>b1 _ (cU _ aq),cJ⟩
 | .agg ay,cs,S,_,b1,h=>by rw[ax]at h⊢;exact bc.mono bI ay _ _ _ b1 h
 | .tuple ay,cs,S,_,b1,h=>by rw[ax]at h⊢;exact bc.mono bI ay _ _ _ b1 h
 | .fn _ caps,cs,S,_,b1,h=>by
   rw[ax]at h⊢
   obtain⟨arr,h1,ah,aC⟩:=h
   exact⟨arr,h1,ah,bc.mono bI caps _ _ _ (fun _ h=>h) aC⟩
 | .h _ _,_,_,_,_,h=>h
 | .au _ _,_,_,_,_,h=>h
 | .ae _ _,_,_,_,_,h=>h
 | .en _,_,_,_,b1,h=>lY.mono b1 h
theorem bc.mono {w:World} {F b2:Nat→Prop} (bI:∀b,F b→b2 b):
  ∀(ds:List I) (cs:List Value) (S aR:Nat→Prop),(∀b,S b→aR b)→bc w F ds cs S→bc w b2 ds cs aR
 |[],_,_,_,_,h=>h
 |d::ds,cs,S,_,b1,h=>by
  rw[bc]at h⊢
  obtain⟨cB,cu,cq,dU,h1,ah,aC,a8,bK,cU⟩:=h
  exact⟨cB,cu,cq,dU,h1,ax.mono bI d _ _ _ (fun _ h=>h) ah,bc.mono bI ds _ _ _ (fun _ h=>h) aC,fun b ae=>b1 _ (a8 _ ae),fun b ae=>b1 _ (bK _ ae),cU⟩
end
mutual
theorem ax.length {w:World} {F:Nat→Prop}:∀(d:I) (cs:List Value) (S:Nat→Prop),ax w F d cs S→cs.length=d.wd
 | .hole,cs,S,h=>by rw[ax]at h;obtain⟨v,_,rfl⟩:=h;rfl
 | .bool _,cs,S,h=>by rw[ax]at h;subst h;rfl
 | .fb,cs,S,h=>by rw[ax]at h;obtain⟨b,rfl⟩:=h;rfl
 | .int _ _,cs,S,h=>by rw[ax]at h;subst h;rfl
 | .str _,cs,S,h=>by rw[ax]at h;subst h;rfl
 | .dI,cs,S,h=>by rw[ax]at h;subst h;rfl
 | .bk,cs,S,h=>by rw[ax]at h;subst h;rfl
 | .slice xs,cs,S,h=>by
   rw[ax]at h
   rcases h with⟨_,a,c,rfl,_⟩|⟨b,o,cap,eR,sz,rfl,_⟩<;>rfl
 | .an sz xs,cs,S,h=>by
   rw[ax]at h
   rcases h with⟨_,a,rfl⟩|⟨b,cap,cur,e,fr,aR,rfl,_⟩<;>rfl
 | .ref d,cs,S,h=>by rw[ax]at h;obtain⟨b,o,eR,rfl,_⟩:=h;rfl
 | .bd d,cs,S,h=>by rw[ax]at h;obtain⟨b,o,eR,_,_,rfl,_⟩:=h;rfl
 | .agg ay,cs,S,h=>by rw[ax]at h;exact bc.length ay _ _ h
 | .tuple ay,cs,S,h=>by rw[ax]at h;exact bc.length ay _ _ h
 | .fn _ _,cs,S,h=>by rw[ax]at h;obtain⟨arr,rfl,_⟩:=h;rfl
 | .h _ _,cs,S,h=>by rw[ax]at h;exact h.elim
 | .au _ _,cs,S,h=>by rw[ax]at h;exact h.elim
 | .ae _ _,cs,S,h=>by rw[ax]at h;exact h.elim
 | .en _,cs,S,h=>by rw[ax]at h;obtain⟨v,_,rfl⟩:=lY.one h;rfl
theorem bc.length {w:World} {F:Nat→Prop}:∀(ds:List I) (cs:List Value) (S:Nat→Prop),bc w F ds cs S→cs.length=I.eC ds
 |[],cs,S,h=>by rw[bc]at h;subst h;rfl
 |d::ds,cs,S,h=>by
  rw[bc]at h
  obtain⟨cB,cu,cq,dU,rfl,ah,aC,_⟩:=h
  rw[List.length_append,ax.length d _ _ ah,bc.length ds _ _ aC,I.eC]
end
mutual
def I.share:I→I
 | .an _ xs=>.slice (I.shares xs)
 | .bd d=>.ref d.share
 | .slice xs=>.slice (I.shares xs)
 | .ref d=>.ref d.share
 | .agg ay=>.agg (I.shares ay)
 | .tuple ay=>.tuple (I.shares ay)
 | .en _=>.hole
 |d=>d
def I.shares:List I→List I
 |[]=>[]
 |d::ds=>d.share::I.shares ds
end
theorem I.sG (ds:List I):I.shares ds=ds.map I.share:=by
 induction ds with
 |nil=>rfl
 |cons d ds ih=>simp[I.shares,ih]
mutual
theorem I.AO:∀d:I,d.share.wd=d.wd
 | .hole=>rfl
 | .bool _=>rfl
 | .fb=>rfl
 | .int _ _=>rfl
 | .str _=>rfl
 | .dI=>rfl
 | .bk=>rfl
 | .slice _=>rfl
 | .an _ _=>rfl
 | .ref _=>rfl
 | .bd _=>rfl
 | .agg ay=>by simp only[I.share,I.wd];exact I.EV ay
 | .tuple ay=>by simp only[I.share,I.wd];exact I.EV ay
 | .fn _ _=>rfl
 | .h _ _=>rfl
 | .au _ _=>rfl
 | .ae _ _=>rfl
 | .en _=>rfl
theorem I.EV:∀ds:List I,I.eC (I.shares ds)=I.eC ds
 |[]=>rfl
 |d::ds=>by simp only[I.shares,I.eC];rw[I.AO d,I.EV ds]
end
theorem u5 {w:World} {b:Nat} {cur:Array Value} {e:TypeId} {fr:Nat×Nat} (h:w.heap[b]? =some (.cells cur e fr)) (n:Nat):Rd w b 0 (cur.toList.take n):=by
 intro j c aq
 rw[List.getElem?_take]at aq
 split at aq
 ·simp[World.cell?,h];simpa using aq
 ·cases aq
mutual
theorem ax.shared {w:World} {F b2:Nat→Prop} (bI:∀b,F b→b2 b):
  ∀(d:I) (cs:List Value) (S:Nat→Prop),(∀b,S b→b2 b)→ax w F d cs S→ax w b2 d.share cs (fun _=>False)
 | .hole,_,_,_,h=>h
 | .bool _,_,_,_,h=>h
 | .fb,_,_,_,h=>h
 | .int _ _,_,_,_,h=>h
 | .str _,_,_,_,h=>h
 | .dI,_,_,_,h=>h
 | .bk,_,_,_,h=>h
 | .slice xs,cs,S,b1,h=>by
   rw[I.share,ax]
   rw[ax]at h
   rcases h with⟨rfl,a,c,rfl,aq⟩|⟨b,o,cap,eR,sz,h1,ah,aC,a8,bK,cU,cJ⟩
   ·exact .inl ⟨rfl,a,c,rfl,aq⟩
   ·refine .inr ⟨b,o,cap,eR,sz,?_,bI _ ah,?_,a8,?_,cU,bc.shared bI xs _ _ (fun _ h=>h.elim) cJ⟩
    ·simpa [I.sG]using h1
    ·simpa [I.sG]using aC
    ·intro d aj
     rw[I.sG]at aj
     obtain⟨bp,ha,rfl⟩:=List.mem_map.1 aj
     rw[I.AO];exact bK _ ha
 | .an sz xs,cs,S,b1,h=>by
   rw[I.share,ax]
   rw[ax]at h
   rcases h with⟨rfl,a,rfl⟩|⟨b,cap,cur,e,fr,aR,h1,ah,aC,a8,bK,cU,cJ,fw,hR,h3,lf⟩
   ·exact .inl ⟨rfl,a,0,rfl,Nat.zero_le _,fun _=>rfl⟩
   ·refine .inr ⟨b,0,cap,_,sz,?_,b1 _ ah,?_,cU,?_,u5 aC _,bc.shared bI xs _ _ (fun c aq=>b1 _ (h3 _ aq)) hR⟩
    ·simpa [I.sG]using h1
    ·simpa [I.sG]using bK
    ·intro d aj
     rw[I.sG]at aj
     obtain⟨bp,ha,rfl⟩:=List.mem_map.1 aj
     rw[I.AO];exact fw _ ha
 | .ref d,cs,S,b1,h=>by
   rw[I.share,ax]
   rw[ax]at h
   obtain⟨b,o,eR,h1,ah,aC,a8⟩:=h
   exact⟨b,o,eR,h1,bI _ ah,aC,ax.shared bI d _ _ (fun _ h=>h.elim) a8⟩
 | .bd d,cs,S,b1,h=>by
   rw[I.share,ax]
   rw[ax]at h
   obtain⟨b,cur,e,fr,aR,h1,ah,aC,a8,bK,cU,cJ⟩:=h
   refine⟨b,0,cur.toList,h1,b1 _ ah,?_,ax.shared bI d _ _ (fun c aq=>b1 _ (cU _ aq)) bK⟩
   have:=u5 aC cur.toList.length
   rwa [List.take_length]at this
 | .agg ay,cs,S,b1,h=>by rw[I.share,ax];rw[ax]at h;exact bc.shared bI ay _ _ b1 h
 | .tuple ay,cs,S,b1,h=>by rw[I.share,ax];rw[ax]at h;exact bc.shared bI ay _ _ b1 h
 | .fn f caps,cs,S,b1,h=>by
   show ax w b2 (.fn f caps) cs _
   rw[ax]at h⊢
   obtain⟨arr,h1,ah,aC⟩:=h
   exact⟨arr,h1,ah,bc.mono bI caps _ _ _ (fun _ h=>h) aC⟩
 | .h _ _,_,_,_,h=>h
 | .au _ _,_,_,_,h=>h
 | .ae _ _,_,_,_,h=>h
 | .en _,cs,S,b1,h=>by rw[ax]at h;rw[I.share,ax];exact lY.one h
theorem bc.shared {w:World} {F b2:Nat→Prop} (bI:∀b,F b→b2 b):
  ∀(ds:List I) (cs:List Value) (S:Nat→Prop),(∀b,S b→b2 b)→bc w F ds cs S→bc w b2 (I.shares ds) cs (fun _=>False)
 |[],_,_,_,h=>h
 |d::ds,cs,S,b1,h=>by
  simp only[I.shares]
  rw[bc]at h⊢
  obtain⟨cB,cu,cq,dU,h1,ah,aC,a8,bK,cU⟩:=h
  exact⟨cB,cu,_,_,h1,ax.shared bI d _ _ (fun b ae=>b1 _ (a8 _ ae)) ah,bc.shared bI ds _ _ (fun b ae=>b1 _ (bK _ ae)) aC,fun _ h=>h,fun _ h=>h,fun _ h=>h.elim⟩
end
def I.sub:List Nat→I→Option I
 |[],d=>some d
 |k::q,.agg ay=>match ay[k]? with
  |some d=>I.sub q d
  |none=>none
 |k::q,.tuple ay=>match ay[k]? with
  |some d=>I.sub q d
  |none=>none
 |i::q,.an _ xs=>match xs[i]? with
  |some d=>I.sub q d
  |none=>none
 |0::q,.bd d=>I.sub q d
 |_::_,_=>none
def I.put:List Nat→I→I→I
 |[],n,_=>n
 |k::q,n,.agg ay=>match ay[k]? with
  |some d=>.agg (ay.set k (I.put q n d))
  |none=>.agg ay
 |k::q,n,.tuple ay=>match ay[k]? with
  |some d=>.tuple (ay.set k (I.put q n d))
  |none=>.tuple ay
 |i::q,n,.an sz xs=>match xs[i]? with
  |some d=>.an sz (xs.set i (I.put q n d))
  |none=>.an sz xs
 |0::q,n,.bd d=>.bd (I.put q n d)
 |_::_,_,d=>d
def nx (w:World) (b o n:Nat):List Value:=(List.range n).map fun j=>(w.cell? ⟨b,o+j,none⟩).getD undef
theorem Rd.nx {w:World} {b o:Nat} {cs:List Value} (h:Rd w b o cs):nx w b o cs.length=cs:=by
 unfold cZ.nx
 apply List.ext_getElem?
 intro i
 rw[List.getElem?_map]
 by_cases ao:i<cs.length
 ·have:cs[i]? =some cs[i]:=List.getElem?_eq_getElem ao
  simp[ao,h i _ this]
 ·simp[ao]
def dB (w:World):List Nat→I→List Value→Option (Nat×Nat)→Option (I×List Value×Option (Nat×Nat))
 |[],d,cs,a=>some (d,cs,a)
 |k::q,.agg ay,cs,a=>match ay[k]? with
  |some d=>dB w q d ((cs.drop (I.eC (ay.take k))).take d.wd) (a.map fun l=>(l.1,l.2+I.eC (ay.take k)))
  |none=>none
 |k::q,.tuple ay,cs,a=>match ay[k]? with
  |some d=>dB w q d ((cs.drop (I.eC (ay.take k))).take d.wd) (a.map fun l=>(l.1,l.2+I.eC (ay.take k)))
  |none=>none
 |i::q,.an sz xs,cs,_=>match xs[i]?,cs with
  |some d,[.slice (some ⟨b,_,_⟩) _ _]=>dB w q d (nx w b (i*sz) sz) (some (b,i*sz))
  |_,_=>none
 |0::q,.bd d,cs,_=>match cs with
  |[.pointer (some ⟨b,_,_⟩)]=>dB w q d (nx w b 0 d.wd) (some (b,0))
  |_=>none
 |_::_,_,_,_=>none
theorem sH (cB gn cu:List Value) (n m:Nat) (h1:cB.length=n) (ah:gn.length=m):((cB++(gn++cu)).drop n).take m=gn:=by
 rw[List.drop_left' h1,List.take_left' ah]
theorem bc.pick {w:World} {F:Nat→Prop}:∀(ds:List I) (cs:List Value) (S:Nat→Prop) (k:Nat) (d:I),
  bc w F ds cs S→ds[k]? =some d→∃(cB gn cu:List Value) (cq ic:Nat→Prop),cs=cB++(gn++cu)∧cB.length=I.eC (ds.take k)∧
   (∀b,cq b→S b)∧(∀b,ic b→S b)∧(∀b,cq b→¬ic b)∧ax w F d gn ic∧
   ∀(aG:World) (bp:I) (sI:List Value) (aR:Nat→Prop),(∀b,F b→aG.heap[b]? =w.heap[b]?)→(∀b,cq b→aG.heap[b]? =w.heap[b]?)→
    ax aG F bp sI aR→(∀b,aR b→¬cq b)→bc aG F (ds.set k bp) (cB++(sI++cu)) (fun b=>cq b∨aR b)
 |[],_,_,_,_,_,hk=>by simp at hk
 |x::ds,cs,S,0,d,h,hk=>by
  rw[bc]at h
  obtain⟨cB,cu,h4,hn,rfl,h1,ah,cE,ae,mm⟩:=h
  simp at hk;subst hk
  refine⟨[],cB,cu,hn,h4,rfl,rfl,ae,cE,fun b ae cE=>mm _ cE ae,h1,?_⟩
  intro aG bp sI aR bI b1 aj jF
  simp only[List.set_cons_zero,List.nil_append]
  rw[bc]
  exact⟨sI,cu,aR,hn,rfl,aj,bc.frame bI _ _ _ b1 ah,fun b h=>.inr h,fun b h=>.inl h,fun b h=>jF b h⟩
 |x::ds,cs,S,k+1,d,h,hk=>by
  rw[bc]at h
  obtain⟨ny,Rr,h4,hn,rfl,h1,ah,cE,ae,mm⟩:=h
  simp only[List.getElem?_cons_succ]at hk
  have hl:=ax.length _ _ _ h1
  obtain⟨cB,gn,cu,cq,ic,rfl,i0,ry,i2,i3,i5,EW⟩:=bc.pick ds Rr hn k d ah hk
  refine⟨ny++cB,gn,cu,fun b=>h4 b∨cq b,ic,by simp,by simp[I.eC,hl,i0],?_,fun b h=>ae _ (i2 _ h),?_,i5,?_⟩
  ·rintro b (h|h)
   ·exact cE _ h
   ·exact ae _ (ry _ h)
  ·rintro b (h|h) hk
   ·exact mm _ h (i2 _ hk)
   ·exact i3 _ h hk
  ·intro aG bp sI aR bI b1 aj jF
   simp only[List.set_cons_succ]
   rw[bc]
   refine⟨ny,cB++(sI++cu),h4,fun b=>cq b∨aR b,by simp,ax.frame bI _ _ _ (fun b ae=>b1 b (.inl ae)) h1,
    EW aG bp sI aR bI (fun b ae=>b1 b (.inr ae)) aj (fun b ae aq=>jF b ae (.inr aq)),fun b h=>.inl (.inl h),?_,?_⟩
   ·rintro b (h|h)
    ·exact .inl (.inr h)
    ·exact .inr h
   ·rintro b h (bL|bL)
    ·exact mm _ h (ry _ bL)
    ·exact jF _ bL (.inl h)
theorem EX:∀(ay:List I) (k:Nat) (x y:I),ay[k]? =some x→y.wd=x.wd→I.eC (ay.set k y)=I.eC ay:=by
 intro ay
 induction ay with
 |nil=>intro k x y h;simp at h
 |cons a ay ih=>
  intro k x y h e
  cases k with
  |zero=>simp at h;subst h;simp[I.eC,e]
  |succ k=>simp at h;simp[I.eC,ih k x y h e]
theorem sJ {sz:Nat}:∀(xs:List I),(∀d∈xs,d.wd=sz)→I.eC xs=xs.length*sz
 |[],_=>by simp[I.eC]
 |x::xs,h=>by
  rw[I.eC,h x (by simp),sJ xs (fun d aj=>h d (by simp[aj])),List.length_cons,Nat.add_mul,Nat.one_mul,Nat.add_comm]
theorem I.u6:∀(q:List Nat) (av d bp:I),I.sub q av=some d→bp.wd=d.wd→(I.put q bp av).wd=av.wd:=by
 intro q
 induction q with
 |nil=>intro av d bp h e;simp[I.sub]at h;subst h;simpa [I.put]using e
 |cons k q ih=>
  intro av d bp h e
  cases av with
  |agg ay=>
   simp only[I.sub]at h
   split at h
   ·rename_i x aw
    simp only[I.put,aw,I.wd]
    exact EX _ _ _ _ aw (ih _ _ _ h e)
   ·cases h
  |tuple ay=>
   simp only[I.sub]at h
   split at h
   ·rename_i x aw
    simp only[I.put,aw,I.wd]
    exact EX _ _ _ _ aw (ih _ _ _ h e)
   ·cases h
  |an sz xs=>
   simp only[I.sub]at h
   split at h
   ·rename_i x aw
    simp only[I.put,aw,I.wd]
   ·cases h
  |bd x=>
   cases k with
   |zero=>simp only[I.put,I.wd]
   |succ k=>simp[I.sub]at h
  |_=>simp[I.sub]at h
theorem EY {sz:Nat} {xs:List I} {i:Nat} {y:I} (h:∀d∈xs,d.wd=sz) (bt:y.wd=sz):∀d∈xs.set i y,d.wd=sz:=by
 intro d aj
 rcases List.mem_or_eq_of_mem_set aj with aj|rfl
 ·exact h d aj
 ·exact bt
theorem u7 {w:World} {b:Nat} {cur:Array Value} {e:TypeId} {fr:Nat×Nat} (h:w.heap[b]? =some (.cells cur e fr)) {l m r:List Value} (aq:cur.toList=l++(m++r)):
  nx w b l.length m.length=m:=by
 refine Rd.nx (fun j c b_=> ?_)
 have e7:j<m.length:=(List.getElem?_eq_some_iff.1 b_).1
 have:cur.toList[l.length+j]? =some c:=by
  rw[aq,List.getElem?_append_right (by omega),List.getElem?_append_left (by omega)]
  rw[←b_];congr 1;omega
 simp[World.cell?,h]
 simpa using this
def Flat (w:World) (F:Nat→Prop) (q:List Nat) (av:I) (cs:List Value) (a:Option (Nat×Nat)) (d:I) (c3:List Value) (c4:Option (Nat×Nat)) (eF:Nat→Prop):Prop:=
 ∃l r:List Value,cs=l++(c3++r)∧c4=a.map (fun x=>(x.1,x.2+l.length))∧
  ∀(aG:World) (bp:I) (gp:List Value) (aR:Nat→Prop),(∀b,F b→aG.heap[b]? =w.heap[b]?)→(∀b,eF b→aG.heap[b]? =w.heap[b]?)→
   bp.wd=d.wd→ax aG F bp gp aR→(∀b,aR b→¬eF b)→ax aG F (I.put q bp av) (l++(gp++r)) (fun b=>eF b∨aR b)
def Deep (w:World) (F:Nat→Prop) (q:List Nat) (av:I) (cs:List Value) (d:I) (c3:List Value) (c4:Option (Nat×Nat)) (eF:Nat→Prop):Prop:=
 ∃(b:Nat) (cur:Array Value) (e:TypeId) (fr:Nat×Nat) (l r:List Value),c4=some (b,l.length)∧eF b∧w.heap[b]? =some (.cells cur e fr)∧oV fr cur.size∧cur.toList=l++(c3++r)∧
  ∀(aG:World) (bp:I) (gp:List Value) (aR:Nat→Prop),(∀b,F b→aG.heap[b]? =w.heap[b]?)→(∀c,eF c→c≠b→aG.heap[c]? =w.heap[c]?)→
   aG.heap[b]? =some (.cells (l++(gp++r)).toArray e fr)→
   bp.wd=d.wd→ax aG F bp gp aR→(∀b,aR b→¬eF b)→ax aG F (I.put q bp av) cs (fun b=>eF b∨aR b)
theorem ctx {w:World} {F:Nat→Prop}:∀(q:List Nat) (av:I) (cs:List Value) (S:Nat→Prop) (a:Option (Nat×Nat)) (d:I),
  ax w F av cs S→I.sub q av=some d→∃(c3:List Value) (c4:Option (Nat×Nat)) (eF fE:Nat→Prop),dB w q av cs a=some (d,c3,c4)∧
   (∀b,eF b→S b)∧(∀b,fE b→S b)∧(∀b,eF b→¬fE b)∧ax w F d c3 fE∧(Flat w F q av cs a d c3 c4 eF∨Deep w F q av cs d c3 c4 eF):=by
 intro q
 induction q with
 |nil=>
  intro av cs S a d h aj
  simp[I.sub]at aj;subst aj
  refine⟨cs,a,fun _=>False,S,rfl,fun _ h=>h.elim,fun _ h=>h,fun _ h=>h.elim,h,.inl ⟨[],[],by simp,?_,?_⟩⟩
  ·cases a<;>simp
  ·intro aG bp gp aR _ _ hw ha _
   simp only[I.put,List.nil_append,List.append_nil]
   exact ax.mono (fun _ h=>h) _ _ _ _ (fun b h=>.inr h) ha
 |cons k q ih=>
  have fields:∀(mk:List I→I) (EZ:∀(w:World) (F:Nat→Prop) (ay:List I) (cs:List Value) (S:Nat→Prop),ax w F (mk ay) cs S=bc w F ay cs S) (ay:List I) (cs:List Value) (S:Nat→Prop) (a:Option (Nat×Nat)) (x d:I),
    (j0:∀bp,I.put (k::q) bp (mk ay)=mk (ay.set k (I.put q bp x)))→bc w F ay cs S→ay[k]? =some x→I.sub q x=some d→
    ∃(c3:List Value) (c4:Option (Nat×Nat)) (eF fE:Nat→Prop),dB w q x ((cs.drop (I.eC (ay.take k))).take x.wd) (a.map fun l=>(l.1,l.2+I.eC (ay.take k)))=some (d,c3,c4)∧
    (∀b,eF b→S b)∧(∀b,fE b→S b)∧(∀b,eF b→¬fE b)∧ax w F d c3 fE∧(Flat w F (k::q) (mk ay) cs a d c3 c4 eF∨Deep w F (k::q) (mk ay) cs d c3 c4 eF):=by
   intro mk EZ ay cs S a x d j0 h aw aj
   obtain⟨cB,gn,cu,cq,ic,rfl,h5,fQ,hC,ie,gD,mn⟩:=bc.pick ay cs S k x h aw
   have hl:=ax.length _ _ _ gD
   rw[sH cB gn cu _ _ h5 hl]
   obtain⟨c3,c4,eF,fE,g0,g1,g2,g3,g4,g5⟩:=ih x _ ic (a.map fun l=>(l.1,l.2+I.eC (ay.take k))) d gD aj
   refine⟨c3,c4,fun b=>cq b∨eF b,fE,g0,?_,fun b ae=>hC _ (g2 _ ae),?_,g4,?_⟩
   ·rintro b (h|h)
    ·exact fQ _ h
    ·exact hC _ (g1 _ h)
   ·rintro b (h|h) aj
    ·exact ie _ h (g2 _ aj)
    ·exact g3 _ h aj
   ·have fy:∀(b:Nat) (aR:Nat→Prop),(cq b∨eF b∨aR b)→((cq b∨eF b)∨aR b):=by
     rintro b aR (ae|ae|ae)
     ·exact .inl (.inl ae)
     ·exact .inl (.inr ae)
     ·exact .inr ae
    rcases g5 with⟨l,r,rfl,aZ,aQ⟩|⟨b,cur,e,fr,l,r,aS,aZ,aQ,cF,cR,ch⟩
    ·refine .inl ⟨cB++l,r++cu,by simp,?_,?_⟩
     ·rw[aZ,←h5];cases a<;>simp[Nat.add_assoc]
     ·intro aG bp gp aR bI b1 hw ha jF
      have dw:=aQ aG bp gp aR bI (fun b ae=>b1 b (.inr ae)) hw ha (fun b ae aq=>jF b ae (.inr aq))
      have bg:=mn aG _ _ _ bI (fun b ae=>b1 b (.inl ae)) dw (by
       rintro b (ae|ae) h1
       ·exact ie _ h1 (g1 _ ae)
       ·exact jF _ ae (.inl h1))
      rw[j0,EZ]
      have:=bc.mono (fun _ h=>h) _ _ _ _ (fun b=>fy b aR) bg
      simpa using this
    ·refine .inr ⟨b,cur,e,fr,l,r,aS,.inr aZ,aQ,cF,cR,?_⟩
     intro aG bp gp aR bI b1 lB hw ha jF
     have dw:=ch aG bp gp aR bI (fun c aq=>b1 c (.inr aq)) lB hw ha (fun b ae aq=>jF b ae (.inr aq))
     have bg:=mn aG _ _ _ bI (fun c aq=>b1 c (.inl aq) (by rintro rfl;exact ie _ aq (g1 _ aZ))) dw (by
       rintro b (ae|ae) h1
       ·exact ie _ h1 (g1 _ ae)
       ·exact jF _ ae (.inl h1))
     rw[j0,EZ]
     exact bc.mono (fun _ h=>h) _ _ _ _ (fun b=>fy b aR) bg
  intro av cs S a d h aj
  cases av with
  |agg ay=>
   simp only[I.sub]at aj
   split at aj
   ·rename_i x aw
    rw[ax]at h
    have:=fields .agg (fun _ _ _ _ _=>by rw[ax]) ay cs S a x d (fun bp=>by simp only[I.put,aw]) h aw aj
    simpa only[dB,aw]using this
   ·cases aj
  |tuple ay=>
   simp only[I.sub]at aj
   split at aj
   ·rename_i x aw
    rw[ax]at h
    have:=fields .tuple (fun _ _ _ _ _=>by rw[ax]) ay cs S a x d (fun bp=>by simp only[I.put,aw]) h aw aj
    simpa only[dB,aw]using this
   ·cases aj
  |an sz xs=>
   simp only[I.sub]at aj
   split at aj
   ·rename_i x aw
    rw[ax]at h
    rcases h with⟨rfl,_,rfl⟩|⟨b,cap,cur,e,fr,dZ,rfl,ah,aC,a8,bK,cU,cJ,fw,hR,h3,lf⟩
    ·simp at aw
    ·obtain⟨cB,gn,cu,cq,ic,p,h5,fQ,hC,ie,gD,mn⟩:=bc.pick xs _ dZ k x hR aw
     have hl:=ax.length _ _ _ gD
     have Rs:k<xs.length:=(List.getElem?_eq_some_iff.1 aw).1
     have xr:x.wd=sz:=fw x (List.mem_of_getElem? aw)
     have cr:I.eC (xs.take k)=k*sz:=by
      rw[sJ _ (fun d aj=>fw d (List.mem_of_mem_take aj))]
      rw[List.length_take,Nat.min_eq_left (by omega)]
     obtain⟨qD,lC⟩:∃qD,cur.toList=cB++(gn++(cu++qD)):=by
      refine⟨cur.toList.drop (xs.length*sz),?_⟩
      have:=(List.take_append_drop (xs.length*sz) cur.toList).symm
      rw[p]at this
      simpa using this
     have kg:nx w b (k*sz) sz=gn:=by
      have:=u7 aC lC
      rwa [h5,cr,hl,xr]at this
     obtain⟨c3,c4,eF,fE,g0,g1,g2,g3,g4,g5⟩:=ih x _ ic (some (b,k*sz)) d gD aj
     have j0:∀bp,I.put (k::q) bp (.an sz xs)= .an sz (xs.set k (I.put q bp x)):=fun bp=>by simp only[I.put,aw]
     refine⟨c3,c4,fun c=>c=b∨cq c∨eF c,fE,?_,?_,fun c aq=>h3 _ (hC _ (g2 _ aq)),?_,g4,.inr ?_⟩
     ·simp only[dB,aw,kg];exact g0
     ·rintro c (rfl|h|h)
      ·exact ah
      ·exact h3 _ (fQ _ h)
      ·exact h3 _ (hC _ (g1 _ h))
     ·rintro c (rfl|h|h) aj
      ·exact lf (hC _ (g2 _ aj))
      ·exact ie _ h (g2 _ aj)
      ·exact g3 _ h aj
     ·have kQ:∀bp,bp.wd=d.wd→(I.put q bp x).wd=sz:=fun bp hw=>(I.u6 q x d bp aj hw).trans xr
      rcases g5 with⟨l,r,rfl,aZ,aQ⟩|⟨fZ,E0,gE,E1,l,r,aS,aZ,aQ,cF,cR,ch⟩
      ·refine⟨b,cur,e,fr,cB++l,r++(cu++qD),?_,.inl rfl,aC,a8,?_,?_⟩
       ·rw[aZ];simp[h5,cr]
       ·rw[lC];simp
       ·intro aG bp gp aR bI b1 lB hw ha jF
        have dw:=aQ aG bp gp aR bI (fun c aq=>b1 c (.inr (.inr aq)) (by rintro rfl;exact lf (hC _ (g1 _ aq)))) hw ha (fun b ae aq=>jF b ae (.inr (.inr aq)))
        have bg:=mn aG _ _ _ bI (fun c aq=>b1 c (.inr (.inl aq)) (by rintro rfl;exact lf (fQ _ aq))) dw (by
         rintro b (ae|ae) h1
         ·exact ie _ h1 (g1 _ ae)
         ·exact jF _ ae (.inr (.inl h1)))
        have xt:=ax.length _ _ _ ha
        have xu:=ax.length _ _ _ g4
        rw[j0,ax]
        refine .inr ⟨b,cap,_,e,fr,fun b=>cq b∨eF b∨aR b,by simp,.inl (.inl rfl),lB,?_,by simpa using bK,cU,?_,EY fw (kQ bp hw),?_,?_,?_⟩
        ·have:(cB++l++(gp++(r++(cu++qD)))).toArray.size=cur.size:=by
          have:cur.size=cur.toList.length:=by simp
          rw[this,lC];simp[xt,xu,hw]
         rw[this];exact a8
        ·rw[←cJ]
         have:cur.size=cur.toList.length:=by simp
         rw[this,lC];simp[xt,xu,hw]
        ·have hlen:(cB++(l++(gp++r)++cu)).length=xs.length*sz:=by
          have:=congrArg List.length p
          rw[List.length_take,Nat.min_eq_left (by simp[cJ];exact Nat.mul_le_mul_right _ bK)]at this
          rw[this];simp[xt,xu,hw]
         have:(cB++l++(gp++(r++(cu++qD))))=(cB++(l++(gp++r)++cu))++qD:=by simp
         rw[List.length_set]
         simp only[this]
         rw[List.take_left' hlen]
         exact bg
        ·rintro c (h|h|h)
         ·exact .inl (.inr (.inl h))
         ·exact .inl (.inr (.inr h))
         ·exact .inr h
        ·rintro(h|h|h)
         ·exact lf (fQ _ h)
         ·exact lf (hC _ (g1 _ h))
         ·exact jF _ h (.inl rfl)
      ·refine⟨fZ,E0,gE,E1,l,r,aS,.inr (.inr aZ),aQ,cF,cR,?_⟩
       intro aG bp gp aR bI b1 lB hw ha jF
       have dw:=ch aG bp gp aR bI (fun c aq df=>b1 c (.inr (.inr aq)) df) lB hw ha (fun b ae aq=>jF b ae (.inr (.inr aq)))
       have df:∀c,cq c→c≠fZ:=by rintro c aq rfl;exact ie _ aq (g1 _ aZ)
       have bg:=mn aG _ _ _ bI (fun c aq=>b1 c (.inr (.inl aq)) (df c aq)) dw (by
        rintro b (ae|ae) h1
        ·exact ie _ h1 (g1 _ ae)
        ·exact jF _ ae (.inr (.inl h1)))
       have E2:b≠fZ:=by rintro rfl;exact lf (hC _ (g1 _ aZ))
       rw[j0,ax]
       refine .inr ⟨b,cap,cur,e,fr,fun b=>cq b∨eF b∨aR b,by simp,.inl (.inl rfl),(b1 b (.inl rfl) E2).trans aC,a8,by simpa using bK,cU,cJ,EY fw (kQ bp hw),?_,?_,?_⟩
       ·rw[List.length_set,p];exact bg
       ·rintro c (h|h|h)
        ·exact .inl (.inr (.inl h))
        ·exact .inl (.inr (.inr h))
        ·exact .inr h
       ·rintro(h|h|h)
        ·exact lf (fQ _ h)
        ·exact lf (hC _ (g1 _ h))
        ·exact jF _ h (.inl rfl)
   ·cases aj
  |bd x=>
   cases k with
   |succ k=>simp[I.sub]at aj
   |zero=>
    simp only[I.sub]at aj
    rw[ax]at h
    obtain⟨b,cur,e,fr,dZ,rfl,ah,aC,a8,bK,cU,cJ⟩:=h
    have hl:=ax.length _ _ _ bK
    have kg:nx w b 0 x.wd=cur.toList:=by
     have:=u7 (l:=[]) (m:=cur.toList) (r:=[]) aC (by simp)
     rwa [hl]at this
    obtain⟨c3,c4,eF,fE,g0,g1,g2,g3,g4,g5⟩:=ih x _ dZ (some (b,0)) d bK aj
    have j0:∀bp,I.put (0::q) bp (.bd x)= .bd (I.put q bp x):=fun bp=>rfl
    refine⟨c3,c4,fun c=>c=b∨eF c,fE,?_,?_,fun c aq=>cU _ (g2 _ aq),?_,g4,.inr ?_⟩
    ·simp only[dB,kg];exact g0
    ·rintro c (rfl|h)
     ·exact ah
     ·exact cU _ (g1 _ h)
    ·rintro c (rfl|h) aj
     ·exact cJ (g2 _ aj)
     ·exact g3 _ h aj
    ·rcases g5 with⟨l,r,aS,aZ,aQ⟩|⟨fZ,E0,gE,E1,l,r,aS,aZ,aQ,cF,cR,ch⟩
     ·refine⟨b,cur,e,fr,l,r,?_,.inl rfl,aC,a8,aS,?_⟩
      ·rw[aZ];simp
      ·intro aG bp gp aR bI b1 lB hw ha jF
       have dw:=aQ aG bp gp aR bI (fun c aq=>b1 c (.inr aq) (by rintro rfl;exact cJ (g1 _ aq))) hw ha (fun b ae aq=>jF b ae (.inr aq))
       have xt:=ax.length _ _ _ ha
       have xu:=ax.length _ _ _ g4
       rw[j0,ax]
       refine⟨b,_,e,fr,fun b=>eF b∨aR b,rfl,.inl (.inl rfl),lB,?_,dw,?_,?_⟩
       ·have:(l++(gp++r)).toArray.size=cur.size:=by
         have:cur.size=cur.toList.length:=by simp
         rw[this,aS];simp[xt,xu,hw]
        rw[this];exact a8
       ·rintro c (h|h)
        ·exact .inl (.inr h)
        ·exact .inr h
       ·rintro(h|h)
        ·exact cJ (g1 _ h)
        ·exact jF _ h (.inl rfl)
     ·refine⟨fZ,E0,gE,E1,l,r,aS,.inr aZ,aQ,cF,cR,?_⟩
      intro aG bp gp aR bI b1 lB hw ha jF
      have dw:=ch aG bp gp aR bI (fun c aq df=>b1 c (.inr aq) df) lB hw ha (fun b ae aq=>jF b ae (.inr aq))
      have E2:b≠fZ:=by rintro rfl;exact cJ (g1 _ aZ)
      rw[j0,ax]
      refine⟨b,cur,e,fr,fun b=>eF b∨aR b,rfl,.inl (.inl rfl),(b1 b (.inl rfl) E2).trans aC,a8,dw,?_,?_⟩
      ·rintro c (h|h)
       ·exact .inl (.inr h)
       ·exact .inr h
      ·rintro(h|h)
       ·exact cJ (g1 _ h)
       ·exact jF _ h (.inl rfl)
  |_=>simp[I.sub]at aj
mutual
def I.plain:I→Bool
 | .an _ _=>false
 | .bd _=>false
 | .en _=>false
 | .agg ay=>I.dX ay
 | .tuple ay=>I.dX ay
 |_=>true
def I.dX:List I→Bool
 |[]=>true
 |d::ds=>d.plain&&I.dX ds
end
mutual
def I.dq:I→I
 | .an _ _=>.hole
 | .bd _=>.hole
 | .en _=>.hole
 | .agg ay=>.agg (I.lD ay)
 | .tuple ay=>.tuple (I.lD ay)
 |d=>d
def I.lD:List I→List I
 |[]=>[]
 |d::ds=>d.dq::I.lD ds
end
mutual
theorem I.rz:∀d:I,d.dq.wd=d.wd
 | .hole=>rfl
 | .bool _=>rfl
 | .fb=>rfl
 | .int _ _=>rfl
 | .str _=>rfl
 | .dI=>rfl
 | .bk=>rfl
 | .slice _=>rfl
 | .an _ _=>rfl
 | .ref _=>rfl
 | .bd _=>rfl
 | .agg ay=>by simp only[I.dq,I.wd];exact I.E3 ay
 | .tuple ay=>by simp only[I.dq,I.wd];exact I.E3 ay
 | .fn _ _=>rfl
 | .h _ _=>rfl
 | .au _ _=>rfl
 | .ae _ _=>rfl
 | .en _=>rfl
theorem I.E3:∀ds:List I,I.eC (I.lD ds)=I.eC ds
 |[]=>rfl
 |d::ds=>by simp only[I.lD,I.eC];rw[I.rz d,I.E3 ds]
end
mutual
theorem ax.dq {w:World} {F:Nat→Prop}:∀(d:I) (cs:List Value) (S aR:Nat→Prop),ax w F d cs S→ax w F d.dq cs aR
 | .hole,_,_,_,h=>h
 | .bool _,_,_,_,h=>h
 | .fb,_,_,_,h=>h
 | .int _ _,_,_,_,h=>h
 | .str _,_,_,_,h=>h
 | .dI,_,_,_,h=>h
 | .bk,_,_,_,h=>h
 | .slice xs,cs,S,aR,h=>by
   show ax w F (.slice xs) cs aR
   rw[ax]at h⊢;exact h
 | .an sz xs,cs,S,aR,h=>by
   rw[I.dq,ax]
   rw[ax]at h
   rcases h with⟨_,_,rfl⟩|⟨b,cap,cur,e,fr,dZ,rfl,_⟩
   ·exact⟨_,rfl,rfl⟩
   ·exact⟨_,rfl,rfl⟩
 | .ref d,cs,S,aR,h=>by
   show ax w F (.ref d) cs aR
   rw[ax]at h⊢;exact h
 | .bd d,cs,S,aR,h=>by
   rw[I.dq,ax]
   rw[ax]at h
   obtain⟨b,cur,e,fr,dZ,rfl,_⟩:=h
   exact⟨_,rfl,rfl⟩
 | .agg ay,cs,S,aR,h=>by rw[I.dq,ax];rw[ax]at h;exact bc.dq ay _ _ _ h
 | .tuple ay,cs,S,aR,h=>by rw[I.dq,ax];rw[ax]at h;exact bc.dq ay _ _ _ h
 | .fn _ _,_,_,_,h=>h
 | .h _ _,_,_,_,h=>h
 | .au _ _,_,_,_,h=>h
 | .ae _ _,_,_,_,h=>h
 | .en _,_,_,_,h=>by rw[ax]at h;rw[I.dq,ax];exact lY.one h
theorem bc.dq {w:World} {F:Nat→Prop}:∀(ds:List I) (cs:List Value) (S aR:Nat→Prop),bc w F ds cs S→bc w F (I.lD ds) cs aR
 |[],_,_,_,h=>h
 |d::ds,cs,S,aR,h=>by
  rw[I.lD,bc]
  rw[bc]at h
  obtain⟨cB,cu,cq,dU,h1,ah,aC,a8,bK,cU⟩:=h
  exact⟨cB,cu,fun _=>False,fun _=>False,h1,ax.dq d _ _ _ ah,bc.dq ds _ _ _ aC,fun _ h=>h.elim,fun _ h=>h.elim,fun _ h=>h.elim⟩
end
mutual
theorem ax.plain {w:World} {F:Nat→Prop}:∀(d:I) (cs:List Value) (S aR:Nat→Prop),d.plain=true→ax w F d cs S→ax w F d cs aR
 | .hole,_,_,_,_,h=>h
 | .bool _,_,_,_,_,h=>h
 | .fb,_,_,_,_,h=>h
 | .int _ _,_,_,_,_,h=>h
 | .str _,_,_,_,_,h=>h
 | .dI,_,_,_,_,h=>h
 | .bk,_,_,_,_,h=>h
 | .slice xs,cs,S,aR,_,h=>by rw[ax]at h⊢;exact h
 | .an sz xs,cs,S,aR,au,h=>by simp[I.plain]at au
 | .ref d,cs,S,aR,_,h=>by rw[ax]at h⊢;exact h
 | .bd d,cs,S,aR,au,h=>by simp[I.plain]at au
 | .agg ay,cs,S,aR,au,h=>by rw[ax]at h⊢;exact bc.plain ay _ _ _ au h
 | .tuple ay,cs,S,aR,au,h=>by rw[ax]at h⊢;exact bc.plain ay _ _ _ au h
 | .fn _ _,_,_,_,_,h=>h
 | .h _ _,_,_,_,_,h=>h
 | .au _ _,_,_,_,_,h=>h
 | .ae _ _,_,_,_,_,h=>h
 | .en _,_,_,_,au,_=>by simp[I.plain]at au
theorem bc.plain {w:World} {F:Nat→Prop}:∀(ds:List I) (cs:List Value) (S aR:Nat→Prop),I.dX ds=true→bc w F ds cs S→bc w F ds cs aR
 |[],_,_,_,_,h=>h
 |d::ds,cs,S,aR,au,h=>by
  rw[bc]at h⊢
  simp only[I.dX,Bool.and_eq_true]at au
  obtain⟨cB,cu,cq,dU,h1,ah,aC,a8,bK,cU⟩:=h
  exact⟨cB,cu,fun _=>False,fun _=>False,h1,ax.plain d _ _ _ au.1 ah,bc.plain ds _ _ _ au.2 aC,fun _ h=>h.elim,fun _ h=>h.elim,fun _ h=>h.elim⟩
end
def I.fU:List Nat→I→Bool
 |[],_=>false
 |k::q,.agg ay=>match ay[k]? with
  |some d=>I.fU q d
  |none=>false
 |k::q,.tuple ay=>match ay[k]? with
  |some d=>I.fU q d
  |none=>false
 |_::_,.an _ _=>true
 |_::_,.bd _=>true
 |_::_,_=>false
theorem AP {ay:List I} (h:I.dX ay=true) {k:Nat} {d:I} (hk:ay[k]? =some d):d.plain=true:=by
 induction ay generalizing k with
 |nil=>simp at hk
 |cons a ay ih=>
  simp only[I.dX,Bool.and_eq_true]at h
  cases k with
  |zero=>simp at hk;subst hk;exact h.1
  |succ k=>simp at hk;exact ih h.2 hk
theorem I.Jf:∀(q:List Nat) (d:I),d.plain=true→I.fU q d=false:=by
 intro q
 induction q with
 |nil=>intros;rfl
 |cons k q ih=>
  intro d aj
  cases d<;>first|rfl|(simp[I.plain]at aj;done)|skip
  all_goals
   simp only[I.fU]
   split
   ·rename_i ay x aw;exact ih _ (AP (by simpa [I.plain]using aj) aw)
   ·rfl
theorem I.E4:∀(q:List Nat) (d e:I),d.plain=true→I.sub q d=some e→e.plain=true:=by
 intro q
 induction q with
 |nil=>intro d e aj h;simp[I.sub]at h;exact h▸aj
 |cons k q ih=>
  intro d e aj h
  cases d<;>first|(simp[I.plain]at aj;done)|(simp[I.sub]at h;done)|skip
  all_goals
   simp only[I.sub]at h
   split at h
   ·rename_i ay x aw;exact ih _ _ (AP (by simpa [I.plain]using aj) aw) h
   ·cases h
theorem AQ {w aG:World} {F:Nat→Prop}:∀(q:List Nat) (av:I) (cs:List Value) (S:Nat→Prop) (a:Option (Nat×Nat)) (d:I),
  ax w F av cs S→I.sub q av=some d→(∀b,S b→aG.heap[b]? =w.heap[b]?)→dB aG q av cs a=dB w q av cs a:=by
 intro q
 induction q with
 |nil=>intros;rfl
 |cons k q ih=>
  have fields:∀(ay:List I) (cs:List Value) (S:Nat→Prop) (a:Option (Nat×Nat)) (x d:I),bc w F ay cs S→ay[k]? =some x→I.sub q x=some d→
    (∀b,S b→aG.heap[b]? =w.heap[b]?)→
    dB aG q x ((cs.drop (I.eC (ay.take k))).take x.wd) (a.map fun l=>(l.1,l.2+I.eC (ay.take k)))=dB w q x ((cs.drop (I.eC (ay.take k))).take x.wd) (a.map fun l=>(l.1,l.2+I.eC (ay.take k))):=by
   intro ay cs S a x d h aw aj b1
   obtain⟨cB,gn,cu,cq,ic,rfl,h5,fQ,hC,ie,gD,mn⟩:=bc.pick ay cs S k x h aw
   rw[sH cB gn cu _ _ h5 (ax.length _ _ _ gD)]
   exact ih x gn ic _ d gD aj (fun b ae=>b1 b (hC _ ae))
  intro av cs S a d h aj b1
  cases av with
  |agg ay=>
   simp only[I.sub]at aj
   split at aj
   ·rename_i x aw
    rw[ax]at h
    simp only[dB,aw]
    exact fields ay cs S a x d h aw aj b1
   ·cases aj
  |tuple ay=>
   simp only[I.sub]at aj
   split at aj
   ·rename_i x aw
    rw[ax]at h
    simp only[dB,aw]
    exact fields ay cs S a x d h aw aj b1
   ·cases aj
  |an sz xs=>
   simp only[I.sub]at aj
   split at aj
   ·rename_i x aw
    rw[ax]at h
    rcases h with⟨rfl,_,rfl⟩|⟨b,cap,cur,e,fr,dZ,rfl,ah,aC,a8,bK,cU,cJ,fw,hR,h3,lf⟩
    ·simp at aw
    ·obtain⟨cB,gn,cu,cq,ic,p,h5,fQ,hC,ie,gD,mn⟩:=bc.pick xs _ dZ k x hR aw
     have hl:=ax.length _ _ _ gD
     have Rs:k<xs.length:=(List.getElem?_eq_some_iff.1 aw).1
     have xr:x.wd=sz:=fw x (List.mem_of_getElem? aw)
     have cr:I.eC (xs.take k)=k*sz:=by
      rw[sJ _ (fun d aj=>fw d (List.mem_of_mem_take aj))]
      rw[List.length_take,Nat.min_eq_left (by omega)]
     obtain⟨qD,lC⟩:∃qD,cur.toList=cB++(gn++(cu++qD)):=by
      refine⟨cur.toList.drop (xs.length*sz),?_⟩
      have:=(List.take_append_drop (xs.length*sz) cur.toList).symm
      rw[p]at this
      simpa using this
     have kg:nx w b (k*sz) sz=gn:=by
      have:=u7 aC lC
      rwa [h5,cr,hl,xr]at this
     have E5:nx aG b (k*sz) sz=gn:=by
      have:=u7 ((b1 b ah).trans aC) lC
      rwa [h5,cr,hl,xr]at this
     simp only[dB,aw,kg,E5]
     exact ih x gn ic _ d gD aj (fun c aq=>b1 c (h3 _ (hC _ aq)))
   ·cases aj
  |bd x=>
   cases k with
   |succ k=>simp[I.sub]at aj
   |zero=>
    simp only[I.sub]at aj
    rw[ax]at h
    obtain⟨b,cur,e,fr,dZ,rfl,ah,aC,a8,bK,cU,cJ⟩:=h
    have hl:=ax.length _ _ _ bK
    have kg:nx w b 0 x.wd=cur.toList:=by
     have:=u7 (l:=[]) (m:=cur.toList) (r:=[]) aC (by simp)
     rwa [hl]at this
    have E5:nx aG b 0 x.wd=cur.toList:=by
     have:=u7 (l:=[]) (m:=cur.toList) (r:=[]) ((b1 b ah).trans aC) (by simp)
     rwa [hl]at this
    simp only[dB,kg,E5]
    exact ih x cur.toList dZ _ d bK aj (fun c aq=>b1 c (cU _ aq))
  |_=>simp[I.sub]at aj
def h6:Value→List Value
 | .agg cs=>cs.toList
 |v=>[v]
def cC:Value→List Value
 | .tuple vs=>vs.toList.flatMap h6
 |v=>h6 v
def iO:I→Value→Prop
 | .agg _,v=>∃arr,v= .agg arr
 |_,v=>Value.gC v=true
def ei:I→Value→Prop
 | .tuple ds,v=>∃arr:Array Value,v= .tuple arr∧arr.size=ds.length∧∀(k:Nat) (d:I) (x:Value),ds[k]? =some d→arr[k]? =some x→iO d x∧(∀vs,d≠.tuple vs)∧(h6 x).length=d.wd
 |d,v=>iO d v
abbrev ar:=Nat→I
mutual
def aL (w:World) (F:Nat→Prop) (s:ar) (aA:Nat→Value):I→Value→(Nat→Prop)→Prop
 | .hole,_,_=>True
 | .h x q,v,_=>∀d,I.sub q (s x)=some d→d.plain=false→∃c3 a,dB w q (s x) (cC (aA x)) none=some (d,c3,a)∧cC v=c3∧ei d v
 | .au x q,v,_=>∀d,I.sub q (s x)=some d→I.fU q (s x)=true→∃c3 b o,dB w q (s x) (cC (aA x)) none=some (d,c3,some (b,o))∧v= .pointer (some ⟨b,o,none⟩)
 | .ae x k,v,_=>(s x).plain=false→∃b cur e fr,v= .pointer (some ⟨b,k,none⟩)∧F b∧w.heap[b]? =some (.cells cur e fr)∧cur.toList=cC (aA x)
 | .fn f cap,v,_=>∃arr:Array Value,v= .func (.func f) #[] arr∧eA w F s aA cap arr.toList
 | .bool b,v,S=>ei (.bool b) v∧ax w F (.bool b) (cC v) S
 | .fb,v,S=>ei .fb v∧ax w F .fb (cC v) S
 | .int k n,v,S=>ei (.int k n) v∧ax w F (.int k n) (cC v) S
 | .str x,v,S=>ei (.str x) v∧ax w F (.str x) (cC v) S
 | .dI,v,S=>ei .dI v∧ax w F .dI (cC v) S
 | .bk,v,S=>ei .bk v∧ax w F .bk (cC v) S
 | .slice xs,v,S=>ei (.slice xs) v∧ax w F (.slice xs) (cC v) S
 | .an sz xs,v,S=>ei (.an sz xs) v∧ax w F (.an sz xs) (cC v) S
 | .ref d,v,S=>ei (.ref d) v∧ax w F (.ref d) (cC v) S
 | .bd d,v,S=>ei (.bd d) v∧ax w F (.bd d) (cC v) S
 | .agg d,v,S=>ei (.agg d) v∧ax w F (.agg d) (cC v) S
 | .tuple d,v,S=>ei (.tuple d) v∧ax w F (.tuple d) (cC v) S
 | .en o,v,S=>ei (.en o) v∧ax w F (.en o) (cC v) S
def eA (w:World) (F:Nat→Prop) (s:ar) (aA:Nat→Value):List I→List Value→Prop
 |[],vs=>vs=[]
 |d::ds,vs=>∃v j1,vs=v::j1∧aL w F s aA d v (fun _=>False)∧eA w F s aA ds j1
end
def I.tree:I→Bool
 | .hole=>false
 | .h _ _=>false
 | .au _ _=>false
 | .ae _ _=>false
 | .fn _ _=>false
 |_=>true
theorem aL.cV {w:World} {F:Nat→Prop} {s:ar} {aA:Nat→Value} {d:I} {v:Value} {S:Nat→Prop} (ba:d.tree=true):
  aL w F s aA d v S↔(ei d v∧ax w F d (cC v) S):=by
 cases d<;>first|(simp[I.tree]at ba;done)|rw[aL]
theorem ig {q:List Nat} {av d:I} (h:I.sub q av=some d) (au:d.plain=false∨I.fU q av=true):av.tree=true:=by
 cases q with
 |nil=>
  simp[I.sub]at h;subst h
  rcases au with au|au
  ·cases av<;>first|rfl|(simp[I.plain]at au)
  ·simp[I.fU]at au
 |cons k q=>cases av<;>first|rfl|(simp[I.sub]at h)
theorem E6 {d:I} (h:d.plain=false):d.tree=true:=ig (q:=[]) (by simp only[I.sub]) (.inl h)
theorem aL.frame {w aG:World} {F b2:Nat→Prop} {s:ar} {aA:Nat→Value} {Sx:Nat→Nat→Prop} (bI:∀b,F b→aG.heap[b]? =w.heap[b]?) (Jg:∀b,F b→b2 b)
  (b1:∀x b,Sx x b→aG.heap[b]? =w.heap[b]?) (kR:∀x,aL w F s aA (s x) (aA x) (Sx x)):
  ∀(d:I) (v:Value) (S:Nat→Prop),(∀b,S b→aG.heap[b]? =w.heap[b]?)→aL w F s aA d v S→aL aG b2 s aA d v S:=by
 have kS:∀(x:Nat) (q:List Nat) (d:I),I.sub q (s x)=some d→(d.plain=false∨I.fU q (s x)=true)→dB aG q (s x) (cC (aA x)) none=dB w q (s x) (cC (aA x)) none:=by
  intro x q d aj au
  have ba:=ig aj au
  have:=kR x
  rw[aL.cV ba]at this
  exact AQ q _ _ (Sx x) none d this.2 aj (b1 x)
 have Rt:∀(d:I) (v:Value) (S:Nat→Prop),d.tree=true→(∀b,S b→aG.heap[b]? =w.heap[b]?)→aL w F s aA d v S→aL aG b2 s aA d v S:=by
  intro d v S ba sK h
  rw[aL.cV ba]at h⊢
  exact⟨h.1,ax.mono Jg _ _ _ _ (fun _ h=>h) (ax.frame bI _ _ _ sK h.2)⟩
 have step:∀n,(∀(d:I) (v:Value) (S:Nat→Prop),SizeOf.sizeOf d≤n→(∀b,S b→aG.heap[b]? =w.heap[b]?)→aL w F s aA d v S→aL aG b2 s aA d v S)∧
   (∀(ds:List I) (vs:List Value),SizeOf.sizeOf ds≤n→eA w F s aA ds vs→eA aG b2 s aA ds vs):=by
  intro n
  induction n with
  |zero=>
   refine⟨fun d v S cf=> ?_,fun ds vs cf=> ?_⟩
   ·cases d<;>simp at cf<;>omega
   ·cases ds<;>simp at cf<;>omega
  |succ n ih=>
   refine⟨fun d v S cf sK h=> ?_,fun ds vs cf h=> ?_⟩
   ·cases d with
    |hole=>rw[aL];trivial
    |h x q=>
     rw[aL]at h⊢
     intro d aj au
     rw[kS x q d aj (.inl au)]
     exact h d aj au
    |au x q=>
     rw[aL]at h⊢
     intro d aj au
     rw[kS x q d aj (.inr au)]
     exact h d aj au
    |ae x k=>
     rw[aL]at h⊢
     intro au
     obtain⟨b,cur,e,fr,h1,ah,aC,a8⟩:=h au
     exact⟨b,cur,e,fr,h1,Jg b ah,(bI b ah).trans aC,a8⟩
    |fn f cap=>
     rw[aL]at h⊢
     obtain⟨arr,rfl,aq⟩:=h
     exact⟨arr,rfl,ih.2 _ _ (by simp at cf;omega) aq⟩
    |_=>exact Rt _ _ _ rfl sK h
   ·cases ds with
    |nil=>rw[eA]at h⊢;exact h
    |cons d ds=>
     rw[eA]at h⊢
     obtain⟨v,j1,rfl,h1,ah⟩:=h
     simp at cf
     exact⟨v,j1,rfl,ih.1 _ _ _ (by omega) (fun _ h=>h.elim) h1,ih.2 _ _ (by omega) ah⟩
 intro d v S sK h
 exact(step (SizeOf.sizeOf d)).1 d v S (Nat.le_refl _) sK h
mutual
def c5 (x:Nat):I→I
 | .h y q=>if y=x then .hole else .h y q
 | .au y q=>if y=x then .hole else .au y q
 | .ae y k=>if y=x then .hole else .ae y k
 | .fn f cap=>.fn f (jG x cap)
 |d=>d
def jG (x:Nat):List I→List I
 |[]=>[]
 |d::ds=>c5 x d::jG x ds
end
mutual
def cv (x:Nat):I→I
 | .h y q=>if y=x then(if q=[]then .h y q else .hole)else .h y q
 | .au y q=>if y=x then .hole else .au y q
 | .fn f cap=>.fn f (i_ x cap)
 |d=>d
def i_ (x:Nat):List I→List I
 |[]=>[]
 |d::ds=>cv x d::i_ x ds
end
def du {α:Type} (f:Nat→α) (t:Nat) (v:α):Nat→α:=fun u=>if u=t then v else f u
def lZ (t:Nat) (s:ar):ar:=fun u=>c5 t (s u)
def iu (t:Nat) (s:ar):ar:=fun u=>cv t (s u)
theorem l0 {α:Type} (f:Nat→α) (t:Nat) (v:α):du f t v t=v:=by simp[du]
theorem jH {α:Type} (f:Nat→α) {t u:Nat} (v:α) (h:u≠t):du f t v u=f u:=by simp[du,h]
theorem Ru {t:Nat} {d:I} (h:d.tree=true):c5 t d=d:=by cases d<;>first|rfl|(simp[I.tree]at h)
theorem E7 {t:Nat} {d:I} (h:d.tree=true):cv t d=d:=by cases d<;>first|rfl|(simp[I.tree]at h)
theorem Rv {t:Nat} {d:I} (h:(c5 t d).tree=true):d.tree=true∧c5 t d=d:=by
 cases d<;>first|exact⟨rfl,rfl⟩|(simp only[c5]at h;first|(split at h<;>simp[I.tree]at h)|simp[I.tree]at h)
theorem AR {t:Nat} {d:I} (h:(cv t d).tree=true):d.tree=true∧cv t d=d:=by
 cases d<;>first|exact⟨rfl,rfl⟩|(simp only[cv]at h;first|(split at h<;>(try split at h)<;>simp[I.tree]at h)|simp[I.tree]at h)
section
variable {w:World} {F:Nat→Prop} {s az:ar} {aA jI:Nat→Value} {t:Nat}
theorem aL.c5 (hN:∀x,x≠t→(az x).tree=true→az x=s x∧jI x=aA x):∀(n:Nat),
  (∀(d:I) (v:Value) (S:Nat→Prop),SizeOf.sizeOf d≤n→aL w F s aA d v S→aL w F az jI (cZ.c5 t d) v S)∧
  (∀(ds:List I) (vs:List Value),SizeOf.sizeOf ds≤n→eA w F s aA ds vs→eA w F az jI (jG t ds) vs):=by
 intro n
 induction n with
 |zero=>
  refine⟨fun d v S cf=> ?_,fun ds vs cf=> ?_⟩
  ·cases d<;>simp at cf<;>omega
  ·cases ds<;>simp at cf<;>omega
 |succ n ih=>
  refine⟨fun d v S cf h=> ?_,fun ds vs cf h=> ?_⟩
  ·cases d with
   |hole=>rw[cZ.c5.eq_def];simp only;rw[aL];trivial
   |h x q=>
    simp only[cZ.c5]
    split
    ·rw[aL];trivial
    ·rename_i aw
     rw[aL]at h⊢
     intro d aj au
     obtain⟨aS,aZ⟩:=hN x aw (ig aj (.inl au))
     rw[aS,aZ];rw[aS]at aj
     exact h d aj au
   |au x q=>
    simp only[cZ.c5]
    split
    ·rw[aL];trivial
    ·rename_i aw
     rw[aL]at h⊢
     intro d aj au
     obtain⟨aS,aZ⟩:=hN x aw (ig aj (.inr au))
     rw[aS,aZ];rw[aS]at aj au
     exact h d aj au
   |ae x k=>
    simp only[cZ.c5]
    split
    ·rw[aL];trivial
    ·rename_i aw
     rw[aL]at h⊢
     intro au
     obtain⟨aS,aZ⟩:=hN x aw (E6 au)
     rw[aZ];rw[aS]at au
     exact h au
   |fn f cap=>
    simp only[cZ.c5]
    rw[aL]at h⊢
    obtain⟨arr,rfl,aq⟩:=h
    exact⟨arr,rfl,ih.2 _ _ (by simp at cf;omega) aq⟩
   |_=>
    rw[Ru (by rfl)]
    exact(aL.cV (by rfl)).2 ((aL.cV (by rfl)).1 h)
  ·cases ds with
   |nil=>rw[jG,eA];rw[eA]at h;exact h
   |cons d ds=>
    rw[jG,eA];rw[eA]at h
    obtain⟨v,j1,rfl,h1,ah⟩:=h
    simp at cf
    exact⟨v,j1,rfl,ih.1 _ _ _ (by omega) h1,ih.2 _ _ (by omega) ah⟩
theorem aL.cv {aG:World} (hN:∀x,x≠t→(az x).tree=true→az x=s x∧jI x=aA x) (jJ:jI t=aA t) (mo:(az t).plain=false→(s t).plain=false∧∀v,ei (s t) v→ei (az t) v)
  (kS:∀x q d,x≠t→I.sub q (s x)=some d→(d.plain=false∨I.fU q (s x)=true)→dB aG q (s x) (cC (aA x)) none=dB w q (s x) (cC (aA x)) none)
  (bI:∀b,F b→aG.heap[b]? =w.heap[b]?):∀(n:Nat),
  (∀(d:I) (v:Value) (S:Nat→Prop),SizeOf.sizeOf d≤n→(∀b,S b→aG.heap[b]? =w.heap[b]?)→aL w F s aA d v S→aL aG F az jI (cZ.cv t d) v S)∧
  (∀(ds:List I) (vs:List Value),SizeOf.sizeOf ds≤n→eA w F s aA ds vs→eA aG F az jI (i_ t ds) vs):=by
 intro n
 induction n with
 |zero=>
  refine⟨fun d v S cf=> ?_,fun ds vs cf=> ?_⟩
  ·cases d<;>simp at cf<;>omega
  ·cases ds<;>simp at cf<;>omega
 |succ n ih=>
  refine⟨fun d v S cf sK h=> ?_,fun ds vs cf h=> ?_⟩
  ·cases d with
   |hole=>rw[cZ.cv.eq_def];simp only;rw[aL];trivial
   |h x q=>
    simp only[cZ.cv]
    split
    ·rename_i aw
     subst aw
     split
     ·rename_i c6
      subst c6
      rw[aL]at h⊢
      intro d aj au
      simp only[I.sub,Option.some.injEq]at aj
      subst aj
      obtain⟨dw,bg⟩:=mo au
      obtain⟨c3,a,g1,g2,g3⟩:=h (s x) rfl dw
      simp only[dB,Option.some.injEq,Prod.mk.injEq]at g1
      obtain⟨-,g1,aDk⟩:=g1
      refine⟨cC (jI x),none,rfl,?_,bg _ g3⟩
      rw[jJ,g2,←g1]
     ·rw[aL];trivial
    ·rename_i aw
     rw[aL]at h⊢
     intro d aj au
     obtain⟨aS,aZ⟩:=hN x aw (ig aj (.inl au))
     rw[aS,aZ];rw[aS]at aj
     rw[kS x q d aw aj (.inl au)]
     exact h d aj au
   |au x q=>
    simp only[cZ.cv]
    split
    ·rw[aL];trivial
    ·rename_i aw
     rw[aL]at h⊢
     intro d aj au
     obtain⟨aS,aZ⟩:=hN x aw (ig aj (.inr au))
     rw[aS,aZ];rw[aS]at aj au
     rw[kS x q d aw aj (.inr au)]
     exact h d aj au
   |ae x k=>
    simp only[cZ.cv]
    rw[aL]at h⊢
    intro au
    by_cases aw:x=t
    ·subst aw
     obtain⟨b,cur,e,fr,h1,ah,aC,a8⟩:=h (mo au).1
     exact⟨b,cur,e,fr,h1,ah,(bI b ah).trans aC,by rw[jJ];exact a8⟩
    ·obtain⟨aS,aZ⟩:=hN x aw (E6 au)
     rw[aS]at au
     obtain⟨b,cur,e,fr,h1,ah,aC,a8⟩:=h au
     exact⟨b,cur,e,fr,h1,ah,(bI b ah).trans aC,by rw[aZ];exact a8⟩
   |fn f cap=>
    simp only[cZ.cv]
    rw[aL]at h⊢
    obtain⟨arr,rfl,aq⟩:=h
    exact⟨arr,rfl,ih.2 _ _ (by simp at cf;omega) aq⟩
   |_=>
    rw[E7 (by rfl)]
    have bL:=(aL.cV (by rfl)).1 h
    exact(aL.cV (by rfl)).2 ⟨bL.1,ax.frame bI _ _ _ sK bL.2⟩
  ·cases ds with
   |nil=>rw[i_,eA];rw[eA]at h;exact h
   |cons d ds=>
    rw[i_,eA];rw[eA]at h
    obtain⟨v,j1,rfl,h1,ah⟩:=h
    simp at cf
    exact⟨v,j1,rfl,ih.1 _ _ _ (by omega) (fun _ h=>h.elim) h1,ih.2 _ _ (by omega) ah⟩
theorem aL.void (hN:∀x,x≠t→(az x).tree=true→az x=s x∧jI x=aA x) (oW:(az t).plain=true):∀(n:Nat),
  (∀(d:I) (v:Value) (S:Nat→Prop),SizeOf.sizeOf d≤n→aL w F s aA d v S→aL w F az jI d v S)∧
  (∀(ds:List I) (vs:List Value),SizeOf.sizeOf ds≤n→eA w F s aA ds vs→eA w F az jI ds vs):=by
 intro n
 induction n with
 |zero=>
  refine⟨fun d v S cf=> ?_,fun ds vs cf=> ?_⟩
  ·cases d<;>simp at cf<;>omega
  ·cases ds<;>simp at cf<;>omega
 |succ n ih=>
  refine⟨fun d v S cf h=> ?_,fun ds vs cf h=> ?_⟩
  ·cases d with
   |hole=>rw[aL];trivial
   |h x q=>
    rw[aL]at h⊢
    intro d aj au
    by_cases aw:x=t
    ·subst aw
     rw[I.E4 _ _ _ oW aj]at au;cases au
    ·obtain⟨aS,aZ⟩:=hN x aw (ig aj (.inl au))
     rw[aS,aZ];rw[aS]at aj
     exact h d aj au
   |au x q=>
    rw[aL]at h⊢
    intro d aj au
    by_cases aw:x=t
    ·subst aw
     rw[I.Jf _ _ oW]at au;cases au
    ·obtain⟨aS,aZ⟩:=hN x aw (ig aj (.inr au))
     rw[aS,aZ];rw[aS]at aj au
     exact h d aj au
   |ae x k=>
    rw[aL]at h⊢
    intro au
    by_cases aw:x=t
    ·subst aw;rw[oW]at au;cases au
    ·obtain⟨aS,aZ⟩:=hN x aw (E6 au)
     rw[aZ];rw[aS]at au
     exact h au
   |fn f cap=>
    rw[aL]at h⊢
    obtain⟨arr,rfl,aq⟩:=h
    exact⟨arr,rfl,ih.2 _ _ (by simp at cf;omega) aq⟩
   |_=>exact(aL.cV (by rfl)).2 ((aL.cV (by rfl)).1 h)
  ·cases ds with
   |nil=>rw[eA];rw[eA]at h;exact h
   |cons d ds=>
    rw[eA];rw[eA]at h
    obtain⟨v,j1,rfl,h1,ah⟩:=h
    simp at cf
    exact⟨v,j1,rfl,ih.1 _ _ _ (by omega) h1,ih.2 _ _ (by omega) ah⟩
end
def AS:Bool:=true
def Out (w w0:World):Prop:=w.output=w0.output∧(AS=true→w0.drawn≤w.drawn)
theorem Out.trans {a b c:World} (h:Out a b) (ah:Out b c):Out a c:=⟨Eq.trans h.1 ah.1,fun d=>Nat.le_trans (ah.2 d) (h.2 d)⟩
theorem Out.refl (w:World):Out w w:=⟨rfl,fun _=>Nat.le_refl _⟩
def Jh:List (Nat×Nat×(Value→Bool)):=[]
def Rw (w:World) (p:Nat×Nat×(Value→Bool)):Prop:=∃v,w.cell? ⟨p.1,p.2.1,none⟩=some v∧p.2.2 v=true
def u9 (w:World) (X:Nat→Prop):Prop:=∀p∈Jh,p.1<w.heap.size∧¬X p.1∧Rw w p
theorem u9.next {w aG:World} {X Y:Nat→Prop} (h:u9 w X) (ag:w.heap.size≤aG.heap.size) (ae:∀b,b<w.heap.size→¬X b→aG.heap[b]? =w.heap[b]?) (bt:∀b,Y b→X b∨w.heap.size≤b):u9 aG Y:=fun p au=>by
 obtain⟨h1,ah,v,aC,a8⟩:=h p au
 refine⟨Nat.lt_of_lt_of_le h1 ag,fun h=> ?_,v,(cell?_of_block (ae _ h1 ah) _).trans aC,a8⟩
 rcases bt _ h with h|h
 ·exact ah h
 ·omega
structure bQ (w0:World) (F0 X F:Nat→Prop) (S:Nat→Nat→Prop) (s:ar) (aA:Nat→Value) (w:World):Prop where
 ho:∀b,F0 b→F b
 hO:∀b,F b→F0 b∨X b∨w0.heap.size≤b
 fm:∀b,F b→b<w.heap.size
 eD:∀t b,S t b→b<w.heap.size
 fz:∀t b,S t b→¬F b
 fs:∀t u b,t≠u→S t b→¬S u b
 dZ:∀t b,S t b→X b∨w0.heap.size≤b
 dF:∀t,aL w F s aA (s t) (aA t) (S t)
 old:∀b,b<w0.heap.size→¬X b→w.heap[b]? =w0.heap[b]?
 size:w0.heap.size≤w.heap.size
 os:w.os=w0.os
 tape:w.tape=w0.tape
 output:Out w w0
 hD:u9 w0 X
section
variable {w0 w aG:World} {F0 X F:Nat→Prop} {S:Nat→Nat→Prop} {s:ar} {aA:Nat→Value}
theorem bQ.grow (h:bQ w0 F0 X F S s aA w) (ae:∀b,b<w.heap.size→aG.heap[b]? =w.heap[b]?) (ag:w.heap.size≤aG.heap.size)
  (h1:aG.os=w.os) (ah:aG.tape=w.tape) (aC:Out aG w):bQ w0 F0 X F S s aA aG where
 ho:=h.ho
 hO:=h.hO
 fm:=fun b bI=>Nat.lt_of_lt_of_le (h.fm b bI) ag
 eD:=fun t b bI=>Nat.lt_of_lt_of_le (h.eD t b bI) ag
 fz:=h.fz
 fs:=h.fs
 dZ:=h.dZ
 dF:=fun t=>aL.frame (Sx:=S) (fun b bI=>ae b (h.fm b bI)) (fun _ h=>h) (fun x b b1=>ae b (h.eD x b b1)) h.dF _ _ _ (fun b b1=>ae b (h.eD t b b1)) (h.dF t)
 old:=fun b e7 j2=>(ae b (Nat.lt_of_lt_of_le e7 h.size)).trans (h.old b e7 j2)
 size:=Nat.le_trans h.size ag
 os:=h1.trans h.os
 tape:=ah.trans h.tape
 output:=aC.trans h.output
 hD:=h.hD
def f_ (S:Nat→Nat→Prop) (t:Nat) (Sn:Nat→Prop):Nat→Nat→Prop:=fun u b=>if u=t then Sn b else S u b
theorem xv (S:Nat→Nat→Prop) (t:Nat) (Sn:Nat→Prop):f_ S t Sn t=Sn:=by funext b;simp[f_]
theorem xw (S:Nat→Nat→Prop) {t u:Nat} (Sn:Nat→Prop) (h:u≠t):f_ S t Sn u=S u:=by funext b;simp[f_,h]
theorem bQ.u_ (h:bQ w0 F0 X F S s aA w) {t:Nat} {d:I} {v:Value} (au:d.plain=true) (aj:aL w F s aA d v (fun _=>False)):
  bQ w0 F0 X F (f_ S t (fun _=>False)) (du s t d) (du aA t v) w where
 ho:=h.ho
 hO:=h.hO
 fm:=h.fm
 eD:=fun u b ae=>by simp only[f_]at ae;split at ae;exact ae.elim;exact h.eD u b ae
 fz:=fun u b ae=>by simp only[f_]at ae;split at ae;exact ae.elim;exact h.fz u b ae
 fs:=fun u x b df ae aw=>by
  simp only[f_]at ae aw
  split at ae
  ·exact ae.elim
  ·split at aw
   ·exact aw.elim
   ·exact h.fs u x b df ae aw
 dZ:=fun u b ae=>by simp only[f_]at ae;split at ae;exact ae.elim;exact h.dZ u b ae
 dF:=fun u=>by
  have hN:∀x,x≠t→(du s t d x).tree=true→du s t d x=s x∧du aA t v x=aA x:=fun x aw _=>⟨jH _ _ aw,jH _ _ aw⟩
  have oW:(du s t d t).plain=true:=by rw[l0];exact au
  by_cases hu:u=t
  ·subst hu
   rw[l0,l0,xv]
   exact(aL.void hN oW _).1 _ _ _ (Nat.le_refl _) aj
  ·rw[jH _ _ hu,jH _ _ hu,xw _ _ hu]
   exact(aL.void hN oW _).1 _ _ _ (Nat.le_refl _) (h.dF u)
 old:=h.old
 size:=h.size
 os:=h.os
 tape:=h.tape
 output:=h.output
 hD:=h.hD
theorem bQ.Ji (h:bQ w0 F0 X F S s aA w) {t:Nat} {d:I} {v:Value} {Sn:Nat→Prop} (aj:d.tree=true) (ag:ei d v) (aM:ax w F d (cC v) Sn)
  (e7:∀b,Sn b→b<w.heap.size) (bI:∀b,Sn b→¬F b) (b1:∀u b,u≠t→Sn b→¬S u b) (bf:∀b,Sn b→X b∨w0.heap.size≤b):
  bQ w0 F0 X F (f_ S t Sn) (du (lZ t s) t d) (du aA t v) w where
 ho:=h.ho
 hO:=h.hO
 fm:=h.fm
 eD:=fun u b ae=>by simp only[f_]at ae;split at ae;exact e7 b ae;exact h.eD u b ae
 fz:=fun u b ae=>by simp only[f_]at ae;split at ae;exact bI b ae;exact h.fz u b ae
 fs:=fun u x b df ae aw=>by
  simp only[f_]at ae aw
  split at ae
  ·rename_i hu
   rw[if_neg (fun e=>df (hu.trans e.symm))]at aw
   exact b1 x b (fun e=>df (hu.trans e.symm)) ae aw
  ·rename_i hu
   split at aw
   ·exact b1 u b hu aw ae
   ·exact h.fs u x b df ae aw
 dZ:=fun u b ae=>by simp only[f_]at ae;split at ae;exact bf b ae;exact h.dZ u b ae
 dF:=fun u=>by
  have hN:∀x,x≠t→(du (lZ t s) t d x).tree=true→du (lZ t s) t d x=s x∧du aA t v x=aA x:=fun x aw ba=>by
   rw[jH _ _ aw]at ba⊢
   exact⟨(Rv ba).2,jH _ _ aw⟩
  by_cases hu:u=t
  ·subst hu
   rw[l0,l0,xv]
   exact(aL.cV aj).2 ⟨ag,aM⟩
  ·rw[jH _ _ hu,jH _ _ hu,xw _ _ hu]
   exact(aL.c5 hN _).1 _ _ _ (Nat.le_refl _) (h.dF u)
 old:=h.old
 size:=h.size
 os:=h.os
 tape:=h.tape
 output:=h.output
 hD:=h.hD
theorem rA (k:Nat) (q:List Nat) (bp x:I):(∃ay gs,x= .agg ay∧I.put (k::q) bp x= .agg gs)∨(∃ay gs,x= .tuple ay∧I.put (k::q) bp x= .tuple gs)∨
  (∃sz xs ys,x= .an sz xs∧I.put (k::q) bp x= .an sz ys)∨(∃y z,x= .bd y∧I.put (k::q) bp x= .bd z)∨I.put (k::q) bp x=x:=by
 cases x with
 |agg ay=>simp only[I.put];split<;>exact .inl ⟨_,_,rfl,rfl⟩
 |tuple ay=>simp only[I.put];split<;>exact .inr (.inl ⟨_,_,rfl,rfl⟩)
 |an sz ay=>simp only[I.put];split<;>exact .inr (.inr (.inl ⟨_,_,_,rfl,rfl⟩))
 |bd y=>cases k<;>exact .inr (.inr (.inr (.inl ⟨_,_,rfl,rfl⟩)))
 |_=>exact .inr (.inr (.inr (.inr rfl)))
theorem Jj {k:Nat} {q:List Nat} {bp x:I} {v:Value} (h:iO x v):iO (I.put (k::q) bp x) v:=by
 rcases rA k q bp x with⟨ay,gs,rfl,e⟩|⟨ay,gs,rfl,e⟩|⟨sz,xs,ys,rfl,e⟩|⟨y,z,rfl,e⟩|e<;>rw[e]<;>exact h
theorem Jk {k:Nat} {q:List Nat} {bp x:I} (h:∀vs,x≠.tuple vs):∀vs,I.put (k::q) bp x≠.tuple vs:=by
 rcases rA k q bp x with⟨ay,gs,rfl,e⟩|⟨ay,gs,rfl,e⟩|⟨sz,xs,ys,rfl,e⟩|⟨y,z,rfl,e⟩|e<;>rw[e]<;>first|exact h|(intro vs bL;cases bL;done)|exact(h _ rfl).elim
theorem xx {k:Nat} {q:List Nat} {d bp av:I} {v:Value} (h:ei av v) (aj:I.sub (k::q) av=some d) (h1:∀v,iO d v→iO bp v) (ah:(∀vs,d≠.tuple vs)→∀vs,bp≠.tuple vs) (aC:bp.wd=d.wd):
  ei (I.put (k::q) bp av) v:=by
 cases av with
 |tuple ay=>
  simp only[I.sub]at aj
  split at aj
  ·rename_i x aw
   simp only[I.put,aw]
   simp only[ei]at h⊢
   obtain⟨arr,rfl,cf,kR⟩:=h
   refine⟨arr,rfl,by simpa using cf,fun j e y he bt=> ?_⟩
   rw[List.getElem?_set]at he
   split at he
   ·rename_i E8
    subst E8
    split at he
    ·simp only[Option.some.injEq]at he
     subst he
     obtain⟨g1,g2,g3⟩:=kR k x y aw bt
     refine⟨?_,?_,g3.trans (I.u6 q x d bp aj aC).symm⟩
     ·cases q with
      |nil=>
       simp only[I.sub,Option.some.injEq]at aj
       subst aj
       exact h1 _ g1
      |cons cy q=>exact Jj g1
     ·cases q with
      |nil=>
       simp only[I.sub,Option.some.injEq]at aj
       subst aj
       exact ah g2
      |cons cy q=>exact Jk g2
    ·cases he
   ·exact kR j e y he bt
  ·cases aj
 |agg ay=>simp only[I.put];split<;>exact h
 |an sz ay=>simp only[I.put];split<;>exact h
 |bd y=>cases k<;>exact h
 |_=>exact h
theorem E9 {d:I} {v:Value} (h:iO d v):iO d.dq v:=by cases d<;>exact h
theorem Jl {s:ar} {x:Nat} {q:List Nat} {d:I} (aj:I.sub q (s x)=some d) (au:d.plain=false):
  (du (iu x s) x (I.put q d.dq (s x)) x).plain=false→(s x).plain=false∧∀v,ei (s x) v→ei (du (iu x s) x (I.put q d.dq (s x)) x) v:=by
  rw[l0]
  intro gq
  cases q with
  |nil=>
   exfalso
   have:∀d:I,d.dq.plain=true:=by
    intro d
    have key:∀n,(∀d:I,SizeOf.sizeOf d≤n→d.dq.plain=true)∧(∀ds:List I,SizeOf.sizeOf ds≤n→I.dX (I.lD ds)=true):=by
     intro n
     induction n with
     |zero=>exact⟨fun d cf=>by cases d<;>simp at cf<;>omega,fun ds cf=>by cases ds<;>simp at cf<;>omega⟩
     |succ n ih=>
      refine⟨fun d cf=> ?_,fun ds cf=> ?_⟩
      ·cases d with
       |agg ay=>simp only[I.dq,I.plain];exact ih.2 _ (by simp at cf;omega)
       |tuple ay=>simp only[I.dq,I.plain];exact ih.2 _ (by simp at cf;omega)
       |_=>rfl
      ·cases ds with
       |nil=>rfl
       |cons d ds=>
        simp at cf
        simp only[I.lD,I.dX,Bool.and_eq_true]
        exact⟨ih.1 _ (by omega),ih.2 _ (by omega)⟩
    exact(key _).1 d (Nat.le_refl _)
   simp only[I.put]at gq
   rw[this]at gq
   cases gq
  |cons k q=>
   refine⟨?_,fun v aM=>xx aM aj (fun v h=>E9 h) (fun h vs e=> ?_) (I.rz d)⟩
   ·cases xy:(s x).plain with
    |false=>rfl
    |true=>rw[I.E4 _ _ _ xy aj]at au;cases au
   ·cases d<;>first|(exact h _ rfl)|(simp[I.dq]at e)
theorem bQ.take (h:bQ w0 F0 X F S s aA w) {x:Nat} {q:List Nat} {d:I} (aj:I.sub q (s x)=some d) (au:d.plain=false):
  ∃(Sn fE:Nat→Prop) (c3:List Value) (a:Option (Nat×Nat)),bQ w0 F0 X F (f_ S x Sn) (du (iu x s) x (I.put q d.dq (s x))) aA w∧
   dB w q (s x) (cC (aA x)) none=some (d,c3,a)∧ax w F d c3 fE∧(∀b,fE b→S x b)∧(∀b,Sn b→S x b)∧(∀b,fE b→¬Sn b)∧
   (∀(bp:I) (v:Value) (aR:Nat→Prop),aL w F s aA bp v aR→aL w F (du (iu x s) x (I.put q d.dq (s x))) aA (cZ.cv x bp) v aR):=by
 have ba:=ig aj (.inl au)
 have aw:=h.dF x
 rw[aL.cV ba]at aw
 obtain⟨c3,a,eF,fE,g0,g1,g2,g3,g4,g5⟩:=ctx q (s x) (cC (aA x)) (S x) none d aw.2 aj
 have j0:ax w F (I.put q d.dq (s x)) (cC (aA x)) eF:=by
  have kT:ax w F d.dq c3 (fun _=>False):=ax.dq _ _ _ _ g4
  have n5:∀b,(eF b∨False)→eF b:=fun b h=>h.elim id False.elim
  rcases g5 with⟨l,r,aS,aZ,aQ⟩|⟨b,cur,e,fr,l,r,aS,aZ,aQ,cF,cR,ch⟩
  ·have:=aQ w _ c3 _ (fun _ _=>rfl) (fun _ _=>rfl) (I.rz d) kT (fun _ h=>h.elim)
   rw[←aS]at this
   exact ax.mono (fun _ h=>h) _ _ _ _ n5 this
  ·have:=ch w _ c3 _ (fun _ _=>rfl) (fun _ _ _=>rfl) (by rw[aQ,←cR]) (I.rz d) kT (fun _ h=>h.elim)
   exact ax.mono (fun _ h=>h) _ _ _ _ n5 this
 have Rx:ei (I.put q d.dq (s x)) (aA x)∧(I.put q d.dq (s x)).tree=true∨I.put q d.dq (s x)= .hole:=by
  cases q with
  |nil=>
   simp only[I.sub,Option.some.injEq]at aj
   subst aj
   simp only[I.put]
   cases ag:s x with
   |an sz xs=>right;rfl
   |bd y=>right;rfl
   |en y=>right;rfl
   |agg ay=>left;rw[ag]at aw;exact⟨aw.1,rfl⟩
   |tuple ay=>
    left
    rw[ag]at aw
    refine⟨?_,rfl⟩
    simp only[ei,I.dq]at aw⊢
    obtain⟨arr,e,cf,kR⟩:=aw.1
    have hl:∀ay:List I,I.lD ay=ay.map I.dq:=by
     intro ay;induction ay with
     |nil=>rfl
     |cons a ay ih=>simp[I.lD,ih]
    refine⟨arr,e,by rw[hl];simpa using cf,fun k gE y he bt=> ?_⟩
    rw[hl,List.getElem?_map]at he
    cases hk:ay[k]? with
    |none=>rw[hk]at he;cases he
    |some z=>
     rw[hk]at he
     simp only[Option.map_some,Option.some.injEq]at he
     subst he
     obtain⟨g1,g2,g3⟩:=kR k z y hk bt
     refine⟨E9 g1,fun vs e=> ?_,g3.trans (I.rz z).symm⟩
     cases z<;>first|(exact g2 _ rfl)|(simp[I.dq]at e)
   |_=>rw[ag]at au;simp[I.plain]at au
  |cons k q=>
   left
   refine⟨xx aw.1 aj (fun v h=>E9 h) (fun h vs e=> ?_) (I.rz d),?_⟩
   ·cases d<;>first|(exact h _ rfl)|(simp[I.dq]at e)
   ·rcases rA k q d.dq (s x)with⟨ay,gs,aS,e⟩|⟨ay,gs,aS,e⟩|⟨sz,xs,ys,aS,e⟩|⟨y,z,aS,e⟩|e<;>rw[e]<;>first|rfl|exact ba
 refine⟨eF,fE,c3,a,?_,g0,g4,g2,g1,fun b h1 ah=>g3 b ah h1,?_⟩
 rotate_left
 ·have hN:∀y,y≠x→(du (iu x s) x (I.put q d.dq (s x)) y).tree=true→du (iu x s) x (I.put q d.dq (s x)) y=s y∧aA y=aA y:=fun y bt ba=>by
   rw[jH _ _ bt]at ba⊢
   exact⟨(AR ba).2,rfl⟩
  intro bp v aR ha
  exact(aL.cv hN rfl (Jl aj au) (fun _ _ _ _ _ _=>rfl) (fun _ _=>rfl) _).1 _ _ _ (Nat.le_refl _) (fun _ _=>rfl) ha
 have hN:∀y,y≠x→(du (iu x s) x (I.put q d.dq (s x)) y).tree=true→du (iu x s) x (I.put q d.dq (s x)) y=s y∧aA y=aA y:=fun y bt ba=>by
  rw[jH _ _ bt]at ba⊢
  exact⟨(AR ba).2,rfl⟩
 have mo:=Jl (s:=s) (x:=x) aj au
 constructor
 case ho=>exact h.ho
 case hO=>exact h.hO
 case fm=>exact h.fm
 case eD=>exact fun u b ae=>by simp only[f_]at ae;split at ae;exact h.eD x b (g1 b ae);exact h.eD u b ae
 case fz=>exact fun u b ae=>by simp only[f_]at ae;split at ae;exact h.fz x b (g1 b ae);exact h.fz u b ae
 case fs=>
  intro u y b df ae bt
  simp only[f_]at ae bt
  split at ae
  ·rename_i hu
   rw[if_neg (fun e=>df (hu.trans e.symm))]at bt
   exact h.fs x y b (fun e=>df (hu.trans e)) (g1 b ae) bt
  ·rename_i hu
   split at bt
   ·exact h.fs u x b hu ae (g1 b bt)
   ·exact h.fs u y b df ae bt
 case dZ=>exact fun u b ae=>by simp only[f_]at ae;split at ae;exact h.dZ x b (g1 b ae);exact h.dZ u b ae
 case dF=>
  intro u
  by_cases hu:u=x
  ·subst hu
   rw[l0,xv]
   rcases Rx with⟨aS,aZ⟩|e
   ·exact(aL.cV aZ).2 ⟨aS,j0⟩
   ·rw[e,aL];trivial
  ·rw[jH _ _ hu,xw _ _ hu]
   exact(aL.cv hN rfl mo (fun _ _ _ _ _ _=>rfl) (fun _ _=>rfl) _).1 _ _ _ (Nat.le_refl _) (fun _ _=>rfl) (h.dF u)
 case old=>exact h.old
 case size=>exact h.size
 case os=>exact h.os
 case tape=>exact h.tape
 case output=>exact h.output
 case hD=>exact h.hD
theorem bQ.store (h:bQ w0 F0 X F S s aA w) {x:Nat} {q:List Nat} {d bp:I} (aj:I.sub q (s x)=some d) (aq:I.fU q (s x)=true)
  {gp:List Value} {Sn:Nat→Prop} (aM:ax w F bp gp Sn) (kQ:bp.wd=d.wd)
  (e7:∀b,Sn b→b<w.heap.size) (bI:∀b,Sn b→¬F b) (b1:∀u b,Sn b→¬S u b) (bf:∀b,Sn b→X b∨w0.heap.size≤b):
  ∃(c3:List Value) (b:Nat) (l r:List Value) (cur:Array Value) (e:TypeId) (fr:Nat×Nat),dB w q (s x) (cC (aA x)) none=some (d,c3,some (b,l.length))∧
   w.heap[b]? =some (.cells cur e fr)∧cur.toList=l++(c3++r)∧oV fr cur.size∧
   ∀aG,aG.heap[b]? =some (.cells (l++(gp++r)).toArray e fr)→(∀c,c≠b→aG.heap[c]? =w.heap[c]?)→aG.heap.size=w.heap.size→aG.os=w.os→aG.tape=w.tape→Out aG w→
    ∃aR,bQ w0 F0 X F aR (du (iu x s) x (I.put q bp (s x))) aA aG:=by
 have ba:=ig aj (.inr aq)
 have aw:=h.dF x
 rw[aL.cV ba]at aw
 obtain⟨c3,a,eF,fE,g0,g1,g2,g3,g4,g5⟩:=ctx q (s x) (cC (aA x)) (S x) none d aw.2 aj
 have Ry:Deep w F q (s x) (cC (aA x)) d c3 a eF:=by
  rcases g5 with⟨l,r,aS,aZ,aQ⟩|g5
  ·exfalso
   have l1:∀(q:List Nat) (av:I) (cs:List Value) (a0:Option (Nat×Nat)) (d:I) (c3:List Value),I.fU q av=true→dB w q av cs a0=some (d,c3,none)→False:=by
    intro q
    induction q with
    |nil=>intro av cs a0 d c3 aq;simp[I.fU]at aq
    |cons k q ih=>
     have Jm:∀(q:List Nat) (av:I) (cs:List Value) (l:Nat×Nat) (d:I) (c3:List Value),dB w q av cs (some l)=some (d,c3,none)→False:=by
      intro q
      induction q with
      |nil=>intro av cs l d c3 h;simp[dB]at h
      |cons k q AU=>
       intro av cs l d c3 h
       cases av with
       |agg ay=>rw[dB]at h;split at h;exact AU _ _ _ _ _ h;cases h
       |tuple ay=>rw[dB]at h;split at h;exact AU _ _ _ _ _ h;cases h
       |an sz xs=>simp only[dB]at h;split at h;exact AU _ _ _ _ _ h;cases h
       |bd y=>
        cases k with
        |zero=>rw[dB.eq_def]at h;simp only at h;split at h;exact AU _ _ _ _ _ h;cases h
        |succ k=>rw[show dB w ((k+1)::q) (.bd y) cs (some l)=none from rfl]at h;cases h
       |_=>simp[dB]at h
     intro av cs a0 d c3 aq h
     cases av with
     |agg ay=>
      simp only[I.fU]at aq
      split at aq
      ·rename_i y bt
       simp only[dB,bt]at h
       exact ih _ _ _ _ _ aq h
      ·cases aq
     |tuple ay=>
      simp only[I.fU]at aq
      split at aq
      ·rename_i y bt
       simp only[dB,bt]at h
       exact ih _ _ _ _ _ aq h
      ·cases aq
     |an sz xs=>simp only[dB]at h;split at h;exact Jm _ _ _ _ _ _ h;cases h
     |bd y=>
      cases k with
      |zero=>rw[dB.eq_def]at h;simp only at h;split at h;exact Jm _ _ _ _ _ _ h;cases h
      |succ k=>rw[show dB w ((k+1)::q) (.bd y) cs a0=none from rfl]at h;cases h
     |_=>simp[I.fU]at aq
   simp only[Option.map_none]at aZ
   subst aZ
   exact l1 _ _ _ _ _ _ aq g0
  ·exact g5
 obtain⟨b,cur,e,fr,l,r,rfl,aZ,aQ,cF,cR,ch⟩:=Ry
 refine⟨c3,b,l,r,cur,e,fr,g0,aQ,cR,cF,?_⟩
 intro aG lB l3 dR E_ Fa sL
 have sM:S x b:=g1 _ aZ
 have pR:∀c,F c→aG.heap[c]? =w.heap[c]? :=fun c aq=>l3 c (by rintro rfl;exact h.fz x _ sM aq)
 have aDl:gp.length=c3.length:=by rw[ax.length _ _ _ aM,ax.length _ _ _ g4,kQ]
 have j0:=ch aG bp gp Sn pR (fun c _ df=>l3 c df) lB kQ
  (ax.frame pR _ _ _ (fun c aq=>l3 c (by rintro rfl;exact b1 x _ aq sM)) aM) (fun c aq n5=>b1 x c aq (g1 _ n5))
 obtain⟨k,jQ,rfl⟩:∃k jQ,q=k::jQ:=by
  cases q with
  |nil=>simp[I.fU]at aq
  |cons k q=>exact⟨k,q,rfl⟩
 have xz:∀v,ei (s x) v→ei (I.put (k::jQ) bp (s x)) v:=by
  intro v aM
  rcases rA k jQ bp (s x)with⟨ay,gs,aS,e⟩|⟨ay,gs,aS,e⟩|⟨sz,xs,ys,aS,e⟩|⟨y,z,aS,e⟩|e
  ·rw[e];rw[aS]at aM;exact aM
  ·
   rw[aS]at aM aj aq⊢
   simp only[I.fU]at aq
   split at aq
   ·rename_i y bt
    simp only[I.put,bt]
    cases jQ with
    |nil=>simp[I.fU]at aq
    |cons cy gF=>
     simp only[ei]at aM⊢
     obtain⟨arr,rfl,cf,kR⟩:=aM
     refine⟨arr,rfl,by simpa using cf,fun j e kU he sN=> ?_⟩
     rw[List.getElem?_set]at he
     split at he
     ·rename_i E8
      subst E8
      split at he
      ·simp only[Option.some.injEq]at he
       subst he
       obtain⟨g1,g2,g3⟩:=kR _ y kU bt sN
       simp only[I.sub,bt]at aj
       exact⟨Jj g1,Jk g2,g3.trans (I.u6 (cy::gF) y d bp aj kQ).symm⟩
      ·cases he
     ·exact kR j e kU he sN
   ·cases aq
  ·rw[e];rw[aS]at aM;exact aM
  ·rw[e];rw[aS]at aM;exact aM
  ·rw[e];exact aM
 have Rz:(I.put (k::jQ) bp (s x)).tree=true:=by
  rcases rA k jQ bp (s x)with⟨ay,gs,aS,e⟩|⟨ay,gs,aS,e⟩|⟨sz,xs,ys,aS,e⟩|⟨y,z,aS,e⟩|e<;>rw[e]<;>first|rfl|exact ba
 let az:=du (iu x s) x (I.put (k::jQ) bp (s x))
 have hN:∀y,y≠x→(az y).tree=true→az y=s y∧aA y=aA y:=fun y bt ba=>by
  have e:az y=cv x (s y):=jH _ _ bt
  rw[e]at ba⊢
  exact⟨(AR ba).2,rfl⟩
 have mo:(az x).plain=false→(s x).plain=false∧∀v,ei (s x) v→ei (az x) v:=by
  intro _
  refine⟨?_,?_⟩
  ·cases xy:(s x).plain with
   |false=>rfl
   |true=>rw[I.Jf _ _ xy]at aq;cases aq
  ·simp only[az,l0];exact xz
 refine⟨f_ S x (fun c=>eF c∨Sn c),?_⟩
 constructor
 case ho=>exact h.ho
 case hO=>exact h.hO
 case fm=>exact fun b ae=>by rw[dR];exact h.fm b ae
 case eD=>
  intro u c ae
  rw[dR]
  simp only[f_]at ae
  split at ae
  ·rcases ae with ae|ae
   ·exact h.eD x c (g1 c ae)
   ·exact e7 c ae
  ·exact h.eD u c ae
 case fz=>
  intro u c ae
  simp only[f_]at ae
  split at ae
  ·rcases ae with ae|ae
   ·exact h.fz x c (g1 c ae)
   ·exact bI c ae
  ·exact h.fz u c ae
 case fs=>
  intro u y c df ae bt
  simp only[f_]at ae bt
  split at ae
  ·rename_i hu
   rw[if_neg (fun e=>df (hu.trans e.symm))]at bt
   rcases ae with ae|ae
   ·exact h.fs x y c (fun e=>df (hu.trans e)) (g1 c ae) bt
   ·exact b1 y c ae bt
  ·rename_i hu
   split at bt
   ·rcases bt with bt|bt
    ·exact h.fs u x c hu ae (g1 c bt)
    ·exact b1 u c bt ae
   ·exact h.fs u y c df ae bt
 case dZ=>
  intro u c ae
  simp only[f_]at ae
  split at ae
  ·rcases ae with ae|ae
   ·exact h.dZ x c (g1 c ae)
   ·exact bf c ae
  ·exact h.dZ u c ae
 case dF=>
  intro u
  by_cases hu:u=x
  ·subst hu
   rw[l0,xv]
   exact(aL.cV Rz).2 ⟨xz _ aw.1,j0⟩
  ·rw[jH _ _ hu,xw _ _ hu]
   have df:∀y c,y≠x→S y c→aG.heap[c]? =w.heap[c]? :=fun y c bt aq=>l3 c (by rintro rfl;exact h.fs y x c bt aq sM)
   refine(aL.cv hN rfl mo (fun y gF d2 bt iv va=> ?_) pR _).1 _ _ _ (Nat.le_refl _) (fun c aq=>df u c hu aq) (h.dF u)
   have xA:=h.dF y
   rw[aL.cV (ig iv va)]at xA
   exact AQ gF _ _ _ none d2 xA.2 iv (fun c aq=>df y c bt aq)
 case old=>
  intro c e7 j2
  by_cases rB:c=b
  ·subst rB
   exfalso
   rcases h.dZ x c sM with kT|kT
   ·exact j2 kT
   ·omega
  ·exact(l3 c rB).trans (h.old c e7 j2)
 case size=>rw[dR];exact h.size
 case os=>exact E_.trans h.os
 case tape=>exact Fa.trans h.tape
 case output=>exact sL.trans h.output
 case hD=>exact h.hD
end
end Go.cZ
