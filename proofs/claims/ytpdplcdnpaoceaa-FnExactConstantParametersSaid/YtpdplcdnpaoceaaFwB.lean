/- Part of a proof that a law returns true for every input. No condition. -/
import Derived.Test.YtpdplcdnpaoceaaFwA
import Derived.Laws.AppendOwn
import Derived.Calls
namespace Go.cM
open List Option Go.IntKind Nat Or
inductive tb where
 |mp (es:Xp)
 |tc
 |gv (T e:TypeId) (i9:Xq)
inductive I where
 |hole
 |bool (b:Bool)
 |dR
 |int (k:IntKind) (n:Int)
 |str (s:Xq)
 |cJ
 |a5
 |slice (xs:List I)
 |aw (sz:Nat) (xs:List I)
 |ref (d:I)
 |bh (d:I)
 |agg (ar:List I)
 |tuple (vs:List I)
 |fn (f:FuncId) (cap:List I)
 |h (x:Nat) (q:Xt)
 |ao (x:Nat) (q:Xt)
 |U (x:Nat) (k:Nat)
 |cS (o:tb)
 |er (f:FuncId) (cap:List I)
 deriving Inhabited
abbrev Xy:=List I
abbrev Xx:=List (Nat×I)
mutual
def I.wd:I->Nat
 | .agg ar=>I.c3 ar
 | .tuple ar=>I.c3 ar
 |_=>1
def I.c3:Xy->Nat
 |[]=>0
 |d::ds=>d.wd+I.c3 ds
end
def gi (w:World) (b o:Nat) (cs:Xw):Prop:=∀j c,cs[j]? =some c->w.cell? ⟨b,o+j,none⟩=some c
def kD (fr:Nat×Nat) (n:Nat):Prop:=∀o,o<n->¬(fr.1<=o/\o<fr.2)
theorem kD.le {fr:Nat×Nat} {m n:Nat} (h:kD fr n) (hm:m<=n):kD fr m:=λo bG=>h o (Nat.lt_of_lt_of_le bG hm)
theorem kD.low {fr:Nat×Nat} {n k:Nat} (h:kD fr (n+k)):kD fr n:=h.le (le_add_right _ _)
def Value.eZ:Value->Bool
 | .agg _=>false
 | .tuple _=>false
 |_=>true
def I.single:I->Bool
 | .agg _=>false
 | .tuple _=>false
 | .hole=>false
 |_=>true
def I.one:I->Bool
 | .agg _=>false
 | .tuple _=>false
 |_=>true
def jP (w:World):tb->Xw->(Nat->Prop)->Prop
 | .mp es,cs,S=>∃r ms kE,cs=[.map (some r)]/\S r/\w.heap[r]? =some (.map ms kE)/\ms.toList.map (λe=>(e.key,e.val))=es.map (λe=>(.string ⟨⟨e.1⟩⟩,.bool e.2))
 | .tc,cs,_=>cs=[.map none]
 | .gv T e i9,cs,S=>∃b a p1,cs=[.pointer (some ⟨b,0,none⟩)]/\S b/\w.heap[b]? =some (.cells #[a,p1] T (0,0))/\(a= .pointer none\/a= .pointer (some ⟨b,0,none⟩))/\
   ((i9=[]/\p1= .slice none 0 0)\/
     ∃g cap cur,p1= .slice (some ⟨g,0,none⟩) i9.length cap/\S g/\g≠b/\w.heap[g]? =some (.cells cur e (0,0))/\i9.length<=cap/\cap<=maxLen/\cur.size=cap/\
      cur.toList.take i9.length=i9.map λx=>.int .u8 x.toNat)
theorem jP.frame {w az:World}:∀{o:tb} {cs:Xw} {S:Nat->Prop},(∀b,S b->az.heap[b]? =w.heap[b]?)->jP w o cs S->jP az o cs S
 | .mp _,_,_,bm,⟨r,ms,kE,ab,ad,aB,aY⟩=>⟨r,ms,kE,ab,ad,(bm _ ad).trans aB,aY⟩
 | .tc,_,_,_,h=>h
 | .gv _ _ _,_,_,bm,⟨b,a,p1,ab,ad,aB,aY,bn⟩=>⟨b,a,p1,ab,ad,(bm _ ad).trans aB,aY,bn.imp (λh=>h) λ⟨g,cap,cur,o4,mq,p2,yM,td⟩=>⟨g,cap,cur,o4,mq,p2,(bm _ mq).trans yM,td⟩⟩
theorem jP.mono {w:World}:∀{o:tb} {cs:Xw} {S aF:Nat->Prop},(∀b,S b->aF b)->jP w o cs S->jP w o cs aF
 | .mp _,_,_,_,bm,⟨r,ms,kE,ab,ad,aB⟩=>⟨r,ms,kE,ab,bm _ ad,aB⟩
 | .tc,_,_,_,_,h=>h
 | .gv _ _ _,_,_,_,bm,⟨b,a,p1,ab,ad,aB,aY,bn⟩=>⟨b,a,p1,ab,bm _ ad,aB,aY,bn.imp (λh=>h) λ⟨g,cap,cur,o4,mq,p2⟩=>⟨g,cap,cur,o4,bm _ mq,p2⟩⟩
theorem jP.one {w:World}:∀{o:tb} {cs:Xw} {S:Nat->Prop},jP w o cs S->∃v,Value.eZ v=true/\cs=[v]
 | .mp _,_,_,⟨_,_,_,h,_⟩=>⟨_,rfl,h⟩
 | .tc,_,_,h=>⟨_,rfl,h⟩
 | .gv _ _ _,_,_,⟨_,_,_,h,_⟩=>⟨_,rfl,h⟩
mutual
def al (w:World) (F:Nat->Prop):I->Xw->(Nat->Prop)->Prop
 | .hole,cs,_=>∃v,Value.eZ v=true/\cs=[v]
 | .bool b,cs,_=>cs=[.bool b]
 | .dR,cs,_=>∃b,cs=[.bool b]
 | .int k n,cs,_=>cs=[.int k n]
 | .str s,cs,_=>cs=[.string ⟨⟨s⟩⟩]
 | .cJ,cs,_=>cs=[.pointer none]
 | .a5,cs,_=>cs=[.slice none 0 0]
 | .slice xs,cs,_=>(xs=[]/\∃a c,cs=[.slice a 0 c]/\c<=maxLen/\(a=none->c=0))\/
   ∃b o cap dc sz,cs=[.slice (some ⟨b,o,none⟩) xs.length cap]/\F b/\xs.length<=cap/\cap<=maxLen/\(∀d∈xs,d.wd=sz)/\
    gi w b o dc/\aQ w F xs dc (λ_=>False)
 | .aw sz xs,cs,S=>(xs=[]/\∃a,cs=[.slice a 0 0])\/
   ∃b cap cur e fr aF,cs=[.slice (some ⟨b,0,none⟩) xs.length cap]/\S b/\w.heap[b]? =some (.cells cur e fr)/\kD fr (cur.size+(sz-1))/\
    xs.length<=cap/\cap<=maxLen/\cur.size=cap*sz/\(∀d∈xs,d.wd=sz)/\aQ w F xs (cur.toList.take (xs.length*sz)) aF/\(∀c,aF c->S c)/\¬aF b
 | .ref d,cs,_=>∃b o dc,cs=[.pointer (some ⟨b,o,none⟩)]/\F b/\gi w b o dc/\al w F d dc (λ_=>False)
 | .bh d,cs,S=>∃b cur e fr aF,cs=[.pointer (some ⟨b,0,none⟩)]/\S b/\w.heap[b]? =some (.cells cur e fr)/\kD fr cur.size/\
   al w F d cur.toList aF/\(∀c,aF c->S c)/\¬aF b
 | .agg ar,cs,S=>aQ w F ar cs S
 | .tuple ar,cs,S=>aQ w F ar cs S
 | .fn f caps,cs,_=>∃arr:Array Value,cs=[.func (.func f) #[] arr]/\(∀d∈caps,d.single=true)/\aQ w F caps arr.toList (λ_=>False)
 | .h _ _,_,_=>False
 | .ao _ _,_,_=>False
 | .U _ _,_,_=>False
 | .cS o,cs,S=>jP w o cs S
 | .er f caps,cs,S=>∃arr:Array Value,cs=[.func (.func f) #[] arr]/\(∀d∈caps,d.one=true)/\aQ w F caps arr.toList S
def aQ (w:World) (F:Nat->Prop):Xy->Xw->(Nat->Prop)->Prop
 |[],cs,_=>cs=[]
 |d::ds,cs,S=>∃bx bE S1 S2,cs=bx++bE/\al w F d bx S1/\aQ w F ds bE S2/\(∀b,S1 b->S b)/\(∀b,S2 b->S b)/\(∀b,S1 b->¬S2 b)
end
theorem cell?_of_block {w az:World} {b:Nat} (h:az.heap[b]? =w.heap[b]?) (o:Nat):az.cell? ⟨b,o,none⟩=w.cell? ⟨b,o,none⟩:=by
 simp[World.cell?,h]
theorem gi.frame {w az:World} {b o:Nat} {cs:Xw} (h:az.heap[b]? =w.heap[b]?) (aI:gi w b o cs):gi az b o cs:=
 λj c aj=>(cell?_of_block h _).trans (aI j c aj)
mutual
theorem al.frame {w az:World} {F:Nat->Prop} (a1:∀b,F b->az.heap[b]? =w.heap[b]?):
  ∀(d:I) (cs:Xw) (S:Nat->Prop),(∀b,S b->az.heap[b]? =w.heap[b]?)->al w F d cs S->al az F d cs S
 | .hole,_,_,_,h=>h
 | .bool _,_,_,_,h=>h
 | .dR,_,_,_,h=>h
 | .int _ _,_,_,_,h=>h
 | .str _,_,_,_,h=>h
 | .cJ,_,_,_,h=>h
 | .a5,_,_,_,h=>h
 | .slice xs,cs,S,bm,h=>by
   rw[al]at h⊢;rcases h with h|⟨b,o,cap,dc,sz,ab,ad,aB,aY,bn,cb,cc⟩
   .exact .inl h
   .exact .inr ⟨b,o,cap,dc,sz,ab,ad,aB,aY,bn,cb.frame (a1 _ ad),aQ.frame a1 xs _ _ (λ_ h=>h.elim) cc⟩
 | .aw sz xs,cs,S,bm,h=>by
   rw[al]at h⊢;rcases h with h|⟨b,cap,cur,e,fr,aF,ab,ad,aB,aY,bn,cb,cc,ea,hH,gw,jQ⟩
   .exact .inl h
   .exact .inr ⟨b,cap,cur,e,fr,aF,ab,ad,(bm _ ad).trans aB,aY,bn,cb,cc,ea,aQ.frame a1 xs _ _ (λc aj=>bm _ (gw _ aj)) hH,gw,jQ⟩
 | .ref d,cs,S,bm,h=>by
   rw[al]at h⊢;obtain⟨b,o,dc,ab,ad,aB,aY⟩:=h;exact⟨b,o,dc,ab,ad,aB.frame (a1 _ ad),al.frame a1 d _ _ (λ_ h=>h.elim) aY⟩
 | .bh d,cs,S,bm,h=>by
   rw[al]at h⊢;obtain⟨b,cur,e,fr,aF,ab,ad,aB,aY,bn,cb,cc⟩:=h;exact⟨b,cur,e,fr,aF,ab,ad,(bm _ ad).trans aB,aY,al.frame a1 d _ _ (λc aj=>bm _ (cb _ aj)) bn,cb,cc⟩
 | .agg ar,cs,S,bm,h=>by rw[al]at h⊢;exact aQ.frame a1 ar _ _ bm h
 | .tuple ar,cs,S,bm,h=>by rw[al]at h⊢;exact aQ.frame a1 ar _ _ bm h
 | .fn _ caps,cs,S,bm,h=>by
   rw[al]at h⊢;obtain⟨arr,ab,ad,aB⟩:=h;exact⟨arr,ab,ad,aQ.frame a1 caps _ _ (λ_ h=>h.elim) aB⟩
 | .h _ _,_,_,_,h=>h
 | .ao _ _,_,_,_,h=>h
 | .U _ _,_,_,_,h=>h
 | .cS _,_,_,bm,h=>jP.frame bm h
 | .er _ caps,cs,S,bm,h=>by
   rw[al]at h⊢;obtain⟨arr,ab,ad,aB⟩:=h;exact⟨arr,ab,ad,aQ.frame a1 caps _ _ bm aB⟩
theorem aQ.frame {w az:World} {F:Nat->Prop} (a1:∀b,F b->az.heap[b]? =w.heap[b]?):
  ∀(ds:Xy) (cs:Xw) (S:Nat->Prop),(∀b,S b->az.heap[b]? =w.heap[b]?)->aQ w F ds cs S->aQ az F ds cs S
 |[],_,_,_,h=>h
 |d::ds,cs,S,bm,h=>by
  rw[aQ]at h⊢;obtain⟨bx,bE,S1,S2,ab,ad,aB,aY,bn,cb⟩:=h;exact⟨bx,bE,S1,S2,ab,al.frame a1 d _ _ (λb U=>bm _ (aY _ U)) ad,aQ.frame a1 ds _ _ (λb U=>bm _ (bn _ U)) aB,aY,bn,cb⟩
end
mutual
theorem al.mono {w:World} {F bo:Nat->Prop} (a1:∀b,F b->bo b):
  ∀(d:I) (cs:Xw) (S aF:Nat->Prop),(∀b,S b->aF b)->al w F d cs S->al w bo d cs aF
 | .hole,_,_,_,_,h=>h
 | .bool _,_,_,_,_,h=>h
 | .dR,_,_,_,_,h=>h
 | .int _ _,_,_,_,_,h=>h
 | .str _,_,_,_,_,h=>h
 | .cJ,_,_,_,_,h=>h
 | .a5,_,_,_,_,h=>h
 | .slice xs,cs,S,_,bm,h=>by
   rw[al]at h⊢;rcases h with h|⟨b,o,cap,dc,sz,ab,ad,aB,aY,bn,cb,cc⟩
   .exact .inl h
   .exact .inr ⟨b,o,cap,dc,sz,ab,a1 _ ad,aB,aY,bn,cb,aQ.mono a1 xs _ _ _ (λ_ h=>h) cc⟩
 | .aw sz xs,cs,S,_,bm,h=>by
   rw[al]at h⊢;rcases h with h|⟨b,cap,cur,e,fr,aF,ab,ad,aB,aY,bn,cb,cc,ea,hH,gw,jQ⟩
   .exact .inl h
   .exact .inr ⟨b,cap,cur,e,fr,aF,ab,bm _ ad,aB,aY,bn,cb,cc,ea,aQ.mono a1 xs _ _ _ (λ_ h=>h) hH,λc aj=>bm _ (gw _ aj),jQ⟩
 | .ref d,cs,S,_,bm,h=>by
   rw[al]at h⊢;obtain⟨b,o,dc,ab,ad,aB,aY⟩:=h;exact⟨b,o,dc,ab,a1 _ ad,aB,al.mono a1 d _ _ _ (λ_ h=>h) aY⟩
 | .bh d,cs,S,_,bm,h=>by
   rw[al]at h⊢;obtain⟨b,cur,e,fr,aF,ab,ad,aB,aY,bn,cb,cc⟩:=h;exact⟨b,cur,e,fr,aF,ab,bm _ ad,aB,aY,al.mono a1 d _ _ _ (λ_ h=>h) bn,λc aj=>bm _ (cb _ aj),cc⟩
 | .agg ar,cs,S,_,bm,h=>by rw[al]at h⊢;exact aQ.mono a1 ar _ _ _ bm h
 | .tuple ar,cs,S,_,bm,h=>by rw[al]at h⊢;exact aQ.mono a1 ar _ _ _ bm h
 | .fn _ caps,cs,S,_,bm,h=>by
   rw[al]at h⊢;obtain⟨arr,ab,ad,aB⟩:=h;exact⟨arr,ab,ad,aQ.mono a1 caps _ _ _ (λ_ h=>h) aB⟩
 | .h _ _,_,_,_,_,h=>h
 | .ao _ _,_,_,_,_,h=>h
 | .U _ _,_,_,_,_,h=>h
 | .cS _,_,_,_,bm,h=>jP.mono bm h
 | .er _ caps,cs,S,_,bm,h=>by
   rw[al]at h⊢;obtain⟨arr,ab,ad,aB⟩:=h;exact⟨arr,ab,ad,aQ.mono a1 caps _ _ _ bm aB⟩
theorem aQ.mono {w:World} {F bo:Nat->Prop} (a1:∀b,F b->bo b):
  ∀(ds:Xy) (cs:Xw) (S aF:Nat->Prop),(∀b,S b->aF b)->aQ w F ds cs S->aQ w bo ds cs aF
 |[],_,_,_,_,h=>h
 |d::ds,cs,S,_,bm,h=>by
  rw[aQ]at h⊢;obtain⟨bx,bE,S1,S2,ab,ad,aB,aY,bn,cb⟩:=h;exact⟨bx,bE,S1,S2,ab,al.mono a1 d _ _ _ (λ_ h=>h) ad,aQ.mono a1 ds _ _ _ (λ_ h=>h) aB,λb U=>bm _ (aY _ U),λb U=>bm _ (bn _ U),cb⟩
end
mutual
theorem al.length {w:World} {F:Nat->Prop}:∀(d:I) (cs:Xw) (S:Nat->Prop),al w F d cs S->cs.length=d.wd
 | .hole,cs,S,h=>by rw[al]at h;obtain⟨v,_,rfl⟩:=h;rfl
 | .bool _,cs,S,h=>by rw[al]at h;subst h;rfl
 | .dR,cs,S,h=>by rw[al]at h;obtain⟨b,rfl⟩:=h;rfl
 | .int _ _,cs,S,h=>by rw[al]at h;subst h;rfl
 | .str _,cs,S,h=>by rw[al]at h;subst h;rfl
 | .cJ,cs,S,h=>by rw[al]at h;subst h;rfl
 | .a5,cs,S,h=>by rw[al]at h;subst h;rfl
 | .slice xs,cs,S,h=>by
   rw[al]at h;rcases h with⟨_,a,c,rfl,_⟩|⟨b,o,cap,dc,sz,rfl,_⟩<;>rfl
 | .aw sz xs,cs,S,h=>by
   rw[al]at h;rcases h with⟨_,a,rfl⟩|⟨b,cap,cur,e,fr,aF,rfl,_⟩<;>rfl
 | .ref d,cs,S,h=>by rw[al]at h;obtain⟨b,o,dc,rfl,_⟩:=h;rfl
 | .bh d,cs,S,h=>by rw[al]at h;obtain⟨b,o,dc,_,_,rfl,_⟩:=h;rfl
 | .agg ar,cs,S,h=>by rw[al]at h;exact aQ.length ar _ _ h
 | .tuple ar,cs,S,h=>by rw[al]at h;exact aQ.length ar _ _ h
 | .fn _ _,cs,S,h=>by rw[al]at h;obtain⟨arr,rfl,_⟩:=h;rfl
 | .h _ _,cs,S,h=>by rw[al]at h;exact h.elim
 | .ao _ _,cs,S,h=>by rw[al]at h;exact h.elim
 | .U _ _,cs,S,h=>by rw[al]at h;exact h.elim
 | .cS _,cs,S,h=>by rw[al]at h;obtain⟨v,_,rfl⟩:=jP.one h;rfl
 | .er _ _,cs,S,h=>by rw[al]at h;obtain⟨arr,rfl,_⟩:=h;rfl
theorem aQ.length {w:World} {F:Nat->Prop}:∀(ds:Xy) (cs:Xw) (S:Nat->Prop),aQ w F ds cs S->cs.length=I.c3 ds
 |[],cs,S,h=>by rw[aQ]at h;subst h;rfl
 |d::ds,cs,S,h=>by
  rw[aQ]at h;obtain⟨bx,bE,S1,S2,rfl,ad,aB,_⟩:=h;rw[length_append,al.length d _ _ ad,aQ.length ds _ _ aB,I.c3]
end
mutual
def I.share:I->I
 | .aw _ xs=>.slice (I.shares xs)
 | .bh d=>.ref d.share
 | .slice xs=>.slice (I.shares xs)
 | .ref d=>.ref d.share
 | .agg ar=>.agg (I.shares ar)
 | .tuple ar=>.tuple (I.shares ar)
 | .cS _=>.hole
 | .er _ _=>.hole
 |d=>d
def I.shares:Xy->Xy
 |[]=>[]
 |d::ds=>d.share::I.shares ds
end
theorem I.o5 (ds:Xy):I.shares ds=ds.map I.share:=by
 induction ds with
 |nil=>rfl
 |cons d ds ih=>simp[I.shares,ih]
mutual
theorem I.vD:∀d:I,d.share.wd=d.wd
 | .hole=>rfl
 | .bool _=>rfl
 | .dR=>rfl
 | .int _ _=>rfl
 | .str _=>rfl
 | .cJ=>rfl
 | .a5=>rfl
 | .slice _=>rfl
 | .aw _ _=>rfl
 | .ref _=>rfl
 | .bh _=>rfl
 | .agg ar=>by simp only[I.share,I.wd];exact I.yN ar
 | .tuple ar=>by simp only[I.share,I.wd];exact I.yN ar
 | .fn _ _=>rfl
 | .h _ _=>rfl
 | .ao _ _=>rfl
 | .U _ _=>rfl
 | .cS _=>rfl
 | .er _ _=>rfl
theorem I.yN:∀ds:Xy,I.c3 (I.shares ds)=I.c3 ds
 |[]=>rfl
 |d::ds=>by simp only[I.shares,I.c3];rw[I.vD d,I.yN ds]
end
theorem rv {w:World} {b:Nat} {cur:Array Value} {e:TypeId} {fr:Nat×Nat} (h:w.heap[b]? =some (.cells cur e fr)) (n:Nat):gi w b 0 (cur.toList.take n):=by
 intro j c aj;rw[getElem?_take]at aj;split at aj
 .simp[World.cell?,h];simpa using aj
 .cases aj
mutual
theorem al.shared {w:World} {F bo:Nat->Prop} (a1:∀b,F b->bo b):
  ∀(d:I) (cs:Xw) (S:Nat->Prop),(∀b,S b->bo b)->al w F d cs S->al w bo d.share cs (λ_=>False)
 | .hole,_,_,_,h=>h
 | .bool _,_,_,_,h=>h
 | .dR,_,_,_,h=>h
 | .int _ _,_,_,_,h=>h
 | .str _,_,_,_,h=>h
 | .cJ,_,_,_,h=>h
 | .a5,_,_,_,h=>h
 | .slice xs,cs,S,bm,h=>by
   rw[I.share,al];rw[al]at h;rcases h with⟨rfl,a,c,rfl,aj⟩|⟨b,o,cap,dc,sz,ab,ad,aB,aY,bn,cb,cc⟩
   .exact .inl ⟨rfl,a,c,rfl,aj⟩
   .refine .inr ⟨b,o,cap,dc,sz,?_,a1 _ ad,?_,aY,?_,cb,aQ.shared a1 xs _ _ (λ_ h=>h.elim) cc⟩
    .simpa [I.o5]using ab
    .simpa [I.o5]using aB
    .intro d af;rw[I.o5]at af;obtain⟨a7,fG,rfl⟩:=mem_map.1 af;rw[I.vD];exact bn _ fG
 | .aw sz xs,cs,S,bm,h=>by
   rw[I.share,al];rw[al]at h;rcases h with⟨rfl,a,rfl⟩|⟨b,cap,cur,e,fr,aF,ab,ad,aB,aY,bn,cb,cc,ea,hH,gw,jQ⟩
   .exact .inl ⟨rfl,a,0,rfl,zero_le _,λ_=>rfl⟩
   .refine .inr ⟨b,0,cap,_,sz,?_,bm _ ad,?_,cb,?_,rv aB _,aQ.shared a1 xs _ _ (λc aj=>bm _ (gw _ aj)) hH⟩
    .simpa [I.o5]using ab
    .simpa [I.o5]using bn
    .intro d af;rw[I.o5]at af;obtain⟨a7,fG,rfl⟩:=mem_map.1 af;rw[I.vD];exact ea _ fG
 | .ref d,cs,S,bm,h=>by
   rw[I.share,al];rw[al]at h;obtain⟨b,o,dc,ab,ad,aB,aY⟩:=h;exact⟨b,o,dc,ab,a1 _ ad,aB,al.shared a1 d _ _ (λ_ h=>h.elim) aY⟩
 | .bh d,cs,S,bm,h=>by
   rw[I.share,al];rw[al]at h;obtain⟨b,cur,e,fr,aF,ab,ad,aB,aY,bn,cb,cc⟩:=h;refine⟨b,0,cur.toList,ab,bm _ ad,?_,al.shared a1 d _ _ (λc aj=>bm _ (cb _ aj)) bn⟩;have:=rv aB cur.toList.length
   rwa [take_length]at this
 | .agg ar,cs,S,bm,h=>by rw[I.share,al];rw[al]at h;exact aQ.shared a1 ar _ _ bm h
 | .tuple ar,cs,S,bm,h=>by rw[I.share,al];rw[al]at h;exact aQ.shared a1 ar _ _ bm h
 | .fn f caps,cs,S,bm,h=>by
   show al w bo (.fn f caps) cs _;rw[al]at h⊢;obtain⟨arr,ab,ad,aB⟩:=h;exact⟨arr,ab,ad,aQ.mono a1 caps _ _ _ (λ_ h=>h) aB⟩
 | .h _ _,_,_,_,h=>h
 | .ao _ _,_,_,_,h=>h
 | .U _ _,_,_,_,h=>h
 | .cS _,cs,S,bm,h=>by rw[al]at h;rw[I.share,al];exact jP.one h
 | .er _ _,cs,S,bm,h=>by rw[al]at h;obtain⟨arr,rfl,_⟩:=h;rw[I.share,al];exact⟨_,rfl,rfl⟩
theorem aQ.shared {w:World} {F bo:Nat->Prop} (a1:∀b,F b->bo b):
  ∀(ds:Xy) (cs:Xw) (S:Nat->Prop),(∀b,S b->bo b)->aQ w F ds cs S->aQ w bo (I.shares ds) cs (λ_=>False)
 |[],_,_,_,h=>h
 |d::ds,cs,S,bm,h=>by
  simp only[I.shares];rw[aQ]at h⊢;obtain⟨bx,bE,S1,S2,ab,ad,aB,aY,bn,cb⟩:=h;exact⟨bx,bE,_,_,ab,al.shared a1 d _ _ (λb U=>bm _ (aY _ U)) ad,aQ.shared a1 ds _ _ (λb U=>bm _ (bn _ U)) aB,λ_ h=>h,λ_ h=>h,λ_ h=>h.elim⟩
end
def I.sub:Xt->I->Option I
 |[],d=>some d
 |k::q,.agg ar=>match ar[k]? with
  |some d=>I.sub q d
  |none=>none
 |k::q,.tuple ar=>match ar[k]? with
  |some d=>I.sub q d
  |none=>none
 |i::q,.aw _ xs=>match xs[i]? with
  |some d=>I.sub q d
  |none=>none
 |0::q,.bh d=>I.sub q d
 |_::_,_=>none
def I.put:Xt->I->I->I
 |[],n,_=>n
 |k::q,n,.agg ar=>match ar[k]? with
  |some d=>.agg (ar.set k (I.put q n d))
  |none=>.agg ar
 |k::q,n,.tuple ar=>match ar[k]? with
  |some d=>.tuple (ar.set k (I.put q n d))
  |none=>.tuple ar
 |i::q,n,.aw sz xs=>match xs[i]? with
  |some d=>.aw sz (xs.set i (I.put q n d))
  |none=>.aw sz xs
 |0::q,n,.bh d=>.bh (I.put q n d)
 |_::_,_,d=>d
def k9 (w:World) (b o n:Nat):Xw:=(range n).map λj=>(w.cell? ⟨b,o+j,none⟩).getD undef
theorem gi.k9 {w:World} {b o:Nat} {cs:Xw} (h:gi w b o cs):k9 w b o cs.length=cs:=by
 unfold cM.k9;apply ext_getElem?;intro i;rw[getElem?_map];by_cases aE:i<cs.length
 .have:cs[i]? =some cs[i]:=getElem?_eq_getElem aE;simp[aE,h i _ this]
 .simp[aE]
def cu (w:World):Xt->I->Xw->Option (Nat×Nat)->Option (I×Xw×Option (Nat×Nat))
 |[],d,cs,a=>some (d,cs,a)
 |k::q,.agg ar,cs,a=>match ar[k]? with
  |some d=>cu w q d ((cs.drop (I.c3 (ar.take k))).take d.wd) (a.map λl=>(l.1,l.2+I.c3 (ar.take k)))
  |none=>none
 |k::q,.tuple ar,cs,a=>match ar[k]? with
  |some d=>cu w q d ((cs.drop (I.c3 (ar.take k))).take d.wd) (a.map λl=>(l.1,l.2+I.c3 (ar.take k)))
  |none=>none
 |i::q,.aw sz xs,cs,_=>match xs[i]?,cs with
  |some d,[.slice (some ⟨b,_,_⟩) _ _]=>cu w q d (k9 w b (i*sz) sz) (some (b,i*sz))
  |_,_=>none
 |0::q,.bh d,cs,_=>match cs with
  |[.pointer (some ⟨b,_,_⟩)]=>cu w q d (k9 w b 0 d.wd) (some (b,0))
  |_=>none
 |_::_,_,_,_=>none
theorem p3 (bx eB bE:Xw) (n m:Nat) (ab:bx.length=n) (ad:eB.length=m):((bx++(eB++bE)).drop n).take m=eB:=by
 rw[drop_left' ab,take_left' ad]
theorem aQ.pick {w:World} {F:Nat->Prop}:∀(ds:Xy) (cs:Xw) (S:Nat->Prop) (k:Nat) (d:I),
  aQ w F ds cs S->ds[k]? =some d->∃(bx eB bE:Xw) (S1 gj:Nat->Prop),cs=bx++(eB++bE)/\bx.length=I.c3 (ds.take k)/\
   (∀b,S1 b->S b)/\(∀b,gj b->S b)/\(∀b,S1 b->¬gj b)/\al w F d eB gj/\
   ∀(az:World) (a7:I) (p4:Xw) (aF:Nat->Prop),(∀b,F b->az.heap[b]? =w.heap[b]?)->(∀b,S1 b->az.heap[b]? =w.heap[b]?)->
    al az F a7 p4 aF->(∀b,aF b->¬S1 b)->aQ az F (ds.set k a7) (bx++(p4++bE)) (λb=>S1 b\/aF b)
 |[],_,_,_,_,_,ai=>by simp at ai
 |x::ds,cs,S,0,d,h,ai=>by
  rw[aQ]at h;obtain⟨bx,bE,fM,e3,rfl,ab,ad,bQ,U,kj⟩:=h;simp at ai;subst ai;refine⟨[],bx,bE,e3,fM,rfl,rfl,U,bQ,λb U bQ=>kj _ bQ U,ab,?_⟩;intro az a7 p4 aF a1 bm af hz;simp only[set_cons_zero,nil_append];rw[aQ];exact⟨p4,bE,aF,e3,rfl,af,aQ.frame a1 _ _ _ bm ad,λb h=>.inr h,λb h=>.inl h,λb h=>hz b h⟩
 |x::ds,cs,S,k+1,d,h,ai=>by
  rw[aQ]at h;obtain⟨mr,Jy,fM,e3,rfl,ab,ad,bQ,U,kj⟩:=h;simp only[getElem?_cons_succ]at ai;have hl:=al.length _ _ _ ab;obtain⟨bx,eB,bE,S1,gj,rfl,Jz,o4,mq,p2,td,yO⟩:=aQ.pick ds Jy e3 k d ad ai;refine⟨mr++bx,eB,bE,λb=>fM b\/S1 b,gj,by simp,by simp[I.c3,hl,Jz],?_,λb h=>U _ (mq _ h),?_,td,?_⟩
  .rintro b (h|h)
   .exact bQ _ h
   .exact U _ (o4 _ h)
  .rintro b (h|h) ai
   .exact kj _ h (mq _ ai)
   .exact p2 _ h ai
  .intro az a7 p4 aF a1 bm af hz;simp only[set_cons_succ];rw[aQ];refine⟨mr,bx++(p4++bE),fM,λb=>S1 b\/aF b,by simp,al.frame a1 _ _ _ (λb U=>bm b (.inl U)) ab,
    yO az a7 p4 aF a1 (λb U=>bm b (.inr U)) af (λb U aj=>hz b U (.inr aj)),λb h=>.inl (.inl h),?_,?_⟩
   .rintro b (h|h)
    .exact .inl (.inr h)
    .exact .inr h
   .rintro b h (bj|bj)
    .exact kj _ h (o4 _ bj)
    .exact hz _ bj (.inl h)
theorem yP:∀(ar:Xy) (k:Nat) (x y:I),ar[k]? =some x->y.wd=x.wd->I.c3 (ar.set k y)=I.c3 ar:=by
 intro ar;induction ar with
 |nil=>intro k x y h;simp at h
 |cons a ar ih=>
  intro k x y h e;cases k with
  |zero=>simp at h;subst h;simp[I.c3,e]
  |succ k=>simp at h;simp[I.c3,ih k x y h e]
theorem n4 {sz:Nat}:∀(xs:Xy),(∀d∈xs,d.wd=sz)->I.c3 xs=xs.length*sz
 |[],_=>by simp[I.c3]
 |x::xs,h=>by
  rw[I.c3,h x (by simp),n4 xs (λd af=>h d (by simp[af])),length_cons,Nat.add_mul,Nat.one_mul,Nat.add_comm]
theorem I.ry:∀(q:Xt) (av d a7:I),I.sub q av=some d->a7.wd=d.wd->(I.put q a7 av).wd=av.wd:=by
 intro q;induction q with
 |nil=>intro av d a7 h e;simp[I.sub]at h;subst h;simpa [I.put]using e
 |cons k q ih=>
  intro av d a7 h e;cases av with
  |agg ar=>
   simp only[I.sub]at h;split at h
   .rename_i x an;simp only[I.put,an,I.wd];exact yP _ _ _ _ an (ih _ _ _ h e)
   .cases h
  |tuple ar=>
   simp only[I.sub]at h;split at h
   .rename_i x an;simp only[I.put,an,I.wd];exact yP _ _ _ _ an (ih _ _ _ h e)
   .cases h
  |aw sz xs=>
   simp only[I.sub]at h;split at h
   .rename_i x an;simp only[I.put,an,I.wd]
   .cases h
  |bh x=>
   cases k with
   |zero=>simp only[I.put,I.wd]
   |succ k=>simp[I.sub]at h
  |_=>simp[I.sub]at h
theorem yQ {sz:Nat} {xs:Xy} {i:Nat} {y:I} (h:∀d∈xs,d.wd=sz) (a2:y.wd=sz):∀d∈xs.set i y,d.wd=sz:=by
 intro d af;rcases mem_or_eq_of_mem_set af with af|rfl
 .exact h d af
 .exact a2
theorem rz {w:World} {b:Nat} {cur:Array Value} {e:TypeId} {fr:Nat×Nat} (h:w.heap[b]? =some (.cells cur e fr)) {l m r:Xw} (aj:cur.toList=l++(m++r)):
  k9 w b l.length m.length=m:=by
 refine gi.k9 (λj c b6=>?_);have c8:j<m.length:=(List.getElem?_eq_some_iff.1 b6).1;have:cur.toList[l.length+j]? =some c:=by
  rw[aj,getElem?_append_right (by omega),getElem?_append_left (by omega)];rw[<-b6];congr 1;omega
 simp[World.cell?,h];simpa using this
def Flat (w:World) (F:Nat->Prop) (q:Xt) (av:I) (cs:Xw) (a:Option (Nat×Nat)) (d:I) (b4:Xw) (b7:Option (Nat×Nat)) (c6:Nat->Prop):Prop:=
 ∃l r:Xw,cs=l++(b4++r)/\b7=a.map (λx=>(x.1,x.2+l.length))/\
  ∀(az:World) (a7:I) (eC:Xw) (aF:Nat->Prop),(∀b,F b->az.heap[b]? =w.heap[b]?)->(∀b,c6 b->az.heap[b]? =w.heap[b]?)->
   a7.wd=d.wd->al az F a7 eC aF->(∀b,aF b->¬c6 b)->al az F (I.put q a7 av) (l++(eC++r)) (λb=>c6 b\/aF b)
def yR (w:World) (F:Nat->Prop) (q:Xt) (av:I) (cs:Xw) (d:I) (b4:Xw) (b7:Option (Nat×Nat)) (c6:Nat->Prop):Prop:=
 ∃(b:Nat) (cur:Array Value) (e:TypeId) (fr:Nat×Nat) (l r:Xw),b7=some (b,l.length)/\c6 b/\w.heap[b]? =some (.cells cur e fr)/\kD fr cur.size/\cur.toList=l++(b4++r)/\
  ∀(az:World) (a7:I) (eC:Xw) (aF:Nat->Prop),(∀b,F b->az.heap[b]? =w.heap[b]?)->(∀c,c6 c->c≠b->az.heap[c]? =w.heap[c]?)->
   az.heap[b]? =some (.cells (l++(eC++r)).toArray e fr)->
   a7.wd=d.wd->al az F a7 eC aF->(∀b,aF b->¬c6 b)->al az F (I.put q a7 av) cs (λb=>c6 b\/aF b)
theorem ctx {w:World} {F:Nat->Prop}:∀(q:Xt) (av:I) (cs:Xw) (S:Nat->Prop) (a:Option (Nat×Nat)) (d:I),
  al w F av cs S->I.sub q av=some d->∃(b4:Xw) (b7:Option (Nat×Nat)) (c6 dY:Nat->Prop),cu w q av cs a=some (d,b4,b7)/\
   (∀b,c6 b->S b)/\(∀b,dY b->S b)/\(∀b,c6 b->¬dY b)/\al w F d b4 dY/\(Flat w F q av cs a d b4 b7 c6\/yR w F q av cs d b4 b7 c6):=by
 intro q;induction q with
 |nil=>
  intro av cs S a d h af;simp[I.sub]at af;subst af;refine⟨cs,a,λ_=>False,S,rfl,λ_ h=>h.elim,λ_ h=>h,λ_ h=>h.elim,h,.inl ⟨[],[],by simp,?_,?_⟩⟩
  .cases a<;>simp
  .intro az a7 eC aF _ _ hw fG _;simp only[I.put,nil_append,append_nil];exact al.mono (λ_ h=>h) _ _ _ _ (λb h=>.inr h) fG
 |cons k q ih=>
  have fields:∀(mk:Xy->I) (yS:∀(w:World) (F:Nat->Prop) (ar:Xy) (cs:Xw) (S:Nat->Prop),al w F (mk ar) cs S=aQ w F ar cs S) (ar:Xy) (cs:Xw) (S:Nat->Prop) (a:Option (Nat×Nat)) (x d:I),
    (hW:∀a7,I.put (k::q) a7 (mk ar)=mk (ar.set k (I.put q a7 x)))->aQ w F ar cs S->ar[k]? =some x->I.sub q x=some d->
    ∃(b4:Xw) (b7:Option (Nat×Nat)) (c6 dY:Nat->Prop),cu w q x ((cs.drop (I.c3 (ar.take k))).take x.wd) (a.map λl=>(l.1,l.2+I.c3 (ar.take k)))=some (d,b4,b7)/\
    (∀b,c6 b->S b)/\(∀b,dY b->S b)/\(∀b,c6 b->¬dY b)/\al w F d b4 dY/\(Flat w F (k::q) (mk ar) cs a d b4 b7 c6\/yR w F (k::q) (mk ar) cs d b4 b7 c6):=by
   intro mk yS ar cs S a x d hW h an af;obtain⟨bx,eB,bE,S1,gj,rfl,fW,dS,e9,fX,et,i_⟩:=aQ.pick ar cs S k x h an;have hl:=al.length _ _ _ et;rw[p3 bx eB bE _ _ fW hl];obtain⟨b4,b7,c6,dY,e4,aO,a3,bJ,cN,dD⟩:=ih x _ gj (a.map λl=>(l.1,l.2+I.c3 (ar.take k))) d et af;refine⟨b4,b7,λb=>S1 b\/c6 b,dY,e4,?_,λb U=>e9 _ (a3 _ U),?_,cN,?_⟩
   .rintro b (h|h)
    .exact dS _ h
    .exact e9 _ (aO _ h)
   .rintro b (h|h) af
    .exact fX _ h (a3 _ af)
    .exact bJ _ h af
   .have dK:∀(b:Nat) (aF:Nat->Prop),(S1 b\/c6 b\/aF b)->((S1 b\/c6 b)\/aF b):=by
     rintro b aF (U|U|U)
     .exact .inl (.inl U)
     .exact .inl (.inr U)
     .exact .inr U
    rcases dD with⟨l,r,rfl,aS,aV⟩|⟨b,cur,e,fr,l,r,aM,aS,aV,bK,cn,bB⟩
    .refine .inl ⟨bx++l,r++bE,by simp,?_,?_⟩
     .rw[aS,<-fW];cases a<;>simp[Nat.add_assoc]
     .intro az a7 eC aF a1 bm hw fG hz;have dx:=aV az a7 eC aF a1 (λb U=>bm b (.inr U)) hw fG (λb U aj=>hz b U (.inr aj));have br:=i_ az _ _ _ a1 (λb U=>bm b (.inl U)) dx (by
       rintro b (U|U) ab
       .exact fX _ ab (aO _ U)
       .exact hz _ U (.inl ab))
      rw[hW,yS];have:=aQ.mono (λ_ h=>h) _ _ _ _ (λb=>dK b aF) br;simpa using this
    .refine .inr ⟨b,cur,e,fr,l,r,aM,.inr aS,aV,bK,cn,?_⟩;intro az a7 eC aF a1 bm kk hw fG hz;have dx:=bB az a7 eC aF a1 (λc aj=>bm c (.inr aj)) kk hw fG (λb U aj=>hz b U (.inr aj));have br:=i_ az _ _ _ a1 (λc aj=>bm c (.inl aj) (by rintro rfl;exact fX _ aj (aO _ aS))) dx (by
       rintro b (U|U) ab
       .exact fX _ ab (aO _ U)
       .exact hz _ U (.inl ab))
     rw[hW,yS];exact aQ.mono (λ_ h=>h) _ _ _ _ (λb=>dK b aF) br
  intro av cs S a d h af;cases av with
  |agg ar=>
   simp only[I.sub]at af;split at af
   .rename_i x an;rw[al]at h;have:=fields .agg (λ_ _ _ _ _=>by rw[al]) ar cs S a x d (λa7=>by simp only[I.put,an]) h an af;simpa only[cu,an]using this
   .cases af
  |tuple ar=>
   simp only[I.sub]at af;split at af
   .rename_i x an;rw[al]at h;have:=fields .tuple (λ_ _ _ _ _=>by rw[al]) ar cs S a x d (λa7=>by simp only[I.put,an]) h an af;simpa only[cu,an]using this
   .cases af
  |aw sz xs=>
   simp only[I.sub]at af;split at af
   .rename_i x an;rw[al]at h;rcases h with⟨rfl,_,rfl⟩|⟨b,cap,cur,e,fr,cW,rfl,ad,aB,aY,bn,cb,cc,ea,hH,gw,jQ⟩
    .simp at an
    .obtain⟨bx,eB,bE,S1,gj,p,fW,dS,e9,fX,et,i_⟩:=aQ.pick xs _ cW k x hH an;have hl:=al.length _ _ _ et;have JA:k<xs.length:=(List.getElem?_eq_some_iff.1 an).1;have te:x.wd=sz:=ea x (mem_of_getElem? an);have bG:I.c3 (xs.take k)=k*sz:=by
      rw[n4 _ (λd af=>ea d (mem_of_mem_take af))];rw[length_take,Nat.min_eq_left (by omega)]
     obtain⟨n5,iz⟩:∃n5,cur.toList=bx++(eB++(bE++n5)):=by
      refine⟨cur.toList.drop (xs.length*sz),?_⟩;have:=(take_append_drop (xs.length*sz) cur.toList).symm;rw[p]at this;simpa using this
     have h9:k9 w b (k*sz) sz=eB:=by
      have:=rz aB iz
      rwa [fW,bG,hl,te]at this
     obtain⟨b4,b7,c6,dY,e4,aO,a3,bJ,cN,dD⟩:=ih x _ gj (some (b,k*sz)) d et af;have hW:∀a7,I.put (k::q) a7 (.aw sz xs)= .aw sz (xs.set k (I.put q a7 x)):=λa7=>by simp only[I.put,an]
     refine⟨b4,b7,λc=>c=b\/S1 c\/c6 c,dY,?_,?_,λc aj=>gw _ (e9 _ (a3 _ aj)),?_,cN,.inr ?_⟩
     .simp only[cu,an,h9];exact e4
     .rintro c (rfl|h|h)
      .exact ad
      .exact gw _ (dS _ h)
      .exact gw _ (e9 _ (aO _ h))
     .rintro c (rfl|h|h) af
      .exact jQ (e9 _ (a3 _ af))
      .exact fX _ h (a3 _ af)
      .exact bJ _ h af
     .have iM:∀a7,a7.wd=d.wd->(I.put q a7 x).wd=sz:=λa7 hw=>(I.ry q x d a7 af hw).trans te;rcases dD with⟨l,r,rfl,aS,aV⟩|⟨eh,kF,e_,rA,l,r,aM,aS,aV,bK,cn,bB⟩
      .refine⟨b,cur,e,fr,bx++l,r++(bE++n5),?_,.inl rfl,aB,aY.low,?_,?_⟩
       .rw[aS];simp[fW,bG]
       .rw[iz];simp
       .intro az a7 eC aF a1 bm kk hw fG hz;have dx:=aV az a7 eC aF a1 (λc aj=>bm c (.inr (.inr aj)) (by rintro rfl;exact jQ (e9 _ (aO _ aj)))) hw fG (λb U aj=>hz b U (.inr (.inr aj)));have br:=i_ az _ _ _ a1 (λc aj=>bm c (.inr (.inl aj)) (by rintro rfl;exact jQ (dS _ aj))) dx (by
         rintro b (U|U) ab
         .exact fX _ ab (aO _ U)
         .exact hz _ U (.inr (.inl ab)))
        have tf:=al.length _ _ _ fG;have tg:=al.length _ _ _ cN;rw[hW,al];refine .inr ⟨b,cap,_,e,fr,λb=>S1 b\/c6 b\/aF b,by simp,.inl (.inl rfl),kk,?_,by simpa using bn,cb,?_,yQ ea (iM a7 hw),?_,?_,?_⟩
        .have:(bx++l++(eC++(r++(bE++n5)))).toArray.size=cur.size:=by
          have:cur.size=cur.toList.length:=by simp
          rw[this,iz];simp[tf,tg,hw]
         rw[this];exact aY
        .rw[<-cc];have:cur.size=cur.toList.length:=by simp
         rw[this,iz];simp[tf,tg,hw]
        .have hlen:(bx++(l++(eC++r)++bE)).length=xs.length*sz:=by
          have:=congrArg length p;rw[length_take,Nat.min_eq_left (by simp[cc];exact mul_le_mul_right _ bn)]at this;rw[this];simp[tf,tg,hw]
         have:(bx++l++(eC++(r++(bE++n5))))=(bx++(l++(eC++r)++bE))++n5:=by simp
         rw[length_set];simp only[this];rw[take_left' hlen];exact br
        .rintro c (h|h|h)
         .exact .inl (.inr (.inl h))
         .exact .inl (.inr (.inr h))
         .exact .inr h
        .rintro(h|h|h)
         .exact jQ (dS _ h)
         .exact jQ (e9 _ (aO _ h))
         .exact hz _ h (.inl rfl)
      .refine⟨eh,kF,e_,rA,l,r,aM,.inr (.inr aS),aV,bK,cn,?_⟩;intro az a7 eC aF a1 bm kk hw fG hz;have dx:=bB az a7 eC aF a1 (λc aj c4=>bm c (.inr (.inr aj)) c4) kk hw fG (λb U aj=>hz b U (.inr (.inr aj)));have c4:∀c,S1 c->c≠eh:=by rintro c aj rfl;exact fX _ aj (aO _ aS)
       have br:=i_ az _ _ _ a1 (λc aj=>bm c (.inr (.inl aj)) (c4 c aj)) dx (by
        rintro b (U|U) ab
        .exact fX _ ab (aO _ U)
        .exact hz _ U (.inr (.inl ab)))
       have yT:b≠eh:=by rintro rfl;exact jQ (e9 _ (aO _ aS))
       rw[hW,al];refine .inr ⟨b,cap,cur,e,fr,λb=>S1 b\/c6 b\/aF b,by simp,.inl (.inl rfl),(bm b (.inl rfl) yT).trans aB,aY,by simpa using bn,cb,cc,yQ ea (iM a7 hw),?_,?_,?_⟩
       .rw[length_set,p];exact br
       .rintro c (h|h|h)
        .exact .inl (.inr (.inl h))
        .exact .inl (.inr (.inr h))
        .exact .inr h
       .rintro(h|h|h)
        .exact jQ (dS _ h)
        .exact jQ (e9 _ (aO _ h))
        .exact hz _ h (.inl rfl)
   .cases af
  |bh x=>
   cases k with
   |succ k=>simp[I.sub]at af
   |zero=>
    simp only[I.sub]at af;rw[al]at h;obtain⟨b,cur,e,fr,cW,rfl,ad,aB,aY,bn,cb,cc⟩:=h;have hl:=al.length _ _ _ bn;have h9:k9 w b 0 x.wd=cur.toList:=by
     have:=rz (l:=[]) (m:=cur.toList) (r:=[]) aB (by simp)
     rwa [hl]at this
    obtain⟨b4,b7,c6,dY,e4,aO,a3,bJ,cN,dD⟩:=ih x _ cW (some (b,0)) d bn af;have hW:∀a7,I.put (0::q) a7 (.bh x)= .bh (I.put q a7 x):=λa7=>rfl;refine⟨b4,b7,λc=>c=b\/c6 c,dY,?_,?_,λc aj=>cb _ (a3 _ aj),?_,cN,.inr ?_⟩
    .simp only[cu,h9];exact e4
    .rintro c (rfl|h)
     .exact ad
     .exact cb _ (aO _ h)
    .rintro c (rfl|h) af
     .exact cc (a3 _ af)
     .exact bJ _ h af
    .rcases dD with⟨l,r,aM,aS,aV⟩|⟨eh,kF,e_,rA,l,r,aM,aS,aV,bK,cn,bB⟩
     .refine⟨b,cur,e,fr,l,r,?_,.inl rfl,aB,aY,aM,?_⟩
      .rw[aS];simp
      .intro az a7 eC aF a1 bm kk hw fG hz;have dx:=aV az a7 eC aF a1 (λc aj=>bm c (.inr aj) (by rintro rfl;exact cc (aO _ aj))) hw fG (λb U aj=>hz b U (.inr aj));have tf:=al.length _ _ _ fG;have tg:=al.length _ _ _ cN;rw[hW,al];refine⟨b,_,e,fr,λb=>c6 b\/aF b,rfl,.inl (.inl rfl),kk,?_,dx,?_,?_⟩
       .have:(l++(eC++r)).toArray.size=cur.size:=by
         have:cur.size=cur.toList.length:=by simp
         rw[this,aM];simp[tf,tg,hw]
        rw[this];exact aY
       .rintro c (h|h)
        .exact .inl (.inr h)
        .exact .inr h
       .rintro(h|h)
        .exact cc (aO _ h)
        .exact hz _ h (.inl rfl)
     .refine⟨eh,kF,e_,rA,l,r,aM,.inr aS,aV,bK,cn,?_⟩;intro az a7 eC aF a1 bm kk hw fG hz;have dx:=bB az a7 eC aF a1 (λc aj c4=>bm c (.inr aj) c4) kk hw fG (λb U aj=>hz b U (.inr aj));have yT:b≠eh:=by rintro rfl;exact cc (aO _ aS)
      rw[hW,al];refine⟨b,cur,e,fr,λb=>c6 b\/aF b,rfl,.inl (.inl rfl),(bm b (.inl rfl) yT).trans aB,aY,dx,?_,?_⟩
      .rintro c (h|h)
       .exact .inl (.inr h)
       .exact .inr h
      .rintro(h|h)
       .exact cc (aO _ h)
       .exact hz _ h (.inl rfl)
  |_=>simp[I.sub]at af
mutual
def I.plain:I->Bool
 | .aw _ _=>false
 | .bh _=>false
 | .cS _=>false
 | .er _ _=>false
 | .agg ar=>I.dz ar
 | .tuple ar=>I.dz ar
 |_=>true
def I.dz:Xy->Bool
 |[]=>true
 |d::ds=>d.plain&&I.dz ds
end
mutual
def I.cj:I->I
 | .aw _ _=>.hole
 | .bh _=>.hole
 | .cS _=>.hole
 | .er _ _=>.hole
 | .agg ar=>.agg (I.jt ar)
 | .tuple ar=>.tuple (I.jt ar)
 |d=>d
def I.jt:Xy->Xy
 |[]=>[]
 |d::ds=>d.cj::I.jt ds
end
mutual
theorem I.o6:∀d:I,d.cj.wd=d.wd
 | .hole=>rfl
 | .bool _=>rfl
 | .dR=>rfl
 | .int _ _=>rfl
 | .str _=>rfl
 | .cJ=>rfl
 | .a5=>rfl
 | .slice _=>rfl
 | .aw _ _=>rfl
 | .ref _=>rfl
 | .bh _=>rfl
 | .agg ar=>by simp only[I.cj,I.wd];exact I.yU ar
 | .tuple ar=>by simp only[I.cj,I.wd];exact I.yU ar
 | .fn _ _=>rfl
 | .h _ _=>rfl
 | .ao _ _=>rfl
 | .U _ _=>rfl
 | .cS _=>rfl
 | .er _ _=>rfl
theorem I.yU:∀ds:Xy,I.c3 (I.jt ds)=I.c3 ds
 |[]=>rfl
 |d::ds=>by simp only[I.jt,I.c3];rw[I.o6 d,I.yU ds]
end
mutual
theorem al.cj {w:World} {F:Nat->Prop}:∀(d:I) (cs:Xw) (S aF:Nat->Prop),al w F d cs S->al w F d.cj cs aF
 | .hole,_,_,_,h=>h
 | .bool _,_,_,_,h=>h
 | .dR,_,_,_,h=>h
 | .int _ _,_,_,_,h=>h
 | .str _,_,_,_,h=>h
 | .cJ,_,_,_,h=>h
 | .a5,_,_,_,h=>h
 | .slice xs,cs,S,aF,h=>by
   show al w F (.slice xs) cs aF;rw[al]at h⊢;exact h
 | .aw sz xs,cs,S,aF,h=>by
   rw[I.cj,al];rw[al]at h;rcases h with⟨_,_,rfl⟩|⟨b,cap,cur,e,fr,cW,rfl,_⟩
   .exact⟨_,rfl,rfl⟩
   .exact⟨_,rfl,rfl⟩
 | .ref d,cs,S,aF,h=>by
   show al w F (.ref d) cs aF;rw[al]at h⊢;exact h
 | .bh d,cs,S,aF,h=>by
   rw[I.cj,al];rw[al]at h;obtain⟨b,cur,e,fr,cW,rfl,_⟩:=h;exact⟨_,rfl,rfl⟩
 | .agg ar,cs,S,aF,h=>by rw[I.cj,al];rw[al]at h;exact aQ.cj ar _ _ _ h
 | .tuple ar,cs,S,aF,h=>by rw[I.cj,al];rw[al]at h;exact aQ.cj ar _ _ _ h
 | .fn _ _,_,_,_,h=>h
 | .h _ _,_,_,_,h=>h
 | .ao _ _,_,_,_,h=>h
 | .U _ _,_,_,_,h=>h
 | .cS _,_,_,_,h=>by rw[al]at h;rw[I.cj,al];exact jP.one h
 | .er _ _,_,_,_,h=>by rw[al]at h;obtain⟨arr,rfl,_⟩:=h;rw[I.cj,al];exact⟨_,rfl,rfl⟩
theorem aQ.cj {w:World} {F:Nat->Prop}:∀(ds:Xy) (cs:Xw) (S aF:Nat->Prop),aQ w F ds cs S->aQ w F (I.jt ds) cs aF
 |[],_,_,_,h=>h
 |d::ds,cs,S,aF,h=>by
  rw[I.jt,aQ];rw[aQ]at h;obtain⟨bx,bE,S1,S2,ab,ad,aB,aY,bn,cb⟩:=h;exact⟨bx,bE,λ_=>False,λ_=>False,ab,al.cj d _ _ _ ad,aQ.cj ds _ _ _ aB,λ_ h=>h.elim,λ_ h=>h.elim,λ_ h=>h.elim⟩
end
mutual
theorem al.plain {w:World} {F:Nat->Prop}:∀(d:I) (cs:Xw) (S aF:Nat->Prop),d.plain=true->al w F d cs S->al w F d cs aF
 | .hole,_,_,_,_,h=>h
 | .bool _,_,_,_,_,h=>h
 | .dR,_,_,_,_,h=>h
 | .int _ _,_,_,_,_,h=>h
 | .str _,_,_,_,_,h=>h
 | .cJ,_,_,_,_,h=>h
 | .a5,_,_,_,_,h=>h
 | .slice xs,cs,S,aF,_,h=>by rw[al]at h⊢;exact h
 | .aw sz xs,cs,S,aF,ao,h=>by simp[I.plain]at ao
 | .ref d,cs,S,aF,_,h=>by rw[al]at h⊢;exact h
 | .bh d,cs,S,aF,ao,h=>by simp[I.plain]at ao
 | .agg ar,cs,S,aF,ao,h=>by rw[al]at h⊢;exact aQ.plain ar _ _ _ ao h
 | .tuple ar,cs,S,aF,ao,h=>by rw[al]at h⊢;exact aQ.plain ar _ _ _ ao h
 | .fn _ _,_,_,_,_,h=>h
 | .h _ _,_,_,_,_,h=>h
 | .ao _ _,_,_,_,_,h=>h
 | .U _ _,_,_,_,_,h=>h
 | .cS _,_,_,_,ao,_=>by simp[I.plain]at ao
 | .er _ _,_,_,_,ao,_=>by simp[I.plain]at ao
theorem aQ.plain {w:World} {F:Nat->Prop}:∀(ds:Xy) (cs:Xw) (S aF:Nat->Prop),I.dz ds=true->aQ w F ds cs S->aQ w F ds cs aF
 |[],_,_,_,_,h=>h
 |d::ds,cs,S,aF,ao,h=>by
  rw[aQ]at h⊢;simp only[I.dz,Bool.and_eq_true]at ao;obtain⟨bx,bE,S1,S2,ab,ad,aB,aY,bn,cb⟩:=h;exact⟨bx,bE,λ_=>False,λ_=>False,ab,al.plain d _ _ _ ao.1 ad,aQ.plain ds _ _ _ ao.2 aB,λ_ h=>h.elim,λ_ h=>h.elim,λ_ h=>h.elim⟩
end
def I.ei:Xt->I->Bool
 |[],_=>false
 |k::q,.agg ar=>match ar[k]? with
  |some d=>I.ei q d
  |none=>false
 |k::q,.tuple ar=>match ar[k]? with
  |some d=>I.ei q d
  |none=>false
 |_::_,.aw _ _=>true
 |_::_,.bh _=>true
 |_::_,_=>false
theorem vE {ar:Xy} (h:I.dz ar=true) {k:Nat} {d:I} (ai:ar[k]? =some d):d.plain=true:=by
 induction ar generalizing k with
 |nil=>simp at ai
 |cons a ar ih=>
  simp only[I.dz,Bool.and_eq_true]at h;cases k with
  |zero=>simp at ai;subst ai;exact h.1
  |succ k=>simp at ai;exact ih h.2 ai
theorem I.Dp:∀(q:Xt) (d:I),d.plain=true->I.ei q d=false:=by
 intro q;induction q with
 |nil=>intros;rfl
 |cons k q ih=>
  intro d af;cases d<;>first|rfl|(simp[I.plain]at af;done)|skip
  all_goals
   simp only[I.ei];split
   .rename_i ar x an;exact ih _ (vE (by simpa [I.plain]using af) an)
   .rfl
theorem I.yV:∀(q:Xt) (d e:I),d.plain=true->I.sub q d=some e->e.plain=true:=by
 intro q;induction q with
 |nil=>intro d e af h;simp[I.sub]at h;exact h▸af
 |cons k q ih=>
  intro d e af h;cases d<;>first|(simp[I.plain]at af;done)|(simp[I.sub]at h;done)|skip
  all_goals
   simp only[I.sub]at h;split at h
   .rename_i ar x an;exact ih _ _ (vE (by simpa [I.plain]using af) an) h
   .cases h
theorem vF {w az:World} {F:Nat->Prop}:∀(q:Xt) (av:I) (cs:Xw) (S:Nat->Prop) (a:Option (Nat×Nat)) (d:I),
  al w F av cs S->I.sub q av=some d->(∀b,S b->az.heap[b]? =w.heap[b]?)->cu az q av cs a=cu w q av cs a:=by
 intro q;induction q with
 |nil=>intros;rfl
 |cons k q ih=>
  have fields:∀(ar:Xy) (cs:Xw) (S:Nat->Prop) (a:Option (Nat×Nat)) (x d:I),aQ w F ar cs S->ar[k]? =some x->I.sub q x=some d->
    (∀b,S b->az.heap[b]? =w.heap[b]?)->
    cu az q x ((cs.drop (I.c3 (ar.take k))).take x.wd) (a.map λl=>(l.1,l.2+I.c3 (ar.take k)))=cu w q x ((cs.drop (I.c3 (ar.take k))).take x.wd) (a.map λl=>(l.1,l.2+I.c3 (ar.take k))):=by
   intro ar cs S a x d h an af bm;obtain⟨bx,eB,bE,S1,gj,rfl,fW,dS,e9,fX,et,i_⟩:=aQ.pick ar cs S k x h an;rw[p3 bx eB bE _ _ fW (al.length _ _ _ et)];exact ih x eB gj _ d et af (λb U=>bm b (e9 _ U))
  intro av cs S a d h af bm;cases av with
  |agg ar=>
   simp only[I.sub]at af;split at af
   .rename_i x an;rw[al]at h;simp only[cu,an];exact fields ar cs S a x d h an af bm
   .cases af
  |tuple ar=>
   simp only[I.sub]at af;split at af
   .rename_i x an;rw[al]at h;simp only[cu,an];exact fields ar cs S a x d h an af bm
   .cases af
  |aw sz xs=>
   simp only[I.sub]at af;split at af
   .rename_i x an;rw[al]at h;rcases h with⟨rfl,_,rfl⟩|⟨b,cap,cur,e,fr,cW,rfl,ad,aB,aY,bn,cb,cc,ea,hH,gw,jQ⟩
    .simp at an
    .obtain⟨bx,eB,bE,S1,gj,p,fW,dS,e9,fX,et,i_⟩:=aQ.pick xs _ cW k x hH an;have hl:=al.length _ _ _ et;have JA:k<xs.length:=(List.getElem?_eq_some_iff.1 an).1;have te:x.wd=sz:=ea x (mem_of_getElem? an);have bG:I.c3 (xs.take k)=k*sz:=by
      rw[n4 _ (λd af=>ea d (mem_of_mem_take af))];rw[length_take,Nat.min_eq_left (by omega)]
     obtain⟨n5,iz⟩:∃n5,cur.toList=bx++(eB++(bE++n5)):=by
      refine⟨cur.toList.drop (xs.length*sz),?_⟩;have:=(take_append_drop (xs.length*sz) cur.toList).symm;rw[p]at this;simpa using this
     have h9:k9 w b (k*sz) sz=eB:=by
      have:=rz aB iz
      rwa [fW,bG,hl,te]at this
     have yW:k9 az b (k*sz) sz=eB:=by
      have:=rz ((bm b ad).trans aB) iz
      rwa [fW,bG,hl,te]at this
     simp only[cu,an,h9,yW];exact ih x eB gj _ d et af (λc aj=>bm c (gw _ (e9 _ aj)))
   .cases af
  |bh x=>
   cases k with
   |succ k=>simp[I.sub]at af
   |zero=>
    simp only[I.sub]at af;rw[al]at h;obtain⟨b,cur,e,fr,cW,rfl,ad,aB,aY,bn,cb,cc⟩:=h;have hl:=al.length _ _ _ bn;have h9:k9 w b 0 x.wd=cur.toList:=by
     have:=rz (l:=[]) (m:=cur.toList) (r:=[]) aB (by simp)
     rwa [hl]at this
    have yW:k9 az b 0 x.wd=cur.toList:=by
     have:=rz (l:=[]) (m:=cur.toList) (r:=[]) ((bm b ad).trans aB) (by simp)
     rwa [hl]at this
    simp only[cu,h9,yW];exact ih x cur.toList cW _ d bn af (λc aj=>bm c (cb _ aj))
  |_=>simp[I.sub]at af
def gk:Value->Xw
 | .agg cs=>cs.toList
 |v=>[v]
def bL:Value->Xw
 | .tuple vs=>vs.toList.flatMap gk
 |v=>gk v
def gN:I->Value->Prop
 | .agg _,v=>∃arr,v= .agg arr
 |_,v=>Value.eZ v=true
def cO:I->Value->Prop
 | .tuple ds,v=>∃arr:Array Value,v= .tuple arr/\arr.size=ds.length/\∀(k:Nat) (d:I) (x:Value),ds[k]? =some d->arr[k]? =some x->gN d x/\(∀vs,d≠.tuple vs)/\(gk x).length=d.wd
 |d,v=>gN d v
abbrev ah:=Nat->I
mutual
def aA (w:World) (F:Nat->Prop) (s:ah) (aq:Nat->Value):I->Value->(Nat->Prop)->Prop
 | .hole,_,_=>True
 | .h x q,v,_=>∀d,I.sub q (s x)=some d->d.plain=false->∃b4 a,cu w q (s x) (bL (aq x)) none=some (d,b4,a)/\bL v=b4/\cO d v
 | .ao x q,v,_=>∀d,I.sub q (s x)=some d->I.ei q (s x)=true->∃b4 b o,cu w q (s x) (bL (aq x)) none=some (d,b4,some (b,o))/\v= .pointer (some ⟨b,o,none⟩)
 | .U x k,v,_=>(s x).plain=false->∃b cur e fr,v= .pointer (some ⟨b,k,none⟩)/\F b/\w.heap[b]? =some (.cells cur e fr)/\cur.toList=bL (aq x)
 | .fn f cap,v,_=>∃arr:Array Value,v= .func (.func f) #[] arr/\c5 w F s aq cap arr.toList
 | .bool b,v,S=>cO (.bool b) v/\al w F (.bool b) (bL v) S
 | .dR,v,S=>cO .dR v/\al w F .dR (bL v) S
 | .int k n,v,S=>cO (.int k n) v/\al w F (.int k n) (bL v) S
 | .str x,v,S=>cO (.str x) v/\al w F (.str x) (bL v) S
 | .cJ,v,S=>cO .cJ v/\al w F .cJ (bL v) S
 | .a5,v,S=>cO .a5 v/\al w F .a5 (bL v) S
 | .slice xs,v,S=>cO (.slice xs) v/\al w F (.slice xs) (bL v) S
 | .aw sz xs,v,S=>cO (.aw sz xs) v/\al w F (.aw sz xs) (bL v) S
 | .ref d,v,S=>cO (.ref d) v/\al w F (.ref d) (bL v) S
 | .bh d,v,S=>cO (.bh d) v/\al w F (.bh d) (bL v) S
 | .agg d,v,S=>cO (.agg d) v/\al w F (.agg d) (bL v) S
 | .tuple d,v,S=>cO (.tuple d) v/\al w F (.tuple d) (bL v) S
 | .cS o,v,S=>cO (.cS o) v/\al w F (.cS o) (bL v) S
 | .er f d,v,S=>cO (.er f d) v/\al w F (.er f d) (bL v) S
def c5 (w:World) (F:Nat->Prop) (s:ah) (aq:Nat->Value):Xy->Xw->Prop
 |[],vs=>vs=[]
 |d::ds,vs=>∃v hX,vs=v::hX/\aA w F s aq d v (λ_=>False)/\c5 w F s aq ds hX
end
def I.tree:I->Bool
 | .hole=>false
 | .h _ _=>false
 | .ao _ _=>false
 | .U _ _=>false
 | .fn _ _=>false
 |_=>true
theorem aA.bY {w:World} {F:Nat->Prop} {s:ah} {aq:Nat->Value} {d:I} {v:Value} {S:Nat->Prop} (aN:d.tree=true):
  aA w F s aq d v S↔(cO d v/\al w F d (bL v) S):=by
 cases d<;>first|(simp[I.tree]at aN;done)|rw[aA]
theorem gl {q:Xt} {av d:I} (h:I.sub q av=some d) (ao:d.plain=false\/I.ei q av=true):av.tree=true:=by
 cases q with
 |nil=>
  simp[I.sub]at h;subst h;rcases ao with ao|ao
  .cases av<;>first|rfl|(simp[I.plain]at ao)
  .simp[I.ei]at ao
 |cons k q=>cases av<;>first|rfl|(simp[I.sub]at h)
theorem yX {d:I} (h:d.plain=false):d.tree=true:=gl (q:=[]) (by simp only[I.sub]) (.inl h)
theorem aA.frame {w az:World} {F bo:Nat->Prop} {s:ah} {aq:Nat->Value} {Sx:Nat->Nat->Prop} (a1:∀b,F b->az.heap[b]? =w.heap[b]?) (Dq:∀b,F b->bo b)
  (bm:∀x b,Sx x b->az.heap[b]? =w.heap[b]?) (iN:∀x,aA w F s aq (s x) (aq x) (Sx x)):
  ∀(d:I) (v:Value) (S:Nat->Prop),(∀b,S b->az.heap[b]? =w.heap[b]?)->aA w F s aq d v S->aA az bo s aq d v S:=by
 have iO:∀(x:Nat) (q:Xt) (d:I),I.sub q (s x)=some d->(d.plain=false\/I.ei q (s x)=true)->cu az q (s x) (bL (aq x)) none=cu w q (s x) (bL (aq x)) none:=by
  intro x q d af ao;have aN:=gl af ao;have:=iN x;rw[aA.bY aN]at this;exact vF q _ _ (Sx x) none d this.2 af (bm x)
 have JB:∀(d:I) (v:Value) (S:Nat->Prop),d.tree=true->(∀b,S b->az.heap[b]? =w.heap[b]?)->aA w F s aq d v S->aA az bo s aq d v S:=by
  intro d v S aN p5 h;rw[aA.bY aN]at h⊢;exact⟨h.1,al.mono Dq _ _ _ _ (λ_ h=>h) (al.frame a1 _ _ _ p5 h.2)⟩
 have step:∀n,(∀(d:I) (v:Value) (S:Nat->Prop),SizeOf.sizeOf d<=n->(∀b,S b->az.heap[b]? =w.heap[b]?)->aA w F s aq d v S->aA az bo s aq d v S)/\
   (∀(ds:Xy) (vs:Xw),SizeOf.sizeOf ds<=n->c5 w F s aq ds vs->c5 az bo s aq ds vs):=by
  intro n;induction n with
  |zero=>
   refine⟨λd v S bz=>?_,λds vs bz=>?_⟩
   .cases d<;>simp at bz<;>omega
   .cases ds<;>simp at bz<;>omega
  |succ n ih=>
   refine⟨λd v S bz p5 h=>?_,λds vs bz h=>?_⟩
   .cases d with
    |hole=>rw[aA];trivial
    |h x q=>
     rw[aA]at h⊢;intro d af ao;rw[iO x q d af (.inl ao)];exact h d af ao
    |ao x q=>
     rw[aA]at h⊢;intro d af ao;rw[iO x q d af (.inr ao)];exact h d af ao
    |U x k=>
     rw[aA]at h⊢;intro ao;obtain⟨b,cur,e,fr,ab,ad,aB,aY⟩:=h ao;exact⟨b,cur,e,fr,ab,Dq b ad,(a1 b ad).trans aB,aY⟩
    |fn f cap=>
     rw[aA]at h⊢;obtain⟨arr,rfl,aj⟩:=h;exact⟨arr,rfl,ih.2 _ _ (by simp at bz;omega) aj⟩
    |_=>exact JB _ _ _ rfl p5 h
   .cases ds with
    |nil=>rw[c5]at h⊢;exact h
    |cons d ds=>
     rw[c5]at h⊢;obtain⟨v,hX,rfl,ab,ad⟩:=h;simp at bz;exact⟨v,hX,rfl,ih.1 _ _ _ (by omega) (λ_ h=>h.elim) ab,ih.2 _ _ (by omega) ad⟩
 intro d v S p5 h;exact(step (SizeOf.sizeOf d)).1 d v S (Nat.le_refl _) p5 h
mutual
def b8 (x:Nat):I->I
 | .h y q=>if y=x then .hole else .h y q
 | .ao y q=>if y=x then .hole else .ao y q
 | .U y k=>if y=x then .hole else .U y k
 | .fn f cap=>.fn f (hA x cap)
 |d=>d
def hA (x:Nat):Xy->Xy
 |[]=>[]
 |d::ds=>b8 x d::hA x ds
end
mutual
def bH (x:Nat):I->I
 | .h y q=>if y=x then(if q=[]then .h y q else .hole)else .h y q
 | .ao y q=>if y=x then .hole else .ao y q
 | .fn f cap=>.fn f (g4 x cap)
 |d=>d
def g4 (x:Nat):Xy->Xy
 |[]=>[]
 |d::ds=>bH x d::g4 x ds
end
def cl {α:Type} (f:Nat->α) (t:Nat) (v:α):Nat->α:=λu=>if u=t then v else f u
def jR (t:Nat) (s:ah):ah:=λu=>b8 t (s u)
def ft (t:Nat) (s:ah):ah:=λu=>bH t (s u)
theorem kG {α:Type} (f:Nat->α) (t:Nat) (v:α):cl f t v t=v:=by simp[cl]
theorem hg {α:Type} (f:Nat->α) {t u:Nat} (v:α) (h:u≠t):cl f t v u=f u:=by simp[cl,h]
theorem JC {t:Nat} {d:I} (h:d.tree=true):b8 t d=d:=by cases d<;>first|rfl|(simp[I.tree]at h)
theorem yY {t:Nat} {d:I} (h:d.tree=true):bH t d=d:=by cases d<;>first|rfl|(simp[I.tree]at h)
theorem JD {t:Nat} {d:I} (h:(b8 t d).tree=true):d.tree=true/\b8 t d=d:=by
 cases d<;>first|exact⟨rfl,rfl⟩|(simp only[b8]at h;first|(split at h<;>simp[I.tree]at h)|simp[I.tree]at h)
theorem vG {t:Nat} {d:I} (h:(bH t d).tree=true):d.tree=true/\bH t d=d:=by
 cases d<;>first|exact⟨rfl,rfl⟩|(simp only[bH]at h;first|(split at h<;>(try split at h)<;>simp[I.tree]at h)|simp[I.tree]at h)
section
variable {w:World} {F:Nat->Prop} {s ax:ah} {aq iA:Nat->Value} {t:Nat}
theorem aA.b8 (fu:∀x,x≠t->(ax x).tree=true->ax x=s x/\iA x=aq x):∀(n:Nat),
  (∀(d:I) (v:Value) (S:Nat->Prop),SizeOf.sizeOf d<=n->aA w F s aq d v S->aA w F ax iA (cM.b8 t d) v S)/\
  (∀(ds:Xy) (vs:Xw),SizeOf.sizeOf ds<=n->c5 w F s aq ds vs->c5 w F ax iA (hA t ds) vs):=by
 intro n;induction n with
 |zero=>
  refine⟨λd v S bz=>?_,λds vs bz=>?_⟩
  .cases d<;>simp at bz<;>omega
  .cases ds<;>simp at bz<;>omega
 |succ n ih=>
  refine⟨λd v S bz h=>?_,λds vs bz h=>?_⟩
  .cases d with
   |hole=>rw[cM.b8.eq_def];simp only;rw[aA];trivial
   |h x q=>
    simp only[cM.b8];split
    .rw[aA];trivial
    .rename_i an;rw[aA]at h⊢;intro d af ao;obtain⟨aM,aS⟩:=fu x an (gl af (.inl ao));rw[aM,aS];rw[aM]at af;exact h d af ao
   |ao x q=>
    simp only[cM.b8];split
    .rw[aA];trivial
    .rename_i an;rw[aA]at h⊢;intro d af ao;obtain⟨aM,aS⟩:=fu x an (gl af (.inr ao));rw[aM,aS];rw[aM]at af ao;exact h d af ao
   |U x k=>
    simp only[cM.b8];split
    .rw[aA];trivial
    .rename_i an;rw[aA]at h⊢;intro ao;obtain⟨aM,aS⟩:=fu x an (yX ao);rw[aS];rw[aM]at ao;exact h ao
   |fn f cap=>
    simp only[cM.b8];rw[aA]at h⊢;obtain⟨arr,rfl,aj⟩:=h;exact⟨arr,rfl,ih.2 _ _ (by simp at bz;omega) aj⟩
   |_=>
    rw[JC (by rfl)];exact(aA.bY (by rfl)).2 ((aA.bY (by rfl)).1 h)
  .cases ds with
   |nil=>rw[hA,c5];rw[c5]at h;exact h
   |cons d ds=>
    rw[hA,c5];rw[c5]at h;obtain⟨v,hX,rfl,ab,ad⟩:=h;simp at bz;exact⟨v,hX,rfl,ih.1 _ _ _ (by omega) ab,ih.2 _ _ (by omega) ad⟩
theorem aA.bH {az:World} (fu:∀x,x≠t->(ax x).tree=true->ax x=s x/\iA x=aq x) (gx:iA t=aq t) (dT:(ax t).plain=false->(s t).plain=false/\∀v,cO (s t) v->cO (ax t) v)
  (iO:∀x q d,x≠t->I.sub q (s x)=some d->(d.plain=false\/I.ei q (s x)=true)->cu az q (s x) (bL (aq x)) none=cu w q (s x) (bL (aq x)) none)
  (a1:∀b,F b->az.heap[b]? =w.heap[b]?):∀(n:Nat),
  (∀(d:I) (v:Value) (S:Nat->Prop),SizeOf.sizeOf d<=n->(∀b,S b->az.heap[b]? =w.heap[b]?)->aA w F s aq d v S->aA az F ax iA (cM.bH t d) v S)/\
  (∀(ds:Xy) (vs:Xw),SizeOf.sizeOf ds<=n->c5 w F s aq ds vs->c5 az F ax iA (g4 t ds) vs):=by
 intro n;induction n with
 |zero=>
  refine⟨λd v S bz=>?_,λds vs bz=>?_⟩
  .cases d<;>simp at bz<;>omega
  .cases ds<;>simp at bz<;>omega
 |succ n ih=>
  refine⟨λd v S bz p5 h=>?_,λds vs bz h=>?_⟩
  .cases d with
   |hole=>rw[cM.bH.eq_def];simp only;rw[aA];trivial
   |h x q=>
    simp only[cM.bH];split
    .rename_i an;subst an;split
     .rename_i cx;subst cx;rw[aA]at h⊢;intro d af ao;simp only[I.sub,some.injEq]at af;subst af;obtain⟨dx,br⟩:=dT ao;obtain⟨b4,a,aO,a3,bJ⟩:=h (s x) rfl dx;simp only[cu,some.injEq,Prod.mk.injEq]at aO;obtain⟨-,aO,VQ⟩:=aO;refine⟨bL (iA x),none,rfl,?_,br _ bJ⟩;rw[gx,a3,<-aO]
     .rw[aA];trivial
    .rename_i an;rw[aA]at h⊢;intro d af ao;obtain⟨aM,aS⟩:=fu x an (gl af (.inl ao));rw[aM,aS];rw[aM]at af;rw[iO x q d an af (.inl ao)];exact h d af ao
   |ao x q=>
    simp only[cM.bH];split
    .rw[aA];trivial
    .rename_i an;rw[aA]at h⊢;intro d af ao;obtain⟨aM,aS⟩:=fu x an (gl af (.inr ao));rw[aM,aS];rw[aM]at af ao;rw[iO x q d an af (.inr ao)];exact h d af ao
   |U x k=>
    simp only[cM.bH];rw[aA]at h⊢;intro ao;by_cases an:x=t
    .subst an;obtain⟨b,cur,e,fr,ab,ad,aB,aY⟩:=h (dT ao).1;exact⟨b,cur,e,fr,ab,ad,(a1 b ad).trans aB,by rw[gx];exact aY⟩
    .obtain⟨aM,aS⟩:=fu x an (yX ao);rw[aM]at ao;obtain⟨b,cur,e,fr,ab,ad,aB,aY⟩:=h ao;exact⟨b,cur,e,fr,ab,ad,(a1 b ad).trans aB,by rw[aS];exact aY⟩
   |fn f cap=>
    simp only[cM.bH];rw[aA]at h⊢;obtain⟨arr,rfl,aj⟩:=h;exact⟨arr,rfl,ih.2 _ _ (by simp at bz;omega) aj⟩
   |_=>
    rw[yY (by rfl)];have bj:=(aA.bY (by rfl)).1 h;exact(aA.bY (by rfl)).2 ⟨bj.1,al.frame a1 _ _ _ p5 bj.2⟩
  .cases ds with
   |nil=>rw[g4,c5];rw[c5]at h;exact h
   |cons d ds=>
    rw[g4,c5];rw[c5]at h;obtain⟨v,hX,rfl,ab,ad⟩:=h;simp at bz;exact⟨v,hX,rfl,ih.1 _ _ _ (by omega) (λ_ h=>h.elim) ab,ih.2 _ _ (by omega) ad⟩
theorem aA.void (fu:∀x,x≠t->(ax x).tree=true->ax x=s x/\iA x=aq x) (mu:(ax t).plain=true):∀(n:Nat),
  (∀(d:I) (v:Value) (S:Nat->Prop),SizeOf.sizeOf d<=n->aA w F s aq d v S->aA w F ax iA d v S)/\
  (∀(ds:Xy) (vs:Xw),SizeOf.sizeOf ds<=n->c5 w F s aq ds vs->c5 w F ax iA ds vs):=by
 intro n;induction n with
 |zero=>
  refine⟨λd v S bz=>?_,λds vs bz=>?_⟩
  .cases d<;>simp at bz<;>omega
  .cases ds<;>simp at bz<;>omega
 |succ n ih=>
  refine⟨λd v S bz h=>?_,λds vs bz h=>?_⟩
  .cases d with
   |hole=>rw[aA];trivial
   |h x q=>
    rw[aA]at h⊢;intro d af ao;by_cases an:x=t
    .subst an;rw[I.yV _ _ _ mu af]at ao;cases ao
    .obtain⟨aM,aS⟩:=fu x an (gl af (.inl ao));rw[aM,aS];rw[aM]at af;exact h d af ao
   |ao x q=>
    rw[aA]at h⊢;intro d af ao;by_cases an:x=t
    .subst an;rw[I.Dp _ _ mu]at ao;cases ao
    .obtain⟨aM,aS⟩:=fu x an (gl af (.inr ao));rw[aM,aS];rw[aM]at af ao;exact h d af ao
   |U x k=>
    rw[aA]at h⊢;intro ao;by_cases an:x=t
    .subst an;rw[mu]at ao;cases ao
    .obtain⟨aM,aS⟩:=fu x an (yX ao);rw[aS];rw[aM]at ao;exact h ao
   |fn f cap=>
    rw[aA]at h⊢;obtain⟨arr,rfl,aj⟩:=h;exact⟨arr,rfl,ih.2 _ _ (by simp at bz;omega) aj⟩
   |_=>exact(aA.bY (by rfl)).2 ((aA.bY (by rfl)).1 h)
  .cases ds with
   |nil=>rw[c5];rw[c5]at h;exact h
   |cons d ds=>
    rw[c5];rw[c5]at h;obtain⟨v,hX,rfl,ab,ad⟩:=h;simp at bz;exact⟨v,hX,rfl,ih.1 _ _ _ (by omega) ab,ih.2 _ _ (by omega) ad⟩
end
def JE:Bool:=false
def Out (w w0:World):Prop:=w.output=w0.output/\(JE=true->w0.drawn<=w.drawn)
theorem Out.trans {a b c:World} (h:Out a b) (ad:Out b c):Out a c:=⟨Eq.trans h.1 ad.1,λd=>Nat.le_trans (ad.2 d) (h.2 d)⟩
theorem Out.refl (w:World):Out w w:=⟨rfl,λ_=>Nat.le_refl _⟩
def JF:List (Nat×(Obj->Prop)):=[]
def rB (w:World) (X:Nat->Prop):Prop:=∀p∈JF,p.1<w.heap.size/\¬X p.1/\∃o,w.heap[p.1]? =some o/\p.2 o
theorem rB.next {w az:World} {X Y:Nat->Prop} (h:rB w X) (aa:w.heap.size<=az.heap.size) (U:∀b,b<w.heap.size->¬X b->az.heap[b]? =w.heap[b]?) (a2:∀b,Y b->X b\/w.heap.size<=b):rB az Y:=λp ao=>by
 obtain⟨ab,ad,o,aB,aY⟩:=h p ao;refine⟨Nat.lt_of_lt_of_le ab aa,λh=>?_,o,(U _ ab ad).trans aB,aY⟩;rcases a2 _ h with h|h
 .exact ad h
 .omega
structure bg (w0:World) (F0 X F:Nat->Prop) (S:Nat->Nat->Prop) (s:ah) (aq:Nat->Value) (w:World):Prop where
 fN:∀b,F0 b->F b
 gm:∀b,F b->F0 b\/X b\/w0.heap.size<=b
 eu:∀b,F b->b<w.heap.size
 dA:∀t b,S t b->b<w.heap.size
 eH:∀t b,S t b->¬F b
 ej:∀t u b,t≠u->S t b->¬S u b
 cW:∀t b,S t b->X b\/w0.heap.size<=b
 cE:∀t,aA w F s aq (s t) (aq t) (S t)
 old:∀b,b<w0.heap.size->¬X b->w.heap[b]? =w0.heap[b]?
 size:w0.heap.size<=w.heap.size
 os:w.os=w0.os
 tape:w.tape=w0.tape
 output:Out w w0
 gn:rB w0 X
section
variable {w0 w az:World} {F0 X F:Nat->Prop} {S:Nat->Nat->Prop} {s:ah} {aq:Nat->Value}
theorem bg.grow (h:bg w0 F0 X F S s aq w) (U:∀b,b<w.heap.size->az.heap[b]? =w.heap[b]?) (aa:w.heap.size<=az.heap.size)
  (ab:az.os=w.os) (ad:az.tape=w.tape) (aB:Out az w):bg w0 F0 X F S s aq az where
 fN:=h.fN
 gm:=h.gm
 eu:=λb a1=>Nat.lt_of_lt_of_le (h.eu b a1) aa
 dA:=λt b a1=>Nat.lt_of_lt_of_le (h.dA t b a1) aa
 eH:=h.eH
 ej:=h.ej
 cW:=h.cW
 cE:=λt=>aA.frame (Sx:=S) (λb a1=>U b (h.eu b a1)) (λ_ h=>h) (λx b bm=>U b (h.dA x b bm)) h.cE _ _ _ (λb bm=>U b (h.dA t b bm)) (h.cE t)
 old:=λb c8 iB=>(U b (Nat.lt_of_lt_of_le c8 h.size)).trans (h.old b c8 iB)
 size:=Nat.le_trans h.size aa
 os:=ab.trans h.os
 tape:=ad.trans h.tape
 output:=aB.trans h.output
 gn:=h.gn
def fa (S:Nat->Nat->Prop) (t:Nat) (Sn:Nat->Prop):Nat->Nat->Prop:=λu b=>if u=t then Sn b else S u b
theorem th (S:Nat->Nat->Prop) (t:Nat) (Sn:Nat->Prop):fa S t Sn t=Sn:=by funext b;simp[fa]
theorem ti (S:Nat->Nat->Prop) {t u:Nat} (Sn:Nat->Prop) (h:u≠t):fa S t Sn u=S u:=by funext b;simp[fa,h]
theorem bg.tj (h:bg w0 F0 X F S s aq w) {t:Nat} {d:I} {v:Value} (ao:d.plain=true) (af:aA w F s aq d v (λ_=>False)):
  bg w0 F0 X F (fa S t (λ_=>False)) (cl s t d) (cl aq t v) w where
 fN:=h.fN
 gm:=h.gm
 eu:=h.eu
 dA:=λu b U=>by simp only[fa]at U;split at U;exact U.elim;exact h.dA u b U
 eH:=λu b U=>by simp only[fa]at U;split at U;exact U.elim;exact h.eH u b U
 ej:=λu x b c4 U an=>by
  simp only[fa]at U an;split at U
  .exact U.elim
  .split at an
   .exact an.elim
   .exact h.ej u x b c4 U an
 cW:=λu b U=>by simp only[fa]at U;split at U;exact U.elim;exact h.cW u b U
 cE:=λu=>by
  have fu:∀x,x≠t->(cl s t d x).tree=true->cl s t d x=s x/\cl aq t v x=aq x:=λx an _=>⟨hg _ _ an,hg _ _ an⟩
  have mu:(cl s t d t).plain=true:=by rw[kG];exact ao
  by_cases hu:u=t
  .subst hu;rw[kG,kG,th];exact(aA.void fu mu _).1 _ _ _ (Nat.le_refl _) af
  .rw[hg _ _ hu,hg _ _ hu,ti _ _ hu];exact(aA.void fu mu _).1 _ _ _ (Nat.le_refl _) (h.cE u)
 old:=h.old
 size:=h.size
 os:=h.os
 tape:=h.tape
 output:=h.output
 gn:=h.gn
theorem bg.Dr (h:bg w0 F0 X F S s aq w) {t:Nat} {d:I} {v:Value} {Sn:Nat->Prop} (af:d.tree=true) (aa:cO d v) (aD:al w F d (bL v) Sn)
  (c8:∀b,Sn b->b<w.heap.size) (a1:∀b,Sn b->¬F b) (bm:∀u b,u≠t->Sn b->¬S u b) (ba:∀b,Sn b->X b\/w0.heap.size<=b):
  bg w0 F0 X F (fa S t Sn) (cl (jR t s) t d) (cl aq t v) w where
 fN:=h.fN
 gm:=h.gm
 eu:=h.eu
 dA:=λu b U=>by simp only[fa]at U;split at U;exact c8 b U;exact h.dA u b U
 eH:=λu b U=>by simp only[fa]at U;split at U;exact a1 b U;exact h.eH u b U
 ej:=λu x b c4 U an=>by
  simp only[fa]at U an;split at U
  .rename_i hu;rw[if_neg (λe=>c4 (hu.trans e.symm))]at an;exact bm x b (λe=>c4 (hu.trans e.symm)) U an
  .rename_i hu;split at an
   .exact bm u b hu an U
   .exact h.ej u x b c4 U an
 cW:=λu b U=>by simp only[fa]at U;split at U;exact ba b U;exact h.cW u b U
 cE:=λu=>by
  have fu:∀x,x≠t->(cl (jR t s) t d x).tree=true->cl (jR t s) t d x=s x/\cl aq t v x=aq x:=λx an aN=>by
   rw[hg _ _ an]at aN⊢;exact⟨(JD aN).2,hg _ _ an⟩
  by_cases hu:u=t
  .subst hu;rw[kG,kG,th];exact(aA.bY af).2 ⟨aa,aD⟩
  .rw[hg _ _ hu,hg _ _ hu,ti _ _ hu];exact(aA.b8 fu _).1 _ _ _ (Nat.le_refl _) (h.cE u)
 old:=h.old
 size:=h.size
 os:=h.os
 tape:=h.tape
 output:=h.output
 gn:=h.gn
theorem o7 (k:Nat) (q:Xt) (a7 x:I):(∃ar gs,x= .agg ar/\I.put (k::q) a7 x= .agg gs)\/(∃ar gs,x= .tuple ar/\I.put (k::q) a7 x= .tuple gs)\/
  (∃sz xs bT,x= .aw sz xs/\I.put (k::q) a7 x= .aw sz bT)\/(∃y z,x= .bh y/\I.put (k::q) a7 x= .bh z)\/I.put (k::q) a7 x=x:=by
 cases x with
 |agg ar=>simp only[I.put];split<;>exact .inl ⟨_,_,rfl,rfl⟩
 |tuple ar=>simp only[I.put];split<;>exact .inr (.inl ⟨_,_,rfl,rfl⟩)
 |aw sz ar=>simp only[I.put];split<;>exact .inr (.inr (.inl ⟨_,_,_,rfl,rfl⟩))
 |bh y=>cases k<;>exact .inr (.inr (.inr (.inl ⟨_,_,rfl,rfl⟩)))
 |_=>exact .inr (.inr (.inr (.inr rfl)))
theorem Ds {k:Nat} {q:Xt} {a7 x:I} {v:Value} (h:gN x v):gN (I.put (k::q) a7 x) v:=by
 rcases o7 k q a7 x with⟨ar,gs,rfl,e⟩|⟨ar,gs,rfl,e⟩|⟨sz,xs,bT,rfl,e⟩|⟨y,z,rfl,e⟩|e<;>rw[e]<;>exact h
theorem Dt {k:Nat} {q:Xt} {a7 x:I} (h:∀vs,x≠.tuple vs):∀vs,I.put (k::q) a7 x≠.tuple vs:=by
 rcases o7 k q a7 x with⟨ar,gs,rfl,e⟩|⟨ar,gs,rfl,e⟩|⟨sz,xs,bT,rfl,e⟩|⟨y,z,rfl,e⟩|e<;>rw[e]<;>first|exact h|(intro vs bj;cases bj;done)|exact(h _ rfl).elim
theorem tk {k:Nat} {q:Xt} {d a7 av:I} {v:Value} (h:cO av v) (af:I.sub (k::q) av=some d) (ab:∀v,gN d v->gN a7 v) (ad:(∀vs,d≠.tuple vs)->∀vs,a7≠.tuple vs) (aB:a7.wd=d.wd):
  cO (I.put (k::q) a7 av) v:=by
 cases av with
 |tuple ar=>
  simp only[I.sub]at af;split at af
  .rename_i x an;simp only[I.put,an];simp only[cO]at h⊢;obtain⟨arr,rfl,bz,iN⟩:=h;refine⟨arr,rfl,by simpa using bz,λj e y he a2=>?_⟩;rw[getElem?_set]at he;split at he
   .rename_i yZ;subst yZ;split at he
    .simp only[some.injEq]at he;subst he;obtain⟨aO,a3,bJ⟩:=iN k x y an a2;refine⟨?_,?_,bJ.trans (I.ry q x d a7 af aB).symm⟩
     .cases q with
      |nil=>
       simp only[I.sub,some.injEq]at af;subst af;exact ab _ aO
      |cons b1 q=>exact Ds aO
     .cases q with
      |nil=>
       simp only[I.sub,some.injEq]at af;subst af;exact ad a3
      |cons b1 q=>exact Dt a3
    .cases he
   .exact iN j e y he a2
  .cases af
 |agg ar=>simp only[I.put];split<;>exact h
 |aw sz ar=>simp only[I.put];split<;>exact h
 |bh y=>cases k<;>exact h
 |_=>exact h
theorem y0 {d:I} {v:Value} (h:gN d v):gN d.cj v:=by cases d<;>exact h
theorem Du {s:ah} {x:Nat} {q:Xt} {d:I} (af:I.sub q (s x)=some d) (ao:d.plain=false):
  (cl (ft x s) x (I.put q d.cj (s x)) x).plain=false->(s x).plain=false/\∀v,cO (s x) v->cO (cl (ft x s) x (I.put q d.cj (s x)) x) v:=by
  rw[kG];intro fO;cases q with
  |nil=>
   exfalso;have:∀d:I,d.cj.plain=true:=by
    intro d;have key:∀n,(∀d:I,SizeOf.sizeOf d<=n->d.cj.plain=true)/\(∀ds:Xy,SizeOf.sizeOf ds<=n->I.dz (I.jt ds)=true):=by
     intro n;induction n with
     |zero=>exact⟨λd bz=>by cases d<;>simp at bz<;>omega,λds bz=>by cases ds<;>simp at bz<;>omega⟩
     |succ n ih=>
      refine⟨λd bz=>?_,λds bz=>?_⟩
      .cases d with
       |agg ar=>simp only[I.cj,I.plain];exact ih.2 _ (by simp at bz;omega)
       |tuple ar=>simp only[I.cj,I.plain];exact ih.2 _ (by simp at bz;omega)
       |_=>rfl
      .cases ds with
       |nil=>rfl
       |cons d ds=>
        simp at bz;simp only[I.jt,I.dz,Bool.and_eq_true];exact⟨ih.1 _ (by omega),ih.2 _ (by omega)⟩
    exact(key _).1 d (Nat.le_refl _)
   simp only[I.put]at fO;rw[this]at fO;cases fO
  |cons k q=>
   refine⟨?_,λv aD=>tk aD af (λv h=>y0 h) (λh vs e=>?_) (I.o6 d)⟩
   .cases cv:(s x).plain with
    |false=>rfl
    |true=>rw[I.yV _ _ _ cv af]at ao;cases ao
   .cases d<;>first|(exact h _ rfl)|(simp[I.cj]at e)
theorem bg.take (h:bg w0 F0 X F S s aq w) {x:Nat} {q:Xt} {d:I} (af:I.sub q (s x)=some d) (ao:d.plain=false):
  ∃(Sn dY:Nat->Prop) (b4:Xw) (a:Option (Nat×Nat)),bg w0 F0 X F (fa S x Sn) (cl (ft x s) x (I.put q d.cj (s x))) aq w/\
   cu w q (s x) (bL (aq x)) none=some (d,b4,a)/\al w F d b4 dY/\(∀b,dY b->S x b)/\(∀b,Sn b->S x b)/\(∀b,dY b->¬Sn b)/\
   (∀(a7:I) (v:Value) (aF:Nat->Prop),aA w F s aq a7 v aF->aA w F (cl (ft x s) x (I.put q d.cj (s x))) aq (cM.bH x a7) v aF):=by
 have aN:=gl af (.inl ao);have an:=h.cE x;rw[aA.bY aN]at an;obtain⟨b4,a,c6,dY,e4,aO,a3,bJ,cN,dD⟩:=ctx q (s x) (bL (aq x)) (S x) none d an.2 af;have hW:al w F (I.put q d.cj (s x)) (bL (aq x)) c6:=by
  have kH:al w F d.cj b4 (λ_=>False):=al.cj _ _ _ _ cN;have m9:∀b,(c6 b\/False)->c6 b:=λb h=>h.elim id False.elim;rcases dD with⟨l,r,aM,aS,aV⟩|⟨b,cur,e,fr,l,r,aM,aS,aV,bK,cn,bB⟩
  .have:=aV w _ b4 _ (λ_ _=>rfl) (λ_ _=>rfl) (I.o6 d) kH (λ_ h=>h.elim);rw[<-aM]at this;exact al.mono (λ_ h=>h) _ _ _ _ m9 this
  .have:=bB w _ b4 _ (λ_ _=>rfl) (λ_ _ _=>rfl) (by rw[aV,<-cn]) (I.o6 d) kH (λ_ h=>h.elim);exact al.mono (λ_ h=>h) _ _ _ _ m9 this
 have JG:cO (I.put q d.cj (s x)) (aq x)/\(I.put q d.cj (s x)).tree=true\/I.put q d.cj (s x)= .hole:=by
  cases q with
  |nil=>
   simp only[I.sub,some.injEq]at af;subst af;simp only[I.put];cases aa:s x with
   |aw sz xs=>right;rfl
   |bh y=>right;rfl
   |cS y=>right;rfl
   |agg ar=>left;rw[aa]at an;exact⟨an.1,rfl⟩
   |tuple ar=>
    left;rw[aa]at an;refine⟨?_,rfl⟩;simp only[cO,I.cj]at an⊢;obtain⟨arr,e,bz,iN⟩:=an.1;have hl:∀ar:Xy,I.jt ar=ar.map I.cj:=by
     intro ar;induction ar with
     |nil=>rfl
     |cons a ar ih=>simp[I.jt,ih]
    refine⟨arr,e,by rw[hl];simpa using bz,λk e_ y he a2=>?_⟩;rw[hl,getElem?_map]at he;cases ai:ar[k]? with
    |none=>rw[ai]at he;cases he
    |some z=>
     rw[ai]at he;simp only[map_some,some.injEq]at he;subst he;obtain⟨aO,a3,bJ⟩:=iN k z y ai a2;refine⟨y0 aO,λvs e=>?_,bJ.trans (I.o6 z).symm⟩;cases z<;>first|(exact a3 _ rfl)|(simp[I.cj]at e)
   |er _ _=>right;simp[I.cj]
   |_=>rw[aa]at ao;simp[I.plain]at ao
  |cons k q=>
   left;refine⟨tk an.1 af (λv h=>y0 h) (λh vs e=>?_) (I.o6 d),?_⟩
   .cases d<;>first|(exact h _ rfl)|(simp[I.cj]at e)
   .rcases o7 k q d.cj (s x)with⟨ar,gs,aM,e⟩|⟨ar,gs,aM,e⟩|⟨sz,xs,bT,aM,e⟩|⟨y,z,aM,e⟩|e<;>rw[e]<;>first|rfl|exact aN
 refine⟨c6,dY,b4,a,?_,e4,cN,a3,aO,λb ab ad=>bJ b ad ab,?_⟩
 rotate_left
 .have fu:∀y,y≠x->(cl (ft x s) x (I.put q d.cj (s x)) y).tree=true->cl (ft x s) x (I.put q d.cj (s x)) y=s y/\aq y=aq y:=λy a2 aN=>by
   rw[hg _ _ a2]at aN⊢;exact⟨(vG aN).2,rfl⟩
  intro a7 v aF fG;exact(aA.bH fu rfl (Du af ao) (λ_ _ _ _ _ _=>rfl) (λ_ _=>rfl) _).1 _ _ _ (Nat.le_refl _) (λ_ _=>rfl) fG
 have fu:∀y,y≠x->(cl (ft x s) x (I.put q d.cj (s x)) y).tree=true->cl (ft x s) x (I.put q d.cj (s x)) y=s y/\aq y=aq y:=λy a2 aN=>by
  rw[hg _ _ a2]at aN⊢;exact⟨(vG aN).2,rfl⟩
 have dT:=Du (s:=s) (x:=x) af ao;constructor;case fN=>exact h.fN
 case gm=>exact h.gm
 case eu=>exact h.eu
 case dA=>exact λu b U=>by simp only[fa]at U;split at U;exact h.dA x b (aO b U);exact h.dA u b U
 case eH=>exact λu b U=>by simp only[fa]at U;split at U;exact h.eH x b (aO b U);exact h.eH u b U
 case ej=>
  intro u y b c4 U a2;simp only[fa]at U a2;split at U
  .rename_i hu;rw[if_neg (λe=>c4 (hu.trans e.symm))]at a2;exact h.ej x y b (λe=>c4 (hu.trans e)) (aO b U) a2
  .rename_i hu;split at a2
   .exact h.ej u x b hu U (aO b a2)
   .exact h.ej u y b c4 U a2
 case cW=>exact λu b U=>by simp only[fa]at U;split at U;exact h.cW x b (aO b U);exact h.cW u b U
 case cE=>
  intro u;by_cases hu:u=x
  .subst hu;rw[kG,th];rcases JG with⟨aM,aS⟩|e
   .exact(aA.bY aS).2 ⟨aM,hW⟩
   .rw[e,aA];trivial
  .rw[hg _ _ hu,ti _ _ hu];exact(aA.bH fu rfl dT (λ_ _ _ _ _ _=>rfl) (λ_ _=>rfl) _).1 _ _ _ (Nat.le_refl _) (λ_ _=>rfl) (h.cE u)
 case old=>exact h.old
 case size=>exact h.size
 case os=>exact h.os
 case tape=>exact h.tape
 case output=>exact h.output
 case gn=>exact h.gn
theorem bg.store (h:bg w0 F0 X F S s aq w) {x:Nat} {q:Xt} {d a7:I} (af:I.sub q (s x)=some d) (aj:I.ei q (s x)=true)
  {eC:Xw} {Sn:Nat->Prop} (aD:al w F a7 eC Sn) (iM:a7.wd=d.wd)
  (c8:∀b,Sn b->b<w.heap.size) (a1:∀b,Sn b->¬F b) (bm:∀u b,Sn b->¬S u b) (ba:∀b,Sn b->X b\/w0.heap.size<=b):
  ∃(b4:Xw) (b:Nat) (l r:Xw) (cur:Array Value) (e:TypeId) (fr:Nat×Nat),cu w q (s x) (bL (aq x)) none=some (d,b4,some (b,l.length))/\
   w.heap[b]? =some (.cells cur e fr)/\cur.toList=l++(b4++r)/\kD fr cur.size/\
   ∀az,az.heap[b]? =some (.cells (l++(eC++r)).toArray e fr)->(∀c,c≠b->az.heap[c]? =w.heap[c]?)->az.heap.size=w.heap.size->az.os=w.os->az.tape=w.tape->Out az w->
    ∃aF,bg w0 F0 X F aF (cl (ft x s) x (I.put q a7 (s x))) aq az:=by
 have aN:=gl af (.inr aj);have an:=h.cE x;rw[aA.bY aN]at an;obtain⟨b4,a,c6,dY,e4,aO,a3,bJ,cN,dD⟩:=ctx q (s x) (bL (aq x)) (S x) none d an.2 af;have JH:yR w F q (s x) (bL (aq x)) d b4 a c6:=by
  rcases dD with⟨l,r,aM,aS,aV⟩|dD
  .exfalso;have ja:∀(q:Xt) (av:I) (cs:Xw) (J:Option (Nat×Nat)) (d:I) (b4:Xw),I.ei q av=true->cu w q av cs J=some (d,b4,none)->False:=by
    intro q;induction q with
    |nil=>intro av cs J d b4 aj;simp[I.ei]at aj
    |cons k q ih=>
     have Dv:∀(q:Xt) (av:I) (cs:Xw) (l:Nat×Nat) (d:I) (b4:Xw),cu w q av cs (some l)=some (d,b4,none)->False:=by
      intro q;induction q with
      |nil=>intro av cs l d b4 h;simp[cu]at h
      |cons k q vH=>
       intro av cs l d b4 h;cases av with
       |agg ar=>rw[cu]at h;split at h;exact vH _ _ _ _ _ h;cases h
       |tuple ar=>rw[cu]at h;split at h;exact vH _ _ _ _ _ h;cases h
       |aw sz xs=>simp only[cu]at h;split at h;exact vH _ _ _ _ _ h;cases h
       |bh y=>
        cases k with
        |zero=>rw[cu.eq_def]at h;simp only at h;split at h;exact vH _ _ _ _ _ h;cases h
        |succ k=>rw[show cu w ((k+1)::q) (.bh y) cs (some l)=none from rfl]at h;cases h
       |_=>simp[cu]at h
     intro av cs J d b4 aj h;cases av with
     |agg ar=>
      simp only[I.ei]at aj;split at aj
      .rename_i y a2;simp only[cu,a2]at h;exact ih _ _ _ _ _ aj h
      .cases aj
     |tuple ar=>
      simp only[I.ei]at aj;split at aj
      .rename_i y a2;simp only[cu,a2]at h;exact ih _ _ _ _ _ aj h
      .cases aj
     |aw sz xs=>simp only[cu]at h;split at h;exact Dv _ _ _ _ _ _ h;cases h
     |bh y=>
      cases k with
      |zero=>rw[cu.eq_def]at h;simp only at h;split at h;exact Dv _ _ _ _ _ _ h;cases h
      |succ k=>rw[show cu w ((k+1)::q) (.bh y) cs J=none from rfl]at h;cases h
     |_=>simp[I.ei]at aj
   simp only[map_none]at aS;subst aS;exact ja _ _ _ _ _ _ aj e4
  .exact dD
 obtain⟨b,cur,e,fr,l,r,rfl,aS,aV,bK,cn,bB⟩:=JH;refine⟨b4,b,l,r,cur,e,fr,e4,aV,cn,bK,?_⟩;intro az kk lK cK y1 y2 p6;have p7:S x b:=aO _ aS;have na:∀c,F c->az.heap[c]? =w.heap[c]? :=λc aj=>lK c (by rintro rfl;exact h.eH x _ p7 aj);have VR:eC.length=b4.length:=by rw[al.length _ _ _ aD,al.length _ _ _ cN,iM]
 have hW:=bB az a7 eC Sn na (λc _ c4=>lK c c4) kk iM
  (al.frame na _ _ _ (λc aj=>lK c (by rintro rfl;exact bm x _ aj p7)) aD) (λc aj m9=>bm x c aj (aO _ m9))
 obtain⟨k,hI,rfl⟩:∃k hI,q=k::hI:=by
  cases q with
  |nil=>simp[I.ei]at aj
  |cons k q=>exact⟨k,q,rfl⟩
 have tl:∀v,cO (s x) v->cO (I.put (k::hI) a7 (s x)) v:=by
  intro v aD;rcases o7 k hI a7 (s x)with⟨ar,gs,aM,e⟩|⟨ar,gs,aM,e⟩|⟨sz,xs,bT,aM,e⟩|⟨y,z,aM,e⟩|e
  .rw[e];rw[aM]at aD;exact aD
  ·
   rw[aM]at aD af aj⊢;simp only[I.ei]at aj;split at aj
   .rename_i y a2;simp only[I.put,a2];cases hI with
    |nil=>simp[I.ei]at aj
    |cons b1 fv=>
     simp only[cO]at aD⊢;obtain⟨arr,rfl,bz,iN⟩:=aD;refine⟨arr,rfl,by simpa using bz,λj e jb he p8=>?_⟩;rw[getElem?_set]at he;split at he
     .rename_i yZ;subst yZ;split at he
      .simp only[some.injEq]at he;subst he;obtain⟨aO,a3,bJ⟩:=iN _ y jb a2 p8;simp only[I.sub,a2]at af;exact⟨Ds aO,Dt a3,bJ.trans (I.ry (b1::fv) y d a7 af iM).symm⟩
      .cases he
     .exact iN j e jb he p8
   .cases aj
  .rw[e];rw[aM]at aD;exact aD
  .rw[e];rw[aM]at aD;exact aD
  .rw[e];exact aD
 have JI:(I.put (k::hI) a7 (s x)).tree=true:=by
  rcases o7 k hI a7 (s x)with⟨ar,gs,aM,e⟩|⟨ar,gs,aM,e⟩|⟨sz,xs,bT,aM,e⟩|⟨y,z,aM,e⟩|e<;>rw[e]<;>first|rfl|exact aN
 let ax:=cl (ft x s) x (I.put (k::hI) a7 (s x))
 have fu:∀y,y≠x->(ax y).tree=true->ax y=s y/\aq y=aq y:=λy a2 aN=>by
  have e:ax y=bH x (s y):=hg _ _ a2;rw[e]at aN⊢;exact⟨(vG aN).2,rfl⟩
 have dT:(ax x).plain=false->(s x).plain=false/\∀v,cO (s x) v->cO (ax x) v:=by
  intro _;refine⟨?_,?_⟩
  .cases cv:(s x).plain with
   |false=>rfl
   |true=>rw[I.Dp _ _ cv]at aj;cases aj
  .simp only[ax,kG];exact tl
 refine⟨fa S x (λc=>c6 c\/Sn c),?_⟩;constructor;case fN=>exact h.fN
 case gm=>exact h.gm
 case eu=>exact λb U=>by rw[cK];exact h.eu b U
 case dA=>
  intro u c U;rw[cK];simp only[fa]at U;split at U
  .rcases U with U|U
   .exact h.dA x c (aO c U)
   .exact c8 c U
  .exact h.dA u c U
 case eH=>
  intro u c U;simp only[fa]at U;split at U
  .rcases U with U|U
   .exact h.eH x c (aO c U)
   .exact a1 c U
  .exact h.eH u c U
 case ej=>
  intro u y c c4 U a2;simp only[fa]at U a2;split at U
  .rename_i hu;rw[if_neg (λe=>c4 (hu.trans e.symm))]at a2;rcases U with U|U
   .exact h.ej x y c (λe=>c4 (hu.trans e)) (aO c U) a2
   .exact bm y c U a2
  .rename_i hu;split at a2
   .rcases a2 with a2|a2
    .exact h.ej u x c hu U (aO c a2)
    .exact bm u c a2 U
   .exact h.ej u y c c4 U a2
 case cW=>
  intro u c U;simp only[fa]at U;split at U
  .rcases U with U|U
   .exact h.cW x c (aO c U)
   .exact ba c U
  .exact h.cW u c U
 case cE=>
  intro u;by_cases hu:u=x
  .subst hu;rw[kG,th];exact(aA.bY JI).2 ⟨tl _ an.1,hW⟩
  .rw[hg _ _ hu,ti _ _ hu];have c4:∀y c,y≠x->S y c->az.heap[c]? =w.heap[c]? :=λy c a2 aj=>lK c (by rintro rfl;exact h.ej y x c a2 aj p7);refine(aA.bH fu rfl dT (λy fv d2 a2 gy tm=>?_) na _).1 _ _ _ (Nat.le_refl _) (λc aj=>c4 u c hu aj) (h.cE u);have tn:=h.cE y;rw[aA.bY (gl gy tm)]at tn;exact vF fv _ _ _ none d2 tn.2 gy (λc aj=>c4 y c a2 aj)
 case old=>
  intro c c8 iB;by_cases rC:c=b
  .subst rC;exfalso;rcases h.cW x c p7 with kH|kH
   .exact iB kH
   .omega
  .exact(lK c rC).trans (h.old c c8 iB)
 case size=>rw[cK];exact h.size
 case os=>exact y1.trans h.os
 case tape=>exact y2.trans h.tape
 case output=>exact p6.trans h.output
 case gn=>exact h.gn
end
end Go.cM
