/- Part of a proof that a law returns true for every input. No condition. -/
import Derived.Test.YtndfcecbamffaaaGreatFwA
import Derived.Laws.AppendOwn
import Derived.Calls
namespace Go.c3
open List Option Go.IntKind Nat Or
inductive wy where
 |mp (es:gk)
 |wz
 |ht (T e:TypeId) (kp:nq)
inductive I where
 |hole
 |bool (b:Bool)
 |eM
 |int (k:IntKind) (n:Int)
 |str (s:nq)
 |db
 |aN
 |slice (xs:List I)
 |ag (sz:Nat) (xs:List I)
 |ref (d:I)
 |aK (d:I)
 |agg (ay:List I)
 |tuple (vs:List I)
 |fn (f:FuncId) (cap:List I)
 |h (x:Nat) (q:afc)
 |au (x:Nat) (q:afc)
 |U (x:Nat) (k:Nat)
 |dm (o:wy)
 |eY (f:FuncId) (cap:List I)
 |gb (d:I)
 deriving Inhabited
abbrev afh:=List I
abbrev afg:=List (Nat×I)
mutual
def I.wd:I->Nat
 | .agg ay=>I.dh ay
 | .tuple ay=>I.dh ay
 |_=>1
def I.dh:afh->Nat
 |[]=>0
 |d::ds=>d.wd+I.dh ds
end
def hi (w:World) (b o:Nat) (cs:aff):Prop:=∀j c,cs[j]? =some c->w.cell? ⟨b,o+j,none⟩=some c
def mf (fr:Nat×Nat) (n:Nat):Prop:=∀o,o<n->¬(fr.1<=o/\o<fr.2)
theorem mf.le {fr:Nat×Nat} {m n:Nat} (h:mf fr n) (hm:m<=n):mf fr m:=λo bO=>h o (Nat.lt_of_lt_of_le bO hm)
theorem mf.low {fr:Nat×Nat} {n k:Nat} (h:mf fr (n+k)):mf fr n:=h.le (le_add_right _ _)
def Value.fU:Value->Bool
 | .agg _=>false
 | .tuple _=>false
 |_=>true
def I.single:I->Bool
 | .agg _=>false
 | .tuple _=>false
 | .hole=>false
 |_=>true
def I.one:I->Bool
 | .agg _=>false
 | .tuple _=>false
 |_=>true
def ld (w:World):wy->aff->(Nat->Prop)->Prop
 | .mp es,cs,S=>∃r ms mg,cs=[.map (some r)]/\S r/\w.heap[r]? =some (.map ms mg)/\ms.toList.map (λe=>(e.key,e.val))=es.map (λe=>(.string ⟨⟨e.1⟩⟩,.bool e.2))
 | .wz,cs,_=>cs=[.map none]
 | .ht T e kp,cs,S=>∃b a sn,cs=[.pointer (some ⟨b,0,none⟩)]/\S b/\w.heap[b]? =some (.cells #[a,sn] T (0,0))/\(a= .pointer none\/a= .pointer (some ⟨b,0,none⟩))/\
   ((kp=[]/\sn= .slice none 0 0)\/
     ∃g cap cur,sn= .slice (some ⟨g,0,none⟩) kp.length cap/\S g/\g≠b/\w.heap[g]? =some (.cells cur e (0,0))/\kp.length<=cap/\cap<=maxLen/\cur.size=cap/\
      cur.toList.take kp.length=kp.map λx=>.int .u8 x.toNat)
theorem ld.frame {w aB:World}:∀{o:wy} {cs:aff} {S:Nat->Prop},(∀b,S b->aB.heap[b]? =w.heap[b]?)->ld w o cs S->ld aB o cs S
 | .mp _,_,_,bs,⟨r,ms,mg,ae,af,aF,a1⟩=>⟨r,ms,mg,ae,af,(bs _ af).trans aF,a1⟩
 | .wz,_,_,_,h=>h
 | .ht _ _ _,_,_,bs,⟨b,a,sn,ae,af,aF,a1,bt⟩=>⟨b,a,sn,ae,af,(bs _ af).trans aF,a1,bt.imp (λh=>h) λ⟨g,cap,cur,rv,oD,so,Cy,wA⟩=>⟨g,cap,cur,rv,oD,so,(bs _ oD).trans Cy,wA⟩⟩
theorem ld.mono {w:World}:∀{o:wy} {cs:aff} {S aO:Nat->Prop},(∀b,S b->aO b)->ld w o cs S->ld w o cs aO
 | .mp _,_,_,_,bs,⟨r,ms,mg,ae,af,aF⟩=>⟨r,ms,mg,ae,bs _ af,aF⟩
 | .wz,_,_,_,_,h=>h
 | .ht _ _ _,_,_,_,bs,⟨b,a,sn,ae,af,aF,a1,bt⟩=>⟨b,a,sn,ae,bs _ af,aF,a1,bt.imp (λh=>h) λ⟨g,cap,cur,rv,oD,so⟩=>⟨g,cap,cur,rv,bs _ oD,so⟩⟩
theorem ld.one {w:World}:∀{o:wy} {cs:aff} {S:Nat->Prop},ld w o cs S->∃v,Value.fU v=true/\cs=[v]
 | .mp _,_,_,⟨_,_,_,h,_⟩=>⟨_,rfl,h⟩
 | .wz,_,_,h=>⟨_,rfl,h⟩
 | .ht _ _ _,_,_,⟨_,_,_,h,_⟩=>⟨_,rfl,h⟩
mutual
def ao (w:World) (F:Nat->Prop):I->aff->(Nat->Prop)->Prop
 | .hole,cs,_=>∃v,Value.fU v=true/\cs=[v]
 | .bool b,cs,_=>cs=[.bool b]
 | .eM,cs,_=>∃b,cs=[.bool b]
 | .int k n,cs,_=>cs=[.int k n]
 | .str s,cs,_=>cs=[.string ⟨⟨s⟩⟩]
 | .db,cs,_=>cs=[.pointer none]
 | .aN,cs,_=>cs=[.slice none 0 0]
 | .slice xs,cs,_=>(xs=[]/\∃a c,cs=[.slice a 0 c]/\c<=maxLen/\(a=none->c=0))\/
   ∃b o cap c4 sz,cs=[.slice (some ⟨b,o,none⟩) xs.length cap]/\F b/\xs.length<=cap/\cap<=maxLen/\(∀d∈xs,d.wd=sz)/\
    hi w b o c4/\aX w F xs c4 (λ_=>False)
 | .ag sz xs,cs,S=>(xs=[]/\∃a,cs=[.slice a 0 0])\/
   ∃b cap cur e fr aO,cs=[.slice (some ⟨b,0,none⟩) xs.length cap]/\S b/\w.heap[b]? =some (.cells cur e fr)/\mf fr (cur.size+(sz-1))/\
    xs.length<=cap/\cap<=maxLen/\cur.size=cap*sz/\(∀d∈xs,d.wd=sz)/\aX w F xs (cur.toList.take (xs.length*sz)) aO/\(∀c,aO c->S c)/\¬aO b
 | .ref d,cs,_=>∃b o c4,cs=[.pointer (some ⟨b,o,none⟩)]/\F b/\hi w b o c4/\ao w F d c4 (λ_=>False)
 | .aK d,cs,S=>∃b cur e fr aO,cs=[.pointer (some ⟨b,0,none⟩)]/\S b/\w.heap[b]? =some (.cells cur e fr)/\mf fr cur.size/\
   ao w F d cur.toList aO/\(∀c,aO c->S c)/\¬aO b
 | .agg ay,cs,S=>aX w F ay cs S
 | .tuple ay,cs,S=>aX w F ay cs S
 | .fn f caps,cs,_=>∃arr:Array Value,cs=[.func (.func f) #[] arr]/\(∀d∈caps,d.single=true)/\aX w F caps arr.toList (λ_=>False)
 | .h _ _,_,_=>False
 | .au _ _,_,_=>False
 | .U _ _,_,_=>False
 | .dm o,cs,S=>ld w o cs S
 | .eY f caps,cs,S=>∃arr:Array Value,cs=[.func (.func f) #[] arr]/\(∀d∈caps,d.one=true)/\aX w F caps arr.toList S
 | .gb d,cs,S=>∃b v e fr,cs=[.pointer (some ⟨b,0,none⟩)]/\F b/\w.heap[b]? =some (.cells #[v] e fr)/\ao w F d [v] S
def aX (w:World) (F:Nat->Prop):afh->aff->(Nat->Prop)->Prop
 |[],cs,_=>cs=[]
 |d::ds,cs,S=>∃bA bK S1 S2,cs=bA++bK/\ao w F d bA S1/\aX w F ds bK S2/\(∀b,S1 b->S b)/\(∀b,S2 b->S b)/\(∀b,S1 b->¬S2 b)
end
theorem cell?_of_block {w aB:World} {b:Nat} (h:aB.heap[b]? =w.heap[b]?) (o:Nat):aB.cell? ⟨b,o,none⟩=w.cell? ⟨b,o,none⟩:=by
 simp[World.cell?,h]
theorem hi.frame {w aB:World} {b o:Nat} {cs:aff} (h:aB.heap[b]? =w.heap[b]?) (aR:hi w b o cs):hi aB b o cs:=
 λj c an=>(cell?_of_block h _).trans (aR j c an)
mutual
theorem ao.frame {w aB:World} {F:Nat->Prop} (bb:∀b,F b->aB.heap[b]? =w.heap[b]?):
  ∀(d:I) (cs:aff) (S:Nat->Prop),(∀b,S b->aB.heap[b]? =w.heap[b]?)->ao w F d cs S->ao aB F d cs S
 | .hole,_,_,_,h=>h
 | .bool _,_,_,_,h=>h
 | .eM,_,_,_,h=>h
 | .int _ _,_,_,_,h=>h
 | .str _,_,_,_,h=>h
 | .db,_,_,_,h=>h
 | .aN,_,_,_,h=>h
 | .slice xs,cs,S,bs,h=>by
   rw[ao]at h⊢;rcases h with h|⟨b,o,cap,c4,sz,ae,af,aF,a1,bt,b_,cq⟩
   .exact .inl h
   .exact .inr ⟨b,o,cap,c4,sz,ae,af,aF,a1,bt,b_.frame (bb _ af),aX.frame bb xs _ _ (λ_ h=>h.elim) cq⟩
 | .ag sz xs,cs,S,bs,h=>by
   rw[ao]at h⊢;rcases h with h|⟨b,cap,cur,e,fr,aO,ae,af,aF,a1,bt,b_,cq,er,h1,gp,j4⟩
   .exact .inl h
   .exact .inr ⟨b,cap,cur,e,fr,aO,ae,af,(bs _ af).trans aF,a1,bt,b_,cq,er,aX.frame bb xs _ _ (λc an=>bs _ (gp _ an)) h1,gp,j4⟩
 | .ref d,cs,S,bs,h=>by
   rw[ao]at h⊢;obtain⟨b,o,c4,ae,af,aF,a1⟩:=h;exact⟨b,o,c4,ae,af,aF.frame (bb _ af),ao.frame bb d _ _ (λ_ h=>h.elim) a1⟩
 | .aK d,cs,S,bs,h=>by
   rw[ao]at h⊢;obtain⟨b,cur,e,fr,aO,ae,af,aF,a1,bt,b_,cq⟩:=h;exact⟨b,cur,e,fr,aO,ae,af,(bs _ af).trans aF,a1,ao.frame bb d _ _ (λc an=>bs _ (b_ _ an)) bt,b_,cq⟩
 | .agg ay,cs,S,bs,h=>by rw[ao]at h⊢;exact aX.frame bb ay _ _ bs h
 | .tuple ay,cs,S,bs,h=>by rw[ao]at h⊢;exact aX.frame bb ay _ _ bs h
 | .fn _ caps,cs,S,bs,h=>by
   rw[ao]at h⊢;obtain⟨arr,ae,af,aF⟩:=h;exact⟨arr,ae,af,aX.frame bb caps _ _ (λ_ h=>h.elim) aF⟩
 | .h _ _,_,_,_,h=>h
 | .au _ _,_,_,_,h=>h
 | .U _ _,_,_,_,h=>h
 | .dm _,_,_,bs,h=>ld.frame bs h
 | .eY _ caps,cs,S,bs,h=>by
   rw[ao]at h⊢;obtain⟨arr,ae,af,aF⟩:=h;exact⟨arr,ae,af,aX.frame bb caps _ _ bs aF⟩
 | .gb d,cs,S,bs,h=>by
   rw[ao]at h⊢;obtain⟨b,v,e,fr,ae,af,aF,a1⟩:=h;exact⟨b,v,e,fr,ae,af,(bb _ af).trans aF,ao.frame bb d _ _ bs a1⟩
theorem aX.frame {w aB:World} {F:Nat->Prop} (bb:∀b,F b->aB.heap[b]? =w.heap[b]?):
  ∀(ds:afh) (cs:aff) (S:Nat->Prop),(∀b,S b->aB.heap[b]? =w.heap[b]?)->aX w F ds cs S->aX aB F ds cs S
 |[],_,_,_,h=>h
 |d::ds,cs,S,bs,h=>by
  rw[aX]at h⊢;obtain⟨bA,bK,S1,S2,ae,af,aF,a1,bt,b_⟩:=h;exact⟨bA,bK,S1,S2,ae,ao.frame bb d _ _ (λb U=>bs _ (a1 _ U)) af,aX.frame bb ds _ _ (λb U=>bs _ (bt _ U)) aF,a1,bt,b_⟩
end
mutual
theorem ao.mono {w:World} {F bC:Nat->Prop} (bb:∀b,F b->bC b):
  ∀(d:I) (cs:aff) (S aO:Nat->Prop),(∀b,S b->aO b)->ao w F d cs S->ao w bC d cs aO
 | .hole,_,_,_,_,h=>h
 | .bool _,_,_,_,_,h=>h
 | .eM,_,_,_,_,h=>h
 | .int _ _,_,_,_,_,h=>h
 | .str _,_,_,_,_,h=>h
 | .db,_,_,_,_,h=>h
 | .aN,_,_,_,_,h=>h
 | .slice xs,cs,S,_,bs,h=>by
   rw[ao]at h⊢;rcases h with h|⟨b,o,cap,c4,sz,ae,af,aF,a1,bt,b_,cq⟩
   .exact .inl h
   .exact .inr ⟨b,o,cap,c4,sz,ae,bb _ af,aF,a1,bt,b_,aX.mono bb xs _ _ _ (λ_ h=>h) cq⟩
 | .ag sz xs,cs,S,_,bs,h=>by
   rw[ao]at h⊢;rcases h with h|⟨b,cap,cur,e,fr,aO,ae,af,aF,a1,bt,b_,cq,er,h1,gp,j4⟩
   .exact .inl h
   .exact .inr ⟨b,cap,cur,e,fr,aO,ae,bs _ af,aF,a1,bt,b_,cq,er,aX.mono bb xs _ _ _ (λ_ h=>h) h1,λc an=>bs _ (gp _ an),j4⟩
 | .ref d,cs,S,_,bs,h=>by
   rw[ao]at h⊢;obtain⟨b,o,c4,ae,af,aF,a1⟩:=h;exact⟨b,o,c4,ae,bb _ af,aF,ao.mono bb d _ _ _ (λ_ h=>h) a1⟩
 | .aK d,cs,S,_,bs,h=>by
   rw[ao]at h⊢;obtain⟨b,cur,e,fr,aO,ae,af,aF,a1,bt,b_,cq⟩:=h;exact⟨b,cur,e,fr,aO,ae,bs _ af,aF,a1,ao.mono bb d _ _ _ (λ_ h=>h) bt,λc an=>bs _ (b_ _ an),cq⟩
 | .agg ay,cs,S,_,bs,h=>by rw[ao]at h⊢;exact aX.mono bb ay _ _ _ bs h
 | .tuple ay,cs,S,_,bs,h=>by rw[ao]at h⊢;exact aX.mono bb ay _ _ _ bs h
 | .fn _ caps,cs,S,_,bs,h=>by
   rw[ao]at h⊢;obtain⟨arr,ae,af,aF⟩:=h;exact⟨arr,ae,af,aX.mono bb caps _ _ _ (λ_ h=>h) aF⟩
 | .h _ _,_,_,_,_,h=>h
 | .au _ _,_,_,_,_,h=>h
 | .U _ _,_,_,_,_,h=>h
 | .dm _,_,_,_,bs,h=>ld.mono bs h
 | .eY _ caps,cs,S,_,bs,h=>by
   rw[ao]at h⊢;obtain⟨arr,ae,af,aF⟩:=h;exact⟨arr,ae,af,aX.mono bb caps _ _ _ bs aF⟩
 | .gb d,cs,S,_,bs,h=>by
   rw[ao]at h⊢;obtain⟨b,v,e,fr,ae,af,aF,a1⟩:=h;exact⟨b,v,e,fr,ae,bb _ af,aF,ao.mono bb d _ _ _ bs a1⟩
theorem aX.mono {w:World} {F bC:Nat->Prop} (bb:∀b,F b->bC b):
  ∀(ds:afh) (cs:aff) (S aO:Nat->Prop),(∀b,S b->aO b)->aX w F ds cs S->aX w bC ds cs aO
 |[],_,_,_,_,h=>h
 |d::ds,cs,S,_,bs,h=>by
  rw[aX]at h⊢;obtain⟨bA,bK,S1,S2,ae,af,aF,a1,bt,b_⟩:=h;exact⟨bA,bK,S1,S2,ae,ao.mono bb d _ _ _ (λ_ h=>h) af,aX.mono bb ds _ _ _ (λ_ h=>h) aF,λb U=>bs _ (a1 _ U),λb U=>bs _ (bt _ U),b_⟩
end
mutual
theorem ao.length {w:World} {F:Nat->Prop}:∀(d:I) (cs:aff) (S:Nat->Prop),ao w F d cs S->cs.length=d.wd
 | .hole,cs,S,h=>by rw[ao]at h;obtain⟨v,_,rfl⟩:=h;rfl
 | .bool _,cs,S,h=>by rw[ao]at h;subst h;rfl
 | .eM,cs,S,h=>by rw[ao]at h;obtain⟨b,rfl⟩:=h;rfl
 | .int _ _,cs,S,h=>by rw[ao]at h;subst h;rfl
 | .str _,cs,S,h=>by rw[ao]at h;subst h;rfl
 | .db,cs,S,h=>by rw[ao]at h;subst h;rfl
 | .aN,cs,S,h=>by rw[ao]at h;subst h;rfl
 | .slice xs,cs,S,h=>by
   rw[ao]at h;rcases h with⟨_,a,c,rfl,_⟩|⟨b,o,cap,c4,sz,rfl,_⟩<;>rfl
 | .ag sz xs,cs,S,h=>by
   rw[ao]at h;rcases h with⟨_,a,rfl⟩|⟨b,cap,cur,e,fr,aO,rfl,_⟩<;>rfl
 | .ref d,cs,S,h=>by rw[ao]at h;obtain⟨b,o,c4,rfl,_⟩:=h;rfl
 | .aK d,cs,S,h=>by rw[ao]at h;obtain⟨b,o,c4,_,_,rfl,_⟩:=h;rfl
 | .agg ay,cs,S,h=>by rw[ao]at h;exact aX.length ay _ _ h
 | .tuple ay,cs,S,h=>by rw[ao]at h;exact aX.length ay _ _ h
 | .fn _ _,cs,S,h=>by rw[ao]at h;obtain⟨arr,rfl,_⟩:=h;rfl
 | .h _ _,cs,S,h=>by rw[ao]at h;exact h.elim
 | .au _ _,cs,S,h=>by rw[ao]at h;exact h.elim
 | .U _ _,cs,S,h=>by rw[ao]at h;exact h.elim
 | .dm _,cs,S,h=>by rw[ao]at h;obtain⟨v,_,rfl⟩:=ld.one h;rfl
 | .eY _ _,cs,S,h=>by rw[ao]at h;obtain⟨arr,rfl,_⟩:=h;rfl
 | .gb _,cs,S,h=>by rw[ao]at h;obtain⟨b,v,e,fr,rfl,_⟩:=h;rfl
theorem aX.length {w:World} {F:Nat->Prop}:∀(ds:afh) (cs:aff) (S:Nat->Prop),aX w F ds cs S->cs.length=I.dh ds
 |[],cs,S,h=>by rw[aX]at h;subst h;rfl
 |d::ds,cs,S,h=>by
  rw[aX]at h;obtain⟨bA,bK,S1,S2,rfl,af,aF,_⟩:=h;rw[length_append,ao.length d _ _ af,aX.length ds _ _ aF,I.dh]
end
mutual
def I.share:I->I
 | .ag _ xs=>.slice (I.shares xs)
 | .aK d=>.ref d.share
 | .slice xs=>.slice (I.shares xs)
 | .ref d=>.ref d.share
 | .agg ay=>.agg (I.shares ay)
 | .tuple ay=>.tuple (I.shares ay)
 | .dm _=>.hole
 | .eY _ _=>.hole
 | .gb _=>.hole
 |d=>d
def I.shares:afh->afh
 |[]=>[]
 |d::ds=>d.share::I.shares ds
end
theorem I.ry (ds:afh):I.shares ds=ds.map I.share:=by
 induction ds with
 |nil=>rfl
 |cons d ds ih=>simp[I.shares,ih]
mutual
theorem I.zk:∀d:I,d.share.wd=d.wd
 | .hole=>rfl
 | .bool _=>rfl
 | .eM=>rfl
 | .int _ _=>rfl
 | .str _=>rfl
 | .db=>rfl
 | .aN=>rfl
 | .slice _=>rfl
 | .ag _ _=>rfl
 | .ref _=>rfl
 | .aK _=>rfl
 | .agg ay=>by simp only[I.share,I.wd];exact I.Cz ay
 | .tuple ay=>by simp only[I.share,I.wd];exact I.Cz ay
 | .fn _ _=>rfl
 | .h _ _=>rfl
 | .au _ _=>rfl
 | .U _ _=>rfl
 | .dm _=>rfl
 | .eY _ _=>rfl
 | .gb _=>rfl
theorem I.Cz:∀ds:afh,I.dh (I.shares ds)=I.dh ds
 |[]=>rfl
 |d::ds=>by simp only[I.shares,I.dh];rw[I.zk d,I.Cz ds]
end
theorem uf {w:World} {b:Nat} {cur:Array Value} {e:TypeId} {fr:Nat×Nat} (h:w.heap[b]? =some (.cells cur e fr)) (n:Nat):hi w b 0 (cur.toList.take n):=by
 intro j c an;rw[getElem?_take]at an;split at an
 .simp[World.cell?,h];simpa using an
 .cases an
mutual
theorem ao.shared {w:World} {F bC:Nat->Prop} (bb:∀b,F b->bC b):
  ∀(d:I) (cs:aff) (S:Nat->Prop),(∀b,S b->bC b)->ao w F d cs S->ao w bC d.share cs (λ_=>False)
 | .hole,_,_,_,h=>h
 | .bool _,_,_,_,h=>h
 | .eM,_,_,_,h=>h
 | .int _ _,_,_,_,h=>h
 | .str _,_,_,_,h=>h
 | .db,_,_,_,h=>h
 | .aN,_,_,_,h=>h
 | .slice xs,cs,S,bs,h=>by
   rw[I.share,ao];rw[ao]at h;rcases h with⟨rfl,a,c,rfl,an⟩|⟨b,o,cap,c4,sz,ae,af,aF,a1,bt,b_,cq⟩
   .exact .inl ⟨rfl,a,c,rfl,an⟩
   .refine .inr ⟨b,o,cap,c4,sz,?_,bb _ af,?_,a1,?_,b_,aX.shared bb xs _ _ (λ_ h=>h.elim) cq⟩
    .simpa [I.ry]using ae
    .simpa [I.ry]using aF
    .intro d ai;rw[I.ry]at ai;obtain⟨bh,gR,rfl⟩:=mem_map.1 ai;rw[I.zk];exact bt _ gR
 | .ag sz xs,cs,S,bs,h=>by
   rw[I.share,ao];rw[ao]at h;rcases h with⟨rfl,a,rfl⟩|⟨b,cap,cur,e,fr,aO,ae,af,aF,a1,bt,b_,cq,er,h1,gp,j4⟩
   .exact .inl ⟨rfl,a,0,rfl,zero_le _,λ_=>rfl⟩
   .refine .inr ⟨b,0,cap,_,sz,?_,bs _ af,?_,b_,?_,uf aF _,aX.shared bb xs _ _ (λc an=>bs _ (gp _ an)) h1⟩
    .simpa [I.ry]using ae
    .simpa [I.ry]using bt
    .intro d ai;rw[I.ry]at ai;obtain⟨bh,gR,rfl⟩:=mem_map.1 ai;rw[I.zk];exact er _ gR
 | .ref d,cs,S,bs,h=>by
   rw[I.share,ao];rw[ao]at h;obtain⟨b,o,c4,ae,af,aF,a1⟩:=h;exact⟨b,o,c4,ae,bb _ af,aF,ao.shared bb d _ _ (λ_ h=>h.elim) a1⟩
 | .aK d,cs,S,bs,h=>by
   rw[I.share,ao];rw[ao]at h;obtain⟨b,cur,e,fr,aO,ae,af,aF,a1,bt,b_,cq⟩:=h;refine⟨b,0,cur.toList,ae,bs _ af,?_,ao.shared bb d _ _ (λc an=>bs _ (b_ _ an)) bt⟩;have:=uf aF cur.toList.length
   rwa [take_length]at this
 | .agg ay,cs,S,bs,h=>by rw[I.share,ao];rw[ao]at h;exact aX.shared bb ay _ _ bs h
 | .tuple ay,cs,S,bs,h=>by rw[I.share,ao];rw[ao]at h;exact aX.shared bb ay _ _ bs h
 | .fn f caps,cs,S,bs,h=>by
   show ao w bC (.fn f caps) cs _;rw[ao]at h⊢;obtain⟨arr,ae,af,aF⟩:=h;exact⟨arr,ae,af,aX.mono bb caps _ _ _ (λ_ h=>h) aF⟩
 | .h _ _,_,_,_,h=>h
 | .au _ _,_,_,_,h=>h
 | .U _ _,_,_,_,h=>h
 | .dm _,cs,S,bs,h=>by rw[ao]at h;rw[I.share,ao];exact ld.one h
 | .eY _ _,cs,S,bs,h=>by rw[ao]at h;obtain⟨arr,rfl,_⟩:=h;rw[I.share,ao];exact⟨_,rfl,rfl⟩
 | .gb _,cs,S,bs,h=>by rw[ao]at h;obtain⟨b,v,e,fr,rfl,_⟩:=h;rw[I.share,ao];exact⟨_,rfl,rfl⟩
theorem aX.shared {w:World} {F bC:Nat->Prop} (bb:∀b,F b->bC b):
  ∀(ds:afh) (cs:aff) (S:Nat->Prop),(∀b,S b->bC b)->aX w F ds cs S->aX w bC (I.shares ds) cs (λ_=>False)
 |[],_,_,_,h=>h
 |d::ds,cs,S,bs,h=>by
  simp only[I.shares];rw[aX]at h⊢;obtain⟨bA,bK,S1,S2,ae,af,aF,a1,bt,b_⟩:=h;exact⟨bA,bK,_,_,ae,ao.shared bb d _ _ (λb U=>bs _ (a1 _ U)) af,aX.shared bb ds _ _ (λb U=>bs _ (bt _ U)) aF,λ_ h=>h,λ_ h=>h,λ_ h=>h.elim⟩
end
def I.sub:afc->I->Option I
 |[],d=>some d
 |k::q,.agg ay=>match ay[k]? with
  |some d=>I.sub q d
  |none=>none
 |k::q,.tuple ay=>match ay[k]? with
  |some d=>I.sub q d
  |none=>none
 |i::q,.ag _ xs=>match xs[i]? with
  |some d=>I.sub q d
  |none=>none
 |0::q,.aK d=>I.sub q d
 |_::_,_=>none
def I.put:afc->I->I->I
 |[],n,_=>n
 |k::q,n,.agg ay=>match ay[k]? with
  |some d=>.agg (ay.set k (I.put q n d))
  |none=>.agg ay
 |k::q,n,.tuple ay=>match ay[k]? with
  |some d=>.tuple (ay.set k (I.put q n d))
  |none=>.tuple ay
 |i::q,n,.ag sz xs=>match xs[i]? with
  |some d=>.ag sz (xs.set i (I.put q n d))
  |none=>.ag sz xs
 |0::q,n,.aK d=>.aK (I.put q n d)
 |_::_,_,d=>d
def j5 (w:World) (b o n:Nat):aff:=(range n).map λj=>(w.cell? ⟨b,o+j,none⟩).getD undef
theorem hi.j5 {w:World} {b o:Nat} {cs:aff} (h:hi w b o cs):j5 w b o cs.length=cs:=by
 unfold c3.j5;apply ext_getElem?;intro i;rw[getElem?_map];by_cases aC:i<cs.length
 .have:cs[i]? =some cs[i]:=getElem?_eq_getElem aC;simp[aC,h i _ this]
 .simp[aC]
def cj (w:World):afc->I->aff->Option (Nat×Nat)->Option (I×aff×Option (Nat×Nat))
 |[],d,cs,a=>some (d,cs,a)
 |k::q,.agg ay,cs,a=>match ay[k]? with
  |some d=>cj w q d ((cs.drop (I.dh (ay.take k))).take d.wd) (a.map λl=>(l.1,l.2+I.dh (ay.take k)))
  |none=>none
 |k::q,.tuple ay,cs,a=>match ay[k]? with
  |some d=>cj w q d ((cs.drop (I.dh (ay.take k))).take d.wd) (a.map λl=>(l.1,l.2+I.dh (ay.take k)))
  |none=>none
 |i::q,.ag sz xs,cs,_=>match xs[i]?,cs with
  |some d,[.slice (some ⟨b,_,_⟩) _ _]=>cj w q d (j5 w b (i*sz) sz) (some (b,i*sz))
  |_,_=>none
 |0::q,.aK d,cs,_=>match cs with
  |[.pointer (some ⟨b,_,_⟩)]=>cj w q d (j5 w b 0 d.wd) (some (b,0))
  |_=>none
 |_::_,_,_,_=>none
theorem nO (bA dQ bK:aff) (n m:Nat) (ae:bA.length=n) (af:dQ.length=m):((bA++(dQ++bK)).drop n).take m=dQ:=by
 rw[drop_left' ae,take_left' af]
theorem aX.pick {w:World} {F:Nat->Prop}:∀(ds:afh) (cs:aff) (S:Nat->Prop) (k:Nat) (d:I),
  aX w F ds cs S->ds[k]? =some d->∃(bA dQ bK:aff) (S1 gq:Nat->Prop),cs=bA++(dQ++bK)/\bA.length=I.dh (ds.take k)/\
   (∀b,S1 b->S b)/\(∀b,gq b->S b)/\(∀b,S1 b->¬gq b)/\ao w F d dQ gq/\
   ∀(aB:World) (bh:I) (sq:aff) (aO:Nat->Prop),(∀b,F b->aB.heap[b]? =w.heap[b]?)->(∀b,S1 b->aB.heap[b]? =w.heap[b]?)->
    ao aB F bh sq aO->(∀b,aO b->¬S1 b)->aX aB F (ds.set k bh) (bA++(sq++bK)) (λb=>S1 b\/aO b)
 |[],_,_,_,_,_,aj=>by simp at aj
 |x::ds,cs,S,0,d,h,aj=>by
  rw[aX]at h;obtain⟨bA,bK,g1,gg,rfl,ae,af,b8,U,lF⟩:=h;simp at aj;subst aj;refine⟨[],bA,bK,gg,g1,rfl,rfl,U,b8,λb U b8=>lF _ b8 U,ae,?_⟩;intro aB bh sq aO bb bs ai iO;simp only[set_cons_zero,nil_append];rw[aX];exact⟨sq,bK,aO,gg,rfl,ai,aX.frame bb _ _ _ bs af,λb h=>.inr h,λb h=>.inl h,λb h=>iO b h⟩
 |x::ds,cs,S,k+1,d,h,aj=>by
  rw[aX]at h;obtain⟨i4,O9,g1,gg,rfl,ae,af,b8,U,lF⟩:=h;simp only[getElem?_cons_succ]at aj;have hl:=ao.length _ _ _ ae;obtain⟨bA,dQ,bK,S1,gq,rfl,O_,rv,oD,so,wA,CA⟩:=aX.pick ds O9 gg k d af aj;refine⟨i4++bA,dQ,bK,λb=>g1 b\/S1 b,gq,by simp,by simp[I.dh,hl,O_],?_,λb h=>U _ (oD _ h),?_,wA,?_⟩
  .rintro b (h|h)
   .exact b8 _ h
   .exact U _ (rv _ h)
  .rintro b (h|h) aj
   .exact lF _ h (oD _ aj)
   .exact so _ h aj
  .intro aB bh sq aO bb bs ai iO;simp only[set_cons_succ];rw[aX];refine⟨i4,bA++(sq++bK),g1,λb=>S1 b\/aO b,by simp,ao.frame bb _ _ _ (λb U=>bs b (.inl U)) ae,
    CA aB bh sq aO bb (λb U=>bs b (.inr U)) ai (λb U an=>iO b U (.inr an)),λb h=>.inl (.inl h),?_,?_⟩
   .rintro b (h|h)
    .exact .inl (.inr h)
    .exact .inr h
   .rintro b h (bB|bB)
    .exact lF _ h (rv _ bB)
    .exact iO _ bB (.inl h)
theorem CB:∀(ay:afh) (k:Nat) (x y:I),ay[k]? =some x->y.wd=x.wd->I.dh (ay.set k y)=I.dh ay:=by
 intro ay;induction ay with
 |nil=>intro k x y h;simp at h
 |cons a ay ih=>
  intro k x y h e;cases k with
  |zero=>simp at h;subst h;simp[I.dh,e]
  |succ k=>simp at h;simp[I.dh,ih k x y h e]
theorem oE {sz:Nat}:∀(xs:afh),(∀d∈xs,d.wd=sz)->I.dh xs=xs.length*sz
 |[],_=>by simp[I.dh]
 |x::xs,h=>by
  rw[I.dh,h x (by simp),oE xs (λd ai=>h d (by simp[ai])),length_cons,Nat.add_mul,Nat.one_mul,Nat.add_comm]
theorem I.ug:∀(q:afc) (av d bh:I),I.sub q av=some d->bh.wd=d.wd->(I.put q bh av).wd=av.wd:=by
 intro q;induction q with
 |nil=>intro av d bh h e;simp[I.sub]at h;subst h;simpa [I.put]using e
 |cons k q ih=>
  intro av d bh h e;cases av with
  |agg ay=>
   simp only[I.sub]at h;split at h
   .rename_i x al;simp only[I.put,al,I.wd];exact CB _ _ _ _ al (ih _ _ _ h e)
   .cases h
  |tuple ay=>
   simp only[I.sub]at h;split at h
   .rename_i x al;simp only[I.put,al,I.wd];exact CB _ _ _ _ al (ih _ _ _ h e)
   .cases h
  |ag sz xs=>
   simp only[I.sub]at h;split at h
   .rename_i x al;simp only[I.put,al,I.wd]
   .cases h
  |aK x=>
   cases k with
   |zero=>simp only[I.put,I.wd]
   |succ k=>simp[I.sub]at h
  |_=>simp[I.sub]at h
theorem CC {sz:Nat} {xs:afh} {i:Nat} {y:I} (h:∀d∈xs,d.wd=sz) (a5:y.wd=sz):∀d∈xs.set i y,d.wd=sz:=by
 intro d ai;rcases mem_or_eq_of_mem_set ai with ai|rfl
 .exact h d ai
 .exact a5
theorem nP {w:World} {b:Nat} {cur:Array Value} {e:TypeId} {fr:Nat×Nat} (h:w.heap[b]? =some (.cells cur e fr)) {l m r:aff} (an:cur.toList=l++(m++r)):
  j5 w b l.length m.length=m:=by
 refine hi.j5 (λj c bZ=>?_);have c5:j<m.length:=(List.getElem?_eq_some_iff.1 bZ).1;have:cur.toList[l.length+j]? =some c:=by
  rw[an,getElem?_append_right (by omega),getElem?_append_left (by omega)];rw[<-bZ];congr 1;omega
 simp[World.cell?,h];simpa using this
def Flat (w:World) (F:Nat->Prop) (q:afc) (av:I) (cs:aff) (a:Option (Nat×Nat)) (d:I) (b7:aff) (ca:Option (Nat×Nat)) (dB:Nat->Prop):Prop:=
 ∃l r:aff,cs=l++(b7++r)/\ca=a.map (λx=>(x.1,x.2+l.length))/\
  ∀(aB:World) (bh:I) (fk:aff) (aO:Nat->Prop),(∀b,F b->aB.heap[b]? =w.heap[b]?)->(∀b,dB b->aB.heap[b]? =w.heap[b]?)->
   bh.wd=d.wd->ao aB F bh fk aO->(∀b,aO b->¬dB b)->ao aB F (I.put q bh av) (l++(fk++r)) (λb=>dB b\/aO b)
def CD (w:World) (F:Nat->Prop) (q:afc) (av:I) (cs:aff) (d:I) (b7:aff) (ca:Option (Nat×Nat)) (dB:Nat->Prop):Prop:=
 ∃(b:Nat) (cur:Array Value) (e:TypeId) (fr:Nat×Nat) (l r:aff),ca=some (b,l.length)/\dB b/\w.heap[b]? =some (.cells cur e fr)/\mf fr cur.size/\cur.toList=l++(b7++r)/\
  ∀(aB:World) (bh:I) (fk:aff) (aO:Nat->Prop),(∀b,F b->aB.heap[b]? =w.heap[b]?)->(∀c,dB c->c≠b->aB.heap[c]? =w.heap[c]?)->
   aB.heap[b]? =some (.cells (l++(fk++r)).toArray e fr)->
   bh.wd=d.wd->ao aB F bh fk aO->(∀b,aO b->¬dB b)->ao aB F (I.put q bh av) cs (λb=>dB b\/aO b)
theorem ctx {w:World} {F:Nat->Prop}:∀(q:afc) (av:I) (cs:aff) (S:Nat->Prop) (a:Option (Nat×Nat)) (d:I),
  ao w F av cs S->I.sub q av=some d->∃(b7:aff) (ca:Option (Nat×Nat)) (dB eF:Nat->Prop),cj w q av cs a=some (d,b7,ca)/\
   (∀b,dB b->S b)/\(∀b,eF b->S b)/\(∀b,dB b->¬eF b)/\ao w F d b7 eF/\(Flat w F q av cs a d b7 ca dB\/CD w F q av cs d b7 ca dB):=by
 intro q;induction q with
 |nil=>
  intro av cs S a d h ai;simp[I.sub]at ai;subst ai;refine⟨cs,a,λ_=>False,S,rfl,λ_ h=>h.elim,λ_ h=>h,λ_ h=>h.elim,h,.inl ⟨[],[],by simp,?_,?_⟩⟩
  .cases a<;>simp
  .intro aB bh fk aO _ _ hw gR _;simp only[I.put,nil_append,append_nil];exact ao.mono (λ_ h=>h) _ _ _ _ (λb h=>.inr h) gR
 |cons k q ih=>
  have fields:∀(mk:afh->I) (CE:∀(w:World) (F:Nat->Prop) (ay:afh) (cs:aff) (S:Nat->Prop),ao w F (mk ay) cs S=aX w F ay cs S) (ay:afh) (cs:aff) (S:Nat->Prop) (a:Option (Nat×Nat)) (x d:I),
    (iP:∀bh,I.put (k::q) bh (mk ay)=mk (ay.set k (I.put q bh x)))->aX w F ay cs S->ay[k]? =some x->I.sub q x=some d->
    ∃(b7:aff) (ca:Option (Nat×Nat)) (dB eF:Nat->Prop),cj w q x ((cs.drop (I.dh (ay.take k))).take x.wd) (a.map λl=>(l.1,l.2+I.dh (ay.take k)))=some (d,b7,ca)/\
    (∀b,dB b->S b)/\(∀b,eF b->S b)/\(∀b,dB b->¬eF b)/\ao w F d b7 eF/\(Flat w F (k::q) (mk ay) cs a d b7 ca dB\/CD w F (k::q) (mk ay) cs d b7 ca dB):=by
   intro mk CE ay cs S a x d iP h al ai;obtain⟨bA,dQ,bK,S1,gq,rfl,eZ,dD,ej,fV,dE,ia⟩:=aX.pick ay cs S k x h al;have hl:=ao.length _ _ _ dE;rw[nO bA dQ bK _ _ eZ hl];obtain⟨b7,ca,dB,eF,fB,aV,ba,bT,c6,ea⟩:=ih x _ gq (a.map λl=>(l.1,l.2+I.dh (ay.take k))) d dE ai;refine⟨b7,ca,λb=>S1 b\/dB b,eF,fB,?_,λb U=>ej _ (ba _ U),?_,c6,?_⟩
   .rintro b (h|h)
    .exact dD _ h
    .exact ej _ (aV _ h)
   .rintro b (h|h) ai
    .exact fV _ h (ba _ ai)
    .exact bT _ h ai
   .have eG:∀(b:Nat) (aO:Nat->Prop),(S1 b\/dB b\/aO b)->((S1 b\/dB b)\/aO b):=by
     rintro b aO (U|U|U)
     .exact .inl (.inl U)
     .exact .inl (.inr U)
     .exact .inr U
    rcases ea with⟨l,r,rfl,a3,aY⟩|⟨b,cur,e,fr,l,r,aT,a3,aY,b1,cI,bQ⟩
    .refine .inl ⟨bA++l,r++bK,by simp,?_,?_⟩
     .rw[a3,<-eZ];cases a<;>simp[Nat.add_assoc]
     .intro aB bh fk aO bb bs hw gR iO;have dR:=aY aB bh fk aO bb (λb U=>bs b (.inr U)) hw gR (λb U an=>iO b U (.inr an));have bx:=ia aB _ _ _ bb (λb U=>bs b (.inl U)) dR (by
       rintro b (U|U) ae
       .exact fV _ ae (aV _ U)
       .exact iO _ U (.inl ae))
      rw[iP,CE];have:=aX.mono (λ_ h=>h) _ _ _ _ (λb=>eG b aO) bx;simpa using this
    .refine .inr ⟨b,cur,e,fr,l,r,aT,.inr a3,aY,b1,cI,?_⟩;intro aB bh fk aO bb bs lG hw gR iO;have dR:=bQ aB bh fk aO bb (λc an=>bs c (.inr an)) lG hw gR (λb U an=>iO b U (.inr an));have bx:=ia aB _ _ _ bb (λc an=>bs c (.inl an) (by rintro rfl;exact fV _ an (aV _ a3))) dR (by
       rintro b (U|U) ae
       .exact fV _ ae (aV _ U)
       .exact iO _ U (.inl ae))
     rw[iP,CE];exact aX.mono (λ_ h=>h) _ _ _ _ (λb=>eG b aO) bx
  intro av cs S a d h ai;cases av with
  |agg ay=>
   simp only[I.sub]at ai;split at ai
   .rename_i x al;rw[ao]at h;have:=fields .agg (λ_ _ _ _ _=>by rw[ao]) ay cs S a x d (λbh=>by simp only[I.put,al]) h al ai;simpa only[cj,al]using this
   .cases ai
  |tuple ay=>
   simp only[I.sub]at ai;split at ai
   .rename_i x al;rw[ao]at h;have:=fields .tuple (λ_ _ _ _ _=>by rw[ao]) ay cs S a x d (λbh=>by simp only[I.put,al]) h al ai;simpa only[cj,al]using this
   .cases ai
  |ag sz xs=>
   simp only[I.sub]at ai;split at ai
   .rename_i x al;rw[ao]at h;rcases h with⟨rfl,_,rfl⟩|⟨b,cap,cur,e,fr,c7,rfl,af,aF,a1,bt,b_,cq,er,h1,gp,j4⟩
    .simp at al
    .obtain⟨bA,dQ,bK,S1,gq,p,eZ,dD,ej,fV,dE,ia⟩:=aX.pick xs _ c7 k x h1 al;have hl:=ao.length _ _ _ dE;have CF:k<xs.length:=(List.getElem?_eq_some_iff.1 al).1;have px:x.wd=sz:=er x (mem_of_getElem? al);have bO:I.dh (xs.take k)=k*sz:=by
      rw[oE _ (λd ai=>er d (mem_of_mem_take ai))];rw[length_take,Nat.min_eq_left (by omega)]
     obtain⟨lH,iz⟩:∃lH,cur.toList=bA++(dQ++(bK++lH)):=by
      refine⟨cur.toList.drop (xs.length*sz),?_⟩;have:=(take_append_drop (xs.length*sz) cur.toList).symm;rw[p]at this;simpa using this
     have hv:j5 w b (k*sz) sz=dQ:=by
      have:=nP aF iz
      rwa [eZ,bO,hl,px]at this
     obtain⟨b7,ca,dB,eF,fB,aV,ba,bT,c6,ea⟩:=ih x _ gq (some (b,k*sz)) d dE ai;have iP:∀bh,I.put (k::q) bh (.ag sz xs)= .ag sz (xs.set k (I.put q bh x)):=λbh=>by simp only[I.put,al]
     refine⟨b7,ca,λc=>c=b\/S1 c\/dB c,eF,?_,?_,λc an=>gp _ (ej _ (ba _ an)),?_,c6,.inr ?_⟩
     .simp only[cj,al,hv];exact fB
     .rintro c (rfl|h|h)
      .exact af
      .exact gp _ (dD _ h)
      .exact gp _ (ej _ (aV _ h))
     .rintro c (rfl|h|h) ai
      .exact j4 (ej _ (ba _ ai))
      .exact fV _ h (ba _ ai)
      .exact bT _ h ai
     .have j6:∀bh,bh.wd=d.wd->(I.put q bh x).wd=sz:=λbh hw=>(I.ug q x d bh ai hw).trans px;rcases ea with⟨l,r,rfl,a3,aY⟩|⟨eN,mh,gd,uh,l,r,aT,a3,aY,b1,cI,bQ⟩
      .refine⟨b,cur,e,fr,bA++l,r++(bK++lH),?_,.inl rfl,aF,a1.low,?_,?_⟩
       .rw[a3];simp[eZ,bO]
       .rw[iz];simp
       .intro aB bh fk aO bb bs lG hw gR iO;have dR:=aY aB bh fk aO bb (λc an=>bs c (.inr (.inr an)) (by rintro rfl;exact j4 (ej _ (aV _ an)))) hw gR (λb U an=>iO b U (.inr (.inr an)));have bx:=ia aB _ _ _ bb (λc an=>bs c (.inr (.inl an)) (by rintro rfl;exact j4 (dD _ an))) dR (by
         rintro b (U|U) ae
         .exact fV _ ae (aV _ U)
         .exact iO _ U (.inr (.inl ae)))
        have wB:=ao.length _ _ _ gR;have wC:=ao.length _ _ _ c6;rw[iP,ao];refine .inr ⟨b,cap,_,e,fr,λb=>S1 b\/dB b\/aO b,by simp,.inl (.inl rfl),lG,?_,by simpa using bt,b_,?_,CC er (j6 bh hw),?_,?_,?_⟩
        .have:(bA++l++(fk++(r++(bK++lH)))).toArray.size=cur.size:=by
          have:cur.size=cur.toList.length:=by simp
          rw[this,iz];simp[wB,wC,hw]
         rw[this];exact a1
        .rw[<-cq];have:cur.size=cur.toList.length:=by simp
         rw[this,iz];simp[wB,wC,hw]
        .have hlen:(bA++(l++(fk++r)++bK)).length=xs.length*sz:=by
          have:=congrArg length p;rw[length_take,Nat.min_eq_left (by simp[cq];exact mul_le_mul_right _ bt)]at this;rw[this];simp[wB,wC,hw]
         have:(bA++l++(fk++(r++(bK++lH))))=(bA++(l++(fk++r)++bK))++lH:=by simp
         rw[length_set];simp only[this];rw[take_left' hlen];exact bx
        .rintro c (h|h|h)
         .exact .inl (.inr (.inl h))
         .exact .inl (.inr (.inr h))
         .exact .inr h
        .rintro(h|h|h)
         .exact j4 (dD _ h)
         .exact j4 (ej _ (aV _ h))
         .exact iO _ h (.inl rfl)
      .refine⟨eN,mh,gd,uh,l,r,aT,.inr (.inr a3),aY,b1,cI,?_⟩;intro aB bh fk aO bb bs lG hw gR iO;have dR:=bQ aB bh fk aO bb (λc an c_=>bs c (.inr (.inr an)) c_) lG hw gR (λb U an=>iO b U (.inr (.inr an)));have c_:∀c,S1 c->c≠eN:=by rintro c an rfl;exact fV _ an (aV _ a3)
       have bx:=ia aB _ _ _ bb (λc an=>bs c (.inr (.inl an)) (c_ c an)) dR (by
        rintro b (U|U) ae
        .exact fV _ ae (aV _ U)
        .exact iO _ U (.inr (.inl ae)))
       have CG:b≠eN:=by rintro rfl;exact j4 (ej _ (aV _ a3))
       rw[iP,ao];refine .inr ⟨b,cap,cur,e,fr,λb=>S1 b\/dB b\/aO b,by simp,.inl (.inl rfl),(bs b (.inl rfl) CG).trans aF,a1,by simpa using bt,b_,cq,CC er (j6 bh hw),?_,?_,?_⟩
       .rw[length_set,p];exact bx
       .rintro c (h|h|h)
        .exact .inl (.inr (.inl h))
        .exact .inl (.inr (.inr h))
        .exact .inr h
       .rintro(h|h|h)
        .exact j4 (dD _ h)
        .exact j4 (ej _ (aV _ h))
        .exact iO _ h (.inl rfl)
   .cases ai
  |aK x=>
   cases k with
   |succ k=>simp[I.sub]at ai
   |zero=>
    simp only[I.sub]at ai;rw[ao]at h;obtain⟨b,cur,e,fr,c7,rfl,af,aF,a1,bt,b_,cq⟩:=h;have hl:=ao.length _ _ _ bt;have hv:j5 w b 0 x.wd=cur.toList:=by
     have:=nP (l:=[]) (m:=cur.toList) (r:=[]) aF (by simp)
     rwa [hl]at this
    obtain⟨b7,ca,dB,eF,fB,aV,ba,bT,c6,ea⟩:=ih x _ c7 (some (b,0)) d bt ai;have iP:∀bh,I.put (0::q) bh (.aK x)= .aK (I.put q bh x):=λbh=>rfl;refine⟨b7,ca,λc=>c=b\/dB c,eF,?_,?_,λc an=>b_ _ (ba _ an),?_,c6,.inr ?_⟩
    .simp only[cj,hv];exact fB
    .rintro c (rfl|h)
     .exact af
     .exact b_ _ (aV _ h)
    .rintro c (rfl|h) ai
     .exact cq (ba _ ai)
     .exact bT _ h ai
    .rcases ea with⟨l,r,aT,a3,aY⟩|⟨eN,mh,gd,uh,l,r,aT,a3,aY,b1,cI,bQ⟩
     .refine⟨b,cur,e,fr,l,r,?_,.inl rfl,aF,a1,aT,?_⟩
      .rw[a3];simp
      .intro aB bh fk aO bb bs lG hw gR iO;have dR:=aY aB bh fk aO bb (λc an=>bs c (.inr an) (by rintro rfl;exact cq (aV _ an))) hw gR (λb U an=>iO b U (.inr an));have wB:=ao.length _ _ _ gR;have wC:=ao.length _ _ _ c6;rw[iP,ao];refine⟨b,_,e,fr,λb=>dB b\/aO b,rfl,.inl (.inl rfl),lG,?_,dR,?_,?_⟩
       .have:(l++(fk++r)).toArray.size=cur.size:=by
         have:cur.size=cur.toList.length:=by simp
         rw[this,aT];simp[wB,wC,hw]
        rw[this];exact a1
       .rintro c (h|h)
        .exact .inl (.inr h)
        .exact .inr h
       .rintro(h|h)
        .exact cq (aV _ h)
        .exact iO _ h (.inl rfl)
     .refine⟨eN,mh,gd,uh,l,r,aT,.inr a3,aY,b1,cI,?_⟩;intro aB bh fk aO bb bs lG hw gR iO;have dR:=bQ aB bh fk aO bb (λc an c_=>bs c (.inr an) c_) lG hw gR (λb U an=>iO b U (.inr an));have CG:b≠eN:=by rintro rfl;exact cq (aV _ a3)
      rw[iP,ao];refine⟨b,cur,e,fr,λb=>dB b\/aO b,rfl,.inl (.inl rfl),(bs b (.inl rfl) CG).trans aF,a1,dR,?_,?_⟩
      .rintro c (h|h)
       .exact .inl (.inr h)
       .exact .inr h
      .rintro(h|h)
       .exact cq (aV _ h)
       .exact iO _ h (.inl rfl)
  |_=>simp[I.sub]at ai
mutual
def I.plain:I->Bool
 | .ag _ _=>false
 | .aK _=>false
 | .dm _=>false
 | .eY _ _=>false
 | .gb _=>false
 | .agg ay=>I.eb ay
 | .tuple ay=>I.eb ay
 |_=>true
def I.eb:afh->Bool
 |[]=>true
 |d::ds=>d.plain&&I.eb ds
end
mutual
def I.ct:I->I
 | .ag _ _=>.hole
 | .aK _=>.hole
 | .dm _=>.hole
 | .eY _ _=>.hole
 | .gb _=>.hole
 | .agg ay=>.agg (I.hJ ay)
 | .tuple ay=>.tuple (I.hJ ay)
 |d=>d
def I.hJ:afh->afh
 |[]=>[]
 |d::ds=>d.ct::I.hJ ds
end
mutual
theorem I.py:∀d:I,d.ct.wd=d.wd
 | .hole=>rfl
 | .bool _=>rfl
 | .eM=>rfl
 | .int _ _=>rfl
 | .str _=>rfl
 | .db=>rfl
 | .aN=>rfl
 | .slice _=>rfl
 | .ag _ _=>rfl
 | .ref _=>rfl
 | .aK _=>rfl
 | .agg ay=>by simp only[I.ct,I.wd];exact I.zl ay
 | .tuple ay=>by simp only[I.ct,I.wd];exact I.zl ay
 | .fn _ _=>rfl
 | .h _ _=>rfl
 | .au _ _=>rfl
 | .U _ _=>rfl
 | .dm _=>rfl
 | .eY _ _=>rfl
 | .gb _=>rfl
theorem I.zl:∀ds:afh,I.dh (I.hJ ds)=I.dh ds
 |[]=>rfl
 |d::ds=>by simp only[I.hJ,I.dh];rw[I.py d,I.zl ds]
end
mutual
theorem ao.ct {w:World} {F:Nat->Prop}:∀(d:I) (cs:aff) (S aO:Nat->Prop),ao w F d cs S->ao w F d.ct cs aO
 | .hole,_,_,_,h=>h
 | .bool _,_,_,_,h=>h
 | .eM,_,_,_,h=>h
 | .int _ _,_,_,_,h=>h
 | .str _,_,_,_,h=>h
 | .db,_,_,_,h=>h
 | .aN,_,_,_,h=>h
 | .slice xs,cs,S,aO,h=>by
   show ao w F (.slice xs) cs aO;rw[ao]at h⊢;exact h
 | .ag sz xs,cs,S,aO,h=>by
   rw[I.ct,ao];rw[ao]at h;rcases h with⟨_,_,rfl⟩|⟨b,cap,cur,e,fr,c7,rfl,_⟩
   .exact⟨_,rfl,rfl⟩
   .exact⟨_,rfl,rfl⟩
 | .ref d,cs,S,aO,h=>by
   show ao w F (.ref d) cs aO;rw[ao]at h⊢;exact h
 | .aK d,cs,S,aO,h=>by
   rw[I.ct,ao];rw[ao]at h;obtain⟨b,cur,e,fr,c7,rfl,_⟩:=h;exact⟨_,rfl,rfl⟩
 | .agg ay,cs,S,aO,h=>by rw[I.ct,ao];rw[ao]at h;exact aX.ct ay _ _ _ h
 | .tuple ay,cs,S,aO,h=>by rw[I.ct,ao];rw[ao]at h;exact aX.ct ay _ _ _ h
 | .fn _ _,_,_,_,h=>h
 | .h _ _,_,_,_,h=>h
 | .au _ _,_,_,_,h=>h
 | .U _ _,_,_,_,h=>h
 | .dm _,_,_,_,h=>by rw[ao]at h;rw[I.ct,ao];exact ld.one h
 | .eY _ _,_,_,_,h=>by rw[ao]at h;obtain⟨arr,rfl,_⟩:=h;rw[I.ct,ao];exact⟨_,rfl,rfl⟩
 | .gb _,_,_,_,h=>by rw[ao]at h;obtain⟨b,v,e,fr,rfl,_⟩:=h;rw[I.ct,ao];exact⟨_,rfl,rfl⟩
theorem aX.ct {w:World} {F:Nat->Prop}:∀(ds:afh) (cs:aff) (S aO:Nat->Prop),aX w F ds cs S->aX w F (I.hJ ds) cs aO
 |[],_,_,_,h=>h
 |d::ds,cs,S,aO,h=>by
  rw[I.hJ,aX];rw[aX]at h;obtain⟨bA,bK,S1,S2,ae,af,aF,a1,bt,b_⟩:=h;exact⟨bA,bK,λ_=>False,λ_=>False,ae,ao.ct d _ _ _ af,aX.ct ds _ _ _ aF,λ_ h=>h.elim,λ_ h=>h.elim,λ_ h=>h.elim⟩
end
mutual
theorem ao.plain {w:World} {F:Nat->Prop}:∀(d:I) (cs:aff) (S aO:Nat->Prop),d.plain=true->ao w F d cs S->ao w F d cs aO
 | .hole,_,_,_,_,h=>h
 | .bool _,_,_,_,_,h=>h
 | .eM,_,_,_,_,h=>h
 | .int _ _,_,_,_,_,h=>h
 | .str _,_,_,_,_,h=>h
 | .db,_,_,_,_,h=>h
 | .aN,_,_,_,_,h=>h
 | .slice xs,cs,S,aO,_,h=>by rw[ao]at h⊢;exact h
 | .ag sz xs,cs,S,aO,au,h=>by simp[I.plain]at au
 | .ref d,cs,S,aO,_,h=>by rw[ao]at h⊢;exact h
 | .aK d,cs,S,aO,au,h=>by simp[I.plain]at au
 | .agg ay,cs,S,aO,au,h=>by rw[ao]at h⊢;exact aX.plain ay _ _ _ au h
 | .tuple ay,cs,S,aO,au,h=>by rw[ao]at h⊢;exact aX.plain ay _ _ _ au h
 | .fn _ _,_,_,_,_,h=>h
 | .h _ _,_,_,_,_,h=>h
 | .au _ _,_,_,_,_,h=>h
 | .U _ _,_,_,_,_,h=>h
 | .dm _,_,_,_,au,_=>by simp[I.plain]at au
 | .eY _ _,_,_,_,au,_=>by simp[I.plain]at au
 | .gb _,_,_,_,au,_=>by simp[I.plain]at au
theorem aX.plain {w:World} {F:Nat->Prop}:∀(ds:afh) (cs:aff) (S aO:Nat->Prop),I.eb ds=true->aX w F ds cs S->aX w F ds cs aO
 |[],_,_,_,_,h=>h
 |d::ds,cs,S,aO,au,h=>by
  rw[aX]at h⊢;simp only[I.eb,Bool.and_eq_true]at au;obtain⟨bA,bK,S1,S2,ae,af,aF,a1,bt,b_⟩:=h;exact⟨bA,bK,λ_=>False,λ_=>False,ae,ao.plain d _ _ _ au.1 af,aX.plain ds _ _ _ au.2 aF,λ_ h=>h.elim,λ_ h=>h.elim,λ_ h=>h.elim⟩
end
def I.dZ:afc->I->Bool
 |[],_=>false
 |k::q,.agg ay=>match ay[k]? with
  |some d=>I.dZ q d
  |none=>false
 |k::q,.tuple ay=>match ay[k]? with
  |some d=>I.dZ q d
  |none=>false
 |_::_,.ag _ _=>true
 |_::_,.aK _=>true
 |_::_,_=>false
theorem wD {ay:afh} (h:I.eb ay=true) {k:Nat} {d:I} (aj:ay[k]? =some d):d.plain=true:=by
 induction ay generalizing k with
 |nil=>simp at aj
 |cons a ay ih=>
  simp only[I.eb,Bool.and_eq_true]at h;cases k with
  |zero=>simp at aj;subst aj;exact h.1
  |succ k=>simp at aj;exact ih h.2 aj
theorem I.H5:∀(q:afc) (d:I),d.plain=true->I.dZ q d=false:=by
 intro q;induction q with
 |nil=>intros;rfl
 |cons k q ih=>
  intro d ai;cases d<;>first|rfl|(simp[I.plain]at ai;done)|skip
  all_goals
   simp only[I.dZ];split
   .rename_i ay x al;exact ih _ (wD (by simpa [I.plain]using ai) al)
   .rfl
theorem I.CH:∀(q:afc) (d e:I),d.plain=true->I.sub q d=some e->e.plain=true:=by
 intro q;induction q with
 |nil=>intro d e ai h;simp[I.sub]at h;exact h▸ai
 |cons k q ih=>
  intro d e ai h;cases d<;>first|(simp[I.plain]at ai;done)|(simp[I.sub]at h;done)|skip
  all_goals
   simp only[I.sub]at h;split at h
   .rename_i ay x al;exact ih _ _ (wD (by simpa [I.plain]using ai) al) h
   .cases h
theorem zm {w aB:World} {F:Nat->Prop}:∀(q:afc) (av:I) (cs:aff) (S:Nat->Prop) (a:Option (Nat×Nat)) (d:I),
  ao w F av cs S->I.sub q av=some d->(∀b,S b->aB.heap[b]? =w.heap[b]?)->cj aB q av cs a=cj w q av cs a:=by
 intro q;induction q with
 |nil=>intros;rfl
 |cons k q ih=>
  have fields:∀(ay:afh) (cs:aff) (S:Nat->Prop) (a:Option (Nat×Nat)) (x d:I),aX w F ay cs S->ay[k]? =some x->I.sub q x=some d->
    (∀b,S b->aB.heap[b]? =w.heap[b]?)->
    cj aB q x ((cs.drop (I.dh (ay.take k))).take x.wd) (a.map λl=>(l.1,l.2+I.dh (ay.take k)))=cj w q x ((cs.drop (I.dh (ay.take k))).take x.wd) (a.map λl=>(l.1,l.2+I.dh (ay.take k))):=by
   intro ay cs S a x d h al ai bs;obtain⟨bA,dQ,bK,S1,gq,rfl,eZ,dD,ej,fV,dE,ia⟩:=aX.pick ay cs S k x h al;rw[nO bA dQ bK _ _ eZ (ao.length _ _ _ dE)];exact ih x dQ gq _ d dE ai (λb U=>bs b (ej _ U))
  intro av cs S a d h ai bs;cases av with
  |agg ay=>
   simp only[I.sub]at ai;split at ai
   .rename_i x al;rw[ao]at h;simp only[cj,al];exact fields ay cs S a x d h al ai bs
   .cases ai
  |tuple ay=>
   simp only[I.sub]at ai;split at ai
   .rename_i x al;rw[ao]at h;simp only[cj,al];exact fields ay cs S a x d h al ai bs
   .cases ai
  |ag sz xs=>
   simp only[I.sub]at ai;split at ai
   .rename_i x al;rw[ao]at h;rcases h with⟨rfl,_,rfl⟩|⟨b,cap,cur,e,fr,c7,rfl,af,aF,a1,bt,b_,cq,er,h1,gp,j4⟩
    .simp at al
    .obtain⟨bA,dQ,bK,S1,gq,p,eZ,dD,ej,fV,dE,ia⟩:=aX.pick xs _ c7 k x h1 al;have hl:=ao.length _ _ _ dE;have CF:k<xs.length:=(List.getElem?_eq_some_iff.1 al).1;have px:x.wd=sz:=er x (mem_of_getElem? al);have bO:I.dh (xs.take k)=k*sz:=by
      rw[oE _ (λd ai=>er d (mem_of_mem_take ai))];rw[length_take,Nat.min_eq_left (by omega)]
     obtain⟨lH,iz⟩:∃lH,cur.toList=bA++(dQ++(bK++lH)):=by
      refine⟨cur.toList.drop (xs.length*sz),?_⟩;have:=(take_append_drop (xs.length*sz) cur.toList).symm;rw[p]at this;simpa using this
     have hv:j5 w b (k*sz) sz=dQ:=by
      have:=nP aF iz
      rwa [eZ,bO,hl,px]at this
     have sr:j5 aB b (k*sz) sz=dQ:=by
      have:=nP ((bs b af).trans aF) iz
      rwa [eZ,bO,hl,px]at this
     simp only[cj,al,hv,sr];exact ih x dQ gq _ d dE ai (λc an=>bs c (gp _ (ej _ an)))
   .cases ai
  |aK x=>
   cases k with
   |succ k=>simp[I.sub]at ai
   |zero=>
    simp only[I.sub]at ai;rw[ao]at h;obtain⟨b,cur,e,fr,c7,rfl,af,aF,a1,bt,b_,cq⟩:=h;have hl:=ao.length _ _ _ bt;have hv:j5 w b 0 x.wd=cur.toList:=by
     have:=nP (l:=[]) (m:=cur.toList) (r:=[]) aF (by simp)
     rwa [hl]at this
    have sr:j5 aB b 0 x.wd=cur.toList:=by
     have:=nP (l:=[]) (m:=cur.toList) (r:=[]) ((bs b af).trans aF) (by simp)
     rwa [hl]at this
    simp only[cj,hv,sr];exact ih x cur.toList c7 _ d bt ai (λc an=>bs c (b_ _ an))
  |_=>simp[I.sub]at ai
def hj:Value->aff
 | .agg cs=>cs.toList
 |v=>[v]
def bX:Value->aff
 | .tuple vs=>vs.toList.flatMap hj
 |v=>hj v
def hL:I->Value->Prop
 | .agg _,v=>∃arr,v= .agg arr
 |_,v=>Value.fU v=true
def dc:I->Value->Prop
 | .tuple ds,v=>∃arr:Array Value,v= .tuple arr/\arr.size=ds.length/\∀(k:Nat) (d:I) (x:Value),ds[k]? =some d->arr[k]? =some x->hL d x/\(∀vs,d≠.tuple vs)/\(hj x).length=d.wd
 |d,v=>hL d v
abbrev ak:=Nat->I
mutual
def aG (w:World) (F:Nat->Prop) (s:ak) (aw:Nat->Value):I->Value->(Nat->Prop)->Prop
 | .hole,_,_=>True
 | .h x q,v,_=>∀d,I.sub q (s x)=some d->d.plain=false->∃b7 a,cj w q (s x) (bX (aw x)) none=some (d,b7,a)/\bX v=b7/\dc d v
 | .au x q,v,_=>∀d,I.sub q (s x)=some d->I.dZ q (s x)=true->∃b7 b o,cj w q (s x) (bX (aw x)) none=some (d,b7,some (b,o))/\v= .pointer (some ⟨b,o,none⟩)
 | .U x k,v,_=>(s x).plain=false->∃b cur e fr,v= .pointer (some ⟨b,k,none⟩)/\F b/\w.heap[b]? =some (.cells cur e fr)/\cur.toList=bX (aw x)
 | .fn f cap,v,_=>∃arr:Array Value,v= .func (.func f) #[] arr/\dC w F s aw cap arr.toList
 | .bool b,v,S=>dc (.bool b) v/\ao w F (.bool b) (bX v) S
 | .eM,v,S=>dc .eM v/\ao w F .eM (bX v) S
 | .int k n,v,S=>dc (.int k n) v/\ao w F (.int k n) (bX v) S
 | .str x,v,S=>dc (.str x) v/\ao w F (.str x) (bX v) S
 | .db,v,S=>dc .db v/\ao w F .db (bX v) S
 | .aN,v,S=>dc .aN v/\ao w F .aN (bX v) S
 | .slice xs,v,S=>dc (.slice xs) v/\ao w F (.slice xs) (bX v) S
 | .ag sz xs,v,S=>dc (.ag sz xs) v/\ao w F (.ag sz xs) (bX v) S
 | .ref d,v,S=>dc (.ref d) v/\ao w F (.ref d) (bX v) S
 | .aK d,v,S=>dc (.aK d) v/\ao w F (.aK d) (bX v) S
 | .agg d,v,S=>dc (.agg d) v/\ao w F (.agg d) (bX v) S
 | .tuple d,v,S=>dc (.tuple d) v/\ao w F (.tuple d) (bX v) S
 | .dm o,v,S=>dc (.dm o) v/\ao w F (.dm o) (bX v) S
 | .eY f d,v,S=>dc (.eY f d) v/\ao w F (.eY f d) (bX v) S
 | .gb d,v,S=>dc (.gb d) v/\ao w F (.gb d) (bX v) S
def dC (w:World) (F:Nat->Prop) (s:ak) (aw:Nat->Value):afh->aff->Prop
 |[],vs=>vs=[]
 |d::ds,vs=>∃v jm,vs=v::jm/\aG w F s aw d v (λ_=>False)/\dC w F s aw ds jm
end
def I.tree:I->Bool
 | .hole=>false
 | .h _ _=>false
 | .au _ _=>false
 | .U _ _=>false
 | .fn _ _=>false
 |_=>true
theorem aG.cd {w:World} {F:Nat->Prop} {s:ak} {aw:Nat->Value} {d:I} {v:Value} {S:Nat->Prop} (aP:d.tree=true):
  aG w F s aw d v S↔(dc d v/\ao w F d (bX v) S):=by
 cases d<;>first|(simp[I.tree]at aP;done)|rw[aG]
theorem gx {q:afc} {av d:I} (h:I.sub q av=some d) (au:d.plain=false\/I.dZ q av=true):av.tree=true:=by
 cases q with
 |nil=>
  simp[I.sub]at h;subst h;rcases au with au|au
  .cases av<;>first|rfl|(simp[I.plain]at au)
  .simp[I.dZ]at au
 |cons k q=>cases av<;>first|rfl|(simp[I.sub]at h)
theorem CI {d:I} (h:d.plain=false):d.tree=true:=gx (q:=[]) (by simp only[I.sub]) (.inl h)
theorem aG.frame {w aB:World} {F bC:Nat->Prop} {s:ak} {aw:Nat->Value} {Sx:Nat->Nat->Prop} (bb:∀b,F b->aB.heap[b]? =w.heap[b]?) (H6:∀b,F b->bC b)
  (bs:∀x b,Sx x b->aB.heap[b]? =w.heap[b]?) (j7:∀x,aG w F s aw (s x) (aw x) (Sx x)):
  ∀(d:I) (v:Value) (S:Nat->Prop),(∀b,S b->aB.heap[b]? =w.heap[b]?)->aG w F s aw d v S->aG aB bC s aw d v S:=by
 have hM:∀(x:Nat) (q:afc) (d:I),I.sub q (s x)=some d->(d.plain=false\/I.dZ q (s x)=true)->cj aB q (s x) (bX (aw x)) none=cj w q (s x) (bX (aw x)) none:=by
  intro x q d ai au;have aP:=gx ai au;have:=j7 x;rw[aG.cd aP]at this;exact zm q _ _ (Sx x) none d this.2 ai (bs x)
 have Pa:∀(d:I) (v:Value) (S:Nat->Prop),d.tree=true->(∀b,S b->aB.heap[b]? =w.heap[b]?)->aG w F s aw d v S->aG aB bC s aw d v S:=by
  intro d v S aP ss h;rw[aG.cd aP]at h⊢;exact⟨h.1,ao.mono H6 _ _ _ _ (λ_ h=>h) (ao.frame bb _ _ _ ss h.2)⟩
 have step:∀n,(∀(d:I) (v:Value) (S:Nat->Prop),SizeOf.sizeOf d<=n->(∀b,S b->aB.heap[b]? =w.heap[b]?)->aG w F s aw d v S->aG aB bC s aw d v S)/\
   (∀(ds:afh) (vs:aff),SizeOf.sizeOf ds<=n->dC w F s aw ds vs->dC aB bC s aw ds vs):=by
  intro n;induction n with
  |zero=>
   refine⟨λd v S bF=>?_,λds vs bF=>?_⟩
   .cases d<;>simp at bF<;>omega
   .cases ds<;>simp at bF<;>omega
  |succ n ih=>
   refine⟨λd v S bF ss h=>?_,λds vs bF h=>?_⟩
   .cases d with
    |hole=>rw[aG];trivial
    |h x q=>
     rw[aG]at h⊢;intro d ai au;rw[hM x q d ai (.inl au)];exact h d ai au
    |au x q=>
     rw[aG]at h⊢;intro d ai au;rw[hM x q d ai (.inr au)];exact h d ai au
    |U x k=>
     rw[aG]at h⊢;intro au;obtain⟨b,cur,e,fr,ae,af,aF,a1⟩:=h au;exact⟨b,cur,e,fr,ae,H6 b af,(bb b af).trans aF,a1⟩
    |fn f cap=>
     rw[aG]at h⊢;obtain⟨arr,rfl,an⟩:=h;exact⟨arr,rfl,ih.2 _ _ (by simp at bF;omega) an⟩
    |_=>exact Pa _ _ _ rfl ss h
   .cases ds with
    |nil=>rw[dC]at h⊢;exact h
    |cons d ds=>
     rw[dC]at h⊢;obtain⟨v,jm,rfl,ae,af⟩:=h;simp at bF;exact⟨v,jm,rfl,ih.1 _ _ _ (by omega) (λ_ h=>h.elim) ae,ih.2 _ _ (by omega) af⟩
 intro d v S ss h;exact(step (SizeOf.sizeOf d)).1 d v S (Nat.le_refl _) ss h
mutual
def cv (x:Nat):I->I
 | .h y q=>if y=x then .hole else .h y q
 | .au y q=>if y=x then .hole else .au y q
 | .U y k=>if y=x then .hole else .U y k
 | .fn f cap=>.fn f (iQ x cap)
 |d=>d
def iQ (x:Nat):afh->afh
 |[]=>[]
 |d::ds=>cv x d::iQ x ds
end
mutual
def b5 (x:Nat):I->I
 | .h y q=>if y=x then(if q=[]then .h y q else .hole)else .h y q
 | .au y q=>if y=x then .hole else .au y q
 | .fn f cap=>.fn f (ib x cap)
 |d=>d
def ib (x:Nat):afh->afh
 |[]=>[]
 |d::ds=>b5 x d::ib x ds
end
def cg {α:Type} (f:Nat->α) (t:Nat) (v:α):Nat->α:=λu=>if u=t then v else f u
def lf (t:Nat) (s:ak):ak:=λu=>cv t (s u)
def e0 (t:Nat) (s:ak):ak:=λu=>b5 t (s u)
theorem lg {α:Type} (f:Nat->α) (t:Nat) (v:α):cg f t v t=v:=by simp[cg]
theorem h2 {α:Type} (f:Nat->α) {t u:Nat} (v:α) (h:u≠t):cg f t v u=f u:=by simp[cg,h]
theorem Pb {t:Nat} {d:I} (h:d.tree=true):cv t d=d:=by cases d<;>first|rfl|(simp[I.tree]at h)
theorem CJ {t:Nat} {d:I} (h:d.tree=true):b5 t d=d:=by cases d<;>first|rfl|(simp[I.tree]at h)
theorem Pc {t:Nat} {d:I} (h:(cv t d).tree=true):d.tree=true/\cv t d=d:=by
 cases d<;>first|exact⟨rfl,rfl⟩|(simp only[cv]at h;first|(split at h<;>simp[I.tree]at h)|simp[I.tree]at h)
theorem zn {t:Nat} {d:I} (h:(b5 t d).tree=true):d.tree=true/\b5 t d=d:=by
 cases d<;>first|exact⟨rfl,rfl⟩|(simp only[b5]at h;first|(split at h<;>(try split at h)<;>simp[I.tree]at h)|simp[I.tree]at h)
section
variable {w:World} {F:Nat->Prop} {s az:ak} {aw jy:Nat->Value} {t:Nat}
theorem aG.cv (gG:∀x,x≠t->(az x).tree=true->az x=s x/\jy x=aw x):∀(n:Nat),
  (∀(d:I) (v:Value) (S:Nat->Prop),SizeOf.sizeOf d<=n->aG w F s aw d v S->aG w F az jy (c3.cv t d) v S)/\
  (∀(ds:afh) (vs:aff),SizeOf.sizeOf ds<=n->dC w F s aw ds vs->dC w F az jy (iQ t ds) vs):=by
 intro n;induction n with
 |zero=>
  refine⟨λd v S bF=>?_,λds vs bF=>?_⟩
  .cases d<;>simp at bF<;>omega
  .cases ds<;>simp at bF<;>omega
 |succ n ih=>
  refine⟨λd v S bF h=>?_,λds vs bF h=>?_⟩
  .cases d with
   |hole=>rw[c3.cv.eq_def];simp only;rw[aG];trivial
   |h x q=>
    simp only[c3.cv];split
    .rw[aG];trivial
    .rename_i al;rw[aG]at h⊢;intro d ai au;obtain⟨aT,a3⟩:=gG x al (gx ai (.inl au));rw[aT,a3];rw[aT]at ai;exact h d ai au
   |au x q=>
    simp only[c3.cv];split
    .rw[aG];trivial
    .rename_i al;rw[aG]at h⊢;intro d ai au;obtain⟨aT,a3⟩:=gG x al (gx ai (.inr au));rw[aT,a3];rw[aT]at ai au;exact h d ai au
   |U x k=>
    simp only[c3.cv];split
    .rw[aG];trivial
    .rename_i al;rw[aG]at h⊢;intro au;obtain⟨aT,a3⟩:=gG x al (CI au);rw[a3];rw[aT]at au;exact h au
   |fn f cap=>
    simp only[c3.cv];rw[aG]at h⊢;obtain⟨arr,rfl,an⟩:=h;exact⟨arr,rfl,ih.2 _ _ (by simp at bF;omega) an⟩
   |_=>
    rw[Pb (by rfl)];exact(aG.cd (by rfl)).2 ((aG.cd (by rfl)).1 h)
  .cases ds with
   |nil=>rw[iQ,dC];rw[dC]at h;exact h
   |cons d ds=>
    rw[iQ,dC];rw[dC]at h;obtain⟨v,jm,rfl,ae,af⟩:=h;simp at bF;exact⟨v,jm,rfl,ih.1 _ _ _ (by omega) ae,ih.2 _ _ (by omega) af⟩
theorem aG.b5 {aB:World} (gG:∀x,x≠t->(az x).tree=true->az x=s x/\jy x=aw x) (gS:jy t=aw t) (eH:(az t).plain=false->(s t).plain=false/\∀v,dc (s t) v->dc (az t) v)
  (hM:∀x q d,x≠t->I.sub q (s x)=some d->(d.plain=false\/I.dZ q (s x)=true)->cj aB q (s x) (bX (aw x)) none=cj w q (s x) (bX (aw x)) none)
  (bb:∀b,F b->aB.heap[b]? =w.heap[b]?):∀(n:Nat),
  (∀(d:I) (v:Value) (S:Nat->Prop),SizeOf.sizeOf d<=n->(∀b,S b->aB.heap[b]? =w.heap[b]?)->aG w F s aw d v S->aG aB F az jy (c3.b5 t d) v S)/\
  (∀(ds:afh) (vs:aff),SizeOf.sizeOf ds<=n->dC w F s aw ds vs->dC aB F az jy (ib t ds) vs):=by
 intro n;induction n with
 |zero=>
  refine⟨λd v S bF=>?_,λds vs bF=>?_⟩
  .cases d<;>simp at bF<;>omega
  .cases ds<;>simp at bF<;>omega
 |succ n ih=>
  refine⟨λd v S bF ss h=>?_,λds vs bF h=>?_⟩
  .cases d with
   |hole=>rw[c3.b5.eq_def];simp only;rw[aG];trivial
   |h x q=>
    simp only[c3.b5];split
    .rename_i al;subst al;split
     .rename_i cF;subst cF;rw[aG]at h⊢;intro d ai au;simp only[I.sub,some.injEq]at ai;subst ai;obtain⟨dR,bx⟩:=eH au;obtain⟨b7,a,aV,ba,bT⟩:=h (s x) rfl dR;simp only[cj,some.injEq,Prod.mk.injEq]at aV;obtain⟨-,aV,adu⟩:=aV;refine⟨bX (jy x),none,rfl,?_,bx _ bT⟩;rw[gS,ba,<-aV]
     .rw[aG];trivial
    .rename_i al;rw[aG]at h⊢;intro d ai au;obtain⟨aT,a3⟩:=gG x al (gx ai (.inl au));rw[aT,a3];rw[aT]at ai;rw[hM x q d al ai (.inl au)];exact h d ai au
   |au x q=>
    simp only[c3.b5];split
    .rw[aG];trivial
    .rename_i al;rw[aG]at h⊢;intro d ai au;obtain⟨aT,a3⟩:=gG x al (gx ai (.inr au));rw[aT,a3];rw[aT]at ai au;rw[hM x q d al ai (.inr au)];exact h d ai au
   |U x k=>
    simp only[c3.b5];rw[aG]at h⊢;intro au;by_cases al:x=t
    .subst al;obtain⟨b,cur,e,fr,ae,af,aF,a1⟩:=h (eH au).1;exact⟨b,cur,e,fr,ae,af,(bb b af).trans aF,by rw[gS];exact a1⟩
    .obtain⟨aT,a3⟩:=gG x al (CI au);rw[aT]at au;obtain⟨b,cur,e,fr,ae,af,aF,a1⟩:=h au;exact⟨b,cur,e,fr,ae,af,(bb b af).trans aF,by rw[a3];exact a1⟩
   |fn f cap=>
    simp only[c3.b5];rw[aG]at h⊢;obtain⟨arr,rfl,an⟩:=h;exact⟨arr,rfl,ih.2 _ _ (by simp at bF;omega) an⟩
   |_=>
    rw[CJ (by rfl)];have bB:=(aG.cd (by rfl)).1 h;exact(aG.cd (by rfl)).2 ⟨bB.1,ao.frame bb _ _ _ ss bB.2⟩
  .cases ds with
   |nil=>rw[ib,dC];rw[dC]at h;exact h
   |cons d ds=>
    rw[ib,dC];rw[dC]at h;obtain⟨v,jm,rfl,ae,af⟩:=h;simp at bF;exact⟨v,jm,rfl,ih.1 _ _ _ (by omega) (λ_ h=>h.elim) ae,ih.2 _ _ (by omega) af⟩
theorem aG.void (gG:∀x,x≠t->(az x).tree=true->az x=s x/\jy x=aw x) (mV:(az t).plain=true):∀(n:Nat),
  (∀(d:I) (v:Value) (S:Nat->Prop),SizeOf.sizeOf d<=n->aG w F s aw d v S->aG w F az jy d v S)/\
  (∀(ds:afh) (vs:aff),SizeOf.sizeOf ds<=n->dC w F s aw ds vs->dC w F az jy ds vs):=by
 intro n;induction n with
 |zero=>
  refine⟨λd v S bF=>?_,λds vs bF=>?_⟩
  .cases d<;>simp at bF<;>omega
  .cases ds<;>simp at bF<;>omega
 |succ n ih=>
  refine⟨λd v S bF h=>?_,λds vs bF h=>?_⟩
  .cases d with
   |hole=>rw[aG];trivial
   |h x q=>
    rw[aG]at h⊢;intro d ai au;by_cases al:x=t
    .subst al;rw[I.CH _ _ _ mV ai]at au;cases au
    .obtain⟨aT,a3⟩:=gG x al (gx ai (.inl au));rw[aT,a3];rw[aT]at ai;exact h d ai au
   |au x q=>
    rw[aG]at h⊢;intro d ai au;by_cases al:x=t
    .subst al;rw[I.H5 _ _ mV]at au;cases au
    .obtain⟨aT,a3⟩:=gG x al (gx ai (.inr au));rw[aT,a3];rw[aT]at ai au;exact h d ai au
   |U x k=>
    rw[aG]at h⊢;intro au;by_cases al:x=t
    .subst al;rw[mV]at au;cases au
    .obtain⟨aT,a3⟩:=gG x al (CI au);rw[a3];rw[aT]at au;exact h au
   |fn f cap=>
    rw[aG]at h⊢;obtain⟨arr,rfl,an⟩:=h;exact⟨arr,rfl,ih.2 _ _ (by simp at bF;omega) an⟩
   |_=>exact(aG.cd (by rfl)).2 ((aG.cd (by rfl)).1 h)
  .cases ds with
   |nil=>rw[dC];rw[dC]at h;exact h
   |cons d ds=>
    rw[dC];rw[dC]at h;obtain⟨v,jm,rfl,ae,af⟩:=h;simp at bF;exact⟨v,jm,rfl,ih.1 _ _ _ (by omega) ae,ih.2 _ _ (by omega) af⟩
end
def Pd:Bool:=false
def Out (w w0:World):Prop:=w.output=w0.output/\(Pd=true->w0.drawn<=w.drawn)
theorem Out.trans {a b c:World} (h:Out a b) (af:Out b c):Out a c:=⟨Eq.trans h.1 af.1,λd=>Nat.le_trans (af.2 d) (h.2 d)⟩
theorem Out.refl (w:World):Out w w:=⟨rfl,λ_=>Nat.le_refl _⟩
def Pe:List (Nat×(Obj->Prop)):=[]
def ui (w:World) (X:Nat->Prop):Prop:=∀p∈Pe,p.1<w.heap.size/\¬X p.1/\∃o,w.heap[p.1]? =some o/\p.2 o
theorem ui.next {w aB:World} {X Y:Nat->Prop} (h:ui w X) (aa:w.heap.size<=aB.heap.size) (U:∀b,b<w.heap.size->¬X b->aB.heap[b]? =w.heap[b]?) (a5:∀b,Y b->X b\/w.heap.size<=b):ui aB Y:=λp au=>by
 obtain⟨ae,af,o,aF,a1⟩:=h p au;refine⟨Nat.lt_of_lt_of_le ae aa,λh=>?_,o,(U _ ae af).trans aF,a1⟩;rcases a5 _ h with h|h
 .exact af h
 .omega
structure bw (w0:World) (F0 X F:Nat->Prop) (S:Nat->Nat->Prop) (s:ak) (aw:Nat->Value) (w:World):Prop where
 g2:∀b,F0 b->F b
 hk:∀b,F b->F0 b\/X b\/w0.heap.size<=b
 fu:∀b,F b->b<w.heap.size
 ek:∀t b,S t b->b<w.heap.size
 fC:∀t b,S t b->¬F b
 e9:∀t u b,t≠u->S t b->¬S u b
 c7:∀t b,S t b->X b\/w0.heap.size<=b
 cV:∀t,aG w F s aw (s t) (aw t) (S t)
 old:∀b,b<w0.heap.size->¬X b->w.heap[b]? =w0.heap[b]?
 size:w0.heap.size<=w.heap.size
 os:w.os=w0.os
 tape:w.tape=w0.tape
 output:Out w w0
 hn:ui w0 X
section
variable {w0 w aB:World} {F0 X F:Nat->Prop} {S:Nat->Nat->Prop} {s:ak} {aw:Nat->Value}
theorem bw.grow (h:bw w0 F0 X F S s aw w) (U:∀b,b<w.heap.size->aB.heap[b]? =w.heap[b]?) (aa:w.heap.size<=aB.heap.size)
  (ae:aB.os=w.os) (af:aB.tape=w.tape) (aF:Out aB w):bw w0 F0 X F S s aw aB where
 g2:=h.g2
 hk:=h.hk
 fu:=λb bb=>Nat.lt_of_lt_of_le (h.fu b bb) aa
 ek:=λt b bb=>Nat.lt_of_lt_of_le (h.ek t b bb) aa
 fC:=h.fC
 e9:=h.e9
 c7:=h.c7
 cV:=λt=>aG.frame (Sx:=S) (λb bb=>U b (h.fu b bb)) (λ_ h=>h) (λx b bs=>U b (h.ek x b bs)) h.cV _ _ _ (λb bs=>U b (h.ek t b bs)) (h.cV t)
 old:=λb c5 jR=>(U b (Nat.lt_of_lt_of_le c5 h.size)).trans (h.old b c5 jR)
 size:=Nat.le_trans h.size aa
 os:=ae.trans h.os
 tape:=af.trans h.tape
 output:=aF.trans h.output
 hn:=h.hn
def gf (S:Nat->Nat->Prop) (t:Nat) (Sn:Nat->Prop):Nat->Nat->Prop:=λu b=>if u=t then Sn b else S u b
theorem wE (S:Nat->Nat->Prop) (t:Nat) (Sn:Nat->Prop):gf S t Sn t=Sn:=by funext b;simp[gf]
theorem wF (S:Nat->Nat->Prop) {t u:Nat} (Sn:Nat->Prop) (h:u≠t):gf S t Sn u=S u:=by funext b;simp[gf,h]
theorem bw.uj (h:bw w0 F0 X F S s aw w) {t:Nat} {d:I} {v:Value} (au:d.plain=true) (ai:aG w F s aw d v (λ_=>False)):
  bw w0 F0 X F (gf S t (λ_=>False)) (cg s t d) (cg aw t v) w where
 g2:=h.g2
 hk:=h.hk
 fu:=h.fu
 ek:=λu b U=>by simp only[gf]at U;split at U;exact U.elim;exact h.ek u b U
 fC:=λu b U=>by simp only[gf]at U;split at U;exact U.elim;exact h.fC u b U
 e9:=λu x b c_ U al=>by
  simp only[gf]at U al;split at U
  .exact U.elim
  .split at al
   .exact al.elim
   .exact h.e9 u x b c_ U al
 c7:=λu b U=>by simp only[gf]at U;split at U;exact U.elim;exact h.c7 u b U
 cV:=λu=>by
  have gG:∀x,x≠t->(cg s t d x).tree=true->cg s t d x=s x/\cg aw t v x=aw x:=λx al _=>⟨h2 _ _ al,h2 _ _ al⟩
  have mV:(cg s t d t).plain=true:=by rw[lg];exact au
  by_cases hu:u=t
  .subst hu;rw[lg,lg,wE];exact(aG.void gG mV _).1 _ _ _ (Nat.le_refl _) ai
  .rw[h2 _ _ hu,h2 _ _ hu,wF _ _ hu];exact(aG.void gG mV _).1 _ _ _ (Nat.le_refl _) (h.cV u)
 old:=h.old
 size:=h.size
 os:=h.os
 tape:=h.tape
 output:=h.output
 hn:=h.hn
theorem bw.H7 (h:bw w0 F0 X F S s aw w) {t:Nat} {d:I} {v:Value} {Sn:Nat->Prop} (ai:d.tree=true) (aa:dc d v) (aH:ao w F d (bX v) Sn)
  (c5:∀b,Sn b->b<w.heap.size) (bb:∀b,Sn b->¬F b) (bs:∀u b,u≠t->Sn b->¬S u b) (bo:∀b,Sn b->X b\/w0.heap.size<=b):
  bw w0 F0 X F (gf S t Sn) (cg (lf t s) t d) (cg aw t v) w where
 g2:=h.g2
 hk:=h.hk
 fu:=h.fu
 ek:=λu b U=>by simp only[gf]at U;split at U;exact c5 b U;exact h.ek u b U
 fC:=λu b U=>by simp only[gf]at U;split at U;exact bb b U;exact h.fC u b U
 e9:=λu x b c_ U al=>by
  simp only[gf]at U al;split at U
  .rename_i hu;rw[if_neg (λe=>c_ (hu.trans e.symm))]at al;exact bs x b (λe=>c_ (hu.trans e.symm)) U al
  .rename_i hu;split at al
   .exact bs u b hu al U
   .exact h.e9 u x b c_ U al
 c7:=λu b U=>by simp only[gf]at U;split at U;exact bo b U;exact h.c7 u b U
 cV:=λu=>by
  have gG:∀x,x≠t->(cg (lf t s) t d x).tree=true->cg (lf t s) t d x=s x/\cg aw t v x=aw x:=λx al aP=>by
   rw[h2 _ _ al]at aP⊢;exact⟨(Pc aP).2,h2 _ _ al⟩
  by_cases hu:u=t
  .subst hu;rw[lg,lg,wE];exact(aG.cd ai).2 ⟨aa,aH⟩
  .rw[h2 _ _ hu,h2 _ _ hu,wF _ _ hu];exact(aG.cv gG _).1 _ _ _ (Nat.le_refl _) (h.cV u)
 old:=h.old
 size:=h.size
 os:=h.os
 tape:=h.tape
 output:=h.output
 hn:=h.hn
theorem rz (k:Nat) (q:afc) (bh x:I):(∃ay gs,x= .agg ay/\I.put (k::q) bh x= .agg gs)\/(∃ay gs,x= .tuple ay/\I.put (k::q) bh x= .tuple gs)\/
  (∃sz xs cf,x= .ag sz xs/\I.put (k::q) bh x= .ag sz cf)\/(∃y z,x= .aK y/\I.put (k::q) bh x= .aK z)\/I.put (k::q) bh x=x:=by
 cases x with
 |agg ay=>simp only[I.put];split<;>exact .inl ⟨_,_,rfl,rfl⟩
 |tuple ay=>simp only[I.put];split<;>exact .inr (.inl ⟨_,_,rfl,rfl⟩)
 |ag sz ay=>simp only[I.put];split<;>exact .inr (.inr (.inl ⟨_,_,_,rfl,rfl⟩))
 |aK y=>cases k<;>exact .inr (.inr (.inr (.inl ⟨_,_,rfl,rfl⟩)))
 |_=>exact .inr (.inr (.inr (.inr rfl)))
theorem H8 {k:Nat} {q:afc} {bh x:I} {v:Value} (h:hL x v):hL (I.put (k::q) bh x) v:=by
 rcases rz k q bh x with⟨ay,gs,rfl,e⟩|⟨ay,gs,rfl,e⟩|⟨sz,xs,cf,rfl,e⟩|⟨y,z,rfl,e⟩|e<;>rw[e]<;>exact h
theorem H9 {k:Nat} {q:afc} {bh x:I} (h:∀vs,x≠.tuple vs):∀vs,I.put (k::q) bh x≠.tuple vs:=by
 rcases rz k q bh x with⟨ay,gs,rfl,e⟩|⟨ay,gs,rfl,e⟩|⟨sz,xs,cf,rfl,e⟩|⟨y,z,rfl,e⟩|e<;>rw[e]<;>first|exact h|(intro vs bB;cases bB;done)|exact(h _ rfl).elim
theorem wG {k:Nat} {q:afc} {d bh av:I} {v:Value} (h:dc av v) (ai:I.sub (k::q) av=some d) (ae:∀v,hL d v->hL bh v) (af:(∀vs,d≠.tuple vs)->∀vs,bh≠.tuple vs) (aF:bh.wd=d.wd):
  dc (I.put (k::q) bh av) v:=by
 cases av with
 |tuple ay=>
  simp only[I.sub]at ai;split at ai
  .rename_i x al;simp only[I.put,al];simp only[dc]at h⊢;obtain⟨arr,rfl,bF,j7⟩:=h;refine⟨arr,rfl,by simpa using bF,λj e y he a5=>?_⟩;rw[getElem?_set]at he;split at he
   .rename_i CK;subst CK;split at he
    .simp only[some.injEq]at he;subst he;obtain⟨aV,ba,bT⟩:=j7 k x y al a5;refine⟨?_,?_,bT.trans (I.ug q x d bh ai aF).symm⟩
     .cases q with
      |nil=>
       simp only[I.sub,some.injEq]at ai;subst ai;exact ae _ aV
      |cons ch q=>exact H8 aV
     .cases q with
      |nil=>
       simp only[I.sub,some.injEq]at ai;subst ai;exact af ba
      |cons ch q=>exact H9 ba
    .cases he
   .exact j7 j e y he a5
  .cases ai
 |agg ay=>simp only[I.put];split<;>exact h
 |ag sz ay=>simp only[I.put];split<;>exact h
 |aK y=>cases k<;>exact h
 |_=>exact h
theorem CL {d:I} {v:Value} (h:hL d v):hL d.ct v:=by cases d<;>exact h
theorem H_ {s:ak} {x:Nat} {q:afc} {d:I} (ai:I.sub q (s x)=some d) (au:d.plain=false):
  (cg (e0 x s) x (I.put q d.ct (s x)) x).plain=false->(s x).plain=false/\∀v,dc (s x) v->dc (cg (e0 x s) x (I.put q d.ct (s x)) x) v:=by
  rw[lg];intro gH;cases q with
  |nil=>
   exfalso;have:∀d:I,d.ct.plain=true:=by
    intro d;have key:∀n,(∀d:I,SizeOf.sizeOf d<=n->d.ct.plain=true)/\(∀ds:afh,SizeOf.sizeOf ds<=n->I.eb (I.hJ ds)=true):=by
     intro n;induction n with
     |zero=>exact⟨λd bF=>by cases d<;>simp at bF<;>omega,λds bF=>by cases ds<;>simp at bF<;>omega⟩
     |succ n ih=>
      refine⟨λd bF=>?_,λds bF=>?_⟩
      .cases d with
       |agg ay=>simp only[I.ct,I.plain];exact ih.2 _ (by simp at bF;omega)
       |tuple ay=>simp only[I.ct,I.plain];exact ih.2 _ (by simp at bF;omega)
       |_=>rfl
      .cases ds with
       |nil=>rfl
       |cons d ds=>
        simp at bF;simp only[I.hJ,I.eb,Bool.and_eq_true];exact⟨ih.1 _ (by omega),ih.2 _ (by omega)⟩
    exact(key _).1 d (Nat.le_refl _)
   simp only[I.put]at gH;rw[this]at gH;cases gH
  |cons k q=>
   refine⟨?_,λv aH=>wG aH ai (λv h=>CL h) (λh vs e=>?_) (I.py d)⟩
   .cases cu:(s x).plain with
    |false=>rfl
    |true=>rw[I.CH _ _ _ cu ai]at au;cases au
   .cases d<;>first|(exact h _ rfl)|(simp[I.ct]at e)
theorem bw.take (h:bw w0 F0 X F S s aw w) {x:Nat} {q:afc} {d:I} (ai:I.sub q (s x)=some d) (au:d.plain=false):
  ∃(Sn eF:Nat->Prop) (b7:aff) (a:Option (Nat×Nat)),bw w0 F0 X F (gf S x Sn) (cg (e0 x s) x (I.put q d.ct (s x))) aw w/\
   cj w q (s x) (bX (aw x)) none=some (d,b7,a)/\ao w F d b7 eF/\(∀b,eF b->S x b)/\(∀b,Sn b->S x b)/\(∀b,eF b->¬Sn b)/\
   (∀(bh:I) (v:Value) (aO:Nat->Prop),aG w F s aw bh v aO->aG w F (cg (e0 x s) x (I.put q d.ct (s x))) aw (c3.b5 x bh) v aO):=by
 have aP:=gx ai (.inl au);have al:=h.cV x;rw[aG.cd aP]at al;obtain⟨b7,a,dB,eF,fB,aV,ba,bT,c6,ea⟩:=ctx q (s x) (bX (aw x)) (S x) none d al.2 ai;have iP:ao w F (I.put q d.ct (s x)) (bX (aw x)) dB:=by
  have mi:ao w F d.ct b7 (λ_=>False):=ao.ct _ _ _ _ c6;have jz:∀b,(dB b\/False)->dB b:=λb h=>h.elim id False.elim;rcases ea with⟨l,r,aT,a3,aY⟩|⟨b,cur,e,fr,l,r,aT,a3,aY,b1,cI,bQ⟩
  .have:=aY w _ b7 _ (λ_ _=>rfl) (λ_ _=>rfl) (I.py d) mi (λ_ h=>h.elim);rw[<-aT]at this;exact ao.mono (λ_ h=>h) _ _ _ _ jz this
  .have:=bQ w _ b7 _ (λ_ _=>rfl) (λ_ _ _=>rfl) (by rw[aY,<-cI]) (I.py d) mi (λ_ h=>h.elim);exact ao.mono (λ_ h=>h) _ _ _ _ jz this
 have Pf:dc (I.put q d.ct (s x)) (aw x)/\(I.put q d.ct (s x)).tree=true\/I.put q d.ct (s x)= .hole:=by
  cases q with
  |nil=>
   simp only[I.sub,some.injEq]at ai;subst ai;simp only[I.put];cases aa:s x with
   |ag sz xs=>right;rfl
   |aK y=>right;rfl
   |dm y=>right;rfl
   |agg ay=>left;rw[aa]at al;exact⟨al.1,rfl⟩
   |tuple ay=>
    left;rw[aa]at al;refine⟨?_,rfl⟩;simp only[dc,I.ct]at al⊢;obtain⟨arr,e,bF,j7⟩:=al.1;have hl:∀ay:afh,I.hJ ay=ay.map I.ct:=by
     intro ay;induction ay with
     |nil=>rfl
     |cons a ay ih=>simp[I.hJ,ih]
    refine⟨arr,e,by rw[hl];simpa using bF,λk gd y he a5=>?_⟩;rw[hl,getElem?_map]at he;cases aj:ay[k]? with
    |none=>rw[aj]at he;cases he
    |some z=>
     rw[aj]at he;simp only[map_some,some.injEq]at he;subst he;obtain⟨aV,ba,bT⟩:=j7 k z y aj a5;refine⟨CL aV,λvs e=>?_,bT.trans (I.py z).symm⟩;cases z<;>first|(exact ba _ rfl)|(simp[I.ct]at e)
   |eY _ _=>right;simp[I.ct]
   |gb _=>right;simp[I.ct]
   |_=>rw[aa]at au;simp[I.plain]at au
  |cons k q=>
   left;refine⟨wG al.1 ai (λv h=>CL h) (λh vs e=>?_) (I.py d),?_⟩
   .cases d<;>first|(exact h _ rfl)|(simp[I.ct]at e)
   .rcases rz k q d.ct (s x)with⟨ay,gs,aT,e⟩|⟨ay,gs,aT,e⟩|⟨sz,xs,cf,aT,e⟩|⟨y,z,aT,e⟩|e<;>rw[e]<;>first|rfl|exact aP
 refine⟨dB,eF,b7,a,?_,fB,c6,ba,aV,λb ae af=>bT b af ae,?_⟩
 rotate_left
 .have gG:∀y,y≠x->(cg (e0 x s) x (I.put q d.ct (s x)) y).tree=true->cg (e0 x s) x (I.put q d.ct (s x)) y=s y/\aw y=aw y:=λy a5 aP=>by
   rw[h2 _ _ a5]at aP⊢;exact⟨(zn aP).2,rfl⟩
  intro bh v aO gR;exact(aG.b5 gG rfl (H_ ai au) (λ_ _ _ _ _ _=>rfl) (λ_ _=>rfl) _).1 _ _ _ (Nat.le_refl _) (λ_ _=>rfl) gR
 have gG:∀y,y≠x->(cg (e0 x s) x (I.put q d.ct (s x)) y).tree=true->cg (e0 x s) x (I.put q d.ct (s x)) y=s y/\aw y=aw y:=λy a5 aP=>by
  rw[h2 _ _ a5]at aP⊢;exact⟨(zn aP).2,rfl⟩
 have eH:=H_ (s:=s) (x:=x) ai au;constructor;case g2=>exact h.g2
 case hk=>exact h.hk
 case fu=>exact h.fu
 case ek=>exact λu b U=>by simp only[gf]at U;split at U;exact h.ek x b (aV b U);exact h.ek u b U
 case fC=>exact λu b U=>by simp only[gf]at U;split at U;exact h.fC x b (aV b U);exact h.fC u b U
 case e9=>
  intro u y b c_ U a5;simp only[gf]at U a5;split at U
  .rename_i hu;rw[if_neg (λe=>c_ (hu.trans e.symm))]at a5;exact h.e9 x y b (λe=>c_ (hu.trans e)) (aV b U) a5
  .rename_i hu;split at a5
   .exact h.e9 u x b hu U (aV b a5)
   .exact h.e9 u y b c_ U a5
 case c7=>exact λu b U=>by simp only[gf]at U;split at U;exact h.c7 x b (aV b U);exact h.c7 u b U
 case cV=>
  intro u;by_cases hu:u=x
  .subst hu;rw[lg,wE];rcases Pf with⟨aT,a3⟩|e
   .exact(aG.cd a3).2 ⟨aT,iP⟩
   .rw[e,aG];trivial
  .rw[h2 _ _ hu,wF _ _ hu];exact(aG.b5 gG rfl eH (λ_ _ _ _ _ _=>rfl) (λ_ _=>rfl) _).1 _ _ _ (Nat.le_refl _) (λ_ _=>rfl) (h.cV u)
 case old=>exact h.old
 case size=>exact h.size
 case os=>exact h.os
 case tape=>exact h.tape
 case output=>exact h.output
 case hn=>exact h.hn
theorem bw.store (h:bw w0 F0 X F S s aw w) {x:Nat} {q:afc} {d bh:I} (ai:I.sub q (s x)=some d) (an:I.dZ q (s x)=true)
  {fk:aff} {Sn:Nat->Prop} (aH:ao w F bh fk Sn) (j6:bh.wd=d.wd)
  (c5:∀b,Sn b->b<w.heap.size) (bb:∀b,Sn b->¬F b) (bs:∀u b,Sn b->¬S u b) (bo:∀b,Sn b->X b\/w0.heap.size<=b):
  ∃(b7:aff) (b:Nat) (l r:aff) (cur:Array Value) (e:TypeId) (fr:Nat×Nat),cj w q (s x) (bX (aw x)) none=some (d,b7,some (b,l.length))/\
   w.heap[b]? =some (.cells cur e fr)/\cur.toList=l++(b7++r)/\mf fr cur.size/\
   ∀aB,aB.heap[b]? =some (.cells (l++(fk++r)).toArray e fr)->(∀c,c≠b->aB.heap[c]? =w.heap[c]?)->aB.heap.size=w.heap.size->aB.os=w.os->aB.tape=w.tape->Out aB w->
    ∃aO,bw w0 F0 X F aO (cg (e0 x s) x (I.put q bh (s x))) aw aB:=by
 have aP:=gx ai (.inr an);have al:=h.cV x;rw[aG.cd aP]at al;obtain⟨b7,a,dB,eF,fB,aV,ba,bT,c6,ea⟩:=ctx q (s x) (bX (aw x)) (S x) none d al.2 ai;have Pg:CD w F q (s x) (bX (aw x)) d b7 a dB:=by
  rcases ea with⟨l,r,aT,a3,aY⟩|ea
  .exfalso;have jn:∀(q:afc) (av:I) (cs:aff) (J:Option (Nat×Nat)) (d:I) (b7:aff),I.dZ q av=true->cj w q av cs J=some (d,b7,none)->False:=by
    intro q;induction q with
    |nil=>intro av cs J d b7 an;simp[I.dZ]at an
    |cons k q ih=>
     have Ia:∀(q:afc) (av:I) (cs:aff) (l:Nat×Nat) (d:I) (b7:aff),cj w q av cs (some l)=some (d,b7,none)->False:=by
      intro q;induction q with
      |nil=>intro av cs l d b7 h;simp[cj]at h
      |cons k q zo=>
       intro av cs l d b7 h;cases av with
       |agg ay=>rw[cj]at h;split at h;exact zo _ _ _ _ _ h;cases h
       |tuple ay=>rw[cj]at h;split at h;exact zo _ _ _ _ _ h;cases h
       |ag sz xs=>simp only[cj]at h;split at h;exact zo _ _ _ _ _ h;cases h
       |aK y=>
        cases k with
        |zero=>rw[cj.eq_def]at h;simp only at h;split at h;exact zo _ _ _ _ _ h;cases h
        |succ k=>rw[show cj w ((k+1)::q) (.aK y) cs (some l)=none from rfl]at h;cases h
       |_=>simp[cj]at h
     intro av cs J d b7 an h;cases av with
     |agg ay=>
      simp only[I.dZ]at an;split at an
      .rename_i y a5;simp only[cj,a5]at h;exact ih _ _ _ _ _ an h
      .cases an
     |tuple ay=>
      simp only[I.dZ]at an;split at an
      .rename_i y a5;simp only[cj,a5]at h;exact ih _ _ _ _ _ an h
      .cases an
     |ag sz xs=>simp only[cj]at h;split at h;exact Ia _ _ _ _ _ _ h;cases h
     |aK y=>
      cases k with
      |zero=>rw[cj.eq_def]at h;simp only at h;split at h;exact Ia _ _ _ _ _ _ h;cases h
      |succ k=>rw[show cj w ((k+1)::q) (.aK y) cs J=none from rfl]at h;cases h
     |_=>simp[I.dZ]at an
   simp only[map_none]at a3;subst a3;exact jn _ _ _ _ _ _ an fB
  .exact ea
 obtain⟨b,cur,e,fr,l,r,rfl,a3,aY,b1,cI,bQ⟩:=Pg;refine⟨b7,b,l,r,cur,e,fr,fB,aY,cI,b1,?_⟩;intro aB lG nQ cO CM CN su;have sv:S x b:=aV _ a3;have pz:∀c,F c->aB.heap[c]? =w.heap[c]? :=λc an=>nQ c (by rintro rfl;exact h.fC x _ sv an);have Ib:fk.length=b7.length:=by rw[ao.length _ _ _ aH,ao.length _ _ _ c6,j6]
 have iP:=bQ aB bh fk Sn pz (λc _ c_=>nQ c c_) lG j6
  (ao.frame pz _ _ _ (λc an=>nQ c (by rintro rfl;exact bs x _ an sv)) aH) (λc an jz=>bs x c an (aV _ jz))
 obtain⟨k,i5,rfl⟩:∃k i5,q=k::i5:=by
  cases q with
  |nil=>simp[I.dZ]at an
  |cons k q=>exact⟨k,q,rfl⟩
 have wH:∀v,dc (s x) v->dc (I.put (k::i5) bh (s x)) v:=by
  intro v aH;rcases rz k i5 bh (s x)with⟨ay,gs,aT,e⟩|⟨ay,gs,aT,e⟩|⟨sz,xs,cf,aT,e⟩|⟨y,z,aT,e⟩|e
  .rw[e];rw[aT]at aH;exact aH
  ·
   rw[aT]at aH ai an⊢;simp only[I.dZ]at an;split at an
   .rename_i y a5;simp only[I.put,a5];cases i5 with
    |nil=>simp[I.dZ]at an
    |cons ch fQ=>
     simp only[dc]at aH⊢;obtain⟨arr,rfl,bF,j7⟩:=aH;refine⟨arr,rfl,by simpa using bF,λj e jo he qs=>?_⟩;rw[getElem?_set]at he;split at he
     .rename_i CK;subst CK;split at he
      .simp only[some.injEq]at he;subst he;obtain⟨aV,ba,bT⟩:=j7 _ y jo a5 qs;simp only[I.sub,a5]at ai;exact⟨H8 aV,H9 ba,bT.trans (I.ug (ch::fQ) y d bh ai j6).symm⟩
      .cases he
     .exact j7 j e jo he qs
   .cases an
  .rw[e];rw[aT]at aH;exact aH
  .rw[e];rw[aT]at aH;exact aH
  .rw[e];exact aH
 have Ph:(I.put (k::i5) bh (s x)).tree=true:=by
  rcases rz k i5 bh (s x)with⟨ay,gs,aT,e⟩|⟨ay,gs,aT,e⟩|⟨sz,xs,cf,aT,e⟩|⟨y,z,aT,e⟩|e<;>rw[e]<;>first|rfl|exact aP
 let az:=cg (e0 x s) x (I.put (k::i5) bh (s x))
 have gG:∀y,y≠x->(az y).tree=true->az y=s y/\aw y=aw y:=λy a5 aP=>by
  have e:az y=b5 x (s y):=h2 _ _ a5;rw[e]at aP⊢;exact⟨(zn aP).2,rfl⟩
 have eH:(az x).plain=false->(s x).plain=false/\∀v,dc (s x) v->dc (az x) v:=by
  intro _;refine⟨?_,?_⟩
  .cases cu:(s x).plain with
   |false=>rfl
   |true=>rw[I.H5 _ _ cu]at an;cases an
  .simp only[az,lg];exact wH
 refine⟨gf S x (λc=>dB c\/Sn c),?_⟩;constructor;case g2=>exact h.g2
 case hk=>exact h.hk
 case fu=>exact λb U=>by rw[cO];exact h.fu b U
 case ek=>
  intro u c U;rw[cO];simp only[gf]at U;split at U
  .rcases U with U|U
   .exact h.ek x c (aV c U)
   .exact c5 c U
  .exact h.ek u c U
 case fC=>
  intro u c U;simp only[gf]at U;split at U
  .rcases U with U|U
   .exact h.fC x c (aV c U)
   .exact bb c U
  .exact h.fC u c U
 case e9=>
  intro u y c c_ U a5;simp only[gf]at U a5;split at U
  .rename_i hu;rw[if_neg (λe=>c_ (hu.trans e.symm))]at a5;rcases U with U|U
   .exact h.e9 x y c (λe=>c_ (hu.trans e)) (aV c U) a5
   .exact bs y c U a5
  .rename_i hu;split at a5
   .rcases a5 with a5|a5
    .exact h.e9 u x c hu U (aV c a5)
    .exact bs u c a5 U
   .exact h.e9 u y c c_ U a5
 case c7=>
  intro u c U;simp only[gf]at U;split at U
  .rcases U with U|U
   .exact h.c7 x c (aV c U)
   .exact bo c U
  .exact h.c7 u c U
 case cV=>
  intro u;by_cases hu:u=x
  .subst hu;rw[lg,wE];exact(aG.cd Ph).2 ⟨wH _ al.1,iP⟩
  .rw[h2 _ _ hu,wF _ _ hu];have c_:∀y c,y≠x->S y c->aB.heap[c]? =w.heap[c]? :=λy c a5 an=>nQ c (by rintro rfl;exact h.e9 y x c a5 an sv);refine(aG.b5 gG rfl eH (λy fQ d2 a5 hx wI=>?_) pz _).1 _ _ _ (Nat.le_refl _) (λc an=>c_ u c hu an) (h.cV u);have wJ:=h.cV y;rw[aG.cd (gx hx wI)]at wJ;exact zm fQ _ _ _ none d2 wJ.2 hx (λc an=>c_ y c a5 an)
 case old=>
  intro c c5 jR;by_cases uk:c=b
  .subst uk;exfalso;rcases h.c7 x c sv with mi|mi
   .exact jR mi
   .omega
  .exact(nQ c uk).trans (h.old c c5 jR)
 case size=>rw[cO];exact h.size
 case os=>exact CM.trans h.os
 case tape=>exact CN.trans h.tape
 case output=>exact su.trans h.output
 case hn=>exact h.hn
end
end Go.c3
