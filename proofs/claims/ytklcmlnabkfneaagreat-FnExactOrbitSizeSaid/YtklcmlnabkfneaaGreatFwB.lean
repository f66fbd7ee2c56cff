/- Part of a proof that a law returns true for every input. No condition. -/
import Derived.Test.YtklcmlnabkfneaaGreatFwA
import Derived.Laws.AppendOwn
import Derived.Calls
namespace Go.cU
open List Option Go.IntKind Nat Or
inductive vr where
 |mp (es:aiv)
 |vt
 |h7 (T e:TypeId) (ks:aix)
inductive I where
 |hole
 |bool (b:Bool)
 |e7
 |int (k:IntKind) (n:Int)
 |str (s:aix)
 |di
 |a_
 |slice (xs:List I)
 |al (sz:Nat) (xs:List I)
 |ref (d:I)
 |bb (d:I)
 |agg (ay:List I)
 |tuple (vs:List I)
 |fn (f:FuncId) (cap:List I)
 |h (x:Nat) (q:aiA)
 |au (x:Nat) (q:aiA)
 |R (x:Nat) (k:Nat)
 |dz (o:vr)
 |fv (f:FuncId) (cap:List I)
 deriving Inhabited
abbrev aiF:=List I
abbrev aiE:=List (Nat×I)
mutual
def I.wd:I->Nat
 | .agg ay=>I.dH ay
 | .tuple ay=>I.dH ay
 |_=>1
def I.dH:aiF->Nat
 |[]=>0
 |d::ds=>d.wd+I.dH ds
end
def Rd (w:World) (b o:Nat) (cs:aiD):Prop:=∀j c,cs[j]? =some c->w.cell? ⟨b,o+j,none⟩=some c
def kt (fr:Nat×Nat) (n:Nat):Prop:=∀o,o<n->¬(fr.1<=o/\o<fr.2)
theorem kt.le {fr:Nat×Nat} {m n:Nat} (h:kt fr n) (hm:m<=n):kt fr m:=λo bx=>h o (Nat.lt_of_lt_of_le bx hm)
theorem kt.low {fr:Nat×Nat} {n k:Nat} (h:kt fr (n+k)):kt fr n:=h.le (le_add_right _ _)
def Value.fw:Value->Bool
 | .agg _=>false
 | .tuple _=>false
 |_=>true
def I.single:I->Bool
 | .agg _=>false
 | .tuple _=>false
 | .hole=>false
 |_=>true
def I.one:I->Bool
 | .agg _=>false
 | .tuple _=>false
 |_=>true
def k4 (w:World):vr->aiD->(Nat->Prop)->Prop
 | .mp es,cs,S=>∃r ms lX,cs=[.map (some r)]/\S r/\w.heap[r]? =some (.map ms lX)/\ms.toList.map (λe=>(e.key,e.val))=es.map (λe=>(.string ⟨⟨e.1⟩⟩,.bool e.2))
 | .vt,cs,_=>cs=[.map none]
 | .h7 T e ks,cs,S=>∃b a rT,cs=[.pointer (some ⟨b,0,none⟩)]/\S b/\w.heap[b]? =some (.cells #[a,rT] T (0,0))/\(a= .pointer none\/a= .pointer (some ⟨b,0,none⟩))/\
   ((ks=[]/\rT= .slice none 0 0)\/
     ∃g cap cur,rT= .slice (some ⟨g,0,none⟩) ks.length cap/\S g/\g≠b/\w.heap[g]? =some (.cells cur e (0,0))/\ks.length<=cap/\cap<=maxLen/\cur.size=cap/\
      cur.toList.take ks.length=ks.map λx=>.int .u8 x.toNat)
theorem k4.frame {w aB:World}:∀{o:vr} {cs:aiD} {S:Nat->Prop},(∀b,S b->aB.heap[b]? =w.heap[b]?)->k4 w o cs S->k4 aB o cs S
 | .mp _,_,_,br,⟨r,ms,lX,ab,ad,aA,aZ⟩=>⟨r,ms,lX,ab,ad,(br _ ad).trans aA,aZ⟩
 | .vt,_,_,_,h=>h
 | .h7 _ _ _,_,_,br,⟨b,a,rT,ab,ad,aA,aZ,bA⟩=>⟨b,a,rT,ab,ad,(br _ ad).trans aA,aZ,bA.imp (λh=>h) λ⟨g,cap,cur,mQ,i2,i3,i4,i5⟩=>⟨g,cap,cur,mQ,i2,i3,(br _ i2).trans i4,i5⟩⟩
theorem k4.mono {w:World}:∀{o:vr} {cs:aiD} {S aL:Nat->Prop},(∀b,S b->aL b)->k4 w o cs S->k4 w o cs aL
 | .mp _,_,_,_,br,⟨r,ms,lX,ab,ad,aA⟩=>⟨r,ms,lX,ab,br _ ad,aA⟩
 | .vt,_,_,_,_,h=>h
 | .h7 _ _ _,_,_,_,br,⟨b,a,rT,ab,ad,aA,aZ,bA⟩=>⟨b,a,rT,ab,br _ ad,aA,aZ,bA.imp (λh=>h) λ⟨g,cap,cur,mQ,i2,i3⟩=>⟨g,cap,cur,mQ,br _ i2,i3⟩⟩
theorem k4.one {w:World}:∀{o:vr} {cs:aiD} {S:Nat->Prop},k4 w o cs S->∃v,Value.fw v=true/\cs=[v]
 | .mp _,_,_,⟨_,_,_,h,_⟩=>⟨_,rfl,h⟩
 | .vt,_,_,h=>⟨_,rfl,h⟩
 | .h7 _ _ _,_,_,⟨_,_,_,h,_⟩=>⟨_,rfl,h⟩
mutual
def aq (w:World) (F:Nat->Prop):I->aiD->(Nat->Prop)->Prop
 | .hole,cs,_=>∃v,Value.fw v=true/\cs=[v]
 | .bool b,cs,_=>cs=[.bool b]
 | .e7,cs,_=>∃b,cs=[.bool b]
 | .int k n,cs,_=>cs=[.int k n]
 | .str s,cs,_=>cs=[.string ⟨⟨s⟩⟩]
 | .di,cs,_=>cs=[.pointer none]
 | .a_,cs,_=>cs=[.slice none 0 0]
 | .slice xs,cs,_=>(xs=[]/\∃a c,cs=[.slice a 0 c]/\c<=maxLen/\(a=none->c=0))\/
   ∃b o cap d_ sz,cs=[.slice (some ⟨b,o,none⟩) xs.length cap]/\F b/\xs.length<=cap/\cap<=maxLen/\(∀d∈xs,d.wd=sz)/\
    Rd w b o d_/\aV w F xs d_ (λ_=>False)
 | .al sz xs,cs,S=>(xs=[]/\∃a,cs=[.slice a 0 0])\/
   ∃b cap cur e fr aL,cs=[.slice (some ⟨b,0,none⟩) xs.length cap]/\S b/\w.heap[b]? =some (.cells cur e fr)/\kt fr (cur.size+(sz-1))/\
    xs.length<=cap/\cap<=maxLen/\cur.size=cap*sz/\(∀d∈xs,d.wd=sz)/\aV w F xs (cur.toList.take (xs.length*sz)) aL/\(∀c,aL c->S c)/\¬aL b
 | .ref d,cs,_=>∃b o d_,cs=[.pointer (some ⟨b,o,none⟩)]/\F b/\Rd w b o d_/\aq w F d d_ (λ_=>False)
 | .bb d,cs,S=>∃b cur e fr aL,cs=[.pointer (some ⟨b,0,none⟩)]/\S b/\w.heap[b]? =some (.cells cur e fr)/\kt fr cur.size/\
   aq w F d cur.toList aL/\(∀c,aL c->S c)/\¬aL b
 | .agg ay,cs,S=>aV w F ay cs S
 | .tuple ay,cs,S=>aV w F ay cs S
 | .fn f caps,cs,_=>∃arr:Array Value,cs=[.func (.func f) #[] arr]/\(∀d∈caps,d.single=true)/\aV w F caps arr.toList (λ_=>False)
 | .h _ _,_,_=>False
 | .au _ _,_,_=>False
 | .R _ _,_,_=>False
 | .dz o,cs,S=>k4 w o cs S
 | .fv f caps,cs,S=>∃arr:Array Value,cs=[.func (.func f) #[] arr]/\(∀d∈caps,d.one=true)/\aV w F caps arr.toList S
def aV (w:World) (F:Nat->Prop):aiF->aiD->(Nat->Prop)->Prop
 |[],cs,_=>cs=[]
 |d::ds,cs,S=>∃c1 c2 bM c3,cs=c1++c2/\aq w F d c1 bM/\aV w F ds c2 c3/\(∀b,bM b->S b)/\(∀b,c3 b->S b)/\(∀b,bM b->¬c3 b)
end
theorem cell?_of_block {w aB:World} {b:Nat} (h:aB.heap[b]? =w.heap[b]?) (o:Nat):aB.cell? ⟨b,o,none⟩=w.cell? ⟨b,o,none⟩:=by
 simp[World.cell?,h]
theorem Rd.frame {w aB:World} {b o:Nat} {cs:aiD} (h:aB.heap[b]? =w.heap[b]?) (aK:Rd w b o cs):Rd aB b o cs:=
 λj c aj=>(cell?_of_block h _).trans (aK j c aj)
mutual
theorem aq.frame {w aB:World} {F:Nat->Prop} (bc:∀b,F b->aB.heap[b]? =w.heap[b]?):
  ∀(d:I) (cs:aiD) (S:Nat->Prop),(∀b,S b->aB.heap[b]? =w.heap[b]?)->aq w F d cs S->aq aB F d cs S
 | .hole,_,_,_,h=>h
 | .bool _,_,_,_,h=>h
 | .e7,_,_,_,h=>h
 | .int _ _,_,_,_,h=>h
 | .str _,_,_,_,h=>h
 | .di,_,_,_,h=>h
 | .a_,_,_,_,h=>h
 | .slice xs,cs,S,br,h=>by
   rw[aq]at h⊢;rcases h with h|⟨b,o,cap,d_,sz,ab,ad,aA,aZ,bA,cH,cI⟩
   .exact .inl h
   .exact .inr ⟨b,o,cap,d_,sz,ab,ad,aA,aZ,bA,cH.frame (bc _ ad),aV.frame bc xs _ _ (λ_ h=>h.elim) cI⟩
 | .al sz xs,cs,S,br,h=>by
   rw[aq]at h⊢;rcases h with h|⟨b,cap,cur,e,fr,aL,ab,ad,aA,aZ,bA,cH,cI,gn,jv,ig,ku⟩
   .exact .inl h
   .exact .inr ⟨b,cap,cur,e,fr,aL,ab,ad,(br _ ad).trans aA,aZ,bA,cH,cI,gn,aV.frame bc xs _ _ (λc aj=>br _ (ig _ aj)) jv,ig,ku⟩
 | .ref d,cs,S,br,h=>by
   rw[aq]at h⊢;obtain⟨b,o,d_,ab,ad,aA,aZ⟩:=h;exact⟨b,o,d_,ab,ad,aA.frame (bc _ ad),aq.frame bc d _ _ (λ_ h=>h.elim) aZ⟩
 | .bb d,cs,S,br,h=>by
   rw[aq]at h⊢;obtain⟨b,cur,e,fr,aL,ab,ad,aA,aZ,bA,cH,cI⟩:=h;exact⟨b,cur,e,fr,aL,ab,ad,(br _ ad).trans aA,aZ,aq.frame bc d _ _ (λc aj=>br _ (cH _ aj)) bA,cH,cI⟩
 | .agg ay,cs,S,br,h=>by rw[aq]at h⊢;exact aV.frame bc ay _ _ br h
 | .tuple ay,cs,S,br,h=>by rw[aq]at h⊢;exact aV.frame bc ay _ _ br h
 | .fn _ caps,cs,S,br,h=>by
   rw[aq]at h⊢;obtain⟨arr,ab,ad,aA⟩:=h;exact⟨arr,ab,ad,aV.frame bc caps _ _ (λ_ h=>h.elim) aA⟩
 | .h _ _,_,_,_,h=>h
 | .au _ _,_,_,_,h=>h
 | .R _ _,_,_,_,h=>h
 | .dz _,_,_,br,h=>k4.frame br h
 | .fv _ caps,cs,S,br,h=>by
   rw[aq]at h⊢;obtain⟨arr,ab,ad,aA⟩:=h;exact⟨arr,ab,ad,aV.frame bc caps _ _ br aA⟩
theorem aV.frame {w aB:World} {F:Nat->Prop} (bc:∀b,F b->aB.heap[b]? =w.heap[b]?):
  ∀(ds:aiF) (cs:aiD) (S:Nat->Prop),(∀b,S b->aB.heap[b]? =w.heap[b]?)->aV w F ds cs S->aV aB F ds cs S
 |[],_,_,_,h=>h
 |d::ds,cs,S,br,h=>by
  rw[aV]at h⊢;obtain⟨c1,c2,bM,c3,ab,ad,aA,aZ,bA,cH⟩:=h;exact⟨c1,c2,bM,c3,ab,aq.frame bc d _ _ (λb R=>br _ (aZ _ R)) ad,aV.frame bc ds _ _ (λb R=>br _ (bA _ R)) aA,aZ,bA,cH⟩
end
mutual
theorem aq.mono {w:World} {F bF:Nat->Prop} (bc:∀b,F b->bF b):
  ∀(d:I) (cs:aiD) (S aL:Nat->Prop),(∀b,S b->aL b)->aq w F d cs S->aq w bF d cs aL
 | .hole,_,_,_,_,h=>h
 | .bool _,_,_,_,_,h=>h
 | .e7,_,_,_,_,h=>h
 | .int _ _,_,_,_,_,h=>h
 | .str _,_,_,_,_,h=>h
 | .di,_,_,_,_,h=>h
 | .a_,_,_,_,_,h=>h
 | .slice xs,cs,S,_,br,h=>by
   rw[aq]at h⊢;rcases h with h|⟨b,o,cap,d_,sz,ab,ad,aA,aZ,bA,cH,cI⟩
   .exact .inl h
   .exact .inr ⟨b,o,cap,d_,sz,ab,bc _ ad,aA,aZ,bA,cH,aV.mono bc xs _ _ _ (λ_ h=>h) cI⟩
 | .al sz xs,cs,S,_,br,h=>by
   rw[aq]at h⊢;rcases h with h|⟨b,cap,cur,e,fr,aL,ab,ad,aA,aZ,bA,cH,cI,gn,jv,ig,ku⟩
   .exact .inl h
   .exact .inr ⟨b,cap,cur,e,fr,aL,ab,br _ ad,aA,aZ,bA,cH,cI,gn,aV.mono bc xs _ _ _ (λ_ h=>h) jv,λc aj=>br _ (ig _ aj),ku⟩
 | .ref d,cs,S,_,br,h=>by
   rw[aq]at h⊢;obtain⟨b,o,d_,ab,ad,aA,aZ⟩:=h;exact⟨b,o,d_,ab,bc _ ad,aA,aq.mono bc d _ _ _ (λ_ h=>h) aZ⟩
 | .bb d,cs,S,_,br,h=>by
   rw[aq]at h⊢;obtain⟨b,cur,e,fr,aL,ab,ad,aA,aZ,bA,cH,cI⟩:=h;exact⟨b,cur,e,fr,aL,ab,br _ ad,aA,aZ,aq.mono bc d _ _ _ (λ_ h=>h) bA,λc aj=>br _ (cH _ aj),cI⟩
 | .agg ay,cs,S,_,br,h=>by rw[aq]at h⊢;exact aV.mono bc ay _ _ _ br h
 | .tuple ay,cs,S,_,br,h=>by rw[aq]at h⊢;exact aV.mono bc ay _ _ _ br h
 | .fn _ caps,cs,S,_,br,h=>by
   rw[aq]at h⊢;obtain⟨arr,ab,ad,aA⟩:=h;exact⟨arr,ab,ad,aV.mono bc caps _ _ _ (λ_ h=>h) aA⟩
 | .h _ _,_,_,_,_,h=>h
 | .au _ _,_,_,_,_,h=>h
 | .R _ _,_,_,_,_,h=>h
 | .dz _,_,_,_,br,h=>k4.mono br h
 | .fv _ caps,cs,S,_,br,h=>by
   rw[aq]at h⊢;obtain⟨arr,ab,ad,aA⟩:=h;exact⟨arr,ab,ad,aV.mono bc caps _ _ _ br aA⟩
theorem aV.mono {w:World} {F bF:Nat->Prop} (bc:∀b,F b->bF b):
  ∀(ds:aiF) (cs:aiD) (S aL:Nat->Prop),(∀b,S b->aL b)->aV w F ds cs S->aV w bF ds cs aL
 |[],_,_,_,_,h=>h
 |d::ds,cs,S,_,br,h=>by
  rw[aV]at h⊢;obtain⟨c1,c2,bM,c3,ab,ad,aA,aZ,bA,cH⟩:=h;exact⟨c1,c2,bM,c3,ab,aq.mono bc d _ _ _ (λ_ h=>h) ad,aV.mono bc ds _ _ _ (λ_ h=>h) aA,λb R=>br _ (aZ _ R),λb R=>br _ (bA _ R),cH⟩
end
mutual
theorem aq.length {w:World} {F:Nat->Prop}:∀(d:I) (cs:aiD) (S:Nat->Prop),aq w F d cs S->cs.length=d.wd
 | .hole,cs,S,h=>by rw[aq]at h;obtain⟨v,_,rfl⟩:=h;rfl
 | .bool _,cs,S,h=>by rw[aq]at h;subst h;rfl
 | .e7,cs,S,h=>by rw[aq]at h;obtain⟨b,rfl⟩:=h;rfl
 | .int _ _,cs,S,h=>by rw[aq]at h;subst h;rfl
 | .str _,cs,S,h=>by rw[aq]at h;subst h;rfl
 | .di,cs,S,h=>by rw[aq]at h;subst h;rfl
 | .a_,cs,S,h=>by rw[aq]at h;subst h;rfl
 | .slice xs,cs,S,h=>by
   rw[aq]at h;rcases h with⟨_,a,c,rfl,_⟩|⟨b,o,cap,d_,sz,rfl,_⟩<;>rfl
 | .al sz xs,cs,S,h=>by
   rw[aq]at h;rcases h with⟨_,a,rfl⟩|⟨b,cap,cur,e,fr,aL,rfl,_⟩<;>rfl
 | .ref d,cs,S,h=>by rw[aq]at h;obtain⟨b,o,d_,rfl,_⟩:=h;rfl
 | .bb d,cs,S,h=>by rw[aq]at h;obtain⟨b,o,d_,_,_,rfl,_⟩:=h;rfl
 | .agg ay,cs,S,h=>by rw[aq]at h;exact aV.length ay _ _ h
 | .tuple ay,cs,S,h=>by rw[aq]at h;exact aV.length ay _ _ h
 | .fn _ _,cs,S,h=>by rw[aq]at h;obtain⟨arr,rfl,_⟩:=h;rfl
 | .h _ _,cs,S,h=>by rw[aq]at h;exact h.elim
 | .au _ _,cs,S,h=>by rw[aq]at h;exact h.elim
 | .R _ _,cs,S,h=>by rw[aq]at h;exact h.elim
 | .dz _,cs,S,h=>by rw[aq]at h;obtain⟨v,_,rfl⟩:=k4.one h;rfl
 | .fv _ _,cs,S,h=>by rw[aq]at h;obtain⟨arr,rfl,_⟩:=h;rfl
theorem aV.length {w:World} {F:Nat->Prop}:∀(ds:aiF) (cs:aiD) (S:Nat->Prop),aV w F ds cs S->cs.length=I.dH ds
 |[],cs,S,h=>by rw[aV]at h;subst h;rfl
 |d::ds,cs,S,h=>by
  rw[aV]at h;obtain⟨c1,c2,bM,c3,rfl,ad,aA,_⟩:=h;rw[length_append,aq.length d _ _ ad,aV.length ds _ _ aA,I.dH]
end
mutual
def I.share:I->I
 | .al _ xs=>.slice (I.shares xs)
 | .bb d=>.ref d.share
 | .slice xs=>.slice (I.shares xs)
 | .ref d=>.ref d.share
 | .agg ay=>.agg (I.shares ay)
 | .tuple ay=>.tuple (I.shares ay)
 | .dz _=>.hole
 | .fv _ _=>.hole
 |d=>d
def I.shares:aiF->aiF
 |[]=>[]
 |d::ds=>d.share::I.shares ds
end
theorem I.rU (ds:aiF):I.shares ds=ds.map I.share:=by
 induction ds with
 |nil=>rfl
 |cons d ds ih=>simp[I.shares,ih]
mutual
theorem I.y9:∀d:I,d.share.wd=d.wd
 | .hole=>rfl
 | .bool _=>rfl
 | .e7=>rfl
 | .int _ _=>rfl
 | .str _=>rfl
 | .di=>rfl
 | .a_=>rfl
 | .slice _=>rfl
 | .al _ _=>rfl
 | .ref _=>rfl
 | .bb _=>rfl
 | .agg ay=>by simp only[I.share,I.wd];exact I.Cx ay
 | .tuple ay=>by simp only[I.share,I.wd];exact I.Cx ay
 | .fn _ _=>rfl
 | .h _ _=>rfl
 | .au _ _=>rfl
 | .R _ _=>rfl
 | .dz _=>rfl
 | .fv _ _=>rfl
theorem I.Cx:∀ds:aiF,I.dH (I.shares ds)=I.dH ds
 |[]=>rfl
 |d::ds=>by simp only[I.shares,I.dH];rw[I.y9 d,I.Cx ds]
end
theorem tp {w:World} {b:Nat} {cur:Array Value} {e:TypeId} {fr:Nat×Nat} (h:w.heap[b]? =some (.cells cur e fr)) (n:Nat):Rd w b 0 (cur.toList.take n):=by
 intro j c aj;rw[getElem?_take]at aj;split at aj
 .simp[World.cell?,h];simpa using aj
 .cases aj
mutual
theorem aq.shared {w:World} {F bF:Nat->Prop} (bc:∀b,F b->bF b):
  ∀(d:I) (cs:aiD) (S:Nat->Prop),(∀b,S b->bF b)->aq w F d cs S->aq w bF d.share cs (λ_=>False)
 | .hole,_,_,_,h=>h
 | .bool _,_,_,_,h=>h
 | .e7,_,_,_,h=>h
 | .int _ _,_,_,_,h=>h
 | .str _,_,_,_,h=>h
 | .di,_,_,_,h=>h
 | .a_,_,_,_,h=>h
 | .slice xs,cs,S,br,h=>by
   rw[I.share,aq];rw[aq]at h;rcases h with⟨rfl,a,c,rfl,aj⟩|⟨b,o,cap,d_,sz,ab,ad,aA,aZ,bA,cH,cI⟩
   .exact .inl ⟨rfl,a,c,rfl,aj⟩
   .refine .inr ⟨b,o,cap,d_,sz,?_,bc _ ad,?_,aZ,?_,cH,aV.shared bc xs _ _ (λ_ h=>h.elim) cI⟩
    .simpa [I.rU]using ab
    .simpa [I.rU]using aA
    .intro d ag;rw[I.rU]at ag;obtain⟨a6,gG,rfl⟩:=mem_map.1 ag;rw[I.y9];exact bA _ gG
 | .al sz xs,cs,S,br,h=>by
   rw[I.share,aq];rw[aq]at h;rcases h with⟨rfl,a,rfl⟩|⟨b,cap,cur,e,fr,aL,ab,ad,aA,aZ,bA,cH,cI,gn,jv,ig,ku⟩
   .exact .inl ⟨rfl,a,0,rfl,zero_le _,λ_=>rfl⟩
   .refine .inr ⟨b,0,cap,_,sz,?_,br _ ad,?_,cH,?_,tp aA _,aV.shared bc xs _ _ (λc aj=>br _ (ig _ aj)) jv⟩
    .simpa [I.rU]using ab
    .simpa [I.rU]using bA
    .intro d ag;rw[I.rU]at ag;obtain⟨a6,gG,rfl⟩:=mem_map.1 ag;rw[I.y9];exact gn _ gG
 | .ref d,cs,S,br,h=>by
   rw[I.share,aq];rw[aq]at h;obtain⟨b,o,d_,ab,ad,aA,aZ⟩:=h;exact⟨b,o,d_,ab,bc _ ad,aA,aq.shared bc d _ _ (λ_ h=>h.elim) aZ⟩
 | .bb d,cs,S,br,h=>by
   rw[I.share,aq];rw[aq]at h;obtain⟨b,cur,e,fr,aL,ab,ad,aA,aZ,bA,cH,cI⟩:=h;refine⟨b,0,cur.toList,ab,br _ ad,?_,aq.shared bc d _ _ (λc aj=>br _ (cH _ aj)) bA⟩;have:=tp aA cur.toList.length
   rwa [take_length]at this
 | .agg ay,cs,S,br,h=>by rw[I.share,aq];rw[aq]at h;exact aV.shared bc ay _ _ br h
 | .tuple ay,cs,S,br,h=>by rw[I.share,aq];rw[aq]at h;exact aV.shared bc ay _ _ br h
 | .fn f caps,cs,S,br,h=>by
   show aq w bF (.fn f caps) cs _;rw[aq]at h⊢;obtain⟨arr,ab,ad,aA⟩:=h;exact⟨arr,ab,ad,aV.mono bc caps _ _ _ (λ_ h=>h) aA⟩
 | .h _ _,_,_,_,h=>h
 | .au _ _,_,_,_,h=>h
 | .R _ _,_,_,_,h=>h
 | .dz _,cs,S,br,h=>by rw[aq]at h;rw[I.share,aq];exact k4.one h
 | .fv _ _,cs,S,br,h=>by rw[aq]at h;obtain⟨arr,rfl,_⟩:=h;rw[I.share,aq];exact⟨_,rfl,rfl⟩
theorem aV.shared {w:World} {F bF:Nat->Prop} (bc:∀b,F b->bF b):
  ∀(ds:aiF) (cs:aiD) (S:Nat->Prop),(∀b,S b->bF b)->aV w F ds cs S->aV w bF (I.shares ds) cs (λ_=>False)
 |[],_,_,_,h=>h
 |d::ds,cs,S,br,h=>by
  simp only[I.shares];rw[aV]at h⊢;obtain⟨c1,c2,bM,c3,ab,ad,aA,aZ,bA,cH⟩:=h;exact⟨c1,c2,_,_,ab,aq.shared bc d _ _ (λb R=>br _ (aZ _ R)) ad,aV.shared bc ds _ _ (λb R=>br _ (bA _ R)) aA,λ_ h=>h,λ_ h=>h,λ_ h=>h.elim⟩
end
def I.sub:aiA->I->Option I
 |[],d=>some d
 |k::q,.agg ay=>match ay[k]? with
  |some d=>I.sub q d
  |none=>none
 |k::q,.tuple ay=>match ay[k]? with
  |some d=>I.sub q d
  |none=>none
 |i::q,.al _ xs=>match xs[i]? with
  |some d=>I.sub q d
  |none=>none
 |0::q,.bb d=>I.sub q d
 |_::_,_=>none
def I.put:aiA->I->I->I
 |[],n,_=>n
 |k::q,n,.agg ay=>match ay[k]? with
  |some d=>.agg (ay.set k (I.put q n d))
  |none=>.agg ay
 |k::q,n,.tuple ay=>match ay[k]? with
  |some d=>.tuple (ay.set k (I.put q n d))
  |none=>.tuple ay
 |i::q,n,.al sz xs=>match xs[i]? with
  |some d=>.al sz (xs.set i (I.put q n d))
  |none=>.al sz xs
 |0::q,n,.bb d=>.bb (I.put q n d)
 |_::_,_,d=>d
def ml (w:World) (b o n:Nat):aiD:=(range n).map λj=>(w.cell? ⟨b,o+j,none⟩).getD undef
theorem Rd.ml {w:World} {b o:Nat} {cs:aiD} (h:Rd w b o cs):ml w b o cs.length=cs:=by
 unfold cU.ml;apply ext_getElem?;intro i;rw[getElem?_map];by_cases ak:i<cs.length
 .have:cs[i]? =some cs[i]:=getElem?_eq_getElem ak;simp[ak,h i _ this]
 .simp[ak]
def c7 (w:World):aiA->I->aiD->Option (Nat×Nat)->Option (I×aiD×Option (Nat×Nat))
 |[],d,cs,a=>some (d,cs,a)
 |k::q,.agg ay,cs,a=>match ay[k]? with
  |some d=>c7 w q d ((cs.drop (I.dH (ay.take k))).take d.wd) (a.map λl=>(l.1,l.2+I.dH (ay.take k)))
  |none=>none
 |k::q,.tuple ay,cs,a=>match ay[k]? with
  |some d=>c7 w q d ((cs.drop (I.dH (ay.take k))).take d.wd) (a.map λl=>(l.1,l.2+I.dH (ay.take k)))
  |none=>none
 |i::q,.al sz xs,cs,_=>match xs[i]?,cs with
  |some d,[.slice (some ⟨b,_,_⟩) _ _]=>c7 w q d (ml w b (i*sz) sz) (some (b,i*sz))
  |_,_=>none
 |0::q,.bb d,cs,_=>match cs with
  |[.pointer (some ⟨b,_,_⟩)]=>c7 w q d (ml w b 0 d.wd) (some (b,0))
  |_=>none
 |_::_,_,_,_=>none
theorem rV (c1 fj c2:aiD) (n m:Nat) (ab:c1.length=n) (ad:fj.length=m):((c1++(fj++c2)).drop n).take m=fj:=by
 rw[drop_left' ab,take_left' ad]
theorem aV.pick {w:World} {F:Nat->Prop}:∀(ds:aiF) (cs:aiD) (S:Nat->Prop) (k:Nat) (d:I),
  aV w F ds cs S->ds[k]? =some d->∃(c1 fj c2:aiD) (bM hr:Nat->Prop),cs=c1++(fj++c2)/\c1.length=I.dH (ds.take k)/\
   (∀b,bM b->S b)/\(∀b,hr b->S b)/\(∀b,bM b->¬hr b)/\aq w F d fj hr/\
   ∀(aB:World) (a6:I) (rW:aiD) (aL:Nat->Prop),(∀b,F b->aB.heap[b]? =w.heap[b]?)->(∀b,bM b->aB.heap[b]? =w.heap[b]?)->
    aq aB F a6 rW aL->(∀b,aL b->¬bM b)->aV aB F (ds.set k a6) (c1++(rW++c2)) (λb=>bM b\/aL b)
 |[],_,_,_,_,_,aw=>by simp at aw
 |x::ds,cs,S,0,d,h,aw=>by
  rw[aV]at h;obtain⟨c1,c2,gZ,gp,rfl,ab,ad,bU,R,lv⟩:=h;simp at aw;subst aw;refine⟨[],c1,c2,gp,gZ,rfl,rfl,R,bU,λb R bU=>lv _ bU R,ab,?_⟩;intro aB a6 rW aL bc br ag iG;simp only[set_cons_zero,nil_append];rw[aV];exact⟨rW,c2,aL,gp,rfl,ag,aV.frame bc _ _ _ br ad,λb h=>.inr h,λb h=>.inl h,λb h=>iG b h⟩
 |x::ds,cs,S,k+1,d,h,aw=>by
  rw[aV]at h;obtain⟨mm,Pl,gZ,gp,rfl,ab,ad,bU,R,lv⟩:=h;simp only[getElem?_cons_succ]at aw;have aO:=aq.length _ _ _ ab;obtain⟨c1,fj,c2,bM,hr,rfl,i0,mQ,i2,i3,i5,Cy⟩:=aV.pick ds Pl gp k d ad aw;refine⟨mm++c1,fj,c2,λb=>gZ b\/bM b,hr,by simp,by simp[I.dH,aO,i0],?_,λb h=>R _ (i2 _ h),?_,i5,?_⟩
  .rintro b (h|h)
   .exact bU _ h
   .exact R _ (mQ _ h)
  .rintro b (h|h) aw
   .exact lv _ h (i2 _ aw)
   .exact i3 _ h aw
  .intro aB a6 rW aL bc br ag iG;simp only[set_cons_succ];rw[aV];refine⟨mm,c1++(rW++c2),gZ,λb=>bM b\/aL b,by simp,aq.frame bc _ _ _ (λb R=>br b (.inl R)) ab,
    Cy aB a6 rW aL bc (λb R=>br b (.inr R)) ag (λb R aj=>iG b R (.inr aj)),λb h=>.inl (.inl h),?_,?_⟩
   .rintro b (h|h)
    .exact .inl (.inr h)
    .exact .inr h
   .rintro b h (bq|bq)
    .exact lv _ h (mQ _ bq)
    .exact iG _ bq (.inl h)
theorem Cz:∀(ay:aiF) (k:Nat) (x y:I),ay[k]? =some x->y.wd=x.wd->I.dH (ay.set k y)=I.dH ay:=by
 intro ay;induction ay with
 |nil=>intro k x y h;simp at h
 |cons a ay ih=>
  intro k x y h e;cases k with
  |zero=>simp at h;subst h;simp[I.dH,e]
  |succ k=>simp at h;simp[I.dH,ih k x y h e]
theorem rX {sz:Nat}:∀(xs:aiF),(∀d∈xs,d.wd=sz)->I.dH xs=xs.length*sz
 |[],_=>by simp[I.dH]
 |x::xs,h=>by
  rw[I.dH,h x (by simp),rX xs (λd ag=>h d (by simp[ag])),length_cons,Nat.add_mul,Nat.one_mul,Nat.add_comm]
theorem I.tq:∀(q:aiA) (av d a6:I),I.sub q av=some d->a6.wd=d.wd->(I.put q a6 av).wd=av.wd:=by
 intro q;induction q with
 |nil=>intro av d a6 h e;simp[I.sub]at h;subst h;simpa [I.put]using e
 |cons k q ih=>
  intro av d a6 h e;cases av with
  |agg ay=>
   simp only[I.sub]at h;split at h
   .rename_i x ar;simp only[I.put,ar,I.wd];exact Cz _ _ _ _ ar (ih _ _ _ h e)
   .cases h
  |tuple ay=>
   simp only[I.sub]at h;split at h
   .rename_i x ar;simp only[I.put,ar,I.wd];exact Cz _ _ _ _ ar (ih _ _ _ h e)
   .cases h
  |al sz xs=>
   simp only[I.sub]at h;split at h
   .rename_i x ar;simp only[I.put,ar,I.wd]
   .cases h
  |bb x=>
   cases k with
   |zero=>simp only[I.put,I.wd]
   |succ k=>simp[I.sub]at h
  |_=>simp[I.sub]at h
theorem CA {sz:Nat} {xs:aiF} {i:Nat} {y:I} (h:∀d∈xs,d.wd=sz) (a8:y.wd=sz):∀d∈xs.set i y,d.wd=sz:=by
 intro d ag;rcases mem_or_eq_of_mem_set ag with ag|rfl
 .exact h d ag
 .exact a8
theorem tr {w:World} {b:Nat} {cur:Array Value} {e:TypeId} {fr:Nat×Nat} (h:w.heap[b]? =some (.cells cur e fr)) {l m r:aiD} (aj:cur.toList=l++(m++r)):
  ml w b l.length m.length=m:=by
 refine Rd.ml (λj c bd=>?_);have c9:j<m.length:=(List.getElem?_eq_some_iff.1 bd).1;have:cur.toList[l.length+j]? =some c:=by
  rw[aj,getElem?_append_right (by omega),getElem?_append_left (by omega)];rw[<-bd];congr 1;omega
 simp[World.cell?,h];simpa using this
def Flat (w:World) (F:Nat->Prop) (q:aiA) (av:I) (cs:aiD) (a:Option (Nat×Nat)) (d:I) (cq:aiD) (cA:Option (Nat×Nat)) (dL:Nat->Prop):Prop:=
 ∃l r:aiD,cs=l++(cq++r)/\cA=a.map (λx=>(x.1,x.2+l.length))/\
  ∀(aB:World) (a6:I) (fy:aiD) (aL:Nat->Prop),(∀b,F b->aB.heap[b]? =w.heap[b]?)->(∀b,dL b->aB.heap[b]? =w.heap[b]?)->
   a6.wd=d.wd->aq aB F a6 fy aL->(∀b,aL b->¬dL b)->aq aB F (I.put q a6 av) (l++(fy++r)) (λb=>dL b\/aL b)
def Deep (w:World) (F:Nat->Prop) (q:aiA) (av:I) (cs:aiD) (d:I) (cq:aiD) (cA:Option (Nat×Nat)) (dL:Nat->Prop):Prop:=
 ∃(b:Nat) (cur:Array Value) (e:TypeId) (fr:Nat×Nat) (l r:aiD),cA=some (b,l.length)/\dL b/\w.heap[b]? =some (.cells cur e fr)/\kt fr cur.size/\cur.toList=l++(cq++r)/\
  ∀(aB:World) (a6:I) (fy:aiD) (aL:Nat->Prop),(∀b,F b->aB.heap[b]? =w.heap[b]?)->(∀c,dL c->c≠b->aB.heap[c]? =w.heap[c]?)->
   aB.heap[b]? =some (.cells (l++(fy++r)).toArray e fr)->
   a6.wd=d.wd->aq aB F a6 fy aL->(∀b,aL b->¬dL b)->aq aB F (I.put q a6 av) cs (λb=>dL b\/aL b)
theorem ctx {w:World} {F:Nat->Prop}:∀(q:aiA) (av:I) (cs:aiD) (S:Nat->Prop) (a:Option (Nat×Nat)) (d:I),
  aq w F av cs S->I.sub q av=some d->∃(cq:aiD) (cA:Option (Nat×Nat)) (dL eY:Nat->Prop),c7 w q av cs a=some (d,cq,cA)/\
   (∀b,dL b->S b)/\(∀b,eY b->S b)/\(∀b,dL b->¬eY b)/\aq w F d cq eY/\(Flat w F q av cs a d cq cA dL\/Deep w F q av cs d cq cA dL):=by
 intro q;induction q with
 |nil=>
  intro av cs S a d h ag;simp[I.sub]at ag;subst ag;refine⟨cs,a,λ_=>False,S,rfl,λ_ h=>h.elim,λ_ h=>h,λ_ h=>h.elim,h,.inl ⟨[],[],by simp,?_,?_⟩⟩
  .cases a<;>simp
  .intro aB a6 fy aL _ _ hw gG _;simp only[I.put,nil_append,append_nil];exact aq.mono (λ_ h=>h) _ _ _ _ (λb h=>.inr h) gG
 |cons k q ih=>
  have fields:∀(mk:aiF->I) (CB:∀(w:World) (F:Nat->Prop) (ay:aiF) (cs:aiD) (S:Nat->Prop),aq w F (mk ay) cs S=aV w F ay cs S) (ay:aiF) (cs:aiD) (S:Nat->Prop) (a:Option (Nat×Nat)) (x d:I),
    (jh:∀a6,I.put (k::q) a6 (mk ay)=mk (ay.set k (I.put q a6 x)))->aV w F ay cs S->ay[k]? =some x->I.sub q x=some d->
    ∃(cq:aiD) (cA:Option (Nat×Nat)) (dL eY:Nat->Prop),c7 w q x ((cs.drop (I.dH (ay.take k))).take x.wd) (a.map λl=>(l.1,l.2+I.dH (ay.take k)))=some (d,cq,cA)/\
    (∀b,dL b->S b)/\(∀b,eY b->S b)/\(∀b,dL b->¬eY b)/\aq w F d cq eY/\(Flat w F (k::q) (mk ay) cs a d cq cA dL\/Deep w F (k::q) (mk ay) cs d cq cA dL):=by
   intro mk CB ay cs S a x d jh h ar ag;obtain⟨c1,fj,c2,bM,hr,rfl,g_,fO,ha,h8,fE,lx⟩:=aV.pick ay cs S k x h ar;have aO:=aq.length _ _ _ fE;rw[rV c1 fj c2 _ _ g_ aO];obtain⟨cq,cA,dL,eY,g0,g1,g2,g3,g4,g5⟩:=ih x _ hr (a.map λl=>(l.1,l.2+I.dH (ay.take k))) d fE ag;refine⟨cq,cA,λb=>bM b\/dL b,eY,g0,?_,λb R=>ha _ (g2 _ R),?_,g4,?_⟩
   .rintro b (h|h)
    .exact fO _ h
    .exact ha _ (g1 _ h)
   .rintro b (h|h) ag
    .exact h8 _ h (g2 _ ag)
    .exact g3 _ h ag
   .have eQ:∀(b:Nat) (aL:Nat->Prop),(bM b\/dL b\/aL b)->((bM b\/dL b)\/aL b):=by
     rintro b aL (R|R|R)
     .exact .inl (.inl R)
     .exact .inl (.inr R)
     .exact .inr R
    rcases g5 with⟨l,r,rfl,aR,aS⟩|⟨b,cur,e,fr,l,r,aN,aR,aS,b0,cd,bQ⟩
    .refine .inl ⟨c1++l,r++c2,by simp,?_,?_⟩
     .rw[aR,<-g_];cases a<;>simp[Nat.add_assoc]
     .intro aB a6 fy aL bc br hw gG iG;have cY:=aS aB a6 fy aL bc (λb R=>br b (.inr R)) hw gG (λb R aj=>iG b R (.inr aj));have ba:=lx aB _ _ _ bc (λb R=>br b (.inl R)) cY (by
       rintro b (R|R) ab
       .exact h8 _ ab (g1 _ R)
       .exact iG _ R (.inl ab))
      rw[jh,CB];have:=aV.mono (λ_ h=>h) _ _ _ _ (λb=>eQ b aL) ba;simpa using this
    .refine .inr ⟨b,cur,e,fr,l,r,aN,.inr aR,aS,b0,cd,?_⟩;intro aB a6 fy aL bc br kK hw gG iG;have cY:=bQ aB a6 fy aL bc (λc aj=>br c (.inr aj)) kK hw gG (λb R aj=>iG b R (.inr aj));have ba:=lx aB _ _ _ bc (λc aj=>br c (.inl aj) (by rintro rfl;exact h8 _ aj (g1 _ aR))) cY (by
       rintro b (R|R) ab
       .exact h8 _ ab (g1 _ R)
       .exact iG _ R (.inl ab))
     rw[jh,CB];exact aV.mono (λ_ h=>h) _ _ _ _ (λb=>eQ b aL) ba
  intro av cs S a d h ag;cases av with
  |agg ay=>
   simp only[I.sub]at ag;split at ag
   .rename_i x ar;rw[aq]at h;have:=fields .agg (λ_ _ _ _ _=>by rw[aq]) ay cs S a x d (λa6=>by simp only[I.put,ar]) h ar ag;simpa only[c7,ar]using this
   .cases ag
  |tuple ay=>
   simp only[I.sub]at ag;split at ag
   .rename_i x ar;rw[aq]at h;have:=fields .tuple (λ_ _ _ _ _=>by rw[aq]) ay cs S a x d (λa6=>by simp only[I.put,ar]) h ar ag;simpa only[c7,ar]using this
   .cases ag
  |al sz xs=>
   simp only[I.sub]at ag;split at ag
   .rename_i x ar;rw[aq]at h;rcases h with⟨rfl,_,rfl⟩|⟨b,cap,cur,e,fr,dh,rfl,ad,aA,aZ,bA,cH,cI,gn,jv,ig,ku⟩
    .simp at ar
    .obtain⟨c1,fj,c2,bM,hr,p,g_,fO,ha,h8,fE,lx⟩:=aV.pick xs _ dh k x jv ar;have aO:=aq.length _ _ _ fE;have Pm:k<xs.length:=(List.getElem?_eq_some_iff.1 ar).1;have vu:x.wd=sz:=gn x (mem_of_getElem? ar);have bx:I.dH (xs.take k)=k*sz:=by
      rw[rX _ (λd ag=>gn d (mem_of_mem_take ag))];rw[length_take,Nat.min_eq_left (by omega)]
     obtain⟨pP,lY⟩:∃pP,cur.toList=c1++(fj++(c2++pP)):=by
      refine⟨cur.toList.drop (xs.length*sz),?_⟩;have:=(take_append_drop (xs.length*sz) cur.toList).symm;rw[p]at this;simpa using this
     have jw:ml w b (k*sz) sz=fj:=by
      have:=tr aA lY
      rwa [g_,bx,aO,vu]at this
     obtain⟨cq,cA,dL,eY,g0,g1,g2,g3,g4,g5⟩:=ih x _ hr (some (b,k*sz)) d fE ag;have jh:∀a6,I.put (k::q) a6 (.al sz xs)= .al sz (xs.set k (I.put q a6 x)):=λa6=>by simp only[I.put,ar]
     refine⟨cq,cA,λc=>c=b\/bM c\/dL c,eY,?_,?_,λc aj=>ig _ (ha _ (g2 _ aj)),?_,g4,.inr ?_⟩
     .simp only[c7,ar,jw];exact g0
     .rintro c (rfl|h|h)
      .exact ad
      .exact ig _ (fO _ h)
      .exact ig _ (ha _ (g1 _ h))
     .rintro c (rfl|h|h) ag
      .exact ku (ha _ (g2 _ ag))
      .exact h8 _ h (g2 _ ag)
      .exact g3 _ h ag
     .have j6:∀a6,a6.wd=d.wd->(I.put q a6 x).wd=sz:=λa6 hw=>(I.tq q x d a6 ag hw).trans vu;rcases g5 with⟨l,r,rfl,aR,aS⟩|⟨fk,CC,fF,CD,l,r,aN,aR,aS,b0,cd,bQ⟩
      .refine⟨b,cur,e,fr,c1++l,r++(c2++pP),?_,.inl rfl,aA,aZ.low,?_,?_⟩
       .rw[aR];simp[g_,bx]
       .rw[lY];simp
       .intro aB a6 fy aL bc br kK hw gG iG;have cY:=aS aB a6 fy aL bc (λc aj=>br c (.inr (.inr aj)) (by rintro rfl;exact ku (ha _ (g1 _ aj)))) hw gG (λb R aj=>iG b R (.inr (.inr aj)));have ba:=lx aB _ _ _ bc (λc aj=>br c (.inr (.inl aj)) (by rintro rfl;exact ku (fO _ aj))) cY (by
         rintro b (R|R) ab
         .exact h8 _ ab (g1 _ R)
         .exact iG _ R (.inr (.inl ab)))
        have vv:=aq.length _ _ _ gG;have vw:=aq.length _ _ _ g4;rw[jh,aq];refine .inr ⟨b,cap,_,e,fr,λb=>bM b\/dL b\/aL b,by simp,.inl (.inl rfl),kK,?_,by simpa using bA,cH,?_,CA gn (j6 a6 hw),?_,?_,?_⟩
        .have:(c1++l++(fy++(r++(c2++pP)))).toArray.size=cur.size:=by
          have:cur.size=cur.toList.length:=by simp
          rw[this,lY];simp[vv,vw,hw]
         rw[this];exact aZ
        .rw[<-cI];have:cur.size=cur.toList.length:=by simp
         rw[this,lY];simp[vv,vw,hw]
        .have hlen:(c1++(l++(fy++r)++c2)).length=xs.length*sz:=by
          have:=congrArg length p;rw[length_take,Nat.min_eq_left (by simp[cI];exact mul_le_mul_right _ bA)]at this;rw[this];simp[vv,vw,hw]
         have:(c1++l++(fy++(r++(c2++pP))))=(c1++(l++(fy++r)++c2))++pP:=by simp
         rw[length_set];simp only[this];rw[take_left' hlen];exact ba
        .rintro c (h|h|h)
         .exact .inl (.inr (.inl h))
         .exact .inl (.inr (.inr h))
         .exact .inr h
        .rintro(h|h|h)
         .exact ku (fO _ h)
         .exact ku (ha _ (g1 _ h))
         .exact iG _ h (.inl rfl)
      .refine⟨fk,CC,fF,CD,l,r,aN,.inr (.inr aR),aS,b0,cd,?_⟩;intro aB a6 fy aL bc br kK hw gG iG;have cY:=bQ aB a6 fy aL bc (λc aj cw=>br c (.inr (.inr aj)) cw) kK hw gG (λb R aj=>iG b R (.inr (.inr aj)));have cw:∀c,bM c->c≠fk:=by rintro c aj rfl;exact h8 _ aj (g1 _ aR)
       have ba:=lx aB _ _ _ bc (λc aj=>br c (.inr (.inl aj)) (cw c aj)) cY (by
        rintro b (R|R) ab
        .exact h8 _ ab (g1 _ R)
        .exact iG _ R (.inr (.inl ab)))
       have CE:b≠fk:=by rintro rfl;exact ku (ha _ (g1 _ aR))
       rw[jh,aq];refine .inr ⟨b,cap,cur,e,fr,λb=>bM b\/dL b\/aL b,by simp,.inl (.inl rfl),(br b (.inl rfl) CE).trans aA,aZ,by simpa using bA,cH,cI,CA gn (j6 a6 hw),?_,?_,?_⟩
       .rw[length_set,p];exact ba
       .rintro c (h|h|h)
        .exact .inl (.inr (.inl h))
        .exact .inl (.inr (.inr h))
        .exact .inr h
       .rintro(h|h|h)
        .exact ku (fO _ h)
        .exact ku (ha _ (g1 _ h))
        .exact iG _ h (.inl rfl)
   .cases ag
  |bb x=>
   cases k with
   |succ k=>simp[I.sub]at ag
   |zero=>
    simp only[I.sub]at ag;rw[aq]at h;obtain⟨b,cur,e,fr,dh,rfl,ad,aA,aZ,bA,cH,cI⟩:=h;have aO:=aq.length _ _ _ bA;have jw:ml w b 0 x.wd=cur.toList:=by
     have:=tr (l:=[]) (m:=cur.toList) (r:=[]) aA (by simp)
     rwa [aO]at this
    obtain⟨cq,cA,dL,eY,g0,g1,g2,g3,g4,g5⟩:=ih x _ dh (some (b,0)) d bA ag;have jh:∀a6,I.put (0::q) a6 (.bb x)= .bb (I.put q a6 x):=λa6=>rfl;refine⟨cq,cA,λc=>c=b\/dL c,eY,?_,?_,λc aj=>cH _ (g2 _ aj),?_,g4,.inr ?_⟩
    .simp only[c7,jw];exact g0
    .rintro c (rfl|h)
     .exact ad
     .exact cH _ (g1 _ h)
    .rintro c (rfl|h) ag
     .exact cI (g2 _ ag)
     .exact g3 _ h ag
    .rcases g5 with⟨l,r,aN,aR,aS⟩|⟨fk,CC,fF,CD,l,r,aN,aR,aS,b0,cd,bQ⟩
     .refine⟨b,cur,e,fr,l,r,?_,.inl rfl,aA,aZ,aN,?_⟩
      .rw[aR];simp
      .intro aB a6 fy aL bc br kK hw gG iG;have cY:=aS aB a6 fy aL bc (λc aj=>br c (.inr aj) (by rintro rfl;exact cI (g1 _ aj))) hw gG (λb R aj=>iG b R (.inr aj));have vv:=aq.length _ _ _ gG;have vw:=aq.length _ _ _ g4;rw[jh,aq];refine⟨b,_,e,fr,λb=>dL b\/aL b,rfl,.inl (.inl rfl),kK,?_,cY,?_,?_⟩
       .have:(l++(fy++r)).toArray.size=cur.size:=by
         have:cur.size=cur.toList.length:=by simp
         rw[this,aN];simp[vv,vw,hw]
        rw[this];exact aZ
       .rintro c (h|h)
        .exact .inl (.inr h)
        .exact .inr h
       .rintro(h|h)
        .exact cI (g1 _ h)
        .exact iG _ h (.inl rfl)
     .refine⟨fk,CC,fF,CD,l,r,aN,.inr aR,aS,b0,cd,?_⟩;intro aB a6 fy aL bc br kK hw gG iG;have cY:=bQ aB a6 fy aL bc (λc aj cw=>br c (.inr aj) cw) kK hw gG (λb R aj=>iG b R (.inr aj));have CE:b≠fk:=by rintro rfl;exact cI (g1 _ aR)
      rw[jh,aq];refine⟨b,cur,e,fr,λb=>dL b\/aL b,rfl,.inl (.inl rfl),(br b (.inl rfl) CE).trans aA,aZ,cY,?_,?_⟩
      .rintro c (h|h)
       .exact .inl (.inr h)
       .exact .inr h
      .rintro(h|h)
       .exact cI (g1 _ h)
       .exact iG _ h (.inl rfl)
  |_=>simp[I.sub]at ag
mutual
def I.plain:I->Bool
 | .al _ _=>false
 | .bb _=>false
 | .dz _=>false
 | .fv _ _=>false
 | .agg ay=>I.fY ay
 | .tuple ay=>I.fY ay
 |_=>true
def I.fY:aiF->Bool
 |[]=>true
 |d::ds=>d.plain&&I.fY ds
end
mutual
def I.cN:I->I
 | .al _ _=>.hole
 | .bb _=>.hole
 | .dz _=>.hole
 | .fv _ _=>.hole
 | .agg ay=>.agg (I.kL ay)
 | .tuple ay=>.tuple (I.kL ay)
 |d=>d
def I.kL:aiF->aiF
 |[]=>[]
 |d::ds=>d.cN::I.kL ds
end
mutual
theorem I.qM:∀d:I,d.cN.wd=d.wd
 | .hole=>rfl
 | .bool _=>rfl
 | .e7=>rfl
 | .int _ _=>rfl
 | .str _=>rfl
 | .di=>rfl
 | .a_=>rfl
 | .slice _=>rfl
 | .al _ _=>rfl
 | .ref _=>rfl
 | .bb _=>rfl
 | .agg ay=>by simp only[I.cN,I.wd];exact I.CF ay
 | .tuple ay=>by simp only[I.cN,I.wd];exact I.CF ay
 | .fn _ _=>rfl
 | .h _ _=>rfl
 | .au _ _=>rfl
 | .R _ _=>rfl
 | .dz _=>rfl
 | .fv _ _=>rfl
theorem I.CF:∀ds:aiF,I.dH (I.kL ds)=I.dH ds
 |[]=>rfl
 |d::ds=>by simp only[I.kL,I.dH];rw[I.qM d,I.CF ds]
end
mutual
theorem aq.cN {w:World} {F:Nat->Prop}:∀(d:I) (cs:aiD) (S aL:Nat->Prop),aq w F d cs S->aq w F d.cN cs aL
 | .hole,_,_,_,h=>h
 | .bool _,_,_,_,h=>h
 | .e7,_,_,_,h=>h
 | .int _ _,_,_,_,h=>h
 | .str _,_,_,_,h=>h
 | .di,_,_,_,h=>h
 | .a_,_,_,_,h=>h
 | .slice xs,cs,S,aL,h=>by
   show aq w F (.slice xs) cs aL;rw[aq]at h⊢;exact h
 | .al sz xs,cs,S,aL,h=>by
   rw[I.cN,aq];rw[aq]at h;rcases h with⟨_,_,rfl⟩|⟨b,cap,cur,e,fr,dh,rfl,_⟩
   .exact⟨_,rfl,rfl⟩
   .exact⟨_,rfl,rfl⟩
 | .ref d,cs,S,aL,h=>by
   show aq w F (.ref d) cs aL;rw[aq]at h⊢;exact h
 | .bb d,cs,S,aL,h=>by
   rw[I.cN,aq];rw[aq]at h;obtain⟨b,cur,e,fr,dh,rfl,_⟩:=h;exact⟨_,rfl,rfl⟩
 | .agg ay,cs,S,aL,h=>by rw[I.cN,aq];rw[aq]at h;exact aV.cN ay _ _ _ h
 | .tuple ay,cs,S,aL,h=>by rw[I.cN,aq];rw[aq]at h;exact aV.cN ay _ _ _ h
 | .fn _ _,_,_,_,h=>h
 | .h _ _,_,_,_,h=>h
 | .au _ _,_,_,_,h=>h
 | .R _ _,_,_,_,h=>h
 | .dz _,_,_,_,h=>by rw[aq]at h;rw[I.cN,aq];exact k4.one h
 | .fv _ _,_,_,_,h=>by rw[aq]at h;obtain⟨arr,rfl,_⟩:=h;rw[I.cN,aq];exact⟨_,rfl,rfl⟩
theorem aV.cN {w:World} {F:Nat->Prop}:∀(ds:aiF) (cs:aiD) (S aL:Nat->Prop),aV w F ds cs S->aV w F (I.kL ds) cs aL
 |[],_,_,_,h=>h
 |d::ds,cs,S,aL,h=>by
  rw[I.kL,aV];rw[aV]at h;obtain⟨c1,c2,bM,c3,ab,ad,aA,aZ,bA,cH⟩:=h;exact⟨c1,c2,λ_=>False,λ_=>False,ab,aq.cN d _ _ _ ad,aV.cN ds _ _ _ aA,λ_ h=>h.elim,λ_ h=>h.elim,λ_ h=>h.elim⟩
end
mutual
theorem aq.plain {w:World} {F:Nat->Prop}:∀(d:I) (cs:aiD) (S aL:Nat->Prop),d.plain=true->aq w F d cs S->aq w F d cs aL
 | .hole,_,_,_,_,h=>h
 | .bool _,_,_,_,_,h=>h
 | .e7,_,_,_,_,h=>h
 | .int _ _,_,_,_,_,h=>h
 | .str _,_,_,_,_,h=>h
 | .di,_,_,_,_,h=>h
 | .a_,_,_,_,_,h=>h
 | .slice xs,cs,S,aL,_,h=>by rw[aq]at h⊢;exact h
 | .al sz xs,cs,S,aL,au,h=>by simp[I.plain]at au
 | .ref d,cs,S,aL,_,h=>by rw[aq]at h⊢;exact h
 | .bb d,cs,S,aL,au,h=>by simp[I.plain]at au
 | .agg ay,cs,S,aL,au,h=>by rw[aq]at h⊢;exact aV.plain ay _ _ _ au h
 | .tuple ay,cs,S,aL,au,h=>by rw[aq]at h⊢;exact aV.plain ay _ _ _ au h
 | .fn _ _,_,_,_,_,h=>h
 | .h _ _,_,_,_,_,h=>h
 | .au _ _,_,_,_,_,h=>h
 | .R _ _,_,_,_,_,h=>h
 | .dz _,_,_,_,au,_=>by simp[I.plain]at au
 | .fv _ _,_,_,_,au,_=>by simp[I.plain]at au
theorem aV.plain {w:World} {F:Nat->Prop}:∀(ds:aiF) (cs:aiD) (S aL:Nat->Prop),I.fY ds=true->aV w F ds cs S->aV w F ds cs aL
 |[],_,_,_,_,h=>h
 |d::ds,cs,S,aL,au,h=>by
  rw[aV]at h⊢;simp only[I.fY,Bool.and_eq_true]at au;obtain⟨c1,c2,bM,c3,ab,ad,aA,aZ,bA,cH⟩:=h;exact⟨c1,c2,λ_=>False,λ_=>False,ab,aq.plain d _ _ _ au.1 ad,aV.plain ds _ _ _ au.2 aA,λ_ h=>h.elim,λ_ h=>h.elim,λ_ h=>h.elim⟩
end
def I.ff:aiA->I->Bool
 |[],_=>false
 |k::q,.agg ay=>match ay[k]? with
  |some d=>I.ff q d
  |none=>false
 |k::q,.tuple ay=>match ay[k]? with
  |some d=>I.ff q d
  |none=>false
 |_::_,.al _ _=>true
 |_::_,.bb _=>true
 |_::_,_=>false
theorem y_ {ay:aiF} (h:I.fY ay=true) {k:Nat} {d:I} (aw:ay[k]? =some d):d.plain=true:=by
 induction ay generalizing k with
 |nil=>simp at aw
 |cons a ay ih=>
  simp only[I.fY,Bool.and_eq_true]at h;cases k with
  |zero=>simp at aw;subst aw;exact h.1
  |succ k=>simp at aw;exact ih h.2 aw
theorem I.Io:∀(q:aiA) (d:I),d.plain=true->I.ff q d=false:=by
 intro q;induction q with
 |nil=>intros;rfl
 |cons k q ih=>
  intro d ag;cases d<;>first|rfl|(simp[I.plain]at ag;done)|skip
  all_goals
   simp only[I.ff];split
   .rename_i ay x ar;exact ih _ (y_ (by simpa [I.plain]using ag) ar)
   .rfl
theorem I.CG:∀(q:aiA) (d e:I),d.plain=true->I.sub q d=some e->e.plain=true:=by
 intro q;induction q with
 |nil=>intro d e ag h;simp[I.sub]at h;exact h▸ag
 |cons k q ih=>
  intro d e ag h;cases d<;>first|(simp[I.plain]at ag;done)|(simp[I.sub]at h;done)|skip
  all_goals
   simp only[I.sub]at h;split at h
   .rename_i ay x ar;exact ih _ _ (y_ (by simpa [I.plain]using ag) ar) h
   .cases h
theorem za {w aB:World} {F:Nat->Prop}:∀(q:aiA) (av:I) (cs:aiD) (S:Nat->Prop) (a:Option (Nat×Nat)) (d:I),
  aq w F av cs S->I.sub q av=some d->(∀b,S b->aB.heap[b]? =w.heap[b]?)->c7 aB q av cs a=c7 w q av cs a:=by
 intro q;induction q with
 |nil=>intros;rfl
 |cons k q ih=>
  have fields:∀(ay:aiF) (cs:aiD) (S:Nat->Prop) (a:Option (Nat×Nat)) (x d:I),aV w F ay cs S->ay[k]? =some x->I.sub q x=some d->
    (∀b,S b->aB.heap[b]? =w.heap[b]?)->
    c7 aB q x ((cs.drop (I.dH (ay.take k))).take x.wd) (a.map λl=>(l.1,l.2+I.dH (ay.take k)))=c7 w q x ((cs.drop (I.dH (ay.take k))).take x.wd) (a.map λl=>(l.1,l.2+I.dH (ay.take k))):=by
   intro ay cs S a x d h ar ag br;obtain⟨c1,fj,c2,bM,hr,rfl,g_,fO,ha,h8,fE,lx⟩:=aV.pick ay cs S k x h ar;rw[rV c1 fj c2 _ _ g_ (aq.length _ _ _ fE)];exact ih x fj hr _ d fE ag (λb R=>br b (ha _ R))
  intro av cs S a d h ag br;cases av with
  |agg ay=>
   simp only[I.sub]at ag;split at ag
   .rename_i x ar;rw[aq]at h;simp only[c7,ar];exact fields ay cs S a x d h ar ag br
   .cases ag
  |tuple ay=>
   simp only[I.sub]at ag;split at ag
   .rename_i x ar;rw[aq]at h;simp only[c7,ar];exact fields ay cs S a x d h ar ag br
   .cases ag
  |al sz xs=>
   simp only[I.sub]at ag;split at ag
   .rename_i x ar;rw[aq]at h;rcases h with⟨rfl,_,rfl⟩|⟨b,cap,cur,e,fr,dh,rfl,ad,aA,aZ,bA,cH,cI,gn,jv,ig,ku⟩
    .simp at ar
    .obtain⟨c1,fj,c2,bM,hr,p,g_,fO,ha,h8,fE,lx⟩:=aV.pick xs _ dh k x jv ar;have aO:=aq.length _ _ _ fE;have Pm:k<xs.length:=(List.getElem?_eq_some_iff.1 ar).1;have vu:x.wd=sz:=gn x (mem_of_getElem? ar);have bx:I.dH (xs.take k)=k*sz:=by
      rw[rX _ (λd ag=>gn d (mem_of_mem_take ag))];rw[length_take,Nat.min_eq_left (by omega)]
     obtain⟨pP,lY⟩:∃pP,cur.toList=c1++(fj++(c2++pP)):=by
      refine⟨cur.toList.drop (xs.length*sz),?_⟩;have:=(take_append_drop (xs.length*sz) cur.toList).symm;rw[p]at this;simpa using this
     have jw:ml w b (k*sz) sz=fj:=by
      have:=tr aA lY
      rwa [g_,bx,aO,vu]at this
     have CH:ml aB b (k*sz) sz=fj:=by
      have:=tr ((br b ad).trans aA) lY
      rwa [g_,bx,aO,vu]at this
     simp only[c7,ar,jw,CH];exact ih x fj hr _ d fE ag (λc aj=>br c (ig _ (ha _ aj)))
   .cases ag
  |bb x=>
   cases k with
   |succ k=>simp[I.sub]at ag
   |zero=>
    simp only[I.sub]at ag;rw[aq]at h;obtain⟨b,cur,e,fr,dh,rfl,ad,aA,aZ,bA,cH,cI⟩:=h;have aO:=aq.length _ _ _ bA;have jw:ml w b 0 x.wd=cur.toList:=by
     have:=tr (l:=[]) (m:=cur.toList) (r:=[]) aA (by simp)
     rwa [aO]at this
    have CH:ml aB b 0 x.wd=cur.toList:=by
     have:=tr (l:=[]) (m:=cur.toList) (r:=[]) ((br b ad).trans aA) (by simp)
     rwa [aO]at this
    simp only[c7,jw,CH];exact ih x cur.toList dh _ d bA ag (λc aj=>br c (cH _ aj))
  |_=>simp[I.sub]at ag
def hU:Value->aiD
 | .agg cs=>cs.toList
 |v=>[v]
def b9:Value->aiD
 | .tuple vs=>vs.toList.flatMap hU
 |v=>hU v
def hV:I->Value->Prop
 | .agg _,v=>∃arr,v= .agg arr
 |_,v=>Value.fw v=true
def dd:I->Value->Prop
 | .tuple ds,v=>∃arr:Array Value,v= .tuple arr/\arr.size=ds.length/\∀(k:Nat) (d:I) (x:Value),ds[k]? =some d->arr[k]? =some x->hV d x/\(∀vs,d≠.tuple vs)/\(hU x).length=d.wd
 |d,v=>hV d v
abbrev ax:=Nat->I
mutual
def aG (w:World) (F:Nat->Prop) (s:ax) (aC:Nat->Value):I->Value->(Nat->Prop)->Prop
 | .hole,_,_=>True
 | .h x q,v,_=>∀d,I.sub q (s x)=some d->d.plain=false->∃cq a,c7 w q (s x) (b9 (aC x)) none=some (d,cq,a)/\b9 v=cq/\dd d v
 | .au x q,v,_=>∀d,I.sub q (s x)=some d->I.ff q (s x)=true->∃cq b o,c7 w q (s x) (b9 (aC x)) none=some (d,cq,some (b,o))/\v= .pointer (some ⟨b,o,none⟩)
 | .R x k,v,_=>(s x).plain=false->∃b cur e fr,v= .pointer (some ⟨b,k,none⟩)/\F b/\w.heap[b]? =some (.cells cur e fr)/\cur.toList=b9 (aC x)
 | .fn f cap,v,_=>∃arr:Array Value,v= .func (.func f) #[] arr/\ee w F s aC cap arr.toList
 | .bool b,v,S=>dd (.bool b) v/\aq w F (.bool b) (b9 v) S
 | .e7,v,S=>dd .e7 v/\aq w F .e7 (b9 v) S
 | .int k n,v,S=>dd (.int k n) v/\aq w F (.int k n) (b9 v) S
 | .str x,v,S=>dd (.str x) v/\aq w F (.str x) (b9 v) S
 | .di,v,S=>dd .di v/\aq w F .di (b9 v) S
 | .a_,v,S=>dd .a_ v/\aq w F .a_ (b9 v) S
 | .slice xs,v,S=>dd (.slice xs) v/\aq w F (.slice xs) (b9 v) S
 | .al sz xs,v,S=>dd (.al sz xs) v/\aq w F (.al sz xs) (b9 v) S
 | .ref d,v,S=>dd (.ref d) v/\aq w F (.ref d) (b9 v) S
 | .bb d,v,S=>dd (.bb d) v/\aq w F (.bb d) (b9 v) S
 | .agg d,v,S=>dd (.agg d) v/\aq w F (.agg d) (b9 v) S
 | .tuple d,v,S=>dd (.tuple d) v/\aq w F (.tuple d) (b9 v) S
 | .dz o,v,S=>dd (.dz o) v/\aq w F (.dz o) (b9 v) S
 | .fv f d,v,S=>dd (.fv f d) v/\aq w F (.fv f d) (b9 v) S
def ee (w:World) (F:Nat->Prop) (s:ax) (aC:Nat->Value):aiF->aiD->Prop
 |[],vs=>vs=[]
 |d::ds,vs=>∃v kM,vs=v::kM/\aG w F s aC d v (λ_=>False)/\ee w F s aC ds kM
end
def I.tree:I->Bool
 | .hole=>false
 | .h _ _=>false
 | .au _ _=>false
 | .R _ _=>false
 | .fn _ _=>false
 |_=>true
theorem aG.ca {w:World} {F:Nat->Prop} {s:ax} {aC:Nat->Value} {d:I} {v:Value} {S:Nat->Prop} (aY:d.tree=true):
  aG w F s aC d v S↔(dd d v/\aq w F d (b9 v) S):=by
 cases d<;>first|(simp[I.tree]at aY;done)|rw[aG]
theorem hs {q:aiA} {av d:I} (h:I.sub q av=some d) (au:d.plain=false\/I.ff q av=true):av.tree=true:=by
 cases q with
 |nil=>
  simp[I.sub]at h;subst h;rcases au with au|au
  .cases av<;>first|rfl|(simp[I.plain]at au)
  .simp[I.ff]at au
 |cons k q=>cases av<;>first|rfl|(simp[I.sub]at h)
theorem CI {d:I} (h:d.plain=false):d.tree=true:=hs (q:=[]) (by simp only[I.sub]) (.inl h)
theorem aG.frame {w aB:World} {F bF:Nat->Prop} {s:ax} {aC:Nat->Value} {Sx:Nat->Nat->Prop} (bc:∀b,F b->aB.heap[b]? =w.heap[b]?) (Ip:∀b,F b->bF b)
  (br:∀x b,Sx x b->aB.heap[b]? =w.heap[b]?) (iY:∀x,aG w F s aC (s x) (aC x) (Sx x)):
  ∀(d:I) (v:Value) (S:Nat->Prop),(∀b,S b->aB.heap[b]? =w.heap[b]?)->aG w F s aC d v S->aG aB bF s aC d v S:=by
 have j7:∀(x:Nat) (q:aiA) (d:I),I.sub q (s x)=some d->(d.plain=false\/I.ff q (s x)=true)->c7 aB q (s x) (b9 (aC x)) none=c7 w q (s x) (b9 (aC x)) none:=by
  intro x q d ag au;have aY:=hs ag au;have:=iY x;rw[aG.ca aY]at this;exact za q _ _ (Sx x) none d this.2 ag (br x)
 have Pn:∀(d:I) (v:Value) (S:Nat->Prop),d.tree=true->(∀b,S b->aB.heap[b]? =w.heap[b]?)->aG w F s aC d v S->aG aB bF s aC d v S:=by
  intro d v S aY rY h;rw[aG.ca aY]at h⊢;exact⟨h.1,aq.mono Ip _ _ _ _ (λ_ h=>h) (aq.frame bc _ _ _ rY h.2)⟩
 have step:∀n,(∀(d:I) (v:Value) (S:Nat->Prop),SizeOf.sizeOf d<=n->(∀b,S b->aB.heap[b]? =w.heap[b]?)->aG w F s aC d v S->aG aB bF s aC d v S)/\
   (∀(ds:aiF) (vs:aiD),SizeOf.sizeOf ds<=n->ee w F s aC ds vs->ee aB bF s aC ds vs):=by
  intro n;induction n with
  |zero=>
   refine⟨λd v S bO=>?_,λds vs bO=>?_⟩
   .cases d<;>simp at bO<;>omega
   .cases ds<;>simp at bO<;>omega
  |succ n ih=>
   refine⟨λd v S bO rY h=>?_,λds vs bO h=>?_⟩
   .cases d with
    |hole=>rw[aG];trivial
    |h x q=>
     rw[aG]at h⊢;intro d ag au;rw[j7 x q d ag (.inl au)];exact h d ag au
    |au x q=>
     rw[aG]at h⊢;intro d ag au;rw[j7 x q d ag (.inr au)];exact h d ag au
    |R x k=>
     rw[aG]at h⊢;intro au;obtain⟨b,cur,e,fr,ab,ad,aA,aZ⟩:=h au;exact⟨b,cur,e,fr,ab,Ip b ad,(bc b ad).trans aA,aZ⟩
    |fn f cap=>
     rw[aG]at h⊢;obtain⟨arr,rfl,aj⟩:=h;exact⟨arr,rfl,ih.2 _ _ (by simp at bO;omega) aj⟩
    |_=>exact Pn _ _ _ rfl rY h
   .cases ds with
    |nil=>rw[ee]at h⊢;exact h
    |cons d ds=>
     rw[ee]at h⊢;obtain⟨v,kM,rfl,ab,ad⟩:=h;simp at bO;exact⟨v,kM,rfl,ih.1 _ _ _ (by omega) (λ_ h=>h.elim) ab,ih.2 _ _ (by omega) ad⟩
 intro d v S rY h;exact(step (SizeOf.sizeOf d)).1 d v S (Nat.le_refl _) rY h
mutual
def cr (x:Nat):I->I
 | .h y q=>if y=x then .hole else .h y q
 | .au y q=>if y=x then .hole else .au y q
 | .R y k=>if y=x then .hole else .R y k
 | .fn f cap=>.fn f (iH x cap)
 |d=>d
def iH (x:Nat):aiF->aiF
 |[]=>[]
 |d::ds=>cr x d::iH x ds
end
mutual
def bT (x:Nat):I->I
 | .h y q=>if y=x then(if q=[]then .h y q else .hole)else .h y q
 | .au y q=>if y=x then .hole else .au y q
 | .fn f cap=>.fn f (h9 x cap)
 |d=>d
def h9 (x:Nat):aiF->aiF
 |[]=>[]
 |d::ds=>bT x d::h9 x ds
end
def de {α:Type} (f:Nat->α) (t:Nat) (v:α):Nat->α:=λu=>if u=t then v else f u
def k5 (t:Nat) (s:ax):ax:=λu=>cr t (s u)
def hA (t:Nat) (s:ax):ax:=λu=>bT t (s u)
theorem ly {α:Type} (f:Nat->α) (t:Nat) (v:α):de f t v t=v:=by simp[de]
theorem iZ {α:Type} (f:Nat->α) {t u:Nat} (v:α) (h:u≠t):de f t v u=f u:=by simp[de,h]
theorem Po {t:Nat} {d:I} (h:d.tree=true):cr t d=d:=by cases d<;>first|rfl|(simp[I.tree]at h)
theorem CJ {t:Nat} {d:I} (h:d.tree=true):bT t d=d:=by cases d<;>first|rfl|(simp[I.tree]at h)
theorem Pp {t:Nat} {d:I} (h:(cr t d).tree=true):d.tree=true/\cr t d=d:=by
 cases d<;>first|exact⟨rfl,rfl⟩|(simp only[cr]at h;first|(split at h<;>simp[I.tree]at h)|simp[I.tree]at h)
theorem zb {t:Nat} {d:I} (h:(bT t d).tree=true):d.tree=true/\bT t d=d:=by
 cases d<;>first|exact⟨rfl,rfl⟩|(simp only[bT]at h;first|(split at h<;>(try split at h)<;>simp[I.tree]at h)|simp[I.tree]at h)
section
variable {w:World} {F:Nat->Prop} {s aD:ax} {aC hb:Nat->Value} {t:Nat}
theorem aG.cr (iI:∀x,x≠t->(aD x).tree=true->aD x=s x/\hb x=aC x):∀(n:Nat),
  (∀(d:I) (v:Value) (S:Nat->Prop),SizeOf.sizeOf d<=n->aG w F s aC d v S->aG w F aD hb (cU.cr t d) v S)/\
  (∀(ds:aiF) (vs:aiD),SizeOf.sizeOf ds<=n->ee w F s aC ds vs->ee w F aD hb (iH t ds) vs):=by
 intro n;induction n with
 |zero=>
  refine⟨λd v S bO=>?_,λds vs bO=>?_⟩
  .cases d<;>simp at bO<;>omega
  .cases ds<;>simp at bO<;>omega
 |succ n ih=>
  refine⟨λd v S bO h=>?_,λds vs bO h=>?_⟩
  .cases d with
   |hole=>rw[cU.cr.eq_def];simp only;rw[aG];trivial
   |h x q=>
    simp only[cU.cr];split
    .rw[aG];trivial
    .rename_i ar;rw[aG]at h⊢;intro d ag au;obtain⟨aN,aR⟩:=iI x ar (hs ag (.inl au));rw[aN,aR];rw[aN]at ag;exact h d ag au
   |au x q=>
    simp only[cU.cr];split
    .rw[aG];trivial
    .rename_i ar;rw[aG]at h⊢;intro d ag au;obtain⟨aN,aR⟩:=iI x ar (hs ag (.inr au));rw[aN,aR];rw[aN]at ag au;exact h d ag au
   |R x k=>
    simp only[cU.cr];split
    .rw[aG];trivial
    .rename_i ar;rw[aG]at h⊢;intro au;obtain⟨aN,aR⟩:=iI x ar (CI au);rw[aR];rw[aN]at au;exact h au
   |fn f cap=>
    simp only[cU.cr];rw[aG]at h⊢;obtain⟨arr,rfl,aj⟩:=h;exact⟨arr,rfl,ih.2 _ _ (by simp at bO;omega) aj⟩
   |_=>
    rw[Po (by rfl)];exact(aG.ca (by rfl)).2 ((aG.ca (by rfl)).1 h)
  .cases ds with
   |nil=>rw[iH,ee];rw[ee]at h;exact h
   |cons d ds=>
    rw[iH,ee];rw[ee]at h;obtain⟨v,kM,rfl,ab,ad⟩:=h;simp at bO;exact⟨v,kM,rfl,ih.1 _ _ _ (by omega) ab,ih.2 _ _ (by omega) ad⟩
theorem aG.bT {aB:World} (iI:∀x,x≠t->(aD x).tree=true->aD x=s x/\hb x=aC x) (h_:hb t=aC t) (fz:(aD t).plain=false->(s t).plain=false/\∀v,dd (s t) v->dd (aD t) v)
  (j7:∀x q d,x≠t->I.sub q (s x)=some d->(d.plain=false\/I.ff q (s x)=true)->c7 aB q (s x) (b9 (aC x)) none=c7 w q (s x) (b9 (aC x)) none)
  (bc:∀b,F b->aB.heap[b]? =w.heap[b]?):∀(n:Nat),
  (∀(d:I) (v:Value) (S:Nat->Prop),SizeOf.sizeOf d<=n->(∀b,S b->aB.heap[b]? =w.heap[b]?)->aG w F s aC d v S->aG aB F aD hb (cU.bT t d) v S)/\
  (∀(ds:aiF) (vs:aiD),SizeOf.sizeOf ds<=n->ee w F s aC ds vs->ee aB F aD hb (h9 t ds) vs):=by
 intro n;induction n with
 |zero=>
  refine⟨λd v S bO=>?_,λds vs bO=>?_⟩
  .cases d<;>simp at bO<;>omega
  .cases ds<;>simp at bO<;>omega
 |succ n ih=>
  refine⟨λd v S bO rY h=>?_,λds vs bO h=>?_⟩
  .cases d with
   |hole=>rw[cU.bT.eq_def];simp only;rw[aG];trivial
   |h x q=>
    simp only[cU.bT];split
    .rename_i ar;subst ar;split
     .rename_i bX;subst bX;rw[aG]at h⊢;intro d ag au;simp only[I.sub,some.injEq]at ag;subst ag;obtain⟨cY,ba⟩:=fz au;obtain⟨cq,a,g1,g2,g3⟩:=h (s x) rfl cY;simp only[c7,some.injEq,Prod.mk.injEq]at g1;obtain⟨-,g1,agp⟩:=g1;refine⟨b9 (hb x),none,rfl,?_,ba _ g3⟩;rw[h_,g2,<-g1]
     .rw[aG];trivial
    .rename_i ar;rw[aG]at h⊢;intro d ag au;obtain⟨aN,aR⟩:=iI x ar (hs ag (.inl au));rw[aN,aR];rw[aN]at ag;rw[j7 x q d ar ag (.inl au)];exact h d ag au
   |au x q=>
    simp only[cU.bT];split
    .rw[aG];trivial
    .rename_i ar;rw[aG]at h⊢;intro d ag au;obtain⟨aN,aR⟩:=iI x ar (hs ag (.inr au));rw[aN,aR];rw[aN]at ag au;rw[j7 x q d ar ag (.inr au)];exact h d ag au
   |R x k=>
    simp only[cU.bT];rw[aG]at h⊢;intro au;by_cases ar:x=t
    .subst ar;obtain⟨b,cur,e,fr,ab,ad,aA,aZ⟩:=h (fz au).1;exact⟨b,cur,e,fr,ab,ad,(bc b ad).trans aA,by rw[h_];exact aZ⟩
    .obtain⟨aN,aR⟩:=iI x ar (CI au);rw[aN]at au;obtain⟨b,cur,e,fr,ab,ad,aA,aZ⟩:=h au;exact⟨b,cur,e,fr,ab,ad,(bc b ad).trans aA,by rw[aR];exact aZ⟩
   |fn f cap=>
    simp only[cU.bT];rw[aG]at h⊢;obtain⟨arr,rfl,aj⟩:=h;exact⟨arr,rfl,ih.2 _ _ (by simp at bO;omega) aj⟩
   |_=>
    rw[CJ (by rfl)];have bq:=(aG.ca (by rfl)).1 h;exact(aG.ca (by rfl)).2 ⟨bq.1,aq.frame bc _ _ _ rY bq.2⟩
  .cases ds with
   |nil=>rw[h9,ee];rw[ee]at h;exact h
   |cons d ds=>
    rw[h9,ee];rw[ee]at h;obtain⟨v,kM,rfl,ab,ad⟩:=h;simp at bO;exact⟨v,kM,rfl,ih.1 _ _ _ (by omega) (λ_ h=>h.elim) ab,ih.2 _ _ (by omega) ad⟩
theorem aG.void (iI:∀x,x≠t->(aD x).tree=true->aD x=s x/\hb x=aC x) (nI:(aD t).plain=true):∀(n:Nat),
  (∀(d:I) (v:Value) (S:Nat->Prop),SizeOf.sizeOf d<=n->aG w F s aC d v S->aG w F aD hb d v S)/\
  (∀(ds:aiF) (vs:aiD),SizeOf.sizeOf ds<=n->ee w F s aC ds vs->ee w F aD hb ds vs):=by
 intro n;induction n with
 |zero=>
  refine⟨λd v S bO=>?_,λds vs bO=>?_⟩
  .cases d<;>simp at bO<;>omega
  .cases ds<;>simp at bO<;>omega
 |succ n ih=>
  refine⟨λd v S bO h=>?_,λds vs bO h=>?_⟩
  .cases d with
   |hole=>rw[aG];trivial
   |h x q=>
    rw[aG]at h⊢;intro d ag au;by_cases ar:x=t
    .subst ar;rw[I.CG _ _ _ nI ag]at au;cases au
    .obtain⟨aN,aR⟩:=iI x ar (hs ag (.inl au));rw[aN,aR];rw[aN]at ag;exact h d ag au
   |au x q=>
    rw[aG]at h⊢;intro d ag au;by_cases ar:x=t
    .subst ar;rw[I.Io _ _ nI]at au;cases au
    .obtain⟨aN,aR⟩:=iI x ar (hs ag (.inr au));rw[aN,aR];rw[aN]at ag au;exact h d ag au
   |R x k=>
    rw[aG]at h⊢;intro au;by_cases ar:x=t
    .subst ar;rw[nI]at au;cases au
    .obtain⟨aN,aR⟩:=iI x ar (CI au);rw[aR];rw[aN]at au;exact h au
   |fn f cap=>
    rw[aG]at h⊢;obtain⟨arr,rfl,aj⟩:=h;exact⟨arr,rfl,ih.2 _ _ (by simp at bO;omega) aj⟩
   |_=>exact(aG.ca (by rfl)).2 ((aG.ca (by rfl)).1 h)
  .cases ds with
   |nil=>rw[ee];rw[ee]at h;exact h
   |cons d ds=>
    rw[ee];rw[ee]at h;obtain⟨v,kM,rfl,ab,ad⟩:=h;simp at bO;exact⟨v,kM,rfl,ih.1 _ _ _ (by omega) ab,ih.2 _ _ (by omega) ad⟩
end
def qN:Bool:=true
def Out (w w0:World):Prop:=w.output=w0.output/\(qN=true->w0.drawn<=w.drawn)
theorem Out.trans {a b c:World} (h:Out a b) (ad:Out b c):Out a c:=⟨Eq.trans h.1 ad.1,λd=>Nat.le_trans (ad.2 d) (h.2 d)⟩
theorem Out.refl (w:World):Out w w:=⟨rfl,λ_=>Nat.le_refl _⟩
def CK:List (Nat×(Obj->Prop)):=[]
def ts (w:World) (X:Nat->Prop):Prop:=∀p∈CK,p.1<w.heap.size/\¬X p.1/\∃o,w.heap[p.1]? =some o/\p.2 o
theorem ts.next {w aB:World} {X Y:Nat->Prop} (h:ts w X) (U:w.heap.size<=aB.heap.size) (R:∀b,b<w.heap.size->¬X b->aB.heap[b]? =w.heap[b]?) (a8:∀b,Y b->X b\/w.heap.size<=b):ts aB Y:=λp au=>by
 obtain⟨ab,ad,o,aA,aZ⟩:=h p au;refine⟨Nat.lt_of_lt_of_le ab U,λh=>?_,o,(R _ ab ad).trans aA,aZ⟩;rcases a8 _ h with h|h
 .exact ad h
 .omega
structure bs (w0:World) (F0 X F:Nat->Prop) (S:Nat->Nat->Prop) (s:ax) (aC:Nat->Value) (w:World):Prop where
 gx:∀b,F0 b->F b
 gJ:∀b,F b->F0 b\/X b\/w0.heap.size<=b
 eH:∀b,F b->b<w.heap.size
 dW:∀t b,S t b->b<w.heap.size
 e8:∀t b,S t b->¬F b
 eZ:∀t u b,t≠u->S t b->¬S u b
 dh:∀t b,S t b->X b\/w0.heap.size<=b
 df:∀t,aG w F s aC (s t) (aC t) (S t)
 old:∀b,b<w0.heap.size->¬X b->w.heap[b]? =w0.heap[b]?
 size:w0.heap.size<=w.heap.size
 os:w.os=w0.os
 tape:w.tape=w0.tape
 output:Out w w0
 gy:ts w0 X
section
variable {w0 w aB:World} {F0 X F:Nat->Prop} {S:Nat->Nat->Prop} {s:ax} {aC:Nat->Value}
theorem bs.grow (h:bs w0 F0 X F S s aC w) (R:∀b,b<w.heap.size->aB.heap[b]? =w.heap[b]?) (U:w.heap.size<=aB.heap.size)
  (ab:aB.os=w.os) (ad:aB.tape=w.tape) (aA:Out aB w):bs w0 F0 X F S s aC aB where
 gx:=h.gx
 gJ:=h.gJ
 eH:=λb bc=>Nat.lt_of_lt_of_le (h.eH b bc) U
 dW:=λt b bc=>Nat.lt_of_lt_of_le (h.dW t b bc) U
 e8:=h.e8
 eZ:=h.eZ
 dh:=h.dh
 df:=λt=>aG.frame (Sx:=S) (λb bc=>R b (h.eH b bc)) (λ_ h=>h) (λx b br=>R b (h.dW x b br)) h.df _ _ _ (λb br=>R b (h.dW t b br)) (h.df t)
 old:=λb c9 ji=>(R b (Nat.lt_of_lt_of_le c9 h.size)).trans (h.old b c9 ji)
 size:=Nat.le_trans h.size U
 os:=ab.trans h.os
 tape:=ad.trans h.tape
 output:=aA.trans h.output
 gy:=h.gy
def fG (S:Nat->Nat->Prop) (t:Nat) (Sn:Nat->Prop):Nat->Nat->Prop:=λu b=>if u=t then Sn b else S u b
theorem vx (S:Nat->Nat->Prop) (t:Nat) (Sn:Nat->Prop):fG S t Sn t=Sn:=by funext b;simp[fG]
theorem vy (S:Nat->Nat->Prop) {t u:Nat} (Sn:Nat->Prop) (h:u≠t):fG S t Sn u=S u:=by funext b;simp[fG,h]
theorem bs.vz (h:bs w0 F0 X F S s aC w) {t:Nat} {d:I} {v:Value} (au:d.plain=true) (ag:aG w F s aC d v (λ_=>False)):
  bs w0 F0 X F (fG S t (λ_=>False)) (de s t d) (de aC t v) w where
 gx:=h.gx
 gJ:=h.gJ
 eH:=h.eH
 dW:=λu b R=>by simp only[fG]at R;split at R;exact R.elim;exact h.dW u b R
 e8:=λu b R=>by simp only[fG]at R;split at R;exact R.elim;exact h.e8 u b R
 eZ:=λu x b cw R ar=>by
  simp only[fG]at R ar;split at R
  .exact R.elim
  .split at ar
   .exact ar.elim
   .exact h.eZ u x b cw R ar
 dh:=λu b R=>by simp only[fG]at R;split at R;exact R.elim;exact h.dh u b R
 df:=λu=>by
  have iI:∀x,x≠t->(de s t d x).tree=true->de s t d x=s x/\de aC t v x=aC x:=λx ar _=>⟨iZ _ _ ar,iZ _ _ ar⟩
  have nI:(de s t d t).plain=true:=by rw[ly];exact au
  by_cases hu:u=t
  .subst hu;rw[ly,ly,vx];exact(aG.void iI nI _).1 _ _ _ (Nat.le_refl _) ag
  .rw[iZ _ _ hu,iZ _ _ hu,vy _ _ hu];exact(aG.void iI nI _).1 _ _ _ (Nat.le_refl _) (h.df u)
 old:=h.old
 size:=h.size
 os:=h.os
 tape:=h.tape
 output:=h.output
 gy:=h.gy
theorem bs.Iq (h:bs w0 F0 X F S s aC w) {t:Nat} {d:I} {v:Value} {Sn:Nat->Prop} (ag:d.tree=true) (U:dd d v) (aH:aq w F d (b9 v) Sn)
  (c9:∀b,Sn b->b<w.heap.size) (bc:∀b,Sn b->¬F b) (br:∀u b,u≠t->Sn b->¬S u b) (a7:∀b,Sn b->X b\/w0.heap.size<=b):
  bs w0 F0 X F (fG S t Sn) (de (k5 t s) t d) (de aC t v) w where
 gx:=h.gx
 gJ:=h.gJ
 eH:=h.eH
 dW:=λu b R=>by simp only[fG]at R;split at R;exact c9 b R;exact h.dW u b R
 e8:=λu b R=>by simp only[fG]at R;split at R;exact bc b R;exact h.e8 u b R
 eZ:=λu x b cw R ar=>by
  simp only[fG]at R ar;split at R
  .rename_i hu;rw[if_neg (λe=>cw (hu.trans e.symm))]at ar;exact br x b (λe=>cw (hu.trans e.symm)) R ar
  .rename_i hu;split at ar
   .exact br u b hu ar R
   .exact h.eZ u x b cw R ar
 dh:=λu b R=>by simp only[fG]at R;split at R;exact a7 b R;exact h.dh u b R
 df:=λu=>by
  have iI:∀x,x≠t->(de (k5 t s) t d x).tree=true->de (k5 t s) t d x=s x/\de aC t v x=aC x:=λx ar aY=>by
   rw[iZ _ _ ar]at aY⊢;exact⟨(Pp aY).2,iZ _ _ ar⟩
  by_cases hu:u=t
  .subst hu;rw[ly,ly,vx];exact(aG.ca ag).2 ⟨U,aH⟩
  .rw[iZ _ _ hu,iZ _ _ hu,vy _ _ hu];exact(aG.cr iI _).1 _ _ _ (Nat.le_refl _) (h.df u)
 old:=h.old
 size:=h.size
 os:=h.os
 tape:=h.tape
 output:=h.output
 gy:=h.gy
theorem qO (k:Nat) (q:aiA) (a6 x:I):(∃ay gs,x= .agg ay/\I.put (k::q) a6 x= .agg gs)\/(∃ay gs,x= .tuple ay/\I.put (k::q) a6 x= .tuple gs)\/
  (∃sz xs ys,x= .al sz xs/\I.put (k::q) a6 x= .al sz ys)\/(∃y z,x= .bb y/\I.put (k::q) a6 x= .bb z)\/I.put (k::q) a6 x=x:=by
 cases x with
 |agg ay=>simp only[I.put];split<;>exact .inl ⟨_,_,rfl,rfl⟩
 |tuple ay=>simp only[I.put];split<;>exact .inr (.inl ⟨_,_,rfl,rfl⟩)
 |al sz ay=>simp only[I.put];split<;>exact .inr (.inr (.inl ⟨_,_,_,rfl,rfl⟩))
 |bb y=>cases k<;>exact .inr (.inr (.inr (.inl ⟨_,_,rfl,rfl⟩)))
 |_=>exact .inr (.inr (.inr (.inr rfl)))
theorem Ir {k:Nat} {q:aiA} {a6 x:I} {v:Value} (h:hV x v):hV (I.put (k::q) a6 x) v:=by
 rcases qO k q a6 x with⟨ay,gs,rfl,e⟩|⟨ay,gs,rfl,e⟩|⟨sz,xs,ys,rfl,e⟩|⟨y,z,rfl,e⟩|e<;>rw[e]<;>exact h
theorem Is {k:Nat} {q:aiA} {a6 x:I} (h:∀vs,x≠.tuple vs):∀vs,I.put (k::q) a6 x≠.tuple vs:=by
 rcases qO k q a6 x with⟨ay,gs,rfl,e⟩|⟨ay,gs,rfl,e⟩|⟨sz,xs,ys,rfl,e⟩|⟨y,z,rfl,e⟩|e<;>rw[e]<;>first|exact h|(intro vs bq;cases bq;done)|exact(h _ rfl).elim
theorem vA {k:Nat} {q:aiA} {d a6 av:I} {v:Value} (h:dd av v) (ag:I.sub (k::q) av=some d) (ab:∀v,hV d v->hV a6 v) (ad:(∀vs,d≠.tuple vs)->∀vs,a6≠.tuple vs) (aA:a6.wd=d.wd):
  dd (I.put (k::q) a6 av) v:=by
 cases av with
 |tuple ay=>
  simp only[I.sub]at ag;split at ag
  .rename_i x ar;simp only[I.put,ar];simp only[dd]at h⊢;obtain⟨arr,rfl,bO,iY⟩:=h;refine⟨arr,rfl,by simpa using bO,λj e y he a8=>?_⟩;rw[getElem?_set]at he;split at he
   .rename_i CL;subst CL;split at he
    .simp only[some.injEq]at he;subst he;obtain⟨g1,g2,g3⟩:=iY k x y ar a8;refine⟨?_,?_,g3.trans (I.tq q x d a6 ag aA).symm⟩
     .cases q with
      |nil=>
       simp only[I.sub,some.injEq]at ag;subst ag;exact ab _ g1
      |cons cb q=>exact Ir g1
     .cases q with
      |nil=>
       simp only[I.sub,some.injEq]at ag;subst ag;exact ad g2
      |cons cb q=>exact Is g2
    .cases he
   .exact iY j e y he a8
  .cases ag
 |agg ay=>simp only[I.put];split<;>exact h
 |al sz ay=>simp only[I.put];split<;>exact h
 |bb y=>cases k<;>exact h
 |_=>exact h
theorem CM {d:I} {v:Value} (h:hV d v):hV d.cN v:=by cases d<;>exact h
theorem It {s:ax} {x:Nat} {q:aiA} {d:I} (ag:I.sub q (s x)=some d) (au:d.plain=false):
  (de (hA x s) x (I.put q d.cN (s x)) x).plain=false->(s x).plain=false/\∀v,dd (s x) v->dd (de (hA x s) x (I.put q d.cN (s x)) x) v:=by
  rw[ly];intro fl;cases q with
  |nil=>
   exfalso;have:∀d:I,d.cN.plain=true:=by
    intro d;have key:∀n,(∀d:I,SizeOf.sizeOf d<=n->d.cN.plain=true)/\(∀ds:aiF,SizeOf.sizeOf ds<=n->I.fY (I.kL ds)=true):=by
     intro n;induction n with
     |zero=>exact⟨λd bO=>by cases d<;>simp at bO<;>omega,λds bO=>by cases ds<;>simp at bO<;>omega⟩
     |succ n ih=>
      refine⟨λd bO=>?_,λds bO=>?_⟩
      .cases d with
       |agg ay=>simp only[I.cN,I.plain];exact ih.2 _ (by simp at bO;omega)
       |tuple ay=>simp only[I.cN,I.plain];exact ih.2 _ (by simp at bO;omega)
       |_=>rfl
      .cases ds with
       |nil=>rfl
       |cons d ds=>
        simp at bO;simp only[I.kL,I.fY,Bool.and_eq_true];exact⟨ih.1 _ (by omega),ih.2 _ (by omega)⟩
    exact(key _).1 d (Nat.le_refl _)
   simp only[I.put]at fl;rw[this]at fl;cases fl
  |cons k q=>
   refine⟨?_,λv aH=>vA aH ag (λv h=>CM h) (λh vs e=>?_) (I.qM d)⟩
   .cases b2:(s x).plain with
    |false=>rfl
    |true=>rw[I.CG _ _ _ b2 ag]at au;cases au
   .cases d<;>first|(exact h _ rfl)|(simp[I.cN]at e)
theorem bs.take (h:bs w0 F0 X F S s aC w) {x:Nat} {q:aiA} {d:I} (ag:I.sub q (s x)=some d) (au:d.plain=false):
  ∃(Sn eY:Nat->Prop) (cq:aiD) (a:Option (Nat×Nat)),bs w0 F0 X F (fG S x Sn) (de (hA x s) x (I.put q d.cN (s x))) aC w/\
   c7 w q (s x) (b9 (aC x)) none=some (d,cq,a)/\aq w F d cq eY/\(∀b,eY b->S x b)/\(∀b,Sn b->S x b)/\(∀b,eY b->¬Sn b)/\
   (∀(a6:I) (v:Value) (aL:Nat->Prop),aG w F s aC a6 v aL->aG w F (de (hA x s) x (I.put q d.cN (s x))) aC (cU.bT x a6) v aL):=by
 have aY:=hs ag (.inl au);have ar:=h.df x;rw[aG.ca aY]at ar;obtain⟨cq,a,dL,eY,g0,g1,g2,g3,g4,g5⟩:=ctx q (s x) (b9 (aC x)) (S x) none d ar.2 ag;have jh:aq w F (I.put q d.cN (s x)) (b9 (aC x)) dL:=by
  have mR:aq w F d.cN cq (λ_=>False):=aq.cN _ _ _ _ g4;have mS:∀b,(dL b\/False)->dL b:=λb h=>h.elim id False.elim;rcases g5 with⟨l,r,aN,aR,aS⟩|⟨b,cur,e,fr,l,r,aN,aR,aS,b0,cd,bQ⟩
  .have:=aS w _ cq _ (λ_ _=>rfl) (λ_ _=>rfl) (I.qM d) mR (λ_ h=>h.elim);rw[<-aN]at this;exact aq.mono (λ_ h=>h) _ _ _ _ mS this
  .have:=bQ w _ cq _ (λ_ _=>rfl) (λ_ _ _=>rfl) (by rw[aS,<-cd]) (I.qM d) mR (λ_ h=>h.elim);exact aq.mono (λ_ h=>h) _ _ _ _ mS this
 have Pq:dd (I.put q d.cN (s x)) (aC x)/\(I.put q d.cN (s x)).tree=true\/I.put q d.cN (s x)= .hole:=by
  cases q with
  |nil=>
   simp only[I.sub,some.injEq]at ag;subst ag;simp only[I.put];cases U:s x with
   |al sz xs=>right;rfl
   |bb y=>right;rfl
   |dz y=>right;rfl
   |agg ay=>left;rw[U]at ar;exact⟨ar.1,rfl⟩
   |tuple ay=>
    left;rw[U]at ar;refine⟨?_,rfl⟩;simp only[dd,I.cN]at ar⊢;obtain⟨arr,e,bO,iY⟩:=ar.1;have aO:∀ay:aiF,I.kL ay=ay.map I.cN:=by
     intro ay;induction ay with
     |nil=>rfl
     |cons a ay ih=>simp[I.kL,ih]
    refine⟨arr,e,by rw[aO];simpa using bO,λk fF y he a8=>?_⟩;rw[aO,getElem?_map]at he;cases aw:ay[k]? with
    |none=>rw[aw]at he;cases he
    |some z=>
     rw[aw]at he;simp only[map_some,some.injEq]at he;subst he;obtain⟨g1,g2,g3⟩:=iY k z y aw a8;refine⟨CM g1,λvs e=>?_,g3.trans (I.qM z).symm⟩;cases z<;>first|(exact g2 _ rfl)|(simp[I.cN]at e)
   |fv _ _=>right;simp[I.cN]
   |_=>rw[U]at au;simp[I.plain]at au
  |cons k q=>
   left;refine⟨vA ar.1 ag (λv h=>CM h) (λh vs e=>?_) (I.qM d),?_⟩
   .cases d<;>first|(exact h _ rfl)|(simp[I.cN]at e)
   .rcases qO k q d.cN (s x)with⟨ay,gs,aN,e⟩|⟨ay,gs,aN,e⟩|⟨sz,xs,ys,aN,e⟩|⟨y,z,aN,e⟩|e<;>rw[e]<;>first|rfl|exact aY
 refine⟨dL,eY,cq,a,?_,g0,g4,g2,g1,λb ab ad=>g3 b ad ab,?_⟩
 rotate_left
 .have iI:∀y,y≠x->(de (hA x s) x (I.put q d.cN (s x)) y).tree=true->de (hA x s) x (I.put q d.cN (s x)) y=s y/\aC y=aC y:=λy a8 aY=>by
   rw[iZ _ _ a8]at aY⊢;exact⟨(zb aY).2,rfl⟩
  intro a6 v aL gG;exact(aG.bT iI rfl (It ag au) (λ_ _ _ _ _ _=>rfl) (λ_ _=>rfl) _).1 _ _ _ (Nat.le_refl _) (λ_ _=>rfl) gG
 have iI:∀y,y≠x->(de (hA x s) x (I.put q d.cN (s x)) y).tree=true->de (hA x s) x (I.put q d.cN (s x)) y=s y/\aC y=aC y:=λy a8 aY=>by
  rw[iZ _ _ a8]at aY⊢;exact⟨(zb aY).2,rfl⟩
 have fz:=It (s:=s) (x:=x) ag au;constructor;case gx=>exact h.gx
 case gJ=>exact h.gJ
 case eH=>exact h.eH
 case dW=>exact λu b R=>by simp only[fG]at R;split at R;exact h.dW x b (g1 b R);exact h.dW u b R
 case e8=>exact λu b R=>by simp only[fG]at R;split at R;exact h.e8 x b (g1 b R);exact h.e8 u b R
 case eZ=>
  intro u y b cw R a8;simp only[fG]at R a8;split at R
  .rename_i hu;rw[if_neg (λe=>cw (hu.trans e.symm))]at a8;exact h.eZ x y b (λe=>cw (hu.trans e)) (g1 b R) a8
  .rename_i hu;split at a8
   .exact h.eZ u x b hu R (g1 b a8)
   .exact h.eZ u y b cw R a8
 case dh=>exact λu b R=>by simp only[fG]at R;split at R;exact h.dh x b (g1 b R);exact h.dh u b R
 case df=>
  intro u;by_cases hu:u=x
  .subst hu;rw[ly,vx];rcases Pq with⟨aN,aR⟩|e
   .exact(aG.ca aR).2 ⟨aN,jh⟩
   .rw[e,aG];trivial
  .rw[iZ _ _ hu,vy _ _ hu];exact(aG.bT iI rfl fz (λ_ _ _ _ _ _=>rfl) (λ_ _=>rfl) _).1 _ _ _ (Nat.le_refl _) (λ_ _=>rfl) (h.df u)
 case old=>exact h.old
 case size=>exact h.size
 case os=>exact h.os
 case tape=>exact h.tape
 case output=>exact h.output
 case gy=>exact h.gy
theorem bs.store (h:bs w0 F0 X F S s aC w) {x:Nat} {q:aiA} {d a6:I} (ag:I.sub q (s x)=some d) (aj:I.ff q (s x)=true)
  {fy:aiD} {Sn:Nat->Prop} (aH:aq w F a6 fy Sn) (j6:a6.wd=d.wd)
  (c9:∀b,Sn b->b<w.heap.size) (bc:∀b,Sn b->¬F b) (br:∀u b,Sn b->¬S u b) (a7:∀b,Sn b->X b\/w0.heap.size<=b):
  ∃(cq:aiD) (b:Nat) (l r:aiD) (cur:Array Value) (e:TypeId) (fr:Nat×Nat),c7 w q (s x) (b9 (aC x)) none=some (d,cq,some (b,l.length))/\
   w.heap[b]? =some (.cells cur e fr)/\cur.toList=l++(cq++r)/\kt fr cur.size/\
   ∀aB,aB.heap[b]? =some (.cells (l++(fy++r)).toArray e fr)->(∀c,c≠b->aB.heap[c]? =w.heap[c]?)->aB.heap.size=w.heap.size->aB.os=w.os->aB.tape=w.tape->Out aB w->
    ∃aL,bs w0 F0 X F aL (de (hA x s) x (I.put q a6 (s x))) aC aB:=by
 have aY:=hs ag (.inr aj);have ar:=h.df x;rw[aG.ca aY]at ar;obtain⟨cq,a,dL,eY,g0,g1,g2,g3,g4,g5⟩:=ctx q (s x) (b9 (aC x)) (S x) none d ar.2 ag;have Pr:Deep w F q (s x) (b9 (aC x)) d cq a dL:=by
  rcases g5 with⟨l,r,aN,aR,aS⟩|g5
  .exfalso;have k6:∀(q:aiA) (av:I) (cs:aiD) (a0:Option (Nat×Nat)) (d:I) (cq:aiD),I.ff q av=true->c7 w q av cs a0=some (d,cq,none)->False:=by
    intro q;induction q with
    |nil=>intro av cs a0 d cq aj;simp[I.ff]at aj
    |cons k q ih=>
     have Iu:∀(q:aiA) (av:I) (cs:aiD) (l:Nat×Nat) (d:I) (cq:aiD),c7 w q av cs (some l)=some (d,cq,none)->False:=by
      intro q;induction q with
      |nil=>intro av cs l d cq h;simp[c7]at h
      |cons k q zc=>
       intro av cs l d cq h;cases av with
       |agg ay=>rw[c7]at h;split at h;exact zc _ _ _ _ _ h;cases h
       |tuple ay=>rw[c7]at h;split at h;exact zc _ _ _ _ _ h;cases h
       |al sz xs=>simp only[c7]at h;split at h;exact zc _ _ _ _ _ h;cases h
       |bb y=>
        cases k with
        |zero=>rw[c7.eq_def]at h;simp only at h;split at h;exact zc _ _ _ _ _ h;cases h
        |succ k=>rw[show c7 w ((k+1)::q) (.bb y) cs (some l)=none from rfl]at h;cases h
       |_=>simp[c7]at h
     intro av cs a0 d cq aj h;cases av with
     |agg ay=>
      simp only[I.ff]at aj;split at aj
      .rename_i y a8;simp only[c7,a8]at h;exact ih _ _ _ _ _ aj h
      .cases aj
     |tuple ay=>
      simp only[I.ff]at aj;split at aj
      .rename_i y a8;simp only[c7,a8]at h;exact ih _ _ _ _ _ aj h
      .cases aj
     |al sz xs=>simp only[c7]at h;split at h;exact Iu _ _ _ _ _ _ h;cases h
     |bb y=>
      cases k with
      |zero=>rw[c7.eq_def]at h;simp only at h;split at h;exact Iu _ _ _ _ _ _ h;cases h
      |succ k=>rw[show c7 w ((k+1)::q) (.bb y) cs a0=none from rfl]at h;cases h
     |_=>simp[I.ff]at aj
   simp only[map_none]at aR;subst aR;exact k6 _ _ _ _ _ _ aj g0
  .exact g5
 obtain⟨b,cur,e,fr,l,r,rfl,aR,aS,b0,cd,bQ⟩:=Pr;refine⟨cq,b,l,r,cur,e,fr,g0,aS,cd,b0,?_⟩;intro aB kK k8 dP CN CO rZ;have r0:S x b:=g1 _ aR;have oO:∀c,F c->aB.heap[c]? =w.heap[c]? :=λc aj=>k8 c (by rintro rfl;exact h.e8 x _ r0 aj);have agq:fy.length=cq.length:=by rw[aq.length _ _ _ aH,aq.length _ _ _ g4,j6]
 have jh:=bQ aB a6 fy Sn oO (λc _ cw=>k8 c cw) kK j6
  (aq.frame oO _ _ _ (λc aj=>k8 c (by rintro rfl;exact br x _ aj r0)) aH) (λc aj mS=>br x c aj (g1 _ mS))
 obtain⟨k,ij,rfl⟩:∃k ij,q=k::ij:=by
  cases q with
  |nil=>simp[I.ff]at aj
  |cons k q=>exact⟨k,q,rfl⟩
 have vB:∀v,dd (s x) v->dd (I.put (k::ij) a6 (s x)) v:=by
  intro v aH;rcases qO k ij a6 (s x)with⟨ay,gs,aN,e⟩|⟨ay,gs,aN,e⟩|⟨sz,xs,ys,aN,e⟩|⟨y,z,aN,e⟩|e
  .rw[e];rw[aN]at aH;exact aH
  ·
   rw[aN]at aH ag aj⊢;simp only[I.ff]at aj;split at aj
   .rename_i y a8;simp only[I.put,a8];cases ij with
    |nil=>simp[I.ff]at aj
    |cons cb gz=>
     simp only[dd]at aH⊢;obtain⟨arr,rfl,bO,iY⟩:=aH;refine⟨arr,rfl,by simpa using bO,λj e k9 he r1=>?_⟩;rw[getElem?_set]at he;split at he
     .rename_i CL;subst CL;split at he
      .simp only[some.injEq]at he;subst he;obtain⟨g1,g2,g3⟩:=iY _ y k9 a8 r1;simp only[I.sub,a8]at ag;exact⟨Ir g1,Is g2,g3.trans (I.tq (cb::gz) y d a6 ag j6).symm⟩
      .cases he
     .exact iY j e k9 he r1
   .cases aj
  .rw[e];rw[aN]at aH;exact aH
  .rw[e];rw[aN]at aH;exact aH
  .rw[e];exact aH
 have Ps:(I.put (k::ij) a6 (s x)).tree=true:=by
  rcases qO k ij a6 (s x)with⟨ay,gs,aN,e⟩|⟨ay,gs,aN,e⟩|⟨sz,xs,ys,aN,e⟩|⟨y,z,aN,e⟩|e<;>rw[e]<;>first|rfl|exact aY
 let aD:=de (hA x s) x (I.put (k::ij) a6 (s x))
 have iI:∀y,y≠x->(aD y).tree=true->aD y=s y/\aC y=aC y:=λy a8 aY=>by
  have e:aD y=bT x (s y):=iZ _ _ a8;rw[e]at aY⊢;exact⟨(zb aY).2,rfl⟩
 have fz:(aD x).plain=false->(s x).plain=false/\∀v,dd (s x) v->dd (aD x) v:=by
  intro _;refine⟨?_,?_⟩
  .cases b2:(s x).plain with
   |false=>rfl
   |true=>rw[I.Io _ _ b2]at aj;cases aj
  .simp only[aD,ly];exact vB
 refine⟨fG S x (λc=>dL c\/Sn c),?_⟩;constructor;case gx=>exact h.gx
 case gJ=>exact h.gJ
 case eH=>exact λb R=>by rw[dP];exact h.eH b R
 case dW=>
  intro u c R;rw[dP];simp only[fG]at R;split at R
  .rcases R with R|R
   .exact h.dW x c (g1 c R)
   .exact c9 c R
  .exact h.dW u c R
 case e8=>
  intro u c R;simp only[fG]at R;split at R
  .rcases R with R|R
   .exact h.e8 x c (g1 c R)
   .exact bc c R
  .exact h.e8 u c R
 case eZ=>
  intro u y c cw R a8;simp only[fG]at R a8;split at R
  .rename_i hu;rw[if_neg (λe=>cw (hu.trans e.symm))]at a8;rcases R with R|R
   .exact h.eZ x y c (λe=>cw (hu.trans e)) (g1 c R) a8
   .exact br y c R a8
  .rename_i hu;split at a8
   .rcases a8 with a8|a8
    .exact h.eZ u x c hu R (g1 c a8)
    .exact br u c a8 R
   .exact h.eZ u y c cw R a8
 case dh=>
  intro u c R;simp only[fG]at R;split at R
  .rcases R with R|R
   .exact h.dh x c (g1 c R)
   .exact a7 c R
  .exact h.dh u c R
 case df=>
  intro u;by_cases hu:u=x
  .subst hu;rw[ly,vx];exact(aG.ca Ps).2 ⟨vB _ ar.1,jh⟩
  .rw[iZ _ _ hu,vy _ _ hu];have cw:∀y c,y≠x->S y c->aB.heap[c]? =w.heap[c]? :=λy c a8 aj=>k8 c (by rintro rfl;exact h.eZ y x c a8 aj r0);refine(aG.bT iI rfl fz (λy gz d2 a8 gR tt=>?_) oO _).1 _ _ _ (Nat.le_refl _) (λc aj=>cw u c hu aj) (h.df u);have vC:=h.df y;rw[aG.ca (hs gR tt)]at vC;exact za gz _ _ _ none d2 vC.2 gR (λc aj=>cw y c a8 aj)
 case old=>
  intro c c9 ji;by_cases qP:c=b
  .subst qP;exfalso;rcases h.dh x c r0 with mR|mR
   .exact ji mR
   .omega
  .exact(k8 c qP).trans (h.old c c9 ji)
 case size=>rw[dP];exact h.size
 case os=>exact CN.trans h.os
 case tape=>exact CO.trans h.tape
 case output=>exact rZ.trans h.output
 case gy=>exact h.gy
end
end Go.cU
