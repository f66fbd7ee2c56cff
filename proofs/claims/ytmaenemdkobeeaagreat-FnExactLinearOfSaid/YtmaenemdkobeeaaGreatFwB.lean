/- Part of a proof that a law returns true for every input. No condition. -/
import Derived.Test.YtmaenemdkobeeaaGreatFwA
import Derived.Laws.AppendOwn
import Derived.Calls
namespace Go.ek
open List Option Go.IntKind Nat Or
inductive Ay where
 |mp (es:arC)
 |Az
 |i6 (T e:TypeId) (kO:arE)
inductive J where
 |hole
 |bool (b:Bool)
 |fW
 |int (k:IntKind) (n:Int)
 |str (s:arE)
 |eh
 |au
 |slice (xs:List J)
 |af (sz:Nat) (xs:List J)
 |ref (d:J)
 |aG (d:J)
 |agg (aH:List J)
 |tuple (vs:List J)
 |fn (f:FuncId) (cap:List J)
 |h (x:Nat) (q:arH)
 |aw (x:Nat) (q:arH)
 |ab (x:Nat) (k:Nat)
 |eM (o:Ay)
 deriving Inhabited
abbrev arM:=List J
abbrev arL:=List (Nat×J)
mutual
def J.wd:J->Nat
 | .agg aH=>J.e1 aH
 | .tuple aH=>J.e1 aH
 |_=>1
def J.e1:arM->Nat
 |[]=>0
 |d::ds=>d.wd+J.e1 ds
end
def iV (w:World) (b o:Nat) (cs:arK):Prop:=∀j c,cs[j]? =some c->w.cell? ⟨b,o+j,none⟩=some c
def oy (fr:Nat×Nat) (n:Nat):Prop:=∀o,o<n->¬(fr.1<=o/\o<fr.2)
theorem oy.le {fr:Nat×Nat} {m n:Nat} (h:oy fr n) (hm:m<=n):oy fr m:=λo b_=>h o (Nat.lt_of_lt_of_le b_ hm)
theorem oy.low {fr:Nat×Nat} {n k:Nat} (h:oy fr (n+k)):oy fr n:=h.le (le_add_right _ _)
def Value.hp:Value->Bool
 | .agg _=>false
 | .tuple _=>false
 |_=>true
def J.single:J->Bool
 | .agg _=>false
 | .tuple _=>false
 | .hole=>false
 |_=>true
def ni (w:World):Ay->arK->(Nat->Prop)->Prop
 | .mp es,cs,S=>∃r ms oz,cs=[.map (some r)]/\S r/\w.heap[r]? =some (.map ms oz)/\ms.toList.map (λe=>(e.key,e.val))=es.map (λe=>(.string ⟨⟨e.1⟩⟩,.bool e.2))
 | .Az,cs,_=>cs=[.map none]
 | .i6 T e kO,cs,S=>∃b a v3,cs=[.pointer (some ⟨b,0,none⟩)]/\S b/\w.heap[b]? =some (.cells #[a,v3] T (0,0))/\(a= .pointer none\/a= .pointer (some ⟨b,0,none⟩))/\
   ((kO=[]/\v3= .slice none 0 0)\/
     ∃g cap cur,v3= .slice (some ⟨g,0,none⟩) kO.length cap/\S g/\g≠b/\w.heap[g]? =some (.cells cur e (0,0))/\kO.length<=cap/\cap<=maxLen/\cur.size=cap/\
      cur.toList.take kO.length=kO.map λx=>.int .u8 x.toNat)
theorem ni.frame {w aQ:World}:∀{o:Ay} {cs:arK} {S:Nat->Prop},(∀b,S b->aQ.heap[b]? =w.heap[b]?)->ni w o cs S->ni aQ o cs S
 | .mp _,_,_,cf,⟨r,ms,oz,ae,ag,aK,a3⟩=>⟨r,ms,oz,ae,ag,(cf _ ag).trans aK,a3⟩
 | .Az,_,_,_,h=>h
 | .i6 _ _ _,_,_,cf,⟨b,a,v3,ae,ag,aK,a3,bI⟩=>⟨b,a,v3,ae,ag,(cf _ ag).trans aK,a3,bI.imp (λh=>h) λ⟨g,cap,cur,uF,qV,v5,Is,AA⟩=>⟨g,cap,cur,uF,qV,v5,(cf _ qV).trans Is,AA⟩⟩
theorem ni.mono {w:World}:∀{o:Ay} {cs:arK} {S a0:Nat->Prop},(∀b,S b->a0 b)->ni w o cs S->ni w o cs a0
 | .mp _,_,_,_,cf,⟨r,ms,oz,ae,ag,aK⟩=>⟨r,ms,oz,ae,cf _ ag,aK⟩
 | .Az,_,_,_,_,h=>h
 | .i6 _ _ _,_,_,_,cf,⟨b,a,v3,ae,ag,aK,a3,bI⟩=>⟨b,a,v3,ae,cf _ ag,aK,a3,bI.imp (λh=>h) λ⟨g,cap,cur,uF,qV,v5⟩=>⟨g,cap,cur,uF,cf _ qV,v5⟩⟩
theorem ni.one {w:World}:∀{o:Ay} {cs:arK} {S:Nat->Prop},ni w o cs S->∃v,Value.hp v=true/\cs=[v]
 | .mp _,_,_,⟨_,_,_,h,_⟩=>⟨_,rfl,h⟩
 | .Az,_,_,h=>⟨_,rfl,h⟩
 | .i6 _ _ _,_,_,⟨_,_,_,h,_⟩=>⟨_,rfl,h⟩
mutual
def aD (w:World) (F:Nat->Prop):J->arK->(Nat->Prop)->Prop
 | .hole,cs,_=>∃v,Value.hp v=true/\cs=[v]
 | .bool b,cs,_=>cs=[.bool b]
 | .fW,cs,_=>∃b,cs=[.bool b]
 | .int k n,cs,_=>cs=[.int k n]
 | .str s,cs,_=>cs=[.string ⟨⟨s⟩⟩]
 | .eh,cs,_=>cs=[.pointer none]
 | .au,cs,_=>cs=[.slice none 0 0]
 | .slice xs,cs,_=>(xs=[]/\∃a c,cs=[.slice a 0 c]/\c<=maxLen/\(a=none->c=0))\/
   ∃b o cap fm sz,cs=[.slice (some ⟨b,o,none⟩) xs.length cap]/\F b/\xs.length<=cap/\cap<=maxLen/\(∀d∈xs,d.wd=sz)/\
    iV w b o fm/\bm w F xs fm (λ_=>False)
 | .af sz xs,cs,S=>(xs=[]/\∃a,cs=[.slice a 0 0])\/
   ∃b cap cur e fr a0,cs=[.slice (some ⟨b,0,none⟩) xs.length cap]/\S b/\w.heap[b]? =some (.cells cur e fr)/\oy fr (cur.size+(sz-1))/\
    xs.length<=cap/\cap<=maxLen/\cur.size=cap*sz/\(∀d∈xs,d.wd=sz)/\bm w F xs (cur.toList.take (xs.length*sz)) a0/\(∀c,a0 c->S c)/\¬a0 b
 | .ref d,cs,_=>∃b o fm,cs=[.pointer (some ⟨b,o,none⟩)]/\F b/\iV w b o fm/\aD w F d fm (λ_=>False)
 | .aG d,cs,S=>∃b cur e fr a0,cs=[.pointer (some ⟨b,0,none⟩)]/\S b/\w.heap[b]? =some (.cells cur e fr)/\oy fr cur.size/\
   aD w F d cur.toList a0/\(∀c,a0 c->S c)/\¬a0 b
 | .agg aH,cs,S=>bm w F aH cs S
 | .tuple aH,cs,S=>bm w F aH cs S
 | .fn f caps,cs,_=>∃arr:Array Value,cs=[.func (.func f) #[] arr]/\(∀d∈caps,d.single=true)/\bm w F caps arr.toList (λ_=>False)
 | .h _ _,_,_=>False
 | .aw _ _,_,_=>False
 | .ab _ _,_,_=>False
 | .eM o,cs,S=>ni w o cs S
def bm (w:World) (F:Nat->Prop):arM->arK->(Nat->Prop)->Prop
 |[],cs,_=>cs=[]
 |d::ds,cs,S=>∃b2 cc cA eo,cs=b2++cc/\aD w F d b2 cA/\bm w F ds cc eo/\(∀b,cA b->S b)/\(∀b,eo b->S b)/\(∀b,cA b->¬eo b)
end
theorem cell?_of_block {w aQ:World} {b:Nat} (h:aQ.heap[b]? =w.heap[b]?) (o:Nat):aQ.cell? ⟨b,o,none⟩=w.cell? ⟨b,o,none⟩:=by
 simp[World.cell?,h]
theorem iV.frame {w aQ:World} {b o:Nat} {cs:arK} (h:aQ.heap[b]? =w.heap[b]?) (a4:iV w b o cs):iV aQ b o cs:=
 λj c ax=>(cell?_of_block h _).trans (a4 j c ax)
mutual
theorem aD.frame {w aQ:World} {F:Nat->Prop} (bt:∀b,F b->aQ.heap[b]? =w.heap[b]?):
  ∀(d:J) (cs:arK) (S:Nat->Prop),(∀b,S b->aQ.heap[b]? =w.heap[b]?)->aD w F d cs S->aD aQ F d cs S
 | .hole,_,_,_,h=>h
 | .bool _,_,_,_,h=>h
 | .fW,_,_,_,h=>h
 | .int _ _,_,_,_,h=>h
 | .str _,_,_,_,h=>h
 | .eh,_,_,_,h=>h
 | .au,_,_,_,h=>h
 | .slice xs,cs,S,cf,h=>by
   rw[aD]at h⊢;rcases h with h|⟨b,o,cap,fm,sz,ae,ag,aK,a3,bI,dc,c6⟩
   .exact .inl h
   .exact .inr ⟨b,o,cap,fm,sz,ae,ag,aK,a3,bI,dc.frame (bt _ ag),bm.frame bt xs _ _ (λ_ h=>h.elim) c6⟩
 | .af sz xs,cs,S,cf,h=>by
   rw[aD]at h⊢;rcases h with h|⟨b,cap,cur,e,fr,a0,ae,ag,aK,a3,bI,dc,c6,gy,jy,kf,nj⟩
   .exact .inl h
   .exact .inr ⟨b,cap,cur,e,fr,a0,ae,ag,(cf _ ag).trans aK,a3,bI,dc,c6,gy,bm.frame bt xs _ _ (λc ax=>cf _ (kf _ ax)) jy,kf,nj⟩
 | .ref d,cs,S,cf,h=>by
   rw[aD]at h⊢;obtain⟨b,o,fm,ae,ag,aK,a3⟩:=h;exact⟨b,o,fm,ae,ag,aK.frame (bt _ ag),aD.frame bt d _ _ (λ_ h=>h.elim) a3⟩
 | .aG d,cs,S,cf,h=>by
   rw[aD]at h⊢;obtain⟨b,cur,e,fr,a0,ae,ag,aK,a3,bI,dc,c6⟩:=h;exact⟨b,cur,e,fr,a0,ae,ag,(cf _ ag).trans aK,a3,aD.frame bt d _ _ (λc ax=>cf _ (dc _ ax)) bI,dc,c6⟩
 | .agg aH,cs,S,cf,h=>by rw[aD]at h⊢;exact bm.frame bt aH _ _ cf h
 | .tuple aH,cs,S,cf,h=>by rw[aD]at h⊢;exact bm.frame bt aH _ _ cf h
 | .fn _ caps,cs,S,cf,h=>by
   rw[aD]at h⊢;obtain⟨arr,ae,ag,aK⟩:=h;exact⟨arr,ae,ag,bm.frame bt caps _ _ (λ_ h=>h.elim) aK⟩
 | .h _ _,_,_,_,h=>h
 | .aw _ _,_,_,_,h=>h
 | .ab _ _,_,_,_,h=>h
 | .eM _,_,_,cf,h=>ni.frame cf h
theorem bm.frame {w aQ:World} {F:Nat->Prop} (bt:∀b,F b->aQ.heap[b]? =w.heap[b]?):
  ∀(ds:arM) (cs:arK) (S:Nat->Prop),(∀b,S b->aQ.heap[b]? =w.heap[b]?)->bm w F ds cs S->bm aQ F ds cs S
 |[],_,_,_,h=>h
 |d::ds,cs,S,cf,h=>by
  rw[bm]at h⊢;obtain⟨b2,cc,cA,eo,ae,ag,aK,a3,bI,dc⟩:=h;exact⟨b2,cc,cA,eo,ae,aD.frame bt d _ _ (λb ab=>cf _ (a3 _ ab)) ag,bm.frame bt ds _ _ (λb ab=>cf _ (bI _ ab)) aK,a3,bI,dc⟩
end
mutual
theorem aD.mono {w:World} {F b9:Nat->Prop} (bt:∀b,F b->b9 b):
  ∀(d:J) (cs:arK) (S a0:Nat->Prop),(∀b,S b->a0 b)->aD w F d cs S->aD w b9 d cs a0
 | .hole,_,_,_,_,h=>h
 | .bool _,_,_,_,_,h=>h
 | .fW,_,_,_,_,h=>h
 | .int _ _,_,_,_,_,h=>h
 | .str _,_,_,_,_,h=>h
 | .eh,_,_,_,_,h=>h
 | .au,_,_,_,_,h=>h
 | .slice xs,cs,S,_,cf,h=>by
   rw[aD]at h⊢;rcases h with h|⟨b,o,cap,fm,sz,ae,ag,aK,a3,bI,dc,c6⟩
   .exact .inl h
   .exact .inr ⟨b,o,cap,fm,sz,ae,bt _ ag,aK,a3,bI,dc,bm.mono bt xs _ _ _ (λ_ h=>h) c6⟩
 | .af sz xs,cs,S,_,cf,h=>by
   rw[aD]at h⊢;rcases h with h|⟨b,cap,cur,e,fr,a0,ae,ag,aK,a3,bI,dc,c6,gy,jy,kf,nj⟩
   .exact .inl h
   .exact .inr ⟨b,cap,cur,e,fr,a0,ae,cf _ ag,aK,a3,bI,dc,c6,gy,bm.mono bt xs _ _ _ (λ_ h=>h) jy,λc ax=>cf _ (kf _ ax),nj⟩
 | .ref d,cs,S,_,cf,h=>by
   rw[aD]at h⊢;obtain⟨b,o,fm,ae,ag,aK,a3⟩:=h;exact⟨b,o,fm,ae,bt _ ag,aK,aD.mono bt d _ _ _ (λ_ h=>h) a3⟩
 | .aG d,cs,S,_,cf,h=>by
   rw[aD]at h⊢;obtain⟨b,cur,e,fr,a0,ae,ag,aK,a3,bI,dc,c6⟩:=h;exact⟨b,cur,e,fr,a0,ae,cf _ ag,aK,a3,aD.mono bt d _ _ _ (λ_ h=>h) bI,λc ax=>cf _ (dc _ ax),c6⟩
 | .agg aH,cs,S,_,cf,h=>by rw[aD]at h⊢;exact bm.mono bt aH _ _ _ cf h
 | .tuple aH,cs,S,_,cf,h=>by rw[aD]at h⊢;exact bm.mono bt aH _ _ _ cf h
 | .fn _ caps,cs,S,_,cf,h=>by
   rw[aD]at h⊢;obtain⟨arr,ae,ag,aK⟩:=h;exact⟨arr,ae,ag,bm.mono bt caps _ _ _ (λ_ h=>h) aK⟩
 | .h _ _,_,_,_,_,h=>h
 | .aw _ _,_,_,_,_,h=>h
 | .ab _ _,_,_,_,_,h=>h
 | .eM _,_,_,_,cf,h=>ni.mono cf h
theorem bm.mono {w:World} {F b9:Nat->Prop} (bt:∀b,F b->b9 b):
  ∀(ds:arM) (cs:arK) (S a0:Nat->Prop),(∀b,S b->a0 b)->bm w F ds cs S->bm w b9 ds cs a0
 |[],_,_,_,_,h=>h
 |d::ds,cs,S,_,cf,h=>by
  rw[bm]at h⊢;obtain⟨b2,cc,cA,eo,ae,ag,aK,a3,bI,dc⟩:=h;exact⟨b2,cc,cA,eo,ae,aD.mono bt d _ _ _ (λ_ h=>h) ag,bm.mono bt ds _ _ _ (λ_ h=>h) aK,λb ab=>cf _ (a3 _ ab),λb ab=>cf _ (bI _ ab),dc⟩
end
mutual
theorem aD.length {w:World} {F:Nat->Prop}:∀(d:J) (cs:arK) (S:Nat->Prop),aD w F d cs S->cs.length=d.wd
 | .hole,cs,S,h=>by rw[aD]at h;obtain⟨v,_,rfl⟩:=h;rfl
 | .bool _,cs,S,h=>by rw[aD]at h;subst h;rfl
 | .fW,cs,S,h=>by rw[aD]at h;obtain⟨b,rfl⟩:=h;rfl
 | .int _ _,cs,S,h=>by rw[aD]at h;subst h;rfl
 | .str _,cs,S,h=>by rw[aD]at h;subst h;rfl
 | .eh,cs,S,h=>by rw[aD]at h;subst h;rfl
 | .au,cs,S,h=>by rw[aD]at h;subst h;rfl
 | .slice xs,cs,S,h=>by
   rw[aD]at h;rcases h with⟨_,a,c,rfl,_⟩|⟨b,o,cap,fm,sz,rfl,_⟩<;>rfl
 | .af sz xs,cs,S,h=>by
   rw[aD]at h;rcases h with⟨_,a,rfl⟩|⟨b,cap,cur,e,fr,a0,rfl,_⟩<;>rfl
 | .ref d,cs,S,h=>by rw[aD]at h;obtain⟨b,o,fm,rfl,_⟩:=h;rfl
 | .aG d,cs,S,h=>by rw[aD]at h;obtain⟨b,o,fm,_,_,rfl,_⟩:=h;rfl
 | .agg aH,cs,S,h=>by rw[aD]at h;exact bm.length aH _ _ h
 | .tuple aH,cs,S,h=>by rw[aD]at h;exact bm.length aH _ _ h
 | .fn _ _,cs,S,h=>by rw[aD]at h;obtain⟨arr,rfl,_⟩:=h;rfl
 | .h _ _,cs,S,h=>by rw[aD]at h;exact h.elim
 | .aw _ _,cs,S,h=>by rw[aD]at h;exact h.elim
 | .ab _ _,cs,S,h=>by rw[aD]at h;exact h.elim
 | .eM _,cs,S,h=>by rw[aD]at h;obtain⟨v,_,rfl⟩:=ni.one h;rfl
theorem bm.length {w:World} {F:Nat->Prop}:∀(ds:arM) (cs:arK) (S:Nat->Prop),bm w F ds cs S->cs.length=J.e1 ds
 |[],cs,S,h=>by rw[bm]at h;subst h;rfl
 |d::ds,cs,S,h=>by
  rw[bm]at h;obtain⟨b2,cc,cA,eo,rfl,ag,aK,_⟩:=h;rw[length_append,aD.length d _ _ ag,bm.length ds _ _ aK,J.e1]
end
mutual
def J.share:J->J
 | .af _ xs=>.slice (J.shares xs)
 | .aG d=>.ref d.share
 | .slice xs=>.slice (J.shares xs)
 | .ref d=>.ref d.share
 | .agg aH=>.agg (J.shares aH)
 | .tuple aH=>.tuple (J.shares aH)
 | .eM _=>.hole
 |d=>d
def J.shares:arM->arM
 |[]=>[]
 |d::ds=>d.share::J.shares ds
end
theorem J.uG (ds:arM):J.shares ds=ds.map J.share:=by
 induction ds with
 |nil=>rfl
 |cons d ds ih=>simp[J.shares,ih]
mutual
theorem J.Ej:∀d:J,d.share.wd=d.wd
 | .hole=>rfl
 | .bool _=>rfl
 | .fW=>rfl
 | .int _ _=>rfl
 | .str _=>rfl
 | .eh=>rfl
 | .au=>rfl
 | .slice _=>rfl
 | .af _ _=>rfl
 | .ref _=>rfl
 | .aG _=>rfl
 | .agg aH=>by simp only[J.share,J.wd];exact J.It aH
 | .tuple aH=>by simp only[J.share,J.wd];exact J.It aH
 | .fn _ _=>rfl
 | .h _ _=>rfl
 | .aw _ _=>rfl
 | .ab _ _=>rfl
 | .eM _=>rfl
theorem J.It:∀ds:arM,J.e1 (J.shares ds)=J.e1 ds
 |[]=>rfl
 |d::ds=>by simp only[J.shares,J.e1];rw[J.Ej d,J.It ds]
end
theorem x_ {w:World} {b:Nat} {cur:Array Value} {e:TypeId} {fr:Nat×Nat} (h:w.heap[b]? =some (.cells cur e fr)) (n:Nat):iV w b 0 (cur.toList.take n):=by
 intro j c ax;rw[getElem?_take]at ax;split at ax
 .simp[World.cell?,h];simpa using ax
 .cases ax
mutual
theorem aD.shared {w:World} {F b9:Nat->Prop} (bt:∀b,F b->b9 b):
  ∀(d:J) (cs:arK) (S:Nat->Prop),(∀b,S b->b9 b)->aD w F d cs S->aD w b9 d.share cs (λ_=>False)
 | .hole,_,_,_,h=>h
 | .bool _,_,_,_,h=>h
 | .fW,_,_,_,h=>h
 | .int _ _,_,_,_,h=>h
 | .str _,_,_,_,h=>h
 | .eh,_,_,_,h=>h
 | .au,_,_,_,h=>h
 | .slice xs,cs,S,cf,h=>by
   rw[J.share,aD];rw[aD]at h;rcases h with⟨rfl,a,c,rfl,ax⟩|⟨b,o,cap,fm,sz,ae,ag,aK,a3,bI,dc,c6⟩
   .exact .inl ⟨rfl,a,c,rfl,ax⟩
   .refine .inr ⟨b,o,cap,fm,sz,?_,bt _ ag,?_,a3,?_,dc,bm.shared bt xs _ _ (λ_ h=>h.elim) c6⟩
    .simpa [J.uG]using ae
    .simpa [J.uG]using aK
    .intro d ak;rw[J.uG]at ak;obtain⟨bE,iu,rfl⟩:=mem_map.1 ak;rw[J.Ej];exact bI _ iu
 | .af sz xs,cs,S,cf,h=>by
   rw[J.share,aD];rw[aD]at h;rcases h with⟨rfl,a,rfl⟩|⟨b,cap,cur,e,fr,a0,ae,ag,aK,a3,bI,dc,c6,gy,jy,kf,nj⟩
   .exact .inl ⟨rfl,a,0,rfl,zero_le _,λ_=>rfl⟩
   .refine .inr ⟨b,0,cap,_,sz,?_,cf _ ag,?_,dc,?_,x_ aK _,bm.shared bt xs _ _ (λc ax=>cf _ (kf _ ax)) jy⟩
    .simpa [J.uG]using ae
    .simpa [J.uG]using bI
    .intro d ak;rw[J.uG]at ak;obtain⟨bE,iu,rfl⟩:=mem_map.1 ak;rw[J.Ej];exact gy _ iu
 | .ref d,cs,S,cf,h=>by
   rw[J.share,aD];rw[aD]at h;obtain⟨b,o,fm,ae,ag,aK,a3⟩:=h;exact⟨b,o,fm,ae,bt _ ag,aK,aD.shared bt d _ _ (λ_ h=>h.elim) a3⟩
 | .aG d,cs,S,cf,h=>by
   rw[J.share,aD];rw[aD]at h;obtain⟨b,cur,e,fr,a0,ae,ag,aK,a3,bI,dc,c6⟩:=h;refine⟨b,0,cur.toList,ae,cf _ ag,?_,aD.shared bt d _ _ (λc ax=>cf _ (dc _ ax)) bI⟩;have:=x_ aK cur.toList.length
   rwa [take_length]at this
 | .agg aH,cs,S,cf,h=>by rw[J.share,aD];rw[aD]at h;exact bm.shared bt aH _ _ cf h
 | .tuple aH,cs,S,cf,h=>by rw[J.share,aD];rw[aD]at h;exact bm.shared bt aH _ _ cf h
 | .fn f caps,cs,S,cf,h=>by
   show aD w b9 (.fn f caps) cs _;rw[aD]at h⊢;obtain⟨arr,ae,ag,aK⟩:=h;exact⟨arr,ae,ag,bm.mono bt caps _ _ _ (λ_ h=>h) aK⟩
 | .h _ _,_,_,_,h=>h
 | .aw _ _,_,_,_,h=>h
 | .ab _ _,_,_,_,h=>h
 | .eM _,cs,S,cf,h=>by rw[aD]at h;rw[J.share,aD];exact ni.one h
theorem bm.shared {w:World} {F b9:Nat->Prop} (bt:∀b,F b->b9 b):
  ∀(ds:arM) (cs:arK) (S:Nat->Prop),(∀b,S b->b9 b)->bm w F ds cs S->bm w b9 (J.shares ds) cs (λ_=>False)
 |[],_,_,_,h=>h
 |d::ds,cs,S,cf,h=>by
  simp only[J.shares];rw[bm]at h⊢;obtain⟨b2,cc,cA,eo,ae,ag,aK,a3,bI,dc⟩:=h;exact⟨b2,cc,_,_,ae,aD.shared bt d _ _ (λb ab=>cf _ (a3 _ ab)) ag,bm.shared bt ds _ _ (λb ab=>cf _ (bI _ ab)) aK,λ_ h=>h,λ_ h=>h,λ_ h=>h.elim⟩
end
def J.sub:arH->J->Option J
 |[],d=>some d
 |k::q,.agg aH=>match aH[k]? with
  |some d=>J.sub q d
  |none=>none
 |k::q,.tuple aH=>match aH[k]? with
  |some d=>J.sub q d
  |none=>none
 |i::q,.af _ xs=>match xs[i]? with
  |some d=>J.sub q d
  |none=>none
 |0::q,.aG d=>J.sub q d
 |_::_,_=>none
def J.put:arH->J->J->J
 |[],n,_=>n
 |k::q,n,.agg aH=>match aH[k]? with
  |some d=>.agg (aH.set k (J.put q n d))
  |none=>.agg aH
 |k::q,n,.tuple aH=>match aH[k]? with
  |some d=>.tuple (aH.set k (J.put q n d))
  |none=>.tuple aH
 |i::q,n,.af sz xs=>match xs[i]? with
  |some d=>.af sz (xs.set i (J.put q n d))
  |none=>.af sz xs
 |0::q,n,.aG d=>.aG (J.put q n d)
 |_::_,_,d=>d
def pb (w:World) (b o n:Nat):arK:=(range n).map λj=>(w.cell? ⟨b,o+j,none⟩).getD undef
theorem iV.pb {w:World} {b o:Nat} {cs:arK} (h:iV w b o cs):pb w b o cs.length=cs:=by
 unfold ek.pb;apply ext_getElem?;intro i;rw[getElem?_map];by_cases al:i<cs.length
 .have:cs[i]? =some cs[i]:=getElem?_eq_getElem al;simp[al,h i _ this]
 .simp[al]
def eb (w:World):arH->J->arK->Option (Nat×Nat)->Option (J×arK×Option (Nat×Nat))
 |[],d,cs,a=>some (d,cs,a)
 |k::q,.agg aH,cs,a=>match aH[k]? with
  |some d=>eb w q d ((cs.drop (J.e1 (aH.take k))).take d.wd) (a.map λl=>(l.1,l.2+J.e1 (aH.take k)))
  |none=>none
 |k::q,.tuple aH,cs,a=>match aH[k]? with
  |some d=>eb w q d ((cs.drop (J.e1 (aH.take k))).take d.wd) (a.map λl=>(l.1,l.2+J.e1 (aH.take k)))
  |none=>none
 |i::q,.af sz xs,cs,_=>match xs[i]?,cs with
  |some d,[.slice (some ⟨b,_,_⟩) _ _]=>eb w q d (pb w b (i*sz) sz) (some (b,i*sz))
  |_,_=>none
 |0::q,.aG d,cs,_=>match cs with
  |[.pointer (some ⟨b,_,_⟩)]=>eb w q d (pb w b 0 d.wd) (some (b,0))
  |_=>none
 |_::_,_,_,_=>none
theorem v7 (b2 gV cc:arK) (n m:Nat) (ae:b2.length=n) (ag:gV.length=m):((b2++(gV++cc)).drop n).take m=gV:=by
 rw[drop_left' ae,take_left' ag]
theorem bm.pick {w:World} {F:Nat->Prop}:∀(ds:arM) (cs:arK) (S:Nat->Prop) (k:Nat) (d:J),
  bm w F ds cs S->ds[k]? =some d->∃(b2 gV cc:arK) (cA iW:Nat->Prop),cs=b2++(gV++cc)/\b2.length=J.e1 (ds.take k)/\
   (∀b,cA b->S b)/\(∀b,iW b->S b)/\(∀b,cA b->¬iW b)/\aD w F d gV iW/\
   ∀(aQ:World) (bE:J) (v8:arK) (a0:Nat->Prop),(∀b,F b->aQ.heap[b]? =w.heap[b]?)->(∀b,cA b->aQ.heap[b]? =w.heap[b]?)->
    aD aQ F bE v8 a0->(∀b,a0 b->¬cA b)->bm aQ F (ds.set k bE) (b2++(v8++cc)) (λb=>cA b\/a0 b)
 |[],_,_,_,_,_,ao=>by simp at ao
 |x::ds,cs,S,0,d,h,ao=>by
  rw[bm]at h;obtain⟨b2,cc,iH,hW,rfl,ae,ag,b6,ab,jK⟩:=h;simp at ao;subst ao;refine⟨[],b2,cc,hW,iH,rfl,rfl,ab,b6,λb ab b6=>jK _ b6 ab,ae,?_⟩;intro aQ bE v8 a0 bt cf ak kg;simp only[set_cons_zero,nil_append];rw[bm];exact⟨v8,cc,a0,hW,rfl,ak,bm.frame bt _ _ _ cf ag,λb h=>.inr h,λb h=>.inl h,λb h=>kg b h⟩
 |x::ds,cs,S,k+1,d,h,ao=>by
  rw[bm]at h;obtain⟨pc,WW,iH,hW,rfl,ae,ag,b6,ab,jK⟩:=h;simp only[getElem?_cons_succ]at ao;have hl:=aD.length _ _ _ ae;obtain⟨b2,gV,cc,cA,iW,rfl,jZ,uF,qV,v5,AA,Iu⟩:=bm.pick ds WW hW k d ag ao;refine⟨pc++b2,gV,cc,λb=>iH b\/cA b,iW,by simp,by simp[J.e1,hl,jZ],?_,λb h=>ab _ (qV _ h),?_,AA,?_⟩
  .rintro b (h|h)
   .exact b6 _ h
   .exact ab _ (uF _ h)
  .rintro b (h|h) ao
   .exact jK _ h (qV _ ao)
   .exact v5 _ h ao
  .intro aQ bE v8 a0 bt cf ak kg;simp only[set_cons_succ];rw[bm];refine⟨pc,b2++(v8++cc),iH,λb=>cA b\/a0 b,by simp,aD.frame bt _ _ _ (λb ab=>cf b (.inl ab)) ae,
    Iu aQ bE v8 a0 bt (λb ab=>cf b (.inr ab)) ak (λb ab ax=>kg b ab (.inr ax)),λb h=>.inl (.inl h),?_,?_⟩
   .rintro b (h|h)
    .exact .inl (.inr h)
    .exact .inr h
   .rintro b h (bM|bM)
    .exact jK _ h (uF _ bM)
    .exact kg _ bM (.inl h)
theorem Iv:∀(aH:arM) (k:Nat) (x y:J),aH[k]? =some x->y.wd=x.wd->J.e1 (aH.set k y)=J.e1 aH:=by
 intro aH;induction aH with
 |nil=>intro k x y h;simp at h
 |cons a aH ih=>
  intro k x y h e;cases k with
  |zero=>simp at h;subst h;simp[J.e1,e]
  |succ k=>simp at h;simp[J.e1,ih k x y h e]
theorem v9 {sz:Nat}:∀(xs:arM),(∀d∈xs,d.wd=sz)->J.e1 xs=xs.length*sz
 |[],_=>by simp[J.e1]
 |x::xs,h=>by
  rw[J.e1,h x (by simp),v9 xs (λd ak=>h d (by simp[ak])),length_cons,Nat.add_mul,Nat.one_mul,Nat.add_comm]
theorem J.ya:∀(q:arH) (av d bE:J),J.sub q av=some d->bE.wd=d.wd->(J.put q bE av).wd=av.wd:=by
 intro q;induction q with
 |nil=>intro av d bE h e;simp[J.sub]at h;subst h;simpa [J.put]using e
 |cons k q ih=>
  intro av d bE h e;cases av with
  |agg aH=>
   simp only[J.sub]at h;split at h
   .rename_i x ay;simp only[J.put,ay,J.wd];exact Iv _ _ _ _ ay (ih _ _ _ h e)
   .cases h
  |tuple aH=>
   simp only[J.sub]at h;split at h
   .rename_i x ay;simp only[J.put,ay,J.wd];exact Iv _ _ _ _ ay (ih _ _ _ h e)
   .cases h
  |af sz xs=>
   simp only[J.sub]at h;split at h
   .rename_i x ay;simp only[J.put,ay,J.wd]
   .cases h
  |aG x=>
   cases k with
   |zero=>simp only[J.put,J.wd]
   |succ k=>simp[J.sub]at h
  |_=>simp[J.sub]at h
theorem Iw {sz:Nat} {xs:arM} {i:Nat} {y:J} (h:∀d∈xs,d.wd=sz) (bz:y.wd=sz):∀d∈xs.set i y,d.wd=sz:=by
 intro d ak;rcases mem_or_eq_of_mem_set ak with ak|rfl
 .exact h d ak
 .exact bz
theorem yb {w:World} {b:Nat} {cur:Array Value} {e:TypeId} {fr:Nat×Nat} (h:w.heap[b]? =some (.cells cur e fr)) {l m r:arK} (ax:cur.toList=l++(m++r)):
  pb w b l.length m.length=m:=by
 refine iV.pb (λj c bP=>?_);have e2:j<m.length:=(List.getElem?_eq_some_iff.1 bP).1;have:cur.toList[l.length+j]? =some c:=by
  rw[ax,getElem?_append_right (by omega),getElem?_append_left (by omega)];rw[<-bP];congr 1;omega
 simp[World.cell?,h];simpa using this
def Flat (w:World) (F:Nat->Prop) (q:arH) (av:J) (cs:arK) (a:Option (Nat×Nat)) (d:J) (df:arK) (dd:Option (Nat×Nat)) (fe:Nat->Prop):Prop:=
 ∃l r:arK,cs=l++(df++r)/\dd=a.map (λx=>(x.1,x.2+l.length))/\
  ∀(aQ:World) (bE:J) (gW:arK) (a0:Nat->Prop),(∀b,F b->aQ.heap[b]? =w.heap[b]?)->(∀b,fe b->aQ.heap[b]? =w.heap[b]?)->
   bE.wd=d.wd->aD aQ F bE gW a0->(∀b,a0 b->¬fe b)->aD aQ F (J.put q bE av) (l++(gW++r)) (λb=>fe b\/a0 b)
def Ix (w:World) (F:Nat->Prop) (q:arH) (av:J) (cs:arK) (d:J) (df:arK) (dd:Option (Nat×Nat)) (fe:Nat->Prop):Prop:=
 ∃(b:Nat) (cur:Array Value) (e:TypeId) (fr:Nat×Nat) (l r:arK),dd=some (b,l.length)/\fe b/\w.heap[b]? =some (.cells cur e fr)/\oy fr cur.size/\cur.toList=l++(df++r)/\
  ∀(aQ:World) (bE:J) (gW:arK) (a0:Nat->Prop),(∀b,F b->aQ.heap[b]? =w.heap[b]?)->(∀c,fe c->c≠b->aQ.heap[c]? =w.heap[c]?)->
   aQ.heap[b]? =some (.cells (l++(gW++r)).toArray e fr)->
   bE.wd=d.wd->aD aQ F bE gW a0->(∀b,a0 b->¬fe b)->aD aQ F (J.put q bE av) cs (λb=>fe b\/a0 b)
theorem ctx {w:World} {F:Nat->Prop}:∀(q:arH) (av:J) (cs:arK) (S:Nat->Prop) (a:Option (Nat×Nat)) (d:J),
  aD w F av cs S->J.sub q av=some d->∃(df:arK) (dd:Option (Nat×Nat)) (fe gq:Nat->Prop),eb w q av cs a=some (d,df,dd)/\
   (∀b,fe b->S b)/\(∀b,gq b->S b)/\(∀b,fe b->¬gq b)/\aD w F d df gq/\(Flat w F q av cs a d df dd fe\/Ix w F q av cs d df dd fe):=by
 intro q;induction q with
 |nil=>
  intro av cs S a d h ak;simp[J.sub]at ak;subst ak;refine⟨cs,a,λ_=>False,S,rfl,λ_ h=>h.elim,λ_ h=>h,λ_ h=>h.elim,h,.inl ⟨[],[],by simp,?_,?_⟩⟩
  .cases a<;>simp
  .intro aQ bE gW a0 _ _ hw iu _;simp only[J.put,nil_append,append_nil];exact aD.mono (λ_ h=>h) _ _ _ _ (λb h=>.inr h) iu
 |cons k q ih=>
  have fields:∀(mk:arM->J) (Iy:∀(w:World) (F:Nat->Prop) (aH:arM) (cs:arK) (S:Nat->Prop),aD w F (mk aH) cs S=bm w F aH cs S) (aH:arM) (cs:arK) (S:Nat->Prop) (a:Option (Nat×Nat)) (x d:J),
    (lv:∀bE,J.put (k::q) bE (mk aH)=mk (aH.set k (J.put q bE x)))->bm w F aH cs S->aH[k]? =some x->J.sub q x=some d->
    ∃(df:arK) (dd:Option (Nat×Nat)) (fe gq:Nat->Prop),eb w q x ((cs.drop (J.e1 (aH.take k))).take x.wd) (a.map λl=>(l.1,l.2+J.e1 (aH.take k)))=some (d,df,dd)/\
    (∀b,fe b->S b)/\(∀b,gq b->S b)/\(∀b,fe b->¬gq b)/\aD w F d df gq/\(Flat w F (k::q) (mk aH) cs a d df dd fe\/Ix w F (k::q) (mk aH) cs d df dd fe):=by
   intro mk Iy aH cs S a x d lv h ay ak;obtain⟨b2,gV,cc,cA,iW,rfl,iI,gr,hD,i7,gO,nQ⟩:=bm.pick aH cs S k x h ay;have hl:=aD.length _ _ _ gO;rw[v7 b2 gV cc _ _ iI hl];obtain⟨df,dd,fe,gq,fM,a2,bq,ck,eE,fP⟩:=ih x _ iW (a.map λl=>(l.1,l.2+J.e1 (aH.take k))) d gO ak;refine⟨df,dd,λb=>cA b\/fe b,gq,fM,?_,λb ab=>hD _ (bq _ ab),?_,eE,?_⟩
   .rintro b (h|h)
    .exact gr _ h
    .exact hD _ (a2 _ h)
   .rintro b (h|h) ak
    .exact i7 _ h (bq _ ak)
    .exact ck _ h ak
   .have gi:∀(b:Nat) (a0:Nat->Prop),(cA b\/fe b\/a0 b)->((cA b\/fe b)\/a0 b):=by
     rintro b a0 (ab|ab|ab)
     .exact .inl (.inl ab)
     .exact .inl (.inr ab)
     .exact .inr ab
    rcases fP with⟨l,r,rfl,a8,aY⟩|⟨b,cur,e,fr,l,r,aW,a8,aY,bT,cF,cj⟩
    .refine .inl ⟨b2++l,r++cc,by simp,?_,?_⟩
     .rw[a8,<-iI];cases a<;>simp[Nat.add_assoc]
     .intro aQ bE gW a0 bt cf hw iu kg;have dT:=aY aQ bE gW a0 bt (λb ab=>cf b (.inr ab)) hw iu (λb ab ax=>kg b ab (.inr ax));have bb:=nQ aQ _ _ _ bt (λb ab=>cf b (.inl ab)) dT (by
       rintro b (ab|ab) ae
       .exact i7 _ ae (a2 _ ab)
       .exact kg _ ab (.inl ae))
      rw[lv,Iy];have:=bm.mono (λ_ h=>h) _ _ _ _ (λb=>gi b a0) bb;simpa using this
    .refine .inr ⟨b,cur,e,fr,l,r,aW,.inr a8,aY,bT,cF,?_⟩;intro aQ bE gW a0 bt cf nR hw iu kg;have dT:=cj aQ bE gW a0 bt (λc ax=>cf c (.inr ax)) nR hw iu (λb ab ax=>kg b ab (.inr ax));have bb:=nQ aQ _ _ _ bt (λc ax=>cf c (.inl ax) (by rintro rfl;exact i7 _ ax (a2 _ a8))) dT (by
       rintro b (ab|ab) ae
       .exact i7 _ ae (a2 _ ab)
       .exact kg _ ab (.inl ae))
     rw[lv,Iy];exact bm.mono (λ_ h=>h) _ _ _ _ (λb=>gi b a0) bb
  intro av cs S a d h ak;cases av with
  |agg aH=>
   simp only[J.sub]at ak;split at ak
   .rename_i x ay;rw[aD]at h;have:=fields .agg (λ_ _ _ _ _=>by rw[aD]) aH cs S a x d (λbE=>by simp only[J.put,ay]) h ay ak;simpa only[eb,ay]using this
   .cases ak
  |tuple aH=>
   simp only[J.sub]at ak;split at ak
   .rename_i x ay;rw[aD]at h;have:=fields .tuple (λ_ _ _ _ _=>by rw[aD]) aH cs S a x d (λbE=>by simp only[J.put,ay]) h ay ak;simpa only[eb,ay]using this
   .cases ak
  |af sz xs=>
   simp only[J.sub]at ak;split at ak
   .rename_i x ay;rw[aD]at h;rcases h with⟨rfl,_,rfl⟩|⟨b,cap,cur,e,fr,eN,rfl,ag,aK,a3,bI,dc,c6,gy,jy,kf,nj⟩
    .simp at ay
    .obtain⟨b2,gV,cc,cA,iW,p,iI,gr,hD,i7,gO,nQ⟩:=bm.pick xs _ eN k x jy ay;have hl:=aD.length _ _ _ gO;have WX:k<xs.length:=(List.getElem?_eq_some_iff.1 ay).1;have AB:x.wd=sz:=gy x (mem_of_getElem? ay);have b_:J.e1 (xs.take k)=k*sz:=by
      rw[v9 _ (λd ak=>gy d (mem_of_mem_take ak))];rw[length_take,Nat.min_eq_left (by omega)]
     obtain⟨tj,mR⟩:∃tj,cur.toList=b2++(gV++(cc++tj)):=by
      refine⟨cur.toList.drop (xs.length*sz),?_⟩;have:=(take_append_drop (xs.length*sz) cur.toList).symm;rw[p]at this;simpa using this
     have k5:pb w b (k*sz) sz=gV:=by
      have:=yb aK mR
      rwa [iI,b_,hl,AB]at this
     obtain⟨df,dd,fe,gq,fM,a2,bq,ck,eE,fP⟩:=ih x _ iW (some (b,k*sz)) d gO ak;have lv:∀bE,J.put (k::q) bE (.af sz xs)= .af sz (xs.set k (J.put q bE x)):=λbE=>by simp only[J.put,ay]
     refine⟨df,dd,λc=>c=b\/cA c\/fe c,gq,?_,?_,λc ax=>kf _ (hD _ (bq _ ax)),?_,eE,.inr ?_⟩
     .simp only[eb,ay,k5];exact fM
     .rintro c (rfl|h|h)
      .exact ag
      .exact kf _ (gr _ h)
      .exact kf _ (hD _ (a2 _ h))
     .rintro c (rfl|h|h) ak
      .exact nj (hD _ (bq _ ak))
      .exact i7 _ h (bq _ ak)
      .exact ck _ h ak
     .have l1:∀bE,bE.wd=d.wd->(J.put q bE x).wd=sz:=λbE hw=>(J.ya q x d bE ak hw).trans AB;rcases fP with⟨l,r,rfl,a8,aY⟩|⟨gJ,Iz,fQ,IA,l,r,aW,a8,aY,bT,cF,cj⟩
      .refine⟨b,cur,e,fr,b2++l,r++(cc++tj),?_,.inl rfl,aK,a3.low,?_,?_⟩
       .rw[a8];simp[iI,b_]
       .rw[mR];simp
       .intro aQ bE gW a0 bt cf nR hw iu kg;have dT:=aY aQ bE gW a0 bt (λc ax=>cf c (.inr (.inr ax)) (by rintro rfl;exact nj (hD _ (a2 _ ax)))) hw iu (λb ab ax=>kg b ab (.inr (.inr ax)));have bb:=nQ aQ _ _ _ bt (λc ax=>cf c (.inr (.inl ax)) (by rintro rfl;exact nj (gr _ ax))) dT (by
         rintro b (ab|ab) ae
         .exact i7 _ ae (a2 _ ab)
         .exact kg _ ab (.inr (.inl ae)))
        have AD:=aD.length _ _ _ iu;have AE:=aD.length _ _ _ eE;rw[lv,aD];refine .inr ⟨b,cap,_,e,fr,λb=>cA b\/fe b\/a0 b,by simp,.inl (.inl rfl),nR,?_,by simpa using bI,dc,?_,Iw gy (l1 bE hw),?_,?_,?_⟩
        .have:(b2++l++(gW++(r++(cc++tj)))).toArray.size=cur.size:=by
          have:cur.size=cur.toList.length:=by simp
          rw[this,mR];simp[AD,AE,hw]
         rw[this];exact a3
        .rw[<-c6];have:cur.size=cur.toList.length:=by simp
         rw[this,mR];simp[AD,AE,hw]
        .have hlen:(b2++(l++(gW++r)++cc)).length=xs.length*sz:=by
          have:=congrArg length p;rw[length_take,Nat.min_eq_left (by simp[c6];exact mul_le_mul_right _ bI)]at this;rw[this];simp[AD,AE,hw]
         have:(b2++l++(gW++(r++(cc++tj))))=(b2++(l++(gW++r)++cc))++tj:=by simp
         rw[length_set];simp only[this];rw[take_left' hlen];exact bb
        .rintro c (h|h|h)
         .exact .inl (.inr (.inl h))
         .exact .inl (.inr (.inr h))
         .exact .inr h
        .rintro(h|h|h)
         .exact nj (gr _ h)
         .exact nj (hD _ (a2 _ h))
         .exact kg _ h (.inl rfl)
      .refine⟨gJ,Iz,fQ,IA,l,r,aW,.inr (.inr a8),aY,bT,cF,?_⟩;intro aQ bE gW a0 bt cf nR hw iu kg;have dT:=cj aQ bE gW a0 bt (λc ax ee=>cf c (.inr (.inr ax)) ee) nR hw iu (λb ab ax=>kg b ab (.inr (.inr ax)));have ee:∀c,cA c->c≠gJ:=by rintro c ax rfl;exact i7 _ ax (a2 _ a8)
       have bb:=nQ aQ _ _ _ bt (λc ax=>cf c (.inr (.inl ax)) (ee c ax)) dT (by
        rintro b (ab|ab) ae
        .exact i7 _ ae (a2 _ ab)
        .exact kg _ ab (.inr (.inl ae)))
       have IB:b≠gJ:=by rintro rfl;exact nj (hD _ (a2 _ a8))
       rw[lv,aD];refine .inr ⟨b,cap,cur,e,fr,λb=>cA b\/fe b\/a0 b,by simp,.inl (.inl rfl),(cf b (.inl rfl) IB).trans aK,a3,by simpa using bI,dc,c6,Iw gy (l1 bE hw),?_,?_,?_⟩
       .rw[length_set,p];exact bb
       .rintro c (h|h|h)
        .exact .inl (.inr (.inl h))
        .exact .inl (.inr (.inr h))
        .exact .inr h
       .rintro(h|h|h)
        .exact nj (gr _ h)
        .exact nj (hD _ (a2 _ h))
        .exact kg _ h (.inl rfl)
   .cases ak
  |aG x=>
   cases k with
   |succ k=>simp[J.sub]at ak
   |zero=>
    simp only[J.sub]at ak;rw[aD]at h;obtain⟨b,cur,e,fr,eN,rfl,ag,aK,a3,bI,dc,c6⟩:=h;have hl:=aD.length _ _ _ bI;have k5:pb w b 0 x.wd=cur.toList:=by
     have:=yb (l:=[]) (m:=cur.toList) (r:=[]) aK (by simp)
     rwa [hl]at this
    obtain⟨df,dd,fe,gq,fM,a2,bq,ck,eE,fP⟩:=ih x _ eN (some (b,0)) d bI ak;have lv:∀bE,J.put (0::q) bE (.aG x)= .aG (J.put q bE x):=λbE=>rfl;refine⟨df,dd,λc=>c=b\/fe c,gq,?_,?_,λc ax=>dc _ (bq _ ax),?_,eE,.inr ?_⟩
    .simp only[eb,k5];exact fM
    .rintro c (rfl|h)
     .exact ag
     .exact dc _ (a2 _ h)
    .rintro c (rfl|h) ak
     .exact c6 (bq _ ak)
     .exact ck _ h ak
    .rcases fP with⟨l,r,aW,a8,aY⟩|⟨gJ,Iz,fQ,IA,l,r,aW,a8,aY,bT,cF,cj⟩
     .refine⟨b,cur,e,fr,l,r,?_,.inl rfl,aK,a3,aW,?_⟩
      .rw[a8];simp
      .intro aQ bE gW a0 bt cf nR hw iu kg;have dT:=aY aQ bE gW a0 bt (λc ax=>cf c (.inr ax) (by rintro rfl;exact c6 (a2 _ ax))) hw iu (λb ab ax=>kg b ab (.inr ax));have AD:=aD.length _ _ _ iu;have AE:=aD.length _ _ _ eE;rw[lv,aD];refine⟨b,_,e,fr,λb=>fe b\/a0 b,rfl,.inl (.inl rfl),nR,?_,dT,?_,?_⟩
       .have:(l++(gW++r)).toArray.size=cur.size:=by
         have:cur.size=cur.toList.length:=by simp
         rw[this,aW];simp[AD,AE,hw]
        rw[this];exact a3
       .rintro c (h|h)
        .exact .inl (.inr h)
        .exact .inr h
       .rintro(h|h)
        .exact c6 (a2 _ h)
        .exact kg _ h (.inl rfl)
     .refine⟨gJ,Iz,fQ,IA,l,r,aW,.inr a8,aY,bT,cF,?_⟩;intro aQ bE gW a0 bt cf nR hw iu kg;have dT:=cj aQ bE gW a0 bt (λc ax ee=>cf c (.inr ax) ee) nR hw iu (λb ab ax=>kg b ab (.inr ax));have IB:b≠gJ:=by rintro rfl;exact c6 (a2 _ a8)
      rw[lv,aD];refine⟨b,cur,e,fr,λb=>fe b\/a0 b,rfl,.inl (.inl rfl),(cf b (.inl rfl) IB).trans aK,a3,dT,?_,?_⟩
      .rintro c (h|h)
       .exact .inl (.inr h)
       .exact .inr h
      .rintro(h|h)
       .exact c6 (a2 _ h)
       .exact kg _ h (.inl rfl)
  |_=>simp[J.sub]at ak
mutual
def J.plain:J->Bool
 | .af _ _=>false
 | .aG _=>false
 | .eM _=>false
 | .agg aH=>J.eu aH
 | .tuple aH=>J.eu aH
 |_=>true
def J.eu:arM->Bool
 |[]=>true
 |d::ds=>d.plain&&J.eu ds
end
mutual
def J.dS:J->J
 | .af _ _=>.hole
 | .aG _=>.hole
 | .eM _=>.hole
 | .agg aH=>.agg (J.mS aH)
 | .tuple aH=>.tuple (J.mS aH)
 |d=>d
def J.mS:arM->arM
 |[]=>[]
 |d::ds=>d.dS::J.mS ds
end
mutual
theorem J.uH:∀d:J,d.dS.wd=d.wd
 | .hole=>rfl
 | .bool _=>rfl
 | .fW=>rfl
 | .int _ _=>rfl
 | .str _=>rfl
 | .eh=>rfl
 | .au=>rfl
 | .slice _=>rfl
 | .af _ _=>rfl
 | .ref _=>rfl
 | .aG _=>rfl
 | .agg aH=>by simp only[J.dS,J.wd];exact J.IC aH
 | .tuple aH=>by simp only[J.dS,J.wd];exact J.IC aH
 | .fn _ _=>rfl
 | .h _ _=>rfl
 | .aw _ _=>rfl
 | .ab _ _=>rfl
 | .eM _=>rfl
theorem J.IC:∀ds:arM,J.e1 (J.mS ds)=J.e1 ds
 |[]=>rfl
 |d::ds=>by simp only[J.mS,J.e1];rw[J.uH d,J.IC ds]
end
mutual
theorem aD.dS {w:World} {F:Nat->Prop}:∀(d:J) (cs:arK) (S a0:Nat->Prop),aD w F d cs S->aD w F d.dS cs a0
 | .hole,_,_,_,h=>h
 | .bool _,_,_,_,h=>h
 | .fW,_,_,_,h=>h
 | .int _ _,_,_,_,h=>h
 | .str _,_,_,_,h=>h
 | .eh,_,_,_,h=>h
 | .au,_,_,_,h=>h
 | .slice xs,cs,S,a0,h=>by
   show aD w F (.slice xs) cs a0;rw[aD]at h⊢;exact h
 | .af sz xs,cs,S,a0,h=>by
   rw[J.dS,aD];rw[aD]at h;rcases h with⟨_,_,rfl⟩|⟨b,cap,cur,e,fr,eN,rfl,_⟩
   .exact⟨_,rfl,rfl⟩
   .exact⟨_,rfl,rfl⟩
 | .ref d,cs,S,a0,h=>by
   show aD w F (.ref d) cs a0;rw[aD]at h⊢;exact h
 | .aG d,cs,S,a0,h=>by
   rw[J.dS,aD];rw[aD]at h;obtain⟨b,cur,e,fr,eN,rfl,_⟩:=h;exact⟨_,rfl,rfl⟩
 | .agg aH,cs,S,a0,h=>by rw[J.dS,aD];rw[aD]at h;exact bm.dS aH _ _ _ h
 | .tuple aH,cs,S,a0,h=>by rw[J.dS,aD];rw[aD]at h;exact bm.dS aH _ _ _ h
 | .fn _ _,_,_,_,h=>h
 | .h _ _,_,_,_,h=>h
 | .aw _ _,_,_,_,h=>h
 | .ab _ _,_,_,_,h=>h
 | .eM _,_,_,_,h=>by rw[aD]at h;rw[J.dS,aD];exact ni.one h
theorem bm.dS {w:World} {F:Nat->Prop}:∀(ds:arM) (cs:arK) (S a0:Nat->Prop),bm w F ds cs S->bm w F (J.mS ds) cs a0
 |[],_,_,_,h=>h
 |d::ds,cs,S,a0,h=>by
  rw[J.mS,bm];rw[bm]at h;obtain⟨b2,cc,cA,eo,ae,ag,aK,a3,bI,dc⟩:=h;exact⟨b2,cc,λ_=>False,λ_=>False,ae,aD.dS d _ _ _ ag,bm.dS ds _ _ _ aK,λ_ h=>h.elim,λ_ h=>h.elim,λ_ h=>h.elim⟩
end
mutual
theorem aD.plain {w:World} {F:Nat->Prop}:∀(d:J) (cs:arK) (S a0:Nat->Prop),d.plain=true->aD w F d cs S->aD w F d cs a0
 | .hole,_,_,_,_,h=>h
 | .bool _,_,_,_,_,h=>h
 | .fW,_,_,_,_,h=>h
 | .int _ _,_,_,_,_,h=>h
 | .str _,_,_,_,_,h=>h
 | .eh,_,_,_,_,h=>h
 | .au,_,_,_,_,h=>h
 | .slice xs,cs,S,a0,_,h=>by rw[aD]at h⊢;exact h
 | .af sz xs,cs,S,a0,aw,h=>by simp[J.plain]at aw
 | .ref d,cs,S,a0,_,h=>by rw[aD]at h⊢;exact h
 | .aG d,cs,S,a0,aw,h=>by simp[J.plain]at aw
 | .agg aH,cs,S,a0,aw,h=>by rw[aD]at h⊢;exact bm.plain aH _ _ _ aw h
 | .tuple aH,cs,S,a0,aw,h=>by rw[aD]at h⊢;exact bm.plain aH _ _ _ aw h
 | .fn _ _,_,_,_,_,h=>h
 | .h _ _,_,_,_,_,h=>h
 | .aw _ _,_,_,_,_,h=>h
 | .ab _ _,_,_,_,_,h=>h
 | .eM _,_,_,_,aw,_=>by simp[J.plain]at aw
theorem bm.plain {w:World} {F:Nat->Prop}:∀(ds:arM) (cs:arK) (S a0:Nat->Prop),J.eu ds=true->bm w F ds cs S->bm w F ds cs a0
 |[],_,_,_,_,h=>h
 |d::ds,cs,S,a0,aw,h=>by
  rw[bm]at h⊢;simp only[J.eu,Bool.and_eq_true]at aw;obtain⟨b2,cc,cA,eo,ae,ag,aK,a3,bI,dc⟩:=h;exact⟨b2,cc,λ_=>False,λ_=>False,ae,aD.plain d _ _ _ aw.1 ag,bm.plain ds _ _ _ aw.2 aK,λ_ h=>h.elim,λ_ h=>h.elim,λ_ h=>h.elim⟩
end
def J.gD:arH->J->Bool
 |[],_=>false
 |k::q,.agg aH=>match aH[k]? with
  |some d=>J.gD q d
  |none=>false
 |k::q,.tuple aH=>match aH[k]? with
  |some d=>J.gD q d
  |none=>false
 |_::_,.af _ _=>true
 |_::_,.aG _=>true
 |_::_,_=>false
theorem Ek {aH:arM} (h:J.eu aH=true) {k:Nat} {d:J} (ao:aH[k]? =some d):d.plain=true:=by
 induction aH generalizing k with
 |nil=>simp at ao
 |cons a aH ih=>
  simp only[J.eu,Bool.and_eq_true]at h;cases k with
  |zero=>simp at ao;subst ao;exact h.1
  |succ k=>simp at ao;exact ih h.2 ao
theorem J.PE:∀(q:arH) (d:J),d.plain=true->J.gD q d=false:=by
 intro q;induction q with
 |nil=>intros;rfl
 |cons k q ih=>
  intro d ak;cases d<;>first|rfl|(simp[J.plain]at ak;done)|skip
  all_goals
   simp only[J.gD];split
   .rename_i aH x ay;exact ih _ (Ek (by simpa [J.plain]using ak) ay)
   .rfl
theorem J.ID:∀(q:arH) (d e:J),d.plain=true->J.sub q d=some e->e.plain=true:=by
 intro q;induction q with
 |nil=>intro d e ak h;simp[J.sub]at h;exact h▸ak
 |cons k q ih=>
  intro d e ak h;cases d<;>first|(simp[J.plain]at ak;done)|(simp[J.sub]at h;done)|skip
  all_goals
   simp only[J.sub]at h;split at h
   .rename_i aH x ay;exact ih _ _ (Ek (by simpa [J.plain]using ak) ay) h
   .cases h
theorem El {w aQ:World} {F:Nat->Prop}:∀(q:arH) (av:J) (cs:arK) (S:Nat->Prop) (a:Option (Nat×Nat)) (d:J),
  aD w F av cs S->J.sub q av=some d->(∀b,S b->aQ.heap[b]? =w.heap[b]?)->eb aQ q av cs a=eb w q av cs a:=by
 intro q;induction q with
 |nil=>intros;rfl
 |cons k q ih=>
  have fields:∀(aH:arM) (cs:arK) (S:Nat->Prop) (a:Option (Nat×Nat)) (x d:J),bm w F aH cs S->aH[k]? =some x->J.sub q x=some d->
    (∀b,S b->aQ.heap[b]? =w.heap[b]?)->
    eb aQ q x ((cs.drop (J.e1 (aH.take k))).take x.wd) (a.map λl=>(l.1,l.2+J.e1 (aH.take k)))=eb w q x ((cs.drop (J.e1 (aH.take k))).take x.wd) (a.map λl=>(l.1,l.2+J.e1 (aH.take k))):=by
   intro aH cs S a x d h ay ak cf;obtain⟨b2,gV,cc,cA,iW,rfl,iI,gr,hD,i7,gO,nQ⟩:=bm.pick aH cs S k x h ay;rw[v7 b2 gV cc _ _ iI (aD.length _ _ _ gO)];exact ih x gV iW _ d gO ak (λb ab=>cf b (hD _ ab))
  intro av cs S a d h ak cf;cases av with
  |agg aH=>
   simp only[J.sub]at ak;split at ak
   .rename_i x ay;rw[aD]at h;simp only[eb,ay];exact fields aH cs S a x d h ay ak cf
   .cases ak
  |tuple aH=>
   simp only[J.sub]at ak;split at ak
   .rename_i x ay;rw[aD]at h;simp only[eb,ay];exact fields aH cs S a x d h ay ak cf
   .cases ak
  |af sz xs=>
   simp only[J.sub]at ak;split at ak
   .rename_i x ay;rw[aD]at h;rcases h with⟨rfl,_,rfl⟩|⟨b,cap,cur,e,fr,eN,rfl,ag,aK,a3,bI,dc,c6,gy,jy,kf,nj⟩
    .simp at ay
    .obtain⟨b2,gV,cc,cA,iW,p,iI,gr,hD,i7,gO,nQ⟩:=bm.pick xs _ eN k x jy ay;have hl:=aD.length _ _ _ gO;have WX:k<xs.length:=(List.getElem?_eq_some_iff.1 ay).1;have AB:x.wd=sz:=gy x (mem_of_getElem? ay);have b_:J.e1 (xs.take k)=k*sz:=by
      rw[v9 _ (λd ak=>gy d (mem_of_mem_take ak))];rw[length_take,Nat.min_eq_left (by omega)]
     obtain⟨tj,mR⟩:∃tj,cur.toList=b2++(gV++(cc++tj)):=by
      refine⟨cur.toList.drop (xs.length*sz),?_⟩;have:=(take_append_drop (xs.length*sz) cur.toList).symm;rw[p]at this;simpa using this
     have k5:pb w b (k*sz) sz=gV:=by
      have:=yb aK mR
      rwa [iI,b_,hl,AB]at this
     have IE:pb aQ b (k*sz) sz=gV:=by
      have:=yb ((cf b ag).trans aK) mR
      rwa [iI,b_,hl,AB]at this
     simp only[eb,ay,k5,IE];exact ih x gV iW _ d gO ak (λc ax=>cf c (kf _ (hD _ ax)))
   .cases ak
  |aG x=>
   cases k with
   |succ k=>simp[J.sub]at ak
   |zero=>
    simp only[J.sub]at ak;rw[aD]at h;obtain⟨b,cur,e,fr,eN,rfl,ag,aK,a3,bI,dc,c6⟩:=h;have hl:=aD.length _ _ _ bI;have k5:pb w b 0 x.wd=cur.toList:=by
     have:=yb (l:=[]) (m:=cur.toList) (r:=[]) aK (by simp)
     rwa [hl]at this
    have IE:pb aQ b 0 x.wd=cur.toList:=by
     have:=yb (l:=[]) (m:=cur.toList) (r:=[]) ((cf b ag).trans aK) (by simp)
     rwa [hl]at this
    simp only[eb,k5,IE];exact ih x cur.toList eN _ d bI ak (λc ax=>cf c (dc _ ax))
  |_=>simp[J.sub]at ak
def jn:Value->arK
 | .agg cs=>cs.toList
 |v=>[v]
def cP:Value->arK
 | .tuple vs=>vs.toList.flatMap jn
 |v=>jn v
def jo:J->Value->Prop
 | .agg _,v=>∃arr,v= .agg arr
 |_,v=>Value.hp v=true
def eO:J->Value->Prop
 | .tuple ds,v=>∃arr:Array Value,v= .tuple arr/\arr.size=ds.length/\∀(k:Nat) (d:J) (x:Value),ds[k]? =some d->arr[k]? =some x->jo d x/\(∀vs,d≠.tuple vs)/\(jn x).length=d.wd
 |d,v=>jo d v
abbrev az:=Nat->J
mutual
def aU (w:World) (F:Nat->Prop) (s:az) (aJ:Nat->Value):J->Value->(Nat->Prop)->Prop
 | .hole,_,_=>True
 | .h x q,v,_=>∀d,J.sub q (s x)=some d->d.plain=false->∃df a,eb w q (s x) (cP (aJ x)) none=some (d,df,a)/\cP v=df/\eO d v
 | .aw x q,v,_=>∀d,J.sub q (s x)=some d->J.gD q (s x)=true->∃df b o,eb w q (s x) (cP (aJ x)) none=some (d,df,some (b,o))/\v= .pointer (some ⟨b,o,none⟩)
 | .ab x k,v,_=>(s x).plain=false->∃b cur e fr,v= .pointer (some ⟨b,k,none⟩)/\F b/\w.heap[b]? =some (.cells cur e fr)/\cur.toList=cP (aJ x)
 | .fn f cap,v,_=>∃arr:Array Value,v= .func (.func f) #[] arr/\e3 w F s aJ cap arr.toList
 | .bool b,v,S=>eO (.bool b) v/\aD w F (.bool b) (cP v) S
 | .fW,v,S=>eO .fW v/\aD w F .fW (cP v) S
 | .int k n,v,S=>eO (.int k n) v/\aD w F (.int k n) (cP v) S
 | .str x,v,S=>eO (.str x) v/\aD w F (.str x) (cP v) S
 | .eh,v,S=>eO .eh v/\aD w F .eh (cP v) S
 | .au,v,S=>eO .au v/\aD w F .au (cP v) S
 | .slice xs,v,S=>eO (.slice xs) v/\aD w F (.slice xs) (cP v) S
 | .af sz xs,v,S=>eO (.af sz xs) v/\aD w F (.af sz xs) (cP v) S
 | .ref d,v,S=>eO (.ref d) v/\aD w F (.ref d) (cP v) S
 | .aG d,v,S=>eO (.aG d) v/\aD w F (.aG d) (cP v) S
 | .agg d,v,S=>eO (.agg d) v/\aD w F (.agg d) (cP v) S
 | .tuple d,v,S=>eO (.tuple d) v/\aD w F (.tuple d) (cP v) S
 | .eM o,v,S=>eO (.eM o) v/\aD w F (.eM o) (cP v) S
def e3 (w:World) (F:Nat->Prop) (s:az) (aJ:Nat->Value):arM->arK->Prop
 |[],vs=>vs=[]
 |d::ds,vs=>∃v kP,vs=v::kP/\aU w F s aJ d v (λ_=>False)/\e3 w F s aJ ds kP
end
def J.tree:J->Bool
 | .hole=>false
 | .h _ _=>false
 | .aw _ _=>false
 | .ab _ _=>false
 | .fn _ _=>false
 |_=>true
theorem aU.c_ {w:World} {F:Nat->Prop} {s:az} {aJ:Nat->Value} {d:J} {v:Value} {S:Nat->Prop} (bc:d.tree=true):
  aU w F s aJ d v S↔(eO d v/\aD w F d (cP v) S):=by
 cases d<;>first|(simp[J.tree]at bc;done)|rw[aU]
theorem iX {q:arH} {av d:J} (h:J.sub q av=some d) (aw:d.plain=false\/J.gD q av=true):av.tree=true:=by
 cases q with
 |nil=>
  simp[J.sub]at h;subst h;rcases aw with aw|aw
  .cases av<;>first|rfl|(simp[J.plain]at aw)
  .simp[J.gD]at aw
 |cons k q=>cases av<;>first|rfl|(simp[J.sub]at h)
theorem IF {d:J} (h:d.plain=false):d.tree=true:=iX (q:=[]) (by simp only[J.sub]) (.inl h)
theorem aU.frame {w aQ:World} {F b9:Nat->Prop} {s:az} {aJ:Nat->Value} {Sx:Nat->Nat->Prop} (bt:∀b,F b->aQ.heap[b]? =w.heap[b]?) (PF:∀b,F b->b9 b)
  (cf:∀x b,Sx x b->aQ.heap[b]? =w.heap[b]?) (p4:∀x,aU w F s aJ (s x) (aJ x) (Sx x)):
  ∀(d:J) (v:Value) (S:Nat->Prop),(∀b,S b->aQ.heap[b]? =w.heap[b]?)->aU w F s aJ d v S->aU aQ b9 s aJ d v S:=by
 have l3:∀(x:Nat) (q:arH) (d:J),J.sub q (s x)=some d->(d.plain=false\/J.gD q (s x)=true)->eb aQ q (s x) (cP (aJ x)) none=eb w q (s x) (cP (aJ x)) none:=by
  intro x q d ak aw;have bc:=iX ak aw;have:=p4 x;rw[aU.c_ bc]at this;exact El q _ _ (Sx x) none d this.2 ak (cf x)
 have WY:∀(d:J) (v:Value) (S:Nat->Prop),d.tree=true->(∀b,S b->aQ.heap[b]? =w.heap[b]?)->aU w F s aJ d v S->aU aQ b9 s aJ d v S:=by
  intro d v S bc v_ h;rw[aU.c_ bc]at h⊢;exact⟨h.1,aD.mono PF _ _ _ _ (λ_ h=>h) (aD.frame bt _ _ _ v_ h.2)⟩
 have step:∀n,(∀(d:J) (v:Value) (S:Nat->Prop),SizeOf.sizeOf d<=n->(∀b,S b->aQ.heap[b]? =w.heap[b]?)->aU w F s aJ d v S->aU aQ b9 s aJ d v S)/\
   (∀(ds:arM) (vs:arK),SizeOf.sizeOf ds<=n->e3 w F s aJ ds vs->e3 aQ b9 s aJ ds vs):=by
  intro n;induction n with
  |zero=>
   refine⟨λd v S ca=>?_,λds vs ca=>?_⟩
   .cases d<;>simp at ca<;>omega
   .cases ds<;>simp at ca<;>omega
  |succ n ih=>
   refine⟨λd v S ca v_ h=>?_,λds vs ca h=>?_⟩
   .cases d with
    |hole=>rw[aU];trivial
    |h x q=>
     rw[aU]at h⊢;intro d ak aw;rw[l3 x q d ak (.inl aw)];exact h d ak aw
    |aw x q=>
     rw[aU]at h⊢;intro d ak aw;rw[l3 x q d ak (.inr aw)];exact h d ak aw
    |ab x k=>
     rw[aU]at h⊢;intro aw;obtain⟨b,cur,e,fr,ae,ag,aK,a3⟩:=h aw;exact⟨b,cur,e,fr,ae,PF b ag,(bt b ag).trans aK,a3⟩
    |fn f cap=>
     rw[aU]at h⊢;obtain⟨arr,rfl,ax⟩:=h;exact⟨arr,rfl,ih.2 _ _ (by simp at ca;omega) ax⟩
    |_=>exact WY _ _ _ rfl v_ h
   .cases ds with
    |nil=>rw[e3]at h⊢;exact h
    |cons d ds=>
     rw[e3]at h⊢;obtain⟨v,kP,rfl,ae,ag⟩:=h;simp at ca;exact⟨v,kP,rfl,ih.1 _ _ _ (by omega) (λ_ h=>h.elim) ae,ih.2 _ _ (by omega) ag⟩
 intro d v S v_ h;exact(step (SizeOf.sizeOf d)).1 d v S (Nat.le_refl _) v_ h
mutual
def dg (x:Nat):J->J
 | .h y q=>if y=x then .hole else .h y q
 | .aw y q=>if y=x then .hole else .aw y q
 | .ab y k=>if y=x then .hole else .ab y k
 | .fn f cap=>.fn f (kh x cap)
 |d=>d
def kh (x:Nat):arM->arM
 |[]=>[]
 |d::ds=>dg x d::kh x ds
end
mutual
def cB (x:Nat):J->J
 | .h y q=>if y=x then(if q=[]then .h y q else .hole)else .h y q
 | .aw y q=>if y=x then .hole else .aw y q
 | .fn f cap=>.fn f (jL x cap)
 |d=>d
def jL (x:Nat):arM->arM
 |[]=>[]
 |d::ds=>cB x d::jL x ds
end
def dY {α:Type} (f:Nat->α) (t:Nat) (v:α):Nat->α:=λu=>if u=t then v else f u
def nk (t:Nat) (s:az):az:=λu=>dg t (s u)
def hq (t:Nat) (s:az):az:=λu=>cB t (s u)
theorem nm {α:Type} (f:Nat->α) (t:Nat) (v:α):dY f t v t=v:=by simp[dY]
theorem ki {α:Type} (f:Nat->α) {t u:Nat} (v:α) (h:u≠t):dY f t v u=f u:=by simp[dY,h]
theorem WZ {t:Nat} {d:J} (h:d.tree=true):dg t d=d:=by cases d<;>first|rfl|(simp[J.tree]at h)
theorem IG {t:Nat} {d:J} (h:d.tree=true):cB t d=d:=by cases d<;>first|rfl|(simp[J.tree]at h)
theorem W0 {t:Nat} {d:J} (h:(dg t d).tree=true):d.tree=true/\dg t d=d:=by
 cases d<;>first|exact⟨rfl,rfl⟩|(simp only[dg]at h;first|(split at h<;>simp[J.tree]at h)|simp[J.tree]at h)
theorem Em {t:Nat} {d:J} (h:(cB t d).tree=true):d.tree=true/\cB t d=d:=by
 cases d<;>first|exact⟨rfl,rfl⟩|(simp only[cB]at h;first|(split at h<;>(try split at h)<;>simp[J.tree]at h)|simp[J.tree]at h)
section
variable {w:World} {F:Nat->Prop} {s aI:az} {aJ lx:Nat->Value} {t:Nat}
theorem aU.dg (ia:∀x,x≠t->(aI x).tree=true->aI x=s x/\lx x=aJ x):∀(n:Nat),
  (∀(d:J) (v:Value) (S:Nat->Prop),SizeOf.sizeOf d<=n->aU w F s aJ d v S->aU w F aI lx (ek.dg t d) v S)/\
  (∀(ds:arM) (vs:arK),SizeOf.sizeOf ds<=n->e3 w F s aJ ds vs->e3 w F aI lx (kh t ds) vs):=by
 intro n;induction n with
 |zero=>
  refine⟨λd v S ca=>?_,λds vs ca=>?_⟩
  .cases d<;>simp at ca<;>omega
  .cases ds<;>simp at ca<;>omega
 |succ n ih=>
  refine⟨λd v S ca h=>?_,λds vs ca h=>?_⟩
  .cases d with
   |hole=>rw[ek.dg.eq_def];simp only;rw[aU];trivial
   |h x q=>
    simp only[ek.dg];split
    .rw[aU];trivial
    .rename_i ay;rw[aU]at h⊢;intro d ak aw;obtain⟨aW,a8⟩:=ia x ay (iX ak (.inl aw));rw[aW,a8];rw[aW]at ak;exact h d ak aw
   |aw x q=>
    simp only[ek.dg];split
    .rw[aU];trivial
    .rename_i ay;rw[aU]at h⊢;intro d ak aw;obtain⟨aW,a8⟩:=ia x ay (iX ak (.inr aw));rw[aW,a8];rw[aW]at ak aw;exact h d ak aw
   |ab x k=>
    simp only[ek.dg];split
    .rw[aU];trivial
    .rename_i ay;rw[aU]at h⊢;intro aw;obtain⟨aW,a8⟩:=ia x ay (IF aw);rw[a8];rw[aW]at aw;exact h aw
   |fn f cap=>
    simp only[ek.dg];rw[aU]at h⊢;obtain⟨arr,rfl,ax⟩:=h;exact⟨arr,rfl,ih.2 _ _ (by simp at ca;omega) ax⟩
   |_=>
    rw[WZ (by rfl)];exact(aU.c_ (by rfl)).2 ((aU.c_ (by rfl)).1 h)
  .cases ds with
   |nil=>rw[kh,e3];rw[e3]at h;exact h
   |cons d ds=>
    rw[kh,e3];rw[e3]at h;obtain⟨v,kP,rfl,ae,ag⟩:=h;simp at ca;exact⟨v,kP,rfl,ih.1 _ _ _ (by omega) ae,ih.2 _ _ (by omega) ag⟩
theorem aU.cB {aQ:World} (ia:∀x,x≠t->(aI x).tree=true->aI x=s x/\lx x=aJ x) (kj:lx t=aJ t) (nS:(aI t).plain=false->(s t).plain=false/\∀v,eO (s t) v->eO (aI t) v)
  (l3:∀x q d,x≠t->J.sub q (s x)=some d->(d.plain=false\/J.gD q (s x)=true)->eb aQ q (s x) (cP (aJ x)) none=eb w q (s x) (cP (aJ x)) none)
  (bt:∀b,F b->aQ.heap[b]? =w.heap[b]?):∀(n:Nat),
  (∀(d:J) (v:Value) (S:Nat->Prop),SizeOf.sizeOf d<=n->(∀b,S b->aQ.heap[b]? =w.heap[b]?)->aU w F s aJ d v S->aU aQ F aI lx (ek.cB t d) v S)/\
  (∀(ds:arM) (vs:arK),SizeOf.sizeOf ds<=n->e3 w F s aJ ds vs->e3 aQ F aI lx (jL t ds) vs):=by
 intro n;induction n with
 |zero=>
  refine⟨λd v S ca=>?_,λds vs ca=>?_⟩
  .cases d<;>simp at ca<;>omega
  .cases ds<;>simp at ca<;>omega
 |succ n ih=>
  refine⟨λd v S ca v_ h=>?_,λds vs ca h=>?_⟩
  .cases d with
   |hole=>rw[ek.cB.eq_def];simp only;rw[aU];trivial
   |h x q=>
    simp only[ek.cB];split
    .rename_i ay;subst ay;split
     .rename_i cl;subst cl;rw[aU]at h⊢;intro d ak aw;simp only[J.sub,some.injEq]at ak;subst ak;obtain⟨dT,bb⟩:=nS aw;obtain⟨df,a,a2,bq,ck⟩:=h (s x) rfl dT;simp only[eb,some.injEq,Prod.mk.injEq]at a2;obtain⟨-,a2,PG⟩:=a2;refine⟨cP (lx x),none,rfl,?_,bb _ ck⟩;rw[kj,bq,<-a2]
     .rw[aU];trivial
    .rename_i ay;rw[aU]at h⊢;intro d ak aw;obtain⟨aW,a8⟩:=ia x ay (iX ak (.inl aw));rw[aW,a8];rw[aW]at ak;rw[l3 x q d ay ak (.inl aw)];exact h d ak aw
   |aw x q=>
    simp only[ek.cB];split
    .rw[aU];trivial
    .rename_i ay;rw[aU]at h⊢;intro d ak aw;obtain⟨aW,a8⟩:=ia x ay (iX ak (.inr aw));rw[aW,a8];rw[aW]at ak aw;rw[l3 x q d ay ak (.inr aw)];exact h d ak aw
   |ab x k=>
    simp only[ek.cB];rw[aU]at h⊢;intro aw;by_cases ay:x=t
    .subst ay;obtain⟨b,cur,e,fr,ae,ag,aK,a3⟩:=h (nS aw).1;exact⟨b,cur,e,fr,ae,ag,(bt b ag).trans aK,by rw[kj];exact a3⟩
    .obtain⟨aW,a8⟩:=ia x ay (IF aw);rw[aW]at aw;obtain⟨b,cur,e,fr,ae,ag,aK,a3⟩:=h aw;exact⟨b,cur,e,fr,ae,ag,(bt b ag).trans aK,by rw[a8];exact a3⟩
   |fn f cap=>
    simp only[ek.cB];rw[aU]at h⊢;obtain⟨arr,rfl,ax⟩:=h;exact⟨arr,rfl,ih.2 _ _ (by simp at ca;omega) ax⟩
   |_=>
    rw[IG (by rfl)];have bM:=(aU.c_ (by rfl)).1 h;exact(aU.c_ (by rfl)).2 ⟨bM.1,aD.frame bt _ _ _ v_ bM.2⟩
  .cases ds with
   |nil=>rw[jL,e3];rw[e3]at h;exact h
   |cons d ds=>
    rw[jL,e3];rw[e3]at h;obtain⟨v,kP,rfl,ae,ag⟩:=h;simp at ca;exact⟨v,kP,rfl,ih.1 _ _ _ (by omega) (λ_ h=>h.elim) ae,ih.2 _ _ (by omega) ag⟩
theorem aU.void (ia:∀x,x≠t->(aI x).tree=true->aI x=s x/\lx x=aJ x) (qW:(aI t).plain=true):∀(n:Nat),
  (∀(d:J) (v:Value) (S:Nat->Prop),SizeOf.sizeOf d<=n->aU w F s aJ d v S->aU w F aI lx d v S)/\
  (∀(ds:arM) (vs:arK),SizeOf.sizeOf ds<=n->e3 w F s aJ ds vs->e3 w F aI lx ds vs):=by
 intro n;induction n with
 |zero=>
  refine⟨λd v S ca=>?_,λds vs ca=>?_⟩
  .cases d<;>simp at ca<;>omega
  .cases ds<;>simp at ca<;>omega
 |succ n ih=>
  refine⟨λd v S ca h=>?_,λds vs ca h=>?_⟩
  .cases d with
   |hole=>rw[aU];trivial
   |h x q=>
    rw[aU]at h⊢;intro d ak aw;by_cases ay:x=t
    .subst ay;rw[J.ID _ _ _ qW ak]at aw;cases aw
    .obtain⟨aW,a8⟩:=ia x ay (iX ak (.inl aw));rw[aW,a8];rw[aW]at ak;exact h d ak aw
   |aw x q=>
    rw[aU]at h⊢;intro d ak aw;by_cases ay:x=t
    .subst ay;rw[J.PE _ _ qW]at aw;cases aw
    .obtain⟨aW,a8⟩:=ia x ay (iX ak (.inr aw));rw[aW,a8];rw[aW]at ak aw;exact h d ak aw
   |ab x k=>
    rw[aU]at h⊢;intro aw;by_cases ay:x=t
    .subst ay;rw[qW]at aw;cases aw
    .obtain⟨aW,a8⟩:=ia x ay (IF aw);rw[a8];rw[aW]at aw;exact h aw
   |fn f cap=>
    rw[aU]at h⊢;obtain⟨arr,rfl,ax⟩:=h;exact⟨arr,rfl,ih.2 _ _ (by simp at ca;omega) ax⟩
   |_=>exact(aU.c_ (by rfl)).2 ((aU.c_ (by rfl)).1 h)
  .cases ds with
   |nil=>rw[e3];rw[e3]at h;exact h
   |cons d ds=>
    rw[e3];rw[e3]at h;obtain⟨v,kP,rfl,ae,ag⟩:=h;simp at ca;exact⟨v,kP,rfl,ih.1 _ _ _ (by omega) ae,ih.2 _ _ (by omega) ag⟩
end
def W1:Bool:=false
def Out (w w0:World):Prop:=w.output=w0.output/\(W1=true->w0.drawn<=w.drawn)
theorem Out.trans {a b c:World} (h:Out a b) (ag:Out b c):Out a c:=⟨Eq.trans h.1 ag.1,λd=>Nat.le_trans (ag.2 d) (h.2 d)⟩
theorem Out.refl (w:World):Out w w:=⟨rfl,λ_=>Nat.le_refl _⟩
def W2:List (Nat×(Obj->Prop)):=[]
def yc (w:World) (X:Nat->Prop):Prop:=∀p∈W2,p.1<w.heap.size/\¬X p.1/\∃o,w.heap[p.1]? =some o/\p.2 o
theorem yc.next {w aQ:World} {X Y:Nat->Prop} (h:yc w X) (ad:w.heap.size<=aQ.heap.size) (ab:∀b,b<w.heap.size->¬X b->aQ.heap[b]? =w.heap[b]?) (bz:∀b,Y b->X b\/w.heap.size<=b):yc aQ Y:=λp aw=>by
 obtain⟨ae,ag,o,aK,a3⟩:=h p aw;refine⟨Nat.lt_of_lt_of_le ae ad,λh=>?_,o,(ab _ ae ag).trans aK,a3⟩;rcases bz _ h with h|h
 .exact ag h
 .omega
structure b4 (w0:World) (F0 X F:Nat->Prop) (S:Nat->Nat->Prop) (s:az) (aJ:Nat->Value) (w:World):Prop where
 ib:∀b,F0 b->F b
 iz:∀b,F b->F0 b\/X b\/w0.heap.size<=b
 gE:∀b,F b->b<w.heap.size
 fH:∀t b,S t b->b<w.heap.size
 gP:∀t b,S t b->¬F b
 gu:∀t u b,t≠u->S t b->¬S u b
 eN:∀t b,S t b->X b\/w0.heap.size<=b
 ev:∀t,aU w F s aJ (s t) (aJ t) (S t)
 old:∀b,b<w0.heap.size->¬X b->w.heap[b]? =w0.heap[b]?
 size:w0.heap.size<=w.heap.size
 os:w.os=w0.os
 tape:w.tape=w0.tape
 output:Out w w0
 iA:yc w0 X
section
variable {w0 w aQ:World} {F0 X F:Nat->Prop} {S:Nat->Nat->Prop} {s:az} {aJ:Nat->Value}
theorem b4.grow (h:b4 w0 F0 X F S s aJ w) (ab:∀b,b<w.heap.size->aQ.heap[b]? =w.heap[b]?) (ad:w.heap.size<=aQ.heap.size)
  (ae:aQ.os=w.os) (ag:aQ.tape=w.tape) (aK:Out aQ w):b4 w0 F0 X F S s aJ aQ where
 ib:=h.ib
 iz:=h.iz
 gE:=λb bt=>Nat.lt_of_lt_of_le (h.gE b bt) ad
 fH:=λt b bt=>Nat.lt_of_lt_of_le (h.fH t b bt) ad
 gP:=h.gP
 gu:=h.gu
 eN:=h.eN
 ev:=λt=>aU.frame (Sx:=S) (λb bt=>ab b (h.gE b bt)) (λ_ h=>h) (λx b cf=>ab b (h.fH x b cf)) h.ev _ _ _ (λb cf=>ab b (h.fH t b cf)) (h.ev t)
 old:=λb e2 ly=>(ab b (Nat.lt_of_lt_of_le e2 h.size)).trans (h.old b e2 ly)
 size:=Nat.le_trans h.size ad
 os:=ae.trans h.os
 tape:=ag.trans h.tape
 output:=aK.trans h.output
 iA:=h.iA
def gX (S:Nat->Nat->Prop) (t:Nat) (Sn:Nat->Prop):Nat->Nat->Prop:=λu b=>if u=t then Sn b else S u b
theorem AF (S:Nat->Nat->Prop) (t:Nat) (Sn:Nat->Prop):gX S t Sn t=Sn:=by funext b;simp[gX]
theorem AG (S:Nat->Nat->Prop) {t u:Nat} (Sn:Nat->Prop) (h:u≠t):gX S t Sn u=S u:=by funext b;simp[gX,h]
theorem b4.yd (h:b4 w0 F0 X F S s aJ w) {t:Nat} {d:J} {v:Value} (aw:d.plain=true) (ak:aU w F s aJ d v (λ_=>False)):
  b4 w0 F0 X F (gX S t (λ_=>False)) (dY s t d) (dY aJ t v) w where
 ib:=h.ib
 iz:=h.iz
 gE:=h.gE
 fH:=λu b ab=>by simp only[gX]at ab;split at ab;exact ab.elim;exact h.fH u b ab
 gP:=λu b ab=>by simp only[gX]at ab;split at ab;exact ab.elim;exact h.gP u b ab
 gu:=λu x b ee ab ay=>by
  simp only[gX]at ab ay;split at ab
  .exact ab.elim
  .split at ay
   .exact ay.elim
   .exact h.gu u x b ee ab ay
 eN:=λu b ab=>by simp only[gX]at ab;split at ab;exact ab.elim;exact h.eN u b ab
 ev:=λu=>by
  have ia:∀x,x≠t->(dY s t d x).tree=true->dY s t d x=s x/\dY aJ t v x=aJ x:=λx ay _=>⟨ki _ _ ay,ki _ _ ay⟩
  have qW:(dY s t d t).plain=true:=by rw[nm];exact aw
  by_cases hu:u=t
  .subst hu;rw[nm,nm,AF];exact(aU.void ia qW _).1 _ _ _ (Nat.le_refl _) ak
  .rw[ki _ _ hu,ki _ _ hu,AG _ _ hu];exact(aU.void ia qW _).1 _ _ _ (Nat.le_refl _) (h.ev u)
 old:=h.old
 size:=h.size
 os:=h.os
 tape:=h.tape
 output:=h.output
 iA:=h.iA
theorem b4.PH (h:b4 w0 F0 X F S s aJ w) {t:Nat} {d:J} {v:Value} {Sn:Nat->Prop} (ak:d.tree=true) (ad:eO d v) (aE:aD w F d (cP v) Sn)
  (e2:∀b,Sn b->b<w.heap.size) (bt:∀b,Sn b->¬F b) (cf:∀u b,u≠t->Sn b->¬S u b) (a5:∀b,Sn b->X b\/w0.heap.size<=b):
  b4 w0 F0 X F (gX S t Sn) (dY (nk t s) t d) (dY aJ t v) w where
 ib:=h.ib
 iz:=h.iz
 gE:=h.gE
 fH:=λu b ab=>by simp only[gX]at ab;split at ab;exact e2 b ab;exact h.fH u b ab
 gP:=λu b ab=>by simp only[gX]at ab;split at ab;exact bt b ab;exact h.gP u b ab
 gu:=λu x b ee ab ay=>by
  simp only[gX]at ab ay;split at ab
  .rename_i hu;rw[if_neg (λe=>ee (hu.trans e.symm))]at ay;exact cf x b (λe=>ee (hu.trans e.symm)) ab ay
  .rename_i hu;split at ay
   .exact cf u b hu ay ab
   .exact h.gu u x b ee ab ay
 eN:=λu b ab=>by simp only[gX]at ab;split at ab;exact a5 b ab;exact h.eN u b ab
 ev:=λu=>by
  have ia:∀x,x≠t->(dY (nk t s) t d x).tree=true->dY (nk t s) t d x=s x/\dY aJ t v x=aJ x:=λx ay bc=>by
   rw[ki _ _ ay]at bc⊢;exact⟨(W0 bc).2,ki _ _ ay⟩
  by_cases hu:u=t
  .subst hu;rw[nm,nm,AF];exact(aU.c_ ak).2 ⟨ad,aE⟩
  .rw[ki _ _ hu,ki _ _ hu,AG _ _ hu];exact(aU.dg ia _).1 _ _ _ (Nat.le_refl _) (h.ev u)
 old:=h.old
 size:=h.size
 os:=h.os
 tape:=h.tape
 output:=h.output
 iA:=h.iA
theorem uI (k:Nat) (q:arH) (bE x:J):(∃aH gs,x= .agg aH/\J.put (k::q) bE x= .agg gs)\/(∃aH gs,x= .tuple aH/\J.put (k::q) bE x= .tuple gs)\/
  (∃sz xs c7,x= .af sz xs/\J.put (k::q) bE x= .af sz c7)\/(∃y z,x= .aG y/\J.put (k::q) bE x= .aG z)\/J.put (k::q) bE x=x:=by
 cases x with
 |agg aH=>simp only[J.put];split<;>exact .inl ⟨_,_,rfl,rfl⟩
 |tuple aH=>simp only[J.put];split<;>exact .inr (.inl ⟨_,_,rfl,rfl⟩)
 |af sz aH=>simp only[J.put];split<;>exact .inr (.inr (.inl ⟨_,_,_,rfl,rfl⟩))
 |aG y=>cases k<;>exact .inr (.inr (.inr (.inl ⟨_,_,rfl,rfl⟩)))
 |_=>exact .inr (.inr (.inr (.inr rfl)))
theorem PI {k:Nat} {q:arH} {bE x:J} {v:Value} (h:jo x v):jo (J.put (k::q) bE x) v:=by
 rcases uI k q bE x with⟨aH,gs,rfl,e⟩|⟨aH,gs,rfl,e⟩|⟨sz,xs,c7,rfl,e⟩|⟨y,z,rfl,e⟩|e<;>rw[e]<;>exact h
theorem PJ {k:Nat} {q:arH} {bE x:J} (h:∀vs,x≠.tuple vs):∀vs,J.put (k::q) bE x≠.tuple vs:=by
 rcases uI k q bE x with⟨aH,gs,rfl,e⟩|⟨aH,gs,rfl,e⟩|⟨sz,xs,c7,rfl,e⟩|⟨y,z,rfl,e⟩|e<;>rw[e]<;>first|exact h|(intro vs bM;cases bM;done)|exact(h _ rfl).elim
theorem AH {k:Nat} {q:arH} {d bE av:J} {v:Value} (h:eO av v) (ak:J.sub (k::q) av=some d) (ae:∀v,jo d v->jo bE v) (ag:(∀vs,d≠.tuple vs)->∀vs,bE≠.tuple vs) (aK:bE.wd=d.wd):
  eO (J.put (k::q) bE av) v:=by
 cases av with
 |tuple aH=>
  simp only[J.sub]at ak;split at ak
  .rename_i x ay;simp only[J.put,ay];simp only[eO]at h⊢;obtain⟨arr,rfl,ca,p4⟩:=h;refine⟨arr,rfl,by simpa using ca,λj e y he bz=>?_⟩;rw[getElem?_set]at he;split at he
   .rename_i wa;subst wa;split at he
    .simp only[some.injEq]at he;subst he;obtain⟨a2,bq,ck⟩:=p4 k x y ay bz;refine⟨?_,?_,ck.trans (J.ya q x d bE ak aK).symm⟩
     .cases q with
      |nil=>
       simp only[J.sub,some.injEq]at ak;subst ak;exact ae _ a2
      |cons cv q=>exact PI a2
     .cases q with
      |nil=>
       simp only[J.sub,some.injEq]at ak;subst ak;exact ag bq
      |cons cv q=>exact PJ bq
    .cases he
   .exact p4 j e y he bz
  .cases ak
 |agg aH=>simp only[J.put];split<;>exact h
 |af sz aH=>simp only[J.put];split<;>exact h
 |aG y=>cases k<;>exact h
 |_=>exact h
theorem IH {d:J} {v:Value} (h:jo d v):jo d.dS v:=by cases d<;>exact h
theorem PK {s:az} {x:Nat} {q:arH} {d:J} (ak:J.sub q (s x)=some d) (aw:d.plain=false):
  (dY (hq x s) x (J.put q d.dS (s x)) x).plain=false->(s x).plain=false/\∀v,eO (s x) v->eO (dY (hq x s) x (J.put q d.dS (s x)) x) v:=by
  rw[nm];intro ew;cases q with
  |nil=>
   exfalso;have:∀d:J,d.dS.plain=true:=by
    intro d;have key:∀n,(∀d:J,SizeOf.sizeOf d<=n->d.dS.plain=true)/\(∀ds:arM,SizeOf.sizeOf ds<=n->J.eu (J.mS ds)=true):=by
     intro n;induction n with
     |zero=>exact⟨λd ca=>by cases d<;>simp at ca<;>omega,λds ca=>by cases ds<;>simp at ca<;>omega⟩
     |succ n ih=>
      refine⟨λd ca=>?_,λds ca=>?_⟩
      .cases d with
       |agg aH=>simp only[J.dS,J.plain];exact ih.2 _ (by simp at ca;omega)
       |tuple aH=>simp only[J.dS,J.plain];exact ih.2 _ (by simp at ca;omega)
       |_=>rfl
      .cases ds with
       |nil=>rfl
       |cons d ds=>
        simp at ca;simp only[J.mS,J.eu,Bool.and_eq_true];exact⟨ih.1 _ (by omega),ih.2 _ (by omega)⟩
    exact(key _).1 d (Nat.le_refl _)
   simp only[J.put]at ew;rw[this]at ew;cases ew
  |cons k q=>
   refine⟨?_,λv aE=>AH aE ak (λv h=>IH h) (λh vs e=>?_) (J.uH d)⟩
   .cases bR:(s x).plain with
    |false=>rfl
    |true=>rw[J.ID _ _ _ bR ak]at aw;cases aw
   .cases d<;>first|(exact h _ rfl)|(simp[J.dS]at e)
theorem b4.take (h:b4 w0 F0 X F S s aJ w) {x:Nat} {q:arH} {d:J} (ak:J.sub q (s x)=some d) (aw:d.plain=false):
  ∃(Sn gq:Nat->Prop) (df:arK) (a:Option (Nat×Nat)),b4 w0 F0 X F (gX S x Sn) (dY (hq x s) x (J.put q d.dS (s x))) aJ w/\
   eb w q (s x) (cP (aJ x)) none=some (d,df,a)/\aD w F d df gq/\(∀b,gq b->S x b)/\(∀b,Sn b->S x b)/\(∀b,gq b->¬Sn b)/\
   (∀(bE:J) (v:Value) (a0:Nat->Prop),aU w F s aJ bE v a0->aU w F (dY (hq x s) x (J.put q d.dS (s x))) aJ (ek.cB x bE) v a0):=by
 have bc:=iX ak (.inl aw);have ay:=h.ev x;rw[aU.c_ bc]at ay;obtain⟨df,a,fe,gq,fM,a2,bq,ck,eE,fP⟩:=ctx q (s x) (cP (aJ x)) (S x) none d ay.2 ak;have lv:aD w F (J.put q d.dS (s x)) (cP (aJ x)) fe:=by
  have k6:aD w F d.dS df (λ_=>False):=aD.dS _ _ _ _ eE;have mq:∀b,(fe b\/False)->fe b:=λb h=>h.elim id False.elim;rcases fP with⟨l,r,aW,a8,aY⟩|⟨b,cur,e,fr,l,r,aW,a8,aY,bT,cF,cj⟩
  .have:=aY w _ df _ (λ_ _=>rfl) (λ_ _=>rfl) (J.uH d) k6 (λ_ h=>h.elim);rw[<-aW]at this;exact aD.mono (λ_ h=>h) _ _ _ _ mq this
  .have:=cj w _ df _ (λ_ _=>rfl) (λ_ _ _=>rfl) (by rw[aY,<-cF]) (J.uH d) k6 (λ_ h=>h.elim);exact aD.mono (λ_ h=>h) _ _ _ _ mq this
 have W3:eO (J.put q d.dS (s x)) (aJ x)/\(J.put q d.dS (s x)).tree=true\/J.put q d.dS (s x)= .hole:=by
  cases q with
  |nil=>
   simp only[J.sub,some.injEq]at ak;subst ak;simp only[J.put];cases ad:s x with
   |af sz xs=>right;rfl
   |aG y=>right;rfl
   |eM y=>right;rfl
   |agg aH=>left;rw[ad]at ay;exact⟨ay.1,rfl⟩
   |tuple aH=>
    left;rw[ad]at ay;refine⟨?_,rfl⟩;simp only[eO,J.dS]at ay⊢;obtain⟨arr,e,ca,p4⟩:=ay.1;have hl:∀aH:arM,J.mS aH=aH.map J.dS:=by
     intro aH;induction aH with
     |nil=>rfl
     |cons a aH ih=>simp[J.mS,ih]
    refine⟨arr,e,by rw[hl];simpa using ca,λk fQ y he bz=>?_⟩;rw[hl,getElem?_map]at he;cases ao:aH[k]? with
    |none=>rw[ao]at he;cases he
    |some z=>
     rw[ao]at he;simp only[map_some,some.injEq]at he;subst he;obtain⟨a2,bq,ck⟩:=p4 k z y ao bz;refine⟨IH a2,λvs e=>?_,ck.trans (J.uH z).symm⟩;cases z<;>first|(exact bq _ rfl)|(simp[J.dS]at e)
   |_=>rw[ad]at aw;simp[J.plain]at aw
  |cons k q=>
   left;refine⟨AH ay.1 ak (λv h=>IH h) (λh vs e=>?_) (J.uH d),?_⟩
   .cases d<;>first|(exact h _ rfl)|(simp[J.dS]at e)
   .rcases uI k q d.dS (s x)with⟨aH,gs,aW,e⟩|⟨aH,gs,aW,e⟩|⟨sz,xs,c7,aW,e⟩|⟨y,z,aW,e⟩|e<;>rw[e]<;>first|rfl|exact bc
 refine⟨fe,gq,df,a,?_,fM,eE,bq,a2,λb ae ag=>ck b ag ae,?_⟩
 rotate_left
 .have ia:∀y,y≠x->(dY (hq x s) x (J.put q d.dS (s x)) y).tree=true->dY (hq x s) x (J.put q d.dS (s x)) y=s y/\aJ y=aJ y:=λy bz bc=>by
   rw[ki _ _ bz]at bc⊢;exact⟨(Em bc).2,rfl⟩
  intro bE v a0 iu;exact(aU.cB ia rfl (PK ak aw) (λ_ _ _ _ _ _=>rfl) (λ_ _=>rfl) _).1 _ _ _ (Nat.le_refl _) (λ_ _=>rfl) iu
 have ia:∀y,y≠x->(dY (hq x s) x (J.put q d.dS (s x)) y).tree=true->dY (hq x s) x (J.put q d.dS (s x)) y=s y/\aJ y=aJ y:=λy bz bc=>by
  rw[ki _ _ bz]at bc⊢;exact⟨(Em bc).2,rfl⟩
 have nS:=PK (s:=s) (x:=x) ak aw;constructor;case ib=>exact h.ib
 case iz=>exact h.iz
 case gE=>exact h.gE
 case fH=>exact λu b ab=>by simp only[gX]at ab;split at ab;exact h.fH x b (a2 b ab);exact h.fH u b ab
 case gP=>exact λu b ab=>by simp only[gX]at ab;split at ab;exact h.gP x b (a2 b ab);exact h.gP u b ab
 case gu=>
  intro u y b ee ab bz;simp only[gX]at ab bz;split at ab
  .rename_i hu;rw[if_neg (λe=>ee (hu.trans e.symm))]at bz;exact h.gu x y b (λe=>ee (hu.trans e)) (a2 b ab) bz
  .rename_i hu;split at bz
   .exact h.gu u x b hu ab (a2 b bz)
   .exact h.gu u y b ee ab bz
 case eN=>exact λu b ab=>by simp only[gX]at ab;split at ab;exact h.eN x b (a2 b ab);exact h.eN u b ab
 case ev=>
  intro u;by_cases hu:u=x
  .subst hu;rw[nm,AF];rcases W3 with⟨aW,a8⟩|e
   .exact(aU.c_ a8).2 ⟨aW,lv⟩
   .rw[e,aU];trivial
  .rw[ki _ _ hu,AG _ _ hu];exact(aU.cB ia rfl nS (λ_ _ _ _ _ _=>rfl) (λ_ _=>rfl) _).1 _ _ _ (Nat.le_refl _) (λ_ _=>rfl) (h.ev u)
 case old=>exact h.old
 case size=>exact h.size
 case os=>exact h.os
 case tape=>exact h.tape
 case output=>exact h.output
 case iA=>exact h.iA
theorem b4.store (h:b4 w0 F0 X F S s aJ w) {x:Nat} {q:arH} {d bE:J} (ak:J.sub q (s x)=some d) (ax:J.gD q (s x)=true)
  {gW:arK} {Sn:Nat->Prop} (aE:aD w F bE gW Sn) (l1:bE.wd=d.wd)
  (e2:∀b,Sn b->b<w.heap.size) (bt:∀b,Sn b->¬F b) (cf:∀u b,Sn b->¬S u b) (a5:∀b,Sn b->X b\/w0.heap.size<=b):
  ∃(df:arK) (b:Nat) (l r:arK) (cur:Array Value) (e:TypeId) (fr:Nat×Nat),eb w q (s x) (cP (aJ x)) none=some (d,df,some (b,l.length))/\
   w.heap[b]? =some (.cells cur e fr)/\cur.toList=l++(df++r)/\oy fr cur.size/\
   ∀aQ,aQ.heap[b]? =some (.cells (l++(gW++r)).toArray e fr)->(∀c,c≠b->aQ.heap[c]? =w.heap[c]?)->aQ.heap.size=w.heap.size->aQ.os=w.os->aQ.tape=w.tape->Out aQ w->
    ∃a0,b4 w0 F0 X F a0 (dY (hq x s) x (J.put q bE (s x))) aJ aQ:=by
 have bc:=iX ak (.inr ax);have ay:=h.ev x;rw[aU.c_ bc]at ay;obtain⟨df,a,fe,gq,fM,a2,bq,ck,eE,fP⟩:=ctx q (s x) (cP (aJ x)) (S x) none d ay.2 ak;have W4:Ix w F q (s x) (cP (aJ x)) d df a fe:=by
  rcases fP with⟨l,r,aW,a8,aY⟩|fP
  .exfalso;have nn:∀(q:arH) (av:J) (cs:arK) (I:Option (Nat×Nat)) (d:J) (df:arK),J.gD q av=true->eb w q av cs I=some (d,df,none)->False:=by
    intro q;induction q with
    |nil=>intro av cs I d df ax;simp[J.gD]at ax
    |cons k q ih=>
     have PL:∀(q:arH) (av:J) (cs:arK) (l:Nat×Nat) (d:J) (df:arK),eb w q av cs (some l)=some (d,df,none)->False:=by
      intro q;induction q with
      |nil=>intro av cs l d df h;simp[eb]at h
      |cons k q pd=>
       intro av cs l d df h;cases av with
       |agg aH=>rw[eb]at h;split at h;exact pd _ _ _ _ _ h;cases h
       |tuple aH=>rw[eb]at h;split at h;exact pd _ _ _ _ _ h;cases h
       |af sz xs=>simp only[eb]at h;split at h;exact pd _ _ _ _ _ h;cases h
       |aG y=>
        cases k with
        |zero=>rw[eb.eq_def]at h;simp only at h;split at h;exact pd _ _ _ _ _ h;cases h
        |succ k=>rw[show eb w ((k+1)::q) (.aG y) cs (some l)=none from rfl]at h;cases h
       |_=>simp[eb]at h
     intro av cs I d df ax h;cases av with
     |agg aH=>
      simp only[J.gD]at ax;split at ax
      .rename_i y bz;simp only[eb,bz]at h;exact ih _ _ _ _ _ ax h
      .cases ax
     |tuple aH=>
      simp only[J.gD]at ax;split at ax
      .rename_i y bz;simp only[eb,bz]at h;exact ih _ _ _ _ _ ax h
      .cases ax
     |af sz xs=>simp only[eb]at h;split at h;exact PL _ _ _ _ _ _ h;cases h
     |aG y=>
      cases k with
      |zero=>rw[eb.eq_def]at h;simp only at h;split at h;exact PL _ _ _ _ _ _ h;cases h
      |succ k=>rw[show eb w ((k+1)::q) (.aG y) cs I=none from rfl]at h;cases h
     |_=>simp[J.gD]at ax
   simp only[map_none]at a8;subst a8;exact nn _ _ _ _ _ _ ax fM
  .exact fP
 obtain⟨b,cur,e,fr,l,r,rfl,a8,aY,bT,cF,cj⟩:=W4;refine⟨df,b,l,r,cur,e,fr,fM,aY,cF,bT,?_⟩;intro aQ nR p5 e4 II IJ wb;have wc:S x b:=a2 _ a8;have sc:∀c,F c->aQ.heap[c]? =w.heap[c]? :=λc ax=>p5 c (by rintro rfl;exact h.gP x _ wc ax);have apc:gW.length=df.length:=by rw[aD.length _ _ _ aE,aD.length _ _ _ eE,l1]
 have lv:=cj aQ bE gW Sn sc (λc _ ee=>p5 c ee) nR l1
  (aD.frame sc _ _ _ (λc ax=>p5 c (by rintro rfl;exact cf x _ ax wc)) aE) (λc ax mq=>cf x c ax (a2 _ mq))
 obtain⟨k,kz,rfl⟩:∃k kz,q=k::kz:=by
  cases q with
  |nil=>simp[J.gD]at ax
  |cons k q=>exact⟨k,q,rfl⟩
 have AJ:∀v,eO (s x) v->eO (J.put (k::kz) bE (s x)) v:=by
  intro v aE;rcases uI k kz bE (s x)with⟨aH,gs,aW,e⟩|⟨aH,gs,aW,e⟩|⟨sz,xs,c7,aW,e⟩|⟨y,z,aW,e⟩|e
  .rw[e];rw[aW]at aE;exact aE
  ·
   rw[aW]at aE ak ax⊢;simp only[J.gD]at ax;split at ax
   .rename_i y bz;simp only[J.put,bz];cases kz with
    |nil=>simp[J.gD]at ax
    |cons cv dh=>
     simp only[eO]at aE⊢;obtain⟨arr,rfl,ca,p4⟩:=aE;refine⟨arr,rfl,by simpa using ca,λj e l4 he we=>?_⟩;rw[getElem?_set]at he;split at he
     .rename_i wa;subst wa;split at he
      .simp only[some.injEq]at he;subst he;obtain⟨a2,bq,ck⟩:=p4 _ y l4 bz we;simp only[J.sub,bz]at ak;exact⟨PI a2,PJ bq,ck.trans (J.ya (cv::dh) y d bE ak l1).symm⟩
      .cases he
     .exact p4 j e l4 he we
   .cases ax
  .rw[e];rw[aW]at aE;exact aE
  .rw[e];rw[aW]at aE;exact aE
  .rw[e];exact aE
 have W5:(J.put (k::kz) bE (s x)).tree=true:=by
  rcases uI k kz bE (s x)with⟨aH,gs,aW,e⟩|⟨aH,gs,aW,e⟩|⟨sz,xs,c7,aW,e⟩|⟨y,z,aW,e⟩|e<;>rw[e]<;>first|rfl|exact bc
 let aI:=dY (hq x s) x (J.put (k::kz) bE (s x))
 have ia:∀y,y≠x->(aI y).tree=true->aI y=s y/\aJ y=aJ y:=λy bz bc=>by
  have e:aI y=cB x (s y):=ki _ _ bz;rw[e]at bc⊢;exact⟨(Em bc).2,rfl⟩
 have nS:(aI x).plain=false->(s x).plain=false/\∀v,eO (s x) v->eO (aI x) v:=by
  intro _;refine⟨?_,?_⟩
  .cases bR:(s x).plain with
   |false=>rfl
   |true=>rw[J.PE _ _ bR]at ax;cases ax
  .simp only[aI,nm];exact AJ
 refine⟨gX S x (λc=>fe c\/Sn c),?_⟩;constructor;case ib=>exact h.ib
 case iz=>exact h.iz
 case gE=>exact λb ab=>by rw[e4];exact h.gE b ab
 case fH=>
  intro u c ab;rw[e4];simp only[gX]at ab;split at ab
  .rcases ab with ab|ab
   .exact h.fH x c (a2 c ab)
   .exact e2 c ab
  .exact h.fH u c ab
 case gP=>
  intro u c ab;simp only[gX]at ab;split at ab
  .rcases ab with ab|ab
   .exact h.gP x c (a2 c ab)
   .exact bt c ab
  .exact h.gP u c ab
 case gu=>
  intro u y c ee ab bz;simp only[gX]at ab bz;split at ab
  .rename_i hu;rw[if_neg (λe=>ee (hu.trans e.symm))]at bz;rcases ab with ab|ab
   .exact h.gu x y c (λe=>ee (hu.trans e)) (a2 c ab) bz
   .exact cf y c ab bz
  .rename_i hu;split at bz
   .rcases bz with bz|bz
    .exact h.gu u x c hu ab (a2 c bz)
    .exact cf u c bz ab
   .exact h.gu u y c ee ab bz
 case eN=>
  intro u c ab;simp only[gX]at ab;split at ab
  .rcases ab with ab|ab
   .exact h.eN x c (a2 c ab)
   .exact a5 c ab
  .exact h.eN u c ab
 case ev=>
  intro u;by_cases hu:u=x
  .subst hu;rw[nm,AF];exact(aU.c_ W5).2 ⟨AJ _ ay.1,lv⟩
  .rw[ki _ _ hu,AG _ _ hu];have ee:∀y c,y≠x->S y c->aQ.heap[c]? =w.heap[c]? :=λy c bz ax=>p5 c (by rintro rfl;exact h.gu y x c bz ax wc);refine(aU.cB ia rfl nS (λy dh d2 bz i9 AK=>?_) sc _).1 _ _ _ (Nat.le_refl _) (λc ax=>ee u c hu ax) (h.ev u);have AL:=h.ev y;rw[aU.c_ (iX i9 AK)]at AL;exact El dh _ _ _ none d2 AL.2 i9 (λc ax=>ee y c bz ax)
 case old=>
  intro c e2 ly;by_cases ye:c=b
  .subst ye;exfalso;rcases h.eN x c wc with k6|k6
   .exact ly k6
   .omega
  .exact(p5 c ye).trans (h.old c e2 ly)
 case size=>rw[e4];exact h.size
 case os=>exact II.trans h.os
 case tape=>exact IJ.trans h.tape
 case output=>exact wb.trans h.output
 case iA=>exact h.iA
end
end Go.ek
