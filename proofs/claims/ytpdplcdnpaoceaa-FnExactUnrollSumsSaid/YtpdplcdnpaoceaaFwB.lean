/- Part of a proof that a law returns true for every input. No condition. -/
import Derived.Test.YtpdplcdnpaoceaaFwA
import Derived.Laws.AppendOwn
import Derived.Calls
namespace Go.cV
open List Option Go.IntKind Nat Or
inductive sY where
 |mp (es:Vi)
 |sZ
 |gx (T e:TypeId) (bc:Vj)
inductive j where
 |hole
 |bool (b:Bool)
 |dV
 |int (k:IntKind) (n:Int)
 |str (s:Vj)
 |cW
 |aK
 |slice (xs:List j)
 |aq (sz:Nat) (xs:List j)
 |ref (d:j)
 |aS (d:j)
 |agg (al:List j)
 |tuple (vs:List j)
 |fn (f:FuncId) (cap:List j)
 |h (x:Nat) (q:Vm)
 |ag (x:Nat) (q:Vm)
 |J (x:Nat) (k:Nat)
 |cY (o:sY)
 |br (f:FuncId) (cap:List j)
 deriving Inhabited
abbrev Vr:=List j
abbrev Vq:=List (Nat×j)
mutual
def j.wd:j->Nat
 | .agg al=>j.c0 al
 | .tuple al=>j.c0 al
 |_=>1
def j.c0:Vr->Nat
 |[]=>0
 |d::ds=>d.wd+j.c0 ds
end
def gh (w:World) (b o:Nat) (cs:Vp):Prop:=∀aD c,cs[aD]? =some c->w.cell? ⟨b,o+aD,none⟩=some c
def kn (fr:Nat×Nat) (n:Nat):Prop:=∀o,o<n->¬(fr.1<=o/\o<fr.2)
theorem kn.le {fr:Nat×Nat} {m n:Nat} (h:kn fr n) (hm:m<=n):kn fr m:=λo bk=>h o (Nat.lt_of_lt_of_le bk hm)
theorem kn.low {fr:Nat×Nat} {n k:Nat} (h:kn fr (n+k)):kn fr n:=h.le (le_add_right _ _)
def Value.et:Value->Bool
 | .agg _=>false
 | .tuple _=>false
 |_=>true
def j.single:j->Bool
 | .agg _=>false
 | .tuple _=>false
 | .hole=>false
 |_=>true
def j.one:j->Bool
 | .agg _=>false
 | .tuple _=>false
 |_=>true
def jz (w:World):sY->Vp->(Nat->Prop)->Prop
 | .mp es,cs,S=>∃r ms ko,cs=[.map (some r)]/\S r/\w.heap[r]? =some (.map ms ko)/\ms.toList.map (λe=>(e.key,e.val))=es.map (λe=>(.string ⟨⟨e.1⟩⟩,.bool e.2))
 | .sZ,cs,_=>cs=[.map none]
 | .gx T e bc,cs,S=>∃b a pW,cs=[.pointer (some ⟨b,0,none⟩)]/\S b/\w.heap[b]? =some (.cells #[a,pW] T (0,0))/\(a= .pointer none\/a= .pointer (some ⟨b,0,none⟩))/\
   ((bc=[]/\pW= .slice none 0 0)\/
     ∃g cap cur,pW= .slice (some ⟨g,0,none⟩) bc.length cap/\S g/\g≠b/\w.heap[g]? =some (.cells cur e (0,0))/\bc.length<=cap/\cap<=maxLen/\cur.size=cap/\
      cur.toList.take bc.length=bc.map λx=>.int .u8 x.toNat)
theorem jz.frame {w aw:World}:∀{o:sY} {cs:Vp} {S:Nat->Prop},(∀b,S b->aw.heap[b]? =w.heap[b]?)->jz w o cs S->jz aw o cs S
 | .mp _,_,_,bB,⟨r,ms,ko,U,aa,ax,aP⟩=>⟨r,ms,ko,U,aa,(bB _ aa).trans ax,aP⟩
 | .sZ,_,_,_,h=>h
 | .gx _ _ _,_,_,bB,⟨b,a,pW,U,aa,ax,aP,a9⟩=>⟨b,a,pW,U,aa,(bB _ aa).trans ax,aP,a9.imp (λh=>h) λ⟨g,cap,cur,oR,me,pX,x8,s0⟩=>⟨g,cap,cur,oR,me,pX,(bB _ me).trans x8,s0⟩⟩
theorem jz.mono {w:World}:∀{o:sY} {cs:Vp} {S aB:Nat->Prop},(∀b,S b->aB b)->jz w o cs S->jz w o cs aB
 | .mp _,_,_,_,bB,⟨r,ms,ko,U,aa,ax⟩=>⟨r,ms,ko,U,bB _ aa,ax⟩
 | .sZ,_,_,_,_,h=>h
 | .gx _ _ _,_,_,_,bB,⟨b,a,pW,U,aa,ax,aP,a9⟩=>⟨b,a,pW,U,bB _ aa,ax,aP,a9.imp (λh=>h) λ⟨g,cap,cur,oR,me,pX⟩=>⟨g,cap,cur,oR,bB _ me,pX⟩⟩
theorem jz.one {w:World}:∀{o:sY} {cs:Vp} {S:Nat->Prop},jz w o cs S->∃v,Value.et v=true/\cs=[v]
 | .mp _,_,_,⟨_,_,_,h,_⟩=>⟨_,rfl,h⟩
 | .sZ,_,_,h=>⟨_,rfl,h⟩
 | .gx _ _ _,_,_,⟨_,_,_,h,_⟩=>⟨_,rfl,h⟩
mutual
def aj (w:World) (F:Nat->Prop):j->Vp->(Nat->Prop)->Prop
 | .hole,cs,_=>∃v,Value.et v=true/\cs=[v]
 | .bool b,cs,_=>cs=[.bool b]
 | .dV,cs,_=>∃b,cs=[.bool b]
 | .int k n,cs,_=>cs=[.int k n]
 | .str s,cs,_=>cs=[.string ⟨⟨s⟩⟩]
 | .cW,cs,_=>cs=[.pointer none]
 | .aK,cs,_=>cs=[.slice none 0 0]
 | .slice xs,cs,_=>(xs=[]/\∃a c,cs=[.slice a 0 c]/\c<=maxLen/\(a=none->c=0))\/
   ∃b o cap de sz,cs=[.slice (some ⟨b,o,none⟩) xs.length cap]/\F b/\xs.length<=cap/\cap<=maxLen/\(∀d∈xs,d.wd=sz)/\
    gh w b o de/\aQ w F xs de (λ_=>False)
 | .aq sz xs,cs,S=>(xs=[]/\∃a,cs=[.slice a 0 0])\/
   ∃b cap cur e fr aB,cs=[.slice (some ⟨b,0,none⟩) xs.length cap]/\S b/\w.heap[b]? =some (.cells cur e fr)/\kn fr (cur.size+(sz-1))/\
    xs.length<=cap/\cap<=maxLen/\cur.size=cap*sz/\(∀d∈xs,d.wd=sz)/\aQ w F xs (cur.toList.take (xs.length*sz)) aB/\(∀c,aB c->S c)/\¬aB b
 | .ref d,cs,_=>∃b o de,cs=[.pointer (some ⟨b,o,none⟩)]/\F b/\gh w b o de/\aj w F d de (λ_=>False)
 | .aS d,cs,S=>∃b cur e fr aB,cs=[.pointer (some ⟨b,0,none⟩)]/\S b/\w.heap[b]? =some (.cells cur e fr)/\kn fr cur.size/\
   aj w F d cur.toList aB/\(∀c,aB c->S c)/\¬aB b
 | .agg al,cs,S=>aQ w F al cs S
 | .tuple al,cs,S=>aQ w F al cs S
 | .fn f caps,cs,_=>∃arr:Array Value,cs=[.func (.func f) #[] arr]/\(∀d∈caps,d.single=true)/\aQ w F caps arr.toList (λ_=>False)
 | .h _ _,_,_=>False
 | .ag _ _,_,_=>False
 | .J _ _,_,_=>False
 | .cY o,cs,S=>jz w o cs S
 | .br f caps,cs,S=>∃arr:Array Value,cs=[.func (.func f) #[] arr]/\(∀d∈caps,d.one=true)/\aQ w F caps arr.toList S
def aQ (w:World) (F:Nat->Prop):Vr->Vp->(Nat->Prop)->Prop
 |[],cs,_=>cs=[]
 |d::ds,cs,S=>∃bu bN bP cx,cs=bu++bN/\aj w F d bu bP/\aQ w F ds bN cx/\(∀b,bP b->S b)/\(∀b,cx b->S b)/\(∀b,bP b->¬cx b)
end
theorem cell?_of_block {w aw:World} {b:Nat} (h:aw.heap[b]? =w.heap[b]?) (o:Nat):aw.cell? ⟨b,o,none⟩=w.cell? ⟨b,o,none⟩:=by
 simp[World.cell?,h]
theorem gh.frame {w aw:World} {b o:Nat} {cs:Vp} (h:aw.heap[b]? =w.heap[b]?) (aG:gh w b o cs):gh aw b o cs:=
 λaD c ai=>(cell?_of_block h _).trans (aG aD c ai)
mutual
theorem aj.frame {w aw:World} {F:Nat->Prop} (a3:∀b,F b->aw.heap[b]? =w.heap[b]?):
  ∀(d:j) (cs:Vp) (S:Nat->Prop),(∀b,S b->aw.heap[b]? =w.heap[b]?)->aj w F d cs S->aj aw F d cs S
 | .hole,_,_,_,h=>h
 | .bool _,_,_,_,h=>h
 | .dV,_,_,_,h=>h
 | .int _ _,_,_,_,h=>h
 | .str _,_,_,_,h=>h
 | .cW,_,_,_,h=>h
 | .aK,_,_,_,h=>h
 | .slice xs,cs,S,bB,h=>by
   rw[aj]at h⊢;rcases h with h|⟨b,o,cap,de,sz,U,aa,ax,aP,a9,bU,bO⟩
   .exact .inl h
   .exact .inr ⟨b,o,cap,de,sz,U,aa,ax,aP,a9,bU.frame (a3 _ aa),aQ.frame a3 xs _ _ (λ_ h=>h.elim) bO⟩
 | .aq sz xs,cs,S,bB,h=>by
   rw[aj]at h⊢;rcases h with h|⟨b,cap,cur,e,fr,aB,U,aa,ax,aP,a9,bU,bO,dv,hG,gi,jA⟩
   .exact .inl h
   .exact .inr ⟨b,cap,cur,e,fr,aB,U,aa,(bB _ aa).trans ax,aP,a9,bU,bO,dv,aQ.frame a3 xs _ _ (λc ai=>bB _ (gi _ ai)) hG,gi,jA⟩
 | .ref d,cs,S,bB,h=>by
   rw[aj]at h⊢;obtain⟨b,o,de,U,aa,ax,aP⟩:=h;exact⟨b,o,de,U,aa,ax.frame (a3 _ aa),aj.frame a3 d _ _ (λ_ h=>h.elim) aP⟩
 | .aS d,cs,S,bB,h=>by
   rw[aj]at h⊢;obtain⟨b,cur,e,fr,aB,U,aa,ax,aP,a9,bU,bO⟩:=h;exact⟨b,cur,e,fr,aB,U,aa,(bB _ aa).trans ax,aP,aj.frame a3 d _ _ (λc ai=>bB _ (bU _ ai)) a9,bU,bO⟩
 | .agg al,cs,S,bB,h=>by rw[aj]at h⊢;exact aQ.frame a3 al _ _ bB h
 | .tuple al,cs,S,bB,h=>by rw[aj]at h⊢;exact aQ.frame a3 al _ _ bB h
 | .fn _ caps,cs,S,bB,h=>by
   rw[aj]at h⊢;obtain⟨arr,U,aa,ax⟩:=h;exact⟨arr,U,aa,aQ.frame a3 caps _ _ (λ_ h=>h.elim) ax⟩
 | .h _ _,_,_,_,h=>h
 | .ag _ _,_,_,_,h=>h
 | .J _ _,_,_,_,h=>h
 | .cY _,_,_,bB,h=>jz.frame bB h
 | .br _ caps,cs,S,bB,h=>by
   rw[aj]at h⊢;obtain⟨arr,U,aa,ax⟩:=h;exact⟨arr,U,aa,aQ.frame a3 caps _ _ bB ax⟩
theorem aQ.frame {w aw:World} {F:Nat->Prop} (a3:∀b,F b->aw.heap[b]? =w.heap[b]?):
  ∀(ds:Vr) (cs:Vp) (S:Nat->Prop),(∀b,S b->aw.heap[b]? =w.heap[b]?)->aQ w F ds cs S->aQ aw F ds cs S
 |[],_,_,_,h=>h
 |d::ds,cs,S,bB,h=>by
  rw[aQ]at h⊢;obtain⟨bu,bN,bP,cx,U,aa,ax,aP,a9,bU⟩:=h;exact⟨bu,bN,bP,cx,U,aj.frame a3 d _ _ (λb J=>bB _ (aP _ J)) aa,aQ.frame a3 ds _ _ (λb J=>bB _ (a9 _ J)) ax,aP,a9,bU⟩
end
mutual
theorem aj.mono {w:World} {F ba:Nat->Prop} (a3:∀b,F b->ba b):
  ∀(d:j) (cs:Vp) (S aB:Nat->Prop),(∀b,S b->aB b)->aj w F d cs S->aj w ba d cs aB
 | .hole,_,_,_,_,h=>h
 | .bool _,_,_,_,_,h=>h
 | .dV,_,_,_,_,h=>h
 | .int _ _,_,_,_,_,h=>h
 | .str _,_,_,_,_,h=>h
 | .cW,_,_,_,_,h=>h
 | .aK,_,_,_,_,h=>h
 | .slice xs,cs,S,_,bB,h=>by
   rw[aj]at h⊢;rcases h with h|⟨b,o,cap,de,sz,U,aa,ax,aP,a9,bU,bO⟩
   .exact .inl h
   .exact .inr ⟨b,o,cap,de,sz,U,a3 _ aa,ax,aP,a9,bU,aQ.mono a3 xs _ _ _ (λ_ h=>h) bO⟩
 | .aq sz xs,cs,S,_,bB,h=>by
   rw[aj]at h⊢;rcases h with h|⟨b,cap,cur,e,fr,aB,U,aa,ax,aP,a9,bU,bO,dv,hG,gi,jA⟩
   .exact .inl h
   .exact .inr ⟨b,cap,cur,e,fr,aB,U,bB _ aa,ax,aP,a9,bU,bO,dv,aQ.mono a3 xs _ _ _ (λ_ h=>h) hG,λc ai=>bB _ (gi _ ai),jA⟩
 | .ref d,cs,S,_,bB,h=>by
   rw[aj]at h⊢;obtain⟨b,o,de,U,aa,ax,aP⟩:=h;exact⟨b,o,de,U,a3 _ aa,ax,aj.mono a3 d _ _ _ (λ_ h=>h) aP⟩
 | .aS d,cs,S,_,bB,h=>by
   rw[aj]at h⊢;obtain⟨b,cur,e,fr,aB,U,aa,ax,aP,a9,bU,bO⟩:=h;exact⟨b,cur,e,fr,aB,U,bB _ aa,ax,aP,aj.mono a3 d _ _ _ (λ_ h=>h) a9,λc ai=>bB _ (bU _ ai),bO⟩
 | .agg al,cs,S,_,bB,h=>by rw[aj]at h⊢;exact aQ.mono a3 al _ _ _ bB h
 | .tuple al,cs,S,_,bB,h=>by rw[aj]at h⊢;exact aQ.mono a3 al _ _ _ bB h
 | .fn _ caps,cs,S,_,bB,h=>by
   rw[aj]at h⊢;obtain⟨arr,U,aa,ax⟩:=h;exact⟨arr,U,aa,aQ.mono a3 caps _ _ _ (λ_ h=>h) ax⟩
 | .h _ _,_,_,_,_,h=>h
 | .ag _ _,_,_,_,_,h=>h
 | .J _ _,_,_,_,_,h=>h
 | .cY _,_,_,_,bB,h=>jz.mono bB h
 | .br _ caps,cs,S,_,bB,h=>by
   rw[aj]at h⊢;obtain⟨arr,U,aa,ax⟩:=h;exact⟨arr,U,aa,aQ.mono a3 caps _ _ _ bB ax⟩
theorem aQ.mono {w:World} {F ba:Nat->Prop} (a3:∀b,F b->ba b):
  ∀(ds:Vr) (cs:Vp) (S aB:Nat->Prop),(∀b,S b->aB b)->aQ w F ds cs S->aQ w ba ds cs aB
 |[],_,_,_,_,h=>h
 |d::ds,cs,S,_,bB,h=>by
  rw[aQ]at h⊢;obtain⟨bu,bN,bP,cx,U,aa,ax,aP,a9,bU⟩:=h;exact⟨bu,bN,bP,cx,U,aj.mono a3 d _ _ _ (λ_ h=>h) aa,aQ.mono a3 ds _ _ _ (λ_ h=>h) ax,λb J=>bB _ (aP _ J),λb J=>bB _ (a9 _ J),bU⟩
end
mutual
theorem aj.length {w:World} {F:Nat->Prop}:∀(d:j) (cs:Vp) (S:Nat->Prop),aj w F d cs S->cs.length=d.wd
 | .hole,cs,S,h=>by rw[aj]at h;obtain⟨v,_,rfl⟩:=h;rfl
 | .bool _,cs,S,h=>by rw[aj]at h;subst h;rfl
 | .dV,cs,S,h=>by rw[aj]at h;obtain⟨b,rfl⟩:=h;rfl
 | .int _ _,cs,S,h=>by rw[aj]at h;subst h;rfl
 | .str _,cs,S,h=>by rw[aj]at h;subst h;rfl
 | .cW,cs,S,h=>by rw[aj]at h;subst h;rfl
 | .aK,cs,S,h=>by rw[aj]at h;subst h;rfl
 | .slice xs,cs,S,h=>by
   rw[aj]at h;rcases h with⟨_,a,c,rfl,_⟩|⟨b,o,cap,de,sz,rfl,_⟩<;>rfl
 | .aq sz xs,cs,S,h=>by
   rw[aj]at h;rcases h with⟨_,a,rfl⟩|⟨b,cap,cur,e,fr,aB,rfl,_⟩<;>rfl
 | .ref d,cs,S,h=>by rw[aj]at h;obtain⟨b,o,de,rfl,_⟩:=h;rfl
 | .aS d,cs,S,h=>by rw[aj]at h;obtain⟨b,o,de,_,_,rfl,_⟩:=h;rfl
 | .agg al,cs,S,h=>by rw[aj]at h;exact aQ.length al _ _ h
 | .tuple al,cs,S,h=>by rw[aj]at h;exact aQ.length al _ _ h
 | .fn _ _,cs,S,h=>by rw[aj]at h;obtain⟨arr,rfl,_⟩:=h;rfl
 | .h _ _,cs,S,h=>by rw[aj]at h;exact h.elim
 | .ag _ _,cs,S,h=>by rw[aj]at h;exact h.elim
 | .J _ _,cs,S,h=>by rw[aj]at h;exact h.elim
 | .cY _,cs,S,h=>by rw[aj]at h;obtain⟨v,_,rfl⟩:=jz.one h;rfl
 | .br _ _,cs,S,h=>by rw[aj]at h;obtain⟨arr,rfl,_⟩:=h;rfl
theorem aQ.length {w:World} {F:Nat->Prop}:∀(ds:Vr) (cs:Vp) (S:Nat->Prop),aQ w F ds cs S->cs.length=j.c0 ds
 |[],cs,S,h=>by rw[aQ]at h;subst h;rfl
 |d::ds,cs,S,h=>by
  rw[aQ]at h;obtain⟨bu,bN,bP,cx,rfl,aa,ax,_⟩:=h;rw[length_append,aj.length d _ _ aa,aQ.length ds _ _ ax,j.c0]
end
mutual
def j.share:j->j
 | .aq _ xs=>.slice (j.shares xs)
 | .aS d=>.ref d.share
 | .slice xs=>.slice (j.shares xs)
 | .ref d=>.ref d.share
 | .agg al=>.agg (j.shares al)
 | .tuple al=>.tuple (j.shares al)
 | .cY _=>.hole
 | .br _ _=>.hole
 |d=>d
def j.shares:Vr->Vr
 |[]=>[]
 |d::ds=>d.share::j.shares ds
end
theorem j.oS (ds:Vr):j.shares ds=ds.map j.share:=by
 induction ds with
 |nil=>rfl
 |cons d ds ih=>simp[j.shares,ih]
mutual
theorem j.vx:∀d:j,d.share.wd=d.wd
 | .hole=>rfl
 | .bool _=>rfl
 | .dV=>rfl
 | .int _ _=>rfl
 | .str _=>rfl
 | .cW=>rfl
 | .aK=>rfl
 | .slice _=>rfl
 | .aq _ _=>rfl
 | .ref _=>rfl
 | .aS _=>rfl
 | .agg al=>by simp only[j.share,j.wd];exact j.x9 al
 | .tuple al=>by simp only[j.share,j.wd];exact j.x9 al
 | .fn _ _=>rfl
 | .h _ _=>rfl
 | .ag _ _=>rfl
 | .J _ _=>rfl
 | .cY _=>rfl
 | .br _ _=>rfl
theorem j.x9:∀ds:Vr,j.c0 (j.shares ds)=j.c0 ds
 |[]=>rfl
 |d::ds=>by simp only[j.shares,j.c0];rw[j.vx d,j.x9 ds]
end
theorem rF {w:World} {b:Nat} {cur:Array Value} {e:TypeId} {fr:Nat×Nat} (h:w.heap[b]? =some (.cells cur e fr)) (n:Nat):gh w b 0 (cur.toList.take n):=by
 intro aD c ai;rw[getElem?_take]at ai;split at ai
 .simp[World.cell?,h];simpa using ai
 .cases ai
mutual
theorem aj.shared {w:World} {F ba:Nat->Prop} (a3:∀b,F b->ba b):
  ∀(d:j) (cs:Vp) (S:Nat->Prop),(∀b,S b->ba b)->aj w F d cs S->aj w ba d.share cs (λ_=>False)
 | .hole,_,_,_,h=>h
 | .bool _,_,_,_,h=>h
 | .dV,_,_,_,h=>h
 | .int _ _,_,_,_,h=>h
 | .str _,_,_,_,h=>h
 | .cW,_,_,_,h=>h
 | .aK,_,_,_,h=>h
 | .slice xs,cs,S,bB,h=>by
   rw[j.share,aj];rw[aj]at h;rcases h with⟨rfl,a,c,rfl,ai⟩|⟨b,o,cap,de,sz,U,aa,ax,aP,a9,bU,bO⟩
   .exact .inl ⟨rfl,a,c,rfl,ai⟩
   .refine .inr ⟨b,o,cap,de,sz,?_,a3 _ aa,?_,aP,?_,bU,aQ.shared a3 xs _ _ (λ_ h=>h.elim) bO⟩
    .simpa [j.oS]using U
    .simpa [j.oS]using ax
    .intro d ad;rw[j.oS]at ad;obtain⟨a8,fF,rfl⟩:=mem_map.1 ad;rw[j.vx];exact a9 _ fF
 | .aq sz xs,cs,S,bB,h=>by
   rw[j.share,aj];rw[aj]at h;rcases h with⟨rfl,a,rfl⟩|⟨b,cap,cur,e,fr,aB,U,aa,ax,aP,a9,bU,bO,dv,hG,gi,jA⟩
   .exact .inl ⟨rfl,a,0,rfl,zero_le _,λ_=>rfl⟩
   .refine .inr ⟨b,0,cap,_,sz,?_,bB _ aa,?_,bU,?_,rF ax _,aQ.shared a3 xs _ _ (λc ai=>bB _ (gi _ ai)) hG⟩
    .simpa [j.oS]using U
    .simpa [j.oS]using a9
    .intro d ad;rw[j.oS]at ad;obtain⟨a8,fF,rfl⟩:=mem_map.1 ad;rw[j.vx];exact dv _ fF
 | .ref d,cs,S,bB,h=>by
   rw[j.share,aj];rw[aj]at h;obtain⟨b,o,de,U,aa,ax,aP⟩:=h;exact⟨b,o,de,U,a3 _ aa,ax,aj.shared a3 d _ _ (λ_ h=>h.elim) aP⟩
 | .aS d,cs,S,bB,h=>by
   rw[j.share,aj];rw[aj]at h;obtain⟨b,cur,e,fr,aB,U,aa,ax,aP,a9,bU,bO⟩:=h;refine⟨b,0,cur.toList,U,bB _ aa,?_,aj.shared a3 d _ _ (λc ai=>bB _ (bU _ ai)) a9⟩;have:=rF ax cur.toList.length
   rwa [take_length]at this
 | .agg al,cs,S,bB,h=>by rw[j.share,aj];rw[aj]at h;exact aQ.shared a3 al _ _ bB h
 | .tuple al,cs,S,bB,h=>by rw[j.share,aj];rw[aj]at h;exact aQ.shared a3 al _ _ bB h
 | .fn f caps,cs,S,bB,h=>by
   show aj w ba (.fn f caps) cs _;rw[aj]at h⊢;obtain⟨arr,U,aa,ax⟩:=h;exact⟨arr,U,aa,aQ.mono a3 caps _ _ _ (λ_ h=>h) ax⟩
 | .h _ _,_,_,_,h=>h
 | .ag _ _,_,_,_,h=>h
 | .J _ _,_,_,_,h=>h
 | .cY _,cs,S,bB,h=>by rw[aj]at h;rw[j.share,aj];exact jz.one h
 | .br _ _,cs,S,bB,h=>by rw[aj]at h;obtain⟨arr,rfl,_⟩:=h;rw[j.share,aj];exact⟨_,rfl,rfl⟩
theorem aQ.shared {w:World} {F ba:Nat->Prop} (a3:∀b,F b->ba b):
  ∀(ds:Vr) (cs:Vp) (S:Nat->Prop),(∀b,S b->ba b)->aQ w F ds cs S->aQ w ba (j.shares ds) cs (λ_=>False)
 |[],_,_,_,h=>h
 |d::ds,cs,S,bB,h=>by
  simp only[j.shares];rw[aQ]at h⊢;obtain⟨bu,bN,bP,cx,U,aa,ax,aP,a9,bU⟩:=h;exact⟨bu,bN,_,_,U,aj.shared a3 d _ _ (λb J=>bB _ (aP _ J)) aa,aQ.shared a3 ds _ _ (λb J=>bB _ (a9 _ J)) ax,λ_ h=>h,λ_ h=>h,λ_ h=>h.elim⟩
end
def j.sub:Vm->j->Option j
 |[],d=>some d
 |k::q,.agg al=>match al[k]? with
  |some d=>j.sub q d
  |none=>none
 |k::q,.tuple al=>match al[k]? with
  |some d=>j.sub q d
  |none=>none
 |i::q,.aq _ xs=>match xs[i]? with
  |some d=>j.sub q d
  |none=>none
 |0::q,.aS d=>j.sub q d
 |_::_,_=>none
def j.put:Vm->j->j->j
 |[],n,_=>n
 |k::q,n,.agg al=>match al[k]? with
  |some d=>.agg (al.set k (j.put q n d))
  |none=>.agg al
 |k::q,n,.tuple al=>match al[k]? with
  |some d=>.tuple (al.set k (j.put q n d))
  |none=>.tuple al
 |i::q,n,.aq sz xs=>match xs[i]? with
  |some d=>.aq sz (xs.set i (j.put q n d))
  |none=>.aq sz xs
 |0::q,n,.aS d=>.aS (j.put q n d)
 |_::_,_,d=>d
def kU (w:World) (b o n:Nat):Vp:=(range n).map λaD=>(w.cell? ⟨b,o+aD,none⟩).getD undef
theorem gh.kU {w:World} {b o:Nat} {cs:Vp} (h:gh w b o cs):kU w b o cs.length=cs:=by
 unfold cV.kU;apply ext_getElem?;intro i;rw[getElem?_map];by_cases ay:i<cs.length
 .have:cs[i]? =some cs[i]:=getElem?_eq_getElem ay;simp[ay,h i _ this]
 .simp[ay]
def cy (w:World):Vm->j->Vp->Option (Nat×Nat)->Option (j×Vp×Option (Nat×Nat))
 |[],d,cs,a=>some (d,cs,a)
 |k::q,.agg al,cs,a=>match al[k]? with
  |some d=>cy w q d ((cs.drop (j.c0 (al.take k))).take d.wd) (a.map λl=>(l.1,l.2+j.c0 (al.take k)))
  |none=>none
 |k::q,.tuple al,cs,a=>match al[k]? with
  |some d=>cy w q d ((cs.drop (j.c0 (al.take k))).take d.wd) (a.map λl=>(l.1,l.2+j.c0 (al.take k)))
  |none=>none
 |i::q,.aq sz xs,cs,_=>match xs[i]?,cs with
  |some d,[.slice (some ⟨b,_,_⟩) _ _]=>cy w q d (kU w b (i*sz) sz) (some (b,i*sz))
  |_,_=>none
 |0::q,.aS d,cs,_=>match cs with
  |[.pointer (some ⟨b,_,_⟩)]=>cy w q d (kU w b 0 d.wd) (some (b,0))
  |_=>none
 |_::_,_,_,_=>none
theorem pY (bu eN bN:Vp) (n m:Nat) (U:bu.length=n) (aa:eN.length=m):((bu++(eN++bN)).drop n).take m=eN:=by
 rw[drop_left' U,take_left' aa]
theorem aQ.pick {w:World} {F:Nat->Prop}:∀(ds:Vr) (cs:Vp) (S:Nat->Prop) (k:Nat) (d:j),
  aQ w F ds cs S->ds[k]? =some d->∃(bu eN bN:Vp) (bP gj:Nat->Prop),cs=bu++(eN++bN)/\bu.length=j.c0 (ds.take k)/\
   (∀b,bP b->S b)/\(∀b,gj b->S b)/\(∀b,bP b->¬gj b)/\aj w F d eN gj/\
   ∀(aw:World) (a8:j) (pZ:Vp) (aB:Nat->Prop),(∀b,F b->aw.heap[b]? =w.heap[b]?)->(∀b,bP b->aw.heap[b]? =w.heap[b]?)->
    aj aw F a8 pZ aB->(∀b,aB b->¬bP b)->aQ aw F (ds.set k a8) (bu++(pZ++bN)) (λb=>bP b\/aB b)
 |[],_,_,_,_,_,ak=>by simp at ak
 |x::ds,cs,S,0,d,h,ak=>by
  rw[aQ]at h;obtain⟨bu,bN,fX,fj,rfl,U,aa,b4,J,jW⟩:=h;simp at ak;subst ak;refine⟨[],bu,bN,fj,fX,rfl,rfl,J,b4,λb J b4=>jW _ b4 J,U,?_⟩;intro aw a8 pZ aB a3 bB ad hp;simp only[set_cons_zero,nil_append];rw[aQ];exact⟨pZ,bN,aB,fj,rfl,ad,aQ.frame a3 _ _ _ bB aa,λb h=>.inr h,λb h=>.inl h,λb h=>hp b h⟩
 |x::ds,cs,S,k+1,d,h,ak=>by
  rw[aQ]at h;obtain⟨mf,IJ,fX,fj,rfl,U,aa,b4,J,jW⟩:=h;simp only[getElem?_cons_succ]at ak;have hl:=aj.length _ _ _ U;obtain⟨bu,eN,bN,bP,gj,rfl,IK,oR,me,pX,s0,x_⟩:=aQ.pick ds IJ fj k d aa ak;refine⟨mf++bu,eN,bN,λb=>fX b\/bP b,gj,by simp,by simp[j.c0,hl,IK],?_,λb h=>J _ (me _ h),?_,s0,?_⟩
  .rintro b (h|h)
   .exact b4 _ h
   .exact J _ (oR _ h)
  .rintro b (h|h) ak
   .exact jW _ h (me _ ak)
   .exact pX _ h ak
  .intro aw a8 pZ aB a3 bB ad hp;simp only[set_cons_succ];rw[aQ];refine⟨mf,bu++(pZ++bN),fX,λb=>bP b\/aB b,by simp,aj.frame a3 _ _ _ (λb J=>bB b (.inl J)) U,
    x_ aw a8 pZ aB a3 (λb J=>bB b (.inr J)) ad (λb J ai=>hp b J (.inr ai)),λb h=>.inl (.inl h),?_,?_⟩
   .rintro b (h|h)
    .exact .inl (.inr h)
    .exact .inr h
   .rintro b h (bl|bl)
    .exact jW _ h (oR _ bl)
    .exact hp _ bl (.inl h)
theorem ya:∀(al:Vr) (k:Nat) (x y:j),al[k]? =some x->y.wd=x.wd->j.c0 (al.set k y)=j.c0 al:=by
 intro al;induction al with
 |nil=>intro k x y h;simp at h
 |cons a al ih=>
  intro k x y h e;cases k with
  |zero=>simp at h;subst h;simp[j.c0,e]
  |succ k=>simp at h;simp[j.c0,ih k x y h e]
theorem p0 {sz:Nat}:∀(xs:Vr),(∀d∈xs,d.wd=sz)->j.c0 xs=xs.length*sz
 |[],_=>by simp[j.c0]
 |x::xs,h=>by
  rw[j.c0,h x (by simp),p0 xs (λd ad=>h d (by simp[ad])),length_cons,Nat.add_mul,Nat.one_mul,Nat.add_comm]
theorem j.rG:∀(q:Vm) (av d a8:j),j.sub q av=some d->a8.wd=d.wd->(j.put q a8 av).wd=av.wd:=by
 intro q;induction q with
 |nil=>intro av d a8 h e;simp[j.sub]at h;subst h;simpa [j.put]using e
 |cons k q ih=>
  intro av d a8 h e;cases av with
  |agg al=>
   simp only[j.sub]at h;split at h
   .rename_i x ae;simp only[j.put,ae,j.wd];exact ya _ _ _ _ ae (ih _ _ _ h e)
   .cases h
  |tuple al=>
   simp only[j.sub]at h;split at h
   .rename_i x ae;simp only[j.put,ae,j.wd];exact ya _ _ _ _ ae (ih _ _ _ h e)
   .cases h
  |aq sz xs=>
   simp only[j.sub]at h;split at h
   .rename_i x ae;simp only[j.put,ae,j.wd]
   .cases h
  |aS x=>
   cases k with
   |zero=>simp only[j.put,j.wd]
   |succ k=>simp[j.sub]at h
  |_=>simp[j.sub]at h
theorem yb {sz:Nat} {xs:Vr} {i:Nat} {y:j} (h:∀d∈xs,d.wd=sz) (a_:y.wd=sz):∀d∈xs.set i y,d.wd=sz:=by
 intro d ad;rcases mem_or_eq_of_mem_set ad with ad|rfl
 .exact h d ad
 .exact a_
theorem rH {w:World} {b:Nat} {cur:Array Value} {e:TypeId} {fr:Nat×Nat} (h:w.heap[b]? =some (.cells cur e fr)) {l m r:Vp} (ai:cur.toList=l++(m++r)):
  kU w b l.length m.length=m:=by
 refine gh.kU (λaD c cn=>?_);have da:aD<m.length:=(List.getElem?_eq_some_iff.1 cn).1;have:cur.toList[l.length+aD]? =some c:=by
  rw[ai,getElem?_append_right (by omega),getElem?_append_left (by omega)];rw[<-cn];congr 1;omega
 simp[World.cell?,h];simpa using this
def Flat (w:World) (F:Nat->Prop) (q:Vm) (av:j) (cs:Vp) (a:Option (Nat×Nat)) (d:j) (b_:Vp) (bZ:Option (Nat×Nat)) (c1:Nat->Prop):Prop:=
 ∃l r:Vp,cs=l++(b_++r)/\bZ=a.map (λx=>(x.1,x.2+l.length))/\
  ∀(aw:World) (a8:j) (eJ:Vp) (aB:Nat->Prop),(∀b,F b->aw.heap[b]? =w.heap[b]?)->(∀b,c1 b->aw.heap[b]? =w.heap[b]?)->
   a8.wd=d.wd->aj aw F a8 eJ aB->(∀b,aB b->¬c1 b)->aj aw F (j.put q a8 av) (l++(eJ++r)) (λb=>c1 b\/aB b)
def yc (w:World) (F:Nat->Prop) (q:Vm) (av:j) (cs:Vp) (d:j) (b_:Vp) (bZ:Option (Nat×Nat)) (c1:Nat->Prop):Prop:=
 ∃(b:Nat) (cur:Array Value) (e:TypeId) (fr:Nat×Nat) (l r:Vp),bZ=some (b,l.length)/\c1 b/\w.heap[b]? =some (.cells cur e fr)/\kn fr cur.size/\cur.toList=l++(b_++r)/\
  ∀(aw:World) (a8:j) (eJ:Vp) (aB:Nat->Prop),(∀b,F b->aw.heap[b]? =w.heap[b]?)->(∀c,c1 c->c≠b->aw.heap[c]? =w.heap[c]?)->
   aw.heap[b]? =some (.cells (l++(eJ++r)).toArray e fr)->
   a8.wd=d.wd->aj aw F a8 eJ aB->(∀b,aB b->¬c1 b)->aj aw F (j.put q a8 av) cs (λb=>c1 b\/aB b)
theorem ctx {w:World} {F:Nat->Prop}:∀(q:Vm) (av:j) (cs:Vp) (S:Nat->Prop) (a:Option (Nat×Nat)) (d:j),
  aj w F av cs S->j.sub q av=some d->∃(b_:Vp) (bZ:Option (Nat×Nat)) (c1 dW:Nat->Prop),cy w q av cs a=some (d,b_,bZ)/\
   (∀b,c1 b->S b)/\(∀b,dW b->S b)/\(∀b,c1 b->¬dW b)/\aj w F d b_ dW/\(Flat w F q av cs a d b_ bZ c1\/yc w F q av cs d b_ bZ c1):=by
 intro q;induction q with
 |nil=>
  intro av cs S a d h ad;simp[j.sub]at ad;subst ad;refine⟨cs,a,λ_=>False,S,rfl,λ_ h=>h.elim,λ_ h=>h,λ_ h=>h.elim,h,.inl ⟨[],[],by simp,?_,?_⟩⟩
  .cases a<;>simp
  .intro aw a8 eJ aB _ _ hw fF _;simp only[j.put,nil_append,append_nil];exact aj.mono (λ_ h=>h) _ _ _ _ (λb h=>.inr h) fF
 |cons k q ih=>
  have fields:∀(mk:Vr->j) (yd:∀(w:World) (F:Nat->Prop) (al:Vr) (cs:Vp) (S:Nat->Prop),aj w F (mk al) cs S=aQ w F al cs S) (al:Vr) (cs:Vp) (S:Nat->Prop) (a:Option (Nat×Nat)) (x d:j),
    (iB:∀a8,j.put (k::q) a8 (mk al)=mk (al.set k (j.put q a8 x)))->aQ w F al cs S->al[k]? =some x->j.sub q x=some d->
    ∃(b_:Vp) (bZ:Option (Nat×Nat)) (c1 dW:Nat->Prop),cy w q x ((cs.drop (j.c0 (al.take k))).take x.wd) (a.map λl=>(l.1,l.2+j.c0 (al.take k)))=some (d,b_,bZ)/\
    (∀b,c1 b->S b)/\(∀b,dW b->S b)/\(∀b,c1 b->¬dW b)/\aj w F d b_ dW/\(Flat w F (k::q) (mk al) cs a d b_ bZ c1\/yc w F (k::q) (mk al) cs d b_ bZ c1):=by
   intro mk yd al cs S a x d iB h ae ad;obtain⟨bu,eN,bN,bP,gj,rfl,fY,eO,el,fP,dG,jX⟩:=aQ.pick al cs S k x h ae;have hl:=aj.length _ _ _ dG;rw[pY bu eN bN _ _ fY hl];obtain⟨b_,bZ,c1,dW,fg,aL,a0,bK,cF,dq⟩:=ih x _ gj (a.map λl=>(l.1,l.2+j.c0 (al.take k))) d dG ad;refine⟨b_,bZ,λb=>bP b\/c1 b,dW,fg,?_,λb J=>el _ (a0 _ J),?_,cF,?_⟩
   .rintro b (h|h)
    .exact eO _ h
    .exact el _ (aL _ h)
   .rintro b (h|h) ad
    .exact fP _ h (a0 _ ad)
    .exact bK _ h ad
   .have dX:∀(b:Nat) (aB:Nat->Prop),(bP b\/c1 b\/aB b)->((bP b\/c1 b)\/aB b):=by
     rintro b aB (J|J|J)
     .exact .inl (.inl J)
     .exact .inl (.inr J)
     .exact .inr J
    rcases dq with⟨l,r,rfl,aR,aX⟩|⟨b,cur,e,fr,l,r,aI,aR,aX,bT,cb,bH⟩
    .refine .inl ⟨bu++l,r++bN,by simp,?_,?_⟩
     .rw[aR,<-fY];cases a<;>simp[Nat.add_assoc]
     .intro aw a8 eJ aB a3 bB hw fF hp;have c5:=aX aw a8 eJ aB a3 (λb J=>bB b (.inr J)) hw fF (λb J ai=>hp b J (.inr ai));have bz:=jX aw _ _ _ a3 (λb J=>bB b (.inl J)) c5 (by
       rintro b (J|J) U
       .exact fP _ U (aL _ J)
       .exact hp _ J (.inl U))
      rw[iB,yd];have:=aQ.mono (λ_ h=>h) _ _ _ _ (λb=>dX b aB) bz;simpa using this
    .refine .inr ⟨b,cur,e,fr,l,r,aI,.inr aR,aX,bT,cb,?_⟩;intro aw a8 eJ aB a3 bB hH hw fF hp;have c5:=bH aw a8 eJ aB a3 (λc ai=>bB c (.inr ai)) hH hw fF (λb J ai=>hp b J (.inr ai));have bz:=jX aw _ _ _ a3 (λc ai=>bB c (.inl ai) (by rintro rfl;exact fP _ ai (aL _ aR))) c5 (by
       rintro b (J|J) U
       .exact fP _ U (aL _ J)
       .exact hp _ J (.inl U))
     rw[iB,yd];exact aQ.mono (λ_ h=>h) _ _ _ _ (λb=>dX b aB) bz
  intro av cs S a d h ad;cases av with
  |agg al=>
   simp only[j.sub]at ad;split at ad
   .rename_i x ae;rw[aj]at h;have:=fields .agg (λ_ _ _ _ _=>by rw[aj]) al cs S a x d (λa8=>by simp only[j.put,ae]) h ae ad;simpa only[cy,ae]using this
   .cases ad
  |tuple al=>
   simp only[j.sub]at ad;split at ad
   .rename_i x ae;rw[aj]at h;have:=fields .tuple (λ_ _ _ _ _=>by rw[aj]) al cs S a x d (λa8=>by simp only[j.put,ae]) h ae ad;simpa only[cy,ae]using this
   .cases ad
  |aq sz xs=>
   simp only[j.sub]at ad;split at ad
   .rename_i x ae;rw[aj]at h;rcases h with⟨rfl,_,rfl⟩|⟨b,cap,cur,e,fr,cU,rfl,aa,ax,aP,a9,bU,bO,dv,hG,gi,jA⟩
    .simp at ae
    .obtain⟨bu,eN,bN,bP,gj,p,fY,eO,el,fP,dG,jX⟩:=aQ.pick xs _ cU k x hG ae;have hl:=aj.length _ _ _ dG;have IL:k<xs.length:=(List.getElem?_eq_some_iff.1 ae).1;have s3:x.wd=sz:=dv x (mem_of_getElem? ae);have bk:j.c0 (xs.take k)=k*sz:=by
      rw[p0 _ (λd ad=>dv d (mem_of_mem_take ad))];rw[length_take,Nat.min_eq_left (by omega)]
     obtain⟨nM,jg⟩:∃nM,cur.toList=bu++(eN++(bN++nM)):=by
      refine⟨cur.toList.drop (xs.length*sz),?_⟩;have:=(take_append_drop (xs.length*sz) cur.toList).symm;rw[p]at this;simpa using this
     have h9:kU w b (k*sz) sz=eN:=by
      have:=rH ax jg
      rwa [fY,bk,hl,s3]at this
     obtain⟨b_,bZ,c1,dW,fg,aL,a0,bK,cF,dq⟩:=ih x _ gj (some (b,k*sz)) d dG ad;have iB:∀a8,j.put (k::q) a8 (.aq sz xs)= .aq sz (xs.set k (j.put q a8 x)):=λa8=>by simp only[j.put,ae]
     refine⟨b_,bZ,λc=>c=b\/bP c\/c1 c,dW,?_,?_,λc ai=>gi _ (el _ (a0 _ ai)),?_,cF,.inr ?_⟩
     .simp only[cy,ae,h9];exact fg
     .rintro c (rfl|h|h)
      .exact aa
      .exact gi _ (eO _ h)
      .exact gi _ (el _ (aL _ h))
     .rintro c (rfl|h|h) ad
      .exact jA (el _ (a0 _ ad))
      .exact fP _ h (a0 _ ad)
      .exact bK _ h ad
     .have iQ:∀a8,a8.wd=d.wd->(j.put q a8 x).wd=sz:=λa8 hw=>(j.rG q x d a8 ad hw).trans s3;rcases dq with⟨l,r,rfl,aR,aX⟩|⟨eE,ye,fk,yf,l,r,aI,aR,aX,bT,cb,bH⟩
      .refine⟨b,cur,e,fr,bu++l,r++(bN++nM),?_,.inl rfl,ax,aP.low,?_,?_⟩
       .rw[aR];simp[fY,bk]
       .rw[jg];simp
       .intro aw a8 eJ aB a3 bB hH hw fF hp;have c5:=aX aw a8 eJ aB a3 (λc ai=>bB c (.inr (.inr ai)) (by rintro rfl;exact jA (el _ (aL _ ai)))) hw fF (λb J ai=>hp b J (.inr (.inr ai)));have bz:=jX aw _ _ _ a3 (λc ai=>bB c (.inr (.inl ai)) (by rintro rfl;exact jA (eO _ ai))) c5 (by
         rintro b (J|J) U
         .exact fP _ U (aL _ J)
         .exact hp _ J (.inr (.inl U)))
        have s4:=aj.length _ _ _ fF;have s5:=aj.length _ _ _ cF;rw[iB,aj];refine .inr ⟨b,cap,_,e,fr,λb=>bP b\/c1 b\/aB b,by simp,.inl (.inl rfl),hH,?_,by simpa using a9,bU,?_,yb dv (iQ a8 hw),?_,?_,?_⟩
        .have:(bu++l++(eJ++(r++(bN++nM)))).toArray.size=cur.size:=by
          have:cur.size=cur.toList.length:=by simp
          rw[this,jg];simp[s4,s5,hw]
         rw[this];exact aP
        .rw[<-bO];have:cur.size=cur.toList.length:=by simp
         rw[this,jg];simp[s4,s5,hw]
        .have hlen:(bu++(l++(eJ++r)++bN)).length=xs.length*sz:=by
          have:=congrArg length p;rw[length_take,Nat.min_eq_left (by simp[bO];exact mul_le_mul_right _ a9)]at this;rw[this];simp[s4,s5,hw]
         have:(bu++l++(eJ++(r++(bN++nM))))=(bu++(l++(eJ++r)++bN))++nM:=by simp
         rw[length_set];simp only[this];rw[take_left' hlen];exact bz
        .rintro c (h|h|h)
         .exact .inl (.inr (.inl h))
         .exact .inl (.inr (.inr h))
         .exact .inr h
        .rintro(h|h|h)
         .exact jA (eO _ h)
         .exact jA (el _ (aL _ h))
         .exact hp _ h (.inl rfl)
      .refine⟨eE,ye,fk,yf,l,r,aI,.inr (.inr aR),aX,bT,cb,?_⟩;intro aw a8 eJ aB a3 bB hH hw fF hp;have c5:=bH aw a8 eJ aB a3 (λc ai cJ=>bB c (.inr (.inr ai)) cJ) hH hw fF (λb J ai=>hp b J (.inr (.inr ai)));have cJ:∀c,bP c->c≠eE:=by rintro c ai rfl;exact fP _ ai (aL _ aR)
       have bz:=jX aw _ _ _ a3 (λc ai=>bB c (.inr (.inl ai)) (cJ c ai)) c5 (by
        rintro b (J|J) U
        .exact fP _ U (aL _ J)
        .exact hp _ J (.inr (.inl U)))
       have yg:b≠eE:=by rintro rfl;exact jA (el _ (aL _ aR))
       rw[iB,aj];refine .inr ⟨b,cap,cur,e,fr,λb=>bP b\/c1 b\/aB b,by simp,.inl (.inl rfl),(bB b (.inl rfl) yg).trans ax,aP,by simpa using a9,bU,bO,yb dv (iQ a8 hw),?_,?_,?_⟩
       .rw[length_set,p];exact bz
       .rintro c (h|h|h)
        .exact .inl (.inr (.inl h))
        .exact .inl (.inr (.inr h))
        .exact .inr h
       .rintro(h|h|h)
        .exact jA (eO _ h)
        .exact jA (el _ (aL _ h))
        .exact hp _ h (.inl rfl)
   .cases ad
  |aS x=>
   cases k with
   |succ k=>simp[j.sub]at ad
   |zero=>
    simp only[j.sub]at ad;rw[aj]at h;obtain⟨b,cur,e,fr,cU,rfl,aa,ax,aP,a9,bU,bO⟩:=h;have hl:=aj.length _ _ _ a9;have h9:kU w b 0 x.wd=cur.toList:=by
     have:=rH (l:=[]) (m:=cur.toList) (r:=[]) ax (by simp)
     rwa [hl]at this
    obtain⟨b_,bZ,c1,dW,fg,aL,a0,bK,cF,dq⟩:=ih x _ cU (some (b,0)) d a9 ad;have iB:∀a8,j.put (0::q) a8 (.aS x)= .aS (j.put q a8 x):=λa8=>rfl;refine⟨b_,bZ,λc=>c=b\/c1 c,dW,?_,?_,λc ai=>bU _ (a0 _ ai),?_,cF,.inr ?_⟩
    .simp only[cy,h9];exact fg
    .rintro c (rfl|h)
     .exact aa
     .exact bU _ (aL _ h)
    .rintro c (rfl|h) ad
     .exact bO (a0 _ ad)
     .exact bK _ h ad
    .rcases dq with⟨l,r,aI,aR,aX⟩|⟨eE,ye,fk,yf,l,r,aI,aR,aX,bT,cb,bH⟩
     .refine⟨b,cur,e,fr,l,r,?_,.inl rfl,ax,aP,aI,?_⟩
      .rw[aR];simp
      .intro aw a8 eJ aB a3 bB hH hw fF hp;have c5:=aX aw a8 eJ aB a3 (λc ai=>bB c (.inr ai) (by rintro rfl;exact bO (aL _ ai))) hw fF (λb J ai=>hp b J (.inr ai));have s4:=aj.length _ _ _ fF;have s5:=aj.length _ _ _ cF;rw[iB,aj];refine⟨b,_,e,fr,λb=>c1 b\/aB b,rfl,.inl (.inl rfl),hH,?_,c5,?_,?_⟩
       .have:(l++(eJ++r)).toArray.size=cur.size:=by
         have:cur.size=cur.toList.length:=by simp
         rw[this,aI];simp[s4,s5,hw]
        rw[this];exact aP
       .rintro c (h|h)
        .exact .inl (.inr h)
        .exact .inr h
       .rintro(h|h)
        .exact bO (aL _ h)
        .exact hp _ h (.inl rfl)
     .refine⟨eE,ye,fk,yf,l,r,aI,.inr aR,aX,bT,cb,?_⟩;intro aw a8 eJ aB a3 bB hH hw fF hp;have c5:=bH aw a8 eJ aB a3 (λc ai cJ=>bB c (.inr ai) cJ) hH hw fF (λb J ai=>hp b J (.inr ai));have yg:b≠eE:=by rintro rfl;exact bO (aL _ aR)
      rw[iB,aj];refine⟨b,cur,e,fr,λb=>c1 b\/aB b,rfl,.inl (.inl rfl),(bB b (.inl rfl) yg).trans ax,aP,c5,?_,?_⟩
      .rintro c (h|h)
       .exact .inl (.inr h)
       .exact .inr h
      .rintro(h|h)
       .exact bO (aL _ h)
       .exact hp _ h (.inl rfl)
  |_=>simp[j.sub]at ad
mutual
def j.plain:j->Bool
 | .aq _ _=>false
 | .aS _=>false
 | .cY _=>false
 | .br _ _=>false
 | .agg al=>j.db al
 | .tuple al=>j.db al
 |_=>true
def j.db:Vr->Bool
 |[]=>true
 |d::ds=>d.plain&&j.db ds
end
mutual
def j.cj:j->j
 | .aq _ _=>.hole
 | .aS _=>.hole
 | .cY _=>.hole
 | .br _ _=>.hole
 | .agg al=>.agg (j.jh al)
 | .tuple al=>.tuple (j.jh al)
 |d=>d
def j.jh:Vr->Vr
 |[]=>[]
 |d::ds=>d.cj::j.jh ds
end
mutual
theorem j.oT:∀d:j,d.cj.wd=d.wd
 | .hole=>rfl
 | .bool _=>rfl
 | .dV=>rfl
 | .int _ _=>rfl
 | .str _=>rfl
 | .cW=>rfl
 | .aK=>rfl
 | .slice _=>rfl
 | .aq _ _=>rfl
 | .ref _=>rfl
 | .aS _=>rfl
 | .agg al=>by simp only[j.cj,j.wd];exact j.yh al
 | .tuple al=>by simp only[j.cj,j.wd];exact j.yh al
 | .fn _ _=>rfl
 | .h _ _=>rfl
 | .ag _ _=>rfl
 | .J _ _=>rfl
 | .cY _=>rfl
 | .br _ _=>rfl
theorem j.yh:∀ds:Vr,j.c0 (j.jh ds)=j.c0 ds
 |[]=>rfl
 |d::ds=>by simp only[j.jh,j.c0];rw[j.oT d,j.yh ds]
end
mutual
theorem aj.cj {w:World} {F:Nat->Prop}:∀(d:j) (cs:Vp) (S aB:Nat->Prop),aj w F d cs S->aj w F d.cj cs aB
 | .hole,_,_,_,h=>h
 | .bool _,_,_,_,h=>h
 | .dV,_,_,_,h=>h
 | .int _ _,_,_,_,h=>h
 | .str _,_,_,_,h=>h
 | .cW,_,_,_,h=>h
 | .aK,_,_,_,h=>h
 | .slice xs,cs,S,aB,h=>by
   show aj w F (.slice xs) cs aB;rw[aj]at h⊢;exact h
 | .aq sz xs,cs,S,aB,h=>by
   rw[j.cj,aj];rw[aj]at h;rcases h with⟨_,_,rfl⟩|⟨b,cap,cur,e,fr,cU,rfl,_⟩
   .exact⟨_,rfl,rfl⟩
   .exact⟨_,rfl,rfl⟩
 | .ref d,cs,S,aB,h=>by
   show aj w F (.ref d) cs aB;rw[aj]at h⊢;exact h
 | .aS d,cs,S,aB,h=>by
   rw[j.cj,aj];rw[aj]at h;obtain⟨b,cur,e,fr,cU,rfl,_⟩:=h;exact⟨_,rfl,rfl⟩
 | .agg al,cs,S,aB,h=>by rw[j.cj,aj];rw[aj]at h;exact aQ.cj al _ _ _ h
 | .tuple al,cs,S,aB,h=>by rw[j.cj,aj];rw[aj]at h;exact aQ.cj al _ _ _ h
 | .fn _ _,_,_,_,h=>h
 | .h _ _,_,_,_,h=>h
 | .ag _ _,_,_,_,h=>h
 | .J _ _,_,_,_,h=>h
 | .cY _,_,_,_,h=>by rw[aj]at h;rw[j.cj,aj];exact jz.one h
 | .br _ _,_,_,_,h=>by rw[aj]at h;obtain⟨arr,rfl,_⟩:=h;rw[j.cj,aj];exact⟨_,rfl,rfl⟩
theorem aQ.cj {w:World} {F:Nat->Prop}:∀(ds:Vr) (cs:Vp) (S aB:Nat->Prop),aQ w F ds cs S->aQ w F (j.jh ds) cs aB
 |[],_,_,_,h=>h
 |d::ds,cs,S,aB,h=>by
  rw[j.jh,aQ];rw[aQ]at h;obtain⟨bu,bN,bP,cx,U,aa,ax,aP,a9,bU⟩:=h;exact⟨bu,bN,λ_=>False,λ_=>False,U,aj.cj d _ _ _ aa,aQ.cj ds _ _ _ ax,λ_ h=>h.elim,λ_ h=>h.elim,λ_ h=>h.elim⟩
end
mutual
theorem aj.plain {w:World} {F:Nat->Prop}:∀(d:j) (cs:Vp) (S aB:Nat->Prop),d.plain=true->aj w F d cs S->aj w F d cs aB
 | .hole,_,_,_,_,h=>h
 | .bool _,_,_,_,_,h=>h
 | .dV,_,_,_,_,h=>h
 | .int _ _,_,_,_,_,h=>h
 | .str _,_,_,_,_,h=>h
 | .cW,_,_,_,_,h=>h
 | .aK,_,_,_,_,h=>h
 | .slice xs,cs,S,aB,_,h=>by rw[aj]at h⊢;exact h
 | .aq sz xs,cs,S,aB,ag,h=>by simp[j.plain]at ag
 | .ref d,cs,S,aB,_,h=>by rw[aj]at h⊢;exact h
 | .aS d,cs,S,aB,ag,h=>by simp[j.plain]at ag
 | .agg al,cs,S,aB,ag,h=>by rw[aj]at h⊢;exact aQ.plain al _ _ _ ag h
 | .tuple al,cs,S,aB,ag,h=>by rw[aj]at h⊢;exact aQ.plain al _ _ _ ag h
 | .fn _ _,_,_,_,_,h=>h
 | .h _ _,_,_,_,_,h=>h
 | .ag _ _,_,_,_,_,h=>h
 | .J _ _,_,_,_,_,h=>h
 | .cY _,_,_,_,ag,_=>by simp[j.plain]at ag
 | .br _ _,_,_,_,ag,_=>by simp[j.plain]at ag
theorem aQ.plain {w:World} {F:Nat->Prop}:∀(ds:Vr) (cs:Vp) (S aB:Nat->Prop),j.db ds=true->aQ w F ds cs S->aQ w F ds cs aB
 |[],_,_,_,_,h=>h
 |d::ds,cs,S,aB,ag,h=>by
  rw[aQ]at h⊢;simp only[j.db,Bool.and_eq_true]at ag;obtain⟨bu,bN,bP,cx,U,aa,ax,aP,a9,bU⟩:=h;exact⟨bu,bN,λ_=>False,λ_=>False,U,aj.plain d _ _ _ ag.1 aa,aQ.plain ds _ _ _ ag.2 ax,λ_ h=>h.elim,λ_ h=>h.elim,λ_ h=>h.elim⟩
end
def j.eu:Vm->j->Bool
 |[],_=>false
 |k::q,.agg al=>match al[k]? with
  |some d=>j.eu q d
  |none=>false
 |k::q,.tuple al=>match al[k]? with
  |some d=>j.eu q d
  |none=>false
 |_::_,.aq _ _=>true
 |_::_,.aS _=>true
 |_::_,_=>false
theorem vy {al:Vr} (h:j.db al=true) {k:Nat} {d:j} (ak:al[k]? =some d):d.plain=true:=by
 induction al generalizing k with
 |nil=>simp at ak
 |cons a al ih=>
  simp only[j.db,Bool.and_eq_true]at h;cases k with
  |zero=>simp at ak;subst ak;exact h.1
  |succ k=>simp at ak;exact ih h.2 ak
theorem j.Cz:∀(q:Vm) (d:j),d.plain=true->j.eu q d=false:=by
 intro q;induction q with
 |nil=>intros;rfl
 |cons k q ih=>
  intro d ad;cases d<;>first|rfl|(simp[j.plain]at ad;done)|skip
  all_goals
   simp only[j.eu];split
   .rename_i al x ae;exact ih _ (vy (by simpa [j.plain]using ad) ae)
   .rfl
theorem j.yi:∀(q:Vm) (d e:j),d.plain=true->j.sub q d=some e->e.plain=true:=by
 intro q;induction q with
 |nil=>intro d e ad h;simp[j.sub]at h;exact h▸ad
 |cons k q ih=>
  intro d e ad h;cases d<;>first|(simp[j.plain]at ad;done)|(simp[j.sub]at h;done)|skip
  all_goals
   simp only[j.sub]at h;split at h
   .rename_i al x ae;exact ih _ _ (vy (by simpa [j.plain]using ad) ae) h
   .cases h
theorem vz {w aw:World} {F:Nat->Prop}:∀(q:Vm) (av:j) (cs:Vp) (S:Nat->Prop) (a:Option (Nat×Nat)) (d:j),
  aj w F av cs S->j.sub q av=some d->(∀b,S b->aw.heap[b]? =w.heap[b]?)->cy aw q av cs a=cy w q av cs a:=by
 intro q;induction q with
 |nil=>intros;rfl
 |cons k q ih=>
  have fields:∀(al:Vr) (cs:Vp) (S:Nat->Prop) (a:Option (Nat×Nat)) (x d:j),aQ w F al cs S->al[k]? =some x->j.sub q x=some d->
    (∀b,S b->aw.heap[b]? =w.heap[b]?)->
    cy aw q x ((cs.drop (j.c0 (al.take k))).take x.wd) (a.map λl=>(l.1,l.2+j.c0 (al.take k)))=cy w q x ((cs.drop (j.c0 (al.take k))).take x.wd) (a.map λl=>(l.1,l.2+j.c0 (al.take k))):=by
   intro al cs S a x d h ae ad bB;obtain⟨bu,eN,bN,bP,gj,rfl,fY,eO,el,fP,dG,jX⟩:=aQ.pick al cs S k x h ae;rw[pY bu eN bN _ _ fY (aj.length _ _ _ dG)];exact ih x eN gj _ d dG ad (λb J=>bB b (el _ J))
  intro av cs S a d h ad bB;cases av with
  |agg al=>
   simp only[j.sub]at ad;split at ad
   .rename_i x ae;rw[aj]at h;simp only[cy,ae];exact fields al cs S a x d h ae ad bB
   .cases ad
  |tuple al=>
   simp only[j.sub]at ad;split at ad
   .rename_i x ae;rw[aj]at h;simp only[cy,ae];exact fields al cs S a x d h ae ad bB
   .cases ad
  |aq sz xs=>
   simp only[j.sub]at ad;split at ad
   .rename_i x ae;rw[aj]at h;rcases h with⟨rfl,_,rfl⟩|⟨b,cap,cur,e,fr,cU,rfl,aa,ax,aP,a9,bU,bO,dv,hG,gi,jA⟩
    .simp at ae
    .obtain⟨bu,eN,bN,bP,gj,p,fY,eO,el,fP,dG,jX⟩:=aQ.pick xs _ cU k x hG ae;have hl:=aj.length _ _ _ dG;have IL:k<xs.length:=(List.getElem?_eq_some_iff.1 ae).1;have s3:x.wd=sz:=dv x (mem_of_getElem? ae);have bk:j.c0 (xs.take k)=k*sz:=by
      rw[p0 _ (λd ad=>dv d (mem_of_mem_take ad))];rw[length_take,Nat.min_eq_left (by omega)]
     obtain⟨nM,jg⟩:∃nM,cur.toList=bu++(eN++(bN++nM)):=by
      refine⟨cur.toList.drop (xs.length*sz),?_⟩;have:=(take_append_drop (xs.length*sz) cur.toList).symm;rw[p]at this;simpa using this
     have h9:kU w b (k*sz) sz=eN:=by
      have:=rH ax jg
      rwa [fY,bk,hl,s3]at this
     have yj:kU aw b (k*sz) sz=eN:=by
      have:=rH ((bB b aa).trans ax) jg
      rwa [fY,bk,hl,s3]at this
     simp only[cy,ae,h9,yj];exact ih x eN gj _ d dG ad (λc ai=>bB c (gi _ (el _ ai)))
   .cases ad
  |aS x=>
   cases k with
   |succ k=>simp[j.sub]at ad
   |zero=>
    simp only[j.sub]at ad;rw[aj]at h;obtain⟨b,cur,e,fr,cU,rfl,aa,ax,aP,a9,bU,bO⟩:=h;have hl:=aj.length _ _ _ a9;have h9:kU w b 0 x.wd=cur.toList:=by
     have:=rH (l:=[]) (m:=cur.toList) (r:=[]) ax (by simp)
     rwa [hl]at this
    have yj:kU aw b 0 x.wd=cur.toList:=by
     have:=rH (l:=[]) (m:=cur.toList) (r:=[]) ((bB b aa).trans ax) (by simp)
     rwa [hl]at this
    simp only[cy,h9,yj];exact ih x cur.toList cU _ d a9 ad (λc ai=>bB c (bU _ ai))
  |_=>simp[j.sub]at ad
def gy:Value->Vp
 | .agg cs=>cs.toList
 |v=>[v]
def bW:Value->Vp
 | .tuple vs=>vs.toList.flatMap gy
 |v=>gy v
def gP:j->Value->Prop
 | .agg _,v=>∃arr,v= .agg arr
 |_,v=>Value.et v=true
def cM:j->Value->Prop
 | .tuple ds,v=>∃arr:Array Value,v= .tuple arr/\arr.size=ds.length/\∀(k:Nat) (d:j) (x:Value),ds[k]? =some d->arr[k]? =some x->gP d x/\(∀vs,d≠.tuple vs)/\(gy x).length=d.wd
 |d,v=>gP d v
abbrev af:=Nat->j
mutual
def az (w:World) (F:Nat->Prop) (s:af) (an:Nat->Value):j->Value->(Nat->Prop)->Prop
 | .hole,_,_=>True
 | .h x q,v,_=>∀d,j.sub q (s x)=some d->d.plain=false->∃b_ a,cy w q (s x) (bW (an x)) none=some (d,b_,a)/\bW v=b_/\cM d v
 | .ag x q,v,_=>∀d,j.sub q (s x)=some d->j.eu q (s x)=true->∃b_ b o,cy w q (s x) (bW (an x)) none=some (d,b_,some (b,o))/\v= .pointer (some ⟨b,o,none⟩)
 | .J x k,v,_=>(s x).plain=false->∃b cur e fr,v= .pointer (some ⟨b,k,none⟩)/\F b/\w.heap[b]? =some (.cells cur e fr)/\cur.toList=bW (an x)
 | .fn f cap,v,_=>∃arr:Array Value,v= .func (.func f) #[] arr/\cK w F s an cap arr.toList
 | .bool b,v,S=>cM (.bool b) v/\aj w F (.bool b) (bW v) S
 | .dV,v,S=>cM .dV v/\aj w F .dV (bW v) S
 | .int k n,v,S=>cM (.int k n) v/\aj w F (.int k n) (bW v) S
 | .str x,v,S=>cM (.str x) v/\aj w F (.str x) (bW v) S
 | .cW,v,S=>cM .cW v/\aj w F .cW (bW v) S
 | .aK,v,S=>cM .aK v/\aj w F .aK (bW v) S
 | .slice xs,v,S=>cM (.slice xs) v/\aj w F (.slice xs) (bW v) S
 | .aq sz xs,v,S=>cM (.aq sz xs) v/\aj w F (.aq sz xs) (bW v) S
 | .ref d,v,S=>cM (.ref d) v/\aj w F (.ref d) (bW v) S
 | .aS d,v,S=>cM (.aS d) v/\aj w F (.aS d) (bW v) S
 | .agg d,v,S=>cM (.agg d) v/\aj w F (.agg d) (bW v) S
 | .tuple d,v,S=>cM (.tuple d) v/\aj w F (.tuple d) (bW v) S
 | .cY o,v,S=>cM (.cY o) v/\aj w F (.cY o) (bW v) S
 | .br f d,v,S=>cM (.br f d) v/\aj w F (.br f d) (bW v) S
def cK (w:World) (F:Nat->Prop) (s:af) (an:Nat->Value):Vr->Vp->Prop
 |[],vs=>vs=[]
 |d::ds,vs=>∃v ev,vs=v::ev/\az w F s an d v (λ_=>False)/\cK w F s an ds ev
end
def j.tree:j->Bool
 | .hole=>false
 | .h _ _=>false
 | .ag _ _=>false
 | .J _ _=>false
 | .fn _ _=>false
 |_=>true
theorem az.b7 {w:World} {F:Nat->Prop} {s:af} {an:Nat->Value} {d:j} {v:Value} {S:Nat->Prop} (aO:d.tree=true):
  az w F s an d v S↔(cM d v/\aj w F d (bW v) S):=by
 cases d<;>first|(simp[j.tree]at aO;done)|rw[az]
theorem fZ {q:Vm} {av d:j} (h:j.sub q av=some d) (ag:d.plain=false\/j.eu q av=true):av.tree=true:=by
 cases q with
 |nil=>
  simp[j.sub]at h;subst h;rcases ag with ag|ag
  .cases av<;>first|rfl|(simp[j.plain]at ag)
  .simp[j.eu]at ag
 |cons k q=>cases av<;>first|rfl|(simp[j.sub]at h)
theorem yk {d:j} (h:d.plain=false):d.tree=true:=fZ (q:=[]) (by simp only[j.sub]) (.inl h)
theorem az.frame {w aw:World} {F ba:Nat->Prop} {s:af} {an:Nat->Value} {Sx:Nat->Nat->Prop} (a3:∀b,F b->aw.heap[b]? =w.heap[b]?) (CA:∀b,F b->ba b)
  (bB:∀x b,Sx x b->aw.heap[b]? =w.heap[b]?) (lz:∀x,az w F s an (s x) (an x) (Sx x)):
  ∀(d:j) (v:Value) (S:Nat->Prop),(∀b,S b->aw.heap[b]? =w.heap[b]?)->az w F s an d v S->az aw ba s an d v S:=by
 have iR:∀(x:Nat) (q:Vm) (d:j),j.sub q (s x)=some d->(d.plain=false\/j.eu q (s x)=true)->cy aw q (s x) (bW (an x)) none=cy w q (s x) (bW (an x)) none:=by
  intro x q d ad ag;have aO:=fZ ad ag;have:=lz x;rw[az.b7 aO]at this;exact vz q _ _ (Sx x) none d this.2 ad (bB x)
 have IM:∀(d:j) (v:Value) (S:Nat->Prop),d.tree=true->(∀b,S b->aw.heap[b]? =w.heap[b]?)->az w F s an d v S->az aw ba s an d v S:=by
  intro d v S aO p1 h;rw[az.b7 aO]at h⊢;exact⟨h.1,aj.mono CA _ _ _ _ (λ_ h=>h) (aj.frame a3 _ _ _ p1 h.2)⟩
 have step:∀n,(∀(d:j) (v:Value) (S:Nat->Prop),SizeOf.sizeOf d<=n->(∀b,S b->aw.heap[b]? =w.heap[b]?)->az w F s an d v S->az aw ba s an d v S)/\
   (∀(ds:Vr) (vs:Vp),SizeOf.sizeOf ds<=n->cK w F s an ds vs->cK aw ba s an ds vs):=by
  intro n;induction n with
  |zero=>
   refine⟨λd v S bC=>?_,λds vs bC=>?_⟩
   .cases d<;>simp at bC<;>omega
   .cases ds<;>simp at bC<;>omega
  |succ n ih=>
   refine⟨λd v S bC p1 h=>?_,λds vs bC h=>?_⟩
   .cases d with
    |hole=>rw[az];trivial
    |h x q=>
     rw[az]at h⊢;intro d ad ag;rw[iR x q d ad (.inl ag)];exact h d ad ag
    |ag x q=>
     rw[az]at h⊢;intro d ad ag;rw[iR x q d ad (.inr ag)];exact h d ad ag
    |J x k=>
     rw[az]at h⊢;intro ag;obtain⟨b,cur,e,fr,U,aa,ax,aP⟩:=h ag;exact⟨b,cur,e,fr,U,CA b aa,(a3 b aa).trans ax,aP⟩
    |fn f cap=>
     rw[az]at h⊢;obtain⟨arr,rfl,ai⟩:=h;exact⟨arr,rfl,ih.2 _ _ (by simp at bC;omega) ai⟩
    |_=>exact IM _ _ _ rfl p1 h
   .cases ds with
    |nil=>rw[cK]at h⊢;exact h
    |cons d ds=>
     rw[cK]at h⊢;obtain⟨v,ev,rfl,U,aa⟩:=h;simp at bC;exact⟨v,ev,rfl,ih.1 _ _ _ (by omega) (λ_ h=>h.elim) U,ih.2 _ _ (by omega) aa⟩
 intro d v S p1 h;exact(step (SizeOf.sizeOf d)).1 d v S (Nat.le_refl _) p1 h
mutual
def b9 (x:Nat):j->j
 | .h y q=>if y=x then .hole else .h y q
 | .ag y q=>if y=x then .hole else .ag y q
 | .J y k=>if y=x then .hole else .J y k
 | .fn f cap=>.fn f (hq x cap)
 |d=>d
def hq (x:Nat):Vr->Vr
 |[]=>[]
 |d::ds=>b9 x d::hq x ds
end
mutual
def bQ (x:Nat):j->j
 | .h y q=>if y=x then(if q=[]then .h y q else .hole)else .h y q
 | .ag y q=>if y=x then .hole else .ag y q
 | .fn f cap=>.fn f (g7 x cap)
 |d=>d
def g7 (x:Nat):Vr->Vr
 |[]=>[]
 |d::ds=>bQ x d::g7 x ds
end
def cA {α:Type} (f:Nat->α) (t:Nat) (v:α):Nat->α:=λu=>if u=t then v else f u
def ji (t:Nat) (s:af):af:=λu=>b9 t (s u)
def gz (t:Nat) (s:af):af:=λu=>bQ t (s u)
theorem kp {α:Type} (f:Nat->α) (t:Nat) (v:α):cA f t v t=v:=by simp[cA]
theorem hW {α:Type} (f:Nat->α) {t u:Nat} (v:α) (h:u≠t):cA f t v u=f u:=by simp[cA,h]
theorem IP {t:Nat} {d:j} (h:d.tree=true):b9 t d=d:=by cases d<;>first|rfl|(simp[j.tree]at h)
theorem yl {t:Nat} {d:j} (h:d.tree=true):bQ t d=d:=by cases d<;>first|rfl|(simp[j.tree]at h)
theorem IQ {t:Nat} {d:j} (h:(b9 t d).tree=true):d.tree=true/\b9 t d=d:=by
 cases d<;>first|exact⟨rfl,rfl⟩|(simp only[b9]at h;first|(split at h<;>simp[j.tree]at h)|simp[j.tree]at h)
theorem vA {t:Nat} {d:j} (h:(bQ t d).tree=true):d.tree=true/\bQ t d=d:=by
 cases d<;>first|exact⟨rfl,rfl⟩|(simp only[bQ]at h;first|(split at h<;>(try split at h)<;>simp[j.tree]at h)|simp[j.tree]at h)
section
variable {w:World} {F:Nat->Prop} {s au:af} {an h_:Nat->Value} {t:Nat}
theorem az.b9 (fz:∀x,x≠t->(au x).tree=true->au x=s x/\h_ x=an x):∀(n:Nat),
  (∀(d:j) (v:Value) (S:Nat->Prop),SizeOf.sizeOf d<=n->az w F s an d v S->az w F au h_ (cV.b9 t d) v S)/\
  (∀(ds:Vr) (vs:Vp),SizeOf.sizeOf ds<=n->cK w F s an ds vs->cK w F au h_ (hq t ds) vs):=by
 intro n;induction n with
 |zero=>
  refine⟨λd v S bC=>?_,λds vs bC=>?_⟩
  .cases d<;>simp at bC<;>omega
  .cases ds<;>simp at bC<;>omega
 |succ n ih=>
  refine⟨λd v S bC h=>?_,λds vs bC h=>?_⟩
  .cases d with
   |hole=>rw[cV.b9.eq_def];simp only;rw[az];trivial
   |h x q=>
    simp only[cV.b9];split
    .rw[az];trivial
    .rename_i ae;rw[az]at h⊢;intro d ad ag;obtain⟨aI,aR⟩:=fz x ae (fZ ad (.inl ag));rw[aI,aR];rw[aI]at ad;exact h d ad ag
   |ag x q=>
    simp only[cV.b9];split
    .rw[az];trivial
    .rename_i ae;rw[az]at h⊢;intro d ad ag;obtain⟨aI,aR⟩:=fz x ae (fZ ad (.inr ag));rw[aI,aR];rw[aI]at ad ag;exact h d ad ag
   |J x k=>
    simp only[cV.b9];split
    .rw[az];trivial
    .rename_i ae;rw[az]at h⊢;intro ag;obtain⟨aI,aR⟩:=fz x ae (yk ag);rw[aR];rw[aI]at ag;exact h ag
   |fn f cap=>
    simp only[cV.b9];rw[az]at h⊢;obtain⟨arr,rfl,ai⟩:=h;exact⟨arr,rfl,ih.2 _ _ (by simp at bC;omega) ai⟩
   |_=>
    rw[IP (by rfl)];exact(az.b7 (by rfl)).2 ((az.b7 (by rfl)).1 h)
  .cases ds with
   |nil=>rw[hq,cK];rw[cK]at h;exact h
   |cons d ds=>
    rw[hq,cK];rw[cK]at h;obtain⟨v,ev,rfl,U,aa⟩:=h;simp at bC;exact⟨v,ev,rfl,ih.1 _ _ _ (by omega) U,ih.2 _ _ (by omega) aa⟩
theorem az.bQ {aw:World} (fz:∀x,x≠t->(au x).tree=true->au x=s x/\h_ x=an x) (gA:h_ t=an t) (jY:(au t).plain=false->(s t).plain=false/\∀v,cM (s t) v->cM (au t) v)
  (iR:∀x q d,x≠t->j.sub q (s x)=some d->(d.plain=false\/j.eu q (s x)=true)->cy aw q (s x) (bW (an x)) none=cy w q (s x) (bW (an x)) none)
  (a3:∀b,F b->aw.heap[b]? =w.heap[b]?):∀(n:Nat),
  (∀(d:j) (v:Value) (S:Nat->Prop),SizeOf.sizeOf d<=n->(∀b,S b->aw.heap[b]? =w.heap[b]?)->az w F s an d v S->az aw F au h_ (cV.bQ t d) v S)/\
  (∀(ds:Vr) (vs:Vp),SizeOf.sizeOf ds<=n->cK w F s an ds vs->cK aw F au h_ (g7 t ds) vs):=by
 intro n;induction n with
 |zero=>
  refine⟨λd v S bC=>?_,λds vs bC=>?_⟩
  .cases d<;>simp at bC<;>omega
  .cases ds<;>simp at bC<;>omega
 |succ n ih=>
  refine⟨λd v S bC p1 h=>?_,λds vs bC h=>?_⟩
  .cases d with
   |hole=>rw[cV.bQ.eq_def];simp only;rw[az];trivial
   |h x q=>
    simp only[cV.bQ];split
    .rename_i ae;subst ae;split
     .rename_i b2;subst b2;rw[az]at h⊢;intro d ad ag;simp only[j.sub,some.injEq]at ad;subst ad;obtain⟨c5,bz⟩:=jY ag;obtain⟨b_,a,aL,a0,bK⟩:=h (s x) rfl c5;simp only[cy,some.injEq,Prod.mk.injEq]at aL;obtain⟨-,aL,TX⟩:=aL;refine⟨bW (h_ x),none,rfl,?_,bz _ bK⟩;rw[gA,a0,<-aL]
     .rw[az];trivial
    .rename_i ae;rw[az]at h⊢;intro d ad ag;obtain⟨aI,aR⟩:=fz x ae (fZ ad (.inl ag));rw[aI,aR];rw[aI]at ad;rw[iR x q d ae ad (.inl ag)];exact h d ad ag
   |ag x q=>
    simp only[cV.bQ];split
    .rw[az];trivial
    .rename_i ae;rw[az]at h⊢;intro d ad ag;obtain⟨aI,aR⟩:=fz x ae (fZ ad (.inr ag));rw[aI,aR];rw[aI]at ad ag;rw[iR x q d ae ad (.inr ag)];exact h d ad ag
   |J x k=>
    simp only[cV.bQ];rw[az]at h⊢;intro ag;by_cases ae:x=t
    .subst ae;obtain⟨b,cur,e,fr,U,aa,ax,aP⟩:=h (jY ag).1;exact⟨b,cur,e,fr,U,aa,(a3 b aa).trans ax,by rw[gA];exact aP⟩
    .obtain⟨aI,aR⟩:=fz x ae (yk ag);rw[aI]at ag;obtain⟨b,cur,e,fr,U,aa,ax,aP⟩:=h ag;exact⟨b,cur,e,fr,U,aa,(a3 b aa).trans ax,by rw[aR];exact aP⟩
   |fn f cap=>
    simp only[cV.bQ];rw[az]at h⊢;obtain⟨arr,rfl,ai⟩:=h;exact⟨arr,rfl,ih.2 _ _ (by simp at bC;omega) ai⟩
   |_=>
    rw[yl (by rfl)];have bl:=(az.b7 (by rfl)).1 h;exact(az.b7 (by rfl)).2 ⟨bl.1,aj.frame a3 _ _ _ p1 bl.2⟩
  .cases ds with
   |nil=>rw[g7,cK];rw[cK]at h;exact h
   |cons d ds=>
    rw[g7,cK];rw[cK]at h;obtain⟨v,ev,rfl,U,aa⟩:=h;simp at bC;exact⟨v,ev,rfl,ih.1 _ _ _ (by omega) (λ_ h=>h.elim) U,ih.2 _ _ (by omega) aa⟩
theorem az.void (fz:∀x,x≠t->(au x).tree=true->au x=s x/\h_ x=an x) (mg:(au t).plain=true):∀(n:Nat),
  (∀(d:j) (v:Value) (S:Nat->Prop),SizeOf.sizeOf d<=n->az w F s an d v S->az w F au h_ d v S)/\
  (∀(ds:Vr) (vs:Vp),SizeOf.sizeOf ds<=n->cK w F s an ds vs->cK w F au h_ ds vs):=by
 intro n;induction n with
 |zero=>
  refine⟨λd v S bC=>?_,λds vs bC=>?_⟩
  .cases d<;>simp at bC<;>omega
  .cases ds<;>simp at bC<;>omega
 |succ n ih=>
  refine⟨λd v S bC h=>?_,λds vs bC h=>?_⟩
  .cases d with
   |hole=>rw[az];trivial
   |h x q=>
    rw[az]at h⊢;intro d ad ag;by_cases ae:x=t
    .subst ae;rw[j.yi _ _ _ mg ad]at ag;cases ag
    .obtain⟨aI,aR⟩:=fz x ae (fZ ad (.inl ag));rw[aI,aR];rw[aI]at ad;exact h d ad ag
   |ag x q=>
    rw[az]at h⊢;intro d ad ag;by_cases ae:x=t
    .subst ae;rw[j.Cz _ _ mg]at ag;cases ag
    .obtain⟨aI,aR⟩:=fz x ae (fZ ad (.inr ag));rw[aI,aR];rw[aI]at ad ag;exact h d ad ag
   |J x k=>
    rw[az]at h⊢;intro ag;by_cases ae:x=t
    .subst ae;rw[mg]at ag;cases ag
    .obtain⟨aI,aR⟩:=fz x ae (yk ag);rw[aR];rw[aI]at ag;exact h ag
   |fn f cap=>
    rw[az]at h⊢;obtain⟨arr,rfl,ai⟩:=h;exact⟨arr,rfl,ih.2 _ _ (by simp at bC;omega) ai⟩
   |_=>exact(az.b7 (by rfl)).2 ((az.b7 (by rfl)).1 h)
  .cases ds with
   |nil=>rw[cK];rw[cK]at h;exact h
   |cons d ds=>
    rw[cK];rw[cK]at h;obtain⟨v,ev,rfl,U,aa⟩:=h;simp at bC;exact⟨v,ev,rfl,ih.1 _ _ _ (by omega) U,ih.2 _ _ (by omega) aa⟩
end
def IU:Bool:=false
def Out (w w0:World):Prop:=w.output=w0.output/\(IU=true->w0.drawn<=w.drawn)
theorem Out.trans {a b c:World} (h:Out a b) (aa:Out b c):Out a c:=⟨Eq.trans h.1 aa.1,λd=>Nat.le_trans (aa.2 d) (h.2 d)⟩
theorem Out.refl (w:World):Out w w:=⟨rfl,λ_=>Nat.le_refl _⟩
def IV:List (Nat×(Obj->Prop)):=[]
def rI (w:World) (X:Nat->Prop):Prop:=∀p∈IV,p.1<w.heap.size/\¬X p.1/\∃o,w.heap[p.1]? =some o/\p.2 o
theorem rI.next {w aw:World} {X Y:Nat->Prop} (h:rI w X) (R:w.heap.size<=aw.heap.size) (J:∀b,b<w.heap.size->¬X b->aw.heap[b]? =w.heap[b]?) (a_:∀b,Y b->X b\/w.heap.size<=b):rI aw Y:=λp ag=>by
 obtain⟨U,aa,o,ax,aP⟩:=h p ag;refine⟨Nat.lt_of_lt_of_le U R,λh=>?_,o,(J _ U aa).trans ax,aP⟩;rcases a_ _ h with h|h
 .exact aa h
 .omega
structure bg (w0:World) (F0 X F:Nat->Prop) (S:Nat->Nat->Prop) (s:af) (an:Nat->Value) (w:World):Prop where
 fl:∀b,F0 b->F b
 fA:∀b,F b->F0 b\/X b\/w0.heap.size<=b
 eg:∀b,F b->b<w.heap.size
 dw:∀t b,S t b->b<w.heap.size
 ew:∀t b,S t b->¬F b
 dS:∀t u b,t≠u->S t b->¬S u b
 cU:∀t b,S t b->X b\/w0.heap.size<=b
 cG:∀t,az w F s an (s t) (an t) (S t)
 old:∀b,b<w0.heap.size->¬X b->w.heap[b]? =w0.heap[b]?
 size:w0.heap.size<=w.heap.size
 os:w.os=w0.os
 tape:w.tape=w0.tape
 output:Out w w0
 fB:rI w0 X
section
variable {w0 w aw:World} {F0 X F:Nat->Prop} {S:Nat->Nat->Prop} {s:af} {an:Nat->Value}
theorem bg.grow (h:bg w0 F0 X F S s an w) (J:∀b,b<w.heap.size->aw.heap[b]? =w.heap[b]?) (R:w.heap.size<=aw.heap.size)
  (U:aw.os=w.os) (aa:aw.tape=w.tape) (ax:Out aw w):bg w0 F0 X F S s an aw where
 fl:=h.fl
 fA:=h.fA
 eg:=λb a3=>Nat.lt_of_lt_of_le (h.eg b a3) R
 dw:=λt b a3=>Nat.lt_of_lt_of_le (h.dw t b a3) R
 ew:=h.ew
 dS:=h.dS
 cU:=h.cU
 cG:=λt=>az.frame (Sx:=S) (λb a3=>J b (h.eg b a3)) (λ_ h=>h) (λx b bB=>J b (h.dw x b bB)) h.cG _ _ _ (λb bB=>J b (h.dw t b bB)) (h.cG t)
 old:=λb da hX=>(J b (Nat.lt_of_lt_of_le da h.size)).trans (h.old b da hX)
 size:=Nat.le_trans h.size R
 os:=U.trans h.os
 tape:=aa.trans h.tape
 output:=ax.trans h.output
 fB:=h.fB
def fm (S:Nat->Nat->Prop) (t:Nat) (Sn:Nat->Prop):Nat->Nat->Prop:=λu b=>if u=t then Sn b else S u b
theorem s6 (S:Nat->Nat->Prop) (t:Nat) (Sn:Nat->Prop):fm S t Sn t=Sn:=by funext b;simp[fm]
theorem s7 (S:Nat->Nat->Prop) {t u:Nat} (Sn:Nat->Prop) (h:u≠t):fm S t Sn u=S u:=by funext b;simp[fm,h]
theorem bg.s8 (h:bg w0 F0 X F S s an w) {t:Nat} {d:j} {v:Value} (ag:d.plain=true) (ad:az w F s an d v (λ_=>False)):
  bg w0 F0 X F (fm S t (λ_=>False)) (cA s t d) (cA an t v) w where
 fl:=h.fl
 fA:=h.fA
 eg:=h.eg
 dw:=λu b J=>by simp only[fm]at J;split at J;exact J.elim;exact h.dw u b J
 ew:=λu b J=>by simp only[fm]at J;split at J;exact J.elim;exact h.ew u b J
 dS:=λu x b cJ J ae=>by
  simp only[fm]at J ae;split at J
  .exact J.elim
  .split at ae
   .exact ae.elim
   .exact h.dS u x b cJ J ae
 cU:=λu b J=>by simp only[fm]at J;split at J;exact J.elim;exact h.cU u b J
 cG:=λu=>by
  have fz:∀x,x≠t->(cA s t d x).tree=true->cA s t d x=s x/\cA an t v x=an x:=λx ae _=>⟨hW _ _ ae,hW _ _ ae⟩
  have mg:(cA s t d t).plain=true:=by rw[kp];exact ag
  by_cases hu:u=t
  .subst hu;rw[kp,kp,s6];exact(az.void fz mg _).1 _ _ _ (Nat.le_refl _) ad
  .rw[hW _ _ hu,hW _ _ hu,s7 _ _ hu];exact(az.void fz mg _).1 _ _ _ (Nat.le_refl _) (h.cG u)
 old:=h.old
 size:=h.size
 os:=h.os
 tape:=h.tape
 output:=h.output
 fB:=h.fB
theorem bg.CB (h:bg w0 F0 X F S s an w) {t:Nat} {d:j} {v:Value} {Sn:Nat->Prop} (ad:d.tree=true) (R:cM d v) (aE:aj w F d (bW v) Sn)
  (da:∀b,Sn b->b<w.heap.size) (a3:∀b,Sn b->¬F b) (bB:∀u b,u≠t->Sn b->¬S u b) (bt:∀b,Sn b->X b\/w0.heap.size<=b):
  bg w0 F0 X F (fm S t Sn) (cA (ji t s) t d) (cA an t v) w where
 fl:=h.fl
 fA:=h.fA
 eg:=h.eg
 dw:=λu b J=>by simp only[fm]at J;split at J;exact da b J;exact h.dw u b J
 ew:=λu b J=>by simp only[fm]at J;split at J;exact a3 b J;exact h.ew u b J
 dS:=λu x b cJ J ae=>by
  simp only[fm]at J ae;split at J
  .rename_i hu;rw[if_neg (λe=>cJ (hu.trans e.symm))]at ae;exact bB x b (λe=>cJ (hu.trans e.symm)) J ae
  .rename_i hu;split at ae
   .exact bB u b hu ae J
   .exact h.dS u x b cJ J ae
 cU:=λu b J=>by simp only[fm]at J;split at J;exact bt b J;exact h.cU u b J
 cG:=λu=>by
  have fz:∀x,x≠t->(cA (ji t s) t d x).tree=true->cA (ji t s) t d x=s x/\cA an t v x=an x:=λx ae aO=>by
   rw[hW _ _ ae]at aO⊢;exact⟨(IQ aO).2,hW _ _ ae⟩
  by_cases hu:u=t
  .subst hu;rw[kp,kp,s6];exact(az.b7 ad).2 ⟨R,aE⟩
  .rw[hW _ _ hu,hW _ _ hu,s7 _ _ hu];exact(az.b9 fz _).1 _ _ _ (Nat.le_refl _) (h.cG u)
 old:=h.old
 size:=h.size
 os:=h.os
 tape:=h.tape
 output:=h.output
 fB:=h.fB
theorem oU (k:Nat) (q:Vm) (a8 x:j):(∃al gs,x= .agg al/\j.put (k::q) a8 x= .agg gs)\/(∃al gs,x= .tuple al/\j.put (k::q) a8 x= .tuple gs)\/
  (∃sz xs ys,x= .aq sz xs/\j.put (k::q) a8 x= .aq sz ys)\/(∃y z,x= .aS y/\j.put (k::q) a8 x= .aS z)\/j.put (k::q) a8 x=x:=by
 cases x with
 |agg al=>simp only[j.put];split<;>exact .inl ⟨_,_,rfl,rfl⟩
 |tuple al=>simp only[j.put];split<;>exact .inr (.inl ⟨_,_,rfl,rfl⟩)
 |aq sz al=>simp only[j.put];split<;>exact .inr (.inr (.inl ⟨_,_,_,rfl,rfl⟩))
 |aS y=>cases k<;>exact .inr (.inr (.inr (.inl ⟨_,_,rfl,rfl⟩)))
 |_=>exact .inr (.inr (.inr (.inr rfl)))
theorem CC {k:Nat} {q:Vm} {a8 x:j} {v:Value} (h:gP x v):gP (j.put (k::q) a8 x) v:=by
 rcases oU k q a8 x with⟨al,gs,rfl,e⟩|⟨al,gs,rfl,e⟩|⟨sz,xs,ys,rfl,e⟩|⟨y,z,rfl,e⟩|e<;>rw[e]<;>exact h
theorem CD {k:Nat} {q:Vm} {a8 x:j} (h:∀vs,x≠.tuple vs):∀vs,j.put (k::q) a8 x≠.tuple vs:=by
 rcases oU k q a8 x with⟨al,gs,rfl,e⟩|⟨al,gs,rfl,e⟩|⟨sz,xs,ys,rfl,e⟩|⟨y,z,rfl,e⟩|e<;>rw[e]<;>first|exact h|(intro vs bl;cases bl;done)|exact(h _ rfl).elim
theorem s9 {k:Nat} {q:Vm} {d a8 av:j} {v:Value} (h:cM av v) (ad:j.sub (k::q) av=some d) (U:∀v,gP d v->gP a8 v) (aa:(∀vs,d≠.tuple vs)->∀vs,a8≠.tuple vs) (ax:a8.wd=d.wd):
  cM (j.put (k::q) a8 av) v:=by
 cases av with
 |tuple al=>
  simp only[j.sub]at ad;split at ad
  .rename_i x ae;simp only[j.put,ae];simp only[cM]at h⊢;obtain⟨arr,rfl,bC,lz⟩:=h;refine⟨arr,rfl,by simpa using bC,λaD e y he a_=>?_⟩;rw[getElem?_set]at he;split at he
   .rename_i ym;subst ym;split at he
    .simp only[some.injEq]at he;subst he;obtain⟨aL,a0,bK⟩:=lz k x y ae a_;refine⟨?_,?_,bK.trans (j.rG q x d a8 ad ax).symm⟩
     .cases q with
      |nil=>
       simp only[j.sub,some.injEq]at ad;subst ad;exact U _ aL
      |cons b6 q=>exact CC aL
     .cases q with
      |nil=>
       simp only[j.sub,some.injEq]at ad;subst ad;exact aa a0
      |cons b6 q=>exact CD a0
    .cases he
   .exact lz aD e y he a_
  .cases ad
 |agg al=>simp only[j.put];split<;>exact h
 |aq sz al=>simp only[j.put];split<;>exact h
 |aS y=>cases k<;>exact h
 |_=>exact h
theorem yn {d:j} {v:Value} (h:gP d v):gP d.cj v:=by cases d<;>exact h
theorem CE {s:af} {x:Nat} {q:Vm} {d:j} (ad:j.sub q (s x)=some d) (ag:d.plain=false):
  (cA (gz x s) x (j.put q d.cj (s x)) x).plain=false->(s x).plain=false/\∀v,cM (s x) v->cM (cA (gz x s) x (j.put q d.cj (s x)) x) v:=by
  rw[kp];intro eP;cases q with
  |nil=>
   exfalso;have:∀d:j,d.cj.plain=true:=by
    intro d;have key:∀n,(∀d:j,SizeOf.sizeOf d<=n->d.cj.plain=true)/\(∀ds:Vr,SizeOf.sizeOf ds<=n->j.db (j.jh ds)=true):=by
     intro n;induction n with
     |zero=>exact⟨λd bC=>by cases d<;>simp at bC<;>omega,λds bC=>by cases ds<;>simp at bC<;>omega⟩
     |succ n ih=>
      refine⟨λd bC=>?_,λds bC=>?_⟩
      .cases d with
       |agg al=>simp only[j.cj,j.plain];exact ih.2 _ (by simp at bC;omega)
       |tuple al=>simp only[j.cj,j.plain];exact ih.2 _ (by simp at bC;omega)
       |_=>rfl
      .cases ds with
       |nil=>rfl
       |cons d ds=>
        simp at bC;simp only[j.jh,j.db,Bool.and_eq_true];exact⟨ih.1 _ (by omega),ih.2 _ (by omega)⟩
    exact(key _).1 d (Nat.le_refl _)
   simp only[j.put]at eP;rw[this]at eP;cases eP
  |cons k q=>
   refine⟨?_,λv aE=>s9 aE ad (λv h=>yn h) (λh vs e=>?_) (j.oT d)⟩
   .cases cH:(s x).plain with
    |false=>rfl
    |true=>rw[j.yi _ _ _ cH ad]at ag;cases ag
   .cases d<;>first|(exact h _ rfl)|(simp[j.cj]at e)
theorem bg.take (h:bg w0 F0 X F S s an w) {x:Nat} {q:Vm} {d:j} (ad:j.sub q (s x)=some d) (ag:d.plain=false):
  ∃(Sn dW:Nat->Prop) (b_:Vp) (a:Option (Nat×Nat)),bg w0 F0 X F (fm S x Sn) (cA (gz x s) x (j.put q d.cj (s x))) an w/\
   cy w q (s x) (bW (an x)) none=some (d,b_,a)/\aj w F d b_ dW/\(∀b,dW b->S x b)/\(∀b,Sn b->S x b)/\(∀b,dW b->¬Sn b)/\
   (∀(a8:j) (v:Value) (aB:Nat->Prop),az w F s an a8 v aB->az w F (cA (gz x s) x (j.put q d.cj (s x))) an (cV.bQ x a8) v aB):=by
 have aO:=fZ ad (.inl ag);have ae:=h.cG x;rw[az.b7 aO]at ae;obtain⟨b_,a,c1,dW,fg,aL,a0,bK,cF,dq⟩:=ctx q (s x) (bW (an x)) (S x) none d ae.2 ad;have iB:aj w F (j.put q d.cj (s x)) (bW (an x)) c1:=by
  have kq:aj w F d.cj b_ (λ_=>False):=aj.cj _ _ _ _ cF;have lA:∀b,(c1 b\/False)->c1 b:=λb h=>h.elim id False.elim;rcases dq with⟨l,r,aI,aR,aX⟩|⟨b,cur,e,fr,l,r,aI,aR,aX,bT,cb,bH⟩
  .have:=aX w _ b_ _ (λ_ _=>rfl) (λ_ _=>rfl) (j.oT d) kq (λ_ h=>h.elim);rw[<-aI]at this;exact aj.mono (λ_ h=>h) _ _ _ _ lA this
  .have:=bH w _ b_ _ (λ_ _=>rfl) (λ_ _ _=>rfl) (by rw[aX,<-cb]) (j.oT d) kq (λ_ h=>h.elim);exact aj.mono (λ_ h=>h) _ _ _ _ lA this
 have IW:cM (j.put q d.cj (s x)) (an x)/\(j.put q d.cj (s x)).tree=true\/j.put q d.cj (s x)= .hole:=by
  cases q with
  |nil=>
   simp only[j.sub,some.injEq]at ad;subst ad;simp only[j.put];cases R:s x with
   |aq sz xs=>right;rfl
   |aS y=>right;rfl
   |cY y=>right;rfl
   |agg al=>left;rw[R]at ae;exact⟨ae.1,rfl⟩
   |tuple al=>
    left;rw[R]at ae;refine⟨?_,rfl⟩;simp only[cM,j.cj]at ae⊢;obtain⟨arr,e,bC,lz⟩:=ae.1;have hl:∀al:Vr,j.jh al=al.map j.cj:=by
     intro al;induction al with
     |nil=>rfl
     |cons a al ih=>simp[j.jh,ih]
    refine⟨arr,e,by rw[hl];simpa using bC,λk fk y he a_=>?_⟩;rw[hl,getElem?_map]at he;cases ak:al[k]? with
    |none=>rw[ak]at he;cases he
    |some z=>
     rw[ak]at he;simp only[map_some,some.injEq]at he;subst he;obtain⟨aL,a0,bK⟩:=lz k z y ak a_;refine⟨yn aL,λvs e=>?_,bK.trans (j.oT z).symm⟩;cases z<;>first|(exact a0 _ rfl)|(simp[j.cj]at e)
   |br _ _=>right;simp[j.cj]
   |_=>rw[R]at ag;simp[j.plain]at ag
  |cons k q=>
   left;refine⟨s9 ae.1 ad (λv h=>yn h) (λh vs e=>?_) (j.oT d),?_⟩
   .cases d<;>first|(exact h _ rfl)|(simp[j.cj]at e)
   .rcases oU k q d.cj (s x)with⟨al,gs,aI,e⟩|⟨al,gs,aI,e⟩|⟨sz,xs,ys,aI,e⟩|⟨y,z,aI,e⟩|e<;>rw[e]<;>first|rfl|exact aO
 refine⟨c1,dW,b_,a,?_,fg,cF,a0,aL,λb U aa=>bK b aa U,?_⟩
 rotate_left
 .have fz:∀y,y≠x->(cA (gz x s) x (j.put q d.cj (s x)) y).tree=true->cA (gz x s) x (j.put q d.cj (s x)) y=s y/\an y=an y:=λy a_ aO=>by
   rw[hW _ _ a_]at aO⊢;exact⟨(vA aO).2,rfl⟩
  intro a8 v aB fF;exact(az.bQ fz rfl (CE ad ag) (λ_ _ _ _ _ _=>rfl) (λ_ _=>rfl) _).1 _ _ _ (Nat.le_refl _) (λ_ _=>rfl) fF
 have fz:∀y,y≠x->(cA (gz x s) x (j.put q d.cj (s x)) y).tree=true->cA (gz x s) x (j.put q d.cj (s x)) y=s y/\an y=an y:=λy a_ aO=>by
  rw[hW _ _ a_]at aO⊢;exact⟨(vA aO).2,rfl⟩
 have jY:=CE (s:=s) (x:=x) ad ag;constructor;case fl=>exact h.fl
 case fA=>exact h.fA
 case eg=>exact h.eg
 case dw=>exact λu b J=>by simp only[fm]at J;split at J;exact h.dw x b (aL b J);exact h.dw u b J
 case ew=>exact λu b J=>by simp only[fm]at J;split at J;exact h.ew x b (aL b J);exact h.ew u b J
 case dS=>
  intro u y b cJ J a_;simp only[fm]at J a_;split at J
  .rename_i hu;rw[if_neg (λe=>cJ (hu.trans e.symm))]at a_;exact h.dS x y b (λe=>cJ (hu.trans e)) (aL b J) a_
  .rename_i hu;split at a_
   .exact h.dS u x b hu J (aL b a_)
   .exact h.dS u y b cJ J a_
 case cU=>exact λu b J=>by simp only[fm]at J;split at J;exact h.cU x b (aL b J);exact h.cU u b J
 case cG=>
  intro u;by_cases hu:u=x
  .subst hu;rw[kp,s6];rcases IW with⟨aI,aR⟩|e
   .exact(az.b7 aR).2 ⟨aI,iB⟩
   .rw[e,az];trivial
  .rw[hW _ _ hu,s7 _ _ hu];exact(az.bQ fz rfl jY (λ_ _ _ _ _ _=>rfl) (λ_ _=>rfl) _).1 _ _ _ (Nat.le_refl _) (λ_ _=>rfl) (h.cG u)
 case old=>exact h.old
 case size=>exact h.size
 case os=>exact h.os
 case tape=>exact h.tape
 case output=>exact h.output
 case fB=>exact h.fB
theorem bg.store (h:bg w0 F0 X F S s an w) {x:Nat} {q:Vm} {d a8:j} (ad:j.sub q (s x)=some d) (ai:j.eu q (s x)=true)
  {eJ:Vp} {Sn:Nat->Prop} (aE:aj w F a8 eJ Sn) (iQ:a8.wd=d.wd)
  (da:∀b,Sn b->b<w.heap.size) (a3:∀b,Sn b->¬F b) (bB:∀u b,Sn b->¬S u b) (bt:∀b,Sn b->X b\/w0.heap.size<=b):
  ∃(b_:Vp) (b:Nat) (l r:Vp) (cur:Array Value) (e:TypeId) (fr:Nat×Nat),cy w q (s x) (bW (an x)) none=some (d,b_,some (b,l.length))/\
   w.heap[b]? =some (.cells cur e fr)/\cur.toList=l++(b_++r)/\kn fr cur.size/\
   ∀aw,aw.heap[b]? =some (.cells (l++(eJ++r)).toArray e fr)->(∀c,c≠b->aw.heap[c]? =w.heap[c]?)->aw.heap.size=w.heap.size->aw.os=w.os->aw.tape=w.tape->Out aw w->
    ∃aB,bg w0 F0 X F aB (cA (gz x s) x (j.put q a8 (s x))) an aw:=by
 have aO:=fZ ad (.inr ai);have ae:=h.cG x;rw[az.b7 aO]at ae;obtain⟨b_,a,c1,dW,fg,aL,a0,bK,cF,dq⟩:=ctx q (s x) (bW (an x)) (S x) none d ae.2 ad;have IX:yc w F q (s x) (bW (an x)) d b_ a c1:=by
  rcases dq with⟨l,r,aI,aR,aX⟩|dq
  .exfalso;have hY:∀(q:Vm) (av:j) (cs:Vp) (I:Option (Nat×Nat)) (d:j) (b_:Vp),j.eu q av=true->cy w q av cs I=some (d,b_,none)->False:=by
    intro q;induction q with
    |nil=>intro av cs I d b_ ai;simp[j.eu]at ai
    |cons k q ih=>
     have CF:∀(q:Vm) (av:j) (cs:Vp) (l:Nat×Nat) (d:j) (b_:Vp),cy w q av cs (some l)=some (d,b_,none)->False:=by
      intro q;induction q with
      |nil=>intro av cs l d b_ h;simp[cy]at h
      |cons k q vB=>
       intro av cs l d b_ h;cases av with
       |agg al=>rw[cy]at h;split at h;exact vB _ _ _ _ _ h;cases h
       |tuple al=>rw[cy]at h;split at h;exact vB _ _ _ _ _ h;cases h
       |aq sz xs=>simp only[cy]at h;split at h;exact vB _ _ _ _ _ h;cases h
       |aS y=>
        cases k with
        |zero=>rw[cy.eq_def]at h;simp only at h;split at h;exact vB _ _ _ _ _ h;cases h
        |succ k=>rw[show cy w ((k+1)::q) (.aS y) cs (some l)=none from rfl]at h;cases h
       |_=>simp[cy]at h
     intro av cs I d b_ ai h;cases av with
     |agg al=>
      simp only[j.eu]at ai;split at ai
      .rename_i y a_;simp only[cy,a_]at h;exact ih _ _ _ _ _ ai h
      .cases ai
     |tuple al=>
      simp only[j.eu]at ai;split at ai
      .rename_i y a_;simp only[cy,a_]at h;exact ih _ _ _ _ _ ai h
      .cases ai
     |aq sz xs=>simp only[cy]at h;split at h;exact CF _ _ _ _ _ _ h;cases h
     |aS y=>
      cases k with
      |zero=>rw[cy.eq_def]at h;simp only at h;split at h;exact CF _ _ _ _ _ _ h;cases h
      |succ k=>rw[show cy w ((k+1)::q) (.aS y) cs I=none from rfl]at h;cases h
     |_=>simp[j.eu]at ai
   simp only[map_none]at aR;subst aR;exact hY _ _ _ _ _ _ ai fg
  .exact dq
 obtain⟨b,cur,e,fr,l,r,rfl,aR,aX,bT,cb,bH⟩:=IX;refine⟨b_,b,l,r,cur,e,fr,fg,aX,cb,bT,?_⟩;intro aw hH lB df yo yp p2;have p3:S x b:=aL _ aR;have m9:∀c,F c->aw.heap[c]? =w.heap[c]? :=λc ai=>lB c (by rintro rfl;exact h.ew x _ p3 ai);have TY:eJ.length=b_.length:=by rw[aj.length _ _ _ aE,aj.length _ _ _ cF,iQ]
 have iB:=bH aw a8 eJ Sn m9 (λc _ cJ=>lB c cJ) hH iQ
  (aj.frame m9 _ _ _ (λc ai=>lB c (by rintro rfl;exact bB x _ ai p3)) aE) (λc ai lA=>bB x c ai (aL _ lA))
 obtain⟨k,hI,rfl⟩:∃k hI,q=k::hI:=by
  cases q with
  |nil=>simp[j.eu]at ai
  |cons k q=>exact⟨k,q,rfl⟩
 have s_:∀v,cM (s x) v->cM (j.put (k::hI) a8 (s x)) v:=by
  intro v aE;rcases oU k hI a8 (s x)with⟨al,gs,aI,e⟩|⟨al,gs,aI,e⟩|⟨sz,xs,ys,aI,e⟩|⟨y,z,aI,e⟩|e
  .rw[e];rw[aI]at aE;exact aE
  ·
   rw[aI]at aE ad ai⊢;simp only[j.eu]at ai;split at ai
   .rename_i y a_;simp only[j.put,a_];cases hI with
    |nil=>simp[j.eu]at ai
    |cons b6 dY=>
     simp only[cM]at aE⊢;obtain⟨arr,rfl,bC,lz⟩:=aE;refine⟨arr,rfl,by simpa using bC,λaD e i1 he p4=>?_⟩;rw[getElem?_set]at he;split at he
     .rename_i ym;subst ym;split at he
      .simp only[some.injEq]at he;subst he;obtain⟨aL,a0,bK⟩:=lz _ y i1 a_ p4;simp only[j.sub,a_]at ad;exact⟨CC aL,CD a0,bK.trans (j.rG (b6::dY) y d a8 ad iQ).symm⟩
      .cases he
     .exact lz aD e i1 he p4
   .cases ai
  .rw[e];rw[aI]at aE;exact aE
  .rw[e];rw[aI]at aE;exact aE
  .rw[e];exact aE
 have IY:(j.put (k::hI) a8 (s x)).tree=true:=by
  rcases oU k hI a8 (s x)with⟨al,gs,aI,e⟩|⟨al,gs,aI,e⟩|⟨sz,xs,ys,aI,e⟩|⟨y,z,aI,e⟩|e<;>rw[e]<;>first|rfl|exact aO
 let au:=cA (gz x s) x (j.put (k::hI) a8 (s x))
 have fz:∀y,y≠x->(au y).tree=true->au y=s y/\an y=an y:=λy a_ aO=>by
  have e:au y=bQ x (s y):=hW _ _ a_;rw[e]at aO⊢;exact⟨(vA aO).2,rfl⟩
 have jY:(au x).plain=false->(s x).plain=false/\∀v,cM (s x) v->cM (au x) v:=by
  intro _;refine⟨?_,?_⟩
  .cases cH:(s x).plain with
   |false=>rfl
   |true=>rw[j.Cz _ _ cH]at ai;cases ai
  .simp only[au,kp];exact s_
 refine⟨fm S x (λc=>c1 c\/Sn c),?_⟩;constructor;case fl=>exact h.fl
 case fA=>exact h.fA
 case eg=>exact λb J=>by rw[df];exact h.eg b J
 case dw=>
  intro u c J;rw[df];simp only[fm]at J;split at J
  .rcases J with J|J
   .exact h.dw x c (aL c J)
   .exact da c J
  .exact h.dw u c J
 case ew=>
  intro u c J;simp only[fm]at J;split at J
  .rcases J with J|J
   .exact h.ew x c (aL c J)
   .exact a3 c J
  .exact h.ew u c J
 case dS=>
  intro u y c cJ J a_;simp only[fm]at J a_;split at J
  .rename_i hu;rw[if_neg (λe=>cJ (hu.trans e.symm))]at a_;rcases J with J|J
   .exact h.dS x y c (λe=>cJ (hu.trans e)) (aL c J) a_
   .exact bB y c J a_
  .rename_i hu;split at a_
   .rcases a_ with a_|a_
    .exact h.dS u x c hu J (aL c a_)
    .exact bB u c a_ J
   .exact h.dS u y c cJ J a_
 case cU=>
  intro u c J;simp only[fm]at J;split at J
  .rcases J with J|J
   .exact h.cU x c (aL c J)
   .exact bt c J
  .exact h.cU u c J
 case cG=>
  intro u;by_cases hu:u=x
  .subst hu;rw[kp,s6];exact(az.b7 IY).2 ⟨s_ _ ae.1,iB⟩
  .rw[hW _ _ hu,s7 _ _ hu];have cJ:∀y c,y≠x->S y c->aw.heap[c]? =w.heap[c]? :=λy c a_ ai=>lB c (by rintro rfl;exact h.dS y x c a_ ai p3);refine(az.bQ fz rfl jY (λy dY d2 a_ gB ta=>?_) m9 _).1 _ _ _ (Nat.le_refl _) (λc ai=>cJ u c hu ai) (h.cG u);have tb:=h.cG y;rw[az.b7 (fZ gB ta)]at tb;exact vz dY _ _ _ none d2 tb.2 gB (λc ai=>cJ y c a_ ai)
 case old=>
  intro c da hX;by_cases rJ:c=b
  .subst rJ;exfalso;rcases h.cU x c p3 with kq|kq
   .exact hX kq
   .omega
  .exact(lB c rJ).trans (h.old c da hX)
 case size=>rw[df];exact h.size
 case os=>exact yo.trans h.os
 case tape=>exact yp.trans h.tape
 case output=>exact p2.trans h.output
 case fB=>exact h.fB
end
end Go.cV
