/- Part of a proof that a law is true. No condition. -/
import GoSem.Core.View
import GoSem.Op.String
import GoSem.Core.Code
import Derived.Laws.AppendOwn
import Derived.Calls
import Derived.Laws.Entries
import Derived.Laws.IdiomStrings
import Derived.Laws.Strings
import Derived.LaidEql
import Derived.WideLaws
import Derived.Laws.StructEq
namespace Go.en
open List Option Nat Or
abbrev aAe:=List Int
abbrev aAf:=List Nat
abbrev aAc:=List UInt8
abbrev aAh:=Option Int
abbrev aAi:=List Value
abbrev aAg:=Option Bool
abbrev aAd:=List (List Nat)
abbrev aAb:=List (List UInt8)
abbrev aAa:=List (List UInt8×Bool)
def bh {α:Type} (xs:List α) (n:Int):Option α:=if 0<=n then xs[n.toNat]? else none
def gp {α:Type} (xs:List α) (a b:Int):Option (List α):=if 0<=a/\a<=b/\b<=xs.length then some ((xs.take b.toNat).drop a.toNat)else none
def ME (c:Bool):Option Unit:=if c=true then some ()else none
def room (bytes n:Nat):Option Unit:=if n*bytes<=140737488355328/\n<=9223372036854775807 then some ()else none
def iG (n:Nat):Option Unit:=if n<=9223372036854775807 then some ()else none
def nR (bytes:Nat) (n:Int):Option Unit:=if 0<=n/\bytes*n<=140737488355328/\n<=9223372036854775807 then some ()else none
def pr (n:Int):UInt8:=UInt8.ofNat (IntKind.u8.wrap n).toNat
def bitsOf (op:BinOp) (k:IntKind) (x y:Int):Int:=
 match op with
 | .and=>k.wrap (BitVec.ofInt k.bits x&&&BitVec.ofInt k.bits y).toNat
 | .or=>k.wrap (BitVec.ofInt k.bits x|||BitVec.ofInt k.bits y).toNat
 | .xor=>k.wrap (BitVec.ofInt k.bits x^^^BitVec.ofInt k.bits y).toNat
 |_=>k.wrap (BitVec.ofInt k.bits x&&& ~~~(BitVec.ofInt k.bits y)).toNat
theorem aM {α β:Type} {o:Option α} {k:α->Option β} {r:β} (h:o.bind k=some r):∃x,o=some x/\k x=some r:=bind_eq_some_iff.1 h
theorem dL {β:Type} {b:Bool} {x y:Option β} {r:β} (h:cond b x y=some r):(b=true/\x=some r)\/(b=false/\y=some r):=by
 cases b
 .exact .inr ⟨rfl,h⟩
 .exact .inl ⟨rfl,h⟩
theorem im {β:Type} {x r:β} (h:some x=some r):r=x:=(some.inj h).symm
section
open Classical
noncomputable def lim {β:Type} (f:Nat->Option β):Option β:=
 if h:∃x N,∀n,N<=n->f n=x then h.choose else none
end
theorem e0 {β:Type} {f:Nat->Option β} {x:Option β} (N:Nat) (h:∀n,N<=n->f n=x):lim f=x:=by
 have hex:∃x N,∀n,N<=n->f n=x:=⟨x,N,h⟩
 unfold lim;rw[dif_pos hex];obtain⟨M,MF⟩:=hex.choose_spec;rw[<-MF (max M N) (Nat.le_max_left _ _)];exact h _ (Nat.le_max_right _ _)
theorem ma {β:Type} {f:Nat->Option β} {r:β} (h:lim f=some r):∃n,f n=some r:=by
 unfold lim at h;split at h
 .rename_i hex;obtain⟨M,MF⟩:=hex.choose_spec;exact⟨M,(MF M (Nat.le_refl _)).trans h⟩
 .cases h
theorem b2 {α:Type} {xs:List α} {n:Int} {x:α} (h:bh xs n=some x):xs[n.toNat]? =some x:=by
 unfold bh at h;split at h
 .exact h
 .cases h
theorem Uz {α β:Type} (e:α->β) (xs:List α) (n:Int):bh (xs.map e) n=(bh xs n).map e:=by
 unfold bh;split
 .simp
 .rfl
theorem UA {α β:Type} (e:α->β) (xs:List α) (a b:Int):gp (xs.map e) a b=(gp xs a b).map (map e):=by
 unfold gp;simp only[length_map];split
 .simp[map_drop,map_take]
 .rfl
theorem UB {α:Type} {xs:List α} {n:Int} (a7:0<=n) (h:n.toNat<xs.length):bh xs n=some xs[n.toNat]:=by
 unfold bh;rw[if_pos a7,getElem?_eq_getElem h]
theorem ru {b:Nat} {n:Int} {u:Unit} (h:nR b n=some u):0<=n/\b*n<=140737488355328/\n<=9223372036854775807:=by unfold nR at h;split at h<;>simp_all
section
open Classical
noncomputable def both {β:Type} (a b:Option β):Option β:=if a=b then a else none
end
theorem adX {β:Type} {a b:Option β} {r:β} (h:both a b=some r):a=some r/\b=some r:=by
 unfold both at h;split at h
 .rename_i e;exact⟨h,e▸h⟩
 .cases h
def nS {α:Type} [DecidableEq α] (p:Option α):List α->List α
 |[]=>[]
 |x::r=>if p=some x then nS (some x) r else x::nS (some x) r
def hU (fp:Bool) (a b:aAc):aAc:=if(if fp then !Op.bytesLess a b else(Op.bytesLess a b||a==b))=true then a else b
def k1 (fp:Bool) (a b:Int):Int:=if fp then(if a<b then b else a)else(if b<a then b else a)
def kc (k:aAc):aAa->Bool
 |[]=>false
 |e::m=>if e.1=k then e.2 else kc k m
def kx (k:aAc) (b:Bool):aAa->aAa
 |[]=>[(k,b)]
 |e::m=>if e.1=k then(k,b)::m else e::kx k b m
def jQ (a:aAb) (s:aAc):aAc:=s.intercalate a
def jn (n:Nat):aAc:=if n<10 then [UInt8.ofNat (48+n)]else [UInt8.ofNat (48+n/10),UInt8.ofNat (48+n%10)]
theorem U {a b:Prop} (x:a) (y:b):a/\b:=⟨x,y⟩
end Go.en
namespace Go.en
open List Option Go.IntKind Nat Or
inductive Et where
 |mp (es:aAa)
 |ky
 |jR (T e:TypeId) (mb:aAc)
inductive I where
 |hole
 |bool (b:Bool)
 |gq
 |int (k:IntKind) (n:Int)
 |str (s:aAc)
 |et
 |bf
 |slice (xs:List I)
 |ag (sz:Nat) (xs:List I)
 |ref (d:I)
 |aP (d:I)
 |agg (aG:List I)
 |tuple (vs:List I)
 |fn (f:FuncId) (cap:List I)
 |h (x:Nat) (q:aAf)
 |aw (x:Nat) (q:aAf)
 |ab (x:Nat) (k:Nat)
 |ck (o:Et)
 |gN (f:FuncId) (cap:List I)
 deriving Inhabited
abbrev aAk:=List I
abbrev aAj:=List (Nat×I)
mutual
def I.wd:I->Nat
 | .agg aG=>I.e_ aG
 | .tuple aG=>I.e_ aG
 |_=>1
def I.e_:aAk->Nat
 |[]=>0
 |d::ds=>d.wd+I.e_ ds
end
def Rd (w:World) (b o:Nat) (cs:aAi):Prop:=∀j c,cs[j]? =some c->w.cell? ⟨b,o+j,none⟩=some c
def ov (fr:Nat×Nat) (n:Nat):Prop:=∀o,o<n->¬(fr.1<=o/\o<fr.2)
theorem ov.le {fr:Nat×Nat} {m n:Nat} (h:ov fr n) (hm:m<=n):ov fr m:=λo bG=>h o (Nat.lt_of_lt_of_le bG hm)
theorem ov.low {fr:Nat×Nat} {n k:Nat} (h:ov fr (n+k)):ov fr n:=h.le (le_add_right _ _)
def Value.hq:Value->Bool
 | .agg _=>false
 | .tuple _=>false
 |_=>true
def I.single:I->Bool
 | .agg _=>false
 | .tuple _=>false
 | .hole=>false
 |_=>true
def I.one:I->Bool
 | .agg _=>false
 | .tuple _=>false
 |_=>true
def oY (w:World):Et->aAi->(Nat->Prop)->Prop
 | .mp es,cs,S=>∃r ms p5,cs=[.map (some r)]/\S r/\w.heap[r]? =some (.map ms p5)/\ms.toList.map (λe=>(e.key,e.val))=es.map (λe=>(.string ⟨⟨e.1⟩⟩,.bool e.2))
 | .ky,cs,_=>cs=[.map none]
 | .jR T e mb,cs,S=>∃b a zf,cs=[.pointer (some ⟨b,0,none⟩)]/\S b/\w.heap[b]? =some (.cells #[a,zf] T (0,0))/\(a= .pointer none\/a= .pointer (some ⟨b,0,none⟩))/\
   ((mb=[]/\zf= .slice none 0 0)\/
     ∃g cap cur,zf= .slice (some ⟨g,0,none⟩) mb.length cap/\S g/\g≠b/\w.heap[g]? =some (.cells cur e (0,0))/\mb.length<=cap/\cap<=maxLen/\cur.size=cap/\
      cur.toList.take mb.length=mb.map λx=>.int .u8 x.toNat)
theorem oY.frame {w aJ:World}:∀{o:Et} {cs:aAi} {S:Nat->Prop},(∀b,S b->aJ.heap[b]? =w.heap[b]?)->oY w o cs S->oY aJ o cs S
 | .mp _,_,_,cc,⟨r,ms,p5,h1,af,ay,a_⟩=>⟨r,ms,p5,h1,af,(cc _ af).trans ay,a_⟩
 | .ky,_,_,_,h=>h
 | .jR _ _ _,_,_,cc,⟨b,a,zf,h1,af,ay,a_,b1⟩=>⟨b,a,zf,h1,af,(cc _ af).trans ay,a_,b1.imp (λh=>h) λ⟨g,cap,cur,pt,i2,i3,i4,i5⟩=>⟨g,cap,cur,pt,i2,i3,(cc _ i2).trans i4,i5⟩⟩
theorem oY.mono {w:World}:∀{o:Et} {cs:aAi} {S aY:Nat->Prop},(∀b,S b->aY b)->oY w o cs S->oY w o cs aY
 | .mp _,_,_,_,cc,⟨r,ms,p5,h1,af,ay⟩=>⟨r,ms,p5,h1,cc _ af,ay⟩
 | .ky,_,_,_,_,h=>h
 | .jR _ _ _,_,_,_,cc,⟨b,a,zf,h1,af,ay,a_,b1⟩=>⟨b,a,zf,h1,cc _ af,ay,a_,b1.imp (λh=>h) λ⟨g,cap,cur,pt,i2,i3⟩=>⟨g,cap,cur,pt,cc _ i2,i3⟩⟩
theorem oY.one {w:World}:∀{o:Et} {cs:aAi} {S:Nat->Prop},oY w o cs S->∃v,Value.hq v=true/\cs=[v]
 | .mp _,_,_,⟨_,_,_,h,_⟩=>⟨_,rfl,h⟩
 | .ky,_,_,h=>⟨_,rfl,h⟩
 | .jR _ _ _,_,_,⟨_,_,_,h,_⟩=>⟨_,rfl,h⟩
mutual
def az (w:World) (F:Nat->Prop):I->aAi->(Nat->Prop)->Prop
 | .hole,cs,_=>∃v,Value.hq v=true/\cs=[v]
 | .bool b,cs,_=>cs=[.bool b]
 | .gq,cs,_=>∃b,cs=[.bool b]
 | .int k n,cs,_=>cs=[.int k n]
 | .str s,cs,_=>cs=[.string ⟨⟨s⟩⟩]
 | .et,cs,_=>cs=[.pointer none]
 | .bf,cs,_=>cs=[.slice none 0 0]
 | .slice xs,cs,_=>(xs=[]/\∃a c,cs=[.slice a 0 c]/\c<=maxLen/\(a=none->c=0))\/
   ∃b o cap fo sz,cs=[.slice (some ⟨b,o,none⟩) xs.length cap]/\F b/\xs.length<=cap/\cap<=maxLen/\(∀d∈xs,d.wd=sz)/\
    Rd w b o fo/\br w F xs fo (λ_=>False)
 | .ag sz xs,cs,S=>(xs=[]/\∃a,cs=[.slice a 0 0])\/
   ∃b cap cur e fr aY,cs=[.slice (some ⟨b,0,none⟩) xs.length cap]/\S b/\w.heap[b]? =some (.cells cur e fr)/\ov fr (cur.size+(sz-1))/\
    xs.length<=cap/\cap<=maxLen/\cur.size=cap*sz/\(∀d∈xs,d.wd=sz)/\br w F xs (cur.toList.take (xs.length*sz)) aY/\(∀c,aY c->S c)/\¬aY b
 | .ref d,cs,_=>∃b o fo,cs=[.pointer (some ⟨b,o,none⟩)]/\F b/\Rd w b o fo/\az w F d fo (λ_=>False)
 | .aP d,cs,S=>∃b cur e fr aY,cs=[.pointer (some ⟨b,0,none⟩)]/\S b/\w.heap[b]? =some (.cells cur e fr)/\ov fr cur.size/\
   az w F d cur.toList aY/\(∀c,aY c->S c)/\¬aY b
 | .agg aG,cs,S=>br w F aG cs S
 | .tuple aG,cs,S=>br w F aG cs S
 | .fn f caps,cs,_=>∃arr:Array Value,cs=[.func (.func f) #[] arr]/\(∀d∈caps,d.single=true)/\br w F caps arr.toList (λ_=>False)
 | .h _ _,_,_=>False
 | .aw _ _,_,_=>False
 | .ab _ _,_,_=>False
 | .ck o,cs,S=>oY w o cs S
 | .gN f caps,cs,S=>∃arr:Array Value,cs=[.func (.func f) #[] arr]/\(∀d∈caps,d.one=true)/\br w F caps arr.toList S
def br (w:World) (F:Nat->Prop):aAk->aAi->(Nat->Prop)->Prop
 |[],cs,_=>cs=[]
 |d::ds,cs,S=>∃c1 c2 cL eG,cs=c1++c2/\az w F d c1 cL/\br w F ds c2 eG/\(∀b,cL b->S b)/\(∀b,eG b->S b)/\(∀b,cL b->¬eG b)
end
theorem cell?_of_block {w aJ:World} {b:Nat} (h:aJ.heap[b]? =w.heap[b]?) (o:Nat):aJ.cell? ⟨b,o,none⟩=w.cell? ⟨b,o,none⟩:=by
 simp[World.cell?,h]
theorem Rd.frame {w aJ:World} {b o:Nat} {cs:aAi} (h:aJ.heap[b]? =w.heap[b]?) (aR:Rd w b o cs):Rd aJ b o cs:=
 λj c au=>(cell?_of_block h _).trans (aR j c au)
mutual
theorem az.frame {w aJ:World} {F:Nat->Prop} (bC:∀b,F b->aJ.heap[b]? =w.heap[b]?):
  ∀(d:I) (cs:aAi) (S:Nat->Prop),(∀b,S b->aJ.heap[b]? =w.heap[b]?)->az w F d cs S->az aJ F d cs S
 | .hole,_,_,_,h=>h
 | .bool _,_,_,_,h=>h
 | .gq,_,_,_,h=>h
 | .int _ _,_,_,_,h=>h
 | .str _,_,_,_,h=>h
 | .et,_,_,_,h=>h
 | .bf,_,_,_,h=>h
 | .slice xs,cs,S,cc,h=>by
   rw[az]at h⊢;rcases h with h|⟨b,o,cap,fo,sz,h1,af,ay,a_,b1,dn,dc⟩
   .exact .inl h
   .exact .inr ⟨b,o,cap,fo,sz,h1,af,ay,a_,b1,dn.frame (bC _ af),br.frame bC xs _ _ (λ_ h=>h.elim) dc⟩
 | .ag sz xs,cs,S,cc,h=>by
   rw[az]at h⊢;rcases h with h|⟨b,cap,cur,e,fr,aY,h1,af,ay,a_,b1,dn,dc,gH,iq,k2,nT⟩
   .exact .inl h
   .exact .inr ⟨b,cap,cur,e,fr,aY,h1,af,(cc _ af).trans ay,a_,b1,dn,dc,gH,br.frame bC xs _ _ (λc au=>cc _ (k2 _ au)) iq,k2,nT⟩
 | .ref d,cs,S,cc,h=>by
   rw[az]at h⊢;obtain⟨b,o,fo,h1,af,ay,a_⟩:=h;exact⟨b,o,fo,h1,af,ay.frame (bC _ af),az.frame bC d _ _ (λ_ h=>h.elim) a_⟩
 | .aP d,cs,S,cc,h=>by
   rw[az]at h⊢;obtain⟨b,cur,e,fr,aY,h1,af,ay,a_,b1,dn,dc⟩:=h;exact⟨b,cur,e,fr,aY,h1,af,(cc _ af).trans ay,a_,az.frame bC d _ _ (λc au=>cc _ (dn _ au)) b1,dn,dc⟩
 | .agg aG,cs,S,cc,h=>by rw[az]at h⊢;exact br.frame bC aG _ _ cc h
 | .tuple aG,cs,S,cc,h=>by rw[az]at h⊢;exact br.frame bC aG _ _ cc h
 | .fn _ caps,cs,S,cc,h=>by
   rw[az]at h⊢;obtain⟨arr,h1,af,ay⟩:=h;exact⟨arr,h1,af,br.frame bC caps _ _ (λ_ h=>h.elim) ay⟩
 | .h _ _,_,_,_,h=>h
 | .aw _ _,_,_,_,h=>h
 | .ab _ _,_,_,_,h=>h
 | .ck _,_,_,cc,h=>oY.frame cc h
 | .gN _ caps,cs,S,cc,h=>by
   rw[az]at h⊢;obtain⟨arr,h1,af,ay⟩:=h;exact⟨arr,h1,af,br.frame bC caps _ _ cc ay⟩
theorem br.frame {w aJ:World} {F:Nat->Prop} (bC:∀b,F b->aJ.heap[b]? =w.heap[b]?):
  ∀(ds:aAk) (cs:aAi) (S:Nat->Prop),(∀b,S b->aJ.heap[b]? =w.heap[b]?)->br w F ds cs S->br aJ F ds cs S
 |[],_,_,_,h=>h
 |d::ds,cs,S,cc,h=>by
  rw[br]at h⊢;obtain⟨c1,c2,cL,eG,h1,af,ay,a_,b1,dn⟩:=h;exact⟨c1,c2,cL,eG,h1,az.frame bC d _ _ (λb ab=>cc _ (a_ _ ab)) af,br.frame bC ds _ _ (λb ab=>cc _ (b1 _ ab)) ay,a_,b1,dn⟩
end
mutual
theorem az.mono {w:World} {F cg:Nat->Prop} (bC:∀b,F b->cg b):
  ∀(d:I) (cs:aAi) (S aY:Nat->Prop),(∀b,S b->aY b)->az w F d cs S->az w cg d cs aY
 | .hole,_,_,_,_,h=>h
 | .bool _,_,_,_,_,h=>h
 | .gq,_,_,_,_,h=>h
 | .int _ _,_,_,_,_,h=>h
 | .str _,_,_,_,_,h=>h
 | .et,_,_,_,_,h=>h
 | .bf,_,_,_,_,h=>h
 | .slice xs,cs,S,_,cc,h=>by
   rw[az]at h⊢;rcases h with h|⟨b,o,cap,fo,sz,h1,af,ay,a_,b1,dn,dc⟩
   .exact .inl h
   .exact .inr ⟨b,o,cap,fo,sz,h1,bC _ af,ay,a_,b1,dn,br.mono bC xs _ _ _ (λ_ h=>h) dc⟩
 | .ag sz xs,cs,S,_,cc,h=>by
   rw[az]at h⊢;rcases h with h|⟨b,cap,cur,e,fr,aY,h1,af,ay,a_,b1,dn,dc,gH,iq,k2,nT⟩
   .exact .inl h
   .exact .inr ⟨b,cap,cur,e,fr,aY,h1,cc _ af,ay,a_,b1,dn,dc,gH,br.mono bC xs _ _ _ (λ_ h=>h) iq,λc au=>cc _ (k2 _ au),nT⟩
 | .ref d,cs,S,_,cc,h=>by
   rw[az]at h⊢;obtain⟨b,o,fo,h1,af,ay,a_⟩:=h;exact⟨b,o,fo,h1,bC _ af,ay,az.mono bC d _ _ _ (λ_ h=>h) a_⟩
 | .aP d,cs,S,_,cc,h=>by
   rw[az]at h⊢;obtain⟨b,cur,e,fr,aY,h1,af,ay,a_,b1,dn,dc⟩:=h;exact⟨b,cur,e,fr,aY,h1,cc _ af,ay,a_,az.mono bC d _ _ _ (λ_ h=>h) b1,λc au=>cc _ (dn _ au),dc⟩
 | .agg aG,cs,S,_,cc,h=>by rw[az]at h⊢;exact br.mono bC aG _ _ _ cc h
 | .tuple aG,cs,S,_,cc,h=>by rw[az]at h⊢;exact br.mono bC aG _ _ _ cc h
 | .fn _ caps,cs,S,_,cc,h=>by
   rw[az]at h⊢;obtain⟨arr,h1,af,ay⟩:=h;exact⟨arr,h1,af,br.mono bC caps _ _ _ (λ_ h=>h) ay⟩
 | .h _ _,_,_,_,_,h=>h
 | .aw _ _,_,_,_,_,h=>h
 | .ab _ _,_,_,_,_,h=>h
 | .ck _,_,_,_,cc,h=>oY.mono cc h
 | .gN _ caps,cs,S,_,cc,h=>by
   rw[az]at h⊢;obtain⟨arr,h1,af,ay⟩:=h;exact⟨arr,h1,af,br.mono bC caps _ _ _ cc ay⟩
theorem br.mono {w:World} {F cg:Nat->Prop} (bC:∀b,F b->cg b):
  ∀(ds:aAk) (cs:aAi) (S aY:Nat->Prop),(∀b,S b->aY b)->br w F ds cs S->br w cg ds cs aY
 |[],_,_,_,_,h=>h
 |d::ds,cs,S,_,cc,h=>by
  rw[br]at h⊢;obtain⟨c1,c2,cL,eG,h1,af,ay,a_,b1,dn⟩:=h;exact⟨c1,c2,cL,eG,h1,az.mono bC d _ _ _ (λ_ h=>h) af,br.mono bC ds _ _ _ (λ_ h=>h) ay,λb ab=>cc _ (a_ _ ab),λb ab=>cc _ (b1 _ ab),dn⟩
end
mutual
theorem az.length {w:World} {F:Nat->Prop}:∀(d:I) (cs:aAi) (S:Nat->Prop),az w F d cs S->cs.length=d.wd
 | .hole,cs,S,h=>by rw[az]at h;obtain⟨v,_,rfl⟩:=h;rfl
 | .bool _,cs,S,h=>by rw[az]at h;subst h;rfl
 | .gq,cs,S,h=>by rw[az]at h;obtain⟨b,rfl⟩:=h;rfl
 | .int _ _,cs,S,h=>by rw[az]at h;subst h;rfl
 | .str _,cs,S,h=>by rw[az]at h;subst h;rfl
 | .et,cs,S,h=>by rw[az]at h;subst h;rfl
 | .bf,cs,S,h=>by rw[az]at h;subst h;rfl
 | .slice xs,cs,S,h=>by
   rw[az]at h;rcases h with⟨_,a,c,rfl,_⟩|⟨b,o,cap,fo,sz,rfl,_⟩<;>rfl
 | .ag sz xs,cs,S,h=>by
   rw[az]at h;rcases h with⟨_,a,rfl⟩|⟨b,cap,cur,e,fr,aY,rfl,_⟩<;>rfl
 | .ref d,cs,S,h=>by rw[az]at h;obtain⟨b,o,fo,rfl,_⟩:=h;rfl
 | .aP d,cs,S,h=>by rw[az]at h;obtain⟨b,o,fo,_,_,rfl,_⟩:=h;rfl
 | .agg aG,cs,S,h=>by rw[az]at h;exact br.length aG _ _ h
 | .tuple aG,cs,S,h=>by rw[az]at h;exact br.length aG _ _ h
 | .fn _ _,cs,S,h=>by rw[az]at h;obtain⟨arr,rfl,_⟩:=h;rfl
 | .h _ _,cs,S,h=>by rw[az]at h;exact h.elim
 | .aw _ _,cs,S,h=>by rw[az]at h;exact h.elim
 | .ab _ _,cs,S,h=>by rw[az]at h;exact h.elim
 | .ck _,cs,S,h=>by rw[az]at h;obtain⟨v,_,rfl⟩:=oY.one h;rfl
 | .gN _ _,cs,S,h=>by rw[az]at h;obtain⟨arr,rfl,_⟩:=h;rfl
theorem br.length {w:World} {F:Nat->Prop}:∀(ds:aAk) (cs:aAi) (S:Nat->Prop),br w F ds cs S->cs.length=I.e_ ds
 |[],cs,S,h=>by rw[br]at h;subst h;rfl
 |d::ds,cs,S,h=>by
  rw[br]at h;obtain⟨c1,c2,cL,eG,rfl,af,ay,_⟩:=h;rw[length_append,az.length d _ _ af,br.length ds _ _ ay,I.e_]
end
mutual
def I.share:I->I
 | .ag _ xs=>.slice (I.shares xs)
 | .aP d=>.ref d.share
 | .slice xs=>.slice (I.shares xs)
 | .ref d=>.ref d.share
 | .agg aG=>.agg (I.shares aG)
 | .tuple aG=>.tuple (I.shares aG)
 | .ck _=>.hole
 | .gN _ _=>.hole
 |d=>d
def I.shares:aAk->aAk
 |[]=>[]
 |d::ds=>d.share::I.shares ds
end
theorem I.xH (ds:aAk):I.shares ds=ds.map I.share:=by
 induction ds with
 |nil=>rfl
 |cons d ds ih=>simp[I.shares,ih]
mutual
theorem I.Ix:∀d:I,d.share.wd=d.wd
 | .hole=>rfl
 | .bool _=>rfl
 | .gq=>rfl
 | .int _ _=>rfl
 | .str _=>rfl
 | .et=>rfl
 | .bf=>rfl
 | .slice _=>rfl
 | .ag _ _=>rfl
 | .ref _=>rfl
 | .aP _=>rfl
 | .agg aG=>by simp only[I.share,I.wd];exact I.MG aG
 | .tuple aG=>by simp only[I.share,I.wd];exact I.MG aG
 | .fn _ _=>rfl
 | .h _ _=>rfl
 | .aw _ _=>rfl
 | .ab _ _=>rfl
 | .ck _=>rfl
 | .gN _ _=>rfl
theorem I.MG:∀ds:aAk,I.e_ (I.shares ds)=I.e_ ds
 |[]=>rfl
 |d::ds=>by simp only[I.shares,I.e_];rw[I.Ix d,I.MG ds]
end
theorem Bw {w:World} {b:Nat} {cur:Array Value} {e:TypeId} {fr:Nat×Nat} (h:w.heap[b]? =some (.cells cur e fr)) (n:Nat):Rd w b 0 (cur.toList.take n):=by
 intro j c au;rw[getElem?_take]at au;split at au
 .simp[World.cell?,h];simpa using au
 .cases au
mutual
theorem az.shared {w:World} {F cg:Nat->Prop} (bC:∀b,F b->cg b):
  ∀(d:I) (cs:aAi) (S:Nat->Prop),(∀b,S b->cg b)->az w F d cs S->az w cg d.share cs (λ_=>False)
 | .hole,_,_,_,h=>h
 | .bool _,_,_,_,h=>h
 | .gq,_,_,_,h=>h
 | .int _ _,_,_,_,h=>h
 | .str _,_,_,_,h=>h
 | .et,_,_,_,h=>h
 | .bf,_,_,_,h=>h
 | .slice xs,cs,S,cc,h=>by
   rw[I.share,az];rw[az]at h;rcases h with⟨rfl,a,c,rfl,au⟩|⟨b,o,cap,fo,sz,h1,af,ay,a_,b1,dn,dc⟩
   .exact .inl ⟨rfl,a,c,rfl,au⟩
   .refine .inr ⟨b,o,cap,fo,sz,?_,bC _ af,?_,a_,?_,dn,br.shared bC xs _ _ (λ_ h=>h.elim) dc⟩
    .simpa [I.xH]using h1
    .simpa [I.xH]using ay
    .intro d ao;rw[I.xH]at ao;obtain⟨bN,jo,rfl⟩:=mem_map.1 ao;rw[I.Ix];exact b1 _ jo
 | .ag sz xs,cs,S,cc,h=>by
   rw[I.share,az];rw[az]at h;rcases h with⟨rfl,a,rfl⟩|⟨b,cap,cur,e,fr,aY,h1,af,ay,a_,b1,dn,dc,gH,iq,k2,nT⟩
   .exact .inl ⟨rfl,a,0,rfl,zero_le _,λ_=>rfl⟩
   .refine .inr ⟨b,0,cap,_,sz,?_,cc _ af,?_,dn,?_,Bw ay _,br.shared bC xs _ _ (λc au=>cc _ (k2 _ au)) iq⟩
    .simpa [I.xH]using h1
    .simpa [I.xH]using b1
    .intro d ao;rw[I.xH]at ao;obtain⟨bN,jo,rfl⟩:=mem_map.1 ao;rw[I.Ix];exact gH _ jo
 | .ref d,cs,S,cc,h=>by
   rw[I.share,az];rw[az]at h;obtain⟨b,o,fo,h1,af,ay,a_⟩:=h;exact⟨b,o,fo,h1,bC _ af,ay,az.shared bC d _ _ (λ_ h=>h.elim) a_⟩
 | .aP d,cs,S,cc,h=>by
   rw[I.share,az];rw[az]at h;obtain⟨b,cur,e,fr,aY,h1,af,ay,a_,b1,dn,dc⟩:=h;refine⟨b,0,cur.toList,h1,cc _ af,?_,az.shared bC d _ _ (λc au=>cc _ (dn _ au)) b1⟩;have:=Bw ay cur.toList.length
   rwa [take_length]at this
 | .agg aG,cs,S,cc,h=>by rw[I.share,az];rw[az]at h;exact br.shared bC aG _ _ cc h
 | .tuple aG,cs,S,cc,h=>by rw[I.share,az];rw[az]at h;exact br.shared bC aG _ _ cc h
 | .fn f caps,cs,S,cc,h=>by
   show az w cg (.fn f caps) cs _;rw[az]at h⊢;obtain⟨arr,h1,af,ay⟩:=h;exact⟨arr,h1,af,br.mono bC caps _ _ _ (λ_ h=>h) ay⟩
 | .h _ _,_,_,_,h=>h
 | .aw _ _,_,_,_,h=>h
 | .ab _ _,_,_,_,h=>h
 | .ck _,cs,S,cc,h=>by rw[az]at h;rw[I.share,az];exact oY.one h
 | .gN _ _,cs,S,cc,h=>by rw[az]at h;obtain⟨arr,rfl,_⟩:=h;rw[I.share,az];exact⟨_,rfl,rfl⟩
theorem br.shared {w:World} {F cg:Nat->Prop} (bC:∀b,F b->cg b):
  ∀(ds:aAk) (cs:aAi) (S:Nat->Prop),(∀b,S b->cg b)->br w F ds cs S->br w cg (I.shares ds) cs (λ_=>False)
 |[],_,_,_,h=>h
 |d::ds,cs,S,cc,h=>by
  simp only[I.shares];rw[br]at h⊢;obtain⟨c1,c2,cL,eG,h1,af,ay,a_,b1,dn⟩:=h;exact⟨c1,c2,_,_,h1,az.shared bC d _ _ (λb ab=>cc _ (a_ _ ab)) af,br.shared bC ds _ _ (λb ab=>cc _ (b1 _ ab)) ay,λ_ h=>h,λ_ h=>h,λ_ h=>h.elim⟩
end
def I.sub:aAf->I->Option I
 |[],d=>some d
 |k::q,.agg aG=>match aG[k]? with
  |some d=>I.sub q d
  |none=>none
 |k::q,.tuple aG=>match aG[k]? with
  |some d=>I.sub q d
  |none=>none
 |i::q,.ag _ xs=>match xs[i]? with
  |some d=>I.sub q d
  |none=>none
 |0::q,.aP d=>I.sub q d
 |_::_,_=>none
def I.put:aAf->I->I->I
 |[],n,_=>n
 |k::q,n,.agg aG=>match aG[k]? with
  |some d=>.agg (aG.set k (I.put q n d))
  |none=>.agg aG
 |k::q,n,.tuple aG=>match aG[k]? with
  |some d=>.tuple (aG.set k (I.put q n d))
  |none=>.tuple aG
 |i::q,n,.ag sz xs=>match xs[i]? with
  |some d=>.ag sz (xs.set i (I.put q n d))
  |none=>.ag sz xs
 |0::q,n,.aP d=>.aP (I.put q n d)
 |_::_,_,d=>d
def qH (w:World) (b o n:Nat):aAi:=(range n).map λj=>(w.cell? ⟨b,o+j,none⟩).getD undef
theorem Rd.qH {w:World} {b o:Nat} {cs:aAi} (h:Rd w b o cs):qH w b o cs.length=cs:=by
 unfold en.qH;apply ext_getElem?;intro i;rw[getElem?_map];by_cases aj:i<cs.length
 .have:cs[i]? =some cs[i]:=getElem?_eq_getElem aj;simp[aj,h i _ this]
 .simp[aj]
def ew (w:World):aAf->I->aAi->Option (Nat×Nat)->Option (I×aAi×Option (Nat×Nat))
 |[],d,cs,a=>some (d,cs,a)
 |k::q,.agg aG,cs,a=>match aG[k]? with
  |some d=>ew w q d ((cs.drop (I.e_ (aG.take k))).take d.wd) (a.map λl=>(l.1,l.2+I.e_ (aG.take k)))
  |none=>none
 |k::q,.tuple aG,cs,a=>match aG[k]? with
  |some d=>ew w q d ((cs.drop (I.e_ (aG.take k))).take d.wd) (a.map λl=>(l.1,l.2+I.e_ (aG.take k)))
  |none=>none
 |i::q,.ag sz xs,cs,_=>match xs[i]?,cs with
  |some d,[.slice (some ⟨b,_,_⟩) _ _]=>ew w q d (qH w b (i*sz) sz) (some (b,i*sz))
  |_,_=>none
 |0::q,.aP d,cs,_=>match cs with
  |[.pointer (some ⟨b,_,_⟩)]=>ew w q d (qH w b 0 d.wd) (some (b,0))
  |_=>none
 |_::_,_,_,_=>none
theorem zg (c1 gY c2:aAi) (n m:Nat) (h1:c1.length=n) (af:gY.length=m):((c1++(gY++c2)).drop n).take m=gY:=by
 rw[drop_left' h1,take_left' af]
theorem br.pick {w:World} {F:Nat->Prop}:∀(ds:aAk) (cs:aAi) (S:Nat->Prop) (k:Nat) (d:I),
  br w F ds cs S->ds[k]? =some d->∃(c1 gY c2:aAi) (cL jE:Nat->Prop),cs=c1++(gY++c2)/\c1.length=I.e_ (ds.take k)/\
   (∀b,cL b->S b)/\(∀b,jE b->S b)/\(∀b,cL b->¬jE b)/\az w F d gY jE/\
   ∀(aJ:World) (bN:I) (zh:aAi) (aY:Nat->Prop),(∀b,F b->aJ.heap[b]? =w.heap[b]?)->(∀b,cL b->aJ.heap[b]? =w.heap[b]?)->
    az aJ F bN zh aY->(∀b,aY b->¬cL b)->br aJ F (ds.set k bN) (c1++(zh++c2)) (λb=>cL b\/aY b)
 |[],_,_,_,_,_,hk=>by simp at hk
 |x::ds,cs,S,0,d,h,hk=>by
  rw[br]at h;obtain⟨c1,c2,jq,h8,rfl,h1,af,bs,ab,jS⟩:=h;simp at hk;subst hk;refine⟨[],c1,c2,h8,jq,rfl,rfl,ab,bs,λb ab bs=>jS _ bs ab,h1,?_⟩;intro aJ bN zh aY bC cc ao ll;simp only[set_cons_zero,nil_append];rw[br];exact⟨zh,c2,aY,h8,rfl,ao,br.frame bC _ _ _ cc af,λb h=>.inr h,λb h=>.inl h,λb h=>ll b h⟩
 |x::ds,cs,S,k+1,d,h,hk=>by
  rw[br]at h;obtain⟨c0,adY,jq,h8,rfl,h1,af,bs,ab,jS⟩:=h;simp only[getElem?_cons_succ]at hk;have hl:=az.length _ _ _ h1;obtain⟨c1,gY,c2,cL,jE,rfl,i0,pt,i2,i3,i5,MH⟩:=br.pick ds adY h8 k d af hk;refine⟨c0++c1,gY,c2,λb=>jq b\/cL b,jE,by simp,by simp[I.e_,hl,i0],?_,λb h=>ab _ (i2 _ h),?_,i5,?_⟩
  .rintro b (h|h)
   .exact bs _ h
   .exact ab _ (pt _ h)
  .rintro b (h|h) hk
   .exact jS _ h (i2 _ hk)
   .exact i3 _ h hk
  .intro aJ bN zh aY bC cc ao ll;simp only[set_cons_succ];rw[br];refine⟨c0,c1++(zh++c2),jq,λb=>cL b\/aY b,by simp,az.frame bC _ _ _ (λb ab=>cc b (.inl ab)) h1,
    MH aJ bN zh aY bC (λb ab=>cc b (.inr ab)) ao (λb ab au=>ll b ab (.inr au)),λb h=>.inl (.inl h),?_,?_⟩
   .rintro b (h|h)
    .exact .inl (.inr h)
    .exact .inr h
   .rintro b h (bL|bL)
    .exact jS _ h (pt _ bL)
    .exact ll _ bL (.inl h)
theorem MI:∀(aG:aAk) (k:Nat) (x y:I),aG[k]? =some x->y.wd=x.wd->I.e_ (aG.set k y)=I.e_ aG:=by
 intro aG;induction aG with
 |nil=>intro k x y h;simp at h
 |cons a aG ih=>
  intro k x y h e;cases k with
  |zero=>simp at h;subst h;simp[I.e_,e]
  |succ k=>simp at h;simp[I.e_,ih k x y h e]
theorem zi {sz:Nat}:∀(xs:aAk),(∀d∈xs,d.wd=sz)->I.e_ xs=xs.length*sz
 |[],_=>by simp[I.e_]
 |x::xs,h=>by
  rw[I.e_,h x (by simp),zi xs (λd ao=>h d (by simp[ao])),length_cons,Nat.add_mul,Nat.one_mul,Nat.add_comm]
theorem I.Bx:∀(q:aAf) (av d bN:I),I.sub q av=some d->bN.wd=d.wd->(I.put q bN av).wd=av.wd:=by
 intro q;induction q with
 |nil=>intro av d bN h e;simp[I.sub]at h;subst h;simpa [I.put]using e
 |cons k q ih=>
  intro av d bN h e;cases av with
  |agg aG=>
   simp only[I.sub]at h;split at h
   .rename_i x aq;simp only[I.put,aq,I.wd];exact MI _ _ _ _ aq (ih _ _ _ h e)
   .cases h
  |tuple aG=>
   simp only[I.sub]at h;split at h
   .rename_i x aq;simp only[I.put,aq,I.wd];exact MI _ _ _ _ aq (ih _ _ _ h e)
   .cases h
  |ag sz xs=>
   simp only[I.sub]at h;split at h
   .rename_i x aq;simp only[I.put,aq,I.wd]
   .cases h
  |aP x=>
   cases k with
   |zero=>simp only[I.put,I.wd]
   |succ k=>simp[I.sub]at h
  |_=>simp[I.sub]at h
theorem MJ {sz:Nat} {xs:aAk} {i:Nat} {y:I} (h:∀d∈xs,d.wd=sz) (hy:y.wd=sz):∀d∈xs.set i y,d.wd=sz:=by
 intro d ao;rcases mem_or_eq_of_mem_set ao with ao|rfl
 .exact h d ao
 .exact hy
theorem Bz {w:World} {b:Nat} {cur:Array Value} {e:TypeId} {fr:Nat×Nat} (h:w.heap[b]? =some (.cells cur e fr)) {l m r:aAi} (au:cur.toList=l++(m++r)):
  qH w b l.length m.length=m:=by
 refine Rd.qH (λj c bE=>?_);have eA:j<m.length:=(List.getElem?_eq_some_iff.1 bE).1;have:cur.toList[l.length+j]? =some c:=by
  rw[au,getElem?_append_right (by omega),getElem?_append_left (by omega)];rw[<-bE];congr 1;omega
 simp[World.cell?,h];simpa using this
def Flat (w:World) (F:Nat->Prop) (q:aAf) (av:I) (cs:aAi) (a:Option (Nat×Nat)) (d:I) (dI:aAi) (dF:Option (Nat×Nat)) (fb:Nat->Prop):Prop:=
 ∃l r:aAi,cs=l++(dI++r)/\dF=a.map (λx=>(x.1,x.2+l.length))/\
  ∀(aJ:World) (bN:I) (gZ:aAi) (aY:Nat->Prop),(∀b,F b->aJ.heap[b]? =w.heap[b]?)->(∀b,fb b->aJ.heap[b]? =w.heap[b]?)->
   bN.wd=d.wd->az aJ F bN gZ aY->(∀b,aY b->¬fb b)->az aJ F (I.put q bN av) (l++(gZ++r)) (λb=>fb b\/aY b)
def Deep (w:World) (F:Nat->Prop) (q:aAf) (av:I) (cs:aAi) (d:I) (dI:aAi) (dF:Option (Nat×Nat)) (fb:Nat->Prop):Prop:=
 ∃(b:Nat) (cur:Array Value) (e:TypeId) (fr:Nat×Nat) (l r:aAi),dF=some (b,l.length)/\fb b/\w.heap[b]? =some (.cells cur e fr)/\ov fr cur.size/\cur.toList=l++(dI++r)/\
  ∀(aJ:World) (bN:I) (gZ:aAi) (aY:Nat->Prop),(∀b,F b->aJ.heap[b]? =w.heap[b]?)->(∀c,fb c->c≠b->aJ.heap[c]? =w.heap[c]?)->
   aJ.heap[b]? =some (.cells (l++(gZ++r)).toArray e fr)->
   bN.wd=d.wd->az aJ F bN gZ aY->(∀b,aY b->¬fb b)->az aJ F (I.put q bN av) cs (λb=>fb b\/aY b)
theorem ctx {w:World} {F:Nat->Prop}:∀(q:aAf) (av:I) (cs:aAi) (S:Nat->Prop) (a:Option (Nat×Nat)) (d:I),
  az w F av cs S->I.sub q av=some d->∃(dI:aAi) (dF:Option (Nat×Nat)) (fb gr:Nat->Prop),ew w q av cs a=some (d,dI,dF)/\
   (∀b,fb b->S b)/\(∀b,gr b->S b)/\(∀b,fb b->¬gr b)/\az w F d dI gr/\(Flat w F q av cs a d dI dF fb\/Deep w F q av cs d dI dF fb):=by
 intro q;induction q with
 |nil=>
  intro av cs S a d h ao;simp[I.sub]at ao;subst ao;refine⟨cs,a,λ_=>False,S,rfl,λ_ h=>h.elim,λ_ h=>h,λ_ h=>h.elim,h,.inl ⟨[],[],by simp,?_,?_⟩⟩
  .cases a<;>simp
  .intro aJ bN gZ aY _ _ hw jo _;simp only[I.put,nil_append,append_nil];exact az.mono (λ_ h=>h) _ _ _ _ (λb h=>.inr h) jo
 |cons k q ih=>
  have fields:∀(mk:aAk->I) (MK:∀(w:World) (F:Nat->Prop) (aG:aAk) (cs:aAi) (S:Nat->Prop),az w F (mk aG) cs S=br w F aG cs S) (aG:aAk) (cs:aAi) (S:Nat->Prop) (a:Option (Nat×Nat)) (x d:I),
    (ln:∀bN,I.put (k::q) bN (mk aG)=mk (aG.set k (I.put q bN x)))->br w F aG cs S->aG[k]? =some x->I.sub q x=some d->
    ∃(dI:aAi) (dF:Option (Nat×Nat)) (fb gr:Nat->Prop),ew w q x ((cs.drop (I.e_ (aG.take k))).take x.wd) (a.map λl=>(l.1,l.2+I.e_ (aG.take k)))=some (d,dI,dF)/\
    (∀b,fb b->S b)/\(∀b,gr b->S b)/\(∀b,fb b->¬gr b)/\az w F d dI gr/\(Flat w F (k::q) (mk aG) cs a d dI dF fb\/Deep w F (k::q) (mk aG) cs d dI dF fb):=by
   intro mk MK aG cs S a x d ln h aq ao;obtain⟨c1,gY,c2,cL,jE,rfl,jr,gO,iX,kd,hi,pv⟩:=br.pick aG cs S k x h aq;have hl:=az.length _ _ _ hi;rw[zg c1 gY c2 _ _ jr hl];obtain⟨dI,dF,fb,gr,g0,g1,g2,g3,g4,g5⟩:=ih x _ jE (a.map λl=>(l.1,l.2+I.e_ (aG.take k))) d hi ao;refine⟨dI,dF,λb=>cL b\/fb b,gr,g0,?_,λb ab=>iX _ (g2 _ ab),?_,g4,?_⟩
   .rintro b (h|h)
    .exact gO _ h
    .exact iX _ (g1 _ h)
   .rintro b (h|h) ao
    .exact kd _ h (g2 _ ao)
    .exact g3 _ h ao
   .have fY:∀(b:Nat) (aY:Nat->Prop),(cL b\/fb b\/aY b)->((cL b\/fb b)\/aY b):=by
     rintro b aY (ab|ab|ab)
     .exact .inl (.inl ab)
     .exact .inl (.inr ab)
     .exact .inr ab
    rcases g5 with⟨l,r,rfl,aT,aU⟩|⟨b,cur,e,fr,l,r,aK,aT,aU,b_,cY,cv⟩
    .refine .inl ⟨c1++l,r++c2,by simp,?_,?_⟩
     .rw[aT,<-jr];cases a<;>simp[Nat.add_assoc]
     .intro aJ bN gZ aY bC cc hw jo ll;have ef:=aU aJ bN gZ aY bC (λb ab=>cc b (.inr ab)) hw jo (λb ab au=>ll b ab (.inr au));have bg:=pv aJ _ _ _ bC (λb ab=>cc b (.inl ab)) ef (by
       rintro b (ab|ab) h1
       .exact kd _ h1 (g1 _ ab)
       .exact ll _ ab (.inl h1))
      rw[ln,MK];have:=br.mono (λ_ h=>h) _ _ _ _ (λb=>fY b aY) bg;simpa using this
    .refine .inr ⟨b,cur,e,fr,l,r,aK,.inr aT,aU,b_,cY,?_⟩;intro aJ bN gZ aY bC cc pw hw jo ll;have ef:=cv aJ bN gZ aY bC (λc au=>cc c (.inr au)) pw hw jo (λb ab au=>ll b ab (.inr au));have bg:=pv aJ _ _ _ bC (λc au=>cc c (.inl au) (by rintro rfl;exact kd _ au (g1 _ aT))) ef (by
       rintro b (ab|ab) h1
       .exact kd _ h1 (g1 _ ab)
       .exact ll _ ab (.inl h1))
     rw[ln,MK];exact br.mono (λ_ h=>h) _ _ _ _ (λb=>fY b aY) bg
  intro av cs S a d h ao;cases av with
  |agg aG=>
   simp only[I.sub]at ao;split at ao
   .rename_i x aq;rw[az]at h;have:=fields .agg (λ_ _ _ _ _=>by rw[az]) aG cs S a x d (λbN=>by simp only[I.put,aq]) h aq ao;simpa only[ew,aq]using this
   .cases ao
  |tuple aG=>
   simp only[I.sub]at ao;split at ao
   .rename_i x aq;rw[az]at h;have:=fields .tuple (λ_ _ _ _ _=>by rw[az]) aG cs S a x d (λbN=>by simp only[I.put,aq]) h aq ao;simpa only[ew,aq]using this
   .cases ao
  |ag sz xs=>
   simp only[I.sub]at ao;split at ao
   .rename_i x aq;rw[az]at h;rcases h with⟨rfl,_,rfl⟩|⟨b,cap,cur,e,fr,eI,rfl,af,ay,a_,b1,dn,dc,gH,iq,k2,nT⟩
    .simp at aq
    .obtain⟨c1,gY,c2,cL,jE,p,jr,gO,iX,kd,hi,pv⟩:=br.pick xs _ eI k x iq aq;have hl:=az.length _ _ _ hi;have adZ:k<xs.length:=(List.getElem?_eq_some_iff.1 aq).1;have Eu:x.wd=sz:=gH x (mem_of_getElem? aq);have bG:I.e_ (xs.take k)=k*sz:=by
      rw[zi _ (λd ao=>gH d (mem_of_mem_take ao))];rw[length_take,Nat.min_eq_left (by omega)]
     obtain⟨vL,p6⟩:∃vL,cur.toList=c1++(gY++(c2++vL)):=by
      refine⟨cur.toList.drop (xs.length*sz),?_⟩;have:=(take_append_drop (xs.length*sz) cur.toList).symm;rw[p]at this;simpa using this
     have mz:qH w b (k*sz) sz=gY:=by
      have:=Bz ay p6
      rwa [jr,bG,hl,Eu]at this
     obtain⟨dI,dF,fb,gr,g0,g1,g2,g3,g4,g5⟩:=ih x _ jE (some (b,k*sz)) d hi ao;have ln:∀bN,I.put (k::q) bN (.ag sz xs)= .ag sz (xs.set k (I.put q bN x)):=λbN=>by simp only[I.put,aq]
     refine⟨dI,dF,λc=>c=b\/cL c\/fb c,gr,?_,?_,λc au=>k2 _ (iX _ (g2 _ au)),?_,g4,.inr ?_⟩
     .simp only[ew,aq,mz];exact g0
     .rintro c (rfl|h|h)
      .exact af
      .exact k2 _ (gO _ h)
      .exact k2 _ (iX _ (g1 _ h))
     .rintro c (rfl|h|h) ao
      .exact nT (iX _ (g2 _ ao))
      .exact kd _ h (g2 _ ao)
      .exact g3 _ h ao
     .have nt:∀bN,bN.wd=d.wd->(I.put q bN x).wd=sz:=λbN hw=>(I.Bx q x d bN ao hw).trans Eu;rcases g5 with⟨l,r,rfl,aT,aU⟩|⟨gI,ML,fS,MM,l,r,aK,aT,aU,b_,cY,cv⟩
      .refine⟨b,cur,e,fr,c1++l,r++(c2++vL),?_,.inl rfl,ay,a_.low,?_,?_⟩
       .rw[aT];simp[jr,bG]
       .rw[p6];simp
       .intro aJ bN gZ aY bC cc pw hw jo ll;have ef:=aU aJ bN gZ aY bC (λc au=>cc c (.inr (.inr au)) (by rintro rfl;exact nT (iX _ (g1 _ au)))) hw jo (λb ab au=>ll b ab (.inr (.inr au)));have bg:=pv aJ _ _ _ bC (λc au=>cc c (.inr (.inl au)) (by rintro rfl;exact nT (gO _ au))) ef (by
         rintro b (ab|ab) h1
         .exact kd _ h1 (g1 _ ab)
         .exact ll _ ab (.inr (.inl h1)))
        have Ev:=az.length _ _ _ jo;have Ew:=az.length _ _ _ g4;rw[ln,az];refine .inr ⟨b,cap,_,e,fr,λb=>cL b\/fb b\/aY b,by simp,.inl (.inl rfl),pw,?_,by simpa using b1,dn,?_,MJ gH (nt bN hw),?_,?_,?_⟩
        .have:(c1++l++(gZ++(r++(c2++vL)))).toArray.size=cur.size:=by
          have:cur.size=cur.toList.length:=by simp
          rw[this,p6];simp[Ev,Ew,hw]
         rw[this];exact a_
        .rw[<-dc];have:cur.size=cur.toList.length:=by simp
         rw[this,p6];simp[Ev,Ew,hw]
        .have hlen:(c1++(l++(gZ++r)++c2)).length=xs.length*sz:=by
          have:=congrArg length p;rw[length_take,Nat.min_eq_left (by simp[dc];exact mul_le_mul_right _ b1)]at this;rw[this];simp[Ev,Ew,hw]
         have:(c1++l++(gZ++(r++(c2++vL))))=(c1++(l++(gZ++r)++c2))++vL:=by simp
         rw[length_set];simp only[this];rw[take_left' hlen];exact bg
        .rintro c (h|h|h)
         .exact .inl (.inr (.inl h))
         .exact .inl (.inr (.inr h))
         .exact .inr h
        .rintro(h|h|h)
         .exact nT (gO _ h)
         .exact nT (iX _ (g1 _ h))
         .exact ll _ h (.inl rfl)
      .refine⟨gI,ML,fS,MM,l,r,aK,.inr (.inr aT),aU,b_,cY,?_⟩;intro aJ bN gZ aY bC cc pw hw jo ll;have ef:=cv aJ bN gZ aY bC (λc au dP=>cc c (.inr (.inr au)) dP) pw hw jo (λb ab au=>ll b ab (.inr (.inr au)));have dP:∀c,cL c->c≠gI:=by rintro c au rfl;exact kd _ au (g1 _ aT)
       have bg:=pv aJ _ _ _ bC (λc au=>cc c (.inr (.inl au)) (dP c au)) ef (by
        rintro b (ab|ab) h1
        .exact kd _ h1 (g1 _ ab)
        .exact ll _ ab (.inr (.inl h1)))
       have MN:b≠gI:=by rintro rfl;exact nT (iX _ (g1 _ aT))
       rw[ln,az];refine .inr ⟨b,cap,cur,e,fr,λb=>cL b\/fb b\/aY b,by simp,.inl (.inl rfl),(cc b (.inl rfl) MN).trans ay,a_,by simpa using b1,dn,dc,MJ gH (nt bN hw),?_,?_,?_⟩
       .rw[length_set,p];exact bg
       .rintro c (h|h|h)
        .exact .inl (.inr (.inl h))
        .exact .inl (.inr (.inr h))
        .exact .inr h
       .rintro(h|h|h)
        .exact nT (gO _ h)
        .exact nT (iX _ (g1 _ h))
        .exact ll _ h (.inl rfl)
   .cases ao
  |aP x=>
   cases k with
   |succ k=>simp[I.sub]at ao
   |zero=>
    simp only[I.sub]at ao;rw[az]at h;obtain⟨b,cur,e,fr,eI,rfl,af,ay,a_,b1,dn,dc⟩:=h;have hl:=az.length _ _ _ b1;have mz:qH w b 0 x.wd=cur.toList:=by
     have:=Bz (l:=[]) (m:=cur.toList) (r:=[]) ay (by simp)
     rwa [hl]at this
    obtain⟨dI,dF,fb,gr,g0,g1,g2,g3,g4,g5⟩:=ih x _ eI (some (b,0)) d b1 ao;have ln:∀bN,I.put (0::q) bN (.aP x)= .aP (I.put q bN x):=λbN=>rfl;refine⟨dI,dF,λc=>c=b\/fb c,gr,?_,?_,λc au=>dn _ (g2 _ au),?_,g4,.inr ?_⟩
    .simp only[ew,mz];exact g0
    .rintro c (rfl|h)
     .exact af
     .exact dn _ (g1 _ h)
    .rintro c (rfl|h) ao
     .exact dc (g2 _ ao)
     .exact g3 _ h ao
    .rcases g5 with⟨l,r,aK,aT,aU⟩|⟨gI,ML,fS,MM,l,r,aK,aT,aU,b_,cY,cv⟩
     .refine⟨b,cur,e,fr,l,r,?_,.inl rfl,ay,a_,aK,?_⟩
      .rw[aT];simp
      .intro aJ bN gZ aY bC cc pw hw jo ll;have ef:=aU aJ bN gZ aY bC (λc au=>cc c (.inr au) (by rintro rfl;exact dc (g1 _ au))) hw jo (λb ab au=>ll b ab (.inr au));have Ev:=az.length _ _ _ jo;have Ew:=az.length _ _ _ g4;rw[ln,az];refine⟨b,_,e,fr,λb=>fb b\/aY b,rfl,.inl (.inl rfl),pw,?_,ef,?_,?_⟩
       .have:(l++(gZ++r)).toArray.size=cur.size:=by
         have:cur.size=cur.toList.length:=by simp
         rw[this,aK];simp[Ev,Ew,hw]
        rw[this];exact a_
       .rintro c (h|h)
        .exact .inl (.inr h)
        .exact .inr h
       .rintro(h|h)
        .exact dc (g1 _ h)
        .exact ll _ h (.inl rfl)
     .refine⟨gI,ML,fS,MM,l,r,aK,.inr aT,aU,b_,cY,?_⟩;intro aJ bN gZ aY bC cc pw hw jo ll;have ef:=cv aJ bN gZ aY bC (λc au dP=>cc c (.inr au) dP) pw hw jo (λb ab au=>ll b ab (.inr au));have MN:b≠gI:=by rintro rfl;exact dc (g1 _ aT)
      rw[ln,az];refine⟨b,cur,e,fr,λb=>fb b\/aY b,rfl,.inl (.inl rfl),(cc b (.inl rfl) MN).trans ay,a_,ef,?_,?_⟩
      .rintro c (h|h)
       .exact .inl (.inr h)
       .exact .inr h
      .rintro(h|h)
       .exact dc (g1 _ h)
       .exact ll _ h (.inl rfl)
  |_=>simp[I.sub]at ao
mutual
def I.plain:I->Bool
 | .ag _ _=>false
 | .aP _=>false
 | .ck _=>false
 | .gN _ _=>false
 | .agg aG=>I.e6 aG
 | .tuple aG=>I.e6 aG
 |_=>true
def I.e6:aAk->Bool
 |[]=>true
 |d::ds=>d.plain&&I.e6 ds
end
mutual
def I.d_:I->I
 | .ag _ _=>.hole
 | .aP _=>.hole
 | .ck _=>.hole
 | .gN _ _=>.hole
 | .agg aG=>.agg (I.ow aG)
 | .tuple aG=>.tuple (I.ow aG)
 |d=>d
def I.ow:aAk->aAk
 |[]=>[]
 |d::ds=>d.d_::I.ow ds
end
mutual
theorem I.xI:∀d:I,d.d_.wd=d.wd
 | .hole=>rfl
 | .bool _=>rfl
 | .gq=>rfl
 | .int _ _=>rfl
 | .str _=>rfl
 | .et=>rfl
 | .bf=>rfl
 | .slice _=>rfl
 | .ag _ _=>rfl
 | .ref _=>rfl
 | .aP _=>rfl
 | .agg aG=>by simp only[I.d_,I.wd];exact I.MO aG
 | .tuple aG=>by simp only[I.d_,I.wd];exact I.MO aG
 | .fn _ _=>rfl
 | .h _ _=>rfl
 | .aw _ _=>rfl
 | .ab _ _=>rfl
 | .ck _=>rfl
 | .gN _ _=>rfl
theorem I.MO:∀ds:aAk,I.e_ (I.ow ds)=I.e_ ds
 |[]=>rfl
 |d::ds=>by simp only[I.ow,I.e_];rw[I.xI d,I.MO ds]
end
mutual
theorem az.d_ {w:World} {F:Nat->Prop}:∀(d:I) (cs:aAi) (S aY:Nat->Prop),az w F d cs S->az w F d.d_ cs aY
 | .hole,_,_,_,h=>h
 | .bool _,_,_,_,h=>h
 | .gq,_,_,_,h=>h
 | .int _ _,_,_,_,h=>h
 | .str _,_,_,_,h=>h
 | .et,_,_,_,h=>h
 | .bf,_,_,_,h=>h
 | .slice xs,cs,S,aY,h=>by
   show az w F (.slice xs) cs aY;rw[az]at h⊢;exact h
 | .ag sz xs,cs,S,aY,h=>by
   rw[I.d_,az];rw[az]at h;rcases h with⟨_,_,rfl⟩|⟨b,cap,cur,e,fr,eI,rfl,_⟩
   .exact⟨_,rfl,rfl⟩
   .exact⟨_,rfl,rfl⟩
 | .ref d,cs,S,aY,h=>by
   show az w F (.ref d) cs aY;rw[az]at h⊢;exact h
 | .aP d,cs,S,aY,h=>by
   rw[I.d_,az];rw[az]at h;obtain⟨b,cur,e,fr,eI,rfl,_⟩:=h;exact⟨_,rfl,rfl⟩
 | .agg aG,cs,S,aY,h=>by rw[I.d_,az];rw[az]at h;exact br.d_ aG _ _ _ h
 | .tuple aG,cs,S,aY,h=>by rw[I.d_,az];rw[az]at h;exact br.d_ aG _ _ _ h
 | .fn _ _,_,_,_,h=>h
 | .h _ _,_,_,_,h=>h
 | .aw _ _,_,_,_,h=>h
 | .ab _ _,_,_,_,h=>h
 | .ck _,_,_,_,h=>by rw[az]at h;rw[I.d_,az];exact oY.one h
 | .gN _ _,_,_,_,h=>by rw[az]at h;obtain⟨arr,rfl,_⟩:=h;rw[I.d_,az];exact⟨_,rfl,rfl⟩
theorem br.d_ {w:World} {F:Nat->Prop}:∀(ds:aAk) (cs:aAi) (S aY:Nat->Prop),br w F ds cs S->br w F (I.ow ds) cs aY
 |[],_,_,_,h=>h
 |d::ds,cs,S,aY,h=>by
  rw[I.ow,br];rw[br]at h;obtain⟨c1,c2,cL,eG,h1,af,ay,a_,b1,dn⟩:=h;exact⟨c1,c2,λ_=>False,λ_=>False,h1,az.d_ d _ _ _ af,br.d_ ds _ _ _ ay,λ_ h=>h.elim,λ_ h=>h.elim,λ_ h=>h.elim⟩
end
mutual
theorem az.plain {w:World} {F:Nat->Prop}:∀(d:I) (cs:aAi) (S aY:Nat->Prop),d.plain=true->az w F d cs S->az w F d cs aY
 | .hole,_,_,_,_,h=>h
 | .bool _,_,_,_,_,h=>h
 | .gq,_,_,_,_,h=>h
 | .int _ _,_,_,_,_,h=>h
 | .str _,_,_,_,_,h=>h
 | .et,_,_,_,_,h=>h
 | .bf,_,_,_,_,h=>h
 | .slice xs,cs,S,aY,_,h=>by rw[az]at h⊢;exact h
 | .ag sz xs,cs,S,aY,aw,h=>by simp[I.plain]at aw
 | .ref d,cs,S,aY,_,h=>by rw[az]at h⊢;exact h
 | .aP d,cs,S,aY,aw,h=>by simp[I.plain]at aw
 | .agg aG,cs,S,aY,aw,h=>by rw[az]at h⊢;exact br.plain aG _ _ _ aw h
 | .tuple aG,cs,S,aY,aw,h=>by rw[az]at h⊢;exact br.plain aG _ _ _ aw h
 | .fn _ _,_,_,_,_,h=>h
 | .h _ _,_,_,_,_,h=>h
 | .aw _ _,_,_,_,_,h=>h
 | .ab _ _,_,_,_,_,h=>h
 | .ck _,_,_,_,aw,_=>by simp[I.plain]at aw
 | .gN _ _,_,_,_,aw,_=>by simp[I.plain]at aw
theorem br.plain {w:World} {F:Nat->Prop}:∀(ds:aAk) (cs:aAi) (S aY:Nat->Prop),I.e6 ds=true->br w F ds cs S->br w F ds cs aY
 |[],_,_,_,_,h=>h
 |d::ds,cs,S,aY,aw,h=>by
  rw[br]at h⊢;simp only[I.e6,Bool.and_eq_true]at aw;obtain⟨c1,c2,cL,eG,h1,af,ay,a_,b1,dn⟩:=h;exact⟨c1,c2,λ_=>False,λ_=>False,h1,az.plain d _ _ _ aw.1 af,br.plain ds _ _ _ aw.2 ay,λ_ h=>h.elim,λ_ h=>h.elim,λ_ h=>h.elim⟩
end
def I.gE:aAf->I->Bool
 |[],_=>false
 |k::q,.agg aG=>match aG[k]? with
  |some d=>I.gE q d
  |none=>false
 |k::q,.tuple aG=>match aG[k]? with
  |some d=>I.gE q d
  |none=>false
 |_::_,.ag _ _=>true
 |_::_,.aP _=>true
 |_::_,_=>false
theorem Iy {aG:aAk} (h:I.e6 aG=true) {k:Nat} {d:I} (hk:aG[k]? =some d):d.plain=true:=by
 induction aG generalizing k with
 |nil=>simp at hk
 |cons a aG ih=>
  simp only[I.e6,Bool.and_eq_true]at h;cases k with
  |zero=>simp at hk;subst hk;exact h.1
  |succ k=>simp at hk;exact ih h.2 hk
theorem I.UC:∀(q:aAf) (d:I),d.plain=true->I.gE q d=false:=by
 intro q;induction q with
 |nil=>intros;rfl
 |cons k q ih=>
  intro d ao;cases d<;>first|rfl|(simp[I.plain]at ao;done)|skip
  all_goals
   simp only[I.gE];split
   .rename_i aG x aq;exact ih _ (Iy (by simpa [I.plain]using ao) aq)
   .rfl
theorem I.MP:∀(q:aAf) (d e:I),d.plain=true->I.sub q d=some e->e.plain=true:=by
 intro q;induction q with
 |nil=>intro d e ao h;simp[I.sub]at h;exact h▸ao
 |cons k q ih=>
  intro d e ao h;cases d<;>first|(simp[I.plain]at ao;done)|(simp[I.sub]at h;done)|skip
  all_goals
   simp only[I.sub]at h;split at h
   .rename_i aG x aq;exact ih _ _ (Iy (by simpa [I.plain]using ao) aq) h
   .cases h
theorem Iz {w aJ:World} {F:Nat->Prop}:∀(q:aAf) (av:I) (cs:aAi) (S:Nat->Prop) (a:Option (Nat×Nat)) (d:I),
  az w F av cs S->I.sub q av=some d->(∀b,S b->aJ.heap[b]? =w.heap[b]?)->ew aJ q av cs a=ew w q av cs a:=by
 intro q;induction q with
 |nil=>intros;rfl
 |cons k q ih=>
  have fields:∀(aG:aAk) (cs:aAi) (S:Nat->Prop) (a:Option (Nat×Nat)) (x d:I),br w F aG cs S->aG[k]? =some x->I.sub q x=some d->
    (∀b,S b->aJ.heap[b]? =w.heap[b]?)->
    ew aJ q x ((cs.drop (I.e_ (aG.take k))).take x.wd) (a.map λl=>(l.1,l.2+I.e_ (aG.take k)))=ew w q x ((cs.drop (I.e_ (aG.take k))).take x.wd) (a.map λl=>(l.1,l.2+I.e_ (aG.take k))):=by
   intro aG cs S a x d h aq ao cc;obtain⟨c1,gY,c2,cL,jE,rfl,jr,gO,iX,kd,hi,pv⟩:=br.pick aG cs S k x h aq;rw[zg c1 gY c2 _ _ jr (az.length _ _ _ hi)];exact ih x gY jE _ d hi ao (λb ab=>cc b (iX _ ab))
  intro av cs S a d h ao cc;cases av with
  |agg aG=>
   simp only[I.sub]at ao;split at ao
   .rename_i x aq;rw[az]at h;simp only[ew,aq];exact fields aG cs S a x d h aq ao cc
   .cases ao
  |tuple aG=>
   simp only[I.sub]at ao;split at ao
   .rename_i x aq;rw[az]at h;simp only[ew,aq];exact fields aG cs S a x d h aq ao cc
   .cases ao
  |ag sz xs=>
   simp only[I.sub]at ao;split at ao
   .rename_i x aq;rw[az]at h;rcases h with⟨rfl,_,rfl⟩|⟨b,cap,cur,e,fr,eI,rfl,af,ay,a_,b1,dn,dc,gH,iq,k2,nT⟩
    .simp at aq
    .obtain⟨c1,gY,c2,cL,jE,p,jr,gO,iX,kd,hi,pv⟩:=br.pick xs _ eI k x iq aq;have hl:=az.length _ _ _ hi;have adZ:k<xs.length:=(List.getElem?_eq_some_iff.1 aq).1;have Eu:x.wd=sz:=gH x (mem_of_getElem? aq);have bG:I.e_ (xs.take k)=k*sz:=by
      rw[zi _ (λd ao=>gH d (mem_of_mem_take ao))];rw[length_take,Nat.min_eq_left (by omega)]
     obtain⟨vL,p6⟩:∃vL,cur.toList=c1++(gY++(c2++vL)):=by
      refine⟨cur.toList.drop (xs.length*sz),?_⟩;have:=(take_append_drop (xs.length*sz) cur.toList).symm;rw[p]at this;simpa using this
     have mz:qH w b (k*sz) sz=gY:=by
      have:=Bz ay p6
      rwa [jr,bG,hl,Eu]at this
     have MQ:qH aJ b (k*sz) sz=gY:=by
      have:=Bz ((cc b af).trans ay) p6
      rwa [jr,bG,hl,Eu]at this
     simp only[ew,aq,mz,MQ];exact ih x gY jE _ d hi ao (λc au=>cc c (k2 _ (iX _ au)))
   .cases ao
  |aP x=>
   cases k with
   |succ k=>simp[I.sub]at ao
   |zero=>
    simp only[I.sub]at ao;rw[az]at h;obtain⟨b,cur,e,fr,eI,rfl,af,ay,a_,b1,dn,dc⟩:=h;have hl:=az.length _ _ _ b1;have mz:qH w b 0 x.wd=cur.toList:=by
     have:=Bz (l:=[]) (m:=cur.toList) (r:=[]) ay (by simp)
     rwa [hl]at this
    have MQ:qH aJ b 0 x.wd=cur.toList:=by
     have:=Bz (l:=[]) (m:=cur.toList) (r:=[]) ((cc b af).trans ay) (by simp)
     rwa [hl]at this
    simp only[ew,mz,MQ];exact ih x cur.toList eI _ d b1 ao (λc au=>cc c (dn _ au))
  |_=>simp[I.sub]at ao
def jd:Value->aAi
 | .agg cs=>cs.toList
 |v=>[v]
def cZ:Value->aAi
 | .tuple vs=>vs.toList.flatMap jd
 |v=>jd v
def ke:I->Value->Prop
 | .agg _,v=>∃arr,v= .agg arr
 |_,v=>Value.hq v=true
def eW:I->Value->Prop
 | .tuple ds,v=>∃arr:Array Value,v= .tuple arr/\arr.size=ds.length/\∀(k:Nat) (d:I) (x:Value),ds[k]? =some d->arr[k]? =some x->ke d x/\(∀vs,d≠.tuple vs)/\(jd x).length=d.wd
 |d,v=>ke d v
abbrev an:=Nat->I
mutual
def aQ (w:World) (F:Nat->Prop) (s:an) (aD:Nat->Value):I->Value->(Nat->Prop)->Prop
 | .hole,_,_=>True
 | .h x q,v,_=>∀d,I.sub q (s x)=some d->d.plain=false->∃dI a,ew w q (s x) (cZ (aD x)) none=some (d,dI,a)/\cZ v=dI/\eW d v
 | .aw x q,v,_=>∀d,I.sub q (s x)=some d->I.gE q (s x)=true->∃dI b o,ew w q (s x) (cZ (aD x)) none=some (d,dI,some (b,o))/\v= .pointer (some ⟨b,o,none⟩)
 | .ab x k,v,_=>(s x).plain=false->∃b cur e fr,v= .pointer (some ⟨b,k,none⟩)/\F b/\w.heap[b]? =some (.cells cur e fr)/\cur.toList=cZ (aD x)
 | .fn f cap,v,_=>∃arr:Array Value,v= .func (.func f) #[] arr/\e7 w F s aD cap arr.toList
 | .bool b,v,S=>eW (.bool b) v/\az w F (.bool b) (cZ v) S
 | .gq,v,S=>eW .gq v/\az w F .gq (cZ v) S
 | .int k n,v,S=>eW (.int k n) v/\az w F (.int k n) (cZ v) S
 | .str x,v,S=>eW (.str x) v/\az w F (.str x) (cZ v) S
 | .et,v,S=>eW .et v/\az w F .et (cZ v) S
 | .bf,v,S=>eW .bf v/\az w F .bf (cZ v) S
 | .slice xs,v,S=>eW (.slice xs) v/\az w F (.slice xs) (cZ v) S
 | .ag sz xs,v,S=>eW (.ag sz xs) v/\az w F (.ag sz xs) (cZ v) S
 | .ref d,v,S=>eW (.ref d) v/\az w F (.ref d) (cZ v) S
 | .aP d,v,S=>eW (.aP d) v/\az w F (.aP d) (cZ v) S
 | .agg d,v,S=>eW (.agg d) v/\az w F (.agg d) (cZ v) S
 | .tuple d,v,S=>eW (.tuple d) v/\az w F (.tuple d) (cZ v) S
 | .ck o,v,S=>eW (.ck o) v/\az w F (.ck o) (cZ v) S
 | .gN f d,v,S=>eW (.gN f d) v/\az w F (.gN f d) (cZ v) S
def e7 (w:World) (F:Nat->Prop) (s:an) (aD:Nat->Value):aAk->aAi->Prop
 |[],vs=>vs=[]
 |d::ds,vs=>∃v mc,vs=v::mc/\aQ w F s aD d v (λ_=>False)/\e7 w F s aD ds mc
end
def I.tree:I->Bool
 | .hole=>false
 | .h _ _=>false
 | .aw _ _=>false
 | .ab _ _=>false
 | .fn _ _=>false
 |_=>true
theorem aQ.dj {w:World} {F:Nat->Prop} {s:an} {aD:Nat->Value} {d:I} {v:Value} {S:Nat->Prop} (a6:d.tree=true):
  aQ w F s aD d v S↔(eW d v/\az w F d (cZ v) S):=by
 cases d<;>first|(simp[I.tree]at a6;done)|rw[aQ]
theorem jF {q:aAf} {av d:I} (h:I.sub q av=some d) (aw:d.plain=false\/I.gE q av=true):av.tree=true:=by
 cases q with
 |nil=>
  simp[I.sub]at h;subst h;rcases aw with aw|aw
  .cases av<;>first|rfl|(simp[I.plain]at aw)
  .simp[I.gE]at aw
 |cons k q=>cases av<;>first|rfl|(simp[I.sub]at h)
theorem MR {d:I} (h:d.plain=false):d.tree=true:=jF (q:=[]) (by simp only[I.sub]) (.inl h)
theorem aQ.frame {w aJ:World} {F cg:Nat->Prop} {s:an} {aD:Nat->Value} {Sx:Nat->Nat->Prop} (bC:∀b,F b->aJ.heap[b]? =w.heap[b]?) (UD:∀b,F b->cg b)
  (cc:∀x b,Sx x b->aJ.heap[b]? =w.heap[b]?) (nu:∀x,aQ w F s aD (s x) (aD x) (Sx x)):
  ∀(d:I) (v:Value) (S:Nat->Prop),(∀b,S b->aJ.heap[b]? =w.heap[b]?)->aQ w F s aD d v S->aQ aJ cg s aD d v S:=by
 have nv:∀(x:Nat) (q:aAf) (d:I),I.sub q (s x)=some d->(d.plain=false\/I.gE q (s x)=true)->ew aJ q (s x) (cZ (aD x)) none=ew w q (s x) (cZ (aD x)) none:=by
  intro x q d ao aw;have a6:=jF ao aw;have:=nu x;rw[aQ.dj a6]at this;exact Iz q _ _ (Sx x) none d this.2 ao (cc x)
 have qI:∀(d:I) (v:Value) (S:Nat->Prop),d.tree=true->(∀b,S b->aJ.heap[b]? =w.heap[b]?)->aQ w F s aD d v S->aQ aJ cg s aD d v S:=by
  intro d v S a6 zj h;rw[aQ.dj a6]at h⊢;exact⟨h.1,az.mono UD _ _ _ _ (λ_ h=>h) (az.frame bC _ _ _ zj h.2)⟩
 have step:∀n,(∀(d:I) (v:Value) (S:Nat->Prop),SizeOf.sizeOf d<=n->(∀b,S b->aJ.heap[b]? =w.heap[b]?)->aQ w F s aD d v S->aQ aJ cg s aD d v S)/\
   (∀(ds:aAk) (vs:aAi),SizeOf.sizeOf ds<=n->e7 w F s aD ds vs->e7 aJ cg s aD ds vs):=by
  intro n;induction n with
  |zero=>
   refine⟨λd v S b3=>?_,λds vs b3=>?_⟩
   .cases d<;>simp at b3<;>omega
   .cases ds<;>simp at b3<;>omega
  |succ n ih=>
   refine⟨λd v S b3 zj h=>?_,λds vs b3 h=>?_⟩
   .cases d with
    |hole=>rw[aQ];trivial
    |h x q=>
     rw[aQ]at h⊢;intro d ao aw;rw[nv x q d ao (.inl aw)];exact h d ao aw
    |aw x q=>
     rw[aQ]at h⊢;intro d ao aw;rw[nv x q d ao (.inr aw)];exact h d ao aw
    |ab x k=>
     rw[aQ]at h⊢;intro aw;obtain⟨b,cur,e,fr,h1,af,ay,a_⟩:=h aw;exact⟨b,cur,e,fr,h1,UD b af,(bC b af).trans ay,a_⟩
    |fn f cap=>
     rw[aQ]at h⊢;obtain⟨arr,rfl,au⟩:=h;exact⟨arr,rfl,ih.2 _ _ (by simp at b3;omega) au⟩
    |_=>exact qI _ _ _ rfl zj h
   .cases ds with
    |nil=>rw[e7]at h⊢;exact h
    |cons d ds=>
     rw[e7]at h⊢;obtain⟨v,mc,rfl,h1,af⟩:=h;simp at b3;exact⟨v,mc,rfl,ih.1 _ _ _ (by omega) (λ_ h=>h.elim) h1,ih.2 _ _ (by omega) af⟩
 intro d v S zj h;exact(step (SizeOf.sizeOf d)).1 d v S (Nat.le_refl _) zj h
mutual
def dJ (x:Nat):I->I
 | .h y q=>if y=x then .hole else .h y q
 | .aw y q=>if y=x then .hole else .aw y q
 | .ab y k=>if y=x then .hole else .ab y k
 | .fn f cap=>.fn f (lo x cap)
 |d=>d
def lo (x:Nat):aAk->aAk
 |[]=>[]
 |d::ds=>dJ x d::lo x ds
end
mutual
def cU (x:Nat):I->I
 | .h y q=>if y=x then(if q=[]then .h y q else .hole)else .h y q
 | .aw y q=>if y=x then .hole else .aw y q
 | .fn f cap=>.fn f (kO x cap)
 |d=>d
def kO (x:Nat):aAk->aAk
 |[]=>[]
 |d::ds=>cU x d::kO x ds
end
def eo {α:Type} (f:Nat->α) (t:Nat) (v:α):Nat->α:=λu=>if u=t then v else f u
def oZ (t:Nat) (s:an):an:=λu=>dJ t (s u)
def js (t:Nat) (s:an):an:=λu=>cU t (s u)
theorem o0 {α:Type} (f:Nat->α) (t:Nat) (v:α):eo f t v t=v:=by simp[eo]
theorem lp {α:Type} (f:Nat->α) {t u:Nat} (v:α) (h:u≠t):eo f t v u=f u:=by simp[eo,h]
theorem ad0 {t:Nat} {d:I} (h:d.tree=true):dJ t d=d:=by cases d<;>first|rfl|(simp[I.tree]at h)
theorem MS {t:Nat} {d:I} (h:d.tree=true):cU t d=d:=by cases d<;>first|rfl|(simp[I.tree]at h)
theorem ad1 {t:Nat} {d:I} (h:(dJ t d).tree=true):d.tree=true/\dJ t d=d:=by
 cases d<;>first|exact⟨rfl,rfl⟩|(simp only[dJ]at h;first|(split at h<;>simp[I.tree]at h)|simp[I.tree]at h)
theorem IA {t:Nat} {d:I} (h:(cU t d).tree=true):d.tree=true/\cU t d=d:=by
 cases d<;>first|exact⟨rfl,rfl⟩|(simp only[cU]at h;first|(split at h<;>(try split at h)<;>simp[I.tree]at h)|simp[I.tree]at h)
section
variable {w:World} {F:Nat->Prop} {s aC:an} {aD kf:Nat->Value} {t:Nat}
theorem aQ.dJ (iH:∀x,x≠t->(aC x).tree=true->aC x=s x/\kf x=aD x):∀(n:Nat),
  (∀(d:I) (v:Value) (S:Nat->Prop),SizeOf.sizeOf d<=n->aQ w F s aD d v S->aQ w F aC kf (en.dJ t d) v S)/\
  (∀(ds:aAk) (vs:aAi),SizeOf.sizeOf ds<=n->e7 w F s aD ds vs->e7 w F aC kf (lo t ds) vs):=by
 intro n;induction n with
 |zero=>
  refine⟨λd v S b3=>?_,λds vs b3=>?_⟩
  .cases d<;>simp at b3<;>omega
  .cases ds<;>simp at b3<;>omega
 |succ n ih=>
  refine⟨λd v S b3 h=>?_,λds vs b3 h=>?_⟩
  .cases d with
   |hole=>rw[en.dJ.eq_def];simp only;rw[aQ];trivial
   |h x q=>
    simp only[en.dJ];split
    .rw[aQ];trivial
    .rename_i aq;rw[aQ]at h⊢;intro d ao aw;obtain⟨aK,aT⟩:=iH x aq (jF ao (.inl aw));rw[aK,aT];rw[aK]at ao;exact h d ao aw
   |aw x q=>
    simp only[en.dJ];split
    .rw[aQ];trivial
    .rename_i aq;rw[aQ]at h⊢;intro d ao aw;obtain⟨aK,aT⟩:=iH x aq (jF ao (.inr aw));rw[aK,aT];rw[aK]at ao aw;exact h d ao aw
   |ab x k=>
    simp only[en.dJ];split
    .rw[aQ];trivial
    .rename_i aq;rw[aQ]at h⊢;intro aw;obtain⟨aK,aT⟩:=iH x aq (MR aw);rw[aT];rw[aK]at aw;exact h aw
   |fn f cap=>
    simp only[en.dJ];rw[aQ]at h⊢;obtain⟨arr,rfl,au⟩:=h;exact⟨arr,rfl,ih.2 _ _ (by simp at b3;omega) au⟩
   |_=>
    rw[ad0 (by rfl)];exact(aQ.dj (by rfl)).2 ((aQ.dj (by rfl)).1 h)
  .cases ds with
   |nil=>rw[lo,e7];rw[e7]at h;exact h
   |cons d ds=>
    rw[lo,e7];rw[e7]at h;obtain⟨v,mc,rfl,h1,af⟩:=h;simp at b3;exact⟨v,mc,rfl,ih.1 _ _ _ (by omega) h1,ih.2 _ _ (by omega) af⟩
theorem aQ.cU {aJ:World} (iH:∀x,x≠t->(aC x).tree=true->aC x=s x/\kf x=aD x) (kP:kf t=aD t) (fq:(aC t).plain=false->(s t).plain=false/\∀v,eW (s t) v->eW (aC t) v)
  (nv:∀x q d,x≠t->I.sub q (s x)=some d->(d.plain=false\/I.gE q (s x)=true)->ew aJ q (s x) (cZ (aD x)) none=ew w q (s x) (cZ (aD x)) none)
  (bC:∀b,F b->aJ.heap[b]? =w.heap[b]?):∀(n:Nat),
  (∀(d:I) (v:Value) (S:Nat->Prop),SizeOf.sizeOf d<=n->(∀b,S b->aJ.heap[b]? =w.heap[b]?)->aQ w F s aD d v S->aQ aJ F aC kf (en.cU t d) v S)/\
  (∀(ds:aAk) (vs:aAi),SizeOf.sizeOf ds<=n->e7 w F s aD ds vs->e7 aJ F aC kf (kO t ds) vs):=by
 intro n;induction n with
 |zero=>
  refine⟨λd v S b3=>?_,λds vs b3=>?_⟩
  .cases d<;>simp at b3<;>omega
  .cases ds<;>simp at b3<;>omega
 |succ n ih=>
  refine⟨λd v S b3 zj h=>?_,λds vs b3 h=>?_⟩
  .cases d with
   |hole=>rw[en.cU.eq_def];simp only;rw[aQ];trivial
   |h x q=>
    simp only[en.cU];split
    .rename_i aq;subst aq;split
     .rename_i cF;subst cF;rw[aQ]at h⊢;intro d ao aw;simp only[I.sub,some.injEq]at ao;subst ao;obtain⟨ef,bg⟩:=fq aw;obtain⟨dI,a,g1,g2,g3⟩:=h (s x) rfl ef;simp only[ew,some.injEq,Prod.mk.injEq]at g1;obtain⟨-,g1,axV⟩:=g1;refine⟨cZ (kf x),none,rfl,?_,bg _ g3⟩;rw[kP,g2,<-g1]
     .rw[aQ];trivial
    .rename_i aq;rw[aQ]at h⊢;intro d ao aw;obtain⟨aK,aT⟩:=iH x aq (jF ao (.inl aw));rw[aK,aT];rw[aK]at ao;rw[nv x q d aq ao (.inl aw)];exact h d ao aw
   |aw x q=>
    simp only[en.cU];split
    .rw[aQ];trivial
    .rename_i aq;rw[aQ]at h⊢;intro d ao aw;obtain⟨aK,aT⟩:=iH x aq (jF ao (.inr aw));rw[aK,aT];rw[aK]at ao aw;rw[nv x q d aq ao (.inr aw)];exact h d ao aw
   |ab x k=>
    simp only[en.cU];rw[aQ]at h⊢;intro aw;by_cases aq:x=t
    .subst aq;obtain⟨b,cur,e,fr,h1,af,ay,a_⟩:=h (fq aw).1;exact⟨b,cur,e,fr,h1,af,(bC b af).trans ay,by rw[kP];exact a_⟩
    .obtain⟨aK,aT⟩:=iH x aq (MR aw);rw[aK]at aw;obtain⟨b,cur,e,fr,h1,af,ay,a_⟩:=h aw;exact⟨b,cur,e,fr,h1,af,(bC b af).trans ay,by rw[aT];exact a_⟩
   |fn f cap=>
    simp only[en.cU];rw[aQ]at h⊢;obtain⟨arr,rfl,au⟩:=h;exact⟨arr,rfl,ih.2 _ _ (by simp at b3;omega) au⟩
   |_=>
    rw[MS (by rfl)];have bL:=(aQ.dj (by rfl)).1 h;exact(aQ.dj (by rfl)).2 ⟨bL.1,az.frame bC _ _ _ zj bL.2⟩
  .cases ds with
   |nil=>rw[kO,e7];rw[e7]at h;exact h
   |cons d ds=>
    rw[kO,e7];rw[e7]at h;obtain⟨v,mc,rfl,h1,af⟩:=h;simp at b3;exact⟨v,mc,rfl,ih.1 _ _ _ (by omega) (λ_ h=>h.elim) h1,ih.2 _ _ (by omega) af⟩
theorem aQ.void (iH:∀x,x≠t->(aC x).tree=true->aC x=s x/\kf x=aD x) (qJ:(aC t).plain=true):∀(n:Nat),
  (∀(d:I) (v:Value) (S:Nat->Prop),SizeOf.sizeOf d<=n->aQ w F s aD d v S->aQ w F aC kf d v S)/\
  (∀(ds:aAk) (vs:aAi),SizeOf.sizeOf ds<=n->e7 w F s aD ds vs->e7 w F aC kf ds vs):=by
 intro n;induction n with
 |zero=>
  refine⟨λd v S b3=>?_,λds vs b3=>?_⟩
  .cases d<;>simp at b3<;>omega
  .cases ds<;>simp at b3<;>omega
 |succ n ih=>
  refine⟨λd v S b3 h=>?_,λds vs b3 h=>?_⟩
  .cases d with
   |hole=>rw[aQ];trivial
   |h x q=>
    rw[aQ]at h⊢;intro d ao aw;by_cases aq:x=t
    .subst aq;rw[I.MP _ _ _ qJ ao]at aw;cases aw
    .obtain⟨aK,aT⟩:=iH x aq (jF ao (.inl aw));rw[aK,aT];rw[aK]at ao;exact h d ao aw
   |aw x q=>
    rw[aQ]at h⊢;intro d ao aw;by_cases aq:x=t
    .subst aq;rw[I.UC _ _ qJ]at aw;cases aw
    .obtain⟨aK,aT⟩:=iH x aq (jF ao (.inr aw));rw[aK,aT];rw[aK]at ao aw;exact h d ao aw
   |ab x k=>
    rw[aQ]at h⊢;intro aw;by_cases aq:x=t
    .subst aq;rw[qJ]at aw;cases aw
    .obtain⟨aK,aT⟩:=iH x aq (MR aw);rw[aT];rw[aK]at aw;exact h aw
   |fn f cap=>
    rw[aQ]at h⊢;obtain⟨arr,rfl,au⟩:=h;exact⟨arr,rfl,ih.2 _ _ (by simp at b3;omega) au⟩
   |_=>exact(aQ.dj (by rfl)).2 ((aQ.dj (by rfl)).1 h)
  .cases ds with
   |nil=>rw[e7];rw[e7]at h;exact h
   |cons d ds=>
    rw[e7];rw[e7]at h;obtain⟨v,mc,rfl,h1,af⟩:=h;simp at b3;exact⟨v,mc,rfl,ih.1 _ _ _ (by omega) h1,ih.2 _ _ (by omega) af⟩
end
def MT:Bool:=false
def Out (w w0:World):Prop:=w.output=w0.output/\(MT=true->w0.drawn<=w.drawn)
theorem Out.trans {a b c:World} (h:Out a b) (af:Out b c):Out a c:=⟨Eq.trans h.1 af.1,λd=>Nat.le_trans (af.2 d) (h.2 d)⟩
theorem Out.refl (w:World):Out w w:=⟨rfl,λ_=>Nat.le_refl _⟩
def MU (o:Obj):Prop:=∃bx cs e fr,o= .cells cs e fr/\cs[0]? =some bx/\(bx= .nilIface\/∃MV MW,bx= .iface MV MW)
def IB (o:Obj):Prop:=∃e fr,o= .cells ((range 20).map λi=>Value.int .u64 ((10^i:Nat):Int)).toArray e fr
def IC:List (Nat×(Obj->Prop)):=[(2,MU),(1,IB)]
def ub (w:World) (X:Nat->Prop):Prop:=∀p∈IC,p.1<w.heap.size/\¬X p.1/\∃o,w.heap[p.1]? =some o/\p.2 o
theorem ub.next {w aJ:World} {X Y:Nat->Prop} (h:ub w X) (ae:w.heap.size<=aJ.heap.size) (ab:∀b,b<w.heap.size->¬X b->aJ.heap[b]? =w.heap[b]?) (hy:∀b,Y b->X b\/w.heap.size<=b):ub aJ Y:=λp aw=>by
 obtain⟨h1,af,o,ay,a_⟩:=h p aw;refine⟨Nat.lt_of_lt_of_le h1 ae,λh=>?_,o,(ab _ h1 af).trans ay,a_⟩;rcases hy _ h with h|h
 .exact af h
 .omega
structure ca (w0:World) (F0 X F:Nat->Prop) (S:Nat->Nat->Prop) (s:an) (aD:Nat->Value) (w:World):Prop where
 hL:∀b,F0 b->F b
 h9:∀b,F b->F0 b\/X b\/w0.heap.size<=b
 fG:∀b,F b->b<w.heap.size
 fc:∀t b,S t b->b<w.heap.size
 gl:∀t b,S t b->¬F b
 fT:∀t u b,t≠u->S t b->¬S u b
 eI:∀t b,S t b->X b\/w0.heap.size<=b
 eg:∀t,aQ w F s aD (s t) (aD t) (S t)
 old:∀b,b<w0.heap.size->¬X b->w.heap[b]? =w0.heap[b]?
 size:w0.heap.size<=w.heap.size
 os:w.os=w0.os
 tape:w.tape=w0.tape
 output:Out w w0
 fU:ub w0 X
section
variable {w0 w aJ:World} {F0 X F:Nat->Prop} {S:Nat->Nat->Prop} {s:an} {aD:Nat->Value}
theorem ca.grow (h:ca w0 F0 X F S s aD w) (ab:∀b,b<w.heap.size->aJ.heap[b]? =w.heap[b]?) (ae:w.heap.size<=aJ.heap.size)
  (h1:aJ.os=w.os) (af:aJ.tape=w.tape) (ay:Out aJ w):ca w0 F0 X F S s aD aJ where
 hL:=h.hL
 h9:=h.h9
 fG:=λb bC=>Nat.lt_of_lt_of_le (h.fG b bC) ae
 fc:=λt b bC=>Nat.lt_of_lt_of_le (h.fc t b bC) ae
 gl:=h.gl
 fT:=h.fT
 eI:=h.eI
 eg:=λt=>aQ.frame (Sx:=S) (λb bC=>ab b (h.fG b bC)) (λ_ h=>h) (λx b cc=>ab b (h.fc x b cc)) h.eg _ _ _ (λb cc=>ab b (h.fc t b cc)) (h.eg t)
 old:=λb eA me=>(ab b (Nat.lt_of_lt_of_le eA h.size)).trans (h.old b eA me)
 size:=Nat.le_trans h.size ae
 os:=h1.trans h.os
 tape:=af.trans h.tape
 output:=ay.trans h.output
 fU:=h.fU
def g_ (S:Nat->Nat->Prop) (t:Nat) (Sn:Nat->Prop):Nat->Nat->Prop:=λu b=>if u=t then Sn b else S u b
theorem Ex (S:Nat->Nat->Prop) (t:Nat) (Sn:Nat->Prop):g_ S t Sn t=Sn:=by funext b;simp[g_]
theorem Ey (S:Nat->Nat->Prop) {t u:Nat} (Sn:Nat->Prop) (h:u≠t):g_ S t Sn u=S u:=by funext b;simp[g_,h]
theorem ca.BA (h:ca w0 F0 X F S s aD w) {t:Nat} {d:I} {v:Value} (aw:d.plain=true) (ao:aQ w F s aD d v (λ_=>False)):
  ca w0 F0 X F (g_ S t (λ_=>False)) (eo s t d) (eo aD t v) w where
 hL:=h.hL
 h9:=h.h9
 fG:=h.fG
 fc:=λu b ab=>by simp only[g_]at ab;split at ab;exact ab.elim;exact h.fc u b ab
 gl:=λu b ab=>by simp only[g_]at ab;split at ab;exact ab.elim;exact h.gl u b ab
 fT:=λu x b dP ab aq=>by
  simp only[g_]at ab aq;split at ab
  .exact ab.elim
  .split at aq
   .exact aq.elim
   .exact h.fT u x b dP ab aq
 eI:=λu b ab=>by simp only[g_]at ab;split at ab;exact ab.elim;exact h.eI u b ab
 eg:=λu=>by
  have iH:∀x,x≠t->(eo s t d x).tree=true->eo s t d x=s x/\eo aD t v x=aD x:=λx aq _=>⟨lp _ _ aq,lp _ _ aq⟩
  have qJ:(eo s t d t).plain=true:=by rw[o0];exact aw
  by_cases hu:u=t
  .subst hu;rw[o0,o0,Ex];exact(aQ.void iH qJ _).1 _ _ _ (Nat.le_refl _) ao
  .rw[lp _ _ hu,lp _ _ hu,Ey _ _ hu];exact(aQ.void iH qJ _).1 _ _ _ (Nat.le_refl _) (h.eg u)
 old:=h.old
 size:=h.size
 os:=h.os
 tape:=h.tape
 output:=h.output
 fU:=h.fU
theorem ca.UE (h:ca w0 F0 X F S s aD w) {t:Nat} {d:I} {v:Value} {Sn:Nat->Prop} (ao:d.tree=true) (ae:eW d v) (aB:az w F d (cZ v) Sn)
  (eA:∀b,Sn b->b<w.heap.size) (bC:∀b,Sn b->¬F b) (cc:∀u b,u≠t->Sn b->¬S u b) (a7:∀b,Sn b->X b\/w0.heap.size<=b):
  ca w0 F0 X F (g_ S t Sn) (eo (oZ t s) t d) (eo aD t v) w where
 hL:=h.hL
 h9:=h.h9
 fG:=h.fG
 fc:=λu b ab=>by simp only[g_]at ab;split at ab;exact eA b ab;exact h.fc u b ab
 gl:=λu b ab=>by simp only[g_]at ab;split at ab;exact bC b ab;exact h.gl u b ab
 fT:=λu x b dP ab aq=>by
  simp only[g_]at ab aq;split at ab
  .rename_i hu;rw[if_neg (λe=>dP (hu.trans e.symm))]at aq;exact cc x b (λe=>dP (hu.trans e.symm)) ab aq
  .rename_i hu;split at aq
   .exact cc u b hu aq ab
   .exact h.fT u x b dP ab aq
 eI:=λu b ab=>by simp only[g_]at ab;split at ab;exact a7 b ab;exact h.eI u b ab
 eg:=λu=>by
  have iH:∀x,x≠t->(eo (oZ t s) t d x).tree=true->eo (oZ t s) t d x=s x/\eo aD t v x=aD x:=λx aq a6=>by
   rw[lp _ _ aq]at a6⊢;exact⟨(ad1 a6).2,lp _ _ aq⟩
  by_cases hu:u=t
  .subst hu;rw[o0,o0,Ex];exact(aQ.dj ao).2 ⟨ae,aB⟩
  .rw[lp _ _ hu,lp _ _ hu,Ey _ _ hu];exact(aQ.dJ iH _).1 _ _ _ (Nat.le_refl _) (h.eg u)
 old:=h.old
 size:=h.size
 os:=h.os
 tape:=h.tape
 output:=h.output
 fU:=h.fU
theorem xJ (k:Nat) (q:aAf) (bN x:I):(∃aG gs,x= .agg aG/\I.put (k::q) bN x= .agg gs)\/(∃aG gs,x= .tuple aG/\I.put (k::q) bN x= .tuple gs)\/
  (∃sz xs cq,x= .ag sz xs/\I.put (k::q) bN x= .ag sz cq)\/(∃y z,x= .aP y/\I.put (k::q) bN x= .aP z)\/I.put (k::q) bN x=x:=by
 cases x with
 |agg aG=>simp only[I.put];split<;>exact .inl ⟨_,_,rfl,rfl⟩
 |tuple aG=>simp only[I.put];split<;>exact .inr (.inl ⟨_,_,rfl,rfl⟩)
 |ag sz aG=>simp only[I.put];split<;>exact .inr (.inr (.inl ⟨_,_,_,rfl,rfl⟩))
 |aP y=>cases k<;>exact .inr (.inr (.inr (.inl ⟨_,_,rfl,rfl⟩)))
 |_=>exact .inr (.inr (.inr (.inr rfl)))
theorem UF {k:Nat} {q:aAf} {bN x:I} {v:Value} (h:ke x v):ke (I.put (k::q) bN x) v:=by
 rcases xJ k q bN x with⟨aG,gs,rfl,e⟩|⟨aG,gs,rfl,e⟩|⟨sz,xs,cq,rfl,e⟩|⟨y,z,rfl,e⟩|e<;>rw[e]<;>exact h
theorem UG {k:Nat} {q:aAf} {bN x:I} (h:∀vs,x≠.tuple vs):∀vs,I.put (k::q) bN x≠.tuple vs:=by
 rcases xJ k q bN x with⟨aG,gs,rfl,e⟩|⟨aG,gs,rfl,e⟩|⟨sz,xs,cq,rfl,e⟩|⟨y,z,rfl,e⟩|e<;>rw[e]<;>first|exact h|(intro vs bL;cases bL;done)|exact(h _ rfl).elim
theorem Ez {k:Nat} {q:aAf} {d bN av:I} {v:Value} (h:eW av v) (ao:I.sub (k::q) av=some d) (h1:∀v,ke d v->ke bN v) (af:(∀vs,d≠.tuple vs)->∀vs,bN≠.tuple vs) (ay:bN.wd=d.wd):
  eW (I.put (k::q) bN av) v:=by
 cases av with
 |tuple aG=>
  simp only[I.sub]at ao;split at ao
  .rename_i x aq;simp only[I.put,aq];simp only[eW]at h⊢;obtain⟨arr,rfl,b3,nu⟩:=h;refine⟨arr,rfl,by simpa using b3,λj e y he hy=>?_⟩;rw[getElem?_set]at he;split at he
   .rename_i MX;subst MX;split at he
    .simp only[some.injEq]at he;subst he;obtain⟨g1,g2,g3⟩:=nu k x y aq hy;refine⟨?_,?_,g3.trans (I.Bx q x d bN ao ay).symm⟩
     .cases q with
      |nil=>
       simp only[I.sub,some.injEq]at ao;subst ao;exact h1 _ g1
      |cons cn q=>exact UF g1
     .cases q with
      |nil=>
       simp only[I.sub,some.injEq]at ao;subst ao;exact af g2
      |cons cn q=>exact UG g2
    .cases he
   .exact nu j e y he hy
  .cases ao
 |agg aG=>simp only[I.put];split<;>exact h
 |ag sz aG=>simp only[I.put];split<;>exact h
 |aP y=>cases k<;>exact h
 |_=>exact h
theorem MY {d:I} {v:Value} (h:ke d v):ke d.d_ v:=by cases d<;>exact h
theorem UH {s:an} {x:Nat} {q:aAf} {d:I} (ao:I.sub q (s x)=some d) (aw:d.plain=false):
  (eo (js x s) x (I.put q d.d_ (s x)) x).plain=false->(s x).plain=false/\∀v,eW (s x) v->eW (eo (js x s) x (I.put q d.d_ (s x)) x) v:=by
  rw[o0];intro fL;cases q with
  |nil=>
   exfalso;have:∀d:I,d.d_.plain=true:=by
    intro d;have key:∀n,(∀d:I,SizeOf.sizeOf d<=n->d.d_.plain=true)/\(∀ds:aAk,SizeOf.sizeOf ds<=n->I.e6 (I.ow ds)=true):=by
     intro n;induction n with
     |zero=>exact⟨λd b3=>by cases d<;>simp at b3<;>omega,λds b3=>by cases ds<;>simp at b3<;>omega⟩
     |succ n ih=>
      refine⟨λd b3=>?_,λds b3=>?_⟩
      .cases d with
       |agg aG=>simp only[I.d_,I.plain];exact ih.2 _ (by simp at b3;omega)
       |tuple aG=>simp only[I.d_,I.plain];exact ih.2 _ (by simp at b3;omega)
       |_=>rfl
      .cases ds with
       |nil=>rfl
       |cons d ds=>
        simp at b3;simp only[I.ow,I.e6,Bool.and_eq_true];exact⟨ih.1 _ (by omega),ih.2 _ (by omega)⟩
    exact(key _).1 d (Nat.le_refl _)
   simp only[I.put]at fL;rw[this]at fL;cases fL
  |cons k q=>
   refine⟨?_,λv aB=>Ez aB ao (λv h=>MY h) (λh vs e=>?_) (I.xI d)⟩
   .cases bR:(s x).plain with
    |false=>rfl
    |true=>rw[I.MP _ _ _ bR ao]at aw;cases aw
   .cases d<;>first|(exact h _ rfl)|(simp[I.d_]at e)
theorem ca.take (h:ca w0 F0 X F S s aD w) {x:Nat} {q:aAf} {d:I} (ao:I.sub q (s x)=some d) (aw:d.plain=false):
  ∃(Sn gr:Nat->Prop) (dI:aAi) (a:Option (Nat×Nat)),ca w0 F0 X F (g_ S x Sn) (eo (js x s) x (I.put q d.d_ (s x))) aD w/\
   ew w q (s x) (cZ (aD x)) none=some (d,dI,a)/\az w F d dI gr/\(∀b,gr b->S x b)/\(∀b,Sn b->S x b)/\(∀b,gr b->¬Sn b)/\
   (∀(bN:I) (v:Value) (aY:Nat->Prop),aQ w F s aD bN v aY->aQ w F (eo (js x s) x (I.put q d.d_ (s x))) aD (en.cU x bN) v aY):=by
 have a6:=jF ao (.inl aw);have aq:=h.eg x;rw[aQ.dj a6]at aq;obtain⟨dI,a,fb,gr,g0,g1,g2,g3,g4,g5⟩:=ctx q (s x) (cZ (aD x)) (S x) none d aq.2 ao;have ln:az w F (I.put q d.d_ (s x)) (cZ (aD x)) fb:=by
  have kz:az w F d.d_ dI (λ_=>False):=az.d_ _ _ _ _ g4;have mQ:∀b,(fb b\/False)->fb b:=λb h=>h.elim id False.elim;rcases g5 with⟨l,r,aK,aT,aU⟩|⟨b,cur,e,fr,l,r,aK,aT,aU,b_,cY,cv⟩
  .have:=aU w _ dI _ (λ_ _=>rfl) (λ_ _=>rfl) (I.xI d) kz (λ_ h=>h.elim);rw[<-aK]at this;exact az.mono (λ_ h=>h) _ _ _ _ mQ this
  .have:=cv w _ dI _ (λ_ _=>rfl) (λ_ _ _=>rfl) (by rw[aU,<-cY]) (I.xI d) kz (λ_ h=>h.elim);exact az.mono (λ_ h=>h) _ _ _ _ mQ this
 have ad2:eW (I.put q d.d_ (s x)) (aD x)/\(I.put q d.d_ (s x)).tree=true\/I.put q d.d_ (s x)= .hole:=by
  cases q with
  |nil=>
   simp only[I.sub,some.injEq]at ao;subst ao;simp only[I.put];cases ae:s x with
   |ag sz xs=>right;rfl
   |aP y=>right;rfl
   |ck y=>right;rfl
   |agg aG=>left;rw[ae]at aq;exact⟨aq.1,rfl⟩
   |tuple aG=>
    left;rw[ae]at aq;refine⟨?_,rfl⟩;simp only[eW,I.d_]at aq⊢;obtain⟨arr,e,b3,nu⟩:=aq.1;have hl:∀aG:aAk,I.ow aG=aG.map I.d_:=by
     intro aG;induction aG with
     |nil=>rfl
     |cons a aG ih=>simp[I.ow,ih]
    refine⟨arr,e,by rw[hl];simpa using b3,λk fS y he hy=>?_⟩;rw[hl,getElem?_map]at he;cases hk:aG[k]? with
    |none=>rw[hk]at he;cases he
    |some z=>
     rw[hk]at he;simp only[map_some,some.injEq]at he;subst he;obtain⟨g1,g2,g3⟩:=nu k z y hk hy;refine⟨MY g1,λvs e=>?_,g3.trans (I.xI z).symm⟩;cases z<;>first|(exact g2 _ rfl)|(simp[I.d_]at e)
   |gN _ _=>right;simp[I.d_]
   |_=>rw[ae]at aw;simp[I.plain]at aw
  |cons k q=>
   left;refine⟨Ez aq.1 ao (λv h=>MY h) (λh vs e=>?_) (I.xI d),?_⟩
   .cases d<;>first|(exact h _ rfl)|(simp[I.d_]at e)
   .rcases xJ k q d.d_ (s x)with⟨aG,gs,aK,e⟩|⟨aG,gs,aK,e⟩|⟨sz,xs,cq,aK,e⟩|⟨y,z,aK,e⟩|e<;>rw[e]<;>first|rfl|exact a6
 refine⟨fb,gr,dI,a,?_,g0,g4,g2,g1,λb h1 af=>g3 b af h1,?_⟩
 rotate_left
 .have iH:∀y,y≠x->(eo (js x s) x (I.put q d.d_ (s x)) y).tree=true->eo (js x s) x (I.put q d.d_ (s x)) y=s y/\aD y=aD y:=λy hy a6=>by
   rw[lp _ _ hy]at a6⊢;exact⟨(IA a6).2,rfl⟩
  intro bN v aY jo;exact(aQ.cU iH rfl (UH ao aw) (λ_ _ _ _ _ _=>rfl) (λ_ _=>rfl) _).1 _ _ _ (Nat.le_refl _) (λ_ _=>rfl) jo
 have iH:∀y,y≠x->(eo (js x s) x (I.put q d.d_ (s x)) y).tree=true->eo (js x s) x (I.put q d.d_ (s x)) y=s y/\aD y=aD y:=λy hy a6=>by
  rw[lp _ _ hy]at a6⊢;exact⟨(IA a6).2,rfl⟩
 have fq:=UH (s:=s) (x:=x) ao aw;constructor;case hL=>exact h.hL
 case h9=>exact h.h9
 case fG=>exact h.fG
 case fc=>exact λu b ab=>by simp only[g_]at ab;split at ab;exact h.fc x b (g1 b ab);exact h.fc u b ab
 case gl=>exact λu b ab=>by simp only[g_]at ab;split at ab;exact h.gl x b (g1 b ab);exact h.gl u b ab
 case fT=>
  intro u y b dP ab hy;simp only[g_]at ab hy;split at ab
  .rename_i hu;rw[if_neg (λe=>dP (hu.trans e.symm))]at hy;exact h.fT x y b (λe=>dP (hu.trans e)) (g1 b ab) hy
  .rename_i hu;split at hy
   .exact h.fT u x b hu ab (g1 b hy)
   .exact h.fT u y b dP ab hy
 case eI=>exact λu b ab=>by simp only[g_]at ab;split at ab;exact h.eI x b (g1 b ab);exact h.eI u b ab
 case eg=>
  intro u;by_cases hu:u=x
  .subst hu;rw[o0,Ex];rcases ad2 with⟨aK,aT⟩|e
   .exact(aQ.dj aT).2 ⟨aK,ln⟩
   .rw[e,aQ];trivial
  .rw[lp _ _ hu,Ey _ _ hu];exact(aQ.cU iH rfl fq (λ_ _ _ _ _ _=>rfl) (λ_ _=>rfl) _).1 _ _ _ (Nat.le_refl _) (λ_ _=>rfl) (h.eg u)
 case old=>exact h.old
 case size=>exact h.size
 case os=>exact h.os
 case tape=>exact h.tape
 case output=>exact h.output
 case fU=>exact h.fU
theorem ca.store (h:ca w0 F0 X F S s aD w) {x:Nat} {q:aAf} {d bN:I} (ao:I.sub q (s x)=some d) (au:I.gE q (s x)=true)
  {gZ:aAi} {Sn:Nat->Prop} (aB:az w F bN gZ Sn) (nt:bN.wd=d.wd)
  (eA:∀b,Sn b->b<w.heap.size) (bC:∀b,Sn b->¬F b) (cc:∀u b,Sn b->¬S u b) (a7:∀b,Sn b->X b\/w0.heap.size<=b):
  ∃(dI:aAi) (b:Nat) (l r:aAi) (cur:Array Value) (e:TypeId) (fr:Nat×Nat),ew w q (s x) (cZ (aD x)) none=some (d,dI,some (b,l.length))/\
   w.heap[b]? =some (.cells cur e fr)/\cur.toList=l++(dI++r)/\ov fr cur.size/\
   ∀aJ,aJ.heap[b]? =some (.cells (l++(gZ++r)).toArray e fr)->(∀c,c≠b->aJ.heap[c]? =w.heap[c]?)->aJ.heap.size=w.heap.size->aJ.os=w.os->aJ.tape=w.tape->Out aJ w->
    ∃aY,ca w0 F0 X F aY (eo (js x s) x (I.put q bN (s x))) aD aJ:=by
 have a6:=jF ao (.inr au);have aq:=h.eg x;rw[aQ.dj a6]at aq;obtain⟨dI,a,fb,gr,g0,g1,g2,g3,g4,g5⟩:=ctx q (s x) (cZ (aD x)) (S x) none d aq.2 ao;have ad3:Deep w F q (s x) (cZ (aD x)) d dI a fb:=by
  rcases g5 with⟨l,r,aK,aT,aU⟩|g5
  .exfalso;have nU:∀(q:aAf) (av:I) (cs:aAi) (a0:Option (Nat×Nat)) (d:I) (dI:aAi),I.gE q av=true->ew w q av cs a0=some (d,dI,none)->False:=by
    intro q;induction q with
    |nil=>intro av cs a0 d dI au;simp[I.gE]at au
    |cons k q ih=>
     have UI:∀(q:aAf) (av:I) (cs:aAi) (l:Nat×Nat) (d:I) (dI:aAi),ew w q av cs (some l)=some (d,dI,none)->False:=by
      intro q;induction q with
      |nil=>intro av cs l d dI h;simp[ew]at h
      |cons k q BB=>
       intro av cs l d dI h;cases av with
       |agg aG=>rw[ew]at h;split at h;exact BB _ _ _ _ _ h;cases h
       |tuple aG=>rw[ew]at h;split at h;exact BB _ _ _ _ _ h;cases h
       |ag sz xs=>simp only[ew]at h;split at h;exact BB _ _ _ _ _ h;cases h
       |aP y=>
        cases k with
        |zero=>rw[ew.eq_def]at h;simp only at h;split at h;exact BB _ _ _ _ _ h;cases h
        |succ k=>rw[show ew w ((k+1)::q) (.aP y) cs (some l)=none from rfl]at h;cases h
       |_=>simp[ew]at h
     intro av cs a0 d dI au h;cases av with
     |agg aG=>
      simp only[I.gE]at au;split at au
      .rename_i y hy;simp only[ew,hy]at h;exact ih _ _ _ _ _ au h
      .cases au
     |tuple aG=>
      simp only[I.gE]at au;split at au
      .rename_i y hy;simp only[ew,hy]at h;exact ih _ _ _ _ _ au h
      .cases au
     |ag sz xs=>simp only[ew]at h;split at h;exact UI _ _ _ _ _ _ h;cases h
     |aP y=>
      cases k with
      |zero=>rw[ew.eq_def]at h;simp only at h;split at h;exact UI _ _ _ _ _ _ h;cases h
      |succ k=>rw[show ew w ((k+1)::q) (.aP y) cs a0=none from rfl]at h;cases h
     |_=>simp[I.gE]at au
   simp only[map_none]at aT;subst aT;exact nU _ _ _ _ _ _ au g0
  .exact g5
 obtain⟨b,cur,e,fr,l,r,rfl,aT,aU,b_,cY,cv⟩:=ad3;refine⟨dI,b,l,r,cur,e,fr,g0,aU,cY,b_,?_⟩;intro aJ pw p7 eX MZ M0 zk;have zl:S x b:=g1 _ aT;have uc:∀c,F c->aJ.heap[c]? =w.heap[c]? :=λc au=>p7 c (by rintro rfl;exact h.gl x _ zl au);have axW:gZ.length=dI.length:=by rw[az.length _ _ _ aB,az.length _ _ _ g4,nt]
 have ln:=cv aJ bN gZ Sn uc (λc _ dP=>p7 c dP) pw nt
  (az.frame uc _ _ _ (λc au=>p7 c (by rintro rfl;exact cc x _ au zl)) aB) (λc au mQ=>cc x c au (g1 _ mQ))
 obtain⟨k,lQ,rfl⟩:∃k lQ,q=k::lQ:=by
  cases q with
  |nil=>simp[I.gE]at au
  |cons k q=>exact⟨k,q,rfl⟩
 have EA:∀v,eW (s x) v->eW (I.put (k::lQ) bN (s x)) v:=by
  intro v aB;rcases xJ k lQ bN (s x)with⟨aG,gs,aK,e⟩|⟨aG,gs,aK,e⟩|⟨sz,xs,cq,aK,e⟩|⟨y,z,aK,e⟩|e
  .rw[e];rw[aK]at aB;exact aB
  ·
   rw[aK]at aB ao au⊢;simp only[I.gE]at au;split at au
   .rename_i y hy;simp only[I.put,hy];cases lQ with
    |nil=>simp[I.gE]at au
    |cons cn gA=>
     simp only[eW]at aB⊢;obtain⟨arr,rfl,b3,nu⟩:=aB;refine⟨arr,rfl,by simpa using b3,λj e ox he zm=>?_⟩;rw[getElem?_set]at he;split at he
     .rename_i MX;subst MX;split at he
      .simp only[some.injEq]at he;subst he;obtain⟨g1,g2,g3⟩:=nu _ y ox hy zm;simp only[I.sub,hy]at ao;exact⟨UF g1,UG g2,g3.trans (I.Bx (cn::gA) y d bN ao nt).symm⟩
      .cases he
     .exact nu j e ox he zm
   .cases au
  .rw[e];rw[aK]at aB;exact aB
  .rw[e];rw[aK]at aB;exact aB
  .rw[e];exact aB
 have ad4:(I.put (k::lQ) bN (s x)).tree=true:=by
  rcases xJ k lQ bN (s x)with⟨aG,gs,aK,e⟩|⟨aG,gs,aK,e⟩|⟨sz,xs,cq,aK,e⟩|⟨y,z,aK,e⟩|e<;>rw[e]<;>first|rfl|exact a6
 let aC:=eo (js x s) x (I.put (k::lQ) bN (s x))
 have iH:∀y,y≠x->(aC y).tree=true->aC y=s y/\aD y=aD y:=λy hy a6=>by
  have e:aC y=cU x (s y):=lp _ _ hy;rw[e]at a6⊢;exact⟨(IA a6).2,rfl⟩
 have fq:(aC x).plain=false->(s x).plain=false/\∀v,eW (s x) v->eW (aC x) v:=by
  intro _;refine⟨?_,?_⟩
  .cases bR:(s x).plain with
   |false=>rfl
   |true=>rw[I.UC _ _ bR]at au;cases au
  .simp only[aC,o0];exact EA
 refine⟨g_ S x (λc=>fb c\/Sn c),?_⟩;constructor;case hL=>exact h.hL
 case h9=>exact h.h9
 case fG=>exact λb ab=>by rw[eX];exact h.fG b ab
 case fc=>
  intro u c ab;rw[eX];simp only[g_]at ab;split at ab
  .rcases ab with ab|ab
   .exact h.fc x c (g1 c ab)
   .exact eA c ab
  .exact h.fc u c ab
 case gl=>
  intro u c ab;simp only[g_]at ab;split at ab
  .rcases ab with ab|ab
   .exact h.gl x c (g1 c ab)
   .exact bC c ab
  .exact h.gl u c ab
 case fT=>
  intro u y c dP ab hy;simp only[g_]at ab hy;split at ab
  .rename_i hu;rw[if_neg (λe=>dP (hu.trans e.symm))]at hy;rcases ab with ab|ab
   .exact h.fT x y c (λe=>dP (hu.trans e)) (g1 c ab) hy
   .exact cc y c ab hy
  .rename_i hu;split at hy
   .rcases hy with hy|hy
    .exact h.fT u x c hu ab (g1 c hy)
    .exact cc u c hy ab
   .exact h.fT u y c dP ab hy
 case eI=>
  intro u c ab;simp only[g_]at ab;split at ab
  .rcases ab with ab|ab
   .exact h.eI x c (g1 c ab)
   .exact a7 c ab
  .exact h.eI u c ab
 case eg=>
  intro u;by_cases hu:u=x
  .subst hu;rw[o0,Ex];exact(aQ.dj ad4).2 ⟨EA _ aq.1,ln⟩
  .rw[lp _ _ hu,Ey _ _ hu];have dP:∀y c,y≠x->S y c->aJ.heap[c]? =w.heap[c]? :=λy c hy au=>p7 c (by rintro rfl;exact h.fT y x c hy au zl);refine(aQ.cU iH rfl fq (λy gA d2 hy hr EB=>?_) uc _).1 _ _ _ (Nat.le_refl _) (λc au=>dP u c hu au) (h.eg u);have EC:=h.eg y;rw[aQ.dj (jF hr EB)]at EC;exact Iz gA _ _ _ none d2 EC.2 hr (λc au=>dP y c hy au)
 case old=>
  intro c eA me;by_cases xK:c=b
  .subst xK;exfalso;rcases h.eI x c zl with kz|kz
   .exact me kz
   .omega
  .exact(p7 c xK).trans (h.old c eA me)
 case size=>rw[eX];exact h.size
 case os=>exact MZ.trans h.os
 case tape=>exact M0.trans h.tape
 case output=>exact zk.trans h.output
 case fU=>exact h.fU
end
end Go.en
namespace Go.en
open List Option Go.IntKind Nat Or
inductive qK where
 |int (k:IntKind)
 |bool
 |str
 |ptr (e:TypeId)
 |slice (e:TypeId)
 |struct (aG:List (TypeId×Nat))
 |fn
 |gB (e:TypeId)
 |map (k e:TypeId)
 |other
structure hC where
 k:qK
 sz:Nat
 bytes:Nat
 zero:I
mutual
def flat:I->Option aAi
 | .bool b=>some [.bool b]
 | .int k n=>some [.int k n]
 | .str s=>some [.string ⟨⟨s⟩⟩]
 | .et=>some [.pointer none]
 | .bf=>some [.slice none 0 0]
 | .agg aG=>vM aG
 | .ck .ky=>some [.map none]
 |_=>none
def vM:aAk->Option aAi
 |[]=>some []
 |d::ds=>match flat d,vM ds with
  |some a,some b=>some (a++b)
  |_,_=>none
end
theorem az.flat {w:World} {F:Nat->Prop}:∀n,(∀(d:I) (cs:aAi) (S:Nat->Prop),SizeOf.sizeOf d<=n->flat d=some cs->az w F d cs S)/\
  (∀(ds:aAk) (cs:aAi) (S:Nat->Prop),SizeOf.sizeOf ds<=n->vM ds=some cs->br w F ds cs S):=by
 intro n;induction n with
 |zero=>exact⟨λd _ _ b3=>by cases d<;>simp at b3<;>omega,λds _ _ b3=>by cases ds<;>simp at b3<;>omega⟩
 |succ n ih=>
  refine⟨λd cs S b3 h=>?_,λds cs S b3 h=>?_⟩
  .cases d with
   |agg aG=>rw[az];exact ih.2 aG cs S (by simp at b3;omega) (by simpa [en.flat]using h)
   |bool b=>simp[en.flat]at h;subst h;rw[az]
   |int k n=>simp[en.flat]at h;subst h;rw[az]
   |str s=>simp[en.flat]at h;subst h;rw[az]
   |et=>simp[en.flat]at h;subst h;rw[az]
   |bf=>simp[en.flat]at h;subst h;rw[az]
   |ck o=>cases o<;>simp[en.flat]at h;subst h;rw[az];rfl
   |_=>simp[en.flat]at h
  .cases ds with
   |nil=>simp[vM]at h;subst h;rw[br]
   |cons d ds=>
    simp only[vM]at h;split at h
    .rename_i a b bs ab;simp at h;subst h;simp at b3;rw[br];exact⟨a,b,λ_=>False,λ_=>False,rfl,ih.1 d a _ (by omega) bs,ih.2 ds b _ (by omega) ab,λ_ h=>h.elim,λ_ h=>h.elim,λ_ h=>h.elim⟩
    .cases h
def oy:qK->TypeDesc->Prop
 | .int k,.int dr=>k=dr
 | .bool,.bool=>True
 | .str,.string=>True
 | .ptr e,.pointer fS=>e=fS
 | .slice e,.slice fS=>e=fS
 | .struct aG,.struct gs=>gs.toList.map (λg=>(g.type,g.offset))=aG
 | .fn,.func _ _ _=>True
 | .gB _,.struct _=>True
 | .map k e,.map dr fS=>k=dr/\e=fS
 |_,_=>False
def UJ (P:Program) (t:TypeId) (x:hC):Prop:=
 (∃e n b z,x=⟨.other,e,n,b⟩/\z=0)\/
 ∃i d z,P.info? t=some i/\i.size=x.sz/\i.bytes=x.bytes/\i.zero=some z/\(∀cs,flat x.zero=some cs->z.cells=cs.toArray)/\P.underlying t=some d/\oy x.k d
structure cu where
 P:Program
 T:TypeId->hC
 M:FuncId->List Bool
structure cu.Ok (C:cu):Prop where
 ty:∀t,UJ C.P t (C.T t)
 mixed:C.P.follows .mixedOrders=true
inductive bA where
 |t (n:Nat)
 |c (av:I)
 |f (g:FuncId)
def ID:Value->Option I
 | .bool b=>some (.bool b)
 | .int k n=>some (.int k n)
 | .string s=>some (.str s.data.toList)
 | .pointer none=>some .et
 | .slice none 0 0=>some .bf
 |_=>none
def eH:Operand->Option bA
 | .tmp n=>some (.t n)
 | .const v=>(ID v).map .c
 | .func g=>some (.f g)
 | .global _=>none
def ud (x:Nat) (d:I):I:=if d.plain then d else .h x []
def bx (s:an):bA->I
 | .t n=>ud n (s n)
 | .c av=>av
 | .f g=>.fn g []
theorem aQ.nothing {w:World} {F:Nat->Prop} {s:an} {aD:Nat->Value} {d:I} {v:Value} {S aY:Nat->Prop} (aw:d.plain=true) (h:aQ w F s aD d v S):aQ w F s aD d v aY:=by
 cases d<;>first
  |(rw[aQ];trivial)
  |(rw[aQ]at h⊢;exact h)
  |(have bL:=(aQ.dj rfl).1 h;exact(aQ.dj rfl).2 ⟨bL.1,az.plain _ _ _ _ aw bL.2⟩)
section
variable {w0 w:World} {F0 X F:Nat->Prop} {S:Nat->Nat->Prop} {s:an} {aD:Nat->Value} {a:Act}
theorem UK (s:an) (x:bA) (au:∀av,x= .c av->av.plain=true):(bx s x).plain=true:=by
 cases x with
 |t n=>simp only[bx,ud];split<;>first|assumption|rfl
 |c av=>exact au _ rfl
 |f g=>rfl
theorem M1 {v:Value} {av:I} (h:ID v=some av):av.plain=true:=by
 unfold ID at h;split at h<;>simp at h<;>subst h<;>rfl
theorem gu (h:ca w0 F0 X F S s aD w) (fe:∀t,aD t=a.tmps.getD t undef) {o:Operand} {x:bA} (bG:eH o=some x):
  (bx s x).plain=true/\aQ w F s aD (bx s x) (a.eval o) (λ_=>False):=by
 cases o with
 |tmp n=>
  simp[eH]at bG;subst bG;simp only[bx,ud,Act.eval,<-fe];split
  .rename_i aw;exact⟨aw,aQ.nothing aw (h.eg n)⟩
  .rename_i aw;refine⟨rfl,?_⟩;rw[aQ];intro d ao M3;simp only[I.sub,some.injEq]at ao;subst ao;have a6:=jF (q:=[]) rfl (.inl M3);exact⟨_,none,rfl,rfl,((aQ.dj a6).1 (h.eg n)).1⟩
 |const v=>
  simp only[eH,map_eq_some_iff]at bG;obtain⟨av,sN,rfl⟩:=bG;refine⟨M1 sN,?_⟩;simp only[bx,Act.eval];unfold ID at sN;split at sN<;>simp at sN<;>subst sN<;>rw[aQ,az]<;>exact⟨rfl,rfl⟩
 |func g=>
  simp[eH]at bG;subst bG;refine⟨rfl,?_⟩;simp only[bx,Act.eval];rw[aQ];exact⟨#[],rfl,by rw[e7]⟩
 |global g=>simp[eH]at bG
def nV (w0:World) (X F:Nat->Prop) (S:Nat->Nat->Prop) (s:an) (aD:Nat->Value) (w:World) (av:I) (v:Value):Prop:=
 (av.plain=true/\aQ w F s aD av v (λ_=>False))\/
 (av.tree=true/\eW av v/\∃Sn,az w F av (cZ v) Sn/\(∀b,Sn b->b<w.heap.size)/\(∀b,Sn b->¬F b)/\(∀u b,Sn b->¬S u b)/\(∀b,Sn b->X b\/w0.heap.size<=b))
def fin (s:an) (dst:Option Nat) (av:I):an:=match dst with
 |none=>s
 |some t=>if av.plain then eo s t av else eo (oZ t s) t av
def qL (aD:Nat->Value) (dst:Option Nat) (v:Value):Nat->Value:=match dst with
 |none=>aD
 |some t=>eo aD t v
theorem ca.fin (h:ca w0 F0 X F S s aD w) {av:I} {v:Value} (aB:nV w0 X F S s aD w av v) (dst:Option Nat):
  ∃aY,ca w0 F0 X F aY (en.fin s dst av) (qL aD dst v) w:=by
 cases dst with
 |none=>exact⟨S,h⟩
 |some t=>
  simp only[en.fin,qL];rcases aB with⟨aw,ao⟩|⟨a6,ae,Sn,h1,af,ay,a_,b1⟩
  .rw[if_pos aw];exact⟨_,h.BA aw ao⟩
  .split
   .rename_i aw;exact⟨_,h.BA aw ((aQ.dj a6).2 ⟨ae,az.plain _ _ _ _ aw h1⟩)⟩
   .exact⟨_,h.UE a6 ae h1 af ay (λu b _ ab=>a_ u b ab) b1⟩
def dG (s:an):I->Option (I×an)
 | .h x q=>match I.sub q (s x)with
   |some d=>if d.plain then none else some (d,eo (js x s) x (I.put q d.d_ (s x)))
   |none=>none
 | .aw _ _=>none
 | .ab _ _=>none
 | .fn _ _=>none
 | .hole=>none
 |d=>some (d,s)
def I.owner:I->Option Nat
 | .h x _=>some x
 |_=>none
def nw:Option Nat->I->I
 |some x,d=>cU x d
 |none,d=>d
theorem rv (h:ca w0 F0 X F S s aD w) {av d:I} {s1:an} {v:Value} (sN:av.plain=true) (aB:aQ w F s aD av v (λ_=>False)) (a6:dG s av=some (d,s1)):
  ∃cL,ca w0 F0 X F cL s1 aD w/\d.tree=true/\eW d v/\∃Sn,az w F d (cZ v) Sn/\(∀b,Sn b->b<w.heap.size)/\(∀b,Sn b->¬F b)/\(∀u b,Sn b->¬cL u b)/\(∀b,Sn b->X b\/w0.heap.size<=b)/\
   (∀u b,cL u b->S u b)/\(∀b,Sn b->∃u,S u b)/\(∀(bN:I) (hj:Value) (aY:Nat->Prop),aQ w F s aD bN hj aY->aQ w F s1 aD (nw av.owner bN) hj aY):=by
 have tree:∀d:I,d.tree=true->d.plain=true->aQ w F s aD d v (λ_=>False)->
   ∃cL,ca w0 F0 X F cL s aD w/\d.tree=true/\eW d v/\∃Sn,az w F d (cZ v) Sn/\(∀b,Sn b->b<w.heap.size)/\(∀b,Sn b->¬F b)/\(∀u b,Sn b->¬cL u b)/\(∀b,Sn b->X b\/w0.heap.size<=b)/\
    (∀u b,cL u b->S u b)/\(∀b,Sn b->∃u,S u b):=by
  intro d ao _ bL;have bL:=(aQ.dj ao).1 bL;exact⟨S,h,ao,bL.1,_,bL.2,λ_ h=>h.elim,λ_ h=>h.elim,λ_ _ h=>h.elim,λ_ h=>h.elim,λ_ _ h=>h,λ_ h=>h.elim⟩
 cases av with
 |h x q=>
  simp only[dG]at a6;split at a6
  .rename_i e he;split at a6
   .cases a6
   .rename_i aw;simp only[some.injEq,Prod.mk.injEq]at a6;obtain⟨rfl,rfl⟩:=a6;have aw:e.plain=false:=by simpa using aw
    obtain⟨Sn,gr,dI,dF,ef,bg,dt,bQ,cG,c_,eJ⟩:=h.take he aw;rw[aQ]at aB;obtain⟨axX,a2,g1,g2,g3⟩:=aB e he aw;rw[bg]at g1;simp only[some.injEq,Prod.mk.injEq,true_and]at g1;obtain⟨rfl,rfl⟩:=g1;have ED:e.tree=true:=by cases e<;>first|rfl|(simp[I.plain]at aw)
    refine⟨_,ef,ED,g3,gr,by rw[g2];exact dt,λb ab=>h.fc x b (bQ b ab),λb ab=>h.gl x b (bQ b ab),?_,λb ab=>h.eI x b (bQ b ab),?_,λb ab=>⟨x,bQ b ab⟩,eJ⟩
    .intro u b ab hu;simp only[g_]at hu;split at hu
     .exact c_ b ab hu
     .rename_i ad5;exact h.fT u x b ad5 hu (bQ b ab)
    .intro u b hu;simp only[g_]at hu;split at hu
     .rename_i e;subst e;exact cG b hu
     .exact hu
  .cases a6
 |aw x q=>simp[dG]at a6
 |ab x q=>simp[dG]at a6
 |fn f c=>simp[dG]at a6
 |hole=>simp[dG]at a6
 |ag sz xs=>simp[I.plain]at sN
 |aP d=>simp[I.plain]at sN
 |_=>
  simp only[dG,some.injEq,Prod.mk.injEq]at a6;obtain⟨rfl,rfl⟩:=a6;obtain⟨cL,t1,t2,t3,Sn,t4,t5,t6,t7,t8,t9,t10⟩:=tree _ rfl sN aB;exact⟨cL,t1,t2,t3,Sn,t4,t5,t6,t7,t8,t9,t10,λ_ _ _ h=>h⟩
def loc (s:an):I->Option (Nat×aAf)
 | .h x q=>match I.sub q (s x)with
   |some (.aP _)=>some (x,q++[0])
   |_=>none
 | .aw x q=>if I.gE q (s x)then some (x,q)else none
 |_=>none
theorem EE:∀(q:aAf) (av d:I) (r:aAf),I.sub q av=some d->I.sub (q++r) av=I.sub r d:=by
 intro q;induction q with
 |nil=>intro av d r h;simp[I.sub]at h;subst h;rfl
 |cons k q ih=>
  intro av d r h;cases av with
  |agg aG=>
   simp only[I.sub,cons_append]at h⊢;split at h
   .rename_i x aq;exact ih _ _ _ h
   .cases h
  |tuple aG=>
   simp only[I.sub,cons_append]at h⊢;split at h
   .rename_i x aq;exact ih _ _ _ h
   .cases h
  |ag sz aG=>
   simp only[I.sub,cons_append]at h⊢;split at h
   .rename_i x aq;exact ih _ _ _ h
   .cases h
  |aP x=>
   cases k with
   |zero=>simp only[I.sub,cons_append]at h⊢;exact ih _ _ _ h
   |succ k=>simp[I.sub]at h
  |_=>simp[I.sub]at h
theorem ad6:∀(q:aAf) (av d:I) (r:aAf),I.sub q av=some d->I.gE (q++r) av=(I.gE q av||I.gE r d):=by
 intro q;induction q with
 |nil=>intro av d r h;simp[I.sub]at h;subst h;simp[I.gE]
 |cons k q ih=>
  intro av d r h;cases av with
  |agg aG=>
   simp only[I.sub]at h;split at h
   .rename_i x aq;simp only[I.gE,cons_append,aq];exact ih _ _ r h
   .cases h
  |tuple aG=>
   simp only[I.sub]at h;split at h
   .rename_i x aq;simp only[I.gE,cons_append,aq];exact ih _ _ r h
   .cases h
  |ag sz aG=>simp[I.gE]
  |aP x=>simp[I.gE]
  |_=>simp[I.sub]at h
theorem EF (w:World):∀(q:aAf) (av d:I) (cs dI:aAi) (a dF:Option (Nat×Nat)) (r:aAf),ew w q av cs a=some (d,dI,dF)->ew w (q++r) av cs a=ew w r d dI dF:=by
 intro q;induction q with
 |nil=>intro av d cs dI a dF r h;simp[ew]at h;obtain⟨rfl,rfl,rfl⟩:=h;rfl
 |cons k q ih=>
  intro av d cs dI a dF r h;cases av with
  |agg aG=>
   rw[cons_append];rw[ew]at h⊢;split at h
   .rename_i x aq;exact ih _ _ _ _ _ _ _ h
   .cases h
  |tuple aG=>
   rw[cons_append];rw[ew]at h⊢;split at h
   .rename_i x aq;exact ih _ _ _ _ _ _ _ h
   .cases h
  |ag sz aG=>
   rw[cons_append];rw[ew.eq_def]at h⊢;simp only at h⊢;split at h
   .exact ih _ _ _ _ _ _ _ h
   .cases h
  |aP x=>
   cases k with
   |zero=>
    rw[cons_append];rw[ew.eq_def]at h⊢;simp only at h⊢;split at h
    .exact ih _ _ _ _ _ _ _ h
    .cases h
   |succ k=>rw[show ew w ((k+1)::q) (.aP x) cs a=none from rfl]at h;cases h
  |_=>simp[ew]at h
end
def hC.ok (x:hC):Bool:=match x.k with
 | .other=>false
 |_=>true
theorem cu.Ok.info {C:cu} (bU:C.Ok) {t:TypeId} (h:(C.T t).ok=true):
  ∃i d z,C.P.info? t=some i/\i.size=(C.T t).sz/\i.bytes=(C.T t).bytes/\i.zero=some z/\(∀cs,flat (C.T t).zero=some cs->z.cells=cs.toArray)/\C.P.underlying t=some d/\oy (C.T t).k d:=by
 rcases bU.ty t with⟨e,n,b,z,aq,_⟩|bL
 .rw[aq]at h;simp[hC.ok]at h
 .exact bL
theorem hs {x:hC} {k:qK} (h:x.k=k) (hk:k≠.other):x.ok=true:=by
 unfold hC.ok;rw[h];cases k<;>first|rfl|exact(hk rfl).elim
theorem EG {d:TypeDesc} {aG:List (TypeId×Nat)} (h:oy (.struct aG) d):∃gs,d= .struct gs/\gs.toList.map (λg=>(g.type,g.offset))=aG:=by
 cases d<;>simp[oy]at h;exact⟨_,rfl,h⟩
theorem o1 {d:TypeDesc} {e:TypeId} (h:oy (.slice e) d):d= .slice e:=by
 cases d<;>simp[oy]at h;rw[h]
theorem IE {d:TypeDesc} {k:IntKind} (h:oy (.int k) d):d= .int k:=by
 cases d<;>simp[oy]at h;rw[h]
theorem ue {d:TypeDesc} (h:oy .str d):d= .string:=by
 cases d<;>simp[oy]at h;rfl
theorem M4 {d:TypeDesc} (h:oy .bool d):d= .bool:=by
 cases d<;>simp[oy]at h;rfl
theorem UL {d:TypeDesc} {e:TypeId} (h:oy (.ptr e) d):d= .pointer e:=by
 cases d<;>simp[oy]at h;rw[h]
theorem h_ {v:Value} (h:Value.hq v=true):cZ v=[v]:=by
 cases v<;>first|rfl|(simp[Value.hq]at h)
theorem EH {P:Program} {t:TypeId} {i:TypeInfo} (h:P.info? t=some i) (w:World):(typeInfo t).run P w= .ok i w:=by simp[typeInfo,h]
theorem nx {P:Program} {t:TypeId} {i:TypeInfo} (h:P.info? t=some i) (w:World):(Go.sizeOf t).run P w= .ok i.size w:=by simp[Go.sizeOf,EH h]
theorem zn {P:Program} {t:TypeId} {i:TypeInfo} {z:Value} (h:P.info? t=some i) (b3:i.zero=some z) (w:World):(zeroValue t).run P w= .ok z w:=by simp[zeroValue,EH h,b3]
section
variable {C:cu} {w0 w:World} {F0 X F:Nat->Prop} {S:Nat->Nat->Prop} {s s1:an} {aD:Nat->Value} {av:I}
def Good (C:cu) (w0:World) (F0 X:Nat->Prop) (aD:Nat->Value) (w:World) (m:Sem Value) (av:I) (s1:an):Prop:=
 ∃v aJ cg aY,m.run C.P w= .ok v aJ/\ca w0 F0 X cg aY s1 aD aJ/\nV w0 X cg aY s1 aD aJ av v
theorem Good.same (h:ca w0 F0 X F S s aD w) {m:Sem Value} {v:Value} (aR:m.run C.P w= .ok v w) (aw:av.plain=true) (aB:aQ w F s aD av v (λ_=>False)):Good C w0 F0 X aD w m av s:=
 ⟨v,w,F,S,aR,h,.inl ⟨aw,aB⟩⟩
theorem M5 (_h:ca w0 F0 X F S s aD w) {x:I} {v:Value} (aB:aQ w F s aD x v (λ_=>False)) {y:Nat} {q:aAf} (hl:loc s x=some (y,q)) {d:I} (ao:I.sub q (s y)=some d):
  I.gE q (s y)=true/\∃dI b o,v= .pointer (some ⟨b,o,none⟩)/\ew w q (s y) (cZ (aD y)) none=some (d,dI,some (b,o)):=by
 cases x with
 |h z BC=>
  simp only[loc]at hl;split at hl
  .rename_i e he;simp only[some.injEq,Prod.mk.injEq]at hl;obtain⟨rfl,rfl⟩:=hl;rw[aQ]at aB;obtain⟨dI,a,g1,g2,g3⟩:=aB _ he rfl;have jo:e=d:=by
    rw[EE _ _ _ _ he]at ao;simpa [I.sub]using ao
   subst jo;refine⟨by rw[ad6 _ _ _ _ he];simp[I.gE],?_⟩;have h1:Value.hq v=true:=g3;rw[h_ h1]at g2;subst g2;have nv:=EF w BC (s z) _ _ _ none a [0] g1;have aq:=_h.eg z;rw[aQ.dj (jF he (.inl rfl))]at aq;obtain⟨gZ,dF,fb,gr,k0,bV,cn,dV,ea,eC⟩:=ctx BC (s z) (cZ (aD z)) (S z) none _ aq.2 he;rw[k0]at g1;simp only[some.injEq,Prod.mk.injEq,true_and]at g1;obtain⟨rfl,rfl⟩:=g1;rw[az]at ea;obtain⟨b,cur,aT,fr,eG,aU,_⟩:=ea;simp only[cons.injEq,and_true]at aU;subst aU;exact⟨_,b,0,rfl,by rw[nv];rfl⟩
  .cases hl
 |aw z BC=>
  simp only[loc]at hl;split at hl
  .rename_i au;simp only[some.injEq,Prod.mk.injEq]at hl;obtain⟨rfl,rfl⟩:=hl;rw[aQ]at aB;obtain⟨dI,b,o,g1,g2⟩:=aB _ ao au;exact⟨au,dI,b,o,g2,g1⟩
  .cases hl
 |_=>simp[loc]at hl
def hV (C:cu) (s:an) (T:TypeId) (x:I) (k:Nat):Option I:=
 match(C.T T).k with
 | .struct aG=>match aG[k]? with
   |some (mf,off)=>if(C.T mf).ok=true/\(C.T mf).sz≠0 then
     match x with
     | .ref (.agg ds)=>match ds[k]? with
       |some d=>if I.e_ (ds.take k)=off then some (.ref d)else none
       |none=>none
     | .ab y o=>if(s y).plain then none else some (.ab y (o+off))
     |x=>match loc s x with
      |some (y,q)=>match I.sub q (s y)with
       |some (.agg ds)=>if k<ds.length/\I.e_ (ds.take k)=off then some (.aw y (q++[k]))else none
       |_=>none
      |none=>none
    else none
   |none=>none
 |_=>none
theorem Rd.M6 {w:World} {b o:Nat} {c1 gY c2:aAi} (h:Rd w b o (c1++(gY++c2))):Rd w b (o+c1.length) gY:=by
 intro j c bE;have eA:j<gY.length:=(List.getElem?_eq_some_iff.1 bE).1;have:=h (c1.length+j) c (by rw[getElem?_append_right (by omega),getElem?_append_left (by omega),<-bE];congr 1;omega);rw[Nat.add_assoc];exact this
theorem M7 (bU:C.Ok) {T mf:TypeId} {aG:List (TypeId×Nat)} {k off:Nat} (hk:(C.T T).k= .struct aG) (bI:aG[k]? =some (mf,off)) (h1:(C.T mf).ok=true) (af:(C.T mf).sz≠0) (b o:Nat) (w:World):
  (Instr.fieldAt T (.pointer (some ⟨b,o,none⟩)) k).run C.P w= .ok (.pointer (some ⟨b,o+off,none⟩)) w:=by
 obtain⟨i,d,z,aK,aT,aU,b_,cY,cv,cd⟩:=bU.info (hs hk (by simp));rw[hk]at cd;obtain⟨gs,rfl,fH⟩:=EG cd;obtain⟨uf,bN,vN,f1,f2,f3,f4,f5,f6,f7⟩:=bU.info h1;have hg:∃g,gs[k]? =some g/\g.type=mf/\g.offset=off:=by
  rw[<-fH,getElem?_map]at bI;simp only[map_eq_some_iff,Prod.mk.injEq]at bI;obtain⟨g,h1,af,ay⟩:=bI;exact⟨g,by simpa using h1,af,ay⟩
 obtain⟨g,g1,rfl,rfl⟩:=hg;simp[Instr.fieldAt,run_underlying cv,g1,Instr.sureAddr,fieldPlace,nx f1,f2,af,Addr.add_lit]
theorem ad7 (bU:C.Ok) (h:ca w0 F0 X F S s aD w) {T:TypeId} {x:I} {v:Value} {k:Nat} (aq:x.plain=true) (aB:aQ w F s aD x v (λ_=>False)) (he:hV C s T x k=some av):
  Good C w0 F0 X aD w (Instr.fieldAt T v k) av s:=by
 unfold hV at he;split at he
 .rename_i aG hk;split at he
  .rename_i mf off bI;split at he
   .rename_i BD;split at he
    .rename_i ds;split at he
     .rename_i d ao;split at he
      .rename_i ug;simp only[some.injEq]at he;subst he;have px:=(aQ.dj rfl).1 aB;rw[az]at px;obtain⟨ae,b,o,fo,h1,af,ay,a_⟩:=px;rw[h_ ae]at h1;simp only[cons.injEq,and_true]at h1;subst h1;rw[az]at a_;obtain⟨c1,gY,c2,cL,jE,rfl,jr,gO,iX,kd,hi,pv⟩:=br.pick ds _ _ k d a_ ao;refine Good.same h (M7 bU hk bI BD.1 BD.2 b o w) rfl ((aQ.dj rfl).2 ⟨rfl,?_⟩);rw[az];refine⟨b,o+off,gY,rfl,af,?_,az.mono (λ_ h=>h) _ _ _ _ (λb ab=>iX b ab) hi⟩;rw[<-ug,<-jr];exact ay.M6
      .cases he
     .cases he
    .rename_i y o;split at he
     .cases he
     .rename_i aw;simp only[some.injEq]at he;subst he;rw[aQ]at aB;obtain⟨b,cur,e,fr,rfl,af,ay,a_⟩:=aB (by simpa using aw);refine Good.same h (M7 bU hk bI BD.1 BD.2 b o w) rfl ?_;rw[aQ];exact λ_=>⟨b,cur,e,fr,rfl,af,ay,a_⟩
    .rename_i x _ _;split at he
     .rename_i y q hl;split at he
      .rename_i ds ao;split at he
       .rename_i ug;simp only[some.injEq]at he;subst he;obtain⟨au,dI,b,o,rfl,nv⟩:=M5 h aB hl ao;refine Good.same h (M7 bU hk bI BD.1 BD.2 b o w) rfl ?_;rw[aQ];intro d2 hr lq;rw[EF w q _ _ _ _ _ _ [k] nv];rw[EE _ _ _ _ ao]at hr;have py:∃d3,ds[k]? =some d3:=⟨_,getElem?_eq_getElem ug.1⟩
        obtain⟨d3,EI⟩:=py;simp only[I.sub,EI,some.injEq]at hr;subst hr;simp only[ew,EI];refine⟨(dI.drop off).take d3.wd,b,o+off,?_,rfl⟩;rw[ug.2];rfl
       .cases he
      .cases he
     .cases he
   .cases he
  .cases he
 .cases he
def kg (C:cu) (s:an) (T:TypeId) (x i:I):Option I:=
 match(C.T T).k,i with
 | .slice e,.int _ n=>if 0<=n/\(C.T e).ok=true then
   match x with
   | .slice xs=>match xs[n.toNat]? with
     |some d=>if d.wd=(C.T e).sz then some (.ref d)else none
     |none=>none
   | .h y q=>match I.sub q (s y)with
     |some (.ag sz xs)=>if n.toNat<xs.length/\sz=(C.T e).sz then some (.aw y (q++[n.toNat]))else none
     |_=>none
   |_=>none
   else none
 |_,_=>none
theorem UM (bU:C.Ok) {T e:TypeId} (hk:(C.T T).k= .slice e) (he:(C.T e).ok=true) (b o len cap:Nat) (k:IntKind) (n:Nat) (aV:n<len) (w:World):
  (Instr.indexAt T (.slice (some ⟨b,o,none⟩) len cap) (.int k n)).run C.P w= .ok (.pointer (some ⟨b,o+n*(C.T e).sz,none⟩)) w:=by
 obtain⟨i,d,z,aK,aT,aU,b_,cY,cv,cd⟩:=bU.info (hs hk (by simp));rw[hk]at cd;have:=o1 cd;subst this;obtain⟨uf,bN,vN,f1,f2,f3,f4,f5,f6,f7⟩:=bU.info he;simp[Instr.indexAt,run_underlying cv,asIntOf,aV,nx f1,f2,Addr.add_lit]
theorem ad8 (bU:C.Ok) (h:ca w0 F0 X F S s aD w) {T:TypeId} {x i:I} {v ry:Value} (aB:aQ w F s aD x v (λ_=>False)) (ad9:aQ w F s aD i ry (λ_=>False))
  (he:kg C s T x i=some av):Good C w0 F0 X aD w (Instr.indexAt T v ry) av s:=by
 unfold kg at he;split at he
 .rename_i e k n hk;have M8:=(aQ.dj rfl).1 ad9;rw[az,h_ M8.1]at M8;have:ry= .int k n:=by simpa using M8.2
  subst this;split at he
  .rename_i aV;obtain⟨n,rfl⟩:=Int.eq_ofNat_of_zero_le aV.1;simp only[Int.toNat_natCast]at he;split at he
   .rename_i xs;split at he
    .rename_i d ao;split at he
     .rename_i hw;simp only[some.injEq]at he;subst he;have px:=(aQ.dj rfl).1 aB;rw[az,h_ px.1]at px;obtain⟨ae,⟨rfl,_⟩|⟨b,o,cap,fo,sz,h1,af,ay,a_,b1,dn,dc⟩⟩:=px
      .simp at ao
      .simp only[cons.injEq,and_true]at h1;subst h1;have eA:n<xs.length:=(List.getElem?_eq_some_iff.1 ao).1;obtain⟨c1,gY,c2,cL,jE,rfl,jr,gO,iX,kd,hi,pv⟩:=br.pick xs _ _ n d dc ao;refine Good.same h (UM bU hk aV.2 b o _ _ k n eA w) rfl ((aQ.dj rfl).2 ⟨rfl,?_⟩);rw[az];refine⟨b,_,gY,rfl,af,?_,az.mono (λ_ h=>h) _ _ _ _ (λb ab=>iX b ab) hi⟩;have ad_:=b1 d (mem_of_getElem? ao);have:n*(C.T e).sz=c1.length:=by
        rw[jr,zi _ (λd ao=>b1 d (mem_of_mem_take ao)),length_take,Nat.min_eq_left (by omega),<-hw,ad_]
       rw[this];exact dn.M6
     .cases he
    .cases he
   .rename_i y q;split at he
    .rename_i sz xs ao;split at he
     .rename_i hw;simp only[some.injEq]at he;subst he;rw[aQ]at aB;obtain⟨dI,a,g1,g2,g3⟩:=aB _ ao rfl;have ae:Value.hq v=true:=g3;rw[h_ ae]at g2;subst g2;have aq:=h.eg y;rw[aQ.dj (jF ao (.inl rfl))]at aq;obtain⟨gZ,dF,fb,gr,k0,bV,cn,dV,ea,eC⟩:=ctx q (s y) (cZ (aD y)) (S y) none _ aq.2 ao;rw[k0]at g1;simp only[some.injEq,Prod.mk.injEq,true_and]at g1;obtain⟨rfl,rfl⟩:=g1;rw[az]at ea;rcases ea with⟨rfl,_⟩|⟨b,cap,cur,aT,fr,eG,aU,_⟩
      .simp at hw
      .simp only[cons.injEq,and_true]at aU;subst aU;refine Good.same h (UM bU hk aV.2 b 0 _ _ k n hw.1 w) rfl ?_;rw[aQ];intro d2 hr _;rw[EF w q _ _ _ _ _ _ [n] k0];rw[EE _ _ _ _ ao]at hr;obtain⟨d3,EI⟩:∃d3,xs[n]? =some d3:=⟨_,getElem?_eq_getElem hw.1⟩
       simp only[I.sub,EI,some.injEq]at hr;subst hr;simp only[ew,EI];exact⟨_,b,n*sz,rfl,by simp[hw.2]⟩
     .cases he
    .cases he
   .cases he
  .cases he
 .cases he
end
section
variable {C:cu} {w0 w:World} {F0 X F:Nat->Prop} {S:Nat->Nat->Prop} {s s1:an} {aD:Nat->Value} {av:I}
theorem UN (bU:C.Ok) {T:TypeId} {aG:List (TypeId×Nat)} (hk:(C.T T).k= .struct aG) (w:World):(isAgg T).run C.P w= .ok true w:=by
 obtain⟨i,d,z,aK,aT,aU,b_,cY,cv,cd⟩:=bU.info (hs hk (by simp));rw[hk]at cd;obtain⟨gs,rfl,_⟩:=EG cd;simp[isAgg,run_underlying cv]
def hC.flat (x:hC):Bool:=match x.k with
 | .other=>false
 | .gB _=>false
 | .struct _=>false
 |_=>true
theorem UO {x:hC} (h:x.flat=true):x.ok=true:=by
 unfold hC.flat at h;unfold hC.ok;revert h;cases x.k<;>simp
theorem M9 (bU:C.Ok) {T:TypeId} (hk:(C.T T).flat=true) (w:World):(isAgg T).run C.P w= .ok false w:=by
 obtain⟨i,d,z,aK,aT,aU,b_,cY,cv,cd⟩:=bU.info (UO hk);have dP:(∀aG,d≠.struct aG)/\(∀n e,d≠.array n e):=by
  clear cv;unfold hC.flat at hk;generalize (C.T T).k=ny at*;cases ny<;>cases d<;>simp[oy]at cd hk⊢
 cases d<;>first|exact(dP.1 _ rfl).elim|exact(dP.2 _ _ rfl).elim|simp[isAgg,run_underlying cv]
theorem Rd.one {w:World} {b o:Nat} {v:Value} (h:Rd w b o [v]):w.cell? ⟨b,o,none⟩=some v:=by simpa using h 0 v rfl
theorem UP {P:Program} {b o:Nat}:∀(cs:aAi) (i:Nat) (acc:Array Value),Rd w b (o+i) cs->(loadCellsFrom ⟨b,o,none⟩ i cs.length acc).run P w= .ok (acc++cs.toArray) w
 |[],i,acc,_=>by simp[loadCellsFrom]
 |c::cs,i,acc,h=>by
  have a7:w.cell? ⟨b,o+i,none⟩=some c:=by simpa using h 0 c rfl
  have h1:Rd w b (o+(i+1)) cs:=by
   intro j x bE;have:=h (j+1) x (by simpa using bE);rw[<-this];congr 2;omega
  have ih:=UP (P:=P) cs (i+1) (acc.push c) h1;simp only[length_cons,loadCellsFrom,Sem.run_bind,Go.load,Sem.run,Addr.add_lit,a7,Result.andThen];rw[ih];simp
theorem aea (bU:C.Ok) {T:TypeId} {aG:List (TypeId×Nat)} (hk:(C.T T).k= .struct aG) {b o:Nat} {cs:aAi} (h:Rd w b o cs) (hl:cs.length=(C.T T).sz):
  (loadVar T ⟨b,o,none⟩).run C.P w= .ok (.agg cs.toArray) w:=by
 obtain⟨i,d,z,aK,aT,aU,b_,cY,cv,cd⟩:=bU.info (hs hk (by simp));have:=UP (P:=C.P) (b:=b) (o:=o) cs 0 #[] (by simpa using h);simp only[loadVar,Sem.run_bind,UN bU hk,Result.andThen,if_true,nx aK,aT,<-hl,loadCells,this];simp
theorem UQ (bU:C.Ok) {T:TypeId} (hk:(C.T T).flat=true) {b o:Nat} {v:Value} (h:Rd w b o [v]):
  (loadVar T ⟨b,o,none⟩).run C.P w= .ok v w:=by
 simp[loadVar,M9 bU hk,Go.load,Sem.run,h.one]
def fits (C:cu) (T:TypeId) (d:I):Bool:=match(C.T T).k,d with
    | .struct _,.agg ds=>I.e_ ds==(C.T T).sz
    | .struct _,_=>false
    |_,.agg _=>false
    |_,.tuple _=>false
    |_,_=>(C.T T).flat
def IF:aAk->Nat->Nat->Option Nat
 |[],_,_=>none
 |d::ds,i,k=>if k=0 then some i else if d.wd<=k then IF ds (i+1) (k-d.wd)else none
def ld (C:cu) (s:an) (T:TypeId) (x:I):Option I:=
 match x with
 | .ref d=>if fits C T d=true then some d else none
 | .ab y k=>match s y with
   | .agg ds=>if I.e6 ds then none else match IF ds 0 k with
     |some i=>match ds[i]? with
      |some d=>if I.e_ (ds.take i)=k/\fits C T d=true then some (if d.plain then d else .h y [i])else none
      |none=>none
     |none=>none
   |_=>none
 |x=>match loc s x with
  |some (y,q)=>match I.sub q (s y)with
   |some d=>if fits C T d=true then some (if d.plain then d else .h y q)else none
   |none=>none
  |none=>none
theorem az.one {F:Nat->Prop} {d:I} {cs:aAi} {S:Nat->Prop} (h:az w F d cs S) (h1:∀aG,d≠.agg aG) (af:∀aG,d≠.tuple aG):∃v,cs=[v]/\Value.hq v=true:=by
 cases d with
 |hole=>rw[az]at h;obtain⟨v,h,rfl⟩:=h;exact⟨v,rfl,h⟩
 |gq=>rw[az]at h;obtain⟨v,rfl⟩:=h;exact⟨_,rfl,rfl⟩
 |slice xs=>rw[az]at h;rcases h with⟨_,a,c,rfl,_⟩|⟨b,o,cap,fo,sz,rfl,_⟩<;>exact⟨_,rfl,rfl⟩
 |ag sz xs=>rw[az]at h;rcases h with⟨_,_,rfl⟩|⟨b,cap,cur,e,fr,eI,rfl,_⟩<;>exact⟨_,rfl,rfl⟩
 |ref d=>rw[az]at h;obtain⟨b,o,fo,rfl,_⟩:=h;exact⟨_,rfl,rfl⟩
 |aP d=>rw[az]at h;obtain⟨b,cur,e,fr,eI,rfl,_⟩:=h;exact⟨_,rfl,rfl⟩
 |agg aG=>exact(h1 _ rfl).elim
 |tuple aG=>exact(af _ rfl).elim
 |fn _ _=>rw[az]at h;obtain⟨arr,rfl,_⟩:=h;exact⟨_,rfl,rfl⟩
 |h _ _=>rw[az]at h;exact h.elim
 |aw _ _=>rw[az]at h;exact h.elim
 |ab _ _=>rw[az]at h;exact h.elim
 |ck _=>rw[az]at h;obtain⟨v,iq,rfl⟩:=oY.one h;exact⟨v,rfl,iq⟩
 |gN _ _=>rw[az]at h;obtain⟨arr,rfl,_⟩:=h;exact⟨_,rfl,rfl⟩
 |_=>rw[az]at h;subst h;exact⟨_,rfl,rfl⟩
theorem I.IG {d:I} (h:d.single=true):(∀aG,d≠.agg aG)/\∀aG,d≠.tuple aG:=
 ⟨λaG e=>(by subst e;cases h),λaG e=>(by subst e;cases h)⟩
theorem aQ.rz {F:Nat->Prop} {s:an} {aD:Nat->Value} {d:I} {v:Value} (a6:d.tree=true) (ae:d.single=true) (h:az w F d [v] (λ_=>False)):aQ w F s aD d v (λ_=>False):=by
 obtain⟨hj,e,h1⟩:=az.one h (I.IG ae).1 (I.IG ae).2;have:v=hj:=by simpa using e
 subst this;refine(aQ.dj a6).2 ⟨?_,by rw[h_ h1];exact h⟩;cases d<;>first|exact h1|cases ae
mutual
theorem aQ.uh {F:Nat->Prop} {s:an} {aD:Nat->Value}:∀(d:I) (v:Value),d.single=true->az w F d [v] (λ_=>False)->aQ w F s aD d v (λ_=>False)
 | .fn f caps,v,_,h=>by
   rw[az]at h;obtain⟨arr,h1,af,ay⟩:=h;rw[aQ];exact⟨arr,by simpa using h1,e7.uh caps _ af ay⟩
 | .bool b,v,ae,h=>aQ.rz rfl ae h
 | .gq,v,ae,h=>aQ.rz rfl ae h
 | .int k n,v,ae,h=>aQ.rz rfl ae h
 | .str x,v,ae,h=>aQ.rz rfl ae h
 | .et,v,ae,h=>aQ.rz rfl ae h
 | .bf,v,ae,h=>aQ.rz rfl ae h
 | .slice xs,v,ae,h=>aQ.rz rfl ae h
 | .ag sz xs,v,ae,h=>aQ.rz rfl ae h
 | .ref d,v,ae,h=>aQ.rz rfl ae h
 | .aP d,v,ae,h=>aQ.rz rfl ae h
 | .h _ _,v,_,h=>by rw[az]at h;exact h.elim
 | .aw _ _,v,_,h=>by rw[az]at h;exact h.elim
 | .ab _ _,v,_,h=>by rw[az]at h;exact h.elim
 | .ck _,v,ae,h=>aQ.rz rfl ae h
 | .gN _ _,v,ae,h=>aQ.rz rfl ae h
theorem e7.uh {F:Nat->Prop} {s:an} {aD:Nat->Value}:∀(ds:aAk) (vs:aAi),(∀d∈ds,d.single=true)->br w F ds vs (λ_=>False)->e7 w F s aD ds vs
 |[],vs,_,h=>by rw[br]at h;rw[e7];exact h
 |d::ds,vs,ae,h=>by
  rw[br]at h;obtain⟨c1,c2,cL,eG,rfl,af,ay,a_,b1,_⟩:=h;have ao:=ae d (by simp);obtain⟨v,rfl,_⟩:=az.one af (I.IG ao).1 (I.IG ao).2;rw[e7];exact⟨v,c2,rfl,aQ.uh d v ao (az.mono (λ_ h=>h) _ _ _ _ (λb ab=>a_ b ab) af),e7.uh ds c2 (λx aq=>ae x (by simp[aq])) (br.mono (λ_ h=>h) _ _ _ _ (λb ab=>b1 b ab) ay)⟩
end
theorem IH (bU:C.Ok) {T:TypeId} {d:I} {b o:Nat} {cs:aAi} {S:Nat->Prop} (h:Rd w b o cs) (ao:az w F d cs S)
  (kA:fits C T d=true):
  ∃v,(loadVar T ⟨b,o,none⟩).run C.P w= .ok v w/\cZ v=cs/\eW d v:=by
 unfold fits at kA;by_cases ae:∃aG,(C.T T).k= .struct aG
 .obtain⟨aG,hk⟩:=ae;rw[hk]at kA;cases d with
  |agg ds=>
   simp only[beq_iff_eq]at kA;refine⟨_,aea bU hk h ((az.length _ _ _ ao).trans kA),rfl,⟨_,rfl⟩⟩
  |_=>simp at kA
 .have kB:(C.T T).flat=true/\(∀aG,d≠.agg aG)/\(∀aG,d≠.tuple aG):=by
   revert kA ae;cases hk:(C.T T).k<;>cases d<;>simp
  obtain⟨v,rfl,h1⟩:=az.one ao kB.2.1 kB.2.2;refine⟨v,UQ bU kB.1 h,h_ h1,?_⟩;cases d<;>first|exact h1|exact(kB.2.1 _ rfl).elim|exact(kB.2.2 _ rfl).elim
theorem aeb (bU:C.Ok) {T:TypeId} {d:I} {off:Nat} {arr:Array Value} {c1 cs c2:aAi} {S:Nat->Prop} (he:arr.toList=c1++(cs++c2)) (bG:c1.length=off) (ao:az w F d cs S)
  (kA:fits C T d=true):
  ∃v,(part T arr off).run C.P w= .ok v w/\cZ v=cs/\eW d v:=by
 unfold fits at kA;by_cases ae:∃aG,(C.T T).k= .struct aG
 .obtain⟨aG,hk⟩:=ae;rw[hk]at kA;cases d with
  |agg ds=>
   simp only[beq_iff_eq]at kA;obtain⟨i,d,z,aK,aT,aU,b_,cY,cv,cd⟩:=bU.info (hs hk (by simp));have hl:cs.length=(C.T T).sz:=(az.length _ _ _ ao).trans kA;have aq:(arr.extract off (off+(C.T T).sz)).toList=cs:=by
    rw[Array.toList_extract,he,extract_eq_take_drop,<-hl,<-bG,Nat.add_sub_cancel_left,drop_left,take_left]
   refine⟨.agg (arr.extract off (off+(C.T T).sz)),?_,by simpa [cZ,jd]using aq,⟨_,rfl⟩⟩;simp[part,UN bU hk,nx aK,aT]
  |_=>simp at kA
 .have kB:(C.T T).flat=true/\(∀aG,d≠.agg aG)/\(∀aG,d≠.tuple aG):=by
   revert kA ae;cases hk:(C.T T).k<;>cases d<;>simp
  obtain⟨v,rfl,h1⟩:=az.one ao kB.2.1 kB.2.2;have hg:arr[off]? =some v:=by
   rw[<-Array.getElem?_toList,he,<-bG,getElem?_append_right (Nat.le_refl _)];simp
  refine⟨v,?_,h_ h1,?_⟩
  .simp[part,M9 bU kB.1,hg]
  .cases d<;>first|exact h1|exact(kB.2.1 _ rfl).elim|exact(kB.2.2 _ rfl).elim
theorem aec (bU:C.Ok) (h:ca w0 F0 X F S s aD w) {T:TypeId} {x:I} {v:Value} (aB:aQ w F s aD x v (λ_=>False)) (he:ld C s T x=some av):
  Good C w0 F0 X aD w (Instr.loadAt T v) av s:=by
 unfold ld at he;split at he
 .rename_i d;split at he
  .rename_i kA;simp only[some.injEq]at he;subst he;have px:=(aQ.dj rfl).1 aB;rw[az,h_ px.1]at px;obtain⟨ae,b,o,fo,h1,af,ay,a_⟩:=px;simp only[cons.injEq,and_true]at h1;subst h1;obtain⟨hj,aR,au,o2⟩:=IH bU ay a_ kA;have fv:(Instr.loadAt T (.pointer (some ⟨b,o,none⟩))).run C.P w= .ok hj w:=by simp[Instr.loadAt,Instr.sureAddr,aR]
   refine⟨hj,w,F,S,fv,h,?_⟩;by_cases a6:d.tree=true
   .exact .inr ⟨a6,o2,λ_=>False,by rw[au];exact a_,λ_ h=>h.elim,λ_ h=>h.elim,λ_ _ h=>h.elim,λ_ h=>h.elim⟩
   .cases d<;>first|exact(a6 rfl).elim|(rw[az]at a_;exact a_.elim)|exact .inl ⟨rfl,by rw[aQ];trivial⟩|(have b1:=a_;rw[az]at b1;obtain⟨arr,e,_⟩:=b1;rw[<-au]at e a_;rw[h_ (by exact o2)]at a_;exact .inl ⟨rfl,aQ.uh _ _ rfl a_⟩)
  .cases he
 .rename_i y k;split at he
  .rename_i ds qM;split at he
   .cases he
   .rename_i EJ;split at he
    .rename_i i aj;split at he
     .rename_i d ao;split at he
      .rename_i kA;simp only[some.injEq]at he;have fL:(s y).plain=false:=by rw[qM];simp only[I.plain];simpa using EJ
       rw[aQ]at aB;obtain⟨b,cur,e,fr,rfl,af,ay,a_⟩:=aB fL;have hy:=h.eg y;rw[qM]at hy;have UR:=((aQ.dj rfl).1 hy).2;rw[az]at UR;obtain⟨c1,gY,c2,cL,jE,hM,jr,gO,iX,kd,hi,pv⟩:=br.pick ds _ _ i d UR ao;have mz:Rd w b k gY:=by
        intro j c bE;have eA:j<gY.length:=(List.getElem?_eq_some_iff.1 bE).1;have:cur.toList[k+j]? =some c:=by
         rw[a_,hM,getElem?_append_right (by omega),getElem?_append_left (by omega),<-bE];congr 1;omega
        simp[World.cell?,ay];simpa using this
       obtain⟨hj,aR,au,o2⟩:=IH bU mz hi kA.2;have fv:(Instr.loadAt T (.pointer (some ⟨b,k,none⟩))).run C.P w= .ok hj w:=by simp[Instr.loadAt,Instr.sureAddr,aR]
       refine⟨hj,w,F,S,fv,h,?_⟩;split at he
       .rename_i aw;subst he;by_cases a6:d.tree=true
        .exact .inl ⟨aw,(aQ.dj a6).2 ⟨o2,by rw[au];exact az.plain _ _ _ _ aw hi⟩⟩
        .cases d<;>first|exact(a6 rfl).elim|(rw[az]at hi;exact hi.elim)|exact .inl ⟨rfl,by rw[aQ];trivial⟩|(have b1:=az.plain _ _ _ (λ_=>False) aw hi;rw[<-au]at b1;rw[h_ (by exact o2)]at b1;exact .inl ⟨rfl,aQ.uh _ _ rfl b1⟩)
       .subst he;refine .inl ⟨rfl,?_⟩;rw[aQ];intro d2 hr _;rw[qM]at hr⊢;simp only[I.sub,ao,some.injEq]at hr;subst hr;refine⟨gY,none,?_,au,o2⟩;simp only[ew,ao];rw[hM,zg c1 gY c2 _ _ jr (az.length _ _ _ hi)];rfl
      .cases he
     .cases he
    .cases he
  .cases he
 .rename_i x _ _;split at he
  .rename_i y q hl;split at he
   .rename_i d ao;split at he
    .rename_i kA;simp only[some.injEq]at he;obtain⟨sO,dI,b,o,rfl,nv⟩:=M5 h aB hl ao;have hy:=h.eg y;rw[aQ.dj (jF ao (.inr sO))]at hy;obtain⟨gZ,dF,fb,gr,k0,bV,cn,dV,ea,eC⟩:=ctx q (s y) (cZ (aD y)) (S y) none _ hy.2 ao;rw[k0]at nv;simp only[some.injEq,Prod.mk.injEq,true_and]at nv;obtain⟨rfl,rfl⟩:=nv;have mz:Rd w b o gZ:=by
      rcases eC with⟨l,r,aK,aT,_⟩|⟨gI,cur,e,fr,l,r,aK,aT,aU,b_,cY,_⟩
      .simp at aT
      .simp only[some.injEq,Prod.mk.injEq]at aK;obtain⟨rfl,rfl⟩:=aK;intro j c bE;have eA:j<gZ.length:=(List.getElem?_eq_some_iff.1 bE).1;have:cur.toList[l.length+j]? =some c:=by
        rw[cY,getElem?_append_right (by omega),getElem?_append_left (by omega),<-bE];congr 1;omega
       simp[World.cell?,aU];simpa using this
     obtain⟨hj,aR,au,o2⟩:=IH bU mz ea kA;have fv:(Instr.loadAt T (.pointer (some ⟨b,o,none⟩))).run C.P w= .ok hj w:=by simp[Instr.loadAt,Instr.sureAddr,aR]
     refine⟨hj,w,F,S,fv,h,?_⟩;split at he
     .rename_i aw;subst he;by_cases a6:d.tree=true
      .exact .inl ⟨aw,(aQ.dj a6).2 ⟨o2,by rw[au];exact az.plain _ _ _ _ aw ea⟩⟩
      .cases d<;>first|exact(a6 rfl).elim|(rw[az]at ea;exact ea.elim)|exact .inl ⟨rfl,by rw[aQ];trivial⟩|(have b1:=az.plain _ _ _ (λ_=>False) aw ea;rw[<-au]at b1;rw[h_ (by exact o2)]at b1;exact .inl ⟨rfl,aQ.uh _ _ rfl b1⟩)
     .subst he;refine .inl ⟨rfl,?_⟩;rw[aQ];intro d2 hr _;rw[ao]at hr;simp only[some.injEq]at hr;subst hr;exact⟨_,_,k0,au,o2⟩
    .cases he
   .cases he
  .cases he
mutual
theorem az.zo {F:Nat->Prop}:∀(d:I) (cs:aAi) (S:Nat->Prop),az w F d cs S->∀c∈cs,Value.hq c=true
 | .hole,cs,S,h=>by rw[az]at h;obtain⟨v,h,rfl⟩:=h;simpa using h
 | .bool _,cs,S,h=>by rw[az]at h;subst h;simp[Value.hq]
 | .gq,cs,S,h=>by rw[az]at h;obtain⟨b,rfl⟩:=h;simp[Value.hq]
 | .int _ _,cs,S,h=>by rw[az]at h;subst h;simp[Value.hq]
 | .str _,cs,S,h=>by rw[az]at h;subst h;simp[Value.hq]
 | .et,cs,S,h=>by rw[az]at h;subst h;simp[Value.hq]
 | .bf,cs,S,h=>by rw[az]at h;subst h;simp[Value.hq]
 | .slice xs,cs,S,h=>by
   rw[az]at h;rcases h with⟨_,a,c,rfl,_⟩|⟨b,o,cap,fo,sz,rfl,_⟩<;>simp[Value.hq]
 | .ag sz xs,cs,S,h=>by
   rw[az]at h;rcases h with⟨_,_,rfl⟩|⟨b,cap,cur,e,fr,aY,rfl,_⟩<;>simp[Value.hq]
 | .ref d,cs,S,h=>by rw[az]at h;obtain⟨b,o,fo,rfl,_⟩:=h;simp[Value.hq]
 | .aP d,cs,S,h=>by rw[az]at h;obtain⟨b,o,fo,_,_,rfl,_⟩:=h;simp[Value.hq]
 | .agg aG,cs,S,h=>by rw[az]at h;exact br.zo aG _ _ h
 | .tuple aG,cs,S,h=>by rw[az]at h;exact br.zo aG _ _ h
 | .fn _ _,cs,S,h=>by rw[az]at h;obtain⟨arr,rfl,_⟩:=h;simp[Value.hq]
 | .h _ _,cs,S,h=>by rw[az]at h;exact h.elim
 | .aw _ _,cs,S,h=>by rw[az]at h;exact h.elim
 | .ab _ _,cs,S,h=>by rw[az]at h;exact h.elim
 | .ck _,cs,S,h=>by rw[az]at h;obtain⟨v,iq,rfl⟩:=oY.one h;simpa using iq
 | .gN _ _,cs,S,h=>by rw[az]at h;obtain⟨arr,rfl,_⟩:=h;simp[Value.hq]
theorem br.zo {F:Nat->Prop}:∀(ds:aAk) (cs:aAi) (S:Nat->Prop),br w F ds cs S->∀c∈cs,Value.hq c=true
 |[],cs,S,h=>by rw[br]at h;subst h;simp
 |d::ds,cs,S,h=>by
  rw[br]at h;obtain⟨c1,c2,cL,eG,rfl,af,ay,_⟩:=h;intro c au;rcases mem_append.1 au with au|au
  .exact az.zo d _ _ af c au
  .exact br.zo ds _ _ ay c au
end
theorem II {P:Program} {b o:Nat} {e:TypeId} {fr:Nat×Nat}:∀(vs:aAi) (i:Nat) (cur:Array Value) (w:World) (l m r:aAi),w.heap[b]? =some (.cells cur e fr)->ov fr cur.size->
  cur.toList=l++(m++r)->l.length=o+i->m.length=vs.length->(∀v∈vs,Value.hq v=true)->
  ∃aJ,(storeCells ⟨b,o,none⟩ vs i).run P w= .ok () aJ/\aJ.heap[b]? =some (.cells (l++(vs++r)).toArray e fr)/\(∀c,c≠b->aJ.heap[c]? =w.heap[c]?)/\aJ.heap.size=w.heap.size/\aJ.os=w.os/\aJ.tape=w.tape/\Out aJ w
 |[],i,cur,w,l,m,r,ab,bI,au,hl,hm,_=>by
  refine⟨w,rfl,?_,λ_ _=>rfl,rfl,rfl,rfl,Out.refl _⟩;have:m=[]:=by simpa using hm
  subst this;rw[ab];have:cur=(l++([]++r)).toArray:=by rw[<-au]
  rw[<-this]
 |v::vs,i,cur,w,l,m,r,ab,bI,au,hl,hm,IJ=>by
  obtain⟨x,m,rfl⟩:∃x jT,m=x::jT:=by cases m with
   |nil=>simp at hm
   |cons x m=>exact⟨x,m,rfl⟩
  have hlen:cur.size=(l++(x::m++r)).length:=by rw[<-au];simp
  have eA:o+i<cur.size:=by rw[hlen];simp;omega
  have IK:w.cell? ⟨b,o+i,none⟩=some cur[o+i]:=by simp[World.cell?,ab,eA]
  have aed:w.frozen? ⟨b,o+i,none⟩=false:=by
   have:=bI (o+i) eA;simp only[World.frozen?,ab];simp only[Bool.and_eq_false_iff,decide_eq_false_iff_not];by_cases h1:fr.1<=o+i
   .right;exact λaf=>this ⟨h1,af⟩
   .left;exact h1
  have xL:(w.setCell ⟨b,o+i,none⟩ v).heap[b]? =some (.cells ((l++[v])++(m++r)).toArray e fr):=by
   simp only[World.setCell,Array.getElem?_modify,if_true,ab,map_some,isSome_none,Bool.false_eq_true,if_false];congr 2;apply Array.ext';rw[Array.toList_setIfInBounds,au,<-hl,set_append_right _ _ (Nat.le_refl _)];simp
  have zp:(store ((⟨b,o,none⟩:Addr).add i) v).run P w= .ok () (w.setCell ⟨b,o+i,none⟩ v):=by
   have h1:=IJ v (by simp);rw[Addr.add_lit];cases v<;>first|(simp[Value.hq]at h1;done)|simp[Go.store,Sem.run,IK,aed]
  obtain⟨aJ,g1,g2,g3,g4,g5,g6,g7⟩:=II (P:=P) (b:=b) (o:=o) vs (i+1) _ (w.setCell ⟨b,o+i,none⟩ v) (l++[v]) m r xL (by
   have:(l++[v]++(m++r)).toArray.size=cur.size:=by rw[hlen];simp
   rw[this];exact bI) (by simp) (by simp;omega) (by simpa using hm) (λu hu=>IJ u (by simp[hu]))
  refine⟨aJ,?_,by simpa using g2,λc au=>?_,?_,g5,g6,g7⟩
  .simp only[storeCells,Sem.run_bind,zp,Result.andThen];exact g1
  .rw[g3 c au];simp only[World.setCell,Array.getElem?_modify];rw[if_neg (λe=>au e.symm)]
  .rw[g4];simp[World.setCell]
theorem EK {d:I} {v:Value} (h:eW d v) (ao:∀aG,d≠.tuple aG):v.cells=(cZ v).toArray:=by
 cases d with
 |tuple aG=>exact(ao _ rfl).elim
 |agg aG=>obtain⟨arr,rfl⟩:=h;simp[Value.cells,cZ,jd]
 |_=>
  have h1:Value.hq v=true:=h;rw[h_ h1];cases v<;>first|rfl|(simp[Value.hq]at h1)
def k3 (C:cu) (s:an) (T:TypeId) (x y:I):Option an:=
 match dG s y,loc s x with
 |some (d,s1),some (z,q)=>match d with
  | .tuple _=>none
  |d=>match I.sub q (s z)with
   |some d0=>if d.wd=d0.wd/\d.wd=(C.T T).sz/\(C.T T).ok=true/\y.owner≠some z then some (eo (js z s1) z (I.put q d (s z)))else none
   |none=>none
 |_,_=>none
theorem aee {s s1:an} {y d:I} {z:Nat} (h:dG s y=some (d,s1)) (b3:(s z).tree=true) (hy:y.owner≠some z):s1 z=s z:=by
 cases y with
 |h x q=>
  simp only[dG]at h;split at h
  .split at h
   .cases h
   .simp only[some.injEq,Prod.mk.injEq]at h;obtain⟨_,rfl⟩:=h;rw[lp _ _ (λe=>hy (by rw[I.owner,e]))];exact MS b3
  .cases h
 |aw x q=>simp[dG]at h
 |ab x q=>simp[dG]at h
 |fn f c=>simp[dG]at h
 |hole=>simp[dG]at h
 |_=>simp only[dG,some.injEq,Prod.mk.injEq]at h;rw[h.2]
theorem aef (bU:C.Ok) (h:ca w0 F0 X F S s aD w) {T:TypeId} {x y:I} {kC lR:Value} (M_:aQ w F s aD x kC (λ_=>False)) (hy:y.plain=true) (aeg:aQ w F s aD y lR (λ_=>False))
  {s2:an} (he:k3 C s T x y=some s2):
  ∃aJ aY,(Instr.storeAt T kC lR).run C.P w= .ok () aJ/\ca w0 F0 X F aY s2 aD aJ:=by
 unfold k3 at he;split at he
 .rename_i d s1 z q a6 hl;have key:∀d:I,(∀aG,d≠.tuple aG)->dG s y=some (d,s1)->(match I.sub q (s z)with
   |some d0=>if d.wd=d0.wd/\d.wd=(C.T T).sz/\(C.T T).ok=true/\y.owner≠some z then some (eo (js z s1) z (I.put q d (s z)))else none
   |none=>none)=some s2->∃aJ aY,(Instr.storeAt T kC lR).run C.P w= .ok () aJ/\ca w0 F0 X F aY s2 aD aJ:=by
   intro d vO a6 he;split at he
   .rename_i d0 nW;split at he
    .rename_i EL;obtain⟨h1,af,ay,a_⟩:=EL;simp only[some.injEq]at he;subst he;obtain⟨sO,dI,b,o,rfl,nv⟩:=M5 h M_ hl nW;obtain⟨cL,g0,g1,g2,Sn,g3,g4,g5,g6,g7,g8⟩:=rv h hy aeg a6;have eX:s1 z=s z:=aee a6 (jF nW (.inr sO)) a_;rw[<-eX]at nW sO nv⊢;obtain⟨gZ,gI,l,r,cur,e,fr,k0,bV,cn,dV,ea⟩:=g0.store nW sO g3 h1 g4 g5 g6 g7;rw[nv]at k0;simp only[some.injEq,Prod.mk.injEq,true_and]at k0;obtain⟨rfl,rfl,rfl⟩:=k0;obtain⟨i,d,vN,aK,aT,aU,b_,cY,cv,cd⟩:=bU.info ay;have hlen:=az.length _ _ _ g3;have hm:dI.length=(cZ lR).length:=by
      have US:=g0.eg z;rw[aQ.dj (jF nW (.inr sO))]at US;obtain⟨_,_,_,_,c0,_,_,_,c4,_⟩:=ctx q (s1 z) (cZ (aD z)) (cL z) none _ US.2 nW;rw[nv]at c0;simp only[some.injEq,Prod.mk.injEq,true_and]at c0;rw[c0.1,az.length _ _ _ c4,hlen,h1]
     obtain⟨aJ,m1,m2,m3,m4,m5,m6,m7⟩:=II (P:=C.P) (b:=b) (o:=l.length) (e:=e) (fr:=fr) (cZ lR) 0 cur w l dI r bV dV cn rfl hm (az.zo _ _ _ g3);obtain⟨aY,eC⟩:=ea aJ m2 m3 m4 m5 m6 m7;refine⟨aJ,aY,?_,eC⟩;have sP:=EK g2 vO;simp[Instr.storeAt,Instr.sureAddr,storeVar,nx aK,aT,sP,hlen,af,m1]
    .cases he
   .cases he
  split at he
  .cases he
  .rename_i vO;exact key _ (λaG e=>vO aG e) a6 he
 .cases he
theorem ca.alloc (h:ca w0 F0 X F S s aD w) {d:I} {cs:aAi} {Sn:Nat->Prop} (e:TypeId) (aB:az w F d cs Sn)
  (eA:∀b,Sn b->b<w.heap.size) (bC:∀b,Sn b->¬F b) (cc:∀u b,Sn b->¬S u b) (a7:∀b,Sn b->X b\/w0.heap.size<=b):
  ca w0 F0 X F S s aD (w.alloc (.cells cs.toArray e))/\
   nV w0 X F S s aD (w.alloc (.cells cs.toArray e)) (.aP d) (.pointer (some ⟨w.heap.size,0,none⟩)):=by
 have hold:∀b,b<w.heap.size->(w.alloc (.cells cs.toArray e)).heap[b]? =w.heap[b]? :=by
  intro b ab;show(w.heap.push _)[b]? =_;rw[Array.getElem?_push,if_neg (by omega)]
 refine⟨h.grow hold (by simp) rfl rfl ⟨rfl,λ_=>Nat.le_refl _⟩,.inr ⟨rfl,rfl,λb=>b=w.heap.size\/Sn b,?_,?_,?_,?_,?_⟩⟩
 .rw[az];refine⟨w.heap.size,cs.toArray,e,(0,0),Sn,rfl,.inl rfl,?_,?_,?_,λc au=>.inr au,λau=>Nat.lt_irrefl _ (eA _ au)⟩
  .show(w.heap.push _)[_]? =_;simp
  .intro o _ ⟨_,af⟩;exact absurd af (not_lt_zero _)
  .exact az.frame (λb ab=>hold b (h.fG b ab)) _ _ _ (λb ab=>hold b (eA b ab)) aB
 .rintro b (rfl|ab)
  .simp
  .have:=eA b ab;simp;omega
 .rintro b (rfl|ab) vP
  .exact Nat.lt_irrefl _ (h.fG _ vP)
  .exact bC b ab vP
 .rintro u b (rfl|ab) hu
  .exact Nat.lt_irrefl _ (h.fc _ _ hu)
  .exact cc u b ab hu
 .rintro b (rfl|ab)
  .exact .inr h.size
  .exact a7 b ab
def mR (C:cu) (T:TypeId):Option I:=if(C.T T).ok=true then(match(C.T T).k,(C.T T).zero with
    | .gB e,.agg [.et,.bf]=>some (.ck (.jR T e []))
    | .gB _,_=>none
    |_,z=>(match flat z with|some _=>some (.aP z)|none=>none))else none
theorem aeh (bU:C.Ok) (h:ca w0 F0 X F S s aD w) {T:TypeId} (he:mR C T=some av):Good C w0 F0 X aD w (Instr.alloc T true (.tuple #[])) av s:=by
 unfold mR at he;split at he
 .rename_i hk;split at he
  .rename_i axY axZ zq;simp only[some.injEq]at he;subst he;obtain⟨i,d,z,aK,aT,aU,b_,cY,cv,cd⟩:=bU.info hk;have b3:=cY [.pointer none,.slice none 0 0] (by rw[zq];rfl);have hold:∀b,b<w.heap.size->(w.alloc (.cells #[.pointer none,.slice none 0 0] T)).heap[b]? =w.heap[b]? :=by
    intro b ab;show(w.heap.push _)[b]? =_;rw[Array.getElem?_push,if_neg (by omega)]
   refine⟨.pointer (some ⟨w.heap.size,0,none⟩),w.alloc (.cells #[.pointer none,.slice none 0 0] T),F,S,?_,h.grow hold (by simp) rfl rfl ⟨rfl,λ_=>Nat.le_refl _⟩,.inr ⟨rfl,rfl,λb=>b=w.heap.size,?_,?_,?_,?_,?_⟩⟩
   .simp[Instr.alloc,zn aK b_,newVar,newRow,newObj,Sem.run,b3]
   .rw[az];refine⟨w.heap.size,.pointer none,.slice none 0 0,rfl,rfl,?_,.inl rfl,.inl ⟨rfl,rfl⟩⟩;show(w.heap.push _)[_]? =_;simp
   .rintro b rfl;simp
   .rintro b rfl vP;exact Nat.lt_irrefl _ (h.fG _ vP)
   .rintro u b rfl hu;exact Nat.lt_irrefl _ (h.fc _ _ hu)
   .rintro b rfl;exact .inr h.size
  .cases he
  split at he
  .rename_i cs hM;simp only[some.injEq]at he;subst he;obtain⟨i,d,z,aK,aT,aU,b_,cY,cv,cd⟩:=bU.info hk;have b3:=cY cs hM;obtain⟨ef,bg⟩:=h.alloc (d:=(C.T T).zero) T ((az.flat _).1 _ cs (λ_=>False) (Nat.le_refl _) hM) (λ_ h=>h.elim) (λ_ h=>h.elim) (λ_ _ h=>h.elim) (λ_ h=>h.elim);refine⟨_,_,F,S,?_,ef,bg⟩;simp[Instr.alloc,zn aK b_,newVar,newRow,newObj,Sem.run,b3]
  .cases he
 .cases he
def ir (s:an) (x:I):Option (I×an):=match dG s x with
 |some (.tuple _,_)=>none
 |some (d,s1)=>some (.aP d,s1)
 |none=>none
def mg (s:an) (x:I):Option (I×an):=match x with
 | .h y q=>match q,s y with
   |[],.agg ds=>if I.e6 ds then none else some (.ab y 0,s)
   |_,_=>none
 | .fn f caps=>if caps.all (λd=>d.single&&(d.tree&&d.plain))=true then some (.ref (.fn f caps),s)else none
 |_=>none
theorem br.UT {w:World} {F cg:Nat->Prop} {s:an} {aD:Nat->Value} (bC:∀b,F b->cg b):∀(ds:aAk) (vs:aAi),(∀d∈ds,d.single=true/\d.tree=true/\d.plain=true)->e7 w F s aD ds vs->br w cg ds vs (λ_=>False)
 |[],vs,_,h=>by rw[e7]at h;rw[br];exact h
 |d::ds,vs,ae,h=>by
  rw[e7]at h;obtain⟨v,mc,rfl,h1,af⟩:=h;obtain⟨d1,d2,d3⟩:=ae d (by simp);have ay:=(aQ.dj d2).1 h1;have bG:Value.hq v=true:=by
   have:=ay.1;cases d<;>first|exact this|cases d1
  have a_:=ay.2;rw[h_ bG]at a_;rw[br];exact⟨[v],mc,λ_=>False,λ_=>False,rfl,az.mono bC _ _ _ _ (λ_ h=>h) a_,br.UT bC ds mc (λx aq=>ae x (by simp[aq])) af,λ_ h=>h,λ_ h=>h,λ_ h=>h.elim⟩
theorem aei {T:TypeId} {v:Value} (h:ca w0 F0 X F S s aD w):ca w0 F0 X (λb=>F b\/b=w.heap.size) S s aD (w.alloc (.cells (cZ v).toArray T)):=by
 have hold:∀b,b<w.heap.size->(w.alloc (.cells (cZ v).toArray T)).heap[b]? =w.heap[b]? :=by
  intro b ab;show(w.heap.push _)[b]? =_;rw[Array.getElem?_push,if_neg (by omega)]
 have h1:=h.grow hold (by simp) rfl rfl ⟨rfl,λ_=>Nat.le_refl _⟩;exact {
  hL:=λb ab=>.inl (h1.hL b ab)
  h9:=λb ab=>by
   rcases ab with ab|rfl
   .exact h1.h9 b ab
   .exact .inr (.inr h.size)
  fG:=λb ab=>by
   rcases ab with ab|rfl
   .exact h1.fG b ab
   .simp
  fc:=h1.fc
  gl:=λt b ab bI=>by
   rcases bI with bI|rfl
   .exact h1.gl t b ab bI
   .exact absurd (h.fc t _ ab) (Nat.lt_irrefl _)
  fT:=h1.fT
  eI:=h1.eI
  eg:=λt=>aQ.frame (λ_ _=>rfl) (λb ab=>.inl ab) (λ_ _ _=>rfl) h1.eg _ _ _ (λ_ _=>rfl) (h1.eg t)
  old:=h1.old
  size:=h1.size
  os:=h1.os
  tape:=h1.tape
  output:=h1.output
  fU:=h.fU}
theorem aej (h:ca w0 F0 X F S s aD w) {T:TypeId} {x:I} {v:Value} (aB:aQ w F s aD x v (λ_=>False)) (he:mg s x=some (av,s1)):
  Good C w0 F0 X aD w (Instr.box T v) av s1:=by
 unfold mg at he;split at he
 .rename_i y q;split at he
  .rename_i ds qM;split at he
   .cases he
   .rename_i EJ;simp only[some.injEq,Prod.mk.injEq]at he;obtain⟨rfl,rfl⟩:=he;rw[aQ]at aB;obtain⟨dI,a,g1,g2,g3⟩:=aB (s y) (by simp only[I.sub]) (by rw[qM];simp only[I.plain];simpa using EJ);simp only[ew,some.injEq,Prod.mk.injEq,true_and]at g1;rw[qM]at g3;have sP:=EK g3 (λaG e=>by cases e);have hold:∀b,b<w.heap.size->(w.alloc (.cells (cZ v).toArray T)).heap[b]? =w.heap[b]? :=by
     intro b ab;show(w.heap.push _)[b]? =_;rw[Array.getElem?_push,if_neg (by omega)]
    refine⟨.pointer (some ⟨w.heap.size,0,none⟩),w.alloc (.cells (cZ v).toArray T),λb=>F b\/b=w.heap.size,S,by simp[Instr.box,newVar,newRow,newObj,Sem.run,sP],?_,.inl ⟨rfl,?_⟩⟩
    .have h1:=h.grow hold (by simp) rfl rfl ⟨rfl,λ_=>Nat.le_refl _⟩;exact {
      hL:=λb ab=>.inl (h1.hL b ab)
      h9:=λb ab=>by
       rcases ab with ab|rfl
       .exact h1.h9 b ab
       .exact .inr (.inr h.size)
      fG:=λb ab=>by
       rcases ab with ab|rfl
       .exact h1.fG b ab
       .simp
      fc:=h1.fc
      gl:=λt b ab bI=>by
       rcases bI with bI|rfl
       .exact h1.gl t b ab bI
       .exact absurd (h.fc t _ ab) (Nat.lt_irrefl _)
      fT:=h1.fT
      eI:=h1.eI
      eg:=λt=>aQ.frame (λ_ _=>rfl) (λb ab=>.inl ab) (λ_ _ _=>rfl) h1.eg _ _ _ (λ_ _=>rfl) (h1.eg t)
      old:=h1.old
      size:=h1.size
      os:=h1.os
      tape:=h1.tape
      output:=h1.output
      fU:=h.fU}
    .rw[aQ];intro _;refine⟨w.heap.size,(cZ v).toArray,T,(0,0),rfl,.inr rfl,?_,?_⟩
     .show(w.heap.push _)[_]? =_;simp
     .rw[g1.1,<-g2]
  .cases he
 .rename_i f caps;split at he
  .rename_i au;simp only[some.injEq,Prod.mk.injEq]at he;obtain⟨rfl,rfl⟩:=he;have hM:∀d∈caps,d.single=true/\d.tree=true/\d.plain=true:=λd ao=>by
    have:=List.all_eq_true.1 au d ao;simpa only[Bool.and_eq_true]using this
   rw[aQ]at aB;obtain⟨arr,rfl,aB⟩:=aB;have sP:=EK (d:=.fn f caps) (v:=.func (.func f) #[] arr) rfl (λaG e=>by cases e);have hg:=aei (T:=T) (v:=.func (.func f) #[] arr) h;refine⟨.pointer (some ⟨w.heap.size,0,none⟩),w.alloc (.cells (cZ (.func (.func f) #[] arr)).toArray T),λb=>F b\/b=w.heap.size,S,by simp[Instr.box,newVar,newRow,newObj,Sem.run,sP],hg,.inl ⟨rfl,?_⟩⟩;refine(aQ.dj rfl).2 ⟨rfl,?_⟩;rw[az];refine⟨w.heap.size,0,[.func (.func f) #[] arr],rfl,.inr rfl,?_,?_⟩
   .have kz:(w.alloc (.cells (cZ (.func (.func f) #[] arr)).toArray T)).heap[w.heap.size]? =some (.cells (cZ (.func (.func f) #[] arr)).toArray T (0,0)):=by
     show(w.heap.push _)[_]? =_;simp
    intro j c bE;cases j with
    |zero=>
     simp only[getElem?_cons_zero,some.injEq]at bE;subst bE;have e:cZ (.func (.func f) #[] arr)=[.func (.func f) #[] arr]:=h_ rfl;unfold World.cell?;show(match(w.alloc (.cells (cZ (.func (.func f) #[] arr)).toArray T)).heap[w.heap.size]? with
      |some (.cells c _ _)=>c[0+0]?
      |_=>none)=_
     rw[kz,e];rfl
    |succ j=>simp at bE
   .rw[az];refine⟨arr,rfl,λd ao=>(hM d ao).1,?_⟩;have b1:=br.UT (cg:=F) (λb ab=>ab) caps arr.toList hM aB;refine br.mono (F:=F) (λb ab=>.inl ab) caps _ _ _ (λ_ h=>h) (br.frame (λb ab=>?_) caps _ _ (λ_ h=>h.elim) b1);have eA:=h.fG b ab;show(w.heap.push _)[b]? =_;rw[Array.getElem?_push,if_neg (by omega)]
  .cases he
 .cases he
theorem aek (h:ca w0 F0 X F S s aD w) {T:TypeId} {x:I} {v:Value} (aq:x.plain=true) (aB:aQ w F s aD x v (λ_=>False)) (he:ir s x=some (av,s1)):
  Good C w0 F0 X aD w (Instr.box T v) av s1:=by
 unfold ir at he;split at he
 .cases he
 .rename_i d s2 vO a6;simp only[some.injEq,Prod.mk.injEq]at he;obtain⟨rfl,rfl⟩:=he;obtain⟨cL,g0,g1,g2,Sn,g3,g4,g5,g6,g7,g8⟩:=rv h aq aB a6;obtain⟨ef,bg⟩:=g0.alloc T g3 g4 g5 g6 g7;refine⟨_,_,F,cL,?_,ef,bg⟩;have sP:=EK g2 (λaG e=>vO aG e);simp[Instr.box,newVar,newRow,newObj,Sem.run,sP]
 .cases he
end
end Go.en
namespace Go.en
open List Option Nat Or
section
variable {C:cu} {w0 w:World} {F0 X F:Nat->Prop} {S:Nat->Nat->Prop} {s s1:an} {aD:Nat->Value} {av:I}
theorem qN {k:IntKind} {n:Int} {v:Value} {aY:Nat->Prop} (h:aQ w F s aD (.int k n) v aY):v= .int k n:=by
 have bL:=(aQ.dj rfl).1 h;rw[az,h_ bL.1]at bL;simpa using bL.2
theorem xM {b:Bool} {v:Value} {aY:Nat->Prop} (h:aQ w F s aD (.bool b) v aY):v= .bool b:=by
 have bL:=(aQ.dj rfl).1 h;rw[az,h_ bL.1]at bL;simpa using bL.2
theorem pz {b:aAc} {v:Value} {aY:Nat->Prop} (h:aQ w F s aD (.str b) v aY):v= .string ⟨⟨b⟩⟩:=by
 have bL:=(aQ.dj rfl).1 h;rw[az,h_ bL.1]at bL;simpa using bL.2
theorem UU {v:Value} {aY:Nat->Prop} (h:aQ w F s aD .et v aY):v= .pointer none:=by
 have bL:=(aQ.dj rfl).1 h;rw[az,h_ bL.1]at bL;simpa using bL.2
theorem xN {v:Value} {aY:Nat->Prop} (h:aQ w F s aD .bf v aY):v= .slice none 0 0:=by
 have bL:=(aQ.dj rfl).1 h;rw[az,h_ bL.1]at bL;simpa using bL.2
theorem UW {v:Value} {aY:Nat->Prop} (h:aQ w F s aD .gq v aY):∃b,v= .bool b:=by
 have bL:=(aQ.dj rfl).1 h;rw[az,h_ bL.1]at bL;simpa using bL.2
theorem of_int (k:IntKind) (n:Int):aQ w F s aD (.int k n) (.int k n) (λ_=>False):=(aQ.dj rfl).2 ⟨rfl,by rw[az];rfl⟩
theorem of_bool (b:Bool):aQ w F s aD (.bool b) (.bool b) (λ_=>False):=(aQ.dj rfl).2 ⟨rfl,by rw[az];rfl⟩
theorem sQ (b:aAc):aQ w F s aD (.str b) (.string ⟨⟨b⟩⟩) (λ_=>False):=(aQ.dj rfl).2 ⟨rfl,by rw[az];rfl⟩
theorem Na (b:Bool):aQ w F s aD .gq (.bool b) (λ_=>False):=(aQ.dj rfl).2 ⟨rfl,by rw[az];exact⟨b,rfl⟩⟩
def k4 (op:BinOp) (k:IntKind) (a:Int) (dr:IntKind) (b:Int):Option I:=
 match op with
 | .shl=>if b<0 then none else some (.int k (k.wrap (a*2^(min b.toNat k.bits))))
 | .shr=>if b<0 then none else some (.int k (a.fdiv (2^(min b.toNat k.bits))))
 | .add=>if k=dr then some (.int k (k.wrap (a+b)))else none
 | .sub=>if k=dr then some (.int k (k.wrap (a-b)))else none
 | .mul=>if k=dr then some (.int k (k.wrap (a*b)))else none
 | .quo=>if k=dr/\b≠0 then some (.int k (k.wrap (a.tdiv b)))else none
 | .rem=>if k=dr/\b≠0 then some (.int k (a.tmod b))else none
 | .eql=>if k=dr then some (.bool (a==b))else none
 | .neq=>if k=dr then some (.bool (a !=b))else none
 | .lss=>if k=dr then some (.bool (decide (a<b)))else none
 | .leq=>if k=dr then some (.bool (decide (a<=b)))else none
 | .gtr=>if k=dr then some (.bool (decide (b<a)))else none
 | .geq=>if k=dr then some (.bool (decide (b<=a)))else none
 | .and=>if k=dr then some (.int k (bitsOf .and k a b))else none
 | .or=>if k=dr then some (.int k (bitsOf .or k a b))else none
 | .xor=>if k=dr then some (.int k (bitsOf .xor k a b))else none
 | .andNot=>if k=dr then some (.int k (bitsOf .andNot k a b))else none
def qO (op:BinOp) (a b:aAc):Option I:=
 match op with
 | .add=>if a.length+b.length<=9223372036854775807 then some (.str (a++b))else none
 | .eql=>some (.bool (a==b))
 | .neq=>some (.bool !(a==b))
 | .lss=>some (.bool (Op.bytesLess a b))
 | .leq=>some (.bool (Op.bytesLess a b||a==b))
 | .gtr=>some (.bool !(Op.bytesLess a b||a==b))
 | .geq=>some (.bool !(Op.bytesLess a b))
 |_=>none
def mh (s:an):I->Option aAg
 | .bf=>some (some true)
 | .slice xs=>some (if xs=[]then none else some false)
 | .h x q=>match I.sub q (s x)with
   |some (.ag _ xs)=>some (if xs=[]then none else some false)
   |_=>none
 |_=>none
def oz (s:an):I->aAg
 | .et=>some true
 | .ref _=>some false
 | .h x q=>match I.sub q (s x)with
   |some (.aP _)=>some false
   |_=>none
 |_=>none
def sR (neg:Bool):aAg->I
 |some b=>.bool (b !=neg)
 |none=>.gq
def structEq (P:Program) (T:TypeId):Bool:= !P.stoodInHeld T&& !P.eqGuardType P.depth T&&(P.fieldsOf T).toList.all λf=>decide (f.name≠ "_")
def rA (C:cu):List (TypeId×Nat)->Nat->aAk->aAk->aAg
 |[],_,[],[]=>some true
 |(mf,off)::aG,n,d::ds,e::es=>if off=n then(match(C.T mf).k,d,e with
  | .int k,.int bV a,.int cn b=>if bV=k/\cn=k then(rA C aG (n+1) ds es).map λr=>a==b&&r else none
  | .bool,.bool a,.bool b=>(rA C aG (n+1) ds es).map λr=>a==b&&r
  | .str,.str a,.str b=>(rA C aG (n+1) ds es).map λr=>a==b&&r
  |_,_,_=>none)else none
 |_,_,_,_=>none
def eP (C:cu) (s:an) (op:BinOp) (T:TypeId) (x y:I):Option I:=
 match x,y with
 | .int k a,.int dr b=>k4 op k a dr b
 | .str a,.str b=>qO op a b
 | .bool a,.bool b=>match op,(C.T T).k with
   | .eql,.bool=>some (.bool (a==b))
   | .neq,.bool=>some (.bool !(a==b))
   |_,_=>none
 | .agg ds,.agg es=>match op,(C.T T).k with
   | .eql,.struct aG=>if structEq C.P T=true then(rA C aG 0 ds es).map λb=>.bool b else none
   | .neq,.struct aG=>if structEq C.P T=true then(rA C aG 0 ds es).map λb=>.bool !b else none
   |_,_=>none
 |x,.bf=>match op,(C.T T).k with
  | .eql,.slice _=>(mh s x).map (sR false)
  | .neq,.slice _=>(mh s x).map (sR true)
  |_,_=>none
 |x,.et=>match op,(C.T T).k with
  | .eql,.ptr _=>(oz s x).map λb=>.bool b
  | .neq,.ptr _=>(oz s x).map λb=>.bool !b
  |_,_=>none
 |_,_=>none
theorem ael {P:Program} {op:BinOp} {T:TypeId} {k dr:IntKind} {a b:Int} (he:k4 op k a dr b=some av) (w:World):
  ∃v,(binOp op T (.int k a) (.int dr b)).run P w= .ok v w/\aQ w F s aD av v (λ_=>False):=by
 unfold k4 at he;cases op<;>simp only at he<;>split at he<;>first|(cases he;done)|skip
 all_goals
  rename_i au;simp only[some.injEq]at he;subst he
 all_goals first
  |(subst au;simp only[binOp_add,binOp_sub,binOp_mul,binOp_eql,binOp_neq,binOp_lss,binOp_leq,binOp_gtr,binOp_geq,binOp_and,binOp_or,binOp_xor,binOp_andNot,Op.intArith,Op.intBits,Sem.run_pure,Result.ok.injEq,and_true,exists_eq_left']
    first|exact of_int _ _|exact of_bool _)
  |(obtain⟨rfl,a7⟩:=au
    simp only[binOp_quo,binOp_rem,Op.intDiv,a7,if_false,Sem.run_pure,Result.ok.injEq,and_true,exists_eq_left'];exact of_int _ _)
  |(simp only[binOp_shl,binOp_shr,Op.shift,au,if_false,Sem.run_pure,Result.ok.injEq,and_true,exists_eq_left']
    exact of_int _ _)
theorem EM (a:aAc):(⟨⟨a⟩⟩:ByteArray).toList=a:=ByteArray.toList_eq _
theorem aem (a b:aAc):(⟨⟨a⟩⟩:ByteArray)++(⟨⟨b⟩⟩:ByteArray)=⟨⟨a++b⟩⟩:=by
 apply ByteArray.ext;simp[ByteArray.data_append]
theorem aen {P:Program} {op:BinOp} {T:TypeId} {a b:aAc} (he:qO op a b=some av) (w:World):
  ∃v,(binOp op T (.string ⟨⟨a⟩⟩) (.string ⟨⟨b⟩⟩)).run P w= .ok v w/\aQ w F s aD av v (λ_=>False):=by
 have ab:∀op,binOp op T (.string ⟨⟨a⟩⟩) (.string ⟨⟨b⟩⟩)=Op.stringOp op ⟨⟨a⟩⟩ ⟨⟨b⟩⟩:=by intro op;cases op<;>rfl
 rw[ab];unfold qO at he;cases op<;>simp only[some.injEq]at he<;>first|(cases he;done)|skip
 case add=>
  split at he
  .rename_i hl;simp only[some.injEq]at he;subst he;have ae:((ByteArray.size ⟨⟨a⟩⟩+ByteArray.size ⟨⟨b⟩⟩:Nat):Int)<=9223372036854775807:=by
    show((a.length+b.length:Nat):Int)<=_;omega
   refine⟨.string ⟨⟨a++b⟩⟩,?_,sQ _⟩;simp only[Op.stringOp,IntKind.max_i64];rw[if_neg (by omega),aem];rfl
  .cases he
 all_goals
  subst he;simp only[Op.stringOp,EM,Sem.run_pure,Result.ok.injEq,and_true,exists_eq_left'];exact of_bool _
theorem Nb (h:ca w0 F0 X F S s aD w) {v:Value} {y:Nat} {q:aAf} (aB:aQ w F s aD (.h y q) v (λ_=>False)) {sz:Nat} {xs:aAk} (ao:I.sub q (s y)=some (.ag sz xs)):
  (xs=[]/\∃a,v= .slice a 0 0)\/∃b cap cur e fr,v= .slice (some ⟨b,0,none⟩) xs.length cap/\w.heap[b]? =some (.cells cur e fr)/\ov fr cur.size/\xs.length<=cap/\cap<=maxLen/\cur.size=cap*sz/\(∀d∈xs,d.wd=sz)/\
   ∃aY,br w F xs (cur.toList.take (xs.length*sz)) aY/\(∀c,aY c->S y c)/\S y b:=by
 rw[aQ]at aB;obtain⟨dI,a,g1,g2,g3⟩:=aB _ ao rfl;have ae:Value.hq v=true:=g3;rw[h_ ae]at g2;subst g2;have aq:=h.eg y;rw[aQ.dj (jF ao (.inl rfl))]at aq;obtain⟨gZ,dF,fb,gr,k0,bV,cn,dV,ea,eC⟩:=ctx q (s y) (cZ (aD y)) (S y) none _ aq.2 ao;rw[k0]at g1;simp only[some.injEq,Prod.mk.injEq,true_and]at g1;obtain⟨rfl,rfl⟩:=g1;rw[az]at ea;rcases ea with⟨rfl,a2,af⟩|⟨b,cap,cur,aT,fr,eG,aU,b_,cY,cv,cd,fH,jt,iI,kD,dx,el⟩
 .simp at af;exact .inl ⟨rfl,_,af⟩
 .simp at aU;exact .inr ⟨b,cap,cur,aT,fr,aU,cY,cv.low,cd,fH,jt,iI,eG,kD,λc au=>cn _ (dx c au),cn _ b_⟩
theorem UX (h:ca w0 F0 X F S s aD w) {v:Value} {y:Nat} {q:aAf} (aB:aQ w F s aD (.h y q) v (λ_=>False)) {d:I} (ao:I.sub q (s y)=some (.aP d)):
  ∃b cur e fr,v= .pointer (some ⟨b,0,none⟩)/\w.heap[b]? =some (.cells cur e fr):=by
 rw[aQ]at aB;obtain⟨dI,a,g1,g2,g3⟩:=aB _ ao rfl;have ae:Value.hq v=true:=g3;rw[h_ ae]at g2;subst g2;have aq:=h.eg y;rw[aQ.dj (jF ao (.inl rfl))]at aq;obtain⟨gZ,dF,fb,gr,k0,bV,cn,dV,ea,eC⟩:=ctx q (s y) (cZ (aD y)) (S y) none _ aq.2 ao;rw[k0]at g1;simp only[some.injEq,Prod.mk.injEq,true_and]at g1;obtain⟨rfl,rfl⟩:=g1;rw[az]at ea;obtain⟨b,cur,aT,fr,eG,aU,b_,cY,_⟩:=ea;simp at aU;exact⟨b,cur,aT,fr,aU,cY⟩
theorem UY {P:Program} {T e:TypeId} (a6:P.underlying T=some (.slice e)) (w:World):∀d,(Op.equalIn (d+1) T (.slice none 0 0) (.slice none 0 0)).run P w= .ok true w/\
  ∀a n c,(Op.equalIn (d+1) T (.slice (some a) n c) (.slice none 0 0)).run P w= .ok false w:=by
 intro d;refine⟨by simp[Op.equalIn,run_underlying a6],λa n c=>by simp[Op.equalIn,run_underlying a6]⟩
theorem UZ {P:Program} {T e:TypeId} (a6:P.underlying T=some (.pointer e)) (w:World):∀d,(Op.equalIn (d+1) T (.pointer none) (.pointer none)).run P w= .ok true w/\
  ∀a,(Op.equalIn (d+1) T (.pointer (some a)) (.pointer none)).run P w= .ok false w:=by
 intro d;refine⟨by simp[Op.equalIn,run_underlying a6],λa=>by simp[Op.equalIn,run_underlying a6]⟩
theorem U0 {P:Program} {T:TypeId} (a6:P.underlying T=some .bool) (w:World):∀d a b,(Op.equalIn (d+1) T (.bool a) (.bool b)).run P w= .ok (a==b) w:=by
 intro d a b;simp[Op.equalIn,run_underlying a6]
theorem U1 (h:ca w0 F0 X F S s aD w) {x:I} {v:Value} (aB:aQ w F s aD x v (λ_=>False)) {T e:TypeId} {r:aAg} (aR:mh s x=some r) (a6:C.P.underlying T=some (.slice e)):
  ∃b,(Op.equal T v (.slice none 0 0)).run C.P w= .ok b w/\(∀gI,r=some gI->gI=b)/\Value.hq v=true/\∃a n c,v= .slice a n c:=by
 have aK:=λa n c=>(UY a6 w 9999).2 a n c;have gb:=(UY a6 w 9999).1;cases x with
 |bf=>
  have:=xN aB;subst this;simp[mh]at aR;subst aR;exact⟨true,gb,by simp,rfl,_,_,_,rfl⟩
 |slice xs=>
  have bL:=(aQ.dj rfl).1 aB;rw[az,h_ bL.1]at bL;simp only[mh,some.injEq]at aR;obtain⟨_,⟨rfl,a,c,af,_,zr⟩|⟨b,o,cap,fo,sz,af,ay⟩⟩:=bL
  .simp at af aR;subst af;subst aR;cases a with
   |none=>
    have:=zr rfl;subst this;exact⟨true,gb,by simp,rfl,_,_,_,rfl⟩
   |some a=>exact⟨false,aK _ _ _,by simp,rfl,_,_,_,rfl⟩
  .simp at af;subst af;refine⟨false,aK _ _ _,?_,rfl,_,_,_,rfl⟩;subst aR;split<;>simp
 |h y q=>
  simp only[mh]at aR;split at aR
  .rename_i sz xs ao;simp only[some.injEq]at aR;rcases Nb h aB ao with⟨rfl,a,rfl⟩|⟨b,cap,cur,aT,fr,rfl,_⟩
   .simp at aR;subst aR;cases a with
    |none=>exact⟨true,gb,by simp,rfl,_,_,_,rfl⟩
    |some a=>exact⟨false,aK _ _ _,by simp,rfl,_,_,_,rfl⟩
   .refine⟨false,aK _ _ _,?_,rfl,_,_,_,rfl⟩;subst aR;split<;>simp
  .cases aR
 |_=>simp[mh]at aR
theorem U2 (h:ca w0 F0 X F S s aD w) {x:I} {v:Value} (aB:aQ w F s aD x v (λ_=>False)) {T e:TypeId} {r:Bool} (aR:oz s x=some r) (a6:C.P.underlying T=some (.pointer e)):
  (Op.equal T v (.pointer none)).run C.P w= .ok r w/\∃a,v= .pointer a:=by
 have aK:=λa=>(UZ a6 w 9999).2 a;have gb:=(UZ a6 w 9999).1;cases x with
 |et=>
  have:=UU aB;subst this;simp[oz]at aR;subst aR;exact⟨gb,_,rfl⟩
 |ref d=>
  have bL:=(aQ.dj rfl).1 aB;rw[az,h_ bL.1]at bL;simp[oz]at aR;subst aR;obtain⟨_,b,o,fo,af,_⟩:=bL;simp at af;subst af;exact⟨aK _,_,rfl⟩
 |h y q=>
  simp only[oz]at aR;split at aR
  .rename_i d ao;simp only[some.injEq]at aR;subst aR;obtain⟨b,cur,e,fr,rfl,_⟩:=UX h aB ao;exact⟨aK _,_,rfl⟩
  .cases aR
 |_=>simp[oz]at aR
theorem aeo (bU:C.Ok):∀(aG:List (TypeId×Nat)) (gs:List Field) (n:Nat) (ds es:aAk) (r:Bool) (fO l2 c1 c2:aAi) (xs cq:Array Value) (cL eG:Nat->Prop),
  gs.map (λg=>(g.type,g.offset))=aG->(gs.all λf=>decide (f.name≠ "_"))=true->rA C aG n ds es=some r->br w F ds c1 cL->br w F es c2 eG->xs.toList=fO++c1->fO.length=n->cq.toList=l2++c2->l2.length=n->
  ∀m,(Op.eqFields (m+1) xs cq gs).run C.P w= .ok r w:=by
 intro aG;induction aG with
 |nil=>
  intro gs n ds es r fO l2 c1 c2 xs cq cL eG hg aV he h1 af aq hl hy IL m;have:gs=[]:=by simpa using hg
  subst this;cases ds<;>cases es<;>simp[rA]at he;subst he;simp[Op.eqFields]
 |cons p aG ih=>
  obtain⟨mf,off⟩:=p;intro gs n ds es r fO l2 c1 c2 xs cq cL eG hg aV he h1 af aq hl hy IL m;cases gs with
  |nil=>simp at hg
  |cons g gs=>
   simp only[map_cons,cons.injEq,Prod.mk.injEq]at hg;obtain⟨⟨rfl,rfl⟩,hg⟩:=hg;simp only[all_cons,Bool.and_eq_true,decide_eq_true_eq]at aV;cases ds with
   |nil=>simp[rA]at he
   |cons d ds=>
   cases es with
   |nil=>simp[rA]at he
   |cons e es=>
   simp only[rA]at he;split at he
   .rename_i ug;rw[br]at h1 af;obtain⟨J,a2,pA,BE,rfl,gO,iX,kd,U3,hi⟩:=h1;obtain⟨ha,fI,ax0,aep,rfl,gP,gA,je,jG,rB⟩:=af;have step:∀(x y:Value) (z:Bool),(C.T g.type).flat=true->J=[x]->ha=[y]->(∀m,(Op.equalIn (m+1) g.type x y).run C.P w= .ok z w)->∀jf,rA C aG (n+1) ds es=some jf->
      (Op.eqFields (m+1) xs cq (g::gs)).run C.P w= .ok (z&&jf) w:=by
     intro x y z kB Nc Nd heq jf fv;subst Nc;subst Nd;have nz:xs[g.offset]? =some x:=by
      rw[<-Array.getElem?_toList,aq,ug,<-hl,getElem?_append_right (Nat.le_refl _)];simp
     have ui:cq[g.offset]? =some y:=by
      rw[<-Array.getElem?_toList,hy,ug,<-IL,getElem?_append_right (Nat.le_refl _)];simp
     have aj:=ih gs (n+1) ds es jf (fO++[x]) (l2++[y]) a2 fI xs cq BE aep hg aV.2 fv iX gA (by rw[aq];simp) (by simp[hl]) (by rw[hy];simp) (by simp[IL]) m;unfold Op.eqFields;rw[if_pos aV.1];simp only[part,Sem.run_bind,M9 bU kB,Result.andThen_ok,Bool.false_eq_true,if_false,nz,ui,Sem.run_pure,heq];cases z
     .simp
     .simpa using aj
    split at he
    .rename_i k bV a cn b hk;split at he
     .rename_i aeq;obtain⟨rfl,rfl⟩:=aeq;rw[az]at gO gP;simp only[map_eq_some_iff]at he;obtain⟨jf,fv,rfl⟩:=he;obtain⟨i,EN,U4,aK,aT,aU,b_,cY,cv,cd⟩:=bU.info (hs hk (by simp));rw[hk]at cd;have zt:=IE cd;subst zt;exact step _ _ _ (by simp[hC.flat,hk]) gO gP (λm=>run_equalIn_int w m g.type _ _ a b cv) jf fv
     .cases he
    .rename_i a b hk;rw[az]at gO gP;simp only[map_eq_some_iff]at he;obtain⟨jf,fv,rfl⟩:=he;obtain⟨i,EN,U4,aK,aT,aU,b_,cY,cv,cd⟩:=bU.info (hs hk (by simp));rw[hk]at cd;have zt:=M4 cd;subst zt;exact step _ _ _ (by simp[hC.flat,hk]) gO gP (λm=>run_equalIn_bool' w m g.type a b cv) jf fv
    .rename_i a b hk;rw[az]at gO gP;simp only[map_eq_some_iff]at he;obtain⟨jf,fv,rfl⟩:=he;obtain⟨i,EN,U4,aK,aT,aU,b_,cY,cv,cd⟩:=bU.info (hs hk (by simp));rw[hk]at cd;have zt:=ue cd;subst zt;refine step _ _ (a==b) (by simp[hC.flat,hk]) gO gP (λm=>?_) jf fv;rw[run_equalIn_string w m g.type _ _ cv,EM,EM]
    .cases he
   .cases he
theorem U5 (bU:C.Ok) {T:TypeId} {aG:List (TypeId×Nat)} (hk:(C.T T).k= .struct aG) {ds es:aAk} {kC lR:Value} {cL eG:Nat->Prop} {r:Bool} (aq:aQ w F s aD (.agg ds) kC cL) (hy:aQ w F s aD (.agg es) lR eG)
  (cF:structEq C.P T=true) (he:rA C aG 0 ds es=some r) (op:BinOp) (EO EP:Operand):
  (eqGuard op T EO EP kC lR).run C.P w= .ok () w/\(Op.equal T kC lR).run C.P w= .ok r w:=by
 obtain⟨i,d,z,aK,aT,aU,b_,cY,cv,cd⟩:=bU.info (hs hk (by simp));rw[hk]at cd;obtain⟨gs,rfl,fH⟩:=EG cd;have ER:C.P.fieldsOf T=gs:=by simp[Program.fieldsOf,cv]
 simp only[structEq,Bool.and_eq_true,Bool.not_eq_true',ER]at cF;obtain⟨⟨gP,gA⟩,je⟩:=cF;obtain⟨⟨xs,rfl⟩,BF⟩:=(aQ.dj rfl).1 aq;obtain⟨⟨cq,rfl⟩,zm⟩:=(aQ.dj rfl).1 hy;rw[az]at BF zm;constructor
 .cases op<;>simp[eqGuard,gA]
 .show(Op.equalIn (9999+1) T _ _).run C.P w=_;rw[run_equalIn_struct w 9999 T xs cq (by rw[ER];exact cv) gP,ER];exact aeo bU aG gs.toList 0 ds es r [] [] _ _ xs cq cL eG fH je he BF zm rfl rfl rfl rfl 9998
theorem aer (bU:C.Ok) (h:ca w0 F0 X F S s aD w) {op:BinOp} {T:TypeId} {x y:I} {kC lR:Value} (EO EP:Operand) (aq:aQ w F s aD x kC (λ_=>False)) (hy:aQ w F s aD y lR (λ_=>False))
  (he:eP C s op T x y=some av):Good C w0 F0 X aD w (do eqGuard op T EO EP kC lR;binOp op T kC lR) av s:=by
 unfold eP at he;split at he
 .have:=qN aq;subst this;have:=qN hy;subst this;obtain⟨v,h1,af⟩:=ael (P:=C.P) (T:=T) he w;refine Good.same h (v:=v) ?_ ?_ af
  .rw[eqGuard_at_int];exact h1
  .revert he;unfold k4;cases op<;>simp only<;>split<;>simp<;>(rintro rfl;rfl)
 .have:=pz aq;subst this;have:=pz hy;subst this;obtain⟨v,h1,af⟩:=aen (P:=C.P) (T:=T) he w;refine Good.same h (v:=v) ?_ ?_ af
  .rw[eqGuard_at_string];exact h1
  .revert he;unfold qO;cases op<;>simp only<;>(try split)<;>simp<;>(try (rintro rfl;rfl))
 .have:=xM aq;subst this;have:=xM hy;subst this;split at he
  .rename_i hk;simp only[some.injEq]at he;subst he;obtain⟨i,d,z,aK,aT,aU,b_,cY,cv,cd⟩:=bU.info (hs hk (by simp));rw[hk]at cd;have:=M4 cd;subst this;refine Good.same h ?_ rfl (of_bool _);rw[eqGuard_at_bool];simp[binOp,Op.equal,Op.maxDepth,U0 cv w 9999]
  .rename_i hk;simp only[some.injEq]at he;subst he;obtain⟨i,d,z,aK,aT,aU,b_,cY,cv,cd⟩:=bU.info (hs hk (by simp));rw[hk]at cd;have:=M4 cd;subst this;refine Good.same h ?_ rfl (of_bool _);rw[eqGuard_at_bool];simp[binOp,Op.equal,Op.maxDepth,U0 cv w 9999]
  .cases he
 .split at he
  .rename_i aG hk;split at he
   .rename_i cF;simp only[map_eq_some_iff]at he;obtain⟨r,aR,rfl⟩:=he;obtain⟨g1,g2⟩:=U5 bU hk aq hy cF aR .eql EO EP;obtain⟨⟨xs,rfl⟩,_⟩:=(aQ.dj rfl).1 aq;obtain⟨⟨cq,rfl⟩,_⟩:=(aQ.dj rfl).1 hy;exact Good.same h (by simp[g1,binOp,g2]) rfl (of_bool _)
   .cases he
  .rename_i aG hk;split at he
   .rename_i cF;simp only[map_eq_some_iff]at he;obtain⟨r,aR,rfl⟩:=he;obtain⟨g1,g2⟩:=U5 bU hk aq hy cF aR .neq EO EP;obtain⟨⟨xs,rfl⟩,_⟩:=(aQ.dj rfl).1 aq;obtain⟨⟨cq,rfl⟩,_⟩:=(aQ.dj rfl).1 hy;exact Good.same h (by simp[g1,binOp,g2]) rfl (of_bool _)
   .cases he
  .cases he
 .have:=xN hy;subst this;split at he
  .rename_i e hk;simp only[map_eq_some_iff]at he;obtain⟨r,aR,rfl⟩:=he;obtain⟨i,d,z,aK,aT,aU,b_,cY,cv,cd⟩:=bU.info (hs hk (by simp));rw[hk]at cd;have:=o1 cd;subst this;obtain⟨b,h1,af,ay,a0,bt,c0,rfl⟩:=U1 h aq aR cv;refine Good.same h (v:=.bool b) ?_ ?_ ?_
   .rw[eqGuard_at_slice];simp[binOp,h1]
   .cases r<;>rfl
   .cases r with
    |none=>exact Na b
    |some gI=>have:=af gI rfl;subst this;simp only[sR,Bool.bne_false];exact of_bool _
  .rename_i e hk;simp only[map_eq_some_iff]at he;obtain⟨r,aR,rfl⟩:=he;obtain⟨i,d,z,aK,aT,aU,b_,cY,cv,cd⟩:=bU.info (hs hk (by simp));rw[hk]at cd;have:=o1 cd;subst this;obtain⟨b,h1,af,ay,a0,bt,c0,rfl⟩:=U1 h aq aR cv;refine Good.same h (v:=.bool !b) ?_ ?_ ?_
   .rw[eqGuard_at_slice];simp[binOp,h1]
   .cases r<;>rfl
   .cases r with
    |none=>exact Na _
    |some gI=>have:=af gI rfl;subst this;simp only[sR,Bool.bne_true];exact of_bool _
  .cases he
 .have:=UU hy;subst this;split at he
  .rename_i e hk;simp only[map_eq_some_iff]at he;obtain⟨r,aR,rfl⟩:=he;obtain⟨i,d,z,aK,aT,aU,b_,cY,cv,cd⟩:=bU.info (hs hk (by simp));rw[hk]at cd;have:=UL cd;subst this;obtain⟨h1,a0,rfl⟩:=U2 h aq aR cv;refine Good.same h (v:=.bool r) ?_ rfl (of_bool _);rw[eqGuard_at_pointer];simp[binOp,h1]
  .rename_i e hk;simp only[map_eq_some_iff]at he;obtain⟨r,aR,rfl⟩:=he;obtain⟨i,d,z,aK,aT,aU,b_,cY,cv,cd⟩:=bU.info (hs hk (by simp));rw[hk]at cd;have:=UL cd;subst this;obtain⟨h1,a0,rfl⟩:=U2 h aq aR cv;refine Good.same h (v:=.bool !r) ?_ rfl (of_bool _);rw[eqGuard_at_pointer];simp[binOp,h1]
  .cases he
 .cases he
end
section
variable {C:cu} {w0 w:World} {F0 X F:Nat->Prop} {S:Nat->Nat->Prop} {s s1:an} {aD:Nat->Value} {av:I}
def un (op:UnOp) (x:I):Option I:=
 match op,x with
 | .not,.bool b=>some (.bool !b)
 | .not,.gq=>some .gq
 | .neg,.int k n=>some (.int k (k.wrap (0-n)))
 |_,_=>none
theorem aes (h:ca w0 F0 X F S s aD w) {op:UnOp} {x:I} {v:Value} (aB:aQ w F s aD x v (λ_=>False)) (he:un op x=some av):Good C w0 F0 X aD w (Op.unary op v) av s:=by
 unfold un at he;split at he<;>first|(cases he;done)|(simp only[some.injEq]at he;subst he)
 .have:=xM aB;subst this;exact Good.same h rfl rfl (of_bool _)
 .obtain⟨b,rfl⟩:=UW aB;exact Good.same h rfl rfl (Na _)
 .have:=qN aB;subst this;exact Good.same h rfl rfl (of_int _ _)
def mA (s:an) (x:I):Option I:=
 match x with
 | .ref d=>some (.ref d)
 | .fn f c=>some (.fn f c)
 | .h y q=>match I.sub q (s y)with
   |some (.aP _)=>some (.h y q)
   |_=>none
 |_=>none
theorem aet {d:I} {v:Value} {aY:Nat->Prop} (h:aQ w F s aD (.ref d) v aY):∃b o fo,v= .pointer (some ⟨b,o,none⟩)/\F b/\Rd w b o fo/\az w F d fo (λ_=>False):=by
 have bL:=(aQ.dj rfl).1 h;rw[az,h_ bL.1]at bL;obtain⟨_,b,o,fo,h1,af,ay,a_⟩:=bL;simp at h1;subst h1;exact⟨b,o,fo,rfl,af,ay,a_⟩
theorem aeu (h:ca w0 F0 X F S s aD w) {x:I} {v:Value} (aB:aQ w F s aD x v (λ_=>False)) (he:mA s x=some av):
  av=x/\x.plain=true/\((∃a,v= .pointer (some a))\/∃f c,v= .func (.func f) #[] c):=by
 unfold mA at he;split at he
 .simp only[some.injEq]at he;subst he;obtain⟨b,o,fo,rfl,_⟩:=aet aB;exact⟨rfl,rfl,.inl ⟨_,rfl⟩⟩
 .simp only[some.injEq]at he;subst he;rw[aQ]at aB;obtain⟨arr,rfl,_⟩:=aB;exact⟨rfl,rfl,.inr ⟨_,_,rfl⟩⟩
 .split at he
  .rename_i d ao;simp only[some.injEq]at he;subst he;obtain⟨b,cur,e,fr,rfl,_⟩:=UX h aB ao;exact⟨rfl,rfl,.inl ⟨_,rfl⟩⟩
  .cases he
 .cases he
def ex (s:an) (x:I) (k:Nat):Option I:=
 match x with
 | .tuple ds=>match ds[k]? with
   |some d=>if d.plain=true then some d else none
   |none=>none
 | .h y q=>match I.sub q (s y)with
   |some (.tuple ds)=>match ds[k]? with
    |some d=>if I.e6 ds=true then none else some (if d.plain then d else .h y (q++[k]))
    |none=>none
   |_=>none
 |_=>none
theorem U6:∀(vs:aAi) (k:Nat) (x:Value) (ds:aAk),vs[k]? =some x->vs.length=ds.length->(∀(j:Nat) (d:I) (y:Value),ds[j]? =some d->vs[j]? =some y->(jd y).length=d.wd)->
  ∃l r,vs.flatMap jd=l++(jd x++r)/\l.length=I.e_ (ds.take k)
 |[],k,x,ds,h,_,_=>by simp at h
 |v::vs,0,x,ds,h,hl,hw=>by
  simp at h;subst h;exact⟨[],vs.flatMap jd,by simp,by simp[I.e_]⟩
 |v::vs,k+1,x,d::ds,h,hl,hw=>by
  obtain⟨l,r,aK,aT⟩:=U6 vs k x ds (by simpa using h) (by simpa using hl) (λj d y h1 af=>hw (j+1) d y (by simpa using h1) (by simpa using af));refine⟨jd v++l,r,by simp[aK],?_⟩;have:=hw 0 d v (by simp) (by simp);simp[I.e_,aT,this]
 |v::vs,k+1,x,[],h,hl,hw=>by simp at hl
theorem aev {d:I} {v:Value} (h:ke d v) (_hd:∀vs,d≠.tuple vs):cZ v=jd v:=by
 cases d with
 |agg aG=>obtain⟨arr,rfl⟩:=h;rfl
 |_=>
  have h1:Value.hq v=true:=h;cases v<;>first|rfl|(simp[Value.hq]at h1)
theorem aew {d:I} {v:Value} (h:ke d v) (ao:∀vs,d≠.tuple vs):eW d v:=by
 cases d with
 |tuple vs=>exact(ao _ rfl).elim
 |_=>exact h
theorem U7 (h:ca w0 F0 X F S s aD w) {x:I} {v:Value} {k:Nat} (aB:aQ w F s aD x v (λ_=>False)) (he:ex s x k=some av):Good C w0 F0 X aD w (Instr.extract v k) av s:=by
 have pick:∀(ds:aAk) (d:I) (arr:Array Value),ds[k]? =some d->(arr.size=ds.length/\∀(k:Nat) (d:I) (x:Value),ds[k]? =some d->arr[k]? =some x->ke d x/\(∀vs,d≠.tuple vs)/\(jd x).length=d.wd)->
   ∃x,arr[k]? =some x/\eW d x/\((cZ (.tuple arr)).drop (I.e_ (ds.take k))).take d.wd=cZ x:=by
  intro ds d arr ao ⟨b3,nu⟩;have eA:k<arr.size:=by rw[b3];exact(List.getElem?_eq_some_iff.1 ao).1
  have aq:arr[k]? =some arr[k]:=Array.getElem?_eq_getElem eA;obtain⟨g1,g2,g3⟩:=nu k d _ ao aq;obtain⟨l,r,aK,aT⟩:=U6 arr.toList k arr[k] ds (by simp[eA]) (by simpa using b3) (λj d y h1 af=>(nu j d y h1 (by simpa using af)).2.2);refine⟨_,aq,aew g1 g2,?_⟩;rw[aev g1 g2];simp only[cZ];rw[aK];exact zg l _ r _ _ aT g3
 unfold ex at he;split at he
 .rename_i ds;split at he
  .rename_i d ao;split at he
   .rename_i aw;simp only[some.injEq]at he;subst he;have bL:=(aQ.dj rfl).1 aB;obtain⟨⟨arr,rfl,b3⟩,hb⟩:=bL;obtain⟨x,aq,ae,au⟩:=pick ds d arr ao b3;have aR:(Instr.extract (.tuple arr) k).run C.P w= .ok x w:=by simp[Instr.extract,aq]
    rw[az]at hb;obtain⟨c1,gY,c2,cL,jE,e,jr,gO,iX,kd,hi,pv⟩:=br.pick ds _ _ k d hb ao;rw[e,zg c1 gY c2 _ _ jr (az.length _ _ _ hi)]at au;by_cases a6:d.tree=true
    .exact Good.same h aR aw ((aQ.dj a6).2 ⟨ae,by rw[<-au];exact az.plain _ _ _ _ aw hi⟩)
    .cases d<;>first|exact(a6 rfl).elim|(rw[az]at hi;exact hi.elim)|exact Good.same h aR rfl (by rw[aQ];trivial)|(have b1:=az.plain _ _ _ (λ_=>False) aw hi;rw[au,h_ (by exact ae)]at b1;exact Good.same h aR rfl (aQ.uh _ _ rfl b1))
   .cases he
  .cases he
 .rename_i y q;split at he
  .rename_i ds ao;split at he
   .rename_i d hk;split at he
    .cases he
    .rename_i fL;simp only[some.injEq]at he;have fL:(I.tuple ds).plain=false:=by simpa [I.plain]using fL
     rw[aQ]at aB;obtain⟨dI,a,g1,g2,g3⟩:=aB _ ao fL;obtain⟨arr,rfl,b3⟩:=g3;obtain⟨x,aq,ae,au⟩:=pick ds d arr hk b3;have aR:(Instr.extract (.tuple arr) k).run C.P w= .ok x w:=by simp[Instr.extract,aq]
     have hy:=h.eg y;rw[aQ.dj (jF ao (.inl fL))]at hy;obtain⟨gZ,dF,fb,gr,k0,bV,cn,dV,ea,eC⟩:=ctx q (s y) (cZ (aD y)) (S y) none _ hy.2 ao;rw[k0]at g1;simp only[some.injEq,Prod.mk.injEq,true_and]at g1;obtain⟨rfl,rfl⟩:=g1;rw[g2]at au;split at he
     .rename_i aw;subst he;rw[az]at ea;obtain⟨c1,gY,c2,cL,jE,e,jr,gO,iX,kd,hi,pv⟩:=br.pick ds _ _ k d ea hk;rw[e,zg c1 gY c2 _ _ jr (az.length _ _ _ hi)]at au;by_cases a6:d.tree=true
      .exact Good.same h aR aw ((aQ.dj a6).2 ⟨ae,by rw[<-au];exact az.plain _ _ _ _ aw hi⟩)
      .cases d<;>first|exact(a6 rfl).elim|(rw[az]at hi;exact hi.elim)|exact Good.same h aR rfl (by rw[aQ];trivial)|(have b1:=az.plain _ _ _ (λ_=>False) aw hi;rw[au,h_ (by exact ae)]at b1;exact Good.same h aR rfl (aQ.uh _ _ rfl b1))
     .subst he;refine Good.same h aR rfl ?_;rw[aQ];intro d2 hr EB;rw[EF w q _ _ _ _ _ _ [k] k0];rw[EE _ _ _ _ ao]at hr;simp only[I.sub,hk,some.injEq]at hr;subst hr;simp only[ew,hk];exact⟨_,_,rfl,au.symm,ae⟩
   .cases he
  .cases he
 .cases he
def pB (C:cu) (s:an) (T:TypeId) (x:I) (k:Nat):Option I:=
 match(C.T T).k with
 | .struct aG=>match aG[k]? with
   |some (mf,off)=>match x with
    | .agg ds=>match ds[k]? with
      |some d=>if I.e_ (ds.take k)=off/\fits C mf d=true/\d.plain=true/\d.tree=true then some d else none
      |none=>none
    | .h y q=>match I.sub q (s y)with
      |some (.agg ds)=>match ds[k]? with
       |some d=>if I.e_ (ds.take k)=off/\fits C mf d=true/\I.e6 ds=false/\d.tree=true then some (if d.plain then d else .h y (q++[k]))else none
       |none=>none
      |_=>none
    |_=>none
   |none=>none
 |_=>none
theorem aex (bU:C.Ok) (h:ca w0 F0 X F S s aD w) {T:TypeId} {x:I} {v:Value} {k:Nat} (aB:aQ w F s aD x v (λ_=>False)) (he:pB C s T x k=some av):Good C w0 F0 X aD w (Instr.field T v k) av s:=by
 have key:∀(aG:List (TypeId×Nat)) (mf:TypeId) (off:Nat),(C.T T).k= .struct aG->aG[k]? =some (mf,off)->∀(ds:aAk) (d:I) (arr:Array Value) (aY:Nat->Prop),ds[k]? =some d->I.e_ (ds.take k)=off->fits C mf d=true->br w F ds arr.toList aY->
   ∃x jE,(Instr.field T (.agg arr) k).run C.P w= .ok x w/\eW d x/\az w F d (cZ x) jE/\(arr.toList.drop off).take d.wd=cZ x:=by
  intro aG mf off hk bI ds d arr aY ao ug kA hb;obtain⟨i,EN,z,aK,aT,aU,b_,cY,cv,cd⟩:=bU.info (hs hk (by simp));rw[hk]at cd;obtain⟨gs,rfl,fH⟩:=EG cd;obtain⟨g,g1,rfl,rfl⟩:∃g,gs[k]? =some g/\g.type=mf/\g.offset=off:=by
   rw[<-fH,getElem?_map]at bI;simp only[map_eq_some_iff,Prod.mk.injEq]at bI;obtain⟨g,h1,af,ay⟩:=bI;exact⟨g,by simpa using h1,af,ay⟩
  obtain⟨c1,gY,c2,cL,jE,e,jr,gO,iX,kd,hi,pv⟩:=br.pick ds _ _ k d hb ao;obtain⟨x,aR,U8,o2⟩:=aeb (w:=w) bU e (jr.trans ug) hi kA;refine⟨x,jE,?_,o2,by rw[U8];exact hi,?_⟩
  .simp[Instr.field,run_underlying cv,g1,asAgg,aR]
  .rw[e,U8,<-ug];exact zg c1 gY c2 _ _ jr (az.length _ _ _ hi)
 have U9:∀(d:I) (x:Value) (jE:Nat->Prop),d.plain=true->eW d x->az w F d (cZ x) jE->aQ w F s aD d x (λ_=>False):=by
  intro d x jE aw ae hb;by_cases a6:d.tree=true
  .exact(aQ.dj a6).2 ⟨ae,az.plain _ _ _ _ aw hb⟩
  .cases d<;>first|exact(a6 rfl).elim|(rw[az]at hb;exact hb.elim)|(rw[aQ];trivial)|(have b1:=az.plain _ _ _ (λ_=>False) aw hb;rw[h_ (by exact ae)]at b1;exact aQ.uh _ _ rfl b1)
 unfold pB at he;split at he
 .rename_i aG hk;split at he
  .rename_i mf off bI;split at he
   .rename_i ds;split at he
    .rename_i d ao;split at he
     .rename_i au;simp only[some.injEq]at he;subst he;obtain⟨⟨arr,rfl⟩,hb⟩:=(aQ.dj rfl).1 aB;rw[az]at hb;obtain⟨x,jE,aR,ae,xO,_⟩:=key aG mf off hk bI ds d arr _ ao au.1 au.2.1 hb;exact Good.same h aR au.2.2.1 (U9 d x jE au.2.2.1 ae xO)
     .cases he
    .cases he
   .rename_i y q;split at he
    .rename_i ds ao;split at he
     .rename_i d py;split at he
      .rename_i au;simp only[some.injEq]at he;have fL:(I.agg ds).plain=false:=by simpa [I.plain]using au.2.2.1
       rw[aQ]at aB;obtain⟨dI,a,g1,g2,g3⟩:=aB _ ao fL;obtain⟨arr,rfl⟩:=g3;have hy:=h.eg y;rw[aQ.dj (jF ao (.inl fL))]at hy;obtain⟨gZ,dF,fb,gr,k0,bV,cn,dV,ea,eC⟩:=ctx q (s y) (cZ (aD y)) (S y) none _ hy.2 ao;rw[k0]at g1;simp only[some.injEq,Prod.mk.injEq,true_and]at g1;obtain⟨rfl,rfl⟩:=g1;rw[az,<-g2]at ea;obtain⟨x,jE,aR,ae,xO,hM⟩:=key aG mf off hk bI ds d arr _ py au.1 au.2.1 ea;by_cases aw:d.plain=true
       .rw[if_pos aw]at he;subst he;exact Good.same h aR aw (U9 d x jE aw ae xO)
       .rw[if_neg aw]at he;subst he;refine Good.same h aR rfl ?_;rw[aQ];intro d2 hr EB;rw[EF w q _ _ _ _ _ _ [k] k0];rw[EE _ _ _ _ ao]at hr;simp only[I.sub,py,some.injEq]at hr;subst hr;simp only[ew,py];refine⟨_,_,rfl,?_,ae⟩;rw[au.1,<-g2];exact hM.symm
      .cases he
     .cases he
    .cases he
   .cases he
  .cases he
 .cases he
end
section
variable {C:cu} {w0 w:World} {F0 X F:Nat->Prop} {S:Nat->Nat->Prop} {s s1:an} {aD:Nat->Value} {av:I}
def idx (C:cu) (T:TypeId) (x i:I):Option I:=
 match(C.T T).k,x,i with
 | .str,.str l,.int _ n=>if 0<=n then(match l[n.toNat]? with|some b=>some (.int .u8 b.toNat)|none=>none)else none
 |_,_,_=>none
theorem aey (l:aAc) (n:Nat):(⟨⟨l⟩⟩:ByteArray)[n]? =l[n]? :=by
 by_cases h:n<l.length
 .have bL:n<(⟨⟨l⟩⟩:ByteArray).size:=h;rw[getElem?_eq_getElem h,getElem?_pos (⟨⟨l⟩⟩:ByteArray) n bL];rfl
 .have bL:¬n<(⟨⟨l⟩⟩:ByteArray).size:=h;rw[getElem?_eq_none (by omega),getElem?_neg (⟨⟨l⟩⟩:ByteArray) n bL]
theorem aez (bU:C.Ok) (h:ca w0 F0 X F S s aD w) {T:TypeId} {x i:I} {v ry:Value} (aB:aQ w F s aD x v (λ_=>False)) (aj:aQ w F s aD i ry (λ_=>False)) (he:idx C T x i=some av):
  Good C w0 F0 X aD w (Instr.index T v ry) av s:=by
 unfold idx at he;split at he
 .rename_i l k n hk;have:=pz aB;subst this;have:=qN aj;subst this;obtain⟨i,d,z,aK,aT,aU,b_,cY,cv,cd⟩:=bU.info (hs hk (by simp));rw[hk]at cd;have:=ue cd;subst this;split at he
  .rename_i aV;split at he
   .rename_i b ab;simp only[some.injEq]at he;subst he;refine Good.same h ?_ rfl (of_int _ _);simp[Instr.index,asIntOf,run_underlying cv,aV,aey,ab]
   .cases he
  .cases he
 .cases he
def lenOf (s:an):I->Option Nat
 | .str l=>some l.length
 | .bf=>some 0
 | .slice xs=>some xs.length
 | .h y q=>match I.sub q (s y)with
   |some (.ag _ xs)=>some xs.length
   |_=>none
 |_=>none
def vQ (C:cu) (s:an) (T:TypeId) (x:I):Option I:=
 match(C.T T).k,x with
 | .str,.str l=>some (.int .i64 l.length)
 | .slice _,.bf=>some (.int .i64 0)
 | .slice _,.slice xs=>some (.int .i64 xs.length)
 | .slice _,.h y q=>match I.sub q (s y)with
   |some (.ag _ xs)=>some (.int .i64 xs.length)
   |_=>none
 |_,_=>none
theorem IM {xs:aAk} {v:Value} {aY:Nat->Prop} (h:aQ w F s aD (.slice xs) v aY):(xs=[]/\∃a c,v= .slice a 0 c/\c<=maxLen/\(a=none->c=0))\/
  ∃b o cap fo sz,v= .slice (some ⟨b,o,none⟩) xs.length cap/\F b/\xs.length<=cap/\cap<=maxLen/\(∀d∈xs,d.wd=sz)/\Rd w b o fo/\br w F xs fo (λ_=>False):=by
 have bL:=(aQ.dj rfl).1 h;rw[az,h_ bL.1]at bL;obtain⟨_,⟨rfl,a,c,af,ay⟩|⟨b,o,cap,fo,sz,af,ay⟩⟩:=bL
 .simp at af;exact .inl ⟨rfl,a,c,af,ay⟩
 .simp at af;exact .inr ⟨b,o,cap,fo,sz,af,ay⟩
theorem aeA (bU:C.Ok) (h:ca w0 F0 X F S s aD w) {T ty:TypeId} {x:I} {v:Value} (aB:aQ w F s aD x v (λ_=>False)) (he:vQ C s T x=some av):
  Good C w0 F0 X aD w (Builtin.len_ #[T] ty #[v]) av s:=by
 unfold vQ at he;split at he
 .rename_i l hk;have:=pz aB;subst this;obtain⟨i,d,z,aK,aT,aU,b_,cY,cv,cd⟩:=bU.info (hs hk (by simp));rw[hk]at cd;have:=ue cd;subst this;simp only[some.injEq]at he;subst he;refine Good.same h ?_ rfl (of_int _ _);simp[Builtin.len_,run_underlying cv,goInt];rfl
 .rename_i e hk;have:=xN aB;subst this;obtain⟨i,d,z,aK,aT,aU,b_,cY,cv,cd⟩:=bU.info (hs hk (by simp));rw[hk]at cd;have:=o1 cd;subst this;simp only[some.injEq]at he;subst he;refine Good.same h ?_ rfl (of_int _ _);simp[Builtin.len_,run_underlying cv,goInt]
 .rename_i e xs hk;obtain⟨i,d,z,aK,aT,aU,b_,cY,cv,cd⟩:=bU.info (hs hk (by simp));rw[hk]at cd;have:=o1 cd;subst this;simp only[some.injEq]at he;subst he;refine Good.same h ?_ rfl (of_int _ _);rcases IM aB with⟨rfl,a,c,rfl,_⟩|⟨b,o,cap,fo,sz,rfl,_⟩<;>simp[Builtin.len_,run_underlying cv,goInt]
 .rename_i e y q hk;split at he
  .rename_i sz xs ao;obtain⟨i,d,z,aK,aT,aU,b_,cY,cv,cd⟩:=bU.info (hs hk (by simp));rw[hk]at cd;have:=o1 cd;subst this;simp only[some.injEq]at he;subst he;refine Good.same h ?_ rfl (of_int _ _);rcases Nb h aB ao with⟨rfl,_,rfl⟩|⟨b,cap,cur,aT,fr,rfl,_⟩<;>simp[Builtin.len_,run_underlying cv,goInt]
  .cases he
 .cases he
def bytesOf:aAk->Option aAc
 |[]=>some []
 | .int .u8 n::r=>if 0<=n/\n<256 then(bytesOf r).map (UInt8.ofNat n.toNat::·)else none
 |_=>none
def jg (b:UInt8):I:=.int .u8 b.toNat
theorem aeB (l:aAc):bytesOf (l.map jg)=some l:=by
 induction l with
 |nil=>rfl
 |cons b l ih=>
  have ab:b.toNat<256:=b.toNat_lt;simp only[map_cons,jg,bytesOf,Int.toNat_natCast];rw[if_pos (by omega),ih];simp
theorem Nf:∀(xs:aAk) (l:aAc) (cs:aAi) (aY:Nat->Prop),bytesOf xs=some l->br w F xs cs aY->cs=l.map (λb=>.int .u8 (b.toNat:Int))/\xs.length=l.length
 |[],l,cs,aY,h,aR=>by simp[bytesOf]at h;subst h;rw[br]at aR;subst aR;exact⟨rfl,rfl⟩
 |x::xs,l,cs,aY,h,aR=>by
  unfold bytesOf at h;split at h
  .rename_i e;cases e
  .rename_i n r e;simp only[cons.injEq]at e;obtain⟨rfl,rfl⟩:=e;split at h
   .rename_i aV;simp only[map_eq_some_iff]at h;obtain⟨cr,h1,rfl⟩:=h;rw[br]at aR;obtain⟨c1,c2,cL,eG,rfl,af,ay,_⟩:=aR;obtain⟨rfl,a_⟩:=Nf xs cr c2 eG h1 ay;rw[az]at af;subst af;refine⟨?_,by simp[a_]⟩;simp only[map_cons,cons_append,nil_append,cons.injEq,and_true,Value.int.injEq,true_and];simp only[UInt8.toNat_ofNat'];omega
   .cases h
  .cases h
theorem ca.IP (h:ca w0 F0 X F S s aD w) {aJ:World} {sz cap:Nat} {xs:aAk} {cur:Array Value} {e:TypeId} {fr:Nat×Nat} {Sn:Nat->Prop}
  (hw:aJ.heap=w.heap.push (.cells cur e fr)) (h1:aJ.os=w.os) (af:aJ.tape=w.tape) (ay:Out aJ w)
  (bI:ov fr (cur.size+(sz-1))) (hle:xs.length<=cap) (hm:cap<=maxLen) (eX:cur.size=cap*sz) (nt:∀d∈xs,d.wd=sz) (aB:br w F xs (cur.toList.take (xs.length*sz)) Sn)
  (eA:∀b,Sn b->b<w.heap.size) (bC:∀b,Sn b->¬F b) (cc:∀u b,Sn b->¬S u b) (a7:∀b,Sn b->X b\/w0.heap.size<=b):
  ca w0 F0 X F S s aD aJ/\nV w0 X F S s aD aJ (.ag sz xs) (.slice (some ⟨w.heap.size,0,none⟩) xs.length cap):=by
 have hold:∀b,b<w.heap.size->aJ.heap[b]? =w.heap[b]? :=by
  intro b ab;rw[hw,Array.getElem?_push,if_neg (by omega)]
 have ax1:aJ.heap.size=w.heap.size+1:=by rw[hw];simp
 refine⟨h.grow hold (by omega) h1 af ay,.inr ⟨rfl,rfl,λb=>b=w.heap.size\/Sn b,?_,?_,?_,?_,?_⟩⟩
 .simp only[cZ,jd];rw[az];refine .inr ⟨w.heap.size,cap,cur,e,fr,Sn,rfl,.inl rfl,?_,bI,hle,hm,eX,nt,?_,λc au=>.inr au,λau=>Nat.lt_irrefl _ (eA _ au)⟩
  .rw[hw];simp
  .exact br.frame (λb ab=>hold b (h.fG b ab)) _ _ _ (λb ab=>hold b (eA b ab)) aB
 .rintro b (rfl|ab)
  .omega
  .have:=eA b ab;omega
 .rintro b (rfl|ab) vP
  .exact Nat.lt_irrefl _ (h.fG _ vP)
  .exact bC b ab vP
 .rintro u b (rfl|ab) hu
  .exact Nat.lt_irrefl _ (h.fc _ _ hu)
  .exact cc u b ab hu
 .rintro b (rfl|ab)
  .exact .inr h.size
  .exact a7 b ab
def k5 (C:cu) (s:an) (A B:TypeId) (x:I):Option I:=
 if(C.T A).ok=true then
 match(C.T B).k,x with
 | .int k,.int _ n=>some (.int k (k.wrap n))
 | .str,.str l=>match(C.T A).k with
   | .str=>some (.str l)
   |_=>none
 | .str,x=>match(C.T A).k with
   | .slice e=>match(C.T e).k with
     | .int .u8=>match x with
       | .bf=>some (.str [])
       | .slice xs=>(bytesOf xs).map .str
       | .h y q=>match I.sub q (s y)with
         |some (.ag 1 xs)=>(bytesOf xs).map .str
         |_=>none
       |_=>none
     |_=>none
   |_=>none
 | .slice e,.str l=>match(C.T A).k,(C.T e).k with
   | .str,.int .u8=>if l.length<=9223372036854775807 then some (.ag 1 (l.map jg))else none
   |_,_=>none
 |_,_=>none
 else none
theorem U_ (l:aAc) (aY:Nat->Prop):br w F (l.map jg) (l.map λb=>.int .u8 (b.toNat:Int)) aY:=by
 induction l generalizing aY with
 |nil=>simp only[map_nil];rw[br]
 |cons b l ih=>
  simp only[map_cons];rw[br];exact⟨[.int .u8 (b.toNat:Int)],_,λ_=>False,λ_=>False,rfl,by rw[jg,az],ih _,λ_ h=>h.elim,λ_ h=>h.elim,λ_ h=>h.elim⟩
theorem aeC (bU:C.Ok) (h:ca w0 F0 X F S s aD w) {A B:TypeId} {x:I} {v:Value} (aB:aQ w F s aD x v (λ_=>False)) (he:k5 C s A B x=some av):
  Good C w0 F0 X aD w (convert A B v) av s:=by
 unfold k5 at he;split at he
 .rename_i jh;obtain⟨kg,ax2,ax3,J,a2,a3,a4,a5,p8,pC⟩:=bU.info jh;split at he
  .rename_i k dr n hk;have:=qN aB;subst this;obtain⟨i,d,z,aK,aT,aU,b_,cY,cv,cd⟩:=bU.info (hs hk (by simp));rw[hk]at cd;have:=IE cd;subst this;simp only[some.injEq]at he;subst he;refine Good.same h ?_ rfl (of_int _ _);simp[convert,run_underlying p8,run_underlying cv,Conv.intToInt]
  .rename_i l hk;have:=pz aB;subst this;obtain⟨i,d,z,aK,aT,aU,b_,cY,cv,cd⟩:=bU.info (hs hk (by simp));rw[hk]at cd;have:=ue cd;subst this;split at he
   .rename_i ES;rw[ES]at pC;have:=ue pC;subst this;simp only[some.injEq]at he;subst he;refine Good.same h ?_ rfl (sQ _);simp[convert,run_underlying p8,run_underlying cv]
   .cases he
  .rename_i x hk _;obtain⟨i,d,z,aK,aT,aU,b_,cY,cv,cd⟩:=bU.info (hs hk (by simp));rw[hk]at cd;have:=ue cd;subst this;split at he
   .rename_i e ES;rw[ES]at pC;have:=o1 pC;subst this;split at he
    .rename_i ET;obtain⟨uf,bN,vN,f1,f2,f3,f4,f5,f6,f7⟩:=bU.info (hs ET (by simp));rw[ET]at f7;have:=IE f7;subst this;have fin:∀(l:aAc) (b o cap:Nat),Rd w b o (l.map λb=>.int .u8 (b.toNat:Int))->(convert A B (.slice (some ⟨b,o,none⟩) l.length cap)).run C.P w= .ok (.string ⟨⟨l⟩⟩) w:=by
      intro l b o cap mz;refine run_convert_bytes_back w A B e ⟨b,o,none⟩ cap l p8 f6 cv (λj bE=>?_);rw[Addr.add_lit];exact mz j _ (by simp[bE])
     have nil:(convert A B (.slice none 0 0)).run C.P w= .ok (.string ⟨⟨[]⟩⟩) w:=by
      simp[convert,run_underlying p8,run_underlying cv,run_underlying f6,Conv.bytesToString];rfl
     split at he
     .have:=xN aB;subst this;simp only[some.injEq]at he;subst he;exact Good.same h nil rfl (sQ _)
     .rename_i xs _;simp only[map_eq_some_iff]at he;obtain⟨l,hl,rfl⟩:=he;rcases IM aB with⟨rfl,a,c,rfl,_,zr⟩|⟨b,o,cap,fo,sz,rfl,h1,af,ay,a_,b1,dn⟩
      .simp[bytesOf]at hl;subst hl;cases a with
       |none=>
        have:=zr rfl;subst this;exact Good.same h nil rfl (sQ _)
       |some a=>
        refine Good.same h ?_ rfl (sQ _);exact run_convert_bytes_back w A B e a c [] p8 f6 cv (λj bE=>by simp at bE)
      .obtain⟨rfl,dc⟩:=Nf xs l fo _ hl dn;rw[dc];exact Good.same h (fin l b o cap b1) rfl (sQ _)
     .rename_i y q;split at he
      .rename_i xs ao;simp only[map_eq_some_iff]at he;obtain⟨l,hl,rfl⟩:=he;rcases Nb h aB ao with⟨rfl,a,rfl⟩|⟨b,cap,cur,aT,fr,rfl,h1,af,ay,a_,b1,dn,aY,dc,_⟩
       .simp[bytesOf]at hl;subst hl;cases a with
        |none=>exact Good.same h nil rfl (sQ _)
        |some a=>
         refine Good.same h ?_ rfl (sQ _);exact run_convert_bytes_back w A B e a 0 [] p8 f6 cv (λj bE=>by simp at bE)
       .obtain⟨gH,iq⟩:=Nf xs l _ _ hl dc;rw[iq];refine Good.same h (fin l b 0 cap ?_) rfl (sQ _);rw[<-gH];exact Bw h1 _
      .cases he
     .cases he
    .cases he
   .cases he
  .rename_i e l hk;have:=pz aB;subst this;obtain⟨i,d,z,aK,aT,aU,b_,cY,cv,cd⟩:=bU.info (hs hk (by simp));rw[hk]at cd;have:=o1 cd;subst this;split at he
   .rename_i ES ET;rw[ES]at pC;have:=ue pC;subst this;obtain⟨uf,bN,vN,f1,f2,f3,f4,f5,f6,f7⟩:=bU.info (hs ET (by simp));rw[ET]at f7;have:=IE f7;subst this;split at he
    .rename_i hl;simp only[some.injEq]at he;subst he;have ae:(⟨⟨l⟩⟩:ByteArray).size=l.length:=rfl;have Ng:=grownCap_ge w l.length 0 e;have aeD:=grownCap_le_maxLen w l.length 0 e (by unfold maxLen;omega);have Va:(bytesRow ⟨⟨l⟩⟩ (grownCap w l.length 0 e)).toList=l.map (λb=>Value.int .u8 (b.toNat:Int))++replicate (grownCap w l.length 0 e-l.length) (.int .u8 0):=by
      simp[bytesRow,ae]
     have eX:(bytesRow ⟨⟨l⟩⟩ (grownCap w l.length 0 e)).size=grownCap w l.length 0 e*1:=by
      have:(bytesRow ⟨⟨l⟩⟩ (grownCap w l.length 0 e)).size=(bytesRow ⟨⟨l⟩⟩ (grownCap w l.length 0 e)).toList.length:=by simp
      rw[this,Va];simp;omega
     have zp:=run_bytes_of_string w A B e ⟨⟨l⟩⟩ p8 cv f6;rw[ae]at zp;have o3:=h.IP (aJ:=w.drew.alloc (.cells (bytesRow ⟨⟨l⟩⟩ (grownCap w l.length 0 e)) e ((bytesRow ⟨⟨l⟩⟩ (grownCap w l.length 0 e)).size,(bytesRow ⟨⟨l⟩⟩ (grownCap w l.length 0 e)).size+1)))
      (sz:=1) (cap:=grownCap w l.length 0 e) (xs:=l.map jg) (cur:=bytesRow ⟨⟨l⟩⟩ (grownCap w l.length 0 e)) (e:=e) (Sn:=λ_=>False) rfl rfl rfl ⟨rfl,λ_=>le_succ _⟩
      (λo bG ⟨h1,_⟩=>by simp only at h1;omega) (by simpa using Ng) aeD eX (by intro d ao;obtain⟨b,_,rfl⟩:=mem_map.1 ao;rfl)
      (by rw[Va,take_left' (by simp)];exact U_ l _) (λ_ h=>h.elim) (λ_ h=>h.elim) (λ_ _ h=>h.elim) (λ_ h=>h.elim)
     simp only[length_map]at o3;exact⟨_,_,F,S,zp,o3.1,o3.2⟩
    .cases he
   .cases he
  .cases he
 .cases he
end
section
variable {C:cu} {w0 w:World} {F0 X F:Nat->Prop} {S:Nat->Nat->Prop} {s s1:an} {aD:Nat->Value} {av:I}
def jR (d:Nat):Option I->Option Nat
 |none=>some d
 |some (.int _ n)=>if 0<=n then some n.toNat else none
 |some _=>none
def iJ (C:cu) (s:an) (T:TypeId) (x:I) (fP aj:Option I):Option (I×an):=
 match(C.T T).k,x with
 | .str,.str l=>match jR 0 fP,jR l.length aj with
   |some a,some b=>if a<=b/\b<=l.length then some (.str ((l.take b).drop a),s)else none
   |_,_=>none
 | .slice e,.bf=>match jR 0 fP,jR 0 aj with
   |some 0,some 0=>if(C.T e).ok=true then some (.bf,s)else none
   |_,_=>none
 | .slice e,.slice xs=>match jR 0 fP,jR xs.length aj with
   |some a,some b=>if a<=b/\b<=xs.length/\(C.T e).ok=true/\(∀d∈xs,d.wd=(C.T e).sz)then some (.slice ((xs.take b).drop a),s)else none
   |_,_=>none
 | .slice e,.h y q=>match I.sub q (s y)with
   |some (.ag sz xs)=>match jR 0 fP,jR xs.length aj with
    |some 0,some b=>if b<=xs.length/\(C.T e).ok=true then(match dG s (.h y q)with|some (_,s1)=>some (.ag sz (xs.take b),s1)|none=>none)else none
    |_,_=>none
   |_=>none
 |_,_=>none
def vR (w:World) (F:Nat->Prop) (s:an) (aD:Nat->Value):Option I->Option Value->Prop
 |none,none=>True
 |some d,some v=>aQ w F s aD d v (λ_=>False)
 |_,_=>False
theorem Vb {d:Nat} {o:Option I} {v:Option Value} (bG:vR w F s aD o v) {a:Nat} (h:jR d o=some a):(o=none/\v=none/\a=d)\/∃k,v=some (.int k a):=by
 cases o with
 |none=>
  cases v with
  |none=>simp[jR]at h;exact .inl ⟨rfl,rfl,h.symm⟩
  |some v=>simp[vR]at bG
 |some x=>
  cases v with
  |none=>simp[vR]at bG
  |some v=>
   simp only[vR]at bG;cases x with
   |int k n=>
    have:=qN bG;subst this;simp only[jR]at h;split at h
    .rename_i aV;simp only[some.injEq]at h;subst h;obtain⟨m,rfl⟩:=Int.eq_ofNat_of_zero_le aV;exact .inr ⟨k,rfl⟩
    .cases h
   |_=>simp[jR]at h
theorem BG {P:Program} {isS:Bool} {len cap a b:Nat} {fP aj:Option I} {zu zv:Option Value} (rC:vR w F s aD fP zu) (rD:vR w F s aD aj zv) (bs:jR 0 fP=some a) (ab:jR len aj=some b) (jS:a<=b) (aeE:b<=cap) (_hlc:len<=cap):
  (Instr.sliceBounds isS len cap zu zv none).run P w= .ok (a,b,cap) w:=by
 rcases Vb rC bs with⟨_,rfl,rfl⟩|⟨k,rfl⟩<;>rcases Vb rD ab with⟨_,rfl,rfl⟩|⟨dr,rfl⟩<;>
  simp[Instr.sliceBounds,Instr.sliceBound,asIntOf,jS,aeE]
theorem BH (bU:C.Ok) {T:TypeId} (hk:(C.T T).flat=true) (v:Value) (fP aj fp:Option Value) (w:World):(Instr.sliceAt T v fP aj fp).run C.P w=(Instr.slice T v fP aj fp).run C.P w:=by
 obtain⟨i,d,z,aK,aT,aU,b_,cY,cv,cd⟩:=bU.info (UO hk);have dP:∀n e,d≠.array n e:=by
  clear cv;unfold hC.flat at hk;generalize (C.T T).k=ny at*;cases ny<;>cases d<;>simp[oy]at cd hk⊢
 cases d<;>first|exact(dP _ _ rfl).elim|simp[Instr.sliceAt,run_underlying cv]
theorem BI {x:hC} {k:qK} (h:x.k=k) (hk:k≠.other) (ae:∀aG,k≠.struct aG) (ab:∀e,k≠.gB e:=by simp):x.flat=true:=by
 unfold hC.flat;rw[h];cases k<;>first|rfl|exact(hk rfl).elim|exact(ab _ rfl).elim|exact(ae _ rfl).elim
theorem br.split:∀(n:Nat) (xs:aAk) (cs:aAi) (aY:Nat->Prop),br w F xs cs aY->∃c1 c2 cL eG,cs=c1++c2/\br w F (xs.take n) c1 cL/\br w F (xs.drop n) c2 eG/\(∀b,cL b->aY b)/\(∀b,eG b->aY b)/\(∀b,cL b->¬eG b)
 |0,xs,cs,aY,h=>⟨[],cs,λ_=>False,aY,rfl,by rw[take_zero,br],h,λ_ h=>h.elim,λ_ h=>h,λ_ h=>h.elim⟩
 |n+1,[],cs,aY,h=>by rw[br]at h;subst h;exact⟨[],[],λ_=>False,λ_=>False,rfl,by rw[take_nil,br],by rw[drop_nil,br],λ_ h=>h.elim,λ_ h=>h.elim,λ_ h=>h.elim⟩
 |n+1,x::xs,cs,aY,h=>by
  rw[br]at h;obtain⟨c1,c2,jq,h8,rfl,h1,af,ay,a_,b1⟩:=h;obtain⟨d1,d2,cL,eG,rfl,g1,g2,g3,g4,g5⟩:=br.split n xs c2 h8 af;refine⟨c1++d1,d2,λb=>jq b\/cL b,eG,by simp,?_,g2,?_,λb ab=>a_ _ (g4 _ ab),?_⟩
  .rw[take_succ_cons,br];exact⟨c1,d1,jq,cL,rfl,h1,g1,λ_ h=>.inl h,λ_ h=>.inr h,λb ab au=>b1 b ab (g3 b au)⟩
  .rintro b (ab|ab)
   .exact ay b ab
   .exact a_ b (g3 b ab)
  .rintro b (ab|ab) au
   .exact b1 b ab (g4 b au)
   .exact g5 b ab au
theorem aeF (bU:C.Ok) (h:ca w0 F0 X F S s aD w) {T:TypeId} {x:I} {v:Value} {fP aj:Option I} {zu zv:Option Value} (aq:x.plain=true) (aB:aQ w F s aD x v (λ_=>False)) (rC:vR w F s aD fP zu) (rD:vR w F s aD aj zv)
  (he:iJ C s T x fP aj=some (av,s1)):Good C w0 F0 X aD w (Instr.sliceAt T v zu zv none) av s1:=by
 unfold iJ at he;split at he
 .rename_i l hk;have:=pz aB;subst this;obtain⟨i,d,z,aK,aT,aU,b_,cY,cv,cd⟩:=bU.info (hs hk (by simp));rw[hk]at cd;have:=ue cd;subst this;split at he
  .rename_i a b bs ab;split at he
   .rename_i jS;simp only[some.injEq,Prod.mk.injEq]at he;obtain⟨rfl,rfl⟩:=he;refine Good.same h ?_ rfl (sQ _);rw[BH bU (BI hk (by simp) (by simp))];have eX:(⟨⟨l⟩⟩:ByteArray).size=l.length:=rfl;have rE:=BG (P:=C.P) (isS:=false) (len:=l.length) (cap:=l.length) rC rD bs ab jS.1 jS.2 (Nat.le_refl _);have aeG:(⟨⟨l⟩⟩:ByteArray).extract a b=⟨⟨(l.take b).drop a⟩⟩:=by
     apply ByteArray.ext;simp[ByteArray.data_extract,drop_take]
    simp[Instr.slice,run_underlying cv,eX,rE,aeG]
   .cases he
  .cases he
 .rename_i e hk;have:=xN aB;subst this;obtain⟨i,d,z,aK,aT,aU,b_,cY,cv,cd⟩:=bU.info (hs hk (by simp));rw[hk]at cd;have:=o1 cd;subst this;split at he
  .rename_i bs ab;split at he
   .rename_i vS;obtain⟨uf,bN,vN,f1,f2,f3,f4,f5,f6,f7⟩:=bU.info vS;simp only[some.injEq,Prod.mk.injEq]at he;obtain⟨rfl,rfl⟩:=he;have rE:=BG (P:=C.P) (isS:=true) (len:=0) (cap:=0) rC rD bs ab (Nat.le_refl _) (Nat.le_refl _) (Nat.le_refl _);refine Good.same h (v:=.slice none 0 0) ?_ rfl aB;rw[BH bU (BI hk (by simp) (by simp))];simp[Instr.slice,run_underlying cv,rE,nx f1,f2]
   .cases he
  .cases he
 .rename_i e xs hk;obtain⟨i,d,z,aK,aT,aU,b_,cY,cv,cd⟩:=bU.info (hs hk (by simp));rw[hk]at cd;have:=o1 cd;subst this;split at he
  .rename_i a b bs ab;split at he
   .rename_i jS;obtain⟨aeH,Vc,vS,nt⟩:=jS;obtain⟨uf,bN,vN,f1,f2,f3,f4,f5,f6,f7⟩:=bU.info vS;simp only[some.injEq,Prod.mk.injEq]at he;obtain⟨rfl,rfl⟩:=he;rcases IM aB with⟨rfl,BJ,c,rfl,Nh,zr⟩|⟨lS,o,cap,fo,sz,rfl,h1,af,ay,a_,b1,dn⟩
    .have ju:b=0:=by simpa using Vc
     subst ju;have aeI:a=0:=by omega
     subst aeI;have rE:=BG (P:=C.P) (isS:=true) (len:=0) (cap:=c) rC rD bs ab (Nat.le_refl _) (zero_le _) (zero_le _);refine Good.same h (v:=.slice BJ 0 c) ?_ rfl ((aQ.dj rfl).2 ⟨rfl,by rw[az];exact .inl ⟨rfl,BJ,c,rfl,Nh,zr⟩⟩);rw[BH bU (BI hk (by simp) (by simp))];cases BJ with
     |none=>
      have:=zr rfl;subst this;simp[Instr.slice,run_underlying cv,rE,nx f1,f2]
     |some BJ=>simp[Instr.slice,run_underlying cv,rE,nx f1,f2,Addr.add]
    .have rE:=BG (P:=C.P) (isS:=true) (len:=xs.length) (cap:=cap) rC rD bs ab aeH (Nat.le_trans Vc af) af;obtain⟨c1,c2,cL,eG,rfl,g1,g2,g3,g4,g5⟩:=br.split b xs fo _ dn;obtain⟨d1,d2,ax4,Vd,rfl,bV,cn,dV,ea,eC⟩:=br.split a (xs.take b) c1 _ g1;have IQ:d1.length=a*(C.T e).sz:=by
      rw[br.length _ _ _ bV,zi _ (λd ao=>nt d (mem_of_mem_take (mem_of_mem_take ao))),length_take,length_take];congr 1;omega
     have hlen:((xs.take b).drop a).length=b-a:=by simp;omega
     have mz:Rd w lS (o+a*(C.T e).sz) d2:=by
      rw[<-IQ];have:Rd w lS o (d1++(d2++c2)):=by simpa using b1
      exact this.M6
     have IU:br w F ((xs.take b).drop a) d2 (λ_=>False):=br.mono (λ_ h=>h) _ _ _ _ (λb ab=>(g3 _ (ea _ ab)).elim) cn;have mem:∀d∈(xs.take b).drop a,d.wd=sz:=λd ao=>a_ d (mem_of_mem_take (mem_of_mem_drop ao));have run:(Instr.sliceAt T (.slice (some ⟨lS,o,none⟩) xs.length cap) zu zv none).run C.P w= .ok (.slice (if cap=a then some ⟨lS,o,none⟩else some ⟨lS,o+a*(C.T e).sz,none⟩) (b-a) (cap-a)) w:=by
      rw[BH bU (BI hk (by simp) (by simp))];simp[Instr.slice,run_underlying cv,rE,nx f1,f2,Addr.add_lit]
     refine⟨_,w,F,S,run,h,.inl ⟨rfl,(aQ.dj rfl).2 ⟨rfl,?_⟩⟩⟩;simp only[cZ,jd];rw[az];by_cases Ve:cap=a
     .have aeJ:b=a:=by omega
      subst aeJ;have EU:(xs.take b).drop b=[]:=by simp
      rw[if_pos Ve];rw[EU]at IU⊢;rw[br]at IU;subst IU;exact .inr ⟨lS,o,cap-b,[],sz,by simp,h1,zero_le _,by omega,by simp,λj c bE=>by simp at bE,by rw[br]⟩
     .rw[if_neg Ve];exact .inr ⟨lS,_,cap-a,d2,sz,by rw[hlen],h1,by rw[hlen];omega,by omega,mem,mz,IU⟩
   .cases he
  .cases he
 .rename_i e y q hk;split at he
  .rename_i sz xs ao;split at he
   .rename_i b bs ab;split at he
    .rename_i xP;split at he
     .rename_i EN s2 a6;simp only[some.injEq,Prod.mk.injEq]at he;obtain⟨rfl,rfl⟩:=he;obtain⟨i,d,z,aK,aT,aU,b_,cY,cv,cd⟩:=bU.info (hs hk (by simp));rw[hk]at cd;have:=o1 cd;subst this;obtain⟨uf,bN,vN,f1,f2,f3,f4,f5,f6,f7⟩:=bU.info xP.2;have zt:EN= .ag sz xs:=by
       simp only[dG,ao,I.plain]at a6;simp at a6;exact a6.1.symm
      subst zt;obtain⟨cL,g0,g1,g2,Sn,g3,g4,g5,g6,g7,g8⟩:=rv h rfl aB a6;rw[h_ g2,az]at g3;rcases g3 with⟨rfl,a0,nX⟩|⟨lS,cap,cur,gb,fr,aY,nX,bV,cn,dV,ea,eC,dB,kh,e1,pD,kE⟩
      .simp at nX;subst nX;have ju:b=0:=by simpa using xP.1
       subst ju;have rE:=BG (P:=C.P) (isS:=true) (len:=0) (cap:=0) rC rD bs ab (Nat.le_refl _) (Nat.le_refl _) (Nat.le_refl _);refine⟨.slice a0 0 0,w,F,cL,?_,g0,.inr ⟨rfl,rfl,λ_=>False,by simp only[cZ,jd];rw[az];exact .inl ⟨rfl,_,rfl⟩,λ_ h=>h.elim,λ_ h=>h.elim,λ_ _ h=>h.elim,λ_ h=>h.elim⟩⟩;rw[BH bU (BI hk (by simp) (by simp))];cases a0<;>simp[Instr.slice,run_underlying cv,rE,nx f1,f2]
      .simp at nX;subst nX;have rE:=BG (P:=C.P) (isS:=true) (len:=xs.length) (cap:=cap) rC rD bs ab (zero_le _) (Nat.le_trans xP.1 ea) ea;have hlen:(xs.take b).length=b:=by simp;omega
       have run:(Instr.sliceAt T (.slice (some ⟨lS,0,none⟩) xs.length cap) zu zv none).run C.P w= .ok (.slice (some ⟨lS,0,none⟩) b cap) w:=by
        rw[BH bU (BI hk (by simp) (by simp))];simp[Instr.slice,run_underlying cv,rE,nx f1,f2,Addr.add_lit]
       refine⟨_,w,F,cL,run,g0,.inr ⟨rfl,rfl,Sn,?_,g4,g5,g6,g7⟩⟩;simp only[cZ,jd];rw[az];obtain⟨c1,c2,jq,h8,au,m1,m2,m3,m4,m5⟩:=br.split b xs _ _ e1;refine .inr ⟨lS,cap,cur,gb,fr,aY,by rw[hlen],bV,cn,dV,by omega,eC,dB,λd ao=>kh d (mem_of_mem_take ao),?_,pD,kE⟩;have IQ:c1.length=b*sz:=by
        rw[br.length _ _ _ m1,zi _ (λd ao=>kh d (mem_of_mem_take ao)),hlen]
       have:cur.toList.take ((xs.take b).length*sz)=c1:=by
        rw[hlen];have af:b*sz<=xs.length*sz:=mul_le_mul_right _ xP.1;have:(cur.toList.take (xs.length*sz)).take (b*sz)=c1:=by rw[au,take_left' IQ]
        rwa [take_take,Nat.min_eq_left af]at this
       rw[this];exact br.mono (λ_ h=>h) _ _ _ _ m3 m1
     .cases he
    .cases he
   .cases he
  .cases he
 .cases he
end
section
variable {C:cu} {w0 w:World} {F0 X F:Nat->Prop} {S:Nat->Nat->Prop} {s s1:an} {aD:Nat->Value} {av:I}
def Src (P:Program) (w:World) (size:Nat) (x:Value) (m:Nat) (news:aAi):Prop:=
 ∀aJ:World,aJ.heap=w.heap->(Builtin.lenOf x).run P aJ= .ok m aJ/\(Builtin.firstCells size m x).run P aJ= .ok news.toArray aJ
def Ni (d:TypeDesc):Prop:=(∃e,d= .slice e)\/d= .string
theorem aeK {P:Program} {T dZ ty e:TypeId} {vT:TypeDesc} {i:TypeInfo} (a6:P.underlying T=some (.slice e)) (hu:P.underlying dZ=some vT) (zw:Ni vT) (aj:P.info? e=some i)
  {x:Value} {m:Nat} {news:aAi} (IV:Src P w i.size x m news) {b n cap:Nat} {cur:Array Value} {gb:TypeId} {fr:Nat×Nat} {l mid r:aAi} (ab:w.heap[b]? =some (.cells cur gb fr)) (bI:ov fr cur.size)
  (au:cur.toList=l++(mid++r)) (hl:l.length=n*i.size) (hm:mid.length=news.length) (IJ:∀v∈news,Value.hq v=true) (uj:n+m<=cap):
  ∃aJ,(Builtin.append_ #[T,dZ] ty #[.slice (some ⟨b,0,none⟩) n cap,x]).run P w= .ok (.slice (some ⟨b,0,none⟩) (n+m) cap) aJ/\aJ.heap[b]? =some (.cells (l++(news++r)).toArray gb fr)/\
   (∀c,c≠b->aJ.heap[c]? =w.heap[c]?)/\aJ.heap.size=w.heap.size/\aJ.os=w.os/\aJ.tape=w.tape/\Out aJ w:=by
 obtain⟨aJ,m1,m2⟩:=II (P:=P) (b:=b) (o:=n*i.size) (e:=gb) (fr:=fr) news 0 cur w l mid r ab bI au (by omega) hm IJ;refine⟨aJ,?_,m2⟩;obtain⟨h1,af⟩:=IV w rfl;rcases zw with⟨fS,rfl⟩|rfl<;>simp[Builtin.append_,run_underlying a6,run_underlying hu,nx aj,h1,af,uj,Addr.add_lit,m1]
theorem aeL {P:Program} {T dZ ty e:TypeId} {vT:TypeDesc} {i:TypeInfo} {z:Value} (a6:P.underlying T=some (.slice e)) (hu:P.underlying dZ=some vT) (zw:Ni vT) (aj:P.info? e=some i) (b3:i.zero=some z)
  {x:Value} {m:Nat} {news:aAi} (IV:Src P w i.size x m news) {base:Option Addr} {n cap:Nat} {sS:aAi} (hold:Src P w i.size (.slice base n cap) n sS) (uj:¬n+m<=cap)
  (aV:n+m<=9223372036854775807) (Nj:(n+m)*i.bytes<=140737488355328):
  (Builtin.append_ #[T,dZ] ty #[.slice base n cap,x]).run P w= .ok (.slice (some ⟨w.heap.size,0,none⟩) (n+m) (grownCap w (n+m) cap e))
   (w.drew.alloc (.cells (sS.toArray++news.toArray++Builtin.zeroCells z.cells (grownCap w (n+m) cap e-(n+m))) e)):=by
 have h1:=(IV w rfl).1;have af:=(IV w.drew rfl).2;have ay:=(hold w.drew rfl).2;have Vf:=growslice_fits (need:=n+m) (old:=cap) (by omega) Nj;have kA:¬(281474976710656<Builtin.nextslicecap (n+m) cap*i.bytes):=by omega
 have IW:∀k (w:World),(askRoom k).run P w= .ok () w:=by
  intro k w;unfold askRoom;split<;>rfl
 have aeM:¬(9223372036854775807<(n:Int)+(m:Int)/\i.bytes=0):=by omega
 rcases zw with⟨fS,rfl⟩|rfl<;>
  .simp[Builtin.append_,run_underlying a6,run_underlying hu,nx aj,EH aj,h1,uj,kA,Question.forced,IW];rw[if_neg aeM,ay];simp[af,zn aj b3,newRow,grownCap];have aK:(sS++news).toArray=sS.toArray++news.toArray:=by simp
   rw[aK,Array.append_assoc]
def IX (C:cu) (e dZ:TypeId):Bool:=match(C.T dZ).k,(C.T e).k with
 | .slice fS,_=>fS==e
 | .str,.int .u8=>true
 |_,_=>false
def vU (C:cu) (s:an) (T dZ:TypeId) (x y:I):Option (I×an):=
 match(C.T T).k with
 | .slice e=>if(C.T e).ok=true/\(C.T e).zero.wd=(C.T e).sz/\(flat (C.T e).zero).isSome=true/\IX C e dZ=true then
   match(match x with| .bf=>some (I.ag (C.T e).sz [],s)| .h a q=>dG s (.h a q)|_=>none)with
   |some (.ag sz xs,s1)=>if sz=(C.T e).sz then
     match(match nw x.owner y with
      | .bf=>some ([],s1)
      | .slice cq=>some (cq,s1)
      | .str l=>some (l.map jg,s1)
      | .h a q=>match dG s1 (.h a q)with
        |some (.ag _ cq,s2)=>some (cq,s2)
        |_=>none
      |_=>none)with
     |some (cq,s2)=>if(∀d∈cq,d.wd=(C.T e).sz)/\(xs.length+cq.length)*(C.T e).bytes<=140737488355328/\xs.length+cq.length<=9223372036854775807 then some (.ag sz (xs++cq),s2)else none
     |none=>none
    else none
   |_=>none
   else none
 |_=>none
theorem br.append {xs cq:aAk} {c1 c2:aAi} {cL eG aY:Nat->Prop} (h1:br w F xs c1 cL) (af:br w F cq c2 eG) (aK:∀b,cL b->aY b) (aT:∀b,eG b->aY b) (aU:∀b,cL b->¬eG b):br w F (xs++cq) (c1++c2) aY:=by
 induction xs generalizing c1 cL aY with
 |nil=>rw[br]at h1;subst h1;exact br.mono (λ_ h=>h) _ _ _ _ aT af
 |cons x xs ih=>
  rw[br]at h1;obtain⟨aeN,aeO,jq,h8,rfl,g1,g2,g3,g4,g5⟩:=h1;rw[cons_append,br];refine⟨aeN,aeO++c2,jq,λb=>h8 b\/eG b,by simp,g1,ih g2 (λb h=>.inl h) (λb h=>.inr h) (λb h=>aU b (g4 b h)),λb h=>aK b (g3 b h),?_,?_⟩
  .rintro b (h|h)
   .exact aK b (g4 b h)
   .exact aT b h
  .rintro b h (bL|bL)
   .exact g5 b h bL
   .exact aU b (g3 b h) bL
theorem Nk {P:Program} {size m cap:Nat} {b o:Nat} {news:aAi} (mz:Rd w b o news) (hl:news.length=m*size):Src P w size (.slice (some ⟨b,o,none⟩) m cap) m news:=by
 intro aJ hw;refine⟨rfl,?_⟩;refine run_firstCells_some aJ size m ⟨b,o,none⟩ m cap news hl (λj v bE=>?_);rw[Addr.add_lit];have:=mz j v bE;simpa [World.cell?,hw]using this
theorem Vg {P:Program} {size cap:Nat}:Src P w size (.slice none 0 cap) 0 []:=by
 intro aJ _;exact⟨rfl,by simp[Builtin.firstCells]⟩
theorem Nl {P:Program} {size cap:Nat} (a:Option Addr):Src P w size (.slice a 0 cap) 0 []:=by
 cases a with
 |none=>exact Vg
 |some a=>
  intro aJ _;exact⟨rfl,run_firstCells_some aJ size 0 a 0 cap [] (by simp) (λj v bE=>by simp at bE)⟩
theorem aeP {P:Program} (l:aAc):Src P w 1 (.string ⟨⟨l⟩⟩) l.length (l.map λb=>.int .u8 (b.toNat:Int)):=by
 intro aJ _;refine⟨rfl,?_⟩;have:(⟨⟨l⟩⟩:ByteArray).extract 0 l.length=⟨⟨l⟩⟩:=by
  apply ByteArray.ext;simp[ByteArray.data_extract]
 simp[Builtin.firstCells,this]
theorem br.zx {sz:Nat} {xs:aAk} {cs:aAi} {aY:Nat->Prop} (h:br w F xs cs aY) (hw:∀d∈xs,d.wd=sz):cs.length=xs.length*sz:=by
 rw[br.length _ _ _ h,zi _ hw]
theorem ca.turn (h:ca w0 F0 X F S s aD w) {aJ:World} {b:Nat} (ab:∀c,c≠b->aJ.heap[c]? =w.heap[c]?) (ae:aJ.heap.size=w.heap.size) (h1:aJ.os=w.os) (af:aJ.tape=w.tape) (ay:Out aJ w)
  (bC:¬F b) (cc:∀u,¬S u b) (a7:X b\/w0.heap.size<=b):ca w0 F0 X F S s aD aJ where
 hL:=h.hL
 h9:=h.h9
 fG:=λc au=>by rw[ae];exact h.fG c au
 fc:=λt c au=>by rw[ae];exact h.fc t c au
 gl:=h.gl
 fT:=h.fT
 eI:=h.eI
 eg:=λt=>aQ.frame (Sx:=S) (λc au=>ab c (by rintro rfl;exact bC au)) (λ_ h=>h) (λx c au=>ab c (by rintro rfl;exact cc x au)) h.eg _ _ _ (λc au=>ab c (by rintro rfl;exact cc t au)) (h.eg t)
 old:=λc eA me=>by
  rw[ab c ?_]
  .exact h.old c eA me
  .rintro rfl;rcases a7 with a7|a7
   .exact me a7
   .omega
 size:=by rw[ae];exact h.size
 os:=h1.trans h.os
 tape:=af.trans h.tape
 output:=ay.trans h.output
 fU:=h.fU
theorem aeQ (bU:C.Ok) (h:ca w0 F0 X F S s aD w) {T dZ ty:TypeId} {x y:I} {kC lR:Value} (aq:aQ w F s aD x kC (λ_=>False)) (hy:aQ w F s aD y lR (λ_=>False))
  (he:vU C s T dZ x y=some (av,s1)):Good C w0 F0 X aD w (Builtin.append_ #[T,dZ] ty #[kC,lR]) av s1:=by
 unfold vU at he;split at he
 .rename_i e hk;obtain⟨Vh,d,Vi,aK,aT,aU,b_,cY,cv,cd⟩:=bU.info (hs hk (by simp));rw[hk]at cd;have:=o1 cd;subst this;split at he
  .rename_i EL;obtain⟨vS,zy,zz,uk⟩:=EL;obtain⟨i,Vj,z,f1,f2,f3,f4,f5,f6,f7⟩:=bU.info vS;obtain⟨ia,qP⟩:=isSome_iff_exists.1 zz;have zA:=f5 ia qP;have xQ:ia.length=(C.T e).sz:=by
    have:=az.length _ _ _ ((az.flat (w:=w) (F:=F) _).1 (C.T e).zero ia (λ_=>False) (Nat.le_refl _) qP);rw[this,zy]
   obtain⟨vT,hu,zw⟩:∃vT,C.P.underlying dZ=some vT/\Ni vT:=by
    unfold IX at uk;split at uk
    .rename_i fS nY;obtain⟨_,bN,_,_,_,_,_,_,g6,g7⟩:=bU.info (hs nY (by simp));rw[nY]at g7;exact⟨bN,g6,.inl ⟨_,o1 g7⟩⟩
    .rename_i nY _;obtain⟨_,bN,_,_,_,_,_,_,g6,g7⟩:=bU.info (hs nY (by simp));rw[nY]at g7;exact⟨bN,g6,.inr (ue g7)⟩
    .cases uk
   split at he
   .rename_i sz xs Nn um;split at he
    .rename_i eX;subst eX;split at he
     .rename_i cq EV rF;split at he
      .rename_i aeR;obtain⟨BK,Nj,zB⟩:=aeR;simp only[some.injEq,Prod.mk.injEq]at he;obtain⟨rfl,rfl⟩:=he;obtain⟨jq,a0,Sn,a3,a4,a5,p8,pC,Np,a9,xR⟩:∃jq,ca w0 F0 X F jq Nn aD w/\∃Sn,az w F (.ag (C.T e).sz xs) [kC] Sn/\(∀b,Sn b->b<w.heap.size)/\(∀b,Sn b->¬F b)/\(∀u b,Sn b->¬jq u b)/\
         (∀b,Sn b->X b\/w0.heap.size<=b)/\(∀u b,jq u b->S u b)/\(∀b,Sn b->∃u,S u b)/\aQ w F Nn aD (nw x.owner y) lR (λ_=>False):=by
        split at um
        .simp only[some.injEq,Prod.mk.injEq,I.ag.injEq,true_and]at um;obtain⟨rfl,rfl⟩:=um;have:=xN aq;subst this;exact⟨S,h,λ_=>False,by rw[az];exact .inl ⟨rfl,_,rfl⟩,λ_ h=>h.elim,λ_ h=>h.elim,λ_ _ h=>h.elim,λ_ h=>h.elim,λ_ _ h=>h,λ_ h=>h.elim,hy⟩
        .obtain⟨cL,g0,g1,g2,Sn,g3,g4,g5,g6,g7,g8,g9,g10⟩:=rv h rfl aq um;rw[h_ g2]at g3;exact⟨cL,g0,Sn,g3,g4,g5,g6,g7,g8,g9,g10 _ _ _ hy⟩
        .cases um
       obtain⟨h8,lS,qQ,news,ha,fI,fV,bZ,c7,dC,qR,cp⟩:∃h8,ca w0 F0 X F h8 EV aD w/\∃qQ news,br w F cq news qQ/\Src C.P w i.size lR cq.length news/\(∀b,qQ b->b<w.heap.size)/\(∀b,qQ b->¬F b)/\(∀u b,qQ b->¬h8 u b)/\
         (∀b,qQ b->X b\/w0.heap.size<=b)/\(∀u b,h8 u b->jq u b)/\(∀b,qQ b->∃u,jq u b):=by
        split at rF
        .rename_i zC;simp only[some.injEq,Prod.mk.injEq]at rF;obtain⟨rfl,rfl⟩:=rF;rw[zC]at xR;have:=xN xR;subst this;exact⟨jq,a0,λ_=>False,[],by rw[br],Vg,λ_ h=>h.elim,λ_ h=>h.elim,λ_ _ h=>h.elim,λ_ h=>h.elim,λ_ _ h=>h,λ_ h=>h.elim⟩
        .rename_i zs zC;simp only[some.injEq,Prod.mk.injEq]at rF;obtain⟨rfl,rfl⟩:=rF;rw[zC]at xR;rcases IM xR with⟨rfl,BJ,ax5,rfl,_,zr⟩|⟨b,o,cap,fo,aeS,rfl,bV,cn,dV,ea,eC,dB⟩
         .exact⟨jq,a0,λ_=>False,[],by rw[br],Nl BJ,λ_ h=>h.elim,λ_ h=>h.elim,λ_ _ h=>h.elim,λ_ h=>h.elim,λ_ _ h=>h,λ_ h=>h.elim⟩
         .exact⟨jq,a0,λ_=>False,fo,dB,Nk eC (by rw[f2];exact br.zx dB BK),λ_ h=>h.elim,λ_ h=>h.elim,λ_ _ h=>h.elim,λ_ h=>h.elim,λ_ _ h=>h,λ_ h=>h.elim⟩
        .rename_i l zC;simp only[some.injEq,Prod.mk.injEq]at rF;obtain⟨rfl,rfl⟩:=rF;rw[zC]at xR;have:=pz xR;subst this;have IY:l≠[]->i.size=1:=by
          intro hl;cases l with
          |nil=>exact(hl rfl).elim
          |cons b l=>rw[f2,<-BK (jg b) (by simp)];rfl
         by_cases hl:l=[]
         .subst hl;refine⟨jq,a0,λ_=>False,[],by simp only[map_nil];rw[br],?_,λ_ h=>h.elim,λ_ h=>h.elim,λ_ _ h=>h.elim,λ_ h=>h.elim,λ_ _ h=>h,λ_ h=>h.elim⟩;intro aJ _;exact⟨rfl,by simp[Builtin.firstCells,ByteArray.extract];rfl⟩
         .refine⟨jq,a0,λ_=>False,_,U_ l _,?_,λ_ h=>h.elim,λ_ h=>h.elim,λ_ _ h=>h.elim,λ_ h=>h.elim,λ_ _ h=>h,λ_ h=>h.elim⟩;rw[IY hl,length_map];exact aeP l
        .rename_i a q zC;split at rF
         .rename_i ax6 zs s2 a6;simp only[some.injEq,Prod.mk.injEq]at rF;obtain⟨rfl,rfl⟩:=rF;rw[zC]at xR;obtain⟨eG,g0,g1,g2,qQ,g3,g4,g5,g6,g7,g8,g9,g10⟩:=rv a0 rfl xR a6;rw[h_ g2,az]at g3;rcases g3 with⟨rfl,aeT,nX⟩|⟨b,cap,cur,gb,fr,aY,nX,bV,cn,dV,ea,eC,dB,kh,e1,pD,kE⟩
          .simp at nX;subst nX;exact⟨eG,g0,λ_=>False,[],by rw[br],(Nl aeT),λ_ h=>h.elim,λ_ h=>h.elim,λ_ _ h=>h.elim,λ_ h=>h.elim,g8,λ_ h=>h.elim⟩
          .simp at nX;subst nX;refine⟨eG,g0,aY,_,e1,Nk (Bw cn _) ?_,λc au=>g4 c (pD c au),λc au=>g5 c (pD c au),λu c au=>g6 u c (pD c au),λc au=>g7 c (pD c au),g8,λc au=>g9 c (pD c au)⟩;rw[f2];exact br.zx e1 BK
         .cases rF
        .cases rF
       have vV:news.length=cq.length*(C.T e).sz:=br.zx ha BK;have rG:∀c,Sn c->¬qQ c:=λc h1 af=>by obtain⟨u,hu⟩:=cp c af;exact p8 u c h1 hu
       have jS:∀u c,Sn c->¬h8 u c:=λu c h1 af=>p8 u c h1 (qR u c af);have grow:∀(base:Option Addr) (cap:Nat) (sS:aAi) (Sx:Nat->Prop),kC= .slice base xs.length cap->Src C.P w i.size (.slice base xs.length cap) xs.length sS->br w F xs sS Sx->(∀d∈xs,d.wd=(C.T e).sz)->(∀c,Sx c->Sn c)->¬xs.length+cq.length<=cap->
         Good C w0 F0 X aD w (Builtin.append_ #[T,dZ] ty #[kC,lR]) (.ag (C.T e).sz (xs++cq)) EV:=by
        intro base cap sS Sx M_ hold Vk Vl fY uj;subst M_;have aR:=aeL (ty:=ty) cv hu zw f1 f4 fI hold uj zB (by rw[f3];exact Nj);have Ng:=grownCap_ge w (xs.length+cq.length) cap e;have Nh:=grownCap_le_maxLen w (xs.length+cq.length) cap e (by unfold maxLen;omega);have EW:=br.zx Vk Vl;have aeU:br w F (xs++cq) (sS++news) (λc=>Sx c\/qQ c):=br.append Vk ha (λ_ h=>.inl h) (λ_ h=>.inr h) (λc h1 af=>rG c (fY c h1) af);have aeV:(sS++news).length=(xs++cq).length*(C.T e).sz:=by simp[EW,vV,Nat.add_mul]
        have o3:=lS.IP (aJ:=w.drew.alloc (.cells (sS.toArray++news.toArray++Builtin.zeroCells z.cells (grownCap w (xs.length+cq.length) cap e-(xs.length+cq.length))) e))
         (sz:=(C.T e).sz) (cap:=grownCap w (xs.length+cq.length) cap e) (xs:=xs++cq) (e:=e) (fr:=(0,0)) (Sn:=λc=>Sx c\/qQ c) rfl rfl rfl ⟨rfl,λ_=>le_succ _⟩
         (λo _ ⟨_,af⟩=>absurd af (not_lt_zero _)) (by simpa using Ng) Nh
         (by
          simp only[Array.size_append,List.size_toArray,size_zeroCells,zA,EW,vV,xQ,<-Nat.add_mul];congr 1;omega)
         (by
          intro d ao;rcases mem_append.1 ao with ao|ao
          .exact Vl d ao
          .exact BK d ao)
         (by
          simp only[Array.toList_append];rw[take_left' aeV];exact aeU)
         (by rintro c (au|au);exact a4 c (fY c au);exact fV c au) (by rintro c (au|au);exact a5 c (fY c au);exact bZ c au) (by rintro u c (au|au);exact jS u c (fY c au);exact c7 u c au) (by rintro c (au|au);exact pC c (fY c au);exact dC c au)
        refine⟨_,_,F,h8,aR,o3.1,?_⟩;have:=o3.2;simpa using this
       rw[az]at a3;rcases a3 with⟨rfl,IZ,nX⟩|⟨b,cap,cur,gb,fr,aY,nX,bV,cn,dV,ea,eC,dB,kh,e1,pD,kE⟩
       .simp at nX;subst nX;by_cases Vm:cq=[]
        .subst Vm;have Nq:news=[]:=by simpa using vV
         subst Nq;refine⟨.slice IZ 0 0,w,F,h8,?_,lS,.inr ⟨rfl,rfl,λ_=>False,by simp only[cZ,jd];rw[az];exact .inl ⟨rfl,_,rfl⟩,λ_ h=>h.elim,λ_ h=>h.elim,λ_ _ h=>h.elim,λ_ h=>h.elim⟩⟩;obtain⟨h1,af⟩:=fI w rfl;cases IZ<;>rcases zw with⟨fS,rfl⟩|rfl<;>simp at h1 af<;>simp[Builtin.append_,run_underlying cv,run_underlying hu,nx f1,h1,af,storeCells]
        .exact grow IZ 0 [] (λ_=>False) rfl (Nl IZ) (by rw[br]) (by simp) (λ_ h=>h.elim) (by
          cases cq with
          |nil=>exact(Vm rfl).elim
          |cons y cq=>simp)
       .simp at nX;subst nX;by_cases uj:xs.length+cq.length<=cap
        ·
         have EW:=br.zx e1 kh;have hlen:cur.toList.length=cap*(C.T e).sz:=by simp[dB]
         have hle:(xs.length+cq.length)*(C.T e).sz<=cap*(C.T e).sz:=mul_le_mul_right _ uj;rw[Nat.add_mul]at hle;have p6:cur.toList=cur.toList.take (xs.length*(C.T e).sz)++((cur.toList.drop (xs.length*(C.T e).sz)).take news.length++(cur.toList.drop (xs.length*(C.T e).sz)).drop news.length):=by
          rw[take_append_drop,take_append_drop]
         obtain⟨aJ,m1,m2,m3,m4,m5,m6,m7⟩:=aeK (ty:=ty) (n:=xs.length) (m:=cq.length) (cap:=cap) cv hu zw f1 fI cn dV.low p6 (by rw[f2];exact EW) (by simp[hlen,vV];omega) (br.zo _ _ _ ha) uj;have aeW:=lS.turn m3 m4 m5 m6 m7 (a5 b bV) (λu hu=>jS u b bV hu) (pC b bV);have uc:∀c,F c->aJ.heap[c]? =w.heap[c]? :=λc au=>m3 c (by rintro rfl;exact a5 _ bV au);refine⟨_,aJ,F,h8,m1,aeW,.inr ⟨rfl,rfl,λc=>Sn c\/qQ c,?_,?_,?_,?_,?_⟩⟩
         .simp only[cZ,jd];rw[az];have Vn:(cur.toList.take (xs.length*(C.T e).sz)++(news++(cur.toList.drop (xs.length*(C.T e).sz)).drop news.length)).toArray.size=cur.size:=by
           have:cur.size=cur.toList.length:=by simp
           rw[this];conv=>rhs;rw[p6]
           simp[hlen,vV];omega
          refine .inr ⟨b,cap,_,gb,fr,λc=>aY c\/qQ c,by simp,.inl bV,m2,by rw[Vn];exact dV,by simpa using uj,eC,by rw[Vn];exact dB,?_,?_,?_,?_⟩
          .intro d ao;rcases mem_append.1 ao with ao|ao
           .exact kh d ao
           .exact BK d ao
          .have BF:=br.frame uc _ _ _ (λc au=>m3 c (by rintro rfl;exact kE au)) e1;have zm:=br.frame uc _ _ _ (λc au=>m3 c (by rintro rfl;exact rG _ bV au)) ha;have:((cur.toList.take (xs.length*(C.T e).sz)++(news++(cur.toList.drop (xs.length*(C.T e).sz)).drop news.length)).toArray.toList.take ((xs++cq).length*(C.T e).sz))=cur.toList.take (xs.length*(C.T e).sz)++news:=by
            simp only[];rw[<-append_assoc];exact take_left' (by rw[length_append,EW,vV,length_append,Nat.add_mul])
           rw[this];exact br.append BF zm (λ_ h=>.inl h) (λ_ h=>.inr h) (λc h1 af=>rG c (pD c h1) af)
          .rintro c (au|au)
           .exact .inl (pD c au)
           .exact .inr au
          .rintro(au|au)
           .exact kE au
           .exact rG b bV au
         .rw[m4];rintro c (au|au);exact a4 c au;exact fV c au
         .rintro c (au|au);exact a5 c au;exact bZ c au
         .rintro u c (au|au);exact jS u c au;exact c7 u c au
         .rintro c (au|au);exact pC c au;exact dC c au
        .exact grow (some ⟨b,0,none⟩) cap _ aY rfl (Nk (Bw cn _) (by rw[f2];exact br.zx e1 kh)) e1 kh pD uj
      .cases he
     .cases he
    .cases he
   .cases he
  .cases he
 .cases he
end
section
variable {C:cu} {w0 w aJ:World} {F0 X F:Nat->Prop} {S:Nat->Nat->Prop} {s s1:an} {aD:Nat->Value} {av:I}
theorem ca.aeX (h:ca w0 F0 X F S s aD w) {x:Nat} {q:aAf} {d bN:I} {b:Nat} (ao:I.sub q (s x)=some d) (aw:d.plain=false) (Nr:bN.tree=true) (h1:∀v,ke d v->ke bN v) (ae:∀v,eW d v->eW bN v)
  (af:∀vs,bN≠.tuple vs) (nt:bN.wd=d.wd) (ab:∀dI a gr,ew w q (s x) (cZ (aD x)) none=some (d,dI,a)->az w F d dI gr->gr b/\az aJ F bN dI gr) (p7:∀c,c≠b->aJ.heap[c]? =w.heap[c]?) (eX:aJ.heap.size=w.heap.size) (MZ:aJ.os=w.os)
  (M0:aJ.tape=w.tape) (zk:Out aJ w):∃aY,ca w0 F0 X F aY (eo (js x s) x (I.put q bN (s x))) aD aJ:=by
 have a6:=jF ao (.inl aw);have aq:=h.eg x;rw[aQ.dj a6]at aq;obtain⟨dI,a,fb,gr,g0,g1,g2,g3,g4,g5⟩:=ctx q (s x) (cZ (aD x)) (S x) none d aq.2 ao;obtain⟨zl,aB⟩:=ab dI a gr g0 g4;have zD:S x b:=g2 b zl;have uc:∀c,F c->aJ.heap[c]? =w.heap[c]? :=λc au=>p7 c (by rintro rfl;exact h.gl x _ zD au);have xK:∀c,fb c->c≠b:=λc au e=>g3 c au (e▸zl);have ln:az aJ F (I.put q bN (s x)) (cZ (aD x)) (λc=>fb c\/gr c):=by
  rcases g5 with⟨l,r,aK,aT,aU⟩|⟨lS,cur,e,fr,l,r,aK,aT,aU,b_,cY,cv⟩
  .rw[aK];exact aU aJ bN dI gr uc (λc au=>p7 c (xK c au)) nt aB (λc au mQ=>g3 c mQ au)
  .refine cv aJ bN dI gr uc (λc au _=>p7 c (xK c au)) ?_ nt aB (λc au mQ=>g3 c mQ au);rw[p7 lS (xK lS aT),aU,<-cY]
 have EA:eW (I.put q bN (s x)) (aD x)/\(I.put q bN (s x)).tree=true:=by
  cases q with
  |nil=>
   simp only[I.sub,some.injEq]at ao;simp only[I.put];exact⟨ae _ (ao▸aq.1),Nr⟩
  |cons k q=>
   refine⟨Ez aq.1 ao h1 (λ_=>af) nt,?_⟩;rcases xJ k q bN (s x)with⟨aG,gs,aK,e⟩|⟨aG,gs,aK,e⟩|⟨sz,xs,cq,aK,e⟩|⟨y,z,aK,e⟩|e<;>rw[e]<;>first|rfl|exact a6
 let aC:=eo (js x s) x (I.put q bN (s x))
 have iH:∀y,y≠x->(aC y).tree=true->aC y=s y/\aD y=aD y:=λy hy a6=>by
  have e:aC y=en.cU x (s y):=lp _ _ hy;rw[e]at a6⊢;exact⟨(IA a6).2,rfl⟩
 have fq:(aC x).plain=false->(s x).plain=false/\∀v,eW (s x) v->eW (aC x) v:=by
  intro _;refine⟨?_,λv aB=>?_⟩
  .cases bR:(s x).plain with
   |false=>rfl
   |true=>rw[I.MP _ _ _ bR ao]at aw;cases aw
  .simp only[aC,o0];cases q with
   |nil=>
    simp only[I.sub,some.injEq]at ao;simp only[I.put];exact ae _ (ao▸aB)
   |cons k q=>exact Ez aB ao h1 (λ_=>af) nt
 have both:∀c,(fb c\/gr c)->S x c:=λc au=>au.elim (g1 c) (g2 c);refine⟨g_ S x (λc=>fb c\/gr c),?_⟩;constructor;case hL=>exact h.hL
 case h9=>exact h.h9
 case fG=>exact λb ab=>by rw[eX];exact h.fG b ab
 case fc=>
  intro u c ab;rw[eX];simp only[g_]at ab;split at ab
  .exact h.fc x c (both c ab)
  .exact h.fc u c ab
 case gl=>
  intro u c ab;simp only[g_]at ab;split at ab
  .exact h.gl x c (both c ab)
  .exact h.gl u c ab
 case fT=>
  intro u y c dP ab hy;simp only[g_]at ab hy;split at ab
  .rename_i hu;rw[if_neg (λe=>dP (hu.trans e.symm))]at hy;exact h.fT x y c (λe=>dP (hu.trans e)) (both c ab) hy
  .rename_i hu;split at hy
   .exact h.fT u x c hu ab (both c hy)
   .exact h.fT u y c dP ab hy
 case eI=>
  intro u c ab;simp only[g_]at ab;split at ab
  .exact h.eI x c (both c ab)
  .exact h.eI u c ab
 case eg=>
  intro u;by_cases hu:u=x
  .subst hu;rw[o0,Ex];exact(aQ.dj EA.2).2 ⟨EA.1,ln⟩
  .rw[lp _ _ hu,Ey _ _ hu];have dP:∀y c,y≠x->S y c->aJ.heap[c]? =w.heap[c]? :=λy c hy au=>p7 c (by rintro rfl;exact h.fT y x c hy au zD);refine(aQ.cU iH rfl fq (λy gA d2 hy hr EB=>?_) uc _).1 _ _ _ (Nat.le_refl _) (λc au=>dP u c hu au) (h.eg u);have EC:=h.eg y;rw[aQ.dj (jF hr EB)]at EC;exact Iz gA _ _ _ none d2 EC.2 hr (λc au=>dP y c hy au)
 case old=>
  intro c eA me;rw[p7 c ?_]
  .exact h.old c eA me
  .rintro rfl;rcases h.eI x c zD with a7|a7
   .exact me a7
   .omega
 case size=>rw[eX];exact h.size
 case os=>exact MZ.trans h.os
 case tape=>exact M0.trans h.tape
 case output=>exact zk.trans h.output
 case fU=>exact h.fU
def Vo (P:Program) (t:TypeId):Bool:=match P.info? t with
 |some i=>match i.zero with
  |some (.bool false)=>true
  |_=>false
 |none=>false
def rH (C:cu) (T:TypeId):Bool:=match(C.T T).k with
 | .map sT mS=>match(C.T sT).k with
   | .str=>Vo C.P mS
   |_=>false
 |_=>false
def jU (C:cu) (s:an) (T:TypeId) (x i:I):Option I:=match x,i with
 | .h y q,.str k=>match I.sub q (s y)with
   |some (.ck (.mp m))=>if rH C T=true then some (.bool (kc k m))else none
   |_=>none
 |_,_=>none
def k6 (C:cu) (s:an) (T:TypeId) (x i v:I):Option an:=match x,i,v with
 | .h y q,.str k,.bool b=>match I.sub q (s y)with
   |some (.ck (.mp m))=>if rH C T=true then some (eo (js y s) y (I.put q (.ck (.mp (kx k b m))) (s y)))else none
   |_=>none
 |_,_,_=>none
theorem Vp (bU:C.Ok) {T:TypeId} (h:rH C T=true):∃sT mS,C.P.underlying T=some (.map sT mS)/\C.P.underlying sT=some .string/\∀w,(zeroValue mS).run C.P w= .ok (.bool false) w:=by
 unfold rH at h;split at h
 .rename_i sT mS hk;split at h
  .rename_i h1;obtain⟨i,d,z,aK,aT,aU,b_,cY,cv,cd⟩:=bU.info (hs hk (by simp));obtain⟨uf,bN,vN,f1,f2,f3,f4,f5,f6,f7⟩:=bU.info (hs h1 (by simp));rw[hk]at cd;rw[h1]at f7;have:=ue f7;subst this;refine⟨sT,mS,?_,f6,λw=>?_⟩
   .rw[cv];cases d<;>simp[oy]at cd;rw[cd.1,cd.2]
   .unfold Vo at h;split at h
    .rename_i i2 g1;split at h
     .rename_i g2;exact zn g1 g2 w
     .cases h
    .cases h
  .cases h
 .cases h
theorem Ns (a b:ByteArray):(a==b)=true↔a=b:=by
 constructor
 .intro h;exact ByteArray.ext (eq_of_beq (show(a.data==b.data)=true from h))
 .rintro rfl;show(a.data==a.data)=true;simp
theorem Nt (k:aAc) (b:Bool):∀(es:List MapEntry) (m:aAa) (i:Nat),es.map (λe=>(e.key,e.val))=m.map (λe=>(.string ⟨⟨e.1⟩⟩,.bool e.2))->
  (Instr.findNow .string (.string ⟨⟨k⟩⟩) es i=some none/\kc k m=false/\kx k b m=m++[(k,b)])\/
  ∃j e,es[j]? =some e/\e.key= .string ⟨⟨k⟩⟩/\Instr.findNow .string (.string ⟨⟨k⟩⟩) es i=some (some (i+j,.bool (kc k m)))/\kx k b m=m.set j (k,b)
 |[],m,i,h=>by
  have:m=[]:=by simpa using h.symm
  subst this;exact .inl ⟨rfl,rfl,rfl⟩
 |e::es,[],i,h=>by simp at h
 |e::es,(dr,gI)::m,i,h=>by
  simp only[map_cons,cons.injEq,Prod.mk.injEq]at h;obtain⟨⟨h1,af⟩,ay⟩:=h;by_cases hk:dr=k
  .subst hk;refine .inr ⟨0,e,rfl,h1,?_,by simp[kx]⟩;have:(((⟨⟨dr⟩⟩:ByteArray)==⟨⟨dr⟩⟩))=true:=(Ns _ _).2 rfl;simp only[Instr.findNow,h1,af,Instr.sameNow,kc,this,if_true,Nat.add_zero]
  .have aV:((⟨⟨k⟩⟩:ByteArray)==⟨⟨dr⟩⟩)=false:=by
    refine Bool.eq_false_iff.2 λe=>hk ?_;have:=(Ns _ _).1 e;simp only[ByteArray.mk.injEq,Array.mk.injEq]at this;exact this.symm
   rcases Nt k b es m (i+1) ay with⟨g1,g2,g3⟩|⟨j,fS,g1,g2,g3,g4⟩
   .refine .inl ⟨?_,?_,?_⟩
    .simp only[Instr.findNow,h1,Instr.sameNow,aV];exact g1
    .simp[kc,hk,g2]
    .simp[kx,hk,g3]
   .refine .inr ⟨j+1,fS,g1,g2,?_,?_⟩
    .simp only[Instr.findNow,h1,Instr.sameNow,aV];rw[g3];simp[kc,hk,Nat.add_assoc,Nat.add_comm 1 j]
    .simp[kx,hk,g4]
theorem I0 {P:Program} {sT:TypeId} (hk:P.underlying sT=some .string) (e:Bool) (k:ByteArray) (w:World):(Instr.checkKey e 10000 sT (.string k)).run P w= .ok () w:=by
 unfold Instr.checkKey;simp[run_underlying hk]
theorem Vq (h:ca w0 F0 X F S s aD w) {y:Nat} {q:aAf} {m:aAa} {v:Value} (aB:aQ w F s aD (.h y q) v (λ_=>False)) (ao:I.sub q (s y)=some (.ck (.mp m))):
  ∃r ms p5,v= .map (some r)/\w.heap[r]? =some (.map ms p5)/\ms.toList.map (λe=>(e.key,e.val))=m.map (λe=>(.string ⟨⟨e.1⟩⟩,.bool e.2))/\
   ∃a,ew w q (s y) (cZ (aD y)) none=some (.ck (.mp m),[.map (some r)],a):=by
 rw[aQ]at aB;obtain⟨dI,a,g1,g2,g3⟩:=aB _ ao rfl;have h1:Value.hq v=true:=g3;rw[h_ h1]at g2;have aq:=h.eg y;rw[aQ.dj (jF ao (.inl rfl))]at aq;obtain⟨gZ,dF,fb,gr,k0,bV,cn,dV,ea,eC⟩:=ctx q (s y) (cZ (aD y)) (S y) none _ aq.2 ao;rw[k0]at g1;simp only[some.injEq,Prod.mk.injEq,true_and]at g1;obtain⟨rfl,rfl⟩:=g1;rw[az]at ea;obtain⟨r,ms,p5,aK,aT,aU,b_⟩:=ea;rw[aK]at g2 k0;exact⟨r,ms,p5,by simpa using g2,aU,b_,dF,k0⟩
theorem aeY (bU:C.Ok) (h:ca w0 F0 X F S s aD w) {T:TypeId} {x i:I} {kC ry:Value} (aq:aQ w F s aD x kC (λ_=>False)) (aj:aQ w F s aD i ry (λ_=>False)) (he:jU C s T x i=some av):
  Good C w0 F0 X aD w (Instr.lookup T kC ry false) av s:=by
 unfold jU at he;split at he
 .rename_i y q k;split at he
  .rename_i m ao;split at he
   .rename_i kP;simp only[some.injEq]at he;subst he;obtain⟨sT,mS,t1,t2,t3⟩:=Vp bU kP;obtain⟨r,ms,p5,rfl,aT,aU,_⟩:=Vq h aq ao;have:=pz aj;subst this;refine Good.same h (v:=.bool (kc k m)) ?_ rfl (of_bool _);rcases Nt k true ms.toList m 0 aU with⟨g1,g2,_⟩|⟨j,e,_,_,g1,_⟩
    .simp[Instr.lookup,run_underlying t1,getObj,Sem.run,aT,I0 t2,Instr.findKey,run_underlying t2,g1,t3,g2]
    .simp[Instr.lookup,run_underlying t1,getObj,Sem.run,aT,I0 t2,Instr.findKey,run_underlying t2,g1]
   .cases he
  .cases he
 .cases he
theorem aeZ (bU:C.Ok) (h:ca w0 F0 X F S s aD w) {T:TypeId} {x i v:I} {kC ry Vr:Value} (aq:aQ w F s aD x kC (λ_=>False)) (aj:aQ w F s aD i ry (λ_=>False)) (aB:aQ w F s aD v Vr (λ_=>False)) {s2:an}
  (he:k6 C s T x i v=some s2):∃aJ aY,(Instr.mapUpdate T kC ry Vr).run C.P w= .ok () aJ/\ca w0 F0 X F aY s2 aD aJ:=by
 unfold k6 at he;split at he
 .rename_i y q k b;split at he
  .rename_i m ao;split at he
   .rename_i kP;simp only[some.injEq]at he;subst he;obtain⟨sT,mS,t1,t2,t3⟩:=Vp bU kP;obtain⟨r,ms,p5,rfl,aT,aU,a0,nv⟩:=Vq h aq ao;have:=pz aj;subst this;have:=xM aB;subst this;have key:∀(I1:Array MapEntry) (Nu:Nat),I1.toList.map (λe=>(e.key,e.val))=(kx k b m).map (λe=>(.string ⟨⟨e.1⟩⟩,.bool e.2))->
      ∃aY,ca w0 F0 X F aY (eo (js y s) y (I.put q (.ck (.mp (kx k b m))) (s y))) aD {w with heap:=w.heap.setIfInBounds r (.map I1 Nu)}:=by
     intro I1 Nu hm;have aR:r<w.heap.size:=(Array.getElem?_eq_some_iff.1 aT).1;refine ca.aeX (b:=r) h ao rfl rfl (λv aB=>aB) (λv aB=>aB) (λvs e=>by cases e) rfl ?_ (λc au=>?_) (by simp) rfl rfl ⟨rfl,λ_=>Nat.le_refl _⟩
     .intro dI a gr bI hb;rw[nv]at bI;simp only[some.injEq,Prod.mk.injEq,true_and]at bI;obtain⟨rfl,_⟩:=bI;rw[az]at hb⊢;obtain⟨jf,xS,ax7,f1,f2,f3,f4⟩:=hb;simp only[cons.injEq,Value.map.injEq,some.injEq,and_true]at f1;subst f1;exact⟨f2,r,I1,Nu,rfl,f2,by simp[aR],hm⟩
     .simp[Ne.symm au]
    rcases Nt k b ms.toList m 0 aU with⟨g1,_,g2⟩|⟨j,e,g0,ge,g1,g2⟩
    .obtain⟨aY,bV⟩:=key (ms.push {key:=.string ⟨⟨k⟩⟩,val:=.bool b,born:=p5}) (p5+1) (by rw[g2];simp[aU]);exact⟨_,aY,by simp[Instr.mapUpdate,run_underlying t1,getObj,setObj,Sem.run,aT,I0 t2,Instr.findKey,run_underlying t2,g1],bV⟩
    .rw[Nat.zero_add]at g1;obtain⟨aY,bV⟩:=key (ms.modify j λe=>{e with key:=.string ⟨⟨k⟩⟩,val:=.bool b}) p5 (by
      rw[g2,map_set,<-aU];apply ext_getElem?;intro n;by_cases aV:n=j
      .subst aV;have:n<ms.toList.length:=(List.getElem?_eq_some_iff.1 g0).1;rw[getElem?_set_self (by simpa using this)];simp[g0]
      .simp[getElem?_set_ne (Ne.symm aV),Ne.symm aV])
     have ae0:ms[j]? =some e:=by simpa using g0
     exact⟨_,aY,by simp[Instr.mapUpdate,run_underlying t1,getObj,setObj,Sem.run,aT,I0 t2,Instr.findKey,run_underlying t2,g1,ae0,ge,Instr.keyThatStays,Instr.sameBits,(Ns ⟨⟨k⟩⟩ ⟨⟨k⟩⟩).2 rfl],bV⟩
   .cases he
  .cases he
 .cases he
theorem ae1 (h:ca w0 F0 X F S s aD w) (t:TypeId):Good C w0 F0 X aD w (Instr.makeMap t none) (.ck (.mp [])) s:=by
 have hold:∀b,b<w.heap.size->(w.alloc (.map #[] 0)).heap[b]? =w.heap[b]? :=by
  intro b ab;show(w.heap.push _)[b]? =_;rw[Array.getElem?_push,if_neg (by omega)]
 refine⟨.map (some w.heap.size),w.alloc (.map #[] 0),F,S,?_,h.grow hold (by simp) rfl rfl ⟨rfl,λ_=>Nat.le_refl _⟩,.inr ⟨rfl,rfl,λb=>b=w.heap.size,?_,?_,?_,?_,?_⟩⟩
 .simp[Instr.makeMap,newObj,Sem.run]
 .rw[az];refine⟨w.heap.size,#[],0,rfl,rfl,?_,rfl⟩;show(w.heap.push _)[_]? =_;simp
 .rintro b rfl;simp
 .rintro b rfl vP;exact Nat.lt_irrefl _ (h.fG _ vP)
 .rintro u b rfl hu;exact Nat.lt_irrefl _ (h.fc _ _ hu)
 .rintro b rfl;exact .inr h.size
end
end Go.en
