/- Part of a proof that a law returns true for every input. No condition. -/
import Derived.Test.YtpdplcdnpaoceaaFwH
import Derived.Laws.Externs
import Derived.Lib.Bytealg
namespace Go.cM
open List Option Go.IntKind Nat Or
theorem bb.wide {C:bA} {f:FuncId} {as:Xy} {r e0:I} {outs:Xy} (h:bb C f as r outs) (hw:dI r e0) (aN:r.tree=true) (bG:I.cV outs=[]):bb C f as e0 outs:=by
 intro w F X S vs hl aI;refine kT.mono (h w F X S vs hl aI) ?_;rintro v az ⟨bo,aF,bj⟩;have wR:∀(k:Nat) (l:Xy),I.cV ((num k l).map (·.2))=I.cV l:=by
  intro k l;induction l generalizing k with
  |nil=>rfl
  |cons a l ih=>simp only[num,map_cons,I.cV,ih]
 have pB:∀(k:Nat) (l:Xy) (p:Nat×I),p∈num k l->∃i,l[i]? =some p.2/\p.1=k+i:=by
  intro k l;induction l generalizing k with
  |nil=>intro p ao;cases ao
  |cons a l ih=>
   intro p ao;rcases mem_cons.1 ao with rfl|ao
   .exact⟨0,rfl,rfl⟩
   .obtain⟨i,ab,ad⟩:=ih (k+1) p ao;exact⟨i+1,by simpa using ab,by omega⟩
 have wh:I.cV (e0::outs)=[]:=by
  have:e0.tree=true:=hw.tree aN;simp[I.cV,zP this,bG]
 have NQ:rW (ez (r::outs)) (num 0 (e0::outs)):=by
  intro p ao;obtain⟨i,ab,ad⟩:=pB 0 _ p ao;have aE:p.1=i:=by omega
  cases i with
  |zero=>
   simp at ab;right;rw[aE,<-ab];refine⟨aN,hw,?_⟩;intro b0 c_;refine .inl λhm=>?_;have:b0.2.aa=[]:=by
    have key:∀(as:Xy) (a:I),a∈as->I.cV as=[]->a.aa=[]:=by
     intro as;induction as with
     |nil=>intro a h;cases h
     |cons b as ih=>
      intro a h he;simp only[I.cV,append_eq_nil_iff]at he;rcases mem_cons.1 h with rfl|h
      .exact he.1
      .exact ih a h he.2
    obtain⟨j,aO,_⟩:=pB 0 _ b0 c_;exact key _ _ (mem_of_getElem? aO) wh
   rw[this]at hm;cases hm
  |succ i=>
   left;rw[aE];simp only[ez,List.getD];simp at ab;simp[ab]
 obtain⟨jB,S2,ad⟩:=bj.Fa NQ;refine⟨jB,S2,?_⟩;rw[wF];exact ad
section
variable {C:bA} {l:Xx} {os:List bW} {K:Option (List ee)->ah->Prop} {dst:Option Nat}
def oz (s:ah):List bZ->Prop
 |[]=>True
 |p::ps=>p.ok s/\oz s ps
theorem AF {s:ah}:∀{ps:List bZ},oz s ps->∀p∈ps,p.ok s
 |p::ps,h,q,cx=>by
  rcases mem_cons.1 cx with rfl|cx
  .exact h.1
  .exact AF h.2 q cx
def pC:List bZ->Bool
 |[]=>true
 |p::ps=>p.o.cr&&pC ps
theorem AG:∀{ps:List bZ},pC ps=true->∀p∈ps,p.o.cr=true
 |p::ps,h,q,cx=>by
  simp only[pC,Bool.and_eq_true]at h;rcases mem_cons.1 cx with rfl|cx
  .exact h.1
  .exact AG h.2 q cx
theorem NR {f:aX} {args:List aX} {g:FuncId} {caps:Xy} {K:Xt->I->ah->Prop} (ps:List bZ) (r:I)
  (ab:a6 (au l) f= .fn g caps) (fl:I.dz caps=true) (ad:ps.map (·.a)=h4 (au l) args++caps) (aB:oz (au l) ps) (aY:gR ps=true)
  (bn:bb C g (ps.map (·.d)) r (ps.map (·.o))) (cb:r.res=true) (cc:ie ps=false\/(r.cr&&pC ps)=true) (hK:K (oy ps) r (fP (dH (au l) ps) ps)):lh C (au l) (.call f args) K:=by
 refine⟨g,caps,ps,r,ab,fl,by rw[ad,uo],AF aB,aY,bn,cb,?_,hK⟩;intro hl;rcases cc with cc|cc
 .rw[cc]at hl;cases hl
 .rw[Bool.and_eq_true]at cc;exact⟨cc.1,AG cc.2⟩
theorem NS {f:aX} {args:List aX} {g:FuncId} {caps:Xy} {K:Xt->I->ah->Prop} {us:Xt} (ps:List bZ) (r:I) (an:jC (au l) (hD (au l) us)=true)
  (ab:a6 (au l) f= .fn g caps) (fl:I.dz caps=true) (ad:ps.map (·.a)=h4 (au l) args++caps) (aB:oz (au l) ps) (aY:gR ps=true)
  (bn:bb C g (ps.map (·.d)) r (ps.map (·.o))) (cb:r.res=true) (cc:ie ps=false\/(r.cr&&pC ps)=true)
  (hK:jC (fP (dH (au l) ps) ps) (hD (au l) us)=true/\K (us++oy ps) r (kU (fP (dH (au l) ps) ps) (hD (au l) us))):lh C (au l) (.jy f args us) K:=by
 refine⟨an,g,caps,ps,r,ab,fl,by rw[ad,uo],AF aB,aY,bn,cb,?_,hK⟩;intro hl;rcases cc with cc|cc
 .rw[cc]at hl;cases hl
 .rw[Bool.and_eq_true]at cc;exact⟨cc.1,AG cc.2⟩
theorem NT {f:aX} {args:List aX} {g:FuncId} {caps:Xy} {r:I} {us:Xt} (ps:List bZ) (bn:bb C g (ps.map (·.d)) r (ps.map (·.o)))
  (ab:a6 (au l) f= .fn g caps) (fl:I.dz caps=true) (ad:ps.map (·.a)=h4 (au l) args++caps) (aB:oz (au l) ps) (aY:gR ps=true)
  (cb:r.res=true) (cc:ie ps=false\/(r.cr&&pC ps)=true) (an:jC (au l) (hD (au l) us)=true)
  (hK:jC (fP (dH (au l) ps) ps) (hD (au l) us)=true/\cw C (fin (kU (fP (dH (au l) ps) ps) (hD (au l) us)) dst r) os none K):cw C (au l) (⟨dst,.jy f args us,none⟩::os) none K:=by
 simp only[cw,ks,nA];exact NS ps r an ab fl ad aB aY bn cb cc hK
theorem GI (s:ah):hD s []=[]/\(∀u us,hD s (u::us)=(u,s u)::hD s us)/\jC s []=true/\(∀p L,jC s (p::L)=(p.2.ed s&&jC s L))/\kU s []=s/\(∀p L,kU s (p::L)=kU (cl s p.1 p.2) L)/\
  (∀x,I.ed s (.h x [])=(s x).own)/\(∀x k,I.ed s (.U x k)= !(s x).plain)/\(∀f c,I.ed s (.fn f c)=I.lZ s c)/\I.lZ s []=true/\(∀d ds,I.lZ s (d::ds)=(d.ed s&&I.lZ s ds))/\
  (∀k n,I.ed s (.int k n)=true)/\(∀b,I.ed s (.bool b)=true)/\(∀x,I.ed s (.str x)=true)/\(∀x,I.ed s (.slice x)=true)/\(∀x,I.ed s (.ref x)=true)/\I.ed s .a5=true/\I.ed s .cJ=true/\(∀ar,I.ed s (.agg ar)=I.dz ar):=
 ⟨rfl,λ_ _=>rfl,rfl,λ_ _=>rfl,rfl,λ_ _=>rfl,λ_=>rfl,λ_ _=>rfl,λ_ _=>rfl,rfl,λ_ _=>rfl,λ_ _=>rfl,λ_=>rfl,λ_=>rfl,λ_=>rfl,λ_=>rfl,rfl,rfl,λ_=>rfl⟩
theorem oA {f:aX} {args:List aX} {g:FuncId} {caps:Xy} {r:I} (ps:List bZ) (bn:bb C g (ps.map (·.d)) r (ps.map (·.o)))
  (ab:a6 (au l) f= .fn g caps) (fl:I.dz caps=true) (ad:ps.map (·.a)=h4 (au l) args++caps) (aB:oz (au l) ps) (aY:gR ps=true)
  (cb:r.res=true) (cc:ie ps=false\/(r.cr&&pC ps)=true)
  (hK:cw C (fin (fP (dH (au l) ps) ps) dst r) os none K):cw C (au l) (⟨dst,.call f args,none⟩::os) none K:=by
 simp only[cw,ks,nA];exact NR ps r ab fl ad aB aY bn cb cc hK
theorem pD (s:ah):oz s []=True/\(∀p ps,oz s (p::ps)=(p.ok s/\oz s ps))/\(∀a d o,bZ.ok s ⟨a,false,d,o⟩=(view s a=some d))/\
  (∀x q d o,bZ.ok s ⟨.h x q,true,d,o⟩=(I.sub q (s x)=some d/\d.eW=true/\(o= .hole\/(o.eW=true/\pj d o=true)))):=by
 refine⟨rfl,λ_ _=>rfl,λ_ _ _=>?_,λ_ _ _ _=>?_⟩<;>simp[bZ.ok]
theorem nD:(∀d,I.own (.bh d)=true)/\(∀n xs,I.own (.aw n xs)=true)/\(∀d,I.eW (.bh d)=true)/\(∀n xs,I.eW (.aw n xs)=true)/\(∀ar,I.eW (.agg ar)= !I.dz ar)/\
  (∀d e,pj (.bh d) (.bh e)=true)/\(∀n xs m bT,pj (.aw n xs) (.aw m bT)=true)/\(∀a b,pj (.agg a) (.agg b)=(I.c3 a==I.c3 b)):=⟨λ_=>rfl,λ_ _=>rfl,λ_=>rfl,λ_ _=>rfl,λ_=>rfl,λ_ _=>rfl,λ_ _ _ _=>rfl,λ_ _=>rfl⟩
theorem mP (s:ah):dH s []=s/\fP s []=s/\(∀p ps,dH s (p::ps)=dH (bZ.take s p) ps)/\(∀p ps,fP s (p::ps)=fP (bZ.g8 s p) ps)/\
  (∀a d o,bZ.take s ⟨a,false,d,o⟩=s)/\(∀a d o,bZ.g8 s ⟨a,false,d,o⟩=s)/\(∀x q d o,bZ.take s ⟨.h x q,true,d,o⟩=cl (ft x s) x (I.put q d.cj (s x)))/\
  (∀a d,bZ.g8 s ⟨a,true,d,.hole⟩=s)/\(∀x q d e,bZ.g8 s ⟨.h x q,true,d,.bh e⟩=cl (jR x s) x (I.put q (.bh e) (s x)))/\
  (∀x q d n xs,bZ.g8 s ⟨.h x q,true,d,.aw n xs⟩=cl (jR x s) x (I.put q (.aw n xs) (s x)))/\
  (∀x q d ar,bZ.g8 s ⟨.h x q,true,d,.agg ar⟩=cl (jR x s) x (I.put q (.agg ar) (s x))):=by
 refine⟨rfl,rfl,λ_ _=>rfl,λ_ _=>rfl,?_,?_,?_,?_,?_,?_,?_⟩<;>intros<;>simp[bZ.take,bZ.g8]
def pE (s:ah) (fx rs:Xt):Nat->Xy->Bool->Prop
 |_,[],_=>True
 |k,o::r,b=>(o= .hole\/(o=s k/\o.eW=true/\fx.contains k=true/\rs.contains k=false))/\pE s fx rs (k+1) r b
theorem qO {s:ah} {fx:Xt} {dr:List ResultVar} {outs:Xy} (h:pE s fx (dr.map hE) 0 outs true):∀(i:Nat) (o:I),outs[i]? =some o->o= .hole\/(o=s i/\o.eW=true/\i∈fx/\i∉dr.map hE):=by
 have key:∀(outs:Xy) (k:Nat),pE s fx (dr.map hE) k outs true->∀(i:Nat) (o:I),outs[i]? =some o->o= .hole\/(o=s (k+i)/\o.eW=true/\k+i∈fx/\k+i∉dr.map hE):=by
  intro outs;induction outs with
  |nil=>intro k _ i o h;simp at h
  |cons a outs ih=>
   intro k h i o bG;cases i with
   |zero=>
    simp at bG;subst bG;rcases h.1 with h|⟨ab,ad,aB,aY⟩
    .exact .inl h
    .exact .inr ⟨ab,ad,by simpa using aB,by simpa using aY⟩
   |succ i=>
    have:=ih (k+1) h.2 i o (by simpa using bG);rw[show k+(i+1)=k+1+i by omega];exact this
 intro i o bG;have:=key outs 0 h i o bG;simpa using this
theorem oB {s:ah} {fx rs:Xt} {k:Nat} {l:Xy} (h:pE s fx rs (k+1) l true):pE s fx rs k (.hole::l) true:=⟨.inl rfl,h⟩
theorem uv {s:ah} {fx rs:Xt} {k:Nat} {o:I} {l:Xy} (ab:o=s k) (ad:o.eW=true) (aB:fx.contains k=true) (aY:rs.contains k=false) (h:pE s fx rs (k+1) l true):pE s fx rs k (o::l) true:=⟨.inr ⟨ab,ad,aB,aY⟩,h⟩
theorem qP {s:ah} {fx rs:Xt} {k:Nat}:pE s fx rs k [] true:=trivial
def I.NU:I->Bool
 | .tuple _=>true
 | .cS _=>true
 | .er _ _=>true
 |_=>false
theorem wS {d e:I} (aN:d.tree=true) (aU:d.NU=false) (h:d.share=e):dI d e:=by
 subst h;exact .share d aN (λvs e=>by subst e;cases aU) (λo e=>by subst e;cases aU) (λ_ _ e=>by subst e;cases aU)
def AH {α:Type} (f:α->I):Option α->I
 |none=>.a5
 |some x=>f x
theorem NV {α β:Type} {o:Option α} {a:Option β} {f:α->Option β} {r:β} (h:Option.elim o a f=some r):(o=none/\a=some r)\/∃y,o=some y/\f y=some r:=by
 cases o with
 |none=>exact .inl ⟨rfl,h⟩
 |some y=>exact .inr ⟨y,rfl,h⟩
theorem nE:(∀neg e r,py neg (.slice e) (some r)=some (mB neg r))/\(∀neg,mB neg none= .dR)/\mB false (some false)= .bool false/\mB true (some false)= .bool true/\mB false (some true)= .bool true/\mB true (some true)= .bool false/\(∀s,h1 s .a5=some (some true)):=
 ⟨λ_ _ _=>rfl,λ_=>rfl,rfl,rfl,rfl,rfl,λ_=>rfl⟩
theorem GJ {α:Type} {xs:List α} (h:xs.isEmpty=true) (e:α->I) (s:ah):h1 s (.slice (xs.map e))=some none:=by
 have:xs=[]:=isEmpty_iff.1 h;subst this;rfl
theorem GK {α:Type} {xs:List α} (h:xs.isEmpty=false) (e:α->I) (s:ah):h1 s (.slice (xs.map e))=some (some false):=by
 cases xs with
 |nil=>cases h
 |cons x xs=>rfl
def AJ:Option I->Option Xu
 |some (.aw _ xs)=>some (if xs=[]then none else some false)
 |_=>none
theorem pF (s:ah) (x:Nat) (q:Xt):h1 s (.h x q)=AJ (I.sub q (s x)):=by
 simp only[h1];rfl
theorem GL {α:Type} {xs:List α} (h:xs.isEmpty=true) (e:α->I) (n:Nat):AJ (some (.aw n (xs.map e)))=some none:=by
 have:xs=[]:=isEmpty_iff.1 h;subst this;rfl
theorem GM {α:Type} {xs:List α} (h:xs.isEmpty=false) (e:α->I) (n:Nat):AJ (some (.aw n (xs.map e)))=some (some false):=by
 cases xs with
 |nil=>cases h
 |cons x xs=>rfl
theorem bb.nil {C:bA} {f:FuncId} {args:Xy} {r:I} {outs:Xy} (i:Nat) (h:bb C f (args.set i (.slice [])) r outs) (aE:args[i]? =some .a5):bb C f args r outs:=by
 intro w F X S vs hl aI;have g9:=aI.cE i;have aa:ez args i= .a5:=by simp[ez,List.getD,aE]
 rw[aa]at g9;have aD:aA w F (ez args) (fA vs) (.slice []) (fA vs i) (λ_=>False):=by
  rw[aA.bY rfl]at g9⊢;refine⟨g9.1,?_⟩;have ad:=g9.2;simp only[al]at ad⊢;exact .inl ⟨trivial,none,0,ad,zero_le _,λ_=>rfl⟩
 have ad:=aI.tj (t:=i) rfl aD;have aM:cl (ez args) i (.slice [])=ez (args.set i (.slice [])):=by
  funext t;have c8:i<args.length:=(List.getElem?_eq_some_iff.1 aE).1;by_cases aN:t=i
  .subst aN;simp[cl,ez,List.getD,c8]
  .have:i≠t:=λe=>aN e.symm;simp[cl,aN,ez,List.getD,this]
 have aS:cl (fA vs) i (fA vs i)=fA vs:=by
  funext t;by_cases aN:t=i
  .subst aN;simp[cl]
  .simp[cl,aN]
 rw[aM,aS]at ad;exact h w F X _ vs (by simpa using hl) ad
theorem NW (a b:Xy):I.shares (a++b)=I.shares a++I.shares b:=by simp only[I.o5,map_append]
def kY:Option (I×ah)->Option (I×ah)
 |some (av,s)=>if(av.tree&& !av.ug)=true then some (av.share,s)else none
 |none=>none
theorem NX (s:ah):(∀n xs,kY (some (.aw n xs,s))=some (.slice (I.shares xs),s))/\(∀d,kY (some (.bh d,s))=some (.ref d.share,s))/\(∀ds,kY (some (.agg ds,s))=some (.agg (I.shares ds),s)):=
 ⟨λ_ _=>rfl,λ_=>rfl,λ_=>rfl⟩
theorem wT {s:ah} {a9:cU} {K:Xt->I->ah->Prop}:lh C s (.shr a9) K=(match kY (bp C s a9)with
  |some (av,s1)=>K (kq s a9) av s1
  |none=>False):=by
 apply propext;cases he:bp C s a9 with
 |none=>
  simp only[kY];exact⟨λ⟨av,s1,ab,_⟩=>(by rw[he]at ab;cases ab),λh=>h.elim⟩
 |some p=>
  obtain⟨av,s1⟩:=p;simp only[kY];by_cases aN:(av.tree&& !av.ug)=true
  .rw[if_pos aN];simp only[Bool.and_eq_true,Bool.not_eq_true']at aN;constructor
   .rintro⟨NY,NZ,ab,ad,aB,aY⟩;rw[he]at ab;simp only[some.injEq,Prod.mk.injEq]at ab;obtain⟨rfl,rfl⟩:=ab;exact aY
   .intro h;exact⟨av,s1,he,aN.1,λvs e=>by subst e;simp[I.ug]at aN,h⟩
  .rw[if_neg aN];constructor
   .rintro⟨NY,NZ,ab,ad,aB,aY⟩;rw[he]at ab;simp only[some.injEq,Prod.mk.injEq]at ab;obtain⟨rfl,rfl⟩:=ab;refine aN ?_;rw[ad];cases av<;>first|rfl|exact(aB _ rfl).elim
   .intro h;exact h.elim
theorem N0 (s:ah) (d:I):jm s (some d)=some (d,s):=rfl
theorem N1 (a9:cU):(cw C (au l) (⟨dst,.shr a9,none⟩::os) none K=pw C dst os K (kY (bp C (au l) a9)))/\
  (∀a,cw C (au l) (⟨dst,.shr a9,none⟩::os) (some a) K=qF C l (use (au l) a9) (kq (au l) a9) dst os a K (kY (bp C (au l) a9)))/\
  (∀t b,iU C l dst (.shr a9) t b os none K (.bool b)=pw C dst os K (kY (bp C (au l) a9)))/\
  (∀a t b,iU C l dst (.shr a9) t b os (some a) K (.bool b)=qF C l (t::use (au l) a9) (kq (au l) a9) dst os a K (kY (bp C (au l) a9))):=by
 refine⟨?_,λa=>?_,λt b=>?_,λa t b=>?_⟩
 .simp only[cw,ks,wT];cases kY (bp C (au l) a9)with
  |none=>rfl
  |some p=>rfl
 .simp only[cw,ks,wT];cases kY (bp C (au l) a9)with
  |none=>rfl
  |some p=>rfl
 .simp only[iU,if_true,wT];cases kY (bp C (au l) a9)with
  |none=>rfl
  |some p=>rfl
 .simp only[iU,if_true,wT];cases kY (bp C (au l) a9)with
  |none=>rfl
  |some p=>rfl
def r6 (C:bA) (s:ah):kI->Option (I×ah)
 | .slice e=>if(C.T e).ok=true then some (.a5,s)else none
 |_=>none
def nF (C:bA) (s:ah) (y:Nat) (q:Xt) (b:Int):kI->Option I->Option (I×ah)
 | .slice e,some (.aw sz xs)=>(match fF xs 0 b with
   |some t=>if(C.T e).ok=true then(match b9 s (.h y q)with|some (_,s1)=>some (.aw sz t,s1)|none=>none)else none
   |none=>none)
 |_,_=>none
theorem uw (C:bA) (s:ah) (T:TypeId) (y:Nat) (q:Xt):(∀k b,eb C s T (.h y q) none (some (.int k b))=nF C s y q b (C.T T).k (I.sub q (s y)))/\
  (∀k b cH,eb C s T (.h y q) (some (.int cH 0)) (some (.int k b))=nF C s y q b (C.T T).k (I.sub q (s y)))/\
  (∀e sz xs b t,fF xs 0 b=some t->nF C s y q b (.slice e) (some (.aw sz xs))=if(C.T e).ok=true then(match b9 s (.h y q)with|some (_,s1)=>some (.aw sz t,s1)|none=>none)else none):=by
 have key:∀(c9:Option I) (k:IntKind) (b:Int),gv 0 c9=some 0->eb C s T (.h y q) c9 (some (.int k b))=nF C s y q b (C.T T).k (I.sub q (s y)):=by
  intro c9 k b ba;simp only[eb];generalize (C.T T).k=ia;cases ia<;>first|rfl|skip
  rename_i e;cases aa:I.sub q (s y)with
  |none=>simp only[aa];rfl
  |some d=>
   cases d with
   |aw sz xs=>
    have N2:gv xs.length (some (.int k b))=if 0<=b then some b.toNat else none:=rfl;simp only[aa,ba,N2,nF,fF];by_cases U:0<=b
    .by_cases aj:b<=xs.length
     .have ab:b.toNat<=xs.length:=by omega
      simp only[U,aj,ab,if_true,true_and,Int.le_refl,and_self,Int.toNat_zero,drop_zero];rfl
     .have ab:¬b.toNat<=xs.length:=by omega
      simp only[U,aj,ab,if_true,if_false,and_false,false_and,Int.le_refl]
    .simp only[U,if_false,false_and,and_false]
   |_=>simp only[aa];rfl
 refine⟨λk b=>key _ _ _ rfl,λk b cH=>key _ _ _ (by simp[gv]),λe sz xs b t h=>?_⟩;simp only[nF,h]
def AK (s:ah) (y:Nat):I->Option (I×ah)
 | .agg ds=>if I.dz ds then none else some (.U y 0,s)
 |_=>none
theorem GN (C:bA) (s:ah) (T e:TypeId) (x:aX) (ai:(C.T T).k= .slice e) (an:a6 s x= .a5):bp C s (.cap T x)=some (.int .i64 0,s):=by
 simp only[bp,ai,an]
theorem GO (T:TypeId) (x:aX):(cw C (au l) (⟨dst,.cap T x,none⟩::os) none K=pw C dst os K (bp C (au l) (.cap T x)))/\
  (∀a,cw C (au l) (⟨dst,.cap T x,none⟩::os) (some a) K=qF C l (use (au l) (.cap T x)) (kq (au l) (.cap T x)) dst os a K (bp C (au l) (.cap T x))):=
 ⟨wL rfl,λ_=>Ap rfl⟩
theorem N3 (C:bA) (s:ah) (e:TypeId):r6 C s (.slice e)=if(C.T e).ok=true then some (.a5,s)else none:=rfl
theorem mQ {C:bA} {l:Xx} {os:List bW} {K:Option (List ee)->ah->Prop} {dst:Option Nat} (T:TypeId) (x:aX):
  cw C (au l) (⟨dst,.h0 T x,none⟩::os) none K=pw C dst os K (h0 (au l) (a6 (au l) x)):=wL rfl
theorem mR:(∀(t x k:Nat),nb t (.U x k)= .U x k)/\(∀(l:Xx) (t x k:Nat),fin (au l) (some t) (.U x k)=au ((t,.U x k)::l))/\(∀x k:Nat,I.plain (.U x k)=true)/\
  (∀(s:ah) (x k:Nat),wM s (.U x k)=some (.U x k,s))/\(∀(t y k:Nat),b8 t (.U y k)=if y=t then .hole else .U y k)/\(∀(t y k:Nat),bH t (.U y k)= .U y k)/\(∀x k:Nat,I.wd (.U x k)=1):=
 ⟨λ_ _ _=>rfl,λl t x k=>by simp only[fin,I.plain,if_true,uf],λ_ _=>rfl,λ_ _ _=>rfl,λ_ _ _=>by simp only[b8],λ_ _ _=>by simp only[bH],λ_ _=>rfl⟩
theorem mS:(∀(s:ah) y,h0 s (.h y [])=AK s y (s y))/\(∀(s:ah) y ar,AK s y (.agg ar)=if I.dz ar then none else some (.U y 0,s))/\
  (∀k i ds d,vJ (d::ds) i k=if k=0 then some i else if d.wd<=k then vJ ds (i+1) (k-d.wd)else none):=
 ⟨λs y=>by simp only[h0,AK];cases s y<;>rfl,λ_ _ _=>rfl,λ_ _ _ _=>rfl⟩
theorem N4 (C:bA) (s:ah) (T:TypeId):eb C s T .a5 none none=r6 C s (C.T T).k/\(∀k,eb C s T .a5 none (some (.int k 0))=r6 C s (C.T T).k)/\(∀k,eb C s T .a5 (some (.int k 0)) none=r6 C s (C.T T).k)/\
  (∀k cH,eb C s T .a5 (some (.int k 0)) (some (.int cH 0))=r6 C s (C.T T).k)/\(∀e,r6 C s (.slice e)=if(C.T e).ok=true then some (.a5,s)else none):=by
 refine⟨?_,λk=>?_,λk=>?_,λk cH=>?_,λ_=>rfl⟩<;>(simp only[eb];generalize (C.T T).k=ia;cases ia<;>rfl)
theorem N5 (T bC:TypeId) (x y:aX):(cw C (au l) (⟨dst,.hJ T bC x y,none⟩::os) none K=pw C dst os K (jm (au l) (hJ C T bC (a6 (au l) x) (a6 (au l) y))))/\
  (∀a,cw C (au l) (⟨dst,.hJ T bC x y,none⟩::os) (some a) K=qF C l (use (au l) (.hJ T bC x y)) (kq (au l) (.hJ T bC x y)) dst os a K (jm (au l) (hJ C T bC (a6 (au l) x) (a6 (au l) y)))):=by
 have e:bp C (au l) (.hJ T bC x y)=jm (au l) (hJ C T bC (a6 (au l) x) (a6 (au l) y)):=by simp only[bp,FN]
 exact⟨(wL rfl).trans (by rw[e]),λa=>(Ap rfl).trans (by rw[e])⟩
theorem ux {α:Type} {l:List α} {i:Nat} {x:α} (h:l[i]? =some x) (u:α->I) (a:I):((l.map u).set i a)[i]? =some a:=by
 have:i<l.length:=(List.getElem?_eq_some_iff.1 h).1;rw[getElem?_set_self (by simpa using this)]
theorem uy {α:Type} (l:List α) (u:α->I) (i:Nat) (a b:I):((l.map u).set i a).set i b=(l.map u).set i b:=set_set ..
theorem N6 {α:Type} (xs:List α):fF xs 0 0=some []:=by unfold fF;rw[if_pos ⟨Int.le_refl _,by omega⟩];rfl
end
end Go.cM
