/- Part of a proof that a law returns true for every input. No condition. -/
import Derived.Test.YtndfcecbamffaaaGreatFwH
import Derived.Laws.Externs
import Derived.Lib.Bytealg
namespace Go.c3
open List Option Go.IntKind Nat Or
theorem bk.wide {C:bH} {f:FuncId} {as:afh} {r gz:I} {outs:afh} (h:bk C f as r outs) (hw:ev r gz) (aP:r.tree=true) (bO:I.du outs=[]):bk C f as gz outs:=by
 intro w F X S vs hl aR;refine mu.mono (h w F X S vs hl aR) ?_;rintro v aB ⟨bC,aO,bB⟩;have Am:∀(k:Nat) (l:afh),I.du ((num k l).map (·.2))=I.du l:=by
  intro k l;induction l generalizing k with
  |nil=>rfl
  |cons a l ih=>simp only[num,map_cons,I.du,ih]
 have pW:∀(k:Nat) (l:afh) (p:Nat×I),p∈num k l->∃i,l[i]? =some p.2/\p.1=k+i:=by
  intro k l;induction l generalizing k with
  |nil=>intro p au;cases au
  |cons a l ih=>
   intro p au;rcases mem_cons.1 au with rfl|au
   .exact⟨0,rfl,rfl⟩
   .obtain⟨i,ae,af⟩:=ih (k+1) p au;exact⟨i+1,by simpa using ae,by omega⟩
 have zT:I.du (gz::outs)=[]:=by
  have:gz.tree=true:=hw.tree aP;simp[I.du,DG this,bO]
 have Th:uL (fw (r::outs)) (num 0 (gz::outs)):=by
  intro p au;obtain⟨i,ae,af⟩:=pW 0 _ p au;have aC:p.1=i:=by omega
  cases i with
  |zero=>
   simp at ae;right;rw[aC,<-ae];refine⟨aP,hw,?_⟩;intro ck dJ;refine .inl λhm=>?_;have:ck.2.aa=[]:=by
    have key:∀(as:afh) (a:I),a∈as->I.du as=[]->a.aa=[]:=by
     intro as;induction as with
     |nil=>intro a h;cases h
     |cons b as ih=>
      intro a h he;simp only[I.du,append_eq_nil_iff]at he;rcases mem_cons.1 h with rfl|h
      .exact he.1
      .exact ih a h he.2
    obtain⟨j,aV,_⟩:=pW 0 _ ck dJ;exact key _ _ (mem_of_getElem? aV) zT
   rw[this]at hm;cases hm
  |succ i=>
   left;rw[aC];simp only[fw,List.getD];simp at ae;simp[ae]
 obtain⟨kU,S2,af⟩:=bB.J4 Th;refine⟨kU,S2,?_⟩;rw[xp];exact af
section
variable {C:bH} {l:afg} {os:List bJ} {K:Option (List eU)->ak->Prop} {dst:Option Nat}
def qO (s:ak):List cn->Prop
 |[]=>True
 |p::ps=>p.ok s/\qO s ps
theorem Et {s:ak}:∀{ps:List cn},qO s ps->∀p∈ps,p.ok s
 |p::ps,h,q,cF=>by
  rcases mem_cons.1 cF with rfl|cF
  .exact h.1
  .exact Et h.2 q cF
def qP:List cn->Bool
 |[]=>true
 |p::ps=>p.o.cM&&qP ps
theorem Eu:∀{ps:List cn},qP ps=true->∀p∈ps,p.o.cM=true
 |p::ps,h,q,cF=>by
  simp only[qP,Bool.and_eq_true]at h;rcases mem_cons.1 cF with rfl|cF
  .exact h.1
  .exact Eu h.2 q cF
theorem Ti {f:a6} {args:List a6} {g:FuncId} {caps:afh} {K:afc->I->ak->Prop} (ps:List cn) (r:I)
  (ae:a7 (ar l) f= .fn g caps) (gA:I.eb caps=true) (af:ps.map (·.a)=ju (ar l) args++caps) (aF:qO (ar l) ps) (a1:hQ ps=true)
  (bt:bk C g (ps.map (·.d)) r (ps.map (·.o))) (b_:r.res=true) (cq:jE ps=false\/(r.cM&&qP ps)=true) (hK:K (qN ps) r (g3 (eA (ar l) ps) ps)):kZ C (ar l) (.call f args) K:=by
 refine⟨g,caps,ps,r,ae,gA,by rw[af,xy],Et aF,a1,bt,b_,?_,hK⟩;intro hl;rcases cq with cq|cq
 .rw[cq]at hl;cases hl
 .rw[Bool.and_eq_true]at cq;exact⟨cq.1,Eu cq.2⟩
theorem Tj {f:a6} {args:List a6} {g:FuncId} {caps:afh} {K:afc->I->ak->Prop} {us:afc} (ps:List cn) (r:I) (al:kX (ar l) (iU (ar l) us)=true)
  (ae:a7 (ar l) f= .fn g caps) (gA:I.eb caps=true) (af:ps.map (·.a)=ju (ar l) args++caps) (aF:qO (ar l) ps) (a1:hQ ps=true)
  (bt:bk C g (ps.map (·.d)) r (ps.map (·.o))) (b_:r.res=true) (cq:jE ps=false\/(r.cM&&qP ps)=true)
  (hK:kX (g3 (eA (ar l) ps) ps) (iU (ar l) us)=true/\K (us++qN ps) r (kc (g3 (eA (ar l) ps) ps) (iU (ar l) us))):kZ C (ar l) (.kR f args us) K:=by
 refine⟨al,g,caps,ps,r,ae,gA,by rw[af,xy],Et aF,a1,bt,b_,?_,hK⟩;intro hl;rcases cq with cq|cq
 .rw[cq]at hl;cases hl
 .rw[Bool.and_eq_true]at cq;exact⟨cq.1,Eu cq.2⟩
theorem Tk {f:a6} {args:List a6} {g:FuncId} {caps:afh} {r:I} {us:afc} (ps:List cn) (bt:bk C g (ps.map (·.d)) r (ps.map (·.o)))
  (ae:a7 (ar l) f= .fn g caps) (gA:I.eb caps=true) (af:ps.map (·.a)=ju (ar l) args++caps) (aF:qO (ar l) ps) (a1:hQ ps=true)
  (b_:r.res=true) (cq:jE ps=false\/(r.cM&&qP ps)=true) (al:kX (ar l) (iU (ar l) us)=true)
  (hK:kX (g3 (eA (ar l) ps) ps) (iU (ar l) us)=true/\cy C (fin (kc (g3 (eA (ar l) ps) ps) (iU (ar l) us)) dst r) os none K):cy C (ar l) (⟨dst,.kR f args us,none⟩::os) none K:=by
 simp only[cy,kf,pQ];exact Tj ps r al ae gA af aF a1 bt b_ cq hK
theorem Lr (s:ak):iU s []=[]/\(∀u us,iU s (u::us)=(u,s u)::iU s us)/\kX s []=true/\(∀p L,kX s (p::L)=(p.2.e4 s&&kX s L))/\kc s []=s/\(∀p L,kc s (p::L)=kc (cg s p.1 p.2) L)/\
  (∀x,I.e4 s (.h x [])=(s x).own)/\(∀x k,I.e4 s (.U x k)= !(s x).plain)/\(∀f c,I.e4 s (.fn f c)=I.n6 s c)/\I.n6 s []=true/\(∀d ds,I.n6 s (d::ds)=(d.e4 s&&I.n6 s ds))/\
  (∀k n,I.e4 s (.int k n)=true)/\(∀b,I.e4 s (.bool b)=true)/\(∀x,I.e4 s (.str x)=true)/\(∀x,I.e4 s (.slice x)=true)/\(∀x,I.e4 s (.ref x)=true)/\I.e4 s .aN=true/\I.e4 s .db=true/\(∀ay,I.e4 s (.agg ay)=I.eb ay):=
 ⟨rfl,λ_ _=>rfl,rfl,λ_ _=>rfl,rfl,λ_ _=>rfl,λ_=>rfl,λ_ _=>rfl,λ_ _=>rfl,rfl,λ_ _=>rfl,λ_ _=>rfl,λ_=>rfl,λ_=>rfl,λ_=>rfl,λ_=>rfl,rfl,rfl,λ_=>rfl⟩
theorem o1 {f:a6} {args:List a6} {g:FuncId} {caps:afh} {r:I} (ps:List cn) (bt:bk C g (ps.map (·.d)) r (ps.map (·.o)))
  (ae:a7 (ar l) f= .fn g caps) (gA:I.eb caps=true) (af:ps.map (·.a)=ju (ar l) args++caps) (aF:qO (ar l) ps) (a1:hQ ps=true)
  (b_:r.res=true) (cq:jE ps=false\/(r.cM&&qP ps)=true)
  (hK:cy C (fin (g3 (eA (ar l) ps) ps) dst r) os none K):cy C (ar l) (⟨dst,.call f args,none⟩::os) none K:=by
 simp only[cy,kf,pQ];exact Ti ps r ae gA af aF a1 bt b_ cq hK
theorem qQ (s:ak):qO s []=True/\(∀p ps,qO s (p::ps)=(p.ok s/\qO s ps))/\(∀a d o,cn.ok s ⟨a,false,d,o⟩=(view s a=some d))/\
  (∀x q d o,cn.ok s ⟨.h x q,true,d,o⟩=(I.sub q (s x)=some d/\d.fY=true/\(o= .hole\/(o.fY=true/\rN d o=true)))):=by
 refine⟨rfl,λ_ _=>rfl,λ_ _ _=>?_,λ_ _ _ _=>?_⟩<;>simp[cn.ok]
theorem o2:(∀d,I.own (.aK d)=true)/\(∀n xs,I.own (.ag n xs)=true)/\(∀d,I.fY (.aK d)=true)/\(∀n xs,I.fY (.ag n xs)=true)/\(∀ay,I.fY (.agg ay)= !I.eb ay)/\
  (∀d e,rN (.aK d) (.aK e)=true)/\(∀n xs m cf,rN (.ag n xs) (.ag m cf)=true)/\(∀a b,rN (.agg a) (.agg b)=(I.dh a==I.dh b)):=⟨λ_=>rfl,λ_ _=>rfl,λ_=>rfl,λ_ _=>rfl,λ_=>rfl,λ_ _=>rfl,λ_ _ _ _=>rfl,λ_ _=>rfl⟩
theorem mB (s:ak):eA s []=s/\g3 s []=s/\(∀p ps,eA s (p::ps)=eA (cn.take s p) ps)/\(∀p ps,g3 s (p::ps)=g3 (cn.ig s p) ps)/\
  (∀a d o,cn.take s ⟨a,false,d,o⟩=s)/\(∀a d o,cn.ig s ⟨a,false,d,o⟩=s)/\(∀x q d o,cn.take s ⟨.h x q,true,d,o⟩=cg (e0 x s) x (I.put q d.ct (s x)))/\
  (∀a d,cn.ig s ⟨a,true,d,.hole⟩=s)/\(∀x q d e,cn.ig s ⟨.h x q,true,d,.aK e⟩=cg (lf x s) x (I.put q (.aK e) (s x)))/\
  (∀x q d n xs,cn.ig s ⟨.h x q,true,d,.ag n xs⟩=cg (lf x s) x (I.put q (.ag n xs) (s x)))/\
  (∀x q d ay,cn.ig s ⟨.h x q,true,d,.agg ay⟩=cg (lf x s) x (I.put q (.agg ay) (s x))):=by
 refine⟨rfl,rfl,λ_ _=>rfl,λ_ _=>rfl,?_,?_,?_,?_,?_,?_,?_⟩<;>intros<;>simp[cn.take,cn.ig]
def rY (s:ak) (fx rs:afc):Nat->afh->Bool->Prop
 |_,[],_=>True
 |k,o::r,b=>(o= .hole\/(o=s k/\o.fY=true/\fx.contains k=true/\rs.contains k=false))/\rY s fx rs (k+1) r b
theorem qR {s:ak} {fx:afc} {dU:List ResultVar} {outs:afh} (h:rY s fx (dU.map iV) 0 outs true):∀(i:Nat) (o:I),outs[i]? =some o->o= .hole\/(o=s i/\o.fY=true/\i∈fx/\i∉dU.map iV):=by
 have key:∀(outs:afh) (k:Nat),rY s fx (dU.map iV) k outs true->∀(i:Nat) (o:I),outs[i]? =some o->o= .hole\/(o=s (k+i)/\o.fY=true/\k+i∈fx/\k+i∉dU.map iV):=by
  intro outs;induction outs with
  |nil=>intro k _ i o h;simp at h
  |cons a outs ih=>
   intro k h i o bO;cases i with
   |zero=>
    simp at bO;subst bO;rcases h.1 with h|⟨ae,af,aF,a1⟩
    .exact .inl h
    .exact .inr ⟨ae,af,by simpa using aF,by simpa using a1⟩
   |succ i=>
    have:=ih (k+1) h.2 i o (by simpa using bO);rw[show k+(i+1)=k+1+i by omega];exact this
 intro i o bO;have:=key outs 0 h i o bO;simpa using this
theorem m8 {s:ak} {fx rs:afc} {k:Nat} {l:afh} (h:rY s fx rs (k+1) l true):rY s fx rs k (.hole::l) true:=⟨.inl rfl,h⟩
theorem xE {s:ak} {fx rs:afc} {k:Nat} {o:I} {l:afh} (ae:o=s k) (af:o.fY=true) (aF:fx.contains k=true) (a1:rs.contains k=false) (h:rY s fx rs (k+1) l true):rY s fx rs k (o::l) true:=⟨.inr ⟨ae,af,aF,a1⟩,h⟩
theorem qS {s:ak} {fx rs:afc} {k:Nat}:rY s fx rs k [] true:=trivial
def I.Tl:I->Bool
 | .tuple _=>true
 | .dm _=>true
 | .eY _ _=>true
 | .gb _=>true
 |_=>false
theorem An {d e:I} (aP:d.tree=true) (a4:d.Tl=false) (h:d.share=e):ev d e:=by
 subst h;exact .share d aP (λvs e=>by subst e;cases a4) (λo e=>by subst e;cases a4) (λ_ _ e=>by subst e;cases a4) (λ_ e=>by subst e;cases a4)
def uV {α:Type} (f:α->I):Option α->I
 |none=>.aN
 |some x=>f x
theorem Ls {α β:Type} {o:Option α} {a:Option β} {f:α->Option β} {r:β} (h:Option.elim o a f=some r):(o=none/\a=some r)\/∃y,o=some y/\f y=some r:=by
 cases o with
 |none=>exact .inl ⟨rfl,h⟩
 |some y=>exact .inr ⟨y,rfl,h⟩
theorem xF:(∀neg e r,rV neg (.slice e) (some r)=some (oK neg r))/\(∀neg,oK neg none= .eM)/\oK false (some false)= .bool false/\oK true (some false)= .bool true/\oK false (some true)= .bool true/\oK true (some true)= .bool false/\(∀s,jr s .aN=some (some true)):=
 ⟨λ_ _ _=>rfl,λ_=>rfl,rfl,rfl,rfl,rfl,λ_=>rfl⟩
theorem Lt {α:Type} {xs:List α} (h:xs.isEmpty=true) (e:α->I) (s:ak):jr s (.slice (xs.map e))=some none:=by
 have:xs=[]:=isEmpty_iff.1 h;subst this;rfl
theorem Lu {α:Type} {xs:List α} (h:xs.isEmpty=false) (e:α->I) (s:ak):jr s (.slice (xs.map e))=some (some false):=by
 cases xs with
 |nil=>cases h
 |cons x xs=>rfl
def Ev:Option I->Option afd
 |some (.ag _ xs)=>some (if xs=[]then none else some false)
 |_=>none
theorem Tm (s:ak) (x:Nat) (q:afc):jr s (.h x q)=Ev (I.sub q (s x)):=by
 simp only[jr];rfl
theorem Ao {α:Type} {xs:List α} (h:xs.isEmpty=true) (e:α->I) (n:Nat):Ev (some (.ag n (xs.map e)))=some none:=by
 have:xs=[]:=isEmpty_iff.1 h;subst this;rfl
theorem Ap {α:Type} {xs:List α} (h:xs.isEmpty=false) (e:α->I) (n:Nat):Ev (some (.ag n (xs.map e)))=some (some false):=by
 cases xs with
 |nil=>cases h
 |cons x xs=>rfl
theorem bk.nil {C:bH} {f:FuncId} {args:afh} {r:I} {outs:afh} (i:Nat) (h:bk C f (args.set i (.slice [])) r outs) (aC:args[i]? =some .aN):bk C f args r outs:=by
 intro w F X S vs hl aR;have ij:=aR.cV i;have aa:fw args i= .aN:=by simp[fw,List.getD,aC]
 rw[aa]at ij;have aH:aG w F (fw args) (gL vs) (.slice []) (gL vs i) (λ_=>False):=by
  rw[aG.cd rfl]at ij⊢;refine⟨ij.1,?_⟩;have af:=ij.2;simp only[ao]at af⊢;exact .inl ⟨trivial,none,0,af,zero_le _,λ_=>rfl⟩
 have af:=aR.uj (t:=i) rfl aH;have aT:cg (fw args) i (.slice [])=fw (args.set i (.slice [])):=by
  funext t;have c5:i<args.length:=(List.getElem?_eq_some_iff.1 aC).1;by_cases aP:t=i
  .subst aP;simp[cg,fw,List.getD,c5]
  .have:i≠t:=λe=>aP e.symm;simp[cg,aP,fw,List.getD,this]
 have a3:cg (gL vs) i (gL vs i)=gL vs:=by
  funext t;by_cases aP:t=i
  .subst aP;simp[cg]
  .simp[cg,aP]
 rw[aT,a3]at af;exact h w F X _ vs (by simpa using hl) af
theorem Tn (a b:afh):I.shares (a++b)=I.shares a++I.shares b:=by simp only[I.ry,map_append]
def mC:Option (I×ak)->Option (I×ak)
 |some (av,s)=>if(av.tree&& !av.xr)=true then some (av.share,s)else none
 |none=>none
theorem To (s:ak):(∀n xs,mC (some (.ag n xs,s))=some (.slice (I.shares xs),s))/\(∀d,mC (some (.aK d,s))=some (.ref d.share,s))/\(∀ds,mC (some (.agg ds,s))=some (.agg (I.shares ds),s)):=
 ⟨λ_ _=>rfl,λ_=>rfl,λ_=>rfl⟩
theorem Aq {s:ak} {bq:di} {K:afc->I->ak->Prop}:kZ C s (.shr bq) K=(match mC (bE C s bq)with
  |some (av,s1)=>K (kS s bq) av s1
  |none=>False):=by
 apply propext;cases he:bE C s bq with
 |none=>
  simp only[mC];exact⟨λ⟨av,s1,ae,_⟩=>(by rw[he]at ae;cases ae),λh=>h.elim⟩
 |some p=>
  obtain⟨av,s1⟩:=p;simp only[mC];by_cases aP:(av.tree&& !av.xr)=true
  .rw[if_pos aP];simp only[Bool.and_eq_true,Bool.not_eq_true']at aP;constructor
   .rintro⟨Tp,Tq,ae,af,aF,a1⟩;rw[he]at ae;simp only[some.injEq,Prod.mk.injEq]at ae;obtain⟨rfl,rfl⟩:=ae;exact a1
   .intro h;exact⟨av,s1,he,aP.1,λvs e=>by subst e;simp[I.xr]at aP,h⟩
  .rw[if_neg aP];constructor
   .rintro⟨Tp,Tq,ae,af,aF,a1⟩;rw[he]at ae;simp only[some.injEq,Prod.mk.injEq]at ae;obtain⟨rfl,rfl⟩:=ae;refine aP ?_;rw[af];cases av<;>first|rfl|exact(aF _ rfl).elim
   .intro h;exact h.elim
theorem Tr (s:ak) (d:I):kD s (some d)=some (d,s):=rfl
theorem Ts (bq:di):(cy C (ar l) (⟨dst,.shr bq,none⟩::os) none K=n_ C dst os K (mC (bE C (ar l) bq)))/\
  (∀a,cy C (ar l) (⟨dst,.shr bq,none⟩::os) (some a) K=rT C l (use (ar l) bq) (kS (ar l) bq) dst os a K (mC (bE C (ar l) bq)))/\
  (∀t b,kh C l dst (.shr bq) t b os none K (.bool b)=n_ C dst os K (mC (bE C (ar l) bq)))/\
  (∀a t b,kh C l dst (.shr bq) t b os (some a) K (.bool b)=rT C l (t::use (ar l) bq) (kS (ar l) bq) dst os a K (mC (bE C (ar l) bq))):=by
 refine⟨?_,λa=>?_,λt b=>?_,λa t b=>?_⟩
 .simp only[cy,kf,Aq];cases mC (bE C (ar l) bq)with
  |none=>rfl
  |some p=>rfl
 .simp only[cy,kf,Aq];cases mC (bE C (ar l) bq)with
  |none=>rfl
  |some p=>rfl
 .simp only[kh,if_true,Aq];cases mC (bE C (ar l) bq)with
  |none=>rfl
  |some p=>rfl
 .simp only[kh,if_true,Aq];cases mC (bE C (ar l) bq)with
  |none=>rfl
  |some p=>rfl
def uW (C:bH) (s:ak):mj->Option (I×ak)
 | .slice e=>if(C.T e).ok=true then some (.aN,s)else none
 |_=>none
def ob (C:bH) (s:ak) (y:Nat) (q:afc) (b:Int):mj->Option I->Option (I×ak)
 | .slice e,some (.ag sz xs)=>(match gw xs 0 b with
   |some t=>if(C.T e).ok=true then(match cr s (.h y q)with|some (_,s1)=>some (.ag sz t,s1)|none=>none)else none
   |none=>none)
 |_,_=>none
theorem xG (C:bH) (s:ak) (T:TypeId) (y:Nat) (q:afc):(∀k b,e2 C s T (.h y q) none (some (.int k b))=ob C s y q b (C.T T).k (I.sub q (s y)))/\
  (∀k b c8,e2 C s T (.h y q) (some (.int c8 0)) (some (.int k b))=ob C s y q b (C.T T).k (I.sub q (s y)))/\
  (∀e sz xs b t,gw xs 0 b=some t->ob C s y q b (.slice e) (some (.ag sz xs))=if(C.T e).ok=true then(match cr s (.h y q)with|some (_,s1)=>some (.ag sz t,s1)|none=>none)else none):=by
 have key:∀(dI:Option I) (k:IntKind) (b:Int),ht 0 dI=some 0->e2 C s T (.h y q) dI (some (.int k b))=ob C s y q b (C.T T).k (I.sub q (s y)):=by
  intro dI k b bo;simp only[e2];generalize (C.T T).k=jB;cases jB<;>first|rfl|skip
  rename_i e;cases aa:I.sub q (s y)with
  |none=>simp only[aa];rfl
  |some d=>
   cases d with
   |ag sz xs=>
    have Tt:ht xs.length (some (.int k b))=if 0<=b then some b.toNat else none:=rfl;simp only[aa,bo,Tt,ob,gw];by_cases U:0<=b
    .by_cases an:b<=xs.length
     .have ae:b.toNat<=xs.length:=by omega
      simp only[U,an,ae,if_true,true_and,Int.le_refl,and_self,Int.toNat_zero,drop_zero];rfl
     .have ae:¬b.toNat<=xs.length:=by omega
      simp only[U,an,ae,if_true,if_false,and_false,false_and,Int.le_refl]
    .simp only[U,if_false,false_and,and_false]
   |_=>simp only[aa];rfl
 refine⟨λk b=>key _ _ _ rfl,λk b c8=>key _ _ _ (by simp[ht]),λe sz xs b t h=>?_⟩;simp only[ob,h]
def Ar (s:ak) (y:Nat):I->Option (I×ak)
 | .agg ds=>if I.eb ds then none else some (.U y 0,s)
 | .eY _ _=>some (.U y 0,s)
 |_=>none
theorem Lv (C:bH) (s:ak) (T e:TypeId) (x:a6) (aj:(C.T T).k= .slice e) (al:a7 s x= .aN):bE C s (.cap T x)=some (.int .i64 0,s):=by
 simp only[bE,aj,al]
theorem Lw (T:TypeId) (x:a6):(cy C (ar l) (⟨dst,.cap T x,none⟩::os) none K=n_ C dst os K (bE C (ar l) (.cap T x)))/\
  (∀a,cy C (ar l) (⟨dst,.cap T x,none⟩::os) (some a) K=rT C l (use (ar l) (.cap T x)) (kS (ar l) (.cap T x)) dst os a K (bE C (ar l) (.cap T x))):=
 ⟨xw rfl,λ_=>Ah rfl⟩
def As (s:ak) (y:Nat):Option I->Option (I×ak)
 |some (.h z p)=>if z=y then uS s (.h z p)else none
 |_=>none
theorem oc (C:bH) (l:afg) (dst:Option Nat) (os:List bJ) (K:Option (List eU)->ak->Prop):
  (∀x k,cy C (ar l) (⟨dst,.ext x k,none⟩::os) none K=n_ C dst os K (rL (ar l) (a7 (ar l) x) k))/\
  (∀a x k,cy C (ar l) (⟨dst,.ext x k,none⟩::os) (some a) K=rT C l (use (ar l) (.ext x k)) (kS (ar l) (.ext x k)) dst os a K (rL (ar l) (a7 (ar l) x) k)):=
 ⟨λx k=>xw rfl,λ_ x k=>Ah rfl⟩
theorem od:(∀s y q k,rL s (.h y q) k=As s y (ex s (.h y q) k))/\(∀s y p,As s y (some (.h y p))=uS s (.h y p)):=by
 refine⟨λs y q k=>?_,λs y p=>by simp[As]⟩;unfold rL As;cases ex s (.h y q) k with
 |none=>rfl
 |some d=>cases d<;>rfl
def At (b:Bool) (u:Nat) (a:I):Option (I×ak)->Option (I×ak)
 |some (_,s1)=>if b=true then some (.hole,cg s1 u a)else none
 |none=>none
theorem Lx (C:bH) (l:afg) (dst:Option Nat) (os:List bJ) (K:Option (List eU)->ak->Prop):
  ∀T x y u,cy C (ar l) (⟨dst,.ll T x y u,none⟩::os) none K=n_ C dst os K (At (lQ (ar l) (a7 (ar l) x) (ar l u)) u (ar l u) (dj (gT C (ar l) T (a7 (ar l) x) (a7 (ar l) y)))):=by
 intro T x y u;cases aa:gT C (ar l) T (a7 (ar l) x) (a7 (ar l) y)with
 |none=>
  apply propext;constructor
  .intro h;simp only[cy,kf,kZ,aa]at h;obtain⟨_,s1,ae,_⟩:=h;cases ae
  .intro h;simp[dj,At,n_]at h
 |some s1=>
  cases U:lQ (ar l) (a7 (ar l) x) (ar l u)
  .apply propext;constructor
   .intro h;simp only[cy,kf,kZ]at h;have bo:=h.1;rw[U]at bo;cases bo
   .intro h;simp[dj,At,n_]at h
  .apply propext;constructor
   .intro h;simp only[cy,kf,kZ]at h;obtain⟨_,s2,ae,af⟩:=h;rw[aa]at ae;have ae:=some.inj ae;subst ae;exact af
   .intro h;simp only[cy,kf,kZ];exact⟨U,s1,aa,h⟩
theorem Ly:(∀s z q p,lQ s (.au z q) (.h z p)=sZ (kb p q) (I.sub p (s z)))/\(∀r,kb [] r=some r)/\(∀a p q,kb (a::p) (a::q)=kb p q)/\(∀k r n xs,sZ (some (k::r)) (some (.ag n xs))=true)/\
  (∀u a b s1,At true u a (some (b,s1))=some (.hole,cg s1 u a)):=
 ⟨λs z q p=>by simp[lQ],λ_=>rfl,λa p q=>by simp[kb],λ_ _ _ _=>rfl,λ_ _ _ _=>rfl⟩
theorem Tu (C:bH) (s:ak) (e:TypeId):uW C s (.slice e)=if(C.T e).ok=true then some (.aN,s)else none:=rfl
theorem m9 {C:bH} {l:afg} {os:List bJ} {K:Option (List eU)->ak->Prop} {dst:Option Nat} (T:TypeId) (x:a6):
  cy C (ar l) (⟨dst,.ic T x,none⟩::os) none K=n_ C dst os K (ic (ar l) (a7 (ar l) x)):=xw rfl
theorem o3:(∀(t x k:Nat),nR t (.U x k)= .U x k)/\(∀(l:afg) (t x k:Nat),fin (ar l) (some t) (.U x k)=ar ((t,.U x k)::l))/\(∀x k:Nat,I.plain (.U x k)=true)/\
  (∀(s:ak) (x k:Nat),uS s (.U x k)=some (.U x k,s))/\(∀(t y k:Nat),cv t (.U y k)=if y=t then .hole else .U y k)/\(∀(t y k:Nat),b5 t (.U y k)= .U y k)/\(∀x k:Nat,I.wd (.U x k)=1):=
 ⟨λ_ _ _=>rfl,λl t x k=>by simp only[fin,I.plain,if_true,xq],λ_ _=>rfl,λ_ _ _=>rfl,λ_ _ _=>by simp only[cv],λ_ _ _=>by simp only[b5],λ_ _=>rfl⟩
theorem o4:(∀(s:ak) y,ic s (.h y [])=Ar s y (s y))/\(∀(s:ak) y ay,Ar s y (.agg ay)=if I.eb ay then none else some (.U y 0,s))/\(∀(s:ak) y f c,Ar s y (.eY f c)=some (.U y 0,s))/\
  (∀k i ds d,zr (d::ds) i k=if k=0 then some i else if d.wd<=k then zr ds (i+1) (k-d.wd)else none):=
 ⟨λs y=>by
  simp only[ic,Ar,true_and];cases s y with
  |agg ds=>by_cases h:I.eb ds=true<;>simp[zx,h]
  |_=>rfl,λ_ _ _=>rfl,λ_ _ _ _=>rfl,λ_ _ _ _=>rfl⟩
theorem Tv (C:bH) (s:ak) (T:TypeId):e2 C s T .aN none none=uW C s (C.T T).k/\(∀k,e2 C s T .aN none (some (.int k 0))=uW C s (C.T T).k)/\(∀k,e2 C s T .aN (some (.int k 0)) none=uW C s (C.T T).k)/\
  (∀k c8,e2 C s T .aN (some (.int k 0)) (some (.int c8 0))=uW C s (C.T T).k)/\(∀e,uW C s (.slice e)=if(C.T e).ok=true then some (.aN,s)else none):=by
 refine⟨?_,λk=>?_,λk=>?_,λk c8=>?_,λ_=>rfl⟩<;>(simp only[e2];generalize (C.T T).k=jB;cases jB<;>rfl)
theorem Tw (T bP:TypeId) (x y:a6):(cy C (ar l) (⟨dst,.i7 T bP x y,none⟩::os) none K=n_ C dst os K (kD (ar l) (i7 C T bP (a7 (ar l) x) (a7 (ar l) y))))/\
  (∀a,cy C (ar l) (⟨dst,.i7 T bP x y,none⟩::os) (some a) K=rT C l (use (ar l) (.i7 T bP x y)) (kS (ar l) (.i7 T bP x y)) dst os a K (kD (ar l) (i7 C T bP (a7 (ar l) x) (a7 (ar l) y)))):=by
 have e:bE C (ar l) (.i7 T bP x y)=kD (ar l) (i7 C T bP (a7 (ar l) x) (a7 (ar l) y)):=by simp only[bE,KC]
 exact⟨(xw rfl).trans (by rw[e]),λa=>(Ah rfl).trans (by rw[e])⟩
theorem tk {α:Type} {l:List α} {i:Nat} {x:α} (h:l[i]? =some x) (u:α->I) (a:I):((l.map u).set i a)[i]? =some a:=by
 have:i<l.length:=(List.getElem?_eq_some_iff.1 h).1;rw[getElem?_set_self (by simpa using this)]
theorem tl {α:Type} (l:List α) (u:α->I) (i:Nat) (a b:I):((l.map u).set i a).set i b=(l.map u).set i b:=set_set ..
theorem Tx {α:Type} (xs:List α):gw xs 0 0=some []:=by unfold gw;rw[if_pos ⟨Int.le_refl _,by omega⟩];rfl
end
end Go.c3
