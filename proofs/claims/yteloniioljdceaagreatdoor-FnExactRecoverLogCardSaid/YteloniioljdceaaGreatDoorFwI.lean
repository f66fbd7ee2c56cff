/- Part of a proof that a law returns true for every input. No condition. -/
import Derived.Test.YteloniioljdceaaGreatDoorFwH
import Derived.Laws.Externs
import Derived.Lib.Bytealg
namespace Go.ca
open List Option Go.IntKind Nat Or
theorem Dn {C:bl} {f:FuncId} {fn:Func} (bq:C.P.funcs[f]? =some fn) (h7:(fn.name== "runtime.NumGoroutine")=false) (J:fn.body.isNone=true) (aT:Extern.findNext fn=none)
  {E:Array Value->Sem Value} (he:Extern.find fn=some E) (a:RD) (c:UInt8) (n:Int) (mF:∀w,(E #[.string ⟨⟨a⟩⟩,.int .u8 c.toNat]).run C.P w= .ok (.int .i64 n) w):bf C f [.str a,.int .u8 c.toNat] (.int .i64 n) []:=by
 intro w F X S vs hl ax;have bj:=iv (ax.b9 0);have U:=jJ (ax.b9 1);have Kk:vs=[.string ⟨⟨a⟩⟩,.int .u8 c.toNat]:=by
  match vs,hl with
  |[x,y],_=>
   have ez:x= .string ⟨⟨a⟩⟩:=bj;have aD:y= .int .u8 c.toNat:=U;rw[ez,aD]
 subst Kk;refine .inr ⟨.int .i64 n,w,?_,F,S,?_⟩
 .rw[run_callFunc_extern bq h7 J aT he,mF];rfl
 .refine⟨ax.eK,ax.eY,ax.dk,ax.c1,ax.dN,ax.du,ax.ck,λt=>?_,ax.old,ax.size,ax.os,ax.tape,ax.output,ax.ef⟩;cases t with
  |zero=>exact(ar.bx rfl).2 ⟨rfl,by simp only[bn,eG,dJ];rw[show cM (.int .i64 n::[]) 0= .int .i64 n from rfl,ah];rfl⟩
  |succ t=>
   show ar w F _ _ (cM [I.int .i64 n] (t+1)) _ _;rw[show cM [I.int .i64 n] (t+1)= .hole from rfl,ar];trivial
theorem bf.wide {C:bl} {f:FuncId} {as:RL} {r eM:I} {outs:RL} (h:bf C f as r outs) (hw:dc r eM) (aI:r.tree=true) (ba:I.cn outs=[]):bf C f as eM outs:=by
 intro w F X S vs hl ax;refine jn.mono (h w F X S vs hl ax) ?_;rintro v an ⟨a8,aB,aN⟩;have Q2:∀(k:Nat) (l:RL),I.cn ((num k l).map (·.2))=I.cn l:=by
  intro k l;induction l generalizing k with
  |nil=>rfl
  |cons a l ih=>simp only[num,map_cons,I.cn,ih]
 have qi:∀(k:Nat) (l:RL) (p:Nat×I),p∈num k l->∃i,l[i]? =some p.2/\p.1=k+i:=by
  intro k l;induction l generalizing k with
  |nil=>intro p af;cases af
  |cons a l ih=>
   intro p af;rcases mem_cons.1 af with rfl|af
   .exact⟨0,rfl,rfl⟩
   .obtain⟨i,U,ab⟩:=ih (k+1) p af;exact⟨i+1,by simpa using U,by omega⟩
 have ua:I.cn (eM::outs)=[]:=by
  have:eM.tree=true:=hw.tree aI;simp[I.cn,xo this,ba]
 have Kl:p5 (cM (r::outs)) (num 0 (eM::outs)):=by
  intro p af;obtain⟨i,U,ab⟩:=qi 0 _ p af;have aC:p.1=i:=by omega
  cases i with
  |zero=>
   simp at U;right;rw[aC,<-U];refine⟨aI,hw,?_⟩;intro bw cD;refine .inl λhm=>?_;have:bw.2.R=[]:=by
    have key:∀(as:RL) (a:I),a∈as->I.cn as=[]->a.R=[]:=by
     intro as;induction as with
     |nil=>intro a h;cases h
     |cons b as ih=>
      intro a h he;simp only[I.cn,append_eq_nil_iff]at he;rcases mem_cons.1 h with rfl|h
      .exact he.1
      .exact ih a h he.2
    obtain⟨j,g1,_⟩:=qi 0 _ bw cD;exact key _ _ (mem_of_getElem? g1) ua
   rw[this]at hm;cases hm
  |succ i=>
   left;rw[aC];simp only[cM,List.getD];simp at U;simp[U]
 obtain⟨h2,b0,ab⟩:=aN.BU Kl;refine⟨h2,b0,?_⟩;rw[xK];exact ab
section
variable {C:bl} {l:RK} {os:List bs} {K:Option (List dp)->aj->Prop} {dst:Option Nat}
def o5 (s:aj):List bB->Prop
 |[]=>True
 |p::ps=>p.ok s/\o5 s ps
theorem Dp {s:aj}:∀{ps:List bB},o5 s ps->∀p∈ps,p.ok s
 |p::ps,h,q,b2=>by
  rcases mem_cons.1 b2 with rfl|b2
  .exact h.1
  .exact Dp h.2 q b2
def sg:List bB->Bool
 |[]=>true
 |p::ps=>p.o.cK&&sg ps
theorem Dq:∀{ps:List bB},sg ps=true->∀p∈ps,p.o.cK=true
 |p::ps,h,q,b2=>by
  simp only[sg,Bool.and_eq_true]at h;rcases mem_cons.1 b2 with rfl|b2
  .exact h.1
  .exact Dq h.2 q b2
theorem Km {f:aR} {args:List aR} {g:FuncId} {caps:RL} {K:RG->I->aj->Prop} (ps:List bB) (r:I)
  (U:aP (au l) f= .fn g caps) (fK:I.ee caps=true) (ab:ps.map (·.a)=gV (au l) args++caps) (ay:o5 (au l) ps) (aQ:fw ps=true)
  (bc:bf C g (ps.map (·.d)) r (ps.map (·.o))) (bW:r.res=true) (b4:hf ps=false\/(r.cK&&sg ps)=true) (hK:K (nQ ps) r (fm (dj (au l) ps) ps)):k_ C (au l) (.call f args) K:=by
 refine⟨g,caps,ps,r,U,fK,by rw[ab,uy],Dp ay,aQ,bc,bW,?_,hK⟩;intro hl;rcases b4 with b4|b4
 .rw[b4]at hl;cases hl
 .rw[Bool.and_eq_true]at b4;exact⟨b4.1,Dq b4.2⟩
theorem Kn {f:aR} {args:List aR} {g:FuncId} {caps:RL} {r:I} (ps:List bB) (bc:bf C g (ps.map (·.d)) r (ps.map (·.o)))
  (U:aP (au l) f= .fn g caps) (fK:I.ee caps=true) (ab:ps.map (·.a)=gV (au l) args++caps) (ay:o5 (au l) ps) (aQ:fw ps=true)
  (bW:r.res=true) (b4:hf ps=false\/(r.cK&&sg ps)=true)
  (hK:cm C (fin (fm (dj (au l) ps) ps) dst r) os none K):cm C (au l) (⟨dst,.call f args,none⟩::os) none K:=by
 simp only[cm,ks,mI];exact Km ps r U fK ab ay aQ bc bW b4 hK
theorem Ko (s:aj):o5 s []=True/\(∀p ps,o5 s (p::ps)=(p.ok s/\o5 s ps))/\(∀a d o,bB.ok s ⟨a,false,d,o⟩=(view s a=some d))/\
  (∀x q d o,bB.ok s ⟨.h x q,true,d,o⟩=(I.sub q (s x)=some d/\d.ed=true/\(o= .hole\/(o.ed=true/\nH d o=true)))):=by
 refine⟨rfl,λ_ _=>rfl,λ_ _ _=>?_,λ_ _ _ _=>?_⟩<;>simp[bB.ok]
theorem Kp:(∀d,I.own (.bC d)=true)/\(∀n xs,I.own (.aE n xs)=true)/\(∀d,I.ed (.bC d)=true)/\(∀n xs,I.ed (.aE n xs)=true)/\(∀al,I.ed (.agg al)= !I.ee al)/\
  (∀d e,nH (.bC d) (.bC e)=true)/\(∀n xs m bM,nH (.aE n xs) (.aE m bM)=true)/\(∀a b,nH (.agg a) (.agg b)=(I.cp a==I.cp b)):=⟨λ_=>rfl,λ_ _=>rfl,λ_=>rfl,λ_ _=>rfl,λ_=>rfl,λ_ _=>rfl,λ_ _ _ _=>rfl,λ_ _=>rfl⟩
theorem Kq (s:aj):dj s []=s/\fm s []=s/\(∀p ps,dj s (p::ps)=dj (bB.take s p) ps)/\(∀p ps,fm s (p::ps)=fm (bB.fv s p) ps)/\
  (∀a d o,bB.take s ⟨a,false,d,o⟩=s)/\(∀a d o,bB.fv s ⟨a,false,d,o⟩=s)/\(∀x q d o,bB.take s ⟨.h x q,true,d,o⟩=cd (fa x s) x (I.put q d.bU (s x)))/\
  (∀a d,bB.fv s ⟨a,true,d,.hole⟩=s)/\(∀x q d e,bB.fv s ⟨.h x q,true,d,.bC e⟩=cd (im x s) x (I.put q (.bC e) (s x)))/\
  (∀x q d n xs,bB.fv s ⟨.h x q,true,d,.aE n xs⟩=cd (im x s) x (I.put q (.aE n xs) (s x)))/\
  (∀x q d al,bB.fv s ⟨.h x q,true,d,.agg al⟩=cd (im x s) x (I.put q (.agg al) (s x))):=by
 refine⟨rfl,rfl,λ_ _=>rfl,λ_ _=>rfl,?_,?_,?_,?_,?_,?_,?_⟩<;>intros<;>simp[bB.take,bB.fv]
def n3 (s:aj) (fx rs:RG):Nat->RL->Bool->Prop
 |_,[],_=>True
 |k,o::r,b=>(o= .hole\/(o=s k/\o.ed=true/\fx.contains k=true/\rs.contains k=false))/\n3 s fx rs (k+1) r b
theorem Kr {s:aj} {fx:RG} {cT:List ResultVar} {outs:RL} (h:n3 s fx (cT.map fW) 0 outs true):∀(i:Nat) (o:I),outs[i]? =some o->o= .hole\/(o=s i/\o.ed=true/\i∈fx/\i∉cT.map fW):=by
 have key:∀(outs:RL) (k:Nat),n3 s fx (cT.map fW) k outs true->∀(i:Nat) (o:I),outs[i]? =some o->o= .hole\/(o=s (k+i)/\o.ed=true/\k+i∈fx/\k+i∉cT.map fW):=by
  intro outs;induction outs with
  |nil=>intro k _ i o h;simp at h
  |cons a outs ih=>
   intro k h i o ba;cases i with
   |zero=>
    simp at ba;subst ba;rcases h.1 with h|⟨U,ab,ay,aQ⟩
    .exact .inl h
    .exact .inr ⟨U,ab,by simpa using ay,by simpa using aQ⟩
   |succ i=>
    have:=ih (k+1) h.2 i o (by simpa using ba);rw[show k+(i+1)=k+1+i by omega];exact this
 intro i o ba;have:=key outs 0 h i o ba;simpa using this
theorem Ks {s:aj} {fx rs:RG} {k:Nat} {l:RL} (h:n3 s fx rs (k+1) l true):n3 s fx rs k (.hole::l) true:=⟨.inl rfl,h⟩
theorem Kt {s:aj} {fx rs:RG} {k:Nat} {o:I} {l:RL} (U:o=s k) (ab:o.ed=true) (ay:fx.contains k=true) (aQ:rs.contains k=false) (h:n3 s fx rs (k+1) l true):n3 s fx rs k (o::l) true:=⟨.inr ⟨U,ab,ay,aQ⟩,h⟩
theorem Ku {s:aj} {fx rs:RG} {k:Nat}:n3 s fx rs k [] true:=trivial
def I.Kv:I->Bool
 | .tuple _=>true
 | .cf _=>true
 | .dE _ _=>true
 |_=>false
theorem Kw {d e:I} (aI:d.tree=true) (aT:d.Kv=false) (h:d.share=e):dc d e:=by
 subst h;exact .share d aI (λvs e=>by subst e;cases aT) (λo e=>by subst e;cases aT) (λ_ _ e=>by subst e;cases aT)
theorem bf.nil {C:bl} {f:FuncId} {args:RL} {r:I} {outs:RL} (i:Nat) (h:bf C f (args.set i (.slice [])) r outs) (aC:args[i]? =some .bz):bf C f args r outs:=by
 intro w F X S vs hl ax;have fo:=ax.b9 i;have R:cM args i= .bz:=by simp[cM,List.getD,aC]
 rw[R]at fo;have az:ar w F (cM args) (dJ vs) (.slice []) (dJ vs i) (λ_=>False):=by
  rw[ar.bx rfl]at fo⊢;refine⟨fo.1,?_⟩;have ab:=fo.2;simp only[ah]at ab⊢;exact .inl ⟨trivial,none,0,ab,zero_le _,λ_=>rfl⟩
 have ab:=ax.tz (t:=i) rfl az;have aD:cd (cM args) i (.slice [])=cM (args.set i (.slice [])):=by
  funext t;have cq:i<args.length:=(List.getElem?_eq_some_iff.1 aC).1;by_cases aI:t=i
  .subst aI;simp[cd,cM,List.getD,cq]
  .have:i≠t:=λe=>aI e.symm;simp[cd,aI,cM,List.getD,this]
 have aG:cd (dJ vs) i (dJ vs i)=dJ vs:=by
  funext t;by_cases aI:t=i
  .subst aI;simp[cd]
  .simp[cd,aI]
 rw[aD,aG]at ab;exact h w F X _ vs (by simpa using hl) ab
def n4 (C:bl) (s:aj) (y:Nat) (q:RG) (b:Int):jI->Option I->Option (I×aj)
 | .slice e,some (.aE sz xs)=>(match c8 xs 0 b with
   |some t=>if(C.T e).ok=true then(match bK s (.h y q)with|some (_,s1)=>some (.aE sz t,s1)|none=>none)else none
   |none=>none)
 |_,_=>none
theorem Dr (C:bl) (s:aj) (T:TypeId) (y:Nat) (q:RG):(∀k b,eD C s T (.h y q) none (some (.int k b))=n4 C s y q b (C.T T).k (I.sub q (s y)))/\
  (∀k b b5,eD C s T (.h y q) (some (.int b5 0)) (some (.int k b))=n4 C s y q b (C.T T).k (I.sub q (s y)))/\
  (∀e sz xs b t,c8 xs 0 b=some t->n4 C s y q b (.slice e) (some (.aE sz xs))=if(C.T e).ok=true then(match bK s (.h y q)with|some (_,s1)=>some (.aE sz t,s1)|none=>none)else none):=by
 have key:∀(di:Option I) (k:IntKind) (b:Int),e9 0 di=some 0->eD C s T (.h y q) di (some (.int k b))=n4 C s y q b (C.T T).k (I.sub q (s y)):=by
  intro di k b bj;simp only[eD];generalize (C.T T).k=hb;cases hb<;>first|rfl|skip
  rename_i e;cases R:I.sub q (s y)with
  |none=>simp only[R];rfl
  |some d=>
   cases d with
   |aE sz xs=>
    have qj:e9 xs.length (some (.int k b))=if 0<=b then some b.toNat else none:=rfl;simp only[R,bj,qj,n4,c8];by_cases J:0<=b
    .by_cases ae:b<=xs.length
     .have U:b.toNat<=xs.length:=by omega
      simp only[J,ae,U,if_true,true_and,Int.le_refl,and_self,Int.toNat_zero,drop_zero];rfl
     .have U:¬b.toNat<=xs.length:=by omega
      simp only[J,ae,U,if_true,if_false,and_false,false_and,Int.le_refl]
    .simp only[J,if_false,false_and,and_false]
   |_=>simp only[R];rfl
 refine⟨λk b=>key _ _ _ rfl,λk b b5=>key _ _ _ (by simp[e9]),λe sz xs b t h=>?_⟩;simp only[n4,h]
theorem uC (C:bl) (l:RK) (cY:Bool) (x y:aR):bh C (au l) (.fJ cY x y)=hn (au l) (fJ cY (aP (au l) x) (aP (au l) y)):=by simp only[bh,Cu]
theorem Kx (C:bl) (l:RK) (dst:Option Nat) (os:List bs) (K:Option (List dp)->aj->Prop):
  (∀cY x y,cm C (au l) (⟨dst,.fJ cY x y,none⟩::os) none K=r8 C dst os K (hn (au l) (fJ cY (aP (au l) x) (aP (au l) y))))/\
  (∀a cY x y,cm C (au l) (⟨dst,.fJ cY x y,none⟩::os) (some a) K=r9 C l (use (au l) (.fJ cY x y)) (km (au l) (.fJ cY x y)) dst os a K (hn (au l) (fJ cY (aP (au l) x) (aP (au l) y))))/\
  (∀cY x y t b,h9 C l dst (.fJ cY x y) t b os none K (.bool b)=r8 C dst os K (hn (au l) (fJ cY (aP (au l) x) (aP (au l) y))))/\
  (∀a cY x y t b,h9 C l dst (.fJ cY x y) t b os (some a) K (.bool b)=r9 C l (t::use (au l) (.fJ cY x y)) (km (au l) (.fJ cY x y)) dst os a K (hn (au l) (fJ cY (aP (au l) x) (aP (au l) y)))):=
 ⟨λ_ x y=>(Co rfl).trans (congrArg _ (uC ..)),λ_ _ x y=>(Cp rfl).trans (congrArg _ (uC ..)),λ_ x y _ _=>(Cr rfl).trans (congrArg _ (uC ..)),λ_ _ x y _ _=>(Cs rfl).trans (congrArg _ (uC ..))⟩
theorem Ky (cY:Bool) (k:IntKind) (a b:Int):fJ cY (.int k a) (.int k b)=some (.int k (fC cY a b)):=if_pos rfl
end
end Go.ca
