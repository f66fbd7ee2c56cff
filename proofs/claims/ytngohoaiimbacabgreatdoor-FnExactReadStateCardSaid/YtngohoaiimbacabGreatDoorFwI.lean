/- Part of a proof that a law returns true for every input. No condition. -/
import Derived.Test.YtngohoaiimbacabGreatDoorFwH
import Derived.Laws.Externs
import Derived.Lib.Bytealg
namespace Go.c_
open List Option Go.IntKind Nat Or
theorem Mi {C:bW} {f:FuncId} {fn:Func} (bd:C.P.funcs[f]? =some fn) (jX:(fn.name== "runtime.NumGoroutine")=false) (R:fn.body.isNone=true) (aU:Extern.findNext fn=none)
  {E:Array Value->Sem Value} (he:Extern.find fn=some E) (a:aht) (c:UInt8) (n:Int) (Ei:∀w,(E #[.string ⟨⟨a⟩⟩,.int .u8 c.toNat]).run C.P w= .ok (.int .i64 n) w):aX C f [.str a,.int .u8 c.toNat] (.int .i64 n) []:=by
 intro w F X S vs hl aH;have aV:=lN (aH.cW 0);have ab:=mR (aH.cW 1);have T6:vs=[.string ⟨⟨a⟩⟩,.int .u8 c.toNat]:=by
  match vs,hl with
  |[x,y],_=>
   have fE:x= .string ⟨⟨a⟩⟩:=aV;have aP:y= .int .u8 c.toNat:=ab;rw[fE,aP]
 subst T6;refine .inr ⟨.int .i64 n,w,?_,F,S,?_⟩
 .rw[run_callFunc_extern bd jX R aU he,Ei];rfl
 .refine⟨aH.gq,aH.gK,aH.eK,aH.et,aH.fg,aH.eT,aH.dy,λt=>?_,aH.old,aH.size,aH.os,aH.tape,aH.output,aH.fW⟩;cases t with
  |zero=>exact(aF.cr rfl).2 ⟨rfl,by simp only[b8,hs,gj];rw[show eU (.int .i64 n::[]) 0= .int .i64 n from rfl,au];rfl⟩
  |succ t=>
   show aF w F _ _ (eU [I.int .i64 n] (t+1)) _ _;rw[show eU [I.int .i64 n] (t+1)= .hole from rfl,aF];trivial
theorem aX.wide {C:bW} {f:FuncId} {as:ahB} {r gn:I} {outs:ahB} (h:aX C f as r outs) (hw:eP r gn) (aY:r.tree=true) (b1:I.dN outs=[]):aX C f as gn outs:=by
 intro w F X S vs hl aH;refine mz.mono (h w F X S vs hl aH) ?_;rintro v aD ⟨bE,aN,bc⟩;have aga:∀(k:Nat) (l:ahB),I.dN ((num k l).map (·.2))=I.dN l:=by
  intro k l;induction l generalizing k with
  |nil=>rfl
  |cons a l ih=>simp only[num,map_cons,I.dN,ih]
 have uS:∀(k:Nat) (l:ahB) (p:Nat×I),p∈num k l->∃i,l[i]? =some p.2/\p.1=k+i:=by
  intro k l;induction l generalizing k with
  |nil=>intro p an;cases an
  |cons a l ih=>
   intro p an;rcases mem_cons.1 an with rfl|an
   .exact⟨0,rfl,rfl⟩
   .obtain⟨i,ab,ad⟩:=ih (k+1) p an;exact⟨i+1,by simpa using ab,by omega⟩
 have zW:I.dN (gn::outs)=[]:=by
  have:gn.tree=true:=hw.tree aY;simp[I.dN,D8 this,b1]
 have T7:uD (eU (r::outs)) (num 0 (gn::outs)):=by
  intro p an;obtain⟨i,ab,ad⟩:=uS 0 _ p an;have ak:p.1=i:=by omega
  cases i with
  |zero=>
   simp at ab;right;rw[ak,<-ab];refine⟨aY,hw,?_⟩;intro cv ev;refine .inl λhm=>?_;have:cv.2.U=[]:=by
    have key:∀(as:ahB) (a:I),a∈as->I.dN as=[]->a.U=[]:=by
     intro as;induction as with
     |nil=>intro a h;cases h
     |cons b as ih=>
      intro a h he;simp only[I.dN,append_eq_nil_iff]at he;rcases mem_cons.1 h with rfl|h
      .exact he.1
      .exact ih a h he.2
    obtain⟨j,g1,_⟩:=uS 0 _ cv ev;exact key _ _ (mem_of_getElem? g1) zW
   rw[this]at hm;cases hm
  |succ i=>
   left;rw[ak];simp only[eU,List.getD];simp at ab;simp[ab]
 obtain⟨ll,dh,ad⟩:=bc.KN T7;refine⟨ll,dh,?_⟩;rw[Ah];exact ad
section
variable {C:bW} {l:ahA} {os:List b7} {K:Option (List e8)->aw->Prop} {dst:Option Nat}
def pr (s:aw):List ct->Prop
 |[]=>True
 |p::ps=>p.ok s/\pr s ps
theorem At {s:aw}:∀{ps:List ct},pr s ps->∀p∈ps,p.ok s
 |p::ps,h,q,b_=>by
  rcases mem_cons.1 b_ with rfl|b_
  .exact h.1
  .exact At h.2 q b_
def qq:List ct->Bool
 |[]=>true
 |p::ps=>p.o.cF&&qq ps
theorem Au:∀{ps:List ct},qq ps=true->∀p∈ps,p.o.cF=true
 |p::ps,h,q,b_=>by
  simp only[qq,Bool.and_eq_true]at h;rcases mem_cons.1 b_ with rfl|b_
  .exact h.1
  .exact Au h.2 q b_
theorem T8 {f:bb} {args:List bb} {g:FuncId} {caps:ahB} {K:ahw->I->aw->Prop} (ps:List ct) (r:I)
  (ab:bj (ax l) f= .fn g caps) (gN:I.dU caps=true) (ad:ps.map (·.a)=jo (ax l) args++caps) (aC:pr (ax l) ps) (aW:hP ps=true)
  (bu:aX C g (ps.map (·.d)) r (ps.map (·.o))) (cy:r.res=true) (cl:jG ps=false\/(r.cF&&qq ps)=true) (hK:K (qn ps) r (g_ (eO (ax l) ps) ps)):nM C (ax l) (.call f args) K:=by
 refine⟨g,caps,ps,r,ab,gN,by rw[ad,uN],At aC,aW,bu,cy,?_,hK⟩;intro hl;rcases cl with cl|cl
 .rw[cl]at hl;cases hl
 .rw[Bool.and_eq_true]at cl;exact⟨cl.1,Au cl.2⟩
theorem T9 {f:bb} {args:List bb} {g:FuncId} {caps:ahB} {K:ahw->I->aw->Prop} {us:ahw} (ps:List ct) (r:I) (ar:lo (ax l) (iX (ax l) us)=true)
  (ab:bj (ax l) f= .fn g caps) (gN:I.dU caps=true) (ad:ps.map (·.a)=jo (ax l) args++caps) (aC:pr (ax l) ps) (aW:hP ps=true)
  (bu:aX C g (ps.map (·.d)) r (ps.map (·.o))) (cy:r.res=true) (cl:jG ps=false\/(r.cF&&qq ps)=true)
  (hK:lo (g_ (eO (ax l) ps) ps) (iX (ax l) us)=true/\K (us++qn ps) r (mA (g_ (eO (ax l) ps) ps) (iX (ax l) us))):nM C (ax l) (.kd f args us) K:=by
 refine⟨ar,g,caps,ps,r,ab,gN,by rw[ad,uN],At aC,aW,bu,cy,?_,hK⟩;intro hl;rcases cl with cl|cl
 .rw[cl]at hl;cases hl
 .rw[Bool.and_eq_true]at cl;exact⟨cl.1,Au cl.2⟩
theorem Av {f:bb} {args:List bb} {g:FuncId} {caps:ahB} {r:I} {us:ahw} (ps:List ct) (bu:aX C g (ps.map (·.d)) r (ps.map (·.o)))
  (ab:bj (ax l) f= .fn g caps) (gN:I.dU caps=true) (ad:ps.map (·.a)=jo (ax l) args++caps) (aC:pr (ax l) ps) (aW:hP ps=true)
  (cy:r.res=true) (cl:jG ps=false\/(r.cF&&qq ps)=true) (ar:lo (ax l) (iX (ax l) us)=true)
  (hK:lo (g_ (eO (ax l) ps) ps) (iX (ax l) us)=true/\dj C (fin (mA (g_ (eO (ax l) ps) ps) (iX (ax l) us)) dst r) os none K):dj C (ax l) (⟨dst,.kd f args us,none⟩::os) none K:=by
 simp only[dj,na,pq];exact T9 ps r ar ab gN ad aC aW bu cy cl hK
theorem Mj (s:aw):iX s []=[]/\(∀u us,iX s (u::us)=(u,s u)::iX s us)/\lo s []=true/\(∀p L,lo s (p::L)=(p.2.fh s&&lo s L))/\mA s []=s/\(∀p L,mA s (p::L)=mA (da s p.1 p.2) L)/\
  (∀x,I.fh s (.h x [])=(s x).own)/\(∀x k,I.fh s (.R x k)= !(s x).plain)/\(∀f c,I.fh s (.fn f c)=I.nJ s c)/\I.nJ s []=true/\(∀d ds,I.nJ s (d::ds)=(d.fh s&&I.nJ s ds))/\
  (∀k n,I.fh s (.int k n)=true)/\(∀b,I.fh s (.bool b)=true)/\(∀x,I.fh s (.str x)=true)/\(∀x,I.fh s (.slice x)=true)/\(∀x,I.fh s (.ref x)=true)/\I.fh s .bf=true/\I.fh s .dr=true/\(∀az,I.fh s (.agg az)=I.dU az):=
 ⟨rfl,λ_ _=>rfl,rfl,λ_ _=>rfl,rfl,λ_ _=>rfl,λ_=>rfl,λ_ _=>rfl,λ_ _=>rfl,rfl,λ_ _=>rfl,λ_ _=>rfl,λ_=>rfl,λ_=>rfl,λ_=>rfl,λ_=>rfl,rfl,rfl,λ_=>rfl⟩
theorem rB {f:bb} {args:List bb} {g:FuncId} {caps:ahB} {r:I} (ps:List ct) (bu:aX C g (ps.map (·.d)) r (ps.map (·.o)))
  (ab:bj (ax l) f= .fn g caps) (gN:I.dU caps=true) (ad:ps.map (·.a)=jo (ax l) args++caps) (aC:pr (ax l) ps) (aW:hP ps=true)
  (cy:r.res=true) (cl:jG ps=false\/(r.cF&&qq ps)=true)
  (hK:dj C (fin (g_ (eO (ax l) ps) ps) dst r) os none K):dj C (ax l) (⟨dst,.call f args,none⟩::os) none K:=by
 simp only[dj,na,pq];exact T8 ps r ab gN ad aC aW bu cy cl hK
theorem nQ (s:aw):pr s []=True/\(∀p ps,pr s (p::ps)=(p.ok s/\pr s ps))/\(∀a d o,ct.ok s ⟨a,false,d,o⟩=(view s a=some d))/\
  (∀x q d o,ct.ok s ⟨.h x q,true,d,o⟩=(I.sub q (s x)=some d/\d.gi=true/\(o= .hole\/(o.gi=true/\rj d o=true)))):=by
 refine⟨rfl,λ_ _=>rfl,λ_ _ _=>?_,λ_ _ _ _=>?_⟩<;>simp[ct.ok]
theorem mE:(∀d,I.own (.a1 d)=true)/\(∀n xs,I.own (.ao n xs)=true)/\(∀d,I.gi (.a1 d)=true)/\(∀n xs,I.gi (.ao n xs)=true)/\(∀az,I.gi (.agg az)= !I.dU az)/\
  (∀d e,rj (.a1 d) (.a1 e)=true)/\(∀n xs m bm,rj (.ao n xs) (.ao m bm)=true)/\(∀a b,rj (.agg a) (.agg b)=(I.dT a==I.dT b)):=⟨λ_=>rfl,λ_ _=>rfl,λ_=>rfl,λ_ _=>rfl,λ_=>rfl,λ_ _=>rfl,λ_ _ _ _=>rfl,λ_ _=>rfl⟩
theorem oz (s:aw):eO s []=s/\g_ s []=s/\(∀p ps,eO s (p::ps)=eO (ct.take s p) ps)/\(∀p ps,g_ s (p::ps)=g_ (ct.ir s p) ps)/\
  (∀a d o,ct.take s ⟨a,false,d,o⟩=s)/\(∀a d o,ct.ir s ⟨a,false,d,o⟩=s)/\(∀x q d o,ct.take s ⟨.h x q,true,d,o⟩=da (hM x s) x (I.put q d.cS (s x)))/\
  (∀a d,ct.ir s ⟨a,true,d,.hole⟩=s)/\(∀x q d e,ct.ir s ⟨.h x q,true,d,.a1 e⟩=da (lK x s) x (I.put q (.a1 e) (s x)))/\
  (∀x q d n xs,ct.ir s ⟨.h x q,true,d,.ao n xs⟩=da (lK x s) x (I.put q (.ao n xs) (s x)))/\
  (∀x q d az,ct.ir s ⟨.h x q,true,d,.agg az⟩=da (lK x s) x (I.put q (.agg az) (s x))):=by
 refine⟨rfl,rfl,λ_ _=>rfl,λ_ _=>rfl,?_,?_,?_,?_,?_,?_,?_⟩<;>intros<;>simp[ct.take,ct.ir]
def rC (s:aw) (fx rs:ahw):Nat->ahB->Bool->Prop
 |_,[],_=>True
 |k,o::r,b=>(o= .hole\/(o=s k/\o.gi=true/\fx.contains k=true/\rs.contains k=false))/\rC s fx rs (k+1) r b
theorem oA {s:aw} {fx:ahw} {eC:List ResultVar} {outs:ahB} (h:rC s fx (eC.map iZ) 0 outs true):∀(i:Nat) (o:I),outs[i]? =some o->o= .hole\/(o=s i/\o.gi=true/\i∈fx/\i∉eC.map iZ):=by
 have key:∀(outs:ahB) (k:Nat),rC s fx (eC.map iZ) k outs true->∀(i:Nat) (o:I),outs[i]? =some o->o= .hole\/(o=s (k+i)/\o.gi=true/\k+i∈fx/\k+i∉eC.map iZ):=by
  intro outs;induction outs with
  |nil=>intro k _ i o h;simp at h
  |cons a outs ih=>
   intro k h i o b1;cases i with
   |zero=>
    simp at b1;subst b1;rcases h.1 with h|⟨ab,ad,aC,aW⟩
    .exact .inl h
    .exact .inr ⟨ab,ad,by simpa using aC,by simpa using aW⟩
   |succ i=>
    have:=ih (k+1) h.2 i o (by simpa using b1);rw[show k+(i+1)=k+1+i by omega];exact this
 intro i o b1;have:=key outs 0 h i o b1;simpa using this
theorem mF {s:aw} {fx rs:ahw} {k:Nat} {l:ahB} (h:rC s fx rs (k+1) l true):rC s fx rs k (.hole::l) true:=⟨.inl rfl,h⟩
theorem oB {s:aw} {fx rs:ahw} {k:Nat} {o:I} {l:ahB} (ab:o=s k) (ad:o.gi=true) (aC:fx.contains k=true) (aW:rs.contains k=false) (h:rC s fx rs (k+1) l true):rC s fx rs k (o::l) true:=⟨.inr ⟨ab,ad,aC,aW⟩,h⟩
theorem oC {s:aw} {fx rs:ahw} {k:Nat}:rC s fx rs k [] true:=trivial
theorem kY {Q:Exit->aw->Prop} {ros:List b7} {k:ahw} {b:aG} (h:dj C (ax l) ros none (λ_ s=>dR (a_ C b Q) (ax (gu k s)))):a_ C (.seq (.fq ros (some k)) b) Q (ax l):=sR (λ_ _ h=>h) h
def I.T_:I->Bool
 | .tuple _=>true
 | .dK _=>true
 | .fD _ _=>true
 |_=>false
theorem Mk {d e:I} (aY:d.tree=true) (aU:d.T_=false) (h:d.share=e):eP d e:=by
 subst h;exact .share d aY (λvs e=>by subst e;cases aU) (λo e=>by subst e;cases aU) (λ_ _ e=>by subst e;cases aU)
theorem aX.nil {C:bW} {f:FuncId} {args:ahB} {r:I} {outs:ahB} (i:Nat) (h:aX C f (args.set i (.slice [])) r outs) (ak:args[i]? =some .bf):aX C f args r outs:=by
 intro w F X S vs hl aH;have iu:=aH.cW i;have U:eU args i= .bf:=by simp[eU,List.getD,ak]
 rw[U]at iu;have aI:aF w F (eU args) (gj vs) (.slice []) (gj vs i) (λ_=>False):=by
  rw[aF.cr rfl]at iu⊢;refine⟨iu.1,?_⟩;have ad:=iu.2;simp only[au]at ad⊢;exact .inl ⟨trivial,none,0,ad,zero_le _,λ_=>rfl⟩
 have ad:=aH.ug (t:=i) rfl aI;have aP:da (eU args) i (.slice [])=eU (args.set i (.slice [])):=by
  funext t;have ei:i<args.length:=(List.getElem?_eq_some_iff.1 ak).1;by_cases aY:t=i
  .subst aY;simp[da,eU,List.getD,ei]
  .have:i≠t:=λe=>aY e.symm;simp[da,aY,eU,List.getD,this]
 have aT:da (gj vs) i (gj vs i)=gj vs:=by
  funext t;by_cases aY:t=i
  .subst aY;simp[da]
  .simp[da,aY]
 rw[aP,aT]at ad;exact h w F X _ vs (by simpa using hl) ad
theorem Ml {α:Type} {u e:α->I} (h:∀x,eP (u x) (e x)):∀xs:List α,jU (xs.map u) (xs.map e)
 |[]=>.nil
 |x::xs=>.cons (h x) (Ml h xs)
def rD (C:bW) (s:aw) (y:Nat) (q:ahw) (b:Int):mO->Option I->Option (I×aw)
 | .slice e,some (.ao sz xs)=>(match gR xs 0 b with
   |some t=>if(C.T e).ok=true then(match cH s (.h y q)with|some (_,s1)=>some (.ao sz t,s1)|none=>none)else none
   |none=>none)
 |_,_=>none
theorem Mm (C:bW) (s:aw) (T:TypeId) (y:Nat) (q:ahw):(∀k b,gY C s T (.h y q) none (some (.int k b))=rD C s y q b (C.T T).k (I.sub q (s y)))/\
  (∀k b cI,gY C s T (.h y q) (some (.int cI 0)) (some (.int k b))=rD C s y q b (C.T T).k (I.sub q (s y)))/\
  (∀e sz xs b t,gR xs 0 b=some t->rD C s y q b (.slice e) (some (.ao sz xs))=if(C.T e).ok=true then(match cH s (.h y q)with|some (_,s1)=>some (.ao sz t,s1)|none=>none)else none):=by
 have key:∀(eN:Option I) (k:IntKind) (b:Int),hL 0 eN=some 0->gY C s T (.h y q) eN (some (.int k b))=rD C s y q b (C.T T).k (I.sub q (s y)):=by
  intro eN k b aV;simp only[gY];generalize (C.T T).k=kx;cases kx<;>first|rfl|skip
  rename_i e;cases U:I.sub q (s y)with
  |none=>simp only[U];rfl
  |some d=>
   cases d with
   |ao sz xs=>
    have Aw:hL xs.length (some (.int k b))=if 0<=b then some b.toNat else none:=rfl;simp only[U,aV,Aw,rD,gR];by_cases R:0<=b
    .by_cases ai:b<=xs.length
     .have ab:b.toNat<=xs.length:=by omega
      simp only[R,ai,ab,if_true,true_and,Int.le_refl,and_self,Int.toNat_zero,drop_zero];rfl
     .have ab:¬b.toNat<=xs.length:=by omega
      simp only[R,ai,ab,if_true,if_false,and_false,false_and,Int.le_refl]
    .simp only[R,if_false,false_and,and_false]
   |_=>simp only[U];rfl
 refine⟨λk b=>key _ _ _ rfl,λk b cI=>key _ _ _ (by simp[hL]),λe sz xs b t h=>?_⟩;simp only[rD,h]
def ET (s:aw) (y:Nat):I->Option (I×aw)
 | .agg ds=>if I.dU ds then none else some (.R y 0,s)
 |_=>none
theorem Ax (C:bW) (l:ahA) (eA:Bool) (x y:bb):bX C (ax l) (.iF eA x y)=kF (ax l) (iF eA (bj (ax l) x) (bj (ax l) y)):=by simp only[bX,Lp]
theorem Ua (C:bW) (l:ahA) (dst:Option Nat) (os:List b7) (K:Option (List e8)->aw->Prop):
  (∀eA x y,dj C (ax l) (⟨dst,.iF eA x y,none⟩::os) none K=uM C dst os K (kF (ax l) (iF eA (bj (ax l) x) (bj (ax l) y))))/\
  (∀a eA x y,dj C (ax l) (⟨dst,.iF eA x y,none⟩::os) (some a) K=xl C l (use (ax l) (.iF eA x y)) (nF (ax l) (.iF eA x y)) dst os a K (kF (ax l) (iF eA (bj (ax l) x) (bj (ax l) y))))/\
  (∀eA x y t b,lq C l dst (.iF eA x y) t b os none K (.bool b)=uM C dst os K (kF (ax l) (iF eA (bj (ax l) x) (bj (ax l) y))))/\
  (∀a eA x y t b,lq C l dst (.iF eA x y) t b os (some a) K (.bool b)=xl C l (t::use (ax l) (.iF eA x y)) (nF (ax l) (.iF eA x y)) dst os a K (kF (ax l) (iF eA (bj (ax l) x) (bj (ax l) y)))):=
 ⟨λ_ x y=>(EE rfl).trans (congrArg _ (Ax ..)),λ_ _ x y=>(Lk rfl).trans (congrArg _ (Ax ..)),λ_ x y _ _=>(Lm rfl).trans (congrArg _ (Ax ..)),λ_ _ x y _ _=>(Ln rfl).trans (congrArg _ (Ax ..))⟩
theorem Ub (eA:Bool) (k:IntKind) (a b:Int):iF eA (.int k a) (.int k b)=some (.int k (iy eA a b)):=if_pos rfl
theorem rE {C:bW} {l:ahA} {os:List b7} {K:Option (List e8)->aw->Prop} {dst:Option Nat} (T:TypeId) (x:bb):
  dj C (ax l) (⟨dst,.jF T x,none⟩::os) none K=uM C dst os K (jF (ax l) (bj (ax l) x)):=EE rfl
theorem rF:(∀(t x k:Nat),o4 t (.R x k)= .R x k)/\(∀(l:ahA) (t x k:Nat),fin (ax l) (some t) (.R x k)=ax ((t,.R x k)::l))/\(∀x k:Nat,I.plain (.R x k)=true)/\
  (∀(s:aw) (x k:Nat),Ao s (.R x k)=some (.R x k,s))/\(∀(t y k:Nat),cE t (.R y k)=if y=t then .hole else .R y k)/\(∀(t y k:Nat),b6 t (.R y k)= .R y k)/\(∀x k:Nat,I.wd (.R x k)=1):=
 ⟨λ_ _ _=>rfl,λl t x k=>by simp only[fin,I.plain,if_true,xh],λ_ _=>rfl,λ_ _ _=>rfl,λ_ _ _=>by simp only[cE],λ_ _ _=>by simp only[b6],λ_ _=>rfl⟩
theorem rG:(∀(s:aw) y,jF s (.h y [])=ET s y (s y))/\(∀(s:aw) y az,ET s y (.agg az)=if I.dU az then none else some (.R y 0,s))/\
  (∀k i ds d,zA (d::ds) i k=if k=0 then some i else if d.wd<=k then zA ds (i+1) (k-d.wd)else none):=
 ⟨λs y=>by simp only[jF,ET];cases s y<;>rfl,λ_ _ _=>rfl,λ_ _ _ _=>rfl⟩
theorem xr {α:Type} {l:List α} {i:Nat} {x:α} (h:l[i]? =some x) (u:α->I) (a:I):((l.map u).set i a)[i]? =some a:=by
 have:i<l.length:=(List.getElem?_eq_some_iff.1 h).1;rw[getElem?_set_self (by simpa using this)]
theorem xt {α:Type} (l:List α) (u:α->I) (i:Nat) (a b:I):((l.map u).set i a).set i b=(l.map u).set i b:=set_set ..
end
end Go.c_
