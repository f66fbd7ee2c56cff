/- Part of a proof that a law returns true for every input. No condition. -/
import Derived.Test.YtmaepbgkcmjcjahGreatDoorFwH
import Derived.Laws.Externs
import Derived.Lib.Bytealg
namespace Go.ei
open List Option Go.IntKind Nat Or
theorem Xy {C:cy} {f:FuncId} {fn:Func} (bH:C.P.funcs[f]? =some fn) (mH:(fn.name== "runtime.NumGoroutine")=false) (ab:fn.body.isNone=true) (aV:Extern.findNext fn=none)
  {E:Array Value->Sem Value} (he:Extern.find fn=some E) (a:azc) (c:UInt8) (n:Int) (Fo:∀w,(E #[.string ⟨⟨a⟩⟩,.int .u8 c.toNat]).run C.P w= .ok (.int .i64 n) w):aX C f [.str a,.int .u8 c.toNat] (.int .i64 n) []:=by
 intro w F X S vs hl aS;have bc:=pt (aS.eu 0);have ad:=qH (aS.eu 1);have agH:vs=[.string ⟨⟨a⟩⟩,.int .u8 c.toNat]:=by
  match vs,hl with
  |[x,y],_=>
   have gi:x= .string ⟨⟨a⟩⟩:=bc;have aR:y= .int .u8 c.toNat:=ad;rw[gi,aR]
 subst agH;refine .inr ⟨.int .i64 n,w,?_,F,S,?_⟩
 .rw[run_callFunc_extern bH mH ab aV he,Fo];rfl
 .refine⟨aS.h_,aS.iL,aS.gg,aS.fB,aS.gN,aS.gh,aS.eX,λt=>?_,aS.old,aS.size,aS.os,aS.tape,aS.output,aS.gw⟩;cases t with
  |zero=>exact(aQ.dx rfl).2 ⟨rfl,by simp only[c_,jF,iz];rw[show gl (.int .i64 n::[]) 0= .int .i64 n from rfl,az];rfl⟩
  |succ t=>
   show aQ w F _ _ (gl [I.int .i64 n] (t+1)) _ _;rw[show gl [I.int .i64 n] (t+1)= .hole from rfl,aQ];trivial
theorem aX.wide {C:cy} {f:FuncId} {as:azk} {r hW:I} {outs:azk} (h:aX C f as r outs) (hw:fR r hW) (bb:r.tree=true) (bO:I.e3 outs=[]):aX C f as hW outs:=by
 intro w F X S vs hl aS;refine rL.mono (h w F X S vs hl aS) ?_;rintro v aP ⟨cn,a_,bF⟩;have axl:∀(k:Nat) (l:azk),I.e3 ((num k l).map (·.2))=I.e3 l:=by
  intro k l;induction l generalizing k with
  |nil=>rfl
  |cons a l ih=>simp only[num,map_cons,I.e3,ih]
 have B5:∀(k:Nat) (l:azk) (p:Nat×I),p∈num k l->∃i,l[i]? =some p.2/\p.1=k+i:=by
  intro k l;induction l generalizing k with
  |nil=>intro p ax;cases ax
  |cons a l ih=>
   intro p ax;rcases mem_cons.1 ax with rfl|ax
   .exact⟨0,rfl,rfl⟩
   .obtain⟨i,ad,ag⟩:=ih (k+1) p ax;exact⟨i+1,by simpa using ad,by omega⟩
 have I4:I.e3 (hW::outs)=[]:=by
  have:hW.tree=true:=hw.tree bb;simp[I.e3,NJ this,bO]
 have Oy:xU (gl (r::outs)) (num 0 (hW::outs)):=by
  intro p ax;obtain⟨i,ad,ag⟩:=B5 0 _ p ax;have ai:p.1=i:=by omega
  cases i with
  |zero=>
   simp at ad;right;rw[ai,<-ad];refine⟨bb,hw,?_⟩;intro dr fq;refine .inl λhm=>?_;have:dr.2.aa=[]:=by
    have key:∀(as:azk) (a:I),a∈as->I.e3 as=[]->a.aa=[]:=by
     intro as;induction as with
     |nil=>intro a h;cases h
     |cons b as ih=>
      intro a h he;simp only[I.e3,append_eq_nil_iff]at he;rcases mem_cons.1 h with rfl|h
      .exact he.1
      .exact ih a h he.2
    obtain⟨j,g1,_⟩:=B5 0 _ dr fq;exact key _ _ (mem_of_getElem? g1) I4
   rw[this]at hm;cases hm
  |succ i=>
   left;rw[ai];simp only[gl,List.getD];simp at ad;simp[ad]
 obtain⟨vW,eJ,ag⟩:=bF.NW Oy;refine⟨vW,eJ,?_⟩;rw[Fu];exact ag
section
variable {C:cy} {l:azj} {os:List cC} {K:Option (List fL)->al->Prop} {dst:Option Nat}
def te (s:al):List dE->Prop
 |[]=>True
 |p::ps=>p.ok s/\te s ps
theorem Jp {s:al}:∀{ps:List dE},te s ps->∀p∈ps,p.ok s
 |p::ps,h,q,cE=>by
  rcases mem_cons.1 cE with rfl|cE
  .exact h.1
  .exact Jp h.2 q cE
def uF:List dE->Bool
 |[]=>true
 |p::ps=>p.o.dc&&uF ps
theorem Jq:∀{ps:List dE},uF ps=true->∀p∈ps,p.o.dc=true
 |p::ps,h,q,cE=>by
  simp only[uF,Bool.and_eq_true]at h;rcases mem_cons.1 cE with rfl|cE
  .exact h.1
  .exact Jq h.2 q cE
theorem Xz {f:bB} {args:List bB} {g:FuncId} {caps:azk} {K:azf->I->al->Prop} (ps:List dE) (r:I)
  (ad:bx (ar l) f= .fn g caps) (h3:I.e6 caps=true) (ag:ps.map (·.a)=lv (ar l) args++caps) (aD:te (ar l) ps) (bh:jU ps=true)
  (b1:aX C g (ps.map (·.d)) r (ps.map (·.o))) (du:r.res=true) (di:mg ps=false\/(r.dc&&uF ps)=true) (hK:K (uD ps) r (jk (fW (ar l) ps) ps)):qP C (ar l) (.call f args) K:=by
 refine⟨g,caps,ps,r,ad,h3,by rw[ag,B2],Jp aD,bh,b1,du,?_,hK⟩;intro hl;rcases di with di|di
 .rw[di]at hl;cases hl
 .rw[Bool.and_eq_true]at di;exact⟨di.1,Jq di.2⟩
theorem agI {f:bB} {args:List bB} {g:FuncId} {caps:azk} {K:azf->I->al->Prop} {us:azf} (ps:List dE) (r:I) (aq:oo (ar l) (lr (ar l) us)=true)
  (ad:bx (ar l) f= .fn g caps) (h3:I.e6 caps=true) (ag:ps.map (·.a)=lv (ar l) args++caps) (aD:te (ar l) ps) (bh:jU ps=true)
  (b1:aX C g (ps.map (·.d)) r (ps.map (·.o))) (du:r.res=true) (di:mg ps=false\/(r.dc&&uF ps)=true)
  (hK:oo (jk (fW (ar l) ps) ps) (lr (ar l) us)=true/\K (us++uD ps) r (p6 (jk (fW (ar l) ps) ps) (lr (ar l) us))):qP C (ar l) (.mV f args us) K:=by
 refine⟨aq,g,caps,ps,r,ad,h3,by rw[ag,B2],Jp aD,bh,b1,du,?_,hK⟩;intro hl;rcases di with di|di
 .rw[di]at hl;cases hl
 .rw[Bool.and_eq_true]at di;exact⟨di.1,Jq di.2⟩
theorem Jr {f:bB} {args:List bB} {g:FuncId} {caps:azk} {r:I} {us:azf} (ps:List dE) (b1:aX C g (ps.map (·.d)) r (ps.map (·.o)))
  (ad:bx (ar l) f= .fn g caps) (h3:I.e6 caps=true) (ag:ps.map (·.a)=lv (ar l) args++caps) (aD:te (ar l) ps) (bh:jU ps=true)
  (du:r.res=true) (di:mg ps=false\/(r.dc&&uF ps)=true) (aq:oo (ar l) (lr (ar l) us)=true)
  (hK:oo (jk (fW (ar l) ps) ps) (lr (ar l) us)=true/\dF C (fin (p6 (jk (fW (ar l) ps) ps) (lr (ar l) us)) dst r) os none K):dF C (ar l) (⟨dst,.mV f args us,none⟩::os) none K:=by
 simp only[dF,o1,tc];exact agI ps r aq ad h3 ag aD bh b1 du di hK
theorem XA (s:al):lr s []=[]/\(∀u us,lr s (u::us)=(u,s u)::lr s us)/\oo s []=true/\(∀p L,oo s (p::L)=(p.2.gP s&&oo s L))/\p6 s []=s/\(∀p L,p6 s (p::L)=p6 (el s p.1 p.2) L)/\
  (∀x,I.gP s (.h x [])=(s x).own)/\(∀x k,I.gP s (.ab x k)= !(s x).plain)/\(∀f c,I.gP s (.fn f c)=I.rN s c)/\I.rN s []=true/\(∀d ds,I.rN s (d::ds)=(d.gP s&&I.rN s ds))/\
  (∀k n,I.gP s (.int k n)=true)/\(∀b,I.gP s (.bool b)=true)/\(∀x,I.gP s (.str x)=true)/\(∀x,I.gP s (.slice x)=true)/\(∀x,I.gP s (.ref x)=true)/\I.gP s .bd=true/\I.gP s .ez=true/\(∀aG,I.gP s (.agg aG)=I.e6 aG):=
 ⟨rfl,λ_ _=>rfl,rfl,λ_ _=>rfl,rfl,λ_ _=>rfl,λ_=>rfl,λ_ _=>rfl,λ_ _=>rfl,rfl,λ_ _=>rfl,λ_ _=>rfl,λ_=>rfl,λ_=>rfl,λ_=>rfl,λ_=>rfl,rfl,rfl,λ_=>rfl⟩
theorem km {f:bB} {args:List bB} {g:FuncId} {caps:azk} {r:I} (ps:List dE) (b1:aX C g (ps.map (·.d)) r (ps.map (·.o)))
  (ad:bx (ar l) f= .fn g caps) (h3:I.e6 caps=true) (ag:ps.map (·.a)=lv (ar l) args++caps) (aD:te (ar l) ps) (bh:jU ps=true)
  (du:r.res=true) (di:mg ps=false\/(r.dc&&uF ps)=true)
  (hK:dF C (fin (jk (fW (ar l) ps) ps) dst r) os none K):dF C (ar l) (⟨dst,.call f args,none⟩::os) none K:=by
 simp only[dF,o1,tc];exact Xz ps r ad h3 ag aD bh b1 du di hK
theorem Oz {a:List fL} {f:bB} {args:List bB} {g:FuncId} {caps:azk} {r:I} (ps:List dE) (b1:aX C g (ps.map (·.d)) r (ps.map (·.o)))
  (ad:bx (ar l) f= .fn g caps) (h3:I.e6 caps=true) (ag:ps.map (·.a)=lv (ar l) args++caps) (aD:te (ar l) ps) (bh:jU ps=true)
  (du:r.res=true) (di:mg ps=false\/(r.dc&&uF ps)=true)
  (hK:dF C (fin (jk (fW (ar l) ps) ps) dst r) os (some (kR (ar l) (use (ar l) (.call f args)) dst (uD ps) r::a)) K):dF C (ar l) (⟨dst,.call f args,none⟩::os) (some a) K:=by
 simp only[dF,o1,tc];exact Xz ps r ad h3 ag aD bh b1 du di hK
theorem kT (s:al):te s []=True/\(∀p ps,te s (p::ps)=(p.ok s/\te s ps))/\(∀a d o,dE.ok s ⟨a,false,d,o⟩=(view s a=some d))/\
  (∀x q d o,dE.ok s ⟨.h x q,true,d,o⟩=(I.sub q (s x)=some d/\d.hQ=true/\(o= .hole\/(o.hQ=true/\xP d o=true)))):=by
 refine⟨rfl,λ_ _=>rfl,λ_ _ _=>?_,λ_ _ _ _=>?_⟩<;>simp[dE.ok]
theorem kn:(∀d,I.own (.aM d)=true)/\(∀n xs,I.own (.ae n xs)=true)/\(∀d,I.hQ (.aM d)=true)/\(∀n xs,I.hQ (.ae n xs)=true)/\(∀aG,I.hQ (.agg aG)= !I.e6 aG)/\
  (∀d e,xP (.aM d) (.aM e)=true)/\(∀n xs m c1,xP (.ae n xs) (.ae m c1)=true)/\(∀a b,xP (.agg a) (.agg b)=(I.e9 a==I.e9 b)):=⟨λ_=>rfl,λ_ _=>rfl,λ_=>rfl,λ_ _=>rfl,λ_=>rfl,λ_ _=>rfl,λ_ _ _ _=>rfl,λ_ _=>rfl⟩
theorem jI (s:al):fW s []=s/\jk s []=s/\(∀p ps,fW s (p::ps)=fW (dE.take s p) ps)/\(∀p ps,jk s (p::ps)=jk (dE.kO s p) ps)/\
  (∀a d o,dE.take s ⟨a,false,d,o⟩=s)/\(∀a d o,dE.kO s ⟨a,false,d,o⟩=s)/\(∀x q d o,dE.take s ⟨.h x q,true,d,o⟩=el (js x s) x (I.put q d.ee (s x)))/\
  (∀a d,dE.kO s ⟨a,true,d,.hole⟩=s)/\(∀x q d e,dE.kO s ⟨.h x q,true,d,.aM e⟩=el (oU x s) x (I.put q (.aM e) (s x)))/\
  (∀x q d n xs,dE.kO s ⟨.h x q,true,d,.ae n xs⟩=el (oU x s) x (I.put q (.ae n xs) (s x)))/\
  (∀x q d aG,dE.kO s ⟨.h x q,true,d,.agg aG⟩=el (oU x s) x (I.put q (.agg aG) (s x))):=by
 refine⟨rfl,rfl,λ_ _=>rfl,λ_ _=>rfl,?_,?_,?_,?_,?_,?_,?_⟩<;>intros<;>simp[dE.take,dE.kO]
def x4 (s:al) (fx rs:azf):Nat->azk->Bool->Prop
 |_,[],_=>True
 |k,o::r,b=>(o= .hole\/(o=s k/\o.hQ=true/\fx.contains k=true/\rs.contains k=false))/\x4 s fx rs (k+1) r b
theorem hJ {s:al} {fx:azf} {fs:List ResultVar} {outs:azk} (h:x4 s fx (fs.map k5) 0 outs true):∀(i:Nat) (o:I),outs[i]? =some o->o= .hole\/(o=s i/\o.hQ=true/\i∈fx/\i∉fs.map k5):=by
 have key:∀(outs:azk) (k:Nat),x4 s fx (fs.map k5) k outs true->∀(i:Nat) (o:I),outs[i]? =some o->o= .hole\/(o=s (k+i)/\o.hQ=true/\k+i∈fx/\k+i∉fs.map k5):=by
  intro outs;induction outs with
  |nil=>intro k _ i o h;simp at h
  |cons a outs ih=>
   intro k h i o bO;cases i with
   |zero=>
    simp at bO;subst bO;rcases h.1 with h|⟨ad,ag,aD,bh⟩
    .exact .inl h
    .exact .inr ⟨ad,ag,by simpa using aD,by simpa using bh⟩
   |succ i=>
    have:=ih (k+1) h.2 i o (by simpa using bO);rw[show k+(i+1)=k+1+i by omega];exact this
 intro i o bO;have:=key outs 0 h i o bO;simpa using this
theorem dt {s:al} {fx rs:azf} {k:Nat} {l:azk} (h:x4 s fx rs (k+1) l true):x4 s fx rs k (.hole::l) true:=⟨.inl rfl,h⟩
theorem jw {s:al} {fx rs:azf} {k:Nat} {o:I} {l:azk} (ad:o=s k) (ag:o.hQ=true) (aD:fx.contains k=true) (bh:rs.contains k=false) (h:x4 s fx rs (k+1) l true):x4 s fx rs k (o::l) true:=⟨.inr ⟨ad,ag,aD,bh⟩,h⟩
theorem hL {s:al} {fx rs:azf} {k:Nat}:x4 s fx rs k [] true:=trivial
theorem ml {Q:Exit->al->Prop} {ros:List cC} {k:azf} {b:aA} (h:dF C (ar l) ros none (λ_ s=>eS (bn C b Q) (ar (gW k s)))):bn C (.seq (.ew ros (some k)) b) Q (ar l):=zC (λ_ _ h=>h) h
theorem Js {K:al->Prop} {s:al} (cK:azj) (h:xU s cK) (aw:K (ar cK)):eS K s:=.inr ⟨cK,h,aw⟩
def I.agJ:I->Bool
 | .tuple _=>true
 | .ck _=>true
 |_=>false
theorem x5 {d e:I} (bb:d.tree=true) (aV:d.agJ=false) (h:d.share=e):fR d e:=by
 subst h;exact .share d bb (λvs e=>by subst e;cases aV) (λo e=>by subst e;cases aV)
theorem Jt:(∀neg e r,x1 neg (.slice e) (some r)=some (sT neg r))/\(∀neg,sT neg none= .gu)/\sT false (some false)= .bool false/\sT true (some false)= .bool true/\sT false (some true)= .bool true/\sT true (some true)= .bool false/\(∀s,me s .bd=some (some true)):=
 ⟨λ_ _ _=>rfl,λ_=>rfl,rfl,rfl,rfl,rfl,λ_=>rfl⟩
theorem XB {α:Type} {xs:List α} (h:xs.isEmpty=true) (e:α->I) (s:al):me s (.slice (xs.map e))=some none:=by
 have:xs=[]:=isEmpty_iff.1 h;subst this;rfl
theorem XC {α:Type} {xs:List α} (h:xs.isEmpty=false) (e:α->I) (s:al):me s (.slice (xs.map e))=some (some false):=by
 cases xs with
 |nil=>cases h
 |cons x xs=>rfl
def agK:Option I->Option azg
 |some (.ae _ xs)=>some (if xs=[]then none else some false)
 |_=>none
theorem Ju (s:al) (x:Nat) (q:azf):me s (.h x q)=agK (I.sub q (s x)):=by
 simp only[me];rfl
theorem aX.nil {C:cy} {f:FuncId} {args:azk} {r:I} {outs:azk} (i:Nat) (h:aX C f (args.set i (.slice [])) r outs) (ai:args[i]? =some .bd):aX C f args r outs:=by
 intro w F X S vs hl aS;have lq:=aS.eu i;have aa:gl args i= .bd:=by simp[gl,List.getD,ai]
 rw[aa]at lq;have aF:aQ w F (gl args) (iz vs) (.slice []) (iz vs i) (λ_=>False):=by
  rw[aQ.dx rfl]at lq⊢;refine⟨lq.1,?_⟩;have ag:=lq.2;simp only[az]at ag⊢;exact .inl ⟨trivial,none,0,ag,zero_le _,λ_=>rfl⟩
 have ag:=aS.Bz (t:=i) rfl aF;have aR:el (gl args) i (.slice [])=gl (args.set i (.slice [])):=by
  funext t;have eN:i<args.length:=(List.getElem?_eq_some_iff.1 ai).1;by_cases bb:t=i
  .subst bb;simp[el,gl,List.getD,eN]
  .have:i≠t:=λe=>bb e.symm;simp[el,bb,gl,List.getD,this]
 have aW:el (iz vs) i (iz vs i)=iz vs:=by
  funext t;by_cases bb:t=i
  .subst bb;simp[el]
  .simp[el,bb]
 rw[aR,aW]at ag;exact h w F X _ vs (by simpa using hl) ag
theorem ov (a b:azk):I.shares (a++b)=I.shares a++I.shares b:=by simp only[I.xz,map_append]
def qa:Option (I×al)->Option (I×al)
 |some (av,s)=>if(av.tree&& !av.Fw)=true then some (av.share,s)else none
 |none=>none
theorem ow (s:al):(∀n xs,qa (some (.ae n xs,s))=some (.slice (I.shares xs),s))/\(∀d,qa (some (.aM d,s))=some (.ref d.share,s))/\(∀ds,qa (some (.agg ds,s))=some (.agg (I.shares ds),s)):=
 ⟨λ_ _=>rfl,λ_=>rfl,λ_=>rfl⟩
theorem Jv {s:al} {b3:e0} {K:azf->I->al->Prop}:qP C s (.shr b3) K=(match qa (cg C s b3)with
  |some (av,s1)=>K (lp s b3) av s1
  |none=>False):=by
 apply propext;cases he:cg C s b3 with
 |none=>
  simp only[qa];exact⟨λ⟨av,s1,ad,_⟩=>(by rw[he]at ad;cases ad),λh=>h.elim⟩
 |some p=>
  obtain⟨av,s1⟩:=p;simp only[qa];by_cases bb:(av.tree&& !av.Fw)=true
  .rw[if_pos bb];simp only[Bool.and_eq_true,Bool.not_eq_true']at bb;constructor
   .rintro⟨agL,agM,ad,ag,aD,bh⟩;rw[he]at ad;simp only[some.injEq,Prod.mk.injEq]at ad;obtain⟨rfl,rfl⟩:=ad;exact bh
   .intro h;exact⟨av,s1,he,bb.1,λvs e=>by subst e;simp[I.Fw]at bb,h⟩
  .rw[if_neg bb];constructor
   .rintro⟨agL,agM,ad,ag,aD,bh⟩;rw[he]at ad;simp only[some.injEq,Prod.mk.injEq]at ad;obtain⟨rfl,rfl⟩:=ad;refine bb ?_;rw[ag];cases av<;>first|rfl|exact(aD _ rfl).elim
   .intro h;exact h.elim
theorem ox (b3:e0):(dF C (ar l) (⟨dst,.shr b3,none⟩::os) none K=pG C dst os K (qa (cg C (ar l) b3)))/\
  (∀a,dF C (ar l) (⟨dst,.shr b3,none⟩::os) (some a) K=p_ C l (use (ar l) b3) (lp (ar l) b3) dst os a K (qa (cg C (ar l) b3)))/\
  (∀t b,lT C l dst (.shr b3) t b os none K (.bool b)=pG C dst os K (qa (cg C (ar l) b3)))/\
  (∀a t b,lT C l dst (.shr b3) t b os (some a) K (.bool b)=p_ C l (t::use (ar l) b3) (lp (ar l) b3) dst os a K (qa (cg C (ar l) b3))):=by
 refine⟨?_,λa=>?_,λt b=>?_,λa t b=>?_⟩
 .simp only[dF,o1,Jv];cases qa (cg C (ar l) b3)with
  |none=>rfl
  |some p=>rfl
 .simp only[dF,o1,Jv];cases qa (cg C (ar l) b3)with
  |none=>rfl
  |some p=>rfl
 .simp only[lT,if_true,Jv];cases qa (cg C (ar l) b3)with
  |none=>rfl
  |some p=>rfl
 .simp only[lT,if_true,Jv];cases qa (cg C (ar l) b3)with
  |none=>rfl
  |some p=>rfl
theorem Jw {α:Type} {u e:α->I} (h:∀x,fR (u x) (e x)):∀xs:List α,mE (xs.map u) (xs.map e)
 |[]=>.nil
 |x::xs=>.cons (h x) (Jw h xs)
def x6 (C:cy) (s:al) (y:Nat) (q:azf) (b:Int):qE->Option I->Option (I×al)
 | .slice e,some (.ae sz xs)=>(match gL xs 0 b with
   |some t=>if(C.T e).ok=true then(match dJ s (.h y q)with|some (_,s1)=>some (.ae sz t,s1)|none=>none)else none
   |none=>none)
 |_,_=>none
theorem XD (C:cy) (s:al) (T:TypeId) (y:Nat) (q:azf):(∀k b,iW C s T (.h y q) none (some (.int k b))=x6 C s y q b (C.T T).k (I.sub q (s y)))/\
  (∀k b dv,iW C s T (.h y q) (some (.int dv 0)) (some (.int k b))=x6 C s y q b (C.T T).k (I.sub q (s y)))/\
  (∀e sz xs b t,gL xs 0 b=some t->x6 C s y q b (.slice e) (some (.ae sz xs))=if(C.T e).ok=true then(match dJ s (.h y q)with|some (_,s1)=>some (.ae sz t,s1)|none=>none)else none):=by
 have key:∀(fT:Option I) (k:IntKind) (b:Int),jR 0 fT=some 0->iW C s T (.h y q) fT (some (.int k b))=x6 C s y q b (C.T T).k (I.sub q (s y)):=by
  intro fT k b bc;simp only[iW];generalize (C.T T).k=nz;cases nz<;>first|rfl|skip
  rename_i e;cases aa:I.sub q (s y)with
  |none=>simp only[aa];rfl
  |some d=>
   cases d with
   |ae sz xs=>
    have Jx:jR xs.length (some (.int k b))=if 0<=b then some b.toNat else none:=rfl;simp only[aa,bc,Jx,x6,gL];by_cases ab:0<=b
    .by_cases au:b<=xs.length
     .have ad:b.toNat<=xs.length:=by omega
      simp only[ab,au,ad,if_true,true_and,Int.le_refl,and_self,Int.toNat_zero,drop_zero];rfl
     .have ad:¬b.toNat<=xs.length:=by omega
      simp only[ab,au,ad,if_true,if_false,and_false,false_and,Int.le_refl]
    .simp only[ab,if_false,false_and,and_false]
   |_=>simp only[aa];rfl
 refine⟨λk b=>key _ _ _ rfl,λk b dv=>key _ _ _ (by simp[jR]),λe sz xs b t h=>?_⟩;simp only[x6,h]
def OA (s:al) (y:Nat):I->Option (I×al)
 | .agg ds=>if I.e6 ds then none else some (.ab y 0,s)
 |_=>none
theorem XE (C:cy) (l:azj) (dst:Option Nat) (os:List cC) (K:Option (List fL)->al->Prop):
  (∀x,dF C (ar l) (⟨dst,.p5 x,none⟩::os) none K=pG C dst os K (some (bx (ar l) x,ar l)))/\
  (∀a x,dF C (ar l) (⟨dst,.p5 x,none⟩::os) (some a) K=p_ C l (use (ar l) (.p5 x)) (lp (ar l) (.p5 x)) dst os a K (some (bx (ar l) x,ar l))):=
 ⟨λ_=>(v8 rfl).trans (congrArg _ rfl),λ_ _=>(xZ rfl).trans (congrArg _ rfl)⟩
theorem B6 (C:cy) (l:azj) (dst:Option Nat) (os:List cC) (K:Option (List fL)->al->Prop):
  (∀x,dF C (ar l) (⟨dst,.pA x,none⟩::os) none K=pG C dst os K (v_ (ar l) (bx (ar l) x)))/\
  (∀a x,dF C (ar l) (⟨dst,.pA x,none⟩::os) (some a) K=p_ C l (use (ar l) (.pA x)) (lp (ar l) (.pA x)) dst os a K (v_ (ar l) (bx (ar l) x))):=by
 have e:∀x,cg C (ar l) (.pA x)=v_ (ar l) (bx (ar l) x):=λx=>by
  simp only[cg];cases bx (ar l) x<;>rfl
 exact⟨λx=>(v8 rfl).trans (congrArg _ (e x)),λ_ x=>(xZ rfl).trans (congrArg _ (e x))⟩
theorem XF (C:cy) (l:azj) (dst:Option Nat) (os:List cC) (K:Option (List fL)->al->Prop):
  (dF C (ar l) (⟨dst,.sX,none⟩::os) none K=pG C dst os K (some (.ck (.mp []),ar l)))/\
  (∀a,dF C (ar l) (⟨dst,.sX,none⟩::os) (some a) K=p_ C l (use (ar l) .sX) (lp (ar l) .sX) dst os a K (some (.ck (.mp []),ar l))):=
 ⟨v8 rfl,λ_=>xZ rfl⟩
theorem Jy (C:cy) (l:azj) (T:TypeId) (x i:bB):cg C (ar l) (.jT T x i)=lu (ar l) (jT C (ar l) T (bx (ar l) x) (bx (ar l) i)):=by simp only[cg,Oh]
theorem XG (C:cy) (l:azj) (T:TypeId) (x i v:bB):cg C (ar l) (.k4 T x i v)=dk (k4 C (ar l) T (bx (ar l) x) (bx (ar l) i) (bx (ar l) v)):=by simp only[cg,WE]
theorem OB (C:cy) (l:azj) (dst:Option Nat) (os:List cC) (K:Option (List fL)->al->Prop):
  (∀T x i,dF C (ar l) (⟨dst,.jT T x i,none⟩::os) none K=pG C dst os K (lu (ar l) (jT C (ar l) T (bx (ar l) x) (bx (ar l) i))))/\
  (∀a T x i,dF C (ar l) (⟨dst,.jT T x i,none⟩::os) (some a) K=p_ C l (use (ar l) (.jT T x i)) (lp (ar l) (.jT T x i)) dst os a K (lu (ar l) (jT C (ar l) T (bx (ar l) x) (bx (ar l) i))))/\
  (∀T x i t b,lT C l dst (.jT T x i) t b os none K (.bool b)=pG C dst os K (lu (ar l) (jT C (ar l) T (bx (ar l) x) (bx (ar l) i))))/\
  (∀a T x i t b,lT C l dst (.jT T x i) t b os (some a) K (.bool b)=p_ C l (t::use (ar l) (.jT T x i)) (lp (ar l) (.jT T x i)) dst os a K (lu (ar l) (jT C (ar l) T (bx (ar l) x) (bx (ar l) i)))):=
 ⟨λ_ _ _=>(v8 rfl).trans (congrArg _ (Jy ..)),λ_ _ _ _=>(xZ rfl).trans (congrArg _ (Jy ..)),λ_ _ _ _ _=>(Of rfl).trans (congrArg _ (Jy ..)),λ_ _ _ _ _ _=>(Og rfl).trans (congrArg _ (Jy ..))⟩
theorem OC (C:cy) (l:azj) (dst:Option Nat) (os:List cC) (K:Option (List fL)->al->Prop):
  (∀T x i v,dF C (ar l) (⟨dst,.k4 T x i v,none⟩::os) none K=pG C dst os K (dk (k4 C (ar l) T (bx (ar l) x) (bx (ar l) i) (bx (ar l) v))))/\
  (∀a T x i v,dF C (ar l) (⟨dst,.k4 T x i v,none⟩::os) (some a) K=p_ C l (use (ar l) (.k4 T x i v)) (lp (ar l) (.k4 T x i v)) dst os a K (dk (k4 C (ar l) T (bx (ar l) x) (bx (ar l) i) (bx (ar l) v)))):=
 ⟨λ_ _ _ _=>(v8 rfl).trans (congrArg _ (XG ..)),λ_ _ _ _ _=>(xZ rfl).trans (congrArg _ (XG ..))⟩
def Jz (s:al) (y:Nat):Option I->Option (I×al)
 |some (.h z p)=>if z=y then v_ s (.h z p)else none
 |_=>none
theorem uG (C:cy) (l:azj) (dst:Option Nat) (os:List cC) (K:Option (List fL)->al->Prop):
  (∀x k,dF C (ar l) (⟨dst,.ext x k,none⟩::os) none K=pG C dst os K (xN (ar l) (bx (ar l) x) k))/\
  (∀a x k,dF C (ar l) (⟨dst,.ext x k,none⟩::os) (some a) K=p_ C l (use (ar l) (.ext x k)) (lp (ar l) (.ext x k)) dst os a K (xN (ar l) (bx (ar l) x) k)):=
 ⟨λx k=>v8 rfl,λ_ x k=>xZ rfl⟩
theorem uH:(∀s y q k,xN s (.h y q) k=Jz s y (ex s (.h y q) k))/\(∀s y p,Jz s y (some (.h y p))=v_ s (.h y p)):=by
 refine⟨λs y q k=>?_,λs y p=>by simp[Jz]⟩;unfold xN Jz;cases ex s (.h y q) k with
 |none=>rfl
 |some d=>cases d<;>rfl
def XH (T:Bool) (k:azc):Option I->Option I
 |some (.ck (.mp m))=>if T=true then some (.bool (kg k m))else none
 |_=>none
def XI (T:Bool) (s:al) (y:Nat) (q:azf) (k:azc) (b:Bool):Option I->Option al
 |some (.ck (.mp m))=>if T=true then some (el (js y s) y (I.put q (.ck (.mp (kx k b m))) (s y)))else none
 |_=>none
theorem B7:(∀(C:cy) (s:al) (T:TypeId) y q k,jT C s T (.h y q) (.str k)=XH (rG C T) k (I.sub q (s y)))/\(∀k m,XH true k (some (.ck (.mp m)))=some (.bool (kg k m)))/\
  (∀(C:cy) (s:al) (T:TypeId) y q k b,k4 C s T (.h y q) (.str k) (.bool b)=XI (rG C T) s y q k b (I.sub q (s y)))/\
  (∀s y q k b m,XI true s y q k b (some (.ck (.mp m)))=some (el (js y s) y (I.put q (.ck (.mp (kx k b m))) (s y)))):=
 ⟨λ_ _ _ _ _ _=>rfl,λ_ _=>rfl,λ_ _ _ _ _ _ _=>rfl,λ_ _ _ _ _ _=>rfl⟩
theorem JA (C:cy) (l:azj) (fv:Bool) (x y:bB):cg C (ar l) (.kN fv x y)=lu (ar l) (kN fv (bx (ar l) x) (bx (ar l) y)):=by simp only[cg,Oh]
theorem XJ (C:cy) (l:azj) (dst:Option Nat) (os:List cC) (K:Option (List fL)->al->Prop):
  (∀fv x y,dF C (ar l) (⟨dst,.kN fv x y,none⟩::os) none K=pG C dst os K (lu (ar l) (kN fv (bx (ar l) x) (bx (ar l) y))))/\
  (∀a fv x y,dF C (ar l) (⟨dst,.kN fv x y,none⟩::os) (some a) K=p_ C l (use (ar l) (.kN fv x y)) (lp (ar l) (.kN fv x y)) dst os a K (lu (ar l) (kN fv (bx (ar l) x) (bx (ar l) y))))/\
  (∀fv x y t b,lT C l dst (.kN fv x y) t b os none K (.bool b)=pG C dst os K (lu (ar l) (kN fv (bx (ar l) x) (bx (ar l) y))))/\
  (∀a fv x y t b,lT C l dst (.kN fv x y) t b os (some a) K (.bool b)=p_ C l (t::use (ar l) (.kN fv x y)) (lp (ar l) (.kN fv x y)) dst os a K (lu (ar l) (kN fv (bx (ar l) x) (bx (ar l) y)))):=
 ⟨λ_ x y=>(v8 rfl).trans (congrArg _ (JA ..)),λ_ _ x y=>(xZ rfl).trans (congrArg _ (JA ..)),λ_ x y _ _=>(Of rfl).trans (congrArg _ (JA ..)),λ_ _ x y _ _=>(Og rfl).trans (congrArg _ (JA ..))⟩
theorem agN (fv:Bool) (k:IntKind) (a b:Int):kN fv (.int k a) (.int k b)=some (.int k (kZ fv a b)):=if_pos rfl
theorem agO (fv:Bool) (a b:azc):kN fv (.str a) (.str b)=some (.str (h1 fv a b)):=rfl
theorem x7 {C:cy} {l:azj} {os:List cC} {K:Option (List fL)->al->Prop} {dst:Option Nat} (T:TypeId) (x:bB):
  dF C (ar l) (⟨dst,.mc T x,none⟩::os) none K=pG C dst os K (mc (ar l) (bx (ar l) x)):=v8 rfl
theorem x8:(∀(t x k:Nat),uh t (.ab x k)= .ab x k)/\(∀(l:azj) (t x k:Nat),fin (ar l) (some t) (.ab x k)=ar ((t,.ab x k)::l))/\(∀x k:Nat,I.plain (.ab x k)=true)/\
  (∀(s:al) (x k:Nat),v_ s (.ab x k)=some (.ab x k,s))/\(∀(t y k:Nat),dL t (.ab y k)=if y=t then .hole else .ab y k)/\(∀(t y k:Nat),cW t (.ab y k)= .ab y k)/\(∀x k:Nat,I.wd (.ab x k)=1):=
 ⟨λ_ _ _=>rfl,λl t x k=>by simp only[fin,I.plain,if_true,Fv],λ_ _=>rfl,λ_ _ _=>rfl,λ_ _ _=>by simp only[dL],λ_ _ _=>by simp only[cW],λ_ _=>rfl⟩
theorem x9:(∀(s:al) y,mc s (.h y [])=OA s y (s y))/\(∀(s:al) y aG,OA s y (.agg aG)=if I.e6 aG then none else some (.ab y 0,s))/\
  (∀k i ds d,IG (d::ds) i k=if k=0 then some i else if d.wd<=k then IG ds (i+1) (k-d.wd)else none):=
 ⟨λs y=>by simp only[mc,OA];cases s y<;>rfl,λ_ _ _=>rfl,λ_ _ _ _=>rfl⟩
theorem FJ {α:Type} {l:List α} {i:Nat} {x:α} (h:l[i]? =some x) (u:α->I) (a:I):((l.map u).set i a)[i]? =some a:=by
 have:i<l.length:=(List.getElem?_eq_some_iff.1 h).1;rw[getElem?_set_self (by simpa using this)]
theorem FK {α:Type} (l:List α) (u:α->I) (i:Nat) (a b:I):((l.map u).set i a).set i b=(l.map u).set i b:=set_set ..
end
end Go.ei
