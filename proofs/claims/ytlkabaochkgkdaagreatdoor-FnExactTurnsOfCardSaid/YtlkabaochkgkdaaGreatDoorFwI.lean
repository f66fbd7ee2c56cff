/- Part of a proof that a law returns true for every input. No condition. -/
import Derived.Test.YtlkabaochkgkdaaGreatDoorFwH
import Derived.Laws.Externs
import Derived.Lib.Bytealg
namespace Go.c_
theorem Oc {C:cl} {f:FuncId} {fn:Func} (bw:C.P.funcs[f]? =some fn) (kP:(fn.name== "runtime.NumGoroutine")=false) (ad:fn.body.isNone=true) (a7:Extern.findNext fn=none)
  {E:Array Value->Sem Value} (he:Extern.find fn=some E) (a:List UInt8) (c:UInt8) (n:Int) (H5:∀w,(E #[.string ⟨⟨a⟩⟩,.int .u8 c.toNat]).run C.P w= .ok (.int .i64 n) w):bk C f [.str a,.int .u8 c.toNat] (.int .i64 n) []:=by
 intro w F X S vs hl aS;have ba:=mZ (aS.dF 0);have ag:=nI (aS.dF 1);have Xw:vs=[.string ⟨⟨a⟩⟩,.int .u8 c.toNat]:=by
  match vs,hl with
  |[x,y],_=>
   have gx:x= .string ⟨⟨a⟩⟩:=ba;have aX:y= .int .u8 c.toNat:=ag;rw[gx,aX]
 subst Xw;refine .inr ⟨.int .i64 n,w,?_,F,S,?_⟩
 .rw[run_callFunc_extern bw kP ad a7 he,H5];rfl
 .refine⟨aS.hG,aS.h4,aS.fy,aS.e7,aS.gf,aS.fz,aS.ey,λt=>?_,aS.old,aS.size,aS.os,aS.tape,aS.output,aS.hj⟩;cases t with
  |zero=>exact(aO.cT rfl).2 ⟨rfl,by simp only[cz,iv,hW];rw[show gu (.int .i64 n::[]) 0= .int .i64 n from rfl,ax];rfl⟩
  |succ t=>
   show aO w F _ _ (gu [I.int .i64 n] (t+1)) _ _;rw[show gu [I.int .i64 n] (t+1)= .hole from rfl,aO];trivial
section
variable {C:cl} {l:List (Nat×I)} {os:List cb} {K:Option (List fS)->ar->Prop} {dst:Option Nat}
def qR (s:ar):List cZ->Prop
 |[]=>True
 |p::ps=>p.ok s/\qR s ps
theorem CJ {s:ar}:∀{ps:List cZ},qR s ps->∀p∈ps,p.ok s
 |p::ps,h,q,cU=>by
  rcases List.mem_cons.1 cU with rfl|cU
  .exact h.1
  .exact CJ h.2 q cU
def rP:List cZ->Bool
 |[]=>true
 |p::ps=>p.o.dd&&rP ps
theorem CK:∀{ps:List cZ},rP ps=true->∀p∈ps,p.o.dd=true
 |p::ps,h,q,cU=>by
  simp only[rP,Bool.and_eq_true]at h;rcases List.mem_cons.1 cU with rfl|cU
  .exact h.1
  .exact CK h.2 q cU
theorem Xx {f:aI} {args:List aI} {g:FuncId} {caps:List I} {K:List Nat->I->ar->Prop} (ps:List cZ) (r:I)
  (ag:aP (ab l) f= .fn g caps) (gR:I.ef caps=true) (ah:ps.map (·.a)=iV (ab l) args++caps) (aN:qR (ab l) ps) (bg:ja ps=true)
  (bR:bk C g (ps.map (·.d)) r (ps.map (·.o))) (cW:r.res=true) (cE:kL ps=false\/(r.dd&&rP ps)=true) (ke:K (rM ps) r (iy (ft (ab l) ps) ps)):o9 C (ab l) (.call f args) K:=by
 refine⟨g,caps,ps,r,ag,gR,by rw[ah,wU],CJ aN,bg,bR,cW,?_,ke⟩;intro hl;rcases cE with cE|cE
 .rw[cE]at hl;cases hl
 .rw[Bool.and_eq_true]at cE;exact⟨cE.1,CK cE.2⟩
theorem Xy {f:aI} {args:List aI} {g:FuncId} {caps:List I} {K:List Nat->I->ar->Prop} {us:List Nat} (ps:List cZ) (r:I) (aw:mu (ab l) (j4 (ab l) us)=true)
  (ag:aP (ab l) f= .fn g caps) (gR:I.ef caps=true) (ah:ps.map (·.a)=iV (ab l) args++caps) (aN:qR (ab l) ps) (bg:ja ps=true)
  (bR:bk C g (ps.map (·.d)) r (ps.map (·.o))) (cW:r.res=true) (cE:kL ps=false\/(r.dd&&rP ps)=true)
  (ke:mu (iy (ft (ab l) ps) ps) (j4 (ab l) us)=true/\K (us++rM ps) r (nP (iy (ft (ab l) ps) ps) (j4 (ab l) us))):o9 C (ab l) (.lb f args us) K:=by
 refine⟨aw,g,caps,ps,r,ag,gR,by rw[ah,wU],CJ aN,bg,bR,cW,?_,ke⟩;intro hl;rcases cE with cE|cE
 .rw[cE]at hl;cases hl
 .rw[Bool.and_eq_true]at cE;exact⟨cE.1,CK cE.2⟩
theorem CL {f:aI} {args:List aI} {g:FuncId} {caps:List I} {r:I} {us:List Nat} (ps:List cZ) (bR:bk C g (ps.map (·.d)) r (ps.map (·.o)))
  (ag:aP (ab l) f= .fn g caps) (gR:I.ef caps=true) (ah:ps.map (·.a)=iV (ab l) args++caps) (aN:qR (ab l) ps) (bg:ja ps=true)
  (cW:r.res=true) (cE:kL ps=false\/(r.dd&&rP ps)=true) (aw:mu (ab l) (j4 (ab l) us)=true)
  (ke:mu (iy (ft (ab l) ps) ps) (j4 (ab l) us)=true/\cP C (fin (nP (iy (ft (ab l) ps) ps) (j4 (ab l) us)) dst r) os none K):cP C (ab l) (⟨dst,.lb f args us,none⟩::os) none K:=by
 simp only[cP,ow,qQ];exact Xy ps r aw ag gR ah aN bg bR cW cE ke
theorem s0 (s:ar):j4 s []=[]/\(∀u us,j4 s (u::us)=(u,s u)::j4 s us)/\mu s []=true/\(∀p L,mu s (p::L)=(p.2.gh s&&mu s L))/\nP s []=s/\(∀p L,nP s (p::L)=nP (dD s p.1 p.2) L)/\
  (∀x,I.gh s (.h x [])=(s x).own)/\(∀x k,I.gh s (.ad x k)= !(s x).plain)/\(∀f c,I.gh s (.fn f c)=I.o5 s c)/\I.o5 s []=true/\(∀d ds,I.o5 s (d::ds)=(d.gh s&&I.o5 s ds))/\
  (∀k n,I.gh s (.int k n)=true)/\(∀b,I.gh s (.bool b)=true)/\(∀x,I.gh s (.str x)=true)/\(∀x,I.gh s (.slice x)=true)/\(∀x,I.gh s (.ref x)=true)/\I.gh s .bz=true/\I.gh s .dS=true/\(∀az,I.gh s (.agg az)=I.ef az):=
 ⟨rfl,λ_ _=>rfl,rfl,λ_ _=>rfl,rfl,λ_ _=>rfl,λ_=>rfl,λ_ _=>rfl,λ_ _=>rfl,rfl,λ_ _=>rfl,λ_ _=>rfl,λ_=>rfl,λ_=>rfl,λ_=>rfl,λ_=>rfl,rfl,rfl,λ_=>rfl⟩
theorem s3 {f:aI} {args:List aI} {g:FuncId} {caps:List I} {r:I} (ps:List cZ) (bR:bk C g (ps.map (·.d)) r (ps.map (·.o)))
  (ag:aP (ab l) f= .fn g caps) (gR:I.ef caps=true) (ah:ps.map (·.a)=iV (ab l) args++caps) (aN:qR (ab l) ps) (bg:ja ps=true)
  (cW:r.res=true) (cE:kL ps=false\/(r.dd&&rP ps)=true)
  (ke:cP C (fin (iy (ft (ab l) ps) ps) dst r) os none K):cP C (ab l) (⟨dst,.call f args,none⟩::os) none K:=by
 simp only[cP,ow,qQ];exact Xx ps r ag gR ah aN bg bR cW cE ke
theorem nX (s:ar):qR s []=True/\(∀p ps,qR s (p::ps)=(p.ok s/\qR s ps))/\(∀a d o,cZ.ok s ⟨a,false,d,o⟩=(view s a=some d))/\
  (∀x q d o,cZ.ok s ⟨.h x q,true,d,o⟩=(I.sub q (s x)=some d/\d.hf=true/\(o= .hole\/(o.hf=true/\sM d o=true)))):=by
 refine⟨rfl,λ_ _=>rfl,λ_ _ _=>?_,λ_ _ _ _=>?_⟩<;>simp[cZ.ok]
theorem kv:(∀d,I.own (.bh d)=true)/\(∀n xs,I.own (.ao n xs)=true)/\(∀d,I.hf (.bh d)=true)/\(∀n xs,I.hf (.ao n xs)=true)/\(∀az,I.hf (.agg az)= !I.ef az)/\
  (∀d e,sM (.bh d) (.bh e)=true)/\(∀n xs m cK,sM (.ao n xs) (.ao m cK)=true)/\(∀a b,sM (.agg a) (.agg b)=(I.eJ a==I.eJ b)):=⟨λ_=>rfl,λ_ _=>rfl,λ_=>rfl,λ_ _=>rfl,λ_=>rfl,λ_ _=>rfl,λ_ _ _ _=>rfl,λ_ _=>rfl⟩
theorem nY (s:ar):ft s []=s/\iy s []=s/\(∀p ps,ft s (p::ps)=ft (cZ.take s p) ps)/\(∀p ps,iy s (p::ps)=iy (cZ.jC s p) ps)/\
  (∀a d o,cZ.take s ⟨a,false,d,o⟩=s)/\(∀a d o,cZ.jC s ⟨a,false,d,o⟩=s)/\(∀x q d o,cZ.take s ⟨.h x q,true,d,o⟩=dD (iO x s) x (I.put q d.dz (s x)))/\
  (∀a d,cZ.jC s ⟨a,true,d,.hole⟩=s)/\(∀x q d e,cZ.jC s ⟨.h x q,true,d,.bh e⟩=dD (mD x s) x (I.put q (.bh e) (s x)))/\
  (∀x q d n xs,cZ.jC s ⟨.h x q,true,d,.ao n xs⟩=dD (mD x s) x (I.put q (.ao n xs) (s x)))/\
  (∀x q d az,cZ.jC s ⟨.h x q,true,d,.agg az⟩=dD (mD x s) x (I.put q (.agg az) (s x))):=by
 refine⟨rfl,rfl,λ_ _=>rfl,λ_ _=>rfl,?_,?_,?_,?_,?_,?_,?_⟩<;>intros<;>simp[cZ.take,cZ.jC]
def s4 (s:ar) (fx rs:List Nat):Nat->List I->Bool->Prop
 |_,[],_=>True
 |k,o::r,b=>(o= .hole\/(o=s k/\o.hf=true/\fx.contains k=true/\rs.contains k=false))/\s4 s fx rs (k+1) r b
theorem p5 {s:ar} {fx:List Nat} {fM:List ResultVar} {outs:List I} (h:s4 s fx (fM.map kt) 0 outs true):∀(i:Nat) (o:I),outs[i]? =some o->o= .hole\/(o=s i/\o.hf=true/\i∈fx/\i∉fM.map kt):=by
 have key:∀(outs:List I) (k:Nat),s4 s fx (fM.map kt) k outs true->∀(i:Nat) (o:I),outs[i]? =some o->o= .hole\/(o=s (k+i)/\o.hf=true/\k+i∈fx/\k+i∉fM.map kt):=by
  intro outs;induction outs with
  |nil=>intro k _ i o h;simp at h
  |cons a outs ih=>
   intro k h i o cy;cases i with
   |zero=>
    simp at cy;subst cy;rcases h.1 with h|⟨ag,ah,aN,bg⟩
    .exact .inl h
    .exact .inr ⟨ag,ah,by simpa using aN,by simpa using bg⟩
   |succ i=>
    have:=ih (k+1) h.2 i o (by simpa using cy);rw[show k+(i+1)=k+1+i by omega];exact this
 intro i o cy;have:=key outs 0 h i o cy;simpa using this
theorem nZ {s:ar} {fx rs:List Nat} {k:Nat} {l:List I} (h:s4 s fx rs (k+1) l true):s4 s fx rs k (.hole::l) true:=⟨.inl rfl,h⟩
theorem p6 {s:ar} {fx rs:List Nat} {k:Nat} {o:I} {l:List I} (ag:o=s k) (ah:o.hf=true) (aN:fx.contains k=true) (bg:rs.contains k=false) (h:s4 s fx rs (k+1) l true):s4 s fx rs k (o::l) true:=⟨.inr ⟨ag,ah,aN,bg⟩,h⟩
theorem p7 {s:ar} {fx rs:List Nat} {k:Nat}:s4 s fx rs k [] true:=trivial
theorem l1 {Q:Exit->ar->Prop} {ros:List cb} {k:List Nat} {b:J} (h:cP C (ab l) ros none (λ_ s=>eK (dc C b Q) (ab (jS k s)))):dc C (.seq (.bW ros (some k)) b) Q (ab l):=uv (λ_ _ h=>h) h
theorem bk.nil {C:cl} {f:FuncId} {args:List I} {r:I} {outs:List I} (i:Nat) (h:bk C f (args.set i (.slice [])) r outs) (an:args[i]? =some .bz):bk C f args r outs:=by
 intro w F X S vs hl aS;have j3:=aS.dF i;have ae:gu args i= .bz:=by simp[gu,List.getD,an]
 rw[ae]at j3;have aT:aO w F (gu args) (hW vs) (.slice []) (hW vs i) (λ_=>False):=by
  rw[aO.cT rfl]at j3⊢;refine⟨j3.1,?_⟩;have ah:=j3.2;simp only[ax]at ah⊢;exact .inl ⟨trivial,none,0,ah,Nat.zero_le _,λ_=>rfl⟩
 have ah:=aS.wk (t:=i) rfl aT;have aX:dD (gu args) i (.slice [])=gu (args.set i (.slice [])):=by
  funext t;have e6:i<args.length:=(List.getElem?_eq_some_iff.1 an).1;by_cases bj:t=i
  .subst bj;simp[dD,gu,List.getD,e6]
  .have:i≠t:=λe=>bj e.symm;simp[dD,bj,gu,List.getD,this]
 have a6:dD (hW vs) i (hW vs i)=hW vs:=by
  funext t;by_cases bj:t=i
  .subst bj;simp[dD]
  .simp[dD,bj]
 rw[aX,a6]at ah;exact h w F X _ vs (by simpa using hl) ah
def s5 (C:cl) (s:ar) (y:Nat) (q:List Nat) (b:Int):od->Option I->Option (I×ar)
 | .slice e,some (.ao sz xs)=>(match gB xs 0 b with
   |some t=>if(C.T e).ok=true then(match db s (.h y q)with|some (_,s1)=>some (.ao sz t,s1)|none=>none)else none
   |none=>none)
 |_,_=>none
theorem CM (C:cl) (s:ar) (T:TypeId) (y:Nat) (q:List Nat):(∀k b,eE C s T (.h y q) none (some (.int k b))=s5 C s y q b (C.T T).k (I.sub q (s y)))/\
  (∀k b di,eE C s T (.h y q) (some (.int di 0)) (some (.int k b))=s5 C s y q b (C.T T).k (I.sub q (s y)))/\
  (∀e sz xs b t,gB xs 0 b=some t->s5 C s y q b (.slice e) (some (.ao sz xs))=if(C.T e).ok=true then(match db s (.h y q)with|some (_,s1)=>some (.ao sz t,s1)|none=>none)else none):=by
 have key:∀(dv:Option I) (k:IntKind) (b:Int),iN 0 dv=some 0->eE C s T (.h y q) dv (some (.int k b))=s5 C s y q b (C.T T).k (I.sub q (s y)):=by
  intro dv k b ba;simp only[eE];generalize (C.T T).k=mj;cases mj<;>first|rfl|skip
  rename_i e;cases ae:I.sub q (s y)with
  |none=>simp only[ae];rfl
  |some d=>
   cases d with
   |ao sz xs=>
    have CN:iN xs.length (some (.int k b))=if 0<=b then some b.toNat else none:=rfl;simp only[ae,ba,CN,s5,gB];by_cases ad:0<=b
    .by_cases aq:b<=xs.length
     .have ag:b.toNat<=xs.length:=by omega
      simp only[ad,aq,ag,if_true,true_and,Int.le_refl,and_self,Int.toNat_zero,List.drop_zero];rfl
     .have ag:¬b.toNat<=xs.length:=by omega
      simp only[ad,aq,ag,if_true,if_false,and_false,false_and,Int.le_refl]
    .simp only[ad,if_false,false_and,and_false]
   |_=>simp only[ae];rfl
 refine⟨λk b=>key _ _ _ rfl,λk b di=>key _ _ _ (by simp[iN]),λe sz xs b t h=>?_⟩;simp only[s5,h]
def IG (s:ar) (y:Nat):I->Option (I×ar)
 | .agg ds=>if I.ef ds then none else some (.ad y 0,s)
 |_=>none
theorem CO (C:cl) (l:List (Nat×I)) (e2:Bool) (x y:aI):bT C (ab l) (.jB e2 x y)=dn (ab l) (jB e2 (aP (ab l) x) (aP (ab l) y)):=by simp only[bT,ox]
theorem Od (C:cl) (l:List (Nat×I)) (dst:Option Nat) (os:List cb) (K:Option (List fS)->ar->Prop):
  (∀e2 x y,cP C (ab l) (⟨dst,.jB e2 x y,none⟩::os) none K=ek C dst os K (dn (ab l) (jB e2 (aP (ab l) x) (aP (ab l) y))))/\
  (∀a e2 x y,cP C (ab l) (⟨dst,.jB e2 x y,none⟩::os) (some a) K=ev C l (use (ab l) (.jB e2 x y)) (dR (ab l) (.jB e2 x y)) dst os a K (dn (ab l) (jB e2 (aP (ab l) x) (aP (ab l) y))))/\
  (∀e2 x y t b,cS C l dst (.jB e2 x y) t b os none K (.bool b)=ek C dst os K (dn (ab l) (jB e2 (aP (ab l) x) (aP (ab l) y))))/\
  (∀a e2 x y t b,cS C l dst (.jB e2 x y) t b os (some a) K (.bool b)=ev C l (t::use (ab l) (.jB e2 x y)) (dR (ab l) (.jB e2 x y)) dst os a K (dn (ab l) (jB e2 (aP (ab l) x) (aP (ab l) y)))):=
 ⟨λ_ x y=>(j5 rfl).trans (congrArg _ (CO ..)),λ_ _ x y=>(kf rfl).trans (congrArg _ (CO ..)),λ_ x y _ _=>(gi rfl).trans (congrArg _ (CO ..)),λ_ _ x y _ _=>(gj rfl).trans (congrArg _ (CO ..))⟩
theorem Oe (e2:Bool) (k:IntKind) (a b:Int):jB e2 (.int k a) (.int k b)=some (.int k (ju e2 a b)):=if_pos rfl
theorem jG {C:cl} {l:List (Nat×I)} {os:List cb} {K:Option (List fS)->ar->Prop} {dst:Option Nat} (T:TypeId) (x:aI):
  cP C (ab l) (⟨dst,.kr T x,none⟩::os) none K=ek C dst os K (kr (ab l) (aP (ab l) x)):=j5 rfl
theorem jH:(∀(t x k:Nat),jP t (.ad x k)= .ad x k)/\(∀(l:List (Nat×I)) (t x k:Nat),fin (ab l) (some t) (.ad x k)=ab ((t,.ad x k)::l))/\(∀x k:Nat,I.plain (.ad x k)=true)/\
  (∀(s:ar) (x k:Nat),j6 s (.ad x k)=some (.ad x k,s))/\(∀(t y k:Nat),da t (.ad y k)=if y=t then .hole else .ad y k)/\(∀(t y k:Nat),ct t (.ad y k)= .ad y k)/\(∀x k:Nat,I.wd (.ad x k)=1):=
 ⟨λ_ _ _=>rfl,λl t x k=>by simp only[fin,I.plain,if_true,lH],λ_ _=>rfl,λ_ _ _=>rfl,λ_ _ _=>by simp only[da],λ_ _ _=>by simp only[ct],λ_ _=>rfl⟩
theorem jI:(∀(s:ar) y,kr s (.h y [])=IG s y (s y))/\(∀(s:ar) y az,IG s y (.agg az)=if I.ef az then none else some (.ad y 0,s))/\
  (∀k i ds d,B0 (d::ds) i k=if k=0 then some i else if d.wd<=k then B0 ds (i+1) (k-d.wd)else none):=
 ⟨λs y=>by simp only[kr,IG];cases s y<;>rfl,λ_ _ _=>rfl,λ_ _ _ _=>rfl⟩
theorem CP {α:Type} {l:List α} {i:Nat} {x:α} (h:l[i]? =some x) (u:α->I) (a:I):((l.map u).set i a)[i]? =some a:=by
 have:i<l.length:=(List.getElem?_eq_some_iff.1 h).1;rw[List.getElem?_set_self (by simpa using this)]
theorem CQ {α:Type} (l:List α) (u:α->I) (i:Nat) (a b:I):((l.map u).set i a).set i b=(l.map u).set i b:=List.set_set ..
end
end Go.c_
