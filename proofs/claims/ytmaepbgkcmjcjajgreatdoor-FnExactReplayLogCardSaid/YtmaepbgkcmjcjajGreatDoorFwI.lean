/- Part of a proof that a law returns true for every input. No condition. -/
import Derived.Test.YtmaepbgkcmjcjajGreatDoorFwH
import Derived.Laws.Externs
import Derived.Lib.Bytealg
namespace Go.ep
open List Option Go.IntKind Nat Or
theorem Xe {C:cx} {f:FuncId} {fn:Func} (bK:C.P.funcs[f]? =some fn) (mI:(fn.name== "runtime.NumGoroutine")=false) (ab:fn.body.isNone=true) (aX:Extern.findNext fn=none)
  {E:Array Value->Sem Value} (he:Extern.find fn=some E) (a:azq) (c:UInt8) (n:Int) (Fb:∀w,(E #[.string ⟨⟨a⟩⟩,.int .u8 c.toNat]).run C.P w= .ok (.int .i64 n) w):aZ C f [.str a,.int .u8 c.toNat] (.int .i64 n) []:=by
 intro w F X S vs hl aR;have a_:=pk (aR.eB 0);have ad:=qy (aR.eB 1);have agG:vs=[.string ⟨⟨a⟩⟩,.int .u8 c.toNat]:=by
  match vs,hl with
  |[x,y],_=>
   have fY:x= .string ⟨⟨a⟩⟩:=a_;have aP:y= .int .u8 c.toNat:=ad;rw[fY,aP]
 subst agG;refine .inr ⟨.int .i64 n,w,?_,F,S,?_⟩
 .rw[run_callFunc_extern bK mI ab aX he,Fb];rfl
 .refine⟨aR.iq,aR.iS,aR.gi,aR.fG,aR.gL,aR.gj,aR.e1,λt=>?_,aR.old,aR.size,aR.os,aR.tape,aR.output,aR.gz⟩;cases t with
  |zero=>exact(aQ.du rfl).2 ⟨rfl,by simp only[dd,jO,iG];rw[show gl (.int .i64 n::[]) 0= .int .i64 n from rfl,aB];rfl⟩
  |succ t=>
   show aQ w F _ _ (gl [I.int .i64 n] (t+1)) _ _;rw[show gl [I.int .i64 n] (t+1)= .hole from rfl,aQ];trivial
theorem aZ.wide {C:cx} {f:FuncId} {as:azy} {r h4:I} {outs:azy} (h:aZ C f as r outs) (hw:fP r h4) (a8:r.tree=true) (bS:I.e7 outs=[]):aZ C f as h4 outs:=by
 intro w F X S vs hl aR;refine rn.mono (h w F X S vs hl aR) ?_;rintro v aO ⟨cq,a7,bI⟩;have axD:∀(k:Nat) (l:azy),I.e7 ((num k l).map (·.2))=I.e7 l:=by
  intro k l;induction l generalizing k with
  |nil=>rfl
  |cons a l ih=>simp only[num,map_cons,I.e7,ih]
 have BW:∀(k:Nat) (l:azy) (p:Nat×I),p∈num k l->∃i,l[i]? =some p.2/\p.1=k+i:=by
  intro k l;induction l generalizing k with
  |nil=>intro p ay;cases ay
  |cons a l ih=>
   intro p ay;rcases mem_cons.1 ay with rfl|ay
   .exact⟨0,rfl,rfl⟩
   .obtain⟨i,ad,af⟩:=ih (k+1) p ay;exact⟨i+1,by simpa using ad,by omega⟩
 have IL:I.e7 (h4::outs)=[]:=by
  have:h4.tree=true:=hw.tree a8;simp[I.e7,NK this,bS]
 have Oz:xU (gl (r::outs)) (num 0 (h4::outs)):=by
  intro p ay;obtain⟨i,ad,af⟩:=BW 0 _ p ay;have ai:p.1=i:=by omega
  cases i with
  |zero=>
   simp at ad;right;rw[ai,<-ad];refine⟨a8,hw,?_⟩;intro dp fw;refine .inl λhm=>?_;have:dp.2.aa=[]:=by
    have key:∀(as:azy) (a:I),a∈as->I.e7 as=[]->a.aa=[]:=by
     intro as;induction as with
     |nil=>intro a h;cases h
     |cons b as ih=>
      intro a h he;simp only[I.e7,append_eq_nil_iff]at he;rcases mem_cons.1 h with rfl|h
      .exact he.1
      .exact ih a h he.2
    obtain⟨j,g1,_⟩:=BW 0 _ dp fw;exact key _ _ (mem_of_getElem? g1) IL
   rw[this]at hm;cases hm
  |succ i=>
   left;rw[ai];simp only[gl,List.getD];simp at ad;simp[ad]
 obtain⟨vS,eM,af⟩:=bI.NX Oz;refine⟨vS,eM,?_⟩;rw[Fi];exact af
section
variable {C:cx} {l:azx} {os:List cC} {K:Option (List fQ)->al->Prop} {dst:Option Nat}
def s3 (s:al):List dz->Prop
 |[]=>True
 |p::ps=>p.ok s/\s3 s ps
theorem Jc {s:al}:∀{ps:List dz},s3 s ps->∀p∈ps,p.ok s
 |p::ps,h,q,c6=>by
  rcases mem_cons.1 c6 with rfl|c6
  .exact h.1
  .exact Jc h.2 q c6
def uA:List dz->Bool
 |[]=>true
 |p::ps=>p.o.dc&&uA ps
theorem Jd:∀{ps:List dz},uA ps=true->∀p∈ps,p.o.dc=true
 |p::ps,h,q,c6=>by
  simp only[uA,Bool.and_eq_true]at h;rcases mem_cons.1 c6 with rfl|c6
  .exact h.1
  .exact Jd h.2 q c6
theorem Xf {f:bC} {args:List bC} {g:FuncId} {caps:azy} {K:azt->I->al->Prop} (ps:List dz) (r:I)
  (ad:bA (ar l) f= .fn g caps) (ic:I.e_ caps=true) (af:ps.map (·.a)=lD (ar l) args++caps) (aG:s3 (ar l) ps) (bh:j0 ps=true)
  (b6:aZ C g (ps.map (·.d)) r (ps.map (·.o))) (dt:r.res=true) (dj:ml ps=false\/(r.dc&&uA ps)=true) (hK:K (uz ps) r (jq (ga (ar l) ps) ps)):qI C (ar l) (.call f args) K:=by
 refine⟨g,caps,ps,r,ad,ic,by rw[af,BT],Jc aG,bh,b6,dt,?_,hK⟩;intro hl;rcases dj with dj|dj
 .rw[dj]at hl;cases hl
 .rw[Bool.and_eq_true]at dj;exact⟨dj.1,Jd dj.2⟩
theorem agH {f:bC} {args:List bC} {g:FuncId} {caps:azy} {K:azt->I->al->Prop} {us:azt} (ps:List dz) (r:I) (ao:oo (ar l) (lB (ar l) us)=true)
  (ad:bA (ar l) f= .fn g caps) (ic:I.e_ caps=true) (af:ps.map (·.a)=lD (ar l) args++caps) (aG:s3 (ar l) ps) (bh:j0 ps=true)
  (b6:aZ C g (ps.map (·.d)) r (ps.map (·.o))) (dt:r.res=true) (dj:ml ps=false\/(r.dc&&uA ps)=true)
  (hK:oo (jq (ga (ar l) ps) ps) (lB (ar l) us)=true/\K (us++uz ps) r (p2 (jq (ga (ar l) ps) ps) (lB (ar l) us))):qI C (ar l) (.nd f args us) K:=by
 refine⟨ao,g,caps,ps,r,ad,ic,by rw[af,BT],Jc aG,bh,b6,dt,?_,hK⟩;intro hl;rcases dj with dj|dj
 .rw[dj]at hl;cases hl
 .rw[Bool.and_eq_true]at dj;exact⟨dj.1,Jd dj.2⟩
theorem Je {f:bC} {args:List bC} {g:FuncId} {caps:azy} {r:I} {us:azt} (ps:List dz) (b6:aZ C g (ps.map (·.d)) r (ps.map (·.o)))
  (ad:bA (ar l) f= .fn g caps) (ic:I.e_ caps=true) (af:ps.map (·.a)=lD (ar l) args++caps) (aG:s3 (ar l) ps) (bh:j0 ps=true)
  (dt:r.res=true) (dj:ml ps=false\/(r.dc&&uA ps)=true) (ao:oo (ar l) (lB (ar l) us)=true)
  (hK:oo (jq (ga (ar l) ps) ps) (lB (ar l) us)=true/\dK C (fin (p2 (jq (ga (ar l) ps) ps) (lB (ar l) us)) dst r) os none K):dK C (ar l) (⟨dst,.nd f args us,none⟩::os) none K:=by
 simp only[dK,oX,sZ];exact agH ps r ao ad ic af aG bh b6 dt dj hK
theorem Xg (s:al):lB s []=[]/\(∀u us,lB s (u::us)=(u,s u)::lB s us)/\oo s []=true/\(∀p L,oo s (p::L)=(p.2.gP s&&oo s L))/\p2 s []=s/\(∀p L,p2 s (p::L)=p2 (eu s p.1 p.2) L)/\
  (∀x,I.gP s (.h x [])=(s x).own)/\(∀x k,I.gP s (.ab x k)= !(s x).plain)/\(∀f c,I.gP s (.fn f c)=I.rq s c)/\I.rq s []=true/\(∀d ds,I.rq s (d::ds)=(d.gP s&&I.rq s ds))/\
  (∀k n,I.gP s (.int k n)=true)/\(∀b,I.gP s (.bool b)=true)/\(∀x,I.gP s (.str x)=true)/\(∀x,I.gP s (.slice x)=true)/\(∀x,I.gP s (.ref x)=true)/\I.gP s .bf=true/\I.gP s .eA=true/\(∀aF,I.gP s (.agg aF)=I.e_ aF):=
 ⟨rfl,λ_ _=>rfl,rfl,λ_ _=>rfl,rfl,λ_ _=>rfl,λ_=>rfl,λ_ _=>rfl,λ_ _=>rfl,rfl,λ_ _=>rfl,λ_ _=>rfl,λ_=>rfl,λ_=>rfl,λ_=>rfl,λ_=>rfl,rfl,rfl,λ_=>rfl⟩
theorem k1 {f:bC} {args:List bC} {g:FuncId} {caps:azy} {r:I} (ps:List dz) (b6:aZ C g (ps.map (·.d)) r (ps.map (·.o)))
  (ad:bA (ar l) f= .fn g caps) (ic:I.e_ caps=true) (af:ps.map (·.a)=lD (ar l) args++caps) (aG:s3 (ar l) ps) (bh:j0 ps=true)
  (dt:r.res=true) (dj:ml ps=false\/(r.dc&&uA ps)=true)
  (hK:dK C (fin (jq (ga (ar l) ps) ps) dst r) os none K):dK C (ar l) (⟨dst,.call f args,none⟩::os) none K:=by
 simp only[dK,oX,sZ];exact Xf ps r ad ic af aG bh b6 dt dj hK
theorem OA {a:List fQ} {f:bC} {args:List bC} {g:FuncId} {caps:azy} {r:I} (ps:List dz) (b6:aZ C g (ps.map (·.d)) r (ps.map (·.o)))
  (ad:bA (ar l) f= .fn g caps) (ic:I.e_ caps=true) (af:ps.map (·.a)=lD (ar l) args++caps) (aG:s3 (ar l) ps) (bh:j0 ps=true)
  (dt:r.res=true) (dj:ml ps=false\/(r.dc&&uA ps)=true)
  (hK:dK C (fin (jq (ga (ar l) ps) ps) dst r) os (some (kY (ar l) (use (ar l) (.call f args)) dst (uz ps) r::a)) K):dK C (ar l) (⟨dst,.call f args,none⟩::os) (some a) K:=by
 simp only[dK,oX,sZ];exact Xf ps r ad ic af aG bh b6 dt dj hK
theorem la (s:al):s3 s []=True/\(∀p ps,s3 s (p::ps)=(p.ok s/\s3 s ps))/\(∀a d o,dz.ok s ⟨a,false,d,o⟩=(view s a=some d))/\
  (∀x q d o,dz.ok s ⟨.h x q,true,d,o⟩=(I.sub q (s x)=some d/\d.hX=true/\(o= .hole\/(o.hX=true/\xN d o=true)))):=by
 refine⟨rfl,λ_ _=>rfl,λ_ _ _=>?_,λ_ _ _ _=>?_⟩<;>simp[dz.ok]
theorem kG:(∀d,I.own (.aM d)=true)/\(∀n xs,I.own (.ag n xs)=true)/\(∀d,I.hX (.aM d)=true)/\(∀n xs,I.hX (.ag n xs)=true)/\(∀aF,I.hX (.agg aF)= !I.e_ aF)/\
  (∀d e,xN (.aM d) (.aM e)=true)/\(∀n xs m c8,xN (.ag n xs) (.ag m c8)=true)/\(∀a b,xN (.agg a) (.agg b)=(I.fc a==I.fc b)):=⟨λ_=>rfl,λ_ _=>rfl,λ_=>rfl,λ_ _=>rfl,λ_=>rfl,λ_ _=>rfl,λ_ _ _ _=>rfl,λ_ _=>rfl⟩
theorem kl (s:al):ga s []=s/\jq s []=s/\(∀p ps,ga s (p::ps)=ga (dz.take s p) ps)/\(∀p ps,jq s (p::ps)=jq (dz.kV s p) ps)/\
  (∀a d o,dz.take s ⟨a,false,d,o⟩=s)/\(∀a d o,dz.kV s ⟨a,false,d,o⟩=s)/\(∀x q d o,dz.take s ⟨.h x q,true,d,o⟩=eu (jB x s) x (I.put q d.ej (s x)))/\
  (∀a d,dz.kV s ⟨a,true,d,.hole⟩=s)/\(∀x q d e,dz.kV s ⟨.h x q,true,d,.aM e⟩=eu (oR x s) x (I.put q (.aM e) (s x)))/\
  (∀x q d n xs,dz.kV s ⟨.h x q,true,d,.ag n xs⟩=eu (oR x s) x (I.put q (.ag n xs) (s x)))/\
  (∀x q d aF,dz.kV s ⟨.h x q,true,d,.agg aF⟩=eu (oR x s) x (I.put q (.agg aF) (s x))):=by
 refine⟨rfl,rfl,λ_ _=>rfl,λ_ _=>rfl,?_,?_,?_,?_,?_,?_,?_⟩<;>intros<;>simp[dz.take,dz.kV]
def x5 (s:al) (fx rs:azt):Nat->azy->Bool->Prop
 |_,[],_=>True
 |k,o::r,b=>(o= .hole\/(o=s k/\o.hX=true/\fx.contains k=true/\rs.contains k=false))/\x5 s fx rs (k+1) r b
theorem hH {s:al} {fx:azt} {fy:List ResultVar} {outs:azy} (h:x5 s fx (fy.map k_) 0 outs true):∀(i:Nat) (o:I),outs[i]? =some o->o= .hole\/(o=s i/\o.hX=true/\i∈fx/\i∉fy.map k_):=by
 have key:∀(outs:azy) (k:Nat),x5 s fx (fy.map k_) k outs true->∀(i:Nat) (o:I),outs[i]? =some o->o= .hole\/(o=s (k+i)/\o.hX=true/\k+i∈fx/\k+i∉fy.map k_):=by
  intro outs;induction outs with
  |nil=>intro k _ i o h;simp at h
  |cons a outs ih=>
   intro k h i o bS;cases i with
   |zero=>
    simp at bS;subst bS;rcases h.1 with h|⟨ad,af,aG,bh⟩
    .exact .inl h
    .exact .inr ⟨ad,af,by simpa using aG,by simpa using bh⟩
   |succ i=>
    have:=ih (k+1) h.2 i o (by simpa using bS);rw[show k+(i+1)=k+1+i by omega];exact this
 intro i o bS;have:=key outs 0 h i o bS;simpa using this
theorem dy {s:al} {fx rs:azt} {k:Nat} {l:azy} (h:x5 s fx rs (k+1) l true):x5 s fx rs k (.hole::l) true:=⟨.inl rfl,h⟩
theorem js {s:al} {fx rs:azt} {k:Nat} {o:I} {l:azy} (ad:o=s k) (af:o.hX=true) (aG:fx.contains k=true) (bh:rs.contains k=false) (h:x5 s fx rs (k+1) l true):x5 s fx rs k (o::l) true:=⟨.inr ⟨ad,af,aG,bh⟩,h⟩
theorem hI {s:al} {fx rs:azt} {k:Nat}:x5 s fx rs k [] true:=trivial
theorem mq {Q:Exit->al->Prop} {ros:List cC} {k:azt} {b:aA} (h:dK C (ar l) ros none (λ_ s=>eV (bm C b Q) (ar (gZ k s)))):bm C (.seq (.eD ros (some k)) b) Q (ar l):=zw (λ_ _ h=>h) h
theorem Jf {K:al->Prop} {s:al} (cO:azx) (h:xU s cO) (aw:K (ar cO)):eV K s:=.inr ⟨cO,h,aw⟩
def I.agI:I->Bool
 | .tuple _=>true
 | .cj _=>true
 |_=>false
theorem x6 {d e:I} (a8:d.tree=true) (aX:d.agI=false) (h:d.share=e):fP d e:=by
 subst h;exact .share d a8 (λvs e=>by subst e;cases aX) (λo e=>by subst e;cases aX)
theorem Jg:(∀neg e r,x2 neg (.slice e) (some r)=some (sK neg r))/\(∀neg,sK neg none= .gx)/\sK false (some false)= .bool false/\sK true (some false)= .bool true/\sK false (some true)= .bool true/\sK true (some true)= .bool false/\(∀s,mg s .bf=some (some true)):=
 ⟨λ_ _ _=>rfl,λ_=>rfl,rfl,rfl,rfl,rfl,λ_=>rfl⟩
theorem Xh {α:Type} {xs:List α} (h:xs.isEmpty=true) (e:α->I) (s:al):mg s (.slice (xs.map e))=some none:=by
 have:xs=[]:=isEmpty_iff.1 h;subst this;rfl
theorem Xi {α:Type} {xs:List α} (h:xs.isEmpty=false) (e:α->I) (s:al):mg s (.slice (xs.map e))=some (some false):=by
 cases xs with
 |nil=>cases h
 |cons x xs=>rfl
def agJ:Option I->Option azu
 |some (.ag _ xs)=>some (if xs=[]then none else some false)
 |_=>none
theorem Jh (s:al) (x:Nat) (q:azt):mg s (.h x q)=agJ (I.sub q (s x)):=by
 simp only[mg];rfl
theorem aZ.nil {C:cx} {f:FuncId} {args:azy} {r:I} {outs:azy} (i:Nat) (h:aZ C f (args.set i (.slice [])) r outs) (ai:args[i]? =some .bf):aZ C f args r outs:=by
 intro w F X S vs hl aR;have lA:=aR.eB i;have aa:gl args i= .bf:=by simp[gl,List.getD,ai]
 rw[aa]at lA;have aJ:aQ w F (gl args) (iG vs) (.slice []) (iG vs i) (λ_=>False):=by
  rw[aQ.du rfl]at lA⊢;refine⟨lA.1,?_⟩;have af:=lA.2;simp only[aB]at af⊢;exact .inl ⟨trivial,none,0,af,zero_le _,λ_=>rfl⟩
 have af:=aR.Bp (t:=i) rfl aJ;have aP:eu (gl args) i (.slice [])=gl (args.set i (.slice [])):=by
  funext t;have eQ:i<args.length:=(List.getElem?_eq_some_iff.1 ai).1;by_cases a8:t=i
  .subst a8;simp[eu,gl,List.getD,eQ]
  .have:i≠t:=λe=>a8 e.symm;simp[eu,a8,gl,List.getD,this]
 have aW:eu (iG vs) i (iG vs i)=iG vs:=by
  funext t;by_cases a8:t=i
  .subst a8;simp[eu]
  .simp[eu,a8]
 rw[aP,aW]at af;exact h w F X _ vs (by simpa using hl) af
theorem ou (a b:azy):I.shares (a++b)=I.shares a++I.shares b:=by simp only[I.xz,map_append]
def p8:Option (I×al)->Option (I×al)
 |some (av,s)=>if(av.tree&& !av.Fk)=true then some (av.share,s)else none
 |none=>none
theorem ov (s:al):(∀n xs,p8 (some (.ag n xs,s))=some (.slice (I.shares xs),s))/\(∀d,p8 (some (.aM d,s))=some (.ref d.share,s))/\(∀ds,p8 (some (.agg ds,s))=some (.agg (I.shares ds),s)):=
 ⟨λ_ _=>rfl,λ_=>rfl,λ_=>rfl⟩
theorem Ji {s:al} {b8:e6} {K:azt->I->al->Prop}:qI C s (.shr b8) K=(match p8 (cl C s b8)with
  |some (av,s1)=>K (mi s b8) av s1
  |none=>False):=by
 apply propext;cases he:cl C s b8 with
 |none=>
  simp only[p8];exact⟨λ⟨av,s1,ad,_⟩=>(by rw[he]at ad;cases ad),λh=>h.elim⟩
 |some p=>
  obtain⟨av,s1⟩:=p;simp only[p8];by_cases a8:(av.tree&& !av.Fk)=true
  .rw[if_pos a8];simp only[Bool.and_eq_true,Bool.not_eq_true']at a8;constructor
   .rintro⟨agK,agL,ad,af,aG,bh⟩;rw[he]at ad;simp only[some.injEq,Prod.mk.injEq]at ad;obtain⟨rfl,rfl⟩:=ad;exact bh
   .intro h;exact⟨av,s1,he,a8.1,λvs e=>by subst e;simp[I.Fk]at a8,h⟩
  .rw[if_neg a8];constructor
   .rintro⟨agK,agL,ad,af,aG,bh⟩;rw[he]at ad;simp only[some.injEq,Prod.mk.injEq]at ad;obtain⟨rfl,rfl⟩:=ad;refine a8 ?_;rw[af];cases av<;>first|rfl|exact(aG _ rfl).elim
   .intro h;exact h.elim
theorem ow (b8:e6):(dK C (ar l) (⟨dst,.shr b8,none⟩::os) none K=p6 C dst os K (p8 (cl C (ar l) b8)))/\
  (∀a,dK C (ar l) (⟨dst,.shr b8,none⟩::os) (some a) K=qJ C l (use (ar l) b8) (mi (ar l) b8) dst os a K (p8 (cl C (ar l) b8)))/\
  (∀t b,lW C l dst (.shr b8) t b os none K (.bool b)=p6 C dst os K (p8 (cl C (ar l) b8)))/\
  (∀a t b,lW C l dst (.shr b8) t b os (some a) K (.bool b)=qJ C l (t::use (ar l) b8) (mi (ar l) b8) dst os a K (p8 (cl C (ar l) b8))):=by
 refine⟨?_,λa=>?_,λt b=>?_,λa t b=>?_⟩
 .simp only[dK,oX,Ji];cases p8 (cl C (ar l) b8)with
  |none=>rfl
  |some p=>rfl
 .simp only[dK,oX,Ji];cases p8 (cl C (ar l) b8)with
  |none=>rfl
  |some p=>rfl
 .simp only[lW,if_true,Ji];cases p8 (cl C (ar l) b8)with
  |none=>rfl
  |some p=>rfl
 .simp only[lW,if_true,Ji];cases p8 (cl C (ar l) b8)with
  |none=>rfl
  |some p=>rfl
theorem Jj {α:Type} {u e:α->I} (h:∀x,fP (u x) (e x)):∀xs:List α,mF (xs.map u) (xs.map e)
 |[]=>.nil
 |x::xs=>.cons (h x) (Jj h xs)
def x7 (C:cx) (s:al) (y:Nat) (q:azt) (b:Int):qv->Option I->Option (I×al)
 | .slice e,some (.ag sz xs)=>(match gG xs 0 b with
   |some t=>if(C.T e).ok=true then(match dL s (.h y q)with|some (_,s1)=>some (.ag sz t,s1)|none=>none)else none
   |none=>none)
 |_,_=>none
theorem Xj (C:cx) (s:al) (T:TypeId) (y:Nat) (q:azt):(∀k b,i_ C s T (.h y q) none (some (.int k b))=x7 C s y q b (C.T T).k (I.sub q (s y)))/\
  (∀k b dv,i_ C s T (.h y q) (some (.int dv 0)) (some (.int k b))=x7 C s y q b (C.T T).k (I.sub q (s y)))/\
  (∀e sz xs b t,gG xs 0 b=some t->x7 C s y q b (.slice e) (some (.ag sz xs))=if(C.T e).ok=true then(match dL s (.h y q)with|some (_,s1)=>some (.ag sz t,s1)|none=>none)else none):=by
 have key:∀(fS:Option I) (k:IntKind) (b:Int),jX 0 fS=some 0->i_ C s T (.h y q) fS (some (.int k b))=x7 C s y q b (C.T T).k (I.sub q (s y)):=by
  intro fS k b a_;simp only[i_];generalize (C.T T).k=nA;cases nA<;>first|rfl|skip
  rename_i e;cases aa:I.sub q (s y)with
  |none=>simp only[aa];rfl
  |some d=>
   cases d with
   |ag sz xs=>
    have Jk:jX xs.length (some (.int k b))=if 0<=b then some b.toNat else none:=rfl;simp only[aa,a_,Jk,x7,gG];by_cases ab:0<=b
    .by_cases au:b<=xs.length
     .have ad:b.toNat<=xs.length:=by omega
      simp only[ab,au,ad,if_true,true_and,Int.le_refl,and_self,Int.toNat_zero,drop_zero];rfl
     .have ad:¬b.toNat<=xs.length:=by omega
      simp only[ab,au,ad,if_true,if_false,and_false,false_and,Int.le_refl]
    .simp only[ab,if_false,false_and,and_false]
   |_=>simp only[aa];rfl
 refine⟨λk b=>key _ _ _ rfl,λk b dv=>key _ _ _ (by simp[jX]),λe sz xs b t h=>?_⟩;simp only[x7,h]
def OB (s:al) (y:Nat):I->Option (I×al)
 | .agg ds=>if I.e_ ds then none else some (.ab y 0,s)
 |_=>none
theorem Xk (C:cx) (l:azx) (dst:Option Nat) (os:List cC) (K:Option (List fQ)->al->Prop):
  (∀x,dK C (ar l) (⟨dst,.p0 x,none⟩::os) none K=p6 C dst os K (some (bA (ar l) x,ar l)))/\
  (∀a x,dK C (ar l) (⟨dst,.p0 x,none⟩::os) (some a) K=qJ C l (use (ar l) (.p0 x)) (mi (ar l) (.p0 x)) dst os a K (some (bA (ar l) x,ar l))):=
 ⟨λ_=>(x0 rfl).trans (congrArg _ rfl),λ_ _=>(zz rfl).trans (congrArg _ rfl)⟩
theorem BX (C:cx) (l:azx) (dst:Option Nat) (os:List cC) (K:Option (List fQ)->al->Prop):
  (∀x,dK C (ar l) (⟨dst,.pv x,none⟩::os) none K=p6 C dst os K (zA (ar l) (bA (ar l) x)))/\
  (∀a x,dK C (ar l) (⟨dst,.pv x,none⟩::os) (some a) K=qJ C l (use (ar l) (.pv x)) (mi (ar l) (.pv x)) dst os a K (zA (ar l) (bA (ar l) x))):=by
 have e:∀x,cl C (ar l) (.pv x)=zA (ar l) (bA (ar l) x):=λx=>by
  simp only[cl];cases bA (ar l) x<;>rfl
 exact⟨λx=>(x0 rfl).trans (congrArg _ (e x)),λ_ x=>(zz rfl).trans (congrArg _ (e x))⟩
theorem Xl (C:cx) (l:azx) (dst:Option Nat) (os:List cC) (K:Option (List fQ)->al->Prop):
  (dK C (ar l) (⟨dst,.sN,none⟩::os) none K=p6 C dst os K (some (.cj (.mp []),ar l)))/\
  (∀a,dK C (ar l) (⟨dst,.sN,none⟩::os) (some a) K=qJ C l (use (ar l) .sN) (mi (ar l) .sN) dst os a K (some (.cj (.mp []),ar l))):=
 ⟨x0 rfl,λ_=>zz rfl⟩
theorem Jl (C:cx) (l:azx) (T:TypeId) (x i:bC):cl C (ar l) (.jZ T x i)=lC (ar l) (jZ C (ar l) T (bA (ar l) x) (bA (ar l) i)):=by simp only[cl,Oi]
theorem Xm (C:cx) (l:azx) (T:TypeId) (x i v:bC):cl C (ar l) (.k8 T x i v)=de (k8 C (ar l) T (bA (ar l) x) (bA (ar l) i) (bA (ar l) v)):=by simp only[cl,Wl]
theorem OC (C:cx) (l:azx) (dst:Option Nat) (os:List cC) (K:Option (List fQ)->al->Prop):
  (∀T x i,dK C (ar l) (⟨dst,.jZ T x i,none⟩::os) none K=p6 C dst os K (lC (ar l) (jZ C (ar l) T (bA (ar l) x) (bA (ar l) i))))/\
  (∀a T x i,dK C (ar l) (⟨dst,.jZ T x i,none⟩::os) (some a) K=qJ C l (use (ar l) (.jZ T x i)) (mi (ar l) (.jZ T x i)) dst os a K (lC (ar l) (jZ C (ar l) T (bA (ar l) x) (bA (ar l) i))))/\
  (∀T x i t b,lW C l dst (.jZ T x i) t b os none K (.bool b)=p6 C dst os K (lC (ar l) (jZ C (ar l) T (bA (ar l) x) (bA (ar l) i))))/\
  (∀a T x i t b,lW C l dst (.jZ T x i) t b os (some a) K (.bool b)=qJ C l (t::use (ar l) (.jZ T x i)) (mi (ar l) (.jZ T x i)) dst os a K (lC (ar l) (jZ C (ar l) T (bA (ar l) x) (bA (ar l) i)))):=
 ⟨λ_ _ _=>(x0 rfl).trans (congrArg _ (Jl ..)),λ_ _ _ _=>(zz rfl).trans (congrArg _ (Jl ..)),λ_ _ _ _ _=>(Og rfl).trans (congrArg _ (Jl ..)),λ_ _ _ _ _ _=>(Oh rfl).trans (congrArg _ (Jl ..))⟩
theorem OD (C:cx) (l:azx) (dst:Option Nat) (os:List cC) (K:Option (List fQ)->al->Prop):
  (∀T x i v,dK C (ar l) (⟨dst,.k8 T x i v,none⟩::os) none K=p6 C dst os K (de (k8 C (ar l) T (bA (ar l) x) (bA (ar l) i) (bA (ar l) v))))/\
  (∀a T x i v,dK C (ar l) (⟨dst,.k8 T x i v,none⟩::os) (some a) K=qJ C l (use (ar l) (.k8 T x i v)) (mi (ar l) (.k8 T x i v)) dst os a K (de (k8 C (ar l) T (bA (ar l) x) (bA (ar l) i) (bA (ar l) v)))):=
 ⟨λ_ _ _ _=>(x0 rfl).trans (congrArg _ (Xm ..)),λ_ _ _ _ _=>(zz rfl).trans (congrArg _ (Xm ..))⟩
def Xn (T:Bool) (k:azq):Option I->Option I
 |some (.cj (.mp m))=>if T=true then some (.bool (kh k m))else none
 |_=>none
def Xo (T:Bool) (s:al) (y:Nat) (q:azt) (k:azq) (b:Bool):Option I->Option al
 |some (.cj (.mp m))=>if T=true then some (eu (jB y s) y (I.put q (.cj (.mp (ku k b m))) (s y)))else none
 |_=>none
theorem BZ:(∀(C:cx) (s:al) (T:TypeId) y q k,jZ C s T (.h y q) (.str k)=Xn (ri C T) k (I.sub q (s y)))/\(∀k m,Xn true k (some (.cj (.mp m)))=some (.bool (kh k m)))/\
  (∀(C:cx) (s:al) (T:TypeId) y q k b,k8 C s T (.h y q) (.str k) (.bool b)=Xo (ri C T) s y q k b (I.sub q (s y)))/\
  (∀s y q k b m,Xo true s y q k b (some (.cj (.mp m)))=some (eu (jB y s) y (I.put q (.cj (.mp (ku k b m))) (s y)))):=
 ⟨λ_ _ _ _ _ _=>rfl,λ_ _=>rfl,λ_ _ _ _ _ _ _=>rfl,λ_ _ _ _ _ _=>rfl⟩
theorem Jm (C:cx) (l:azx) (fz:Bool) (x y:bC):cl C (ar l) (.kU fz x y)=lC (ar l) (kU fz (bA (ar l) x) (bA (ar l) y)):=by simp only[cl,Oi]
theorem Xp (C:cx) (l:azx) (dst:Option Nat) (os:List cC) (K:Option (List fQ)->al->Prop):
  (∀fz x y,dK C (ar l) (⟨dst,.kU fz x y,none⟩::os) none K=p6 C dst os K (lC (ar l) (kU fz (bA (ar l) x) (bA (ar l) y))))/\
  (∀a fz x y,dK C (ar l) (⟨dst,.kU fz x y,none⟩::os) (some a) K=qJ C l (use (ar l) (.kU fz x y)) (mi (ar l) (.kU fz x y)) dst os a K (lC (ar l) (kU fz (bA (ar l) x) (bA (ar l) y))))/\
  (∀fz x y t b,lW C l dst (.kU fz x y) t b os none K (.bool b)=p6 C dst os K (lC (ar l) (kU fz (bA (ar l) x) (bA (ar l) y))))/\
  (∀a fz x y t b,lW C l dst (.kU fz x y) t b os (some a) K (.bool b)=qJ C l (t::use (ar l) (.kU fz x y)) (mi (ar l) (.kU fz x y)) dst os a K (lC (ar l) (kU fz (bA (ar l) x) (bA (ar l) y)))):=
 ⟨λ_ x y=>(x0 rfl).trans (congrArg _ (Jm ..)),λ_ _ x y=>(zz rfl).trans (congrArg _ (Jm ..)),λ_ x y _ _=>(Og rfl).trans (congrArg _ (Jm ..)),λ_ _ x y _ _=>(Oh rfl).trans (congrArg _ (Jm ..))⟩
theorem agM (fz:Bool) (k:IntKind) (a b:Int):kU fz (.int k a) (.int k b)=some (.int k (k4 fz a b)):=if_pos rfl
theorem agN (fz:Bool) (a b:azq):kU fz (.str a) (.str b)=some (.str (h8 fz a b)):=rfl
theorem x8 {C:cx} {l:azx} {os:List cC} {K:Option (List fQ)->al->Prop} {dst:Option Nat} (T:TypeId) (x:bC):
  dK C (ar l) (⟨dst,.mf T x,none⟩::os) none K=p6 C dst os K (mf (ar l) (bA (ar l) x)):=x0 rfl
theorem x9:(∀(t x k:Nat),uc t (.ab x k)= .ab x k)/\(∀(l:azx) (t x k:Nat),fin (ar l) (some t) (.ab x k)=ar ((t,.ab x k)::l))/\(∀x k:Nat,I.plain (.ab x k)=true)/\
  (∀(s:al) (x k:Nat),zA s (.ab x k)=some (.ab x k,s))/\(∀(t y k:Nat),dI t (.ab y k)=if y=t then .hole else .ab y k)/\(∀(t y k:Nat),c1 t (.ab y k)= .ab y k)/\(∀x k:Nat,I.wd (.ab x k)=1):=
 ⟨λ_ _ _=>rfl,λl t x k=>by simp only[fin,I.plain,if_true,Fj],λ_ _=>rfl,λ_ _ _=>rfl,λ_ _ _=>by simp only[dI],λ_ _ _=>by simp only[c1],λ_ _=>rfl⟩
theorem x_:(∀(s:al) y,mf s (.h y [])=OB s y (s y))/\(∀(s:al) y aF,OB s y (.agg aF)=if I.e_ aF then none else some (.ab y 0,s))/\
  (∀k i ds d,It (d::ds) i k=if k=0 then some i else if d.wd<=k then It ds (i+1) (k-d.wd)else none):=
 ⟨λs y=>by simp only[mf,OB];cases s y<;>rfl,λ_ _ _=>rfl,λ_ _ _ _=>rfl⟩
theorem Fz {α:Type} {l:List α} {i:Nat} {x:α} (h:l[i]? =some x) (u:α->I) (a:I):((l.map u).set i a)[i]? =some a:=by
 have:i<l.length:=(List.getElem?_eq_some_iff.1 h).1;rw[getElem?_set_self (by simpa using this)]
theorem FA {α:Type} (l:List α) (u:α->I) (i:Nat) (a b:I):((l.map u).set i a).set i b=(l.map u).set i b:=set_set ..
end
end Go.ep
