/- Part of a proof that a law returns true for every input. No condition. -/
import Derived.Test.YtklcmlnabkfneaaGreatFwH
import Derived.Laws.Externs
import Derived.Lib.Bytealg
namespace Go.cU
open List Option Go.IntKind Nat Or
section
variable {C:bY} {l:aiE} {os:List bZ} {K:Option (List fa)->ax->Prop} {dst:Option Nat}
def rf (s:ax):List cf->Prop
 |[]=>True
 |p::ps=>p.ok s/\rf s ps
theorem Eh {s:ax}:∀{ps:List cf},rf s ps->∀p∈ps,p.ok s
 |p::ps,h,q,bX=>by
  rcases mem_cons.1 bX with rfl|bX
  .exact h.1
  .exact Eh h.2 q bX
def sD:List cf->Bool
 |[]=>true
 |p::ps=>p.o.cu&&sD ps
theorem Ei:∀{ps:List cf},sD ps=true->∀p∈ps,p.o.cu=true
 |p::ps,h,q,bX=>by
  simp only[sD,Bool.and_eq_true]at h;rcases mem_cons.1 bX with rfl|bX
  .exact h.1
  .exact Ei h.2 q bX
theorem Tk {f:bg} {args:List bg} {g:FuncId} {caps:aiF} {K:aiA->I->ax->Prop} (ps:List cf) (r:I)
  (ab:bp (az l) f= .fn g caps) (iq:I.fY caps=true) (ad:ps.map (·.a)=jF (az l) args++caps) (aA:rf (az l) ps) (aZ:h2 ps=true)
  (bA:aW C g (ps.map (·.d)) r (ps.map (·.o))) (cH:r.res=true) (cI:jV ps=false\/(r.cu&&sD ps)=true) (hK:K (q_ ps) r (hE (eT (az l) ps) ps)):n3 C (az l) (.call f args) K:=by
 refine⟨g,caps,ps,r,ab,iq,by rw[ad,wE],Eh aA,aZ,bA,cH,?_,hK⟩;intro aO;rcases cI with cI|cI
 .rw[cI]at aO;cases aO
 .rw[Bool.and_eq_true]at cI;exact⟨cI.1,Ei cI.2⟩
theorem z7 {f:bg} {args:List bg} {g:FuncId} {caps:aiF} {r:I} (ps:List cf) (bA:aW C g (ps.map (·.d)) r (ps.map (·.o)))
  (ab:bp (az l) f= .fn g caps) (iq:I.fY caps=true) (ad:ps.map (·.a)=jF (az l) args++caps) (aA:rf (az l) ps) (aZ:h2 ps=true)
  (cH:r.res=true) (cI:jV ps=false\/(r.cu&&sD ps)=true)
  (hK:dt C (fin (hE (eT (az l) ps) ps) dst r) os none K):dt C (az l) (⟨dst,.call f args,none⟩::os) none K:=by
 simp only[dt,nt,p8];exact Tk ps r ab iq ad aA aZ bA cH cI hK
theorem z8 (s:ax):rf s []=True/\(∀p ps,rf s (p::ps)=(p.ok s/\rf s ps))/\(∀a d o,cf.ok s ⟨a,false,d,o⟩=(view s a=some d))/\
  (∀x q d o,cf.ok s ⟨.h x q,true,d,o⟩=(I.sub q (s x)=some d/\d.fS=true/\(o= .hole\/(o.fS=true/\q4 d o=true)))):=by
 refine⟨rfl,λ_ _=>rfl,λ_ _ _=>?_,λ_ _ _ _=>?_⟩<;>simp[cf.ok]
theorem z_:(∀d,I.own (.bb d)=true)/\(∀n xs,I.own (.al n xs)=true)/\(∀d,I.fS (.bb d)=true)/\(∀n xs,I.fS (.al n xs)=true)/\(∀ay,I.fS (.agg ay)= !I.fY ay)/\
  (∀d e,q4 (.bb d) (.bb e)=true)/\(∀n xs m ys,q4 (.al n xs) (.al m ys)=true)/\(∀a b,q4 (.agg a) (.agg b)=(I.dH a==I.dH b)):=⟨λ_=>rfl,λ_ _=>rfl,λ_=>rfl,λ_ _=>rfl,λ_=>rfl,λ_ _=>rfl,λ_ _ _ _=>rfl,λ_ _=>rfl⟩
theorem tY (s:ax):eT s []=s/\hE s []=s/\(∀p ps,eT s (p::ps)=eT (cf.take s p) ps)/\(∀p ps,hE s (p::ps)=hE (cf.ia s p) ps)/\
  (∀a d o,cf.take s ⟨a,false,d,o⟩=s)/\(∀a d o,cf.ia s ⟨a,false,d,o⟩=s)/\(∀x q d o,cf.take s ⟨.h x q,true,d,o⟩=de (hA x s) x (I.put q d.cN (s x)))/\
  (∀a d,cf.ia s ⟨a,true,d,.hole⟩=s)/\(∀x q d e,cf.ia s ⟨.h x q,true,d,.bb e⟩=de (k5 x s) x (I.put q (.bb e) (s x)))/\
  (∀x q d n xs,cf.ia s ⟨.h x q,true,d,.al n xs⟩=de (k5 x s) x (I.put q (.al n xs) (s x)))/\
  (∀x q d ay,cf.ia s ⟨.h x q,true,d,.agg ay⟩=de (k5 x s) x (I.put q (.agg ay) (s x))):=by
 refine⟨rfl,rfl,λ_ _=>rfl,λ_ _=>rfl,?_,?_,?_,?_,?_,?_,?_⟩<;>intros<;>simp[cf.take,cf.ia]
def rh (s:ax) (fx rs:aiA):Nat->aiF->Bool->Prop
 |_,[],_=>True
 |k,o::r,b=>(o= .hole\/(o=s k/\o.fS=true/\fx.contains k=true/\rs.contains k=false))/\rh s fx rs (k+1) r b
theorem wN {s:ax} {fx:aiA} {en:List ResultVar} {outs:aiF} (h:rh s fx (en.map iL) 0 outs true):∀(i:Nat) (o:I),outs[i]? =some o->o= .hole\/(o=s i/\o.fS=true/\i∈fx/\i∉en.map iL):=by
 have key:∀(outs:aiF) (k:Nat),rh s fx (en.map iL) k outs true->∀(i:Nat) (o:I),outs[i]? =some o->o= .hole\/(o=s (k+i)/\o.fS=true/\k+i∈fx/\k+i∉en.map iL):=by
  intro outs;induction outs with
  |nil=>intro k _ i o h;simp at h
  |cons a outs ih=>
   intro k h i o bx;cases i with
   |zero=>
    simp at bx;subst bx;rcases h.1 with h|⟨ab,ad,aA,aZ⟩
    .exact .inl h
    .exact .inr ⟨ab,ad,by simpa using aA,by simpa using aZ⟩
   |succ i=>
    have:=ih (k+1) h.2 i o (by simpa using bx);rw[show k+(i+1)=k+1+i by omega];exact this
 intro i o bx;have:=key outs 0 h i o bx;simpa using this
theorem Aa {s:ax} {fx rs:aiA} {k:Nat} {l:aiF} (h:rh s fx rs (k+1) l true):rh s fx rs k (.hole::l) true:=⟨.inl rfl,h⟩
theorem wO {s:ax} {fx rs:aiA} {k:Nat} {o:I} {l:aiF} (ab:o=s k) (ad:o.fS=true) (aA:fx.contains k=true) (aZ:rs.contains k=false) (h:rh s fx rs (k+1) l true):rh s fx rs k (o::l) true:=⟨.inr ⟨ab,ad,aA,aZ⟩,h⟩
theorem wP {s:ax} {fx rs:aiA} {k:Nat}:rh s fx rs k [] true:=trivial
theorem iM {Q:Exit->ax->Prop} {ros:List bZ} {k:aiA} {b:aI} (h:dt C (az l) ros none (λ_ s=>dm (a1 C b Q) (az (gu k s)))):a1 C (.seq (.fB ros (some k)) b) Q (az l):=sr (λ_ _ h=>h) h
theorem tZ {K:ax->Prop} {s:ax} (b3:aiE) (h:tN s b3) (aw:K (az b3)):dm K s:=.inr ⟨b3,h,aw⟩
def I.Tl:I->Bool
 | .tuple _=>true
 | .dz _=>true
 | .fv _ _=>true
 |_=>false
theorem wQ {d e:I} (aY:d.tree=true) (aP:d.Tl=false) (h:d.share=e):eG d e:=by
 subst h;exact .share d aY (λvs e=>by subst e;cases aP) (λo e=>by subst e;cases aP) (λ_ _ e=>by subst e;cases aP)
theorem Ab:(∀neg e r,rb neg (.slice e) (some r)=some (nP neg r))/\(∀neg,nP neg none= .e7)/\nP false (some false)= .bool false/\nP true (some false)= .bool true/\nP false (some true)= .bool true/\nP true (some true)= .bool false/\(∀s,jl s .a_=some (some true)):=
 ⟨λ_ _ _=>rfl,λ_=>rfl,rfl,rfl,rfl,rfl,λ_=>rfl⟩
theorem Lu {α:Type} {xs:List α} (h:xs.isEmpty=true) (e:α->I) (s:ax):jl s (.slice (xs.map e))=some none:=by
 have:xs=[]:=isEmpty_iff.1 h;subst this;rfl
theorem Lv {α:Type} {xs:List α} (h:xs.isEmpty=false) (e:α->I) (s:ax):jl s (.slice (xs.map e))=some (some false):=by
 cases xs with
 |nil=>cases h
 |cons x xs=>rfl
def Tm:Option I->Option aiB
 |some (.al _ xs)=>some (if xs=[]then none else some false)
 |_=>none
theorem Ac (s:ax) (x:Nat) (q:aiA):jl s (.h x q)=Tm (I.sub q (s x)):=by
 simp only[jl];rfl
theorem aW.nil {C:bY} {f:FuncId} {args:aiF} {r:I} {outs:aiF} (i:Nat) (h:aW C f (args.set i (.slice [])) r outs) (ak:args[i]? =some .a_):aW C f args r outs:=by
 intro w F X S vs aO aK;have hW:=aK.df i;have U:eA args i= .a_:=by simp[eA,List.getD,ak]
 rw[U]at hW;have aH:aG w F (eA args) (fI vs) (.slice []) (fI vs i) (λ_=>False):=by
  rw[aG.ca rfl]at hW⊢;refine⟨hW.1,?_⟩;have ad:=hW.2;simp only[aq]at ad⊢;exact .inl ⟨trivial,none,0,ad,zero_le _,λ_=>rfl⟩
 have ad:=aK.vz (t:=i) rfl aH;have aN:de (eA args) i (.slice [])=eA (args.set i (.slice [])):=by
  funext t;have c9:i<args.length:=(List.getElem?_eq_some_iff.1 ak).1;by_cases aY:t=i
  .subst aY;simp[de,eA,List.getD,c9]
  .have:i≠t:=λe=>aY e.symm;simp[de,aY,eA,List.getD,this]
 have aR:de (fI vs) i (fI vs i)=fI vs:=by
  funext t;by_cases aY:t=i
  .subst aY;simp[de]
  .simp[de,aY]
 rw[aN,aR]at ad;exact h w F X _ vs (by simpa using aO) ad
theorem Lw {α:Type} {u e:α->I} (h:∀x,eG (u x) (e x)):∀xs:List α,i_ (xs.map u) (xs.map e)
 |[]=>.nil
 |x::xs=>.cons (h x) (Lw h xs)
theorem wR {α:Type} {e:α->I} {ys:List α} {ds:aiF} (h:i_ ds (ys.map e)):∀xs:List α,i_ (xs.map e++ds) ((xs++ys).map e)
 |[]=>h
 |_::xs=>.cons (.refl _) (wR h xs)
theorem Tn (C:bY) (l:aiE) (dst:Option Nat) (os:List bZ) (K:Option (List fa)->ax->Prop):
  (∀x,dt C (az l) (⟨dst,.mu x,none⟩::os) none K=zW C dst os K (some (bp (az l) x,az l)))/\
  (∀a x,dt C (az l) (⟨dst,.mu x,none⟩::os) (some a) K=zX C l (use (az l) (.mu x)) (nU (az l) (.mu x)) dst os a K (some (bp (az l) x,az l))):=
 ⟨λ_=>(KH rfl).trans (congrArg _ rfl),λ_ _=>(KI rfl).trans (congrArg _ rfl)⟩
end
end Go.cU
