/- Part of a proof that a law returns true for every input. No condition. -/
import Derived.Test.YtocllehpepigpaaGreatFwH
import Derived.Laws.Externs
import Derived.Lib.Bytealg
namespace Go.cZ
theorem bl.wide {C:cw} {f:FuncId} {as:List I} {r gU:I} {outs:List I} (h:bl C f as r outs) (hw:fh r gU) (ba:r.tree=true) (cr:I.er outs=[]):bl C f as gU outs:=by
 intro w F X S vs hl aX
 refine ox.mono (h w F X S vs hl aX) ?_
 rintro v aG ⟨b2,aR,bL⟩
 have aDN:∀(k:Nat) (l:List I),I.er ((num k l).map (·.2))=I.er l:=by
  intro k l
  induction l generalizing k with
  |nil=>rfl
  |cons a l ih=>simp only[num,List.map_cons,I.er,ih]
 have r1:∀(k:Nat) (l:List I) (p:Nat×I),p∈num k l→∃i,l[i]? =some p.2∧p.1=k+i:=by
  intro k l
  induction l generalizing k with
  |nil=>intro p au;cases au
  |cons a l ih=>
   intro p au
   rcases List.mem_cons.1 au with rfl|au
   ·exact⟨0,rfl,rfl⟩
   ·obtain⟨i,h1,ah⟩:=ih (k+1) p au
    exact⟨i+1,by simpa using h1,by omega⟩
 have Bj:I.er (gU::outs)=[]:=by
  have:gU.tree=true:=hw.tree ba
  simp[I.er,F9 this,cr]
 have Vx:td (fI (r::outs)) (num 0 (gU::outs)):=by
  intro p au
  obtain⟨i,h1,ah⟩:=r1 0 _ p au
  have ao:p.1=i:=by omega
  cases i with
  |zero=>
   simp at h1
   right
   rw[ao,←h1]
   refine⟨ba,hw,?_⟩
   intro cX eW
   refine .inl fun hm=> ?_
   have:cX.2.ag=[]:=by
    have key:∀(as:List I) (a:I),a∈as→I.er as=[]→a.ag=[]:=by
     intro as
     induction as with
     |nil=>intro a h;cases h
     |cons b as ih=>
      intro a h he
      simp only[I.er,List.append_eq_nil_iff]at he
      rcases List.mem_cons.1 h with rfl|h
      ·exact he.1
      ·exact ih a h he.2
    obtain⟨j,g1,_⟩:=r1 0 _ cX eW
    exact key _ _ (List.mem_of_getElem? g1) Bj
   rw[this]at hm;cases hm
  |succ i=>
   left
   rw[ao]
   simp only[fI,List.getD]
   simp at h1
   simp[h1]
 obtain⟨s9,dU,ah⟩:=bL.KS Vx
 refine⟨s9,dU,?_⟩
 rw[Bw]
 exact ah
section
variable {C:cw} {l:List (Nat×I)} {os:List cj} {K:Option (List fR)→ar→Prop} {dst:Option Nat}
def qa (s:ar):List c2→Prop
 |[]=>True
 |p::ps=>p.ok s∧qa s ps
theorem BK {s:ar}:∀{ps:List c2},qa s ps→∀p∈ps,p.ok s
 |p::ps,h,q,c6=>by
  rcases List.mem_cons.1 c6 with rfl|c6
  ·exact h.1
  ·exact BK h.2 q c6
def qX:List c2→Bool
 |[]=>true
 |p::ps=>p.o.dd&&qX ps
theorem BL:∀{ps:List c2},qX ps=true→∀p∈ps,p.o.dd=true
 |p::ps,h,q,c6=>by
  simp only[qX,Bool.and_eq_true]at h
  rcases List.mem_cons.1 c6 with rfl|c6
  ·exact h.1
  ·exact BL h.2 q c6
theorem Vy {f:aK} {args:List aK} {g:FuncId} {caps:List I} {K:List Nat→I→ar→Prop} (ps:List c2) (r:I)
  (h1:aN (ab l) f= .fn g caps) (gI:I.dX caps=true) (ah:ps.map (·.a)=iC (ab l) args++caps) (aC:qa (ab l) ps) (a8:iS ps=true)
  (bK:bl C g (ps.map (·.d)) r (ps.map (·.o))) (cU:r.res=true) (cJ:kj ps=false∨(r.dd&&qX ps)=true) (jT:K (qU ps) r (h9 (fo (ab l) ps) ps)):oC C (ab l) (.call f args) K:=by
 refine⟨g,caps,ps,r,h1,gI,by rw[ah,vF],BK aC,a8,bK,cU,?_,jT⟩
 intro hl
 rcases cJ with cJ|cJ
 ·rw[cJ]at hl;cases hl
 ·rw[Bool.and_eq_true]at cJ;exact⟨cJ.1,BL cJ.2⟩
theorem Vz {f:aK} {args:List aK} {g:FuncId} {caps:List I} {K:List Nat→I→ar→Prop} {us:List Nat} (ps:List c2) (r:I) (aw:lM (ab l) (jL (ab l) us)=true)
  (h1:aN (ab l) f= .fn g caps) (gI:I.dX caps=true) (ah:ps.map (·.a)=iC (ab l) args++caps) (aC:qa (ab l) ps) (a8:iS ps=true)
  (bK:bl C g (ps.map (·.d)) r (ps.map (·.o))) (cU:r.res=true) (cJ:kj ps=false∨(r.dd&&qX ps)=true)
  (jT:lM (h9 (fo (ab l) ps) ps) (jL (ab l) us)=true∧K (us++qU ps) r (nd (h9 (fo (ab l) ps) ps) (jL (ab l) us))):oC C (ab l) (.ky f args us) K:=by
 refine⟨aw,g,caps,ps,r,h1,gI,by rw[ah,vF],BK aC,a8,bK,cU,?_,jT⟩
 intro hl
 rcases cJ with cJ|cJ
 ·rw[cJ]at hl;cases hl
 ·rw[Bool.and_eq_true]at cJ;exact⟨cJ.1,BL cJ.2⟩
theorem BM {f:aK} {args:List aK} {g:FuncId} {caps:List I} {r:I} {us:List Nat} (ps:List c2) (bK:bl C g (ps.map (·.d)) r (ps.map (·.o)))
  (h1:aN (ab l) f= .fn g caps) (gI:I.dX caps=true) (ah:ps.map (·.a)=iC (ab l) args++caps) (aC:qa (ab l) ps) (a8:iS ps=true)
  (cU:r.res=true) (cJ:kj ps=false∨(r.dd&&qX ps)=true) (aw:lM (ab l) (jL (ab l) us)=true)
  (jT:lM (h9 (fo (ab l) ps) ps) (jL (ab l) us)=true∧cT C (fin (nd (h9 (fo (ab l) ps) ps) (jL (ab l) us)) dst r) os none K):cT C (ab l) (⟨dst,.ky f args us,none⟩::os) none K:=by
 simp only[cT,nJ,p9]
 exact Vz ps r aw h1 gI ah aC a8 bK cU cJ jT
theorem r2 (s:ar):jL s []=[]∧(∀u us,jL s (u::us)=(u,s u)::jL s us)∧lM s []=true∧(∀p L,lM s (p::L)=(p.2.fX s&&lM s L))∧nd s []=s∧(∀p L,nd s (p::L)=nd (du s p.1 p.2) L)∧
  (∀x,I.fX s (.h x [])=(s x).own)∧(∀x k,I.fX s (.ae x k)= !(s x).plain)∧(∀f c,I.fX s (.fn f c)=I.oy s c)∧I.oy s []=true∧(∀d ds,I.oy s (d::ds)=(d.fX s&&I.oy s ds))∧
  (∀k n,I.fX s (.int k n)=true)∧(∀b,I.fX s (.bool b)=true)∧(∀x,I.fX s (.str x)=true)∧(∀x,I.fX s (.slice x)=true)∧(∀x,I.fX s (.ref x)=true)∧I.fX s .bk=true∧I.fX s .dI=true∧(∀ay,I.fX s (.agg ay)=I.dX ay):=
 ⟨rfl,fun _ _=>rfl,rfl,fun _ _=>rfl,rfl,fun _ _=>rfl,fun _=>rfl,fun _ _=>rfl,fun _ _=>rfl,rfl,fun _ _=>rfl,fun _ _=>rfl,fun _=>rfl,fun _=>rfl,fun _=>rfl,fun _=>rfl,rfl,rfl,fun _=>rfl⟩
theorem oF {f:aK} {args:List aK} {g:FuncId} {caps:List I} {r:I} (ps:List c2) (bK:bl C g (ps.map (·.d)) r (ps.map (·.o)))
  (h1:aN (ab l) f= .fn g caps) (gI:I.dX caps=true) (ah:ps.map (·.a)=iC (ab l) args++caps) (aC:qa (ab l) ps) (a8:iS ps=true)
  (cU:r.res=true) (cJ:kj ps=false∨(r.dd&&qX ps)=true)
  (jT:cT C (fin (h9 (fo (ab l) ps) ps) dst r) os none K):cT C (ab l) (⟨dst,.call f args,none⟩::os) none K:=by
 simp only[cT,nJ,p9]
 exact Vy ps r h1 gI ah aC a8 bK cU cJ jT
theorem lq (s:ar):qa s []=True∧(∀p ps,qa s (p::ps)=(p.ok s∧qa s ps))∧(∀a d o,c2.ok s ⟨a,false,d,o⟩=(view s a=some d))∧
  (∀x q d o,c2.ok s ⟨.h x q,true,d,o⟩=(I.sub q (s x)=some d∧d.gW=true∧(o= .hole∨(o.gW=true∧rO d o=true)))):=by
 refine⟨rfl,fun _ _=>rfl,fun _ _ _=> ?_,fun _ _ _ _=> ?_⟩<;>simp[c2.ok]
theorem ji:(∀d,I.own (.bd d)=true)∧(∀n xs,I.own (.an n xs)=true)∧(∀d,I.gW (.bd d)=true)∧(∀n xs,I.gW (.an n xs)=true)∧(∀ay,I.gW (.agg ay)= !I.dX ay)∧
  (∀d e,rO (.bd d) (.bd e)=true)∧(∀n xs m ys,rO (.an n xs) (.an m ys)=true)∧(∀a b,rO (.agg a) (.agg b)=(I.eC a==I.eC b)):=⟨fun _=>rfl,fun _ _=>rfl,fun _=>rfl,fun _ _=>rfl,fun _=>rfl,fun _ _=>rfl,fun _ _ _ _=>rfl,fun _ _=>rfl⟩
theorem lr (s:ar):fo s []=s∧h9 s []=s∧(∀p ps,fo s (p::ps)=fo (c2.take s p) ps)∧(∀p ps,h9 s (p::ps)=h9 (c2.jc s p) ps)∧
  (∀a d o,c2.take s ⟨a,false,d,o⟩=s)∧(∀a d o,c2.jc s ⟨a,false,d,o⟩=s)∧(∀x q d o,c2.take s ⟨.h x q,true,d,o⟩=du (iu x s) x (I.put q d.dq (s x)))∧
  (∀a d,c2.jc s ⟨a,true,d,.hole⟩=s)∧(∀x q d e,c2.jc s ⟨.h x q,true,d,.bd e⟩=du (lZ x s) x (I.put q (.bd e) (s x)))∧
  (∀x q d n xs,c2.jc s ⟨.h x q,true,d,.an n xs⟩=du (lZ x s) x (I.put q (.an n xs) (s x)))∧
  (∀x q d ay,c2.jc s ⟨.h x q,true,d,.agg ay⟩=du (lZ x s) x (I.put q (.agg ay) (s x))):=by
 refine⟨rfl,rfl,fun _ _=>rfl,fun _ _=>rfl,?_,?_,?_,?_,?_,?_,?_⟩<;>intros<;>simp[c2.take,c2.jc]
def r3 (s:ar) (fx rs:List Nat):Nat→List I→Bool→Prop
 |_,[],_=>True
 |k,o::r,b=>(o= .hole∨(o=s k∧o.gW=true∧fx.contains k=true∧rs.contains k=false))∧r3 s fx rs (k+1) r b
theorem mF {s:ar} {fx:List Nat} {fC:List ResultVar} {outs:List I} (h:r3 s fx (fC.map j7) 0 outs true):∀(i:Nat) (o:I),outs[i]? =some o→o= .hole∨(o=s i∧o.gW=true∧i∈fx∧i∉fC.map j7):=by
 have key:∀(outs:List I) (k:Nat),r3 s fx (fC.map j7) k outs true→∀(i:Nat) (o:I),outs[i]? =some o→o= .hole∨(o=s (k+i)∧o.gW=true∧k+i∈fx∧k+i∉fC.map j7):=by
  intro outs
  induction outs with
  |nil=>intro k _ i o h;simp at h
  |cons a outs ih=>
   intro k h i o cr
   cases i with
   |zero=>
    simp at cr;subst cr
    rcases h.1 with h|⟨h1,ah,aC,a8⟩
    ·exact .inl h
    ·exact .inr ⟨h1,ah,by simpa using aC,by simpa using a8⟩
   |succ i=>
    have:=ih (k+1) h.2 i o (by simpa using cr)
    rw[show k+(i+1)=k+1+i by omega];exact this
 intro i o cr
 have:=key outs 0 h i o cr
 simpa using this
theorem lP {s:ar} {fx rs:List Nat} {k:Nat} {l:List I} (h:r3 s fx rs (k+1) l true):r3 s fx rs k (.hole::l) true:=⟨.inl rfl,h⟩
theorem mG {s:ar} {fx rs:List Nat} {k:Nat} {o:I} {l:List I} (h1:o=s k) (ah:o.gW=true) (aC:fx.contains k=true) (a8:rs.contains k=false) (h:r3 s fx rs (k+1) l true):r3 s fx rs k (o::l) true:=⟨.inr ⟨h1,ah,aC,a8⟩,h⟩
theorem mH {s:ar} {fx rs:List Nat} {k:Nat}:r3 s fx rs k [] true:=trivial
theorem kD {Q:Exit→ar→Prop} {ros:List cj} {k:List Nat} {b:J} (h:cT C (ab l) ros none (fun _ s=>ev (dc C b Q) (ab (jf k s)))):dc C (.seq (.ca ros (some k)) b) Q (ab l):=ti (fun _ _ h=>h) h
theorem Mg {K:ar→Prop} {s:ar} (eu:List (Nat×I)) (h:td s eu) (hk:K (ab eu)):ev K s:=.inr ⟨eu,h,hk⟩
def I.VA:I→Bool
 | .tuple _=>true
 | .en _=>true
 |_=>false
theorem VB {d e:I} (ba:d.tree=true) (a6:d.VA=false) (h:d.share=e):fh d e:=by
 subst h
 exact .share d ba (fun vs e=>by subst e;cases a6) (fun o e=>by subst e;cases a6)
theorem BN:(∀neg e r,rZ neg (.slice e) (some r)=some (o4 neg r))∧(∀neg,o4 neg none= .fb)∧o4 false (some false)= .bool false∧o4 true (some false)= .bool true∧o4 false (some true)= .bool true∧o4 true (some true)= .bool false∧(∀s,j5 s .bk=some (some true)):=
 ⟨fun _ _ _=>rfl,fun _=>rfl,rfl,rfl,rfl,rfl,fun _=>rfl⟩
theorem Mh {α:Type} {xs:List α} (h:xs.isEmpty=true) (e:α→I) (s:ar):j5 s (.slice (xs.map e))=some none:=by
 have:xs=[]:=List.isEmpty_iff.1 h
 subst this;rfl
theorem Mi {α:Type} {xs:List α} (h:xs.isEmpty=false) (e:α→I) (s:ar):j5 s (.slice (xs.map e))=some (some false):=by
 cases xs with
 |nil=>cases h
 |cons x xs=>rfl
def VC:Option I→Option (Option Bool)
 |some (.an _ xs)=>some (if xs=[]then none else some false)
 |_=>none
theorem BO (s:ar) (x:Nat) (q:List Nat):j5 s (.h x q)=VC (I.sub q (s x)):=by
 simp only[j5];rfl
theorem bl.nil {C:cw} {f:FuncId} {args:List I} {r:I} {outs:List I} (i:Nat) (h:bl C f (args.set i (.slice [])) r outs) (ao:args[i]? =some .bk):bl C f args r outs:=by
 intro w F X S vs hl aX
 have jd:=aX.dF i
 have ag:fI args i= .bk:=by simp[fI,List.getD,ao]
 rw[ag]at jd
 have aM:aL w F (fI args) (hs vs) (.slice []) (hs vs i) (fun _=>False):=by
  rw[aL.cV rfl]at jd⊢
  refine⟨jd.1,?_⟩
  have ah:=jd.2
  simp only[ax]at ah⊢
  exact .inl ⟨trivial,none,0,ah,Nat.zero_le _,fun _=>rfl⟩
 have ah:=aX.u_ (t:=i) rfl aM
 have aS:du (fI args) i (.slice [])=fI (args.set i (.slice [])):=by
  funext t
  have e7:i<args.length:=(List.getElem?_eq_some_iff.1 ao).1
  by_cases ba:t=i
  ·subst ba;simp[du,fI,List.getD,e7]
  ·have:i≠t:=fun e=>ba e.symm
   simp[du,ba,fI,List.getD,this]
 have aZ:du (hs vs) i (hs vs i)=hs vs:=by
  funext t
  by_cases ba:t=i
  ·subst ba;simp[du]
  ·simp[du,ba]
 rw[aS,aZ]at ah
 exact h w F X _ vs (by simpa using hl) ah
theorem GW {α:Type} {e:α→I} {ys:List α} {ds:List I} (h:j6 ds (ys.map e)):∀xs:List α,j6 (xs.map e++ds) ((xs++ys).map e)
 |[]=>h
 |_::xs=>.cons (.refl _) (GW h xs)
def GX (s:ar) (y:Nat):I→Option (I×ar)
 | .agg ds=>if I.dX ds then none else some (.ae y 0,s)
 |_=>none
theorem jj {C:cw} {l:List (Nat×I)} {os:List cj} {K:Option (List fR)→ar→Prop} {dst:Option Nat} (T:TypeId) (x:aK):
  cT C (ab l) (⟨dst,.j4 T x,none⟩::os) none K=ef C dst os K (j4 (ab l) (aN (ab l) x)):=jU rfl
theorem jk:(∀(t x k:Nat),js t (.ae x k)= .ae x k)∧(∀(l:List (Nat×I)) (t x k:Nat),fin (ab l) (some t) (.ae x k)=ab ((t,.ae x k)::l))∧(∀x k:Nat,I.plain (.ae x k)=true)∧
  (∀(s:ar) (x k:Nat),jM s (.ae x k)=some (.ae x k,s))∧(∀(t y k:Nat),c5 t (.ae y k)=if y=t then .hole else .ae y k)∧(∀(t y k:Nat),cv t (.ae y k)= .ae y k)∧(∀x k:Nat,I.wd (.ae x k)=1):=
 ⟨fun _ _ _=>rfl,fun l t x k=>by simp only[fin,I.plain,if_true,k2],fun _ _=>rfl,fun _ _ _=>rfl,fun _ _ _=>by simp only[c5],fun _ _ _=>by simp only[cv],fun _ _=>rfl⟩
theorem jl:(∀(s:ar) y,j4 s (.h y [])=GX s y (s y))∧(∀(s:ar) y ay,GX s y (.agg ay)=if I.dX ay then none else some (.ae y 0,s))∧
  (∀k i ds d,AY (d::ds) i k=if k=0 then some i else if d.wd≤k then AY ds (i+1) (k-d.wd)else none):=
 ⟨fun s y=>by simp only[j4,GX];cases s y<;>rfl,fun _ _ _=>rfl,fun _ _ _ _=>rfl⟩
theorem yw {α:Type} {l:List α} {i:Nat} {x:α} (h:l[i]? =some x) (u:α→I) (a:I):((l.map u).set i a)[i]? =some a:=by
 have:i<l.length:=(List.getElem?_eq_some_iff.1 h).1
 rw[List.getElem?_set_self (by simpa using this)]
theorem yx {α:Type} (l:List α) (u:α→I) (i:Nat) (a b:I):((l.map u).set i a).set i b=(l.map u).set i b:=List.set_set ..
end
end Go.cZ
