/- Part of a proof that a law returns true for every input. No condition. -/
import Derived.Test.YtcmimclaknmnbaaGreatDoorFwG
import Derived.ChangeArms
import Derived.WideShapes
namespace Go.cC
open Go.IntKind Nat Or
section
variable {H:Type} {enc:TypeId×Value->H} {P:Program} {w:World} {base:Nat} {sp:Nat->Bool} {held:Bool}
def lQ {τ:Type} (enc:TypeId×Value->H) (P:Program) (w:World) (base:Nat) (sp:Nat->Bool) (held:Bool) (T:TypeId) (e:τ->I) (W:τ->Prop):Prop:=
 ∀(fuel:Nat) (cs:anX) (x:DataW H×List MemPlace),DataW.trod enc P w base sp held fuel T cs=some x->∃y,W y/\ar w (F0 w) (e y) cs (λ_=>False)
theorem ZF {T:TypeId} {k:IntKind} (aL:P.underlying T=some (.int k)):lQ enc P w base sp held T (λn=>.int k n) (λn=>(Lit.int k n).wf=true):=by
 intro fuel cs x h;obtain⟨n,rfl,_,hw⟩:=DataW.trod_int aL h;exact⟨n,hw,by rw[ar]⟩
theorem ZG {T:TypeId} (aL:P.underlying T=some (.int .i64)):lQ enc P w base sp held T (λn=>.int .i64 n) (λn=> -9223372036854775808<=n/\n<=9223372036854775807):=by
 intro fuel cs x h;obtain⟨n,hw,ax⟩:=ZF aL fuel cs x h;exact⟨n,wf_i64 hw,ax⟩
theorem ZH {T:TypeId} (aL:P.underlying T=some .string):lQ enc P w base sp held T (λs=>.str s) (λs=>s.length<=9223372036854775807):=by
 intro fuel cs x h;obtain⟨s,rfl,_,U⟩:=DataW.trod_string aL h;exact⟨s.data.toList,U,by rw[ar]⟩
theorem ZI {α β:Type} {f:α->Option β}:∀{l:List α} {r:List β},l.mapM f=some r->r.length=l.length/\∀(i:Nat) (a:α),l[i]? =some a->f a=r[i]? :=by
 intro l;induction l with
 |nil=>intro r h;simp at h;subst h;exact⟨rfl,λi a h=>by simp at h⟩
 |cons a l ih=>
  intro r h;simp only[List.mapM_cons,Option.bind_eq_bind,Option.bind_eq_some_iff]at h;obtain⟨b,R,gj,ax,he⟩:=h;have he:b::gj=r:=by simpa using he
  subst he;obtain⟨h1,ab⟩:=ih ax;refine⟨by simp[h1],λi x ag=>?_⟩;cases i with
  |zero=>simp at ag;subst ag;simpa using R
  |succ i=>simpa using ab i x (by simpa using ag)
theorem P5 {a:Addr} {n:Nat} {cs:anX} (h:w.cells? base a n=some cs):cs.length=n/\∀j c,cs[j]? =some c->w.cell? (a.add j)=some c:=by
 unfold World.cells? at h;split at h
 .obtain⟨h1,ab⟩:=ZI h;refine⟨by simpa using h1,λj c ai=>?_⟩;have bo:j<n:=by
   have:=(List.getElem?_eq_some_iff.1 ai).1;rw[h1]at this;simpa using this
  rw[ab j j (by simp[bo]),ai]
 .cases h
theorem ZJ {a:Addr} {c:Value} (h:w.cell? a=some c):a.spot=none/\a.block<w.heap.size:=by
 unfold World.cell? at h;split at h
 .rename_i cs e fr R;split at h
  .cases h
  .rename_i U;refine⟨by simpa using U,?_⟩;exact(Array.getElem?_eq_some_iff.1 R).1
 .cases h
theorem AV {τ:Type} {T e:TypeId} {sz:Nat} {ec:τ->I} {W:τ->Prop} (aL:P.underlying T=some (.slice e)) (dr:P.cellsOf e=sz) (xU:0<sz) (hw:∀y,(ec y).wd=sz) (h:lQ enc P w base sp held e ec W):
  lQ enc P w base sp held T (λys:List τ=>.slice (ys.map ec)) (λys:List τ=>ys.length<=9223372036854775807/\∀y∈ys,W y):=by
 intro fuel cs x ag;rcases DataW.trod_slice aL ag with⟨rfl,_⟩|⟨a,len,cap,elems,rest,n,_,rfl,_,_,h1,ab,ay,aT,_⟩
 .exact⟨[],⟨by simp,by simp⟩,by simp only[List.map_nil];rw[ar];exact .inl ⟨rfl,none,0,rfl,zero_le _,λ_=>rfl⟩⟩
 .by_cases ba:len=0
  .subst ba;exact⟨[],⟨by simp,by simp⟩,by simp only[List.map_nil];rw[ar];exact .inl ⟨rfl,some a,cap,rfl,ab,λh=>by cases h⟩⟩
  .rw[dr]at aT;have get:∀i,i<len->∃tM y,w.cells? base (a.add (i*sz)) sz=some tM/\W y/\ar w (F0 w) (ec y) tM (λ_=>False):=by
    intro i ak;have:=aT i ak;rw[List.getElem?_eq_getElem (by omega),Option.bind_eq_some_iff]at this;obtain⟨tM,aI,aM⟩:=this;obtain⟨y,f_,iW⟩:=h _ _ _ aM;exact⟨tM,y,aI,f_,iW⟩
   obtain⟨ZK,iC,g1,_,g2⟩:=get 0 (by omega);obtain⟨amz,en⟩:=P5 g1;have H9:∃c,ZK[0]? =some c:=⟨_,List.getElem?_eq_getElem (by omega)⟩
   obtain⟨c0,H9⟩:=H9;have P6:=ZJ (en 0 c0 H9);have bg:(a.add (0*sz)).add 0=a:=by simp[Addr.add]
   rw[bg]at P6;obtain⟨b,o,spot⟩:=a;obtain⟨rF,DL⟩:=P6;simp only at rF DL;subst rF;have all:∀m,m<=len->∃(ys:List τ) (eh:anX),ys.length=m/\(∀y∈ys,W y)/\eh.length=m*sz/\Rd w b o eh/\aW w (F0 w) (ys.map ec) eh (λ_=>False):=by
    intro m;induction m with
    |zero=>intro _;exact⟨[],[],rfl,by simp,by simp,λj c ai=>by simp at ai,by rw[List.map_nil,aW]⟩
    |succ m ih=>
     intro hm;obtain⟨ys,eh,bT,b2,dm,de,e5⟩:=ih (by omega);obtain⟨tM,y,aI,aM,aP⟩:=get m (by omega);obtain⟨m1,m2⟩:=P5 aI;refine⟨ys++[y],eh++tM,by simp[bT],?_,by simp[dm,m1,Nat.add_mul],?_,?_⟩
     .intro z bC;rcases List.mem_append.1 bC with bC|bC
      .exact b2 z bC
      .simp at bC;subst bC;exact aM
     .intro j c ai;by_cases bo:j<eh.length
      .rw[List.getElem?_append_left bo]at ai;exact de j c ai
      .rw[List.getElem?_append_right (by omega)]at ai;have:=m2 _ c ai;rw[Addr.add_lit,Addr.add_lit]at this;rw[<-this];congr 2;omega
     .rw[List.map_append];refine aW.append e5 ?_ (λ_ h=>h) (λ_ h=>h) (λ_ h=>h.elim);simp only[List.map_cons,List.map_nil];rw[aW];exact⟨tM,[],λ_=>False,λ_=>False,by simp,aP,by rw[aW],λ_ h=>h.elim,λ_ h=>h.elim,λ_ h=>h.elim⟩
   obtain⟨ys,eh,bT,b2,dm,de,e5⟩:=all len (Nat.le_refl _);refine⟨ys,⟨by rw[bT];exact Nat.le_trans h1 ab,b2⟩,?_⟩;rw[ar];refine .inr ⟨b,o,cap,eh,sz,by simp[bT],DL,by simp[bT,h1],ab,?_,de,e5⟩;intro d ae;obtain⟨y,_,rfl⟩:=List.mem_map.1 ae;exact hw y
def ends:Nat->List (Nat×Nat)->Option Nat
 |o,[]=>some o
 |o,(kj,sz)::r=>if o=kj then ends (o+sz) r else none
def P7 (w:World) (F:Nat->Prop) (cs:anX):List (I×Nat×Nat)->Prop
 |[]=>True
 |(d,off,sz)::r=>ar w F d ((cs.drop off).take sz) (λ_=>False)/\P7 w F cs r
theorem H_ {F:Nat->Prop} {cs:anX}:∀(l:List (I×Nat×Nat)) (o:Nat),ends o (l.map (·.2))=some cs.length->P7 w F cs l->aW w F (l.map (·.1)) (cs.drop o) (λ_=>False):=by
 intro l;induction l with
 |nil=>intro o he _;simp[ends]at he;subst he;simp only[List.map_nil];rw[aW];simp
 |cons p l ih=>
  intro o he bc;obtain⟨d,off,sz⟩:=p;simp only[List.map_cons,ends]at he;split at he
  .rename_i e;subst e;obtain⟨f1,f2⟩:=bc;simp only[List.map_cons];rw[aW];refine⟨(cs.drop o).take sz,cs.drop (o+sz),λ_=>False,λ_=>False,?_,f1,ih _ he f2,λ_ h=>h.elim,λ_ h=>h.elim,λ_ h=>h.elim⟩;rw[<-List.drop_drop,List.take_append_drop]
  .cases he
theorem rT {n T:Nat} {cs:anX} {o:Option (DataW H×List MemPlace)} {τ:Type} {e:τ->I} {W:τ->Prop} (ax:lQ enc P w base sp held T e W) (h:DataW.trod enc P w base sp held n T cs=o) (a1:o.isSome=true):
  ∃y,W y/\ar w (F0 w) (e y) cs (λ_=>False):=by
 obtain⟨x,rfl⟩:=Option.isSome_iff_exists.1 a1;exact ax _ _ _ h
theorem ZL {τ:Type} {T e:TypeId} {ec:τ->I} {W:List τ->Prop} {r:Reach} {jS:Nat} {v:Value} {d:DataW H} {ps:List MemPlace} (aL:P.underlying T=some (.slice e)) (ax:lQ enc P w base sp held T (λys:List τ=>.slice (ys.map ec)) W)
  (pR:Value.okWide P w r jS T v) (ae:DataW.Trod enc P w base sp held T v d ps):∃ys,Arg w (.slice (ys.map ec)) v/\W ys:=by
 obtain⟨a,len,cap,rfl⟩:=WideShapes.okWide_slice aL pR;obtain⟨fuel,bc⟩:=ae;obtain⟨ys,h1,ab⟩:=ax _ _ _ bc;refine⟨ys,⟨rfl,rfl,?_⟩,h1⟩;simpa [Value.cells,bZ,gX]using ab
theorem ZM {τ:Type} {T:TypeId} {aC:Array Field} {es:τ->anZ} {W:τ->Prop} {r:Reach} {jS:Nat} {v:Value} {d:DataW H} {ps:List MemPlace} (aL:P.underlying T=some (.struct aC)) (ax:lQ enc P w base sp held T (λy=>.agg (es y)) W)
  (pR:Value.okWide P w r jS T v) (ae:DataW.Trod enc P w base sp held T v d ps):∃y,Arg w (.agg (es y)) v/\W y:=by
 obtain⟨cs,rfl,_⟩:=WideShapes.okWide_struct aL pR;obtain⟨fuel,bc⟩:=ae;obtain⟨y,h1,ab⟩:=ax _ _ _ bc;refine⟨y,⟨rfl,⟨cs,rfl⟩,?_⟩,h1⟩;simpa [Value.cells,bZ,gX]using ab
end
theorem Ia:(∀{α β:Type} (f:α->β) (l:List α),(l.map f).length=l.length)/\(∀{α:Type} (n:Nat) (a:α),(List.replicate n a).length=n)/\(∀{α:Type} (a:α) (l:List α),(a::l).length=l.length+1)/\(∀{α:Type},([]:List α).length=0)/\(∀{α:Type} (a b:List α),(a++b).length=a.length+b.length):=
 ⟨λ_ _=>List.length_map _,λ_ _=>List.length_replicate,λ_ _=>rfl,rfl,λ_ _=>List.length_append⟩
theorem P8:(∀{α β:Type} (f:α->β) (l:List α) (i:Nat),(l.map f)[i]? =l[i]?.map f)/\(∀{α:Type} (a:α) (l:List α),(a::l)[0]? =some a)/\(∀{α:Type} (a:α) (l:List α) (i:Nat),(a::l)[i+1]? =l[i]?)/\
  (∀{α:Type} (a b:α) (l:List α),(a::l).set 0 b=b::l)/\(∀{α:Type} (a b:α) (l:List α) (n:Nat),(a::l).set (n+1) b=a::l.set n b)/\(∀{α:Type} (a:α) (l:List α) (n:Nat),(a::l).take (n+1)=a::l.take n)/\(∀{α:Type} (l:List α),l.take 0=[]):=
 ⟨λ_ _ _=>List.getElem?_map,λ_ _=>rfl,λ_ _ _=>rfl,λ_ _ _=>rfl,λ_ _ _ _=>rfl,λ_ _ _=>rfl,λ_=>rfl⟩
theorem P9:(∀{α β:Type} (f:α->β) (a:α),(some a).map f=some (f a))/\(∀{α β:Type} (f:α->β),(none:Option α).map f=none)/\(∀{α:Type} (a:α),(some a).isSome=true):=⟨λ_ _=>rfl,λ_=>rfl,λ_=>rfl⟩
theorem Ib:(∀{α β γ:Type} (g:β->γ) (f:α->β) (l:List α),(l.map f).map g=l.map (g∘f))/\(∀{α:Type} (l:List α),l++[]=l):=⟨λ_ _ _=>List.map_map,λl=>List.append_nil l⟩
theorem qF:(∀{α β:Type} (f:α->β) (a:α) (l:List α),(a::l).map f=f a::l.map f)/\(∀{α β:Type} (f:α->β),([]:List α).map f=[])/\(∀{α β:Type} (f:α->β) (a b:List α),(a++b).map f=a.map f++b.map f)/\
  (∀{α β:Type} (f:α->β) (l:List α) (i:Nat) (a:α),(l.set i a).map f=(l.map f).set i (f a))/\(∀{α β:Type} (f:α->β) (l:List α) (i:Nat),(l.take i).map f=(l.map f).take i)/\(∀{α β:Type} (f:α->β) (l:List α) (i:Nat),(l.drop i).map f=(l.map f).drop i):=
 ⟨λ_ _ _=>rfl,λ_=>rfl,λ_ _ _=>List.map_append,λ_ _ _ _=>List.map_set,λ_ _ _=>List.map_take,λ_ _ _=>List.map_drop⟩
def ZN:=PLift.up (ad @tU (ad @Pc (ad @HW (ad @Pg (ad @Ph (ad @Zn (ad @Pb (ad @Zp (ad @PE (ad @PF (ad @Pj (ad @Pk (ad @HY (ad @Pl (ad @Pm (ad @Pn (ad @PG (ad @PH (ad @PI (ad @PJ (ad @PK (ad @PL (ad @Po (ad @Pp (ad @Pq (ad @Pr (ad @Ps (ad @Pt (ad @Pu (ad @Pv (ad @Pw (ad @Px (ad @PB (ad @H3 (ad @H6 (ad @H5 (ad @P1 (ad @P2 (ad @P3 (ad @P4 (ad @ld.eq_def (ad @loc.eq_def (ad @hq.eq_def (ad @jx.eq_def (ad @ex.eq_def (ad @sw.eq_def (ad @fits.eq_def (ad @I.fy.eq_1 (ad @I.fy.eq_2 (ad @I.fy.eq_3 (ad @I.fy.eq_4 (ad @I.fy.eq_5 (ad @I.fy.eq_6 (ad @MM (ad @MN (ad @Bool.not_true (ad @Bool.not_false (ad @Bool.true_and (ad @Bool.and_true (ad @Bool.false_and (ad @Bool.true_or (ad @Bool.false_or (ad @Bool.and_self (ad @Bool.false_eq_true (ad @Bool.true_eq_false (ad @Bool.not_not (ad @true_and (ad @and_true (ad @and_self (ad @decide_true (ad @decide_false (ad @not_false_eq_true (ad @not_true_eq_false (ad @PX (ad @Nat.zero_add (ad @Nat.add_zero (ad @Nat.mul_one (ad @Nat.lt_add_one (ad @zero_lt_succ (ad @h2.eq_def (ad @nw.eq_def (ad @flat.eq_1 (ad @flat.eq_2 (ad @flat.eq_3 (ad @flat.eq_4 (ad @flat.eq_5 (ad @flat.eq_6 (ad @flat.eq_7 (ad @sq.eq_1 (ad @sq.eq_2 (ad @ki.eq_def (ad @Ia (ad @P8 (ad @P9 (@Ib)))))))))))))))))))))))))))))))))))))))))))))))))))))))))))))))))))))))))))))))))))))))))))))))
def AW:=PLift.up (ad @vJ (ad @Pc (ad @HX (ad @Pg (ad @Ph (ad @Zo (ad @Pb (ad @Zq (ad @PE (ad @PF (ad @Pj (ad @Pk (ad @HY (ad @Pl (ad @Pm (ad @Pn (ad @PG (ad @PH (ad @PI (ad @PJ (ad @PK (ad @PL (ad @Po (ad @Pp (ad @Pq (ad @Pr (ad @Ps (ad @Pt (ad @Pu (ad @Pv (ad @Pw (ad @Px (ad @PB (ad @H3 (ad @H6 (ad @H5 (ad @P1 (ad @P2 (ad @P3 (ad @P4 (ad @ld.eq_def (ad @loc.eq_def (ad @hq.eq_def (ad @jx.eq_def (ad @ex.eq_def (ad @sw.eq_def (ad @fits.eq_def (ad @I.fy.eq_1 (ad @I.fy.eq_2 (ad @I.fy.eq_3 (ad @I.fy.eq_4 (ad @I.fy.eq_5 (ad @I.fy.eq_6 (ad @MM (ad @MN (ad @Bool.not_true (ad @Bool.not_false (ad @Bool.true_and (ad @Bool.and_true (ad @Bool.false_and (ad @Bool.true_or (ad @Bool.false_or (ad @Bool.and_self (ad @Bool.false_eq_true (ad @Bool.true_eq_false (ad @Bool.not_not (ad @true_and (ad @and_true (ad @and_self (ad @decide_true (ad @decide_false (ad @not_false_eq_true (ad @not_true_eq_false (ad @PX (ad @Nat.zero_add (ad @Nat.add_zero (ad @Nat.mul_one (ad @Nat.lt_add_one (ad @zero_lt_succ (ad @h2.eq_def (ad @nw.eq_def (ad @flat.eq_1 (ad @flat.eq_2 (ad @flat.eq_3 (ad @flat.eq_4 (ad @flat.eq_5 (ad @flat.eq_6 (ad @flat.eq_7 (ad @sq.eq_1 (ad @sq.eq_2 (ad @ki.eq_def (ad @Ia (ad @P8 (ad @P9 (@Ib)))))))))))))))))))))))))))))))))))))))))))))))))))))))))))))))))))))))))))))))))))))))))))))))
def ZO:=PLift.up (ad @H3 (ad @H6 (ad @H5 (ad @hv.eq_1 (ad @Nat.zero_add (ad @Bool.not_true (ad @Bool.not_false (ad @Bool.true_and (ad @Bool.and_true (ad @Bool.false_and (ad @Bool.true_or (ad @Bool.false_or (ad @Bool.and_self (ad @Bool.false_eq_true (ad @Bool.true_eq_false (ad @Bool.not_not (ad @Ia (ad @Ib (@qF)))))))))))))))))))
end Go.cC
