/- Part of a proof that a law returns true for every input. No condition. -/
import Derived.Test.YtlkabaochkgkdaaGreatDoorFwG
import Derived.ChangeArms
import Derived.WideShapes
namespace Go.c_
section
variable {H:Type} {enc:TypeId×Value->H} {P:Program} {w:World} {base:Nat} {sp:Nat->Bool} {held:Bool}
def jF {τ:Type} (enc:TypeId×Value->H) (P:Program) (w:World) (base:Nat) (sp:Nat->Bool) (held:Bool) (T:TypeId) (e:τ->I) (W:τ->Prop):Prop:=
 ∀(fuel:Nat) (cs:List Value) (x:DataW H×List MemPlace),DataW.trod enc P w base sp held fuel T cs=some x->∃y,W y/\ax w (F0 w) (e y) cs (λ_=>False)
theorem Xm {T:TypeId} {k:IntKind} (bj:P.underlying T=some (.int k)):jF enc P w base sp held T (λn=>.int k n) (λn=>(Lit.int k n).wf=true):=by
 intro fuel cs x h;obtain⟨n,rfl,_,hw⟩:=DataW.trod_int bj h;exact⟨n,hw,by rw[ax]⟩
theorem Xn {T:TypeId} (bj:P.underlying T=some (.int .i64)):jF enc P w base sp held T (λn=>.int .i64 n) (λn=> -9223372036854775808<=n/\n<=9223372036854775807):=by
 intro fuel cs x h;obtain⟨n,hw,aS⟩:=Xm bj fuel cs x h;exact⟨n,wf_i64 hw,aS⟩
theorem Xo {T:TypeId} (bj:P.underlying T=some .string):jF enc P w base sp held T (λs=>.str s) (λs=>s.length<=9223372036854775807):=by
 intro fuel cs x h;obtain⟨s,rfl,_,ae⟩:=DataW.trod_string bj h;exact⟨s.data.toList,ae,by rw[ax]⟩
theorem Xp {α β:Type} {f:α->Option β}:∀{l:List α} {r:List β},l.mapM f=some r->r.length=l.length/\∀(i:Nat) (a:α),l[i]? =some a->f a=r[i]? :=by
 intro l;induction l with
 |nil=>intro r h;simp at h;subst h;exact⟨rfl,λi a h=>by simp at h⟩
 |cons a l ih=>
  intro r h;simp only[List.mapM_cons,Option.bind_eq_bind,Option.bind_eq_some_iff]at h;obtain⟨b,ad,ik,aS,he⟩:=h;have he:b::ik=r:=by simpa using he
  subst he;obtain⟨ag,ah⟩:=ih aS;refine⟨by simp[ag],λi x aw=>?_⟩;cases i with
  |zero=>simp at aw;subst aw;simpa using ad
  |succ i=>simpa using ah i x (by simpa using aw)
theorem N8 {a:Addr} {n:Nat} {cs:List Value} (h:w.cells? base a n=some cs):cs.length=n/\∀j c,cs[j]? =some c->w.cell? (a.add j)=some c:=by
 unfold World.cells? at h;split at h
 .obtain⟨ag,ah⟩:=Xp h;refine⟨by simpa using ag,λj c aq=>?_⟩;have cH:j<n:=by
   have:=(List.getElem?_eq_some_iff.1 aq).1;rw[ag]at this;simpa using this
  rw[ah j j (by simp[cH]),aq]
 .cases h
theorem Xq {a:Addr} {c:Value} (h:w.cell? a=some c):a.spot=none/\a.block<w.heap.size:=by
 unfold World.cell? at h;split at h
 .rename_i cs e fr ad;split at h
  .cases h
  .rename_i ae;refine⟨by simpa using ae,?_⟩;exact(Array.getElem?_eq_some_iff.1 ad).1
 .cases h
theorem rO {τ:Type} {T e:TypeId} {sz:Nat} {ec:τ->I} {W:τ->Prop} (bj:P.underlying T=some (.slice e)) (eM:P.cellsOf e=sz) (IC:0<sz) (hw:∀y,(ec y).wd=sz) (h:jF enc P w base sp held e ec W):
  jF enc P w base sp held T (λcK:List τ=>.slice (cK.map ec)) (λcK:List τ=>cK.length<=9223372036854775807/\∀y∈cK,W y):=by
 intro fuel cs x aw;rcases DataW.trod_slice bj aw with⟨rfl,_⟩|⟨a,len,cap,elems,rest,n,_,rfl,_,_,ag,ah,aN,bg,_⟩
 .exact⟨[],⟨by simp,by simp⟩,by simp only[List.map_nil];rw[ax];exact .inl ⟨rfl,none,0,rfl,Nat.zero_le _,λ_=>rfl⟩⟩
 .by_cases ba:len=0
  .subst ba;exact⟨[],⟨by simp,by simp⟩,by simp only[List.map_nil];rw[ax];exact .inl ⟨rfl,some a,cap,rfl,ah,λh=>by cases h⟩⟩
  .rw[eM]at bg;have get:∀i,i<len->∃o1 y,w.cells? base (a.add (i*sz)) sz=some o1/\W y/\ax w (F0 w) (ec y) o1 (λ_=>False):=by
    intro i an;have:=bg i an;rw[List.getElem?_eq_getElem (by omega),Option.bind_eq_some_iff]at this;obtain⟨o1,aX,a6⟩:=this;obtain⟨y,e0,hd⟩:=h _ _ _ a6;exact⟨o1,y,aX,e0,hd⟩
   obtain⟨Xr,fD,g1,_,g2⟩:=get 0 (by omega);obtain⟨aHl,hk⟩:=N8 g1;have ID:∃c,Xr[0]? =some c:=⟨_,List.getElem?_eq_getElem (by omega)⟩
   obtain⟨c0,ID⟩:=ID;have N9:=Xq (hk 0 c0 ID);have cf:(a.add (0*sz)).add 0=a:=by simp[Addr.add]
   rw[cf]at N9;obtain⟨b,o,spot⟩:=a;obtain⟨rH,p3⟩:=N9;simp only at rH p3;subst rH;have all:∀m,m<=len->∃(cK:List τ) (eT:List Value),cK.length=m/\(∀y∈cK,W y)/\eT.length=m*sz/\iA w b o eT/\bm w (F0 w) (cK.map ec) eT (λ_=>False):=by
    intro m;induction m with
    |zero=>intro _;exact⟨[],[],rfl,by simp,by simp,λj c aq=>by simp at aq,by rw[List.map_nil,bm]⟩
    |succ m ih=>
     intro hm;obtain⟨cK,eT,b7,cw,fi,ep,fQ⟩:=ih (by omega);obtain⟨o1,y,aX,a6,aQ⟩:=get m (by omega);obtain⟨m1,m2⟩:=N8 aX;refine⟨cK++[y],eT++o1,by simp[b7],?_,by simp[fi,m1,Nat.add_mul],?_,?_⟩
     .intro z cg;rcases List.mem_append.1 cg with cg|cg
      .exact cw z cg
      .simp at cg;subst cg;exact a6
     .intro j c aq;by_cases cH:j<eT.length
      .rw[List.getElem?_append_left cH]at aq;exact ep j c aq
      .rw[List.getElem?_append_right (by omega)]at aq;have:=m2 _ c aq;rw[Addr.add_lit,Addr.add_lit]at this;rw[<-this];congr 2;omega
     .rw[List.map_append];refine bm.append fQ ?_ (λ_ h=>h) (λ_ h=>h) (λ_ h=>h.elim);simp only[List.map_cons,List.map_nil];rw[bm];exact⟨o1,[],λ_=>False,λ_=>False,by simp,aQ,by rw[bm],λ_ h=>h.elim,λ_ h=>h.elim,λ_ h=>h.elim⟩
   obtain⟨cK,eT,b7,cw,fi,ep,fQ⟩:=all len (Nat.le_refl _);refine⟨cK,⟨by rw[b7];exact Nat.le_trans ag ah,cw⟩,?_⟩;rw[ax];refine .inr ⟨b,o,cap,eT,sz,by simp[b7],p3,by simp[b7,ag],ah,?_,ep,fQ⟩;intro d aj;obtain⟨y,_,rfl⟩:=List.mem_map.1 aj;exact hw y
def ends:Nat->List (Nat×Nat)->Option Nat
 |o,[]=>some o
 |o,(oq,sz)::r=>if o=oq then ends (o+sz) r else none
def N_ (w:World) (F:Nat->Prop) (cs:List Value):List (I×Nat×Nat)->Prop
 |[]=>True
 |(d,off,sz)::r=>ax w F d ((cs.drop off).take sz) (λ_=>False)/\N_ w F cs r
theorem uF {F:Nat->Prop} {cs:List Value}:∀(l:List (I×Nat×Nat)) (o:Nat),ends o (l.map (·.2))=some cs.length->N_ w F cs l->bm w F (l.map (·.1)) (cs.drop o) (λ_=>False):=by
 intro l;induction l with
 |nil=>intro o he _;simp[ends]at he;subst he;simp only[List.map_nil];rw[bm];simp
 |cons p l ih=>
  intro o he bw;obtain⟨d,off,sz⟩:=p;simp only[List.map_cons,ends]at he;split at he
  .rename_i e;subst e;obtain⟨f1,f2⟩:=bw;simp only[List.map_cons];rw[bm];refine⟨(cs.drop o).take sz,cs.drop (o+sz),λ_=>False,λ_=>False,?_,f1,ih _ he f2,λ_ h=>h.elim,λ_ h=>h.elim,λ_ h=>h.elim⟩;rw[<-List.drop_drop,List.take_append_drop]
  .cases he
theorem kg {n T:Nat} {cs:List Value} {o:Option (DataW H×List MemPlace)} {τ:Type} {e:τ->I} {W:τ->Prop} (aS:jF enc P w base sp held T e W) (h:DataW.trod enc P w base sp held n T cs=o) (cy:o.isSome=true):
  ∃y,W y/\ax w (F0 w) (e y) cs (λ_=>False):=by
 obtain⟨x,rfl⟩:=Option.isSome_iff_exists.1 cy;exact aS _ _ _ h
theorem Xs {τ:Type} {T e:TypeId} {ec:τ->I} {W:List τ->Prop} {r:Reach} {kc:Nat} {v:Value} {d:DataW H} {ps:List MemPlace} (bj:P.underlying T=some (.slice e)) (aS:jF enc P w base sp held T (λcK:List τ=>.slice (cK.map ec)) W)
  (qP:Value.okWide P w r kc T v) (aj:DataW.Trod enc P w base sp held T v d ps):∃cK,Arg w (.slice (cK.map ec)) v/\W cK:=by
 obtain⟨a,len,cap,rfl⟩:=WideShapes.okWide_slice bj qP;obtain⟨fuel,bw⟩:=aj;obtain⟨cK,ag,ah⟩:=aS _ _ _ bw;refine⟨cK,⟨rfl,rfl,?_⟩,ag⟩;simpa [Value.cells,cz,iv]using ah
theorem Xt {τ:Type} {T:TypeId} {az:Array Field} {es:τ->List I} {W:τ->Prop} {r:Reach} {kc:Nat} {v:Value} {d:DataW H} {ps:List MemPlace} (bj:P.underlying T=some (.struct az)) (aS:jF enc P w base sp held T (λy=>.agg (es y)) W)
  (qP:Value.okWide P w r kc T v) (aj:DataW.Trod enc P w base sp held T v d ps):∃y,Arg w (.agg (es y)) v/\W y:=by
 obtain⟨cs,rfl,_⟩:=WideShapes.okWide_struct bj qP;obtain⟨fuel,bw⟩:=aj;obtain⟨y,ag,ah⟩:=aS _ _ _ bw;refine⟨y,⟨rfl,⟨cs,rfl⟩,?_⟩,ag⟩;simpa [Value.cells,cz,iv]using ah
end
theorem IE:(∀{α β:Type} (f:α->β) (l:List α),(l.map f).length=l.length)/\(∀{α:Type} (n:Nat) (a:α),(List.replicate n a).length=n)/\(∀{α:Type} (a:α) (l:List α),(a::l).length=l.length+1)/\(∀{α:Type},([]:List α).length=0)/\(∀{α:Type} (a b:List α),(a++b).length=a.length+b.length):=
 ⟨λ_ _=>List.length_map _,λ_ _=>List.length_replicate,λ_ _=>rfl,rfl,λ_ _=>List.length_append⟩
theorem Oa:(∀{α β:Type} (f:α->β) (l:List α) (i:Nat),(l.map f)[i]? =l[i]?.map f)/\(∀{α:Type} (a:α) (l:List α),(a::l)[0]? =some a)/\(∀{α:Type} (a:α) (l:List α) (i:Nat),(a::l)[i+1]? =l[i]?)/\
  (∀{α:Type} (a b:α) (l:List α),(a::l).set 0 b=b::l)/\(∀{α:Type} (a b:α) (l:List α) (n:Nat),(a::l).set (n+1) b=a::l.set n b)/\(∀{α:Type} (a:α) (l:List α) (n:Nat),(a::l).take (n+1)=a::l.take n)/\(∀{α:Type} (l:List α),l.take 0=[]):=
 ⟨λ_ _ _=>List.getElem?_map,λ_ _=>rfl,λ_ _ _=>rfl,λ_ _ _=>rfl,λ_ _ _ _=>rfl,λ_ _ _=>rfl,λ_=>rfl⟩
theorem Ob:(∀{α β:Type} (f:α->β) (a:α),(some a).map f=some (f a))/\(∀{α β:Type} (f:α->β),(none:Option α).map f=none)/\(∀{α:Type} (a:α),(some a).isSome=true):=⟨λ_ _=>rfl,λ_=>rfl,λ_=>rfl⟩
theorem IF:(∀{α β γ:Type} (g:β->γ) (f:α->β) (l:List α),(l.map f).map g=l.map (g∘f))/\(∀{α:Type} (l:List α),l++[]=l):=⟨λ_ _ _=>List.map_map,λl=>List.append_nil l⟩
theorem p4:(∀{α β:Type} (f:α->β) (a:α) (l:List α),(a::l).map f=f a::l.map f)/\(∀{α β:Type} (f:α->β),([]:List α).map f=[])/\(∀{α β:Type} (f:α->β) (a b:List α),(a++b).map f=a.map f++b.map f)/\
  (∀{α β:Type} (f:α->β) (l:List α) (i:Nat) (a:α),(l.set i a).map f=(l.map f).set i (f a))/\(∀{α β:Type} (f:α->β) (l:List α) (i:Nat),(l.take i).map f=(l.map f).take i)/\(∀{α β:Type} (f:α->β) (l:List α) (i:Nat),(l.drop i).map f=(l.map f).drop i):=
 ⟨λ_ _ _=>rfl,λ_=>rfl,λ_ _ _=>List.map_append,λ_ _ _ _=>List.map_set,λ_ _ _=>List.map_take,λ_ _ _=>List.map_drop⟩
def Xu:=PLift.up (And.intro @W7 (And.intro @Nk (And.intro @W9 (And.intro @W1 (And.intro @Nj (And.intro @W3 (And.intro @NI (And.intro @NJ (And.intro @Nl (And.intro @Nn (And.intro @xh (And.intro @Np (And.intro @Nq (And.intro @Nr (And.intro @NK (And.intro @NL (And.intro @NM (And.intro @NN (And.intro @NO (And.intro @NP (And.intro @Ns (And.intro @Nt (And.intro @Nu (And.intro @Nv (And.intro @Nw (And.intro @Nx (And.intro @Ny (And.intro @Nz (And.intro @NA (And.intro @NB (And.intro @NG (And.intro @Iy (And.intro @IA (And.intro @Iz (And.intro @N4 (And.intro @N5 (And.intro @N6 (And.intro @N7 (And.intro @cp.eq_def (And.intro @loc.eq_def (And.intro @cY.eq_def (And.intro @gg.eq_def (And.intro @ex.eq_def (And.intro @nb.eq_def (And.intro @fits.eq_def (And.intro @I.gd.eq_1 (And.intro @I.gd.eq_2 (And.intro @I.gd.eq_3 (And.intro @I.gd.eq_4 (And.intro @I.gd.eq_5 (And.intro @I.gd.eq_6 (And.intro @K6 (And.intro @K7 (And.intro @Bool.not_true (And.intro @Bool.not_false (And.intro @Bool.true_and (And.intro @Bool.and_true (And.intro @Bool.false_and (And.intro @Bool.true_or (And.intro @Bool.false_or (And.intro @Bool.and_self (And.intro @Bool.false_eq_true (And.intro @Bool.true_eq_false (And.intro @Bool.not_not (And.intro @true_and (And.intro @and_true (And.intro @and_self (And.intro @decide_true (And.intro @decide_false (And.intro @not_false_eq_true (And.intro @not_true_eq_false (And.intro @N0 (And.intro @Nat.zero_add (And.intro @Nat.add_zero (And.intro @Nat.mul_one (And.intro @Nat.lt_add_one (And.intro @Nat.zero_lt_succ (And.intro @dm.eq_def (And.intro @hx.eq_def (And.intro @flat.eq_1 (And.intro @flat.eq_2 (And.intro @flat.eq_3 (And.intro @flat.eq_4 (And.intro @flat.eq_5 (And.intro @flat.eq_6 (And.intro @flat.eq_7 (And.intro @rr.eq_1 (And.intro @rr.eq_2 (And.intro @gH.eq_def (And.intro @IE (And.intro @Oa (And.intro @Ob (@IF)))))))))))))))))))))))))))))))))))))))))))))))))))))))))))))))))))))))))))))))))))))))))))))
def zC:=PLift.up (And.intro @W8 (And.intro @Nk (And.intro @W_ (And.intro @W2 (And.intro @Nj (And.intro @W4 (And.intro @NI (And.intro @NJ (And.intro @Nl (And.intro @Nn (And.intro @xh (And.intro @Np (And.intro @Nq (And.intro @Nr (And.intro @NK (And.intro @NL (And.intro @NM (And.intro @NN (And.intro @NO (And.intro @NP (And.intro @Ns (And.intro @Nt (And.intro @Nu (And.intro @Nv (And.intro @Nw (And.intro @Nx (And.intro @Ny (And.intro @Nz (And.intro @NA (And.intro @NB (And.intro @NG (And.intro @Iy (And.intro @IA (And.intro @Iz (And.intro @N4 (And.intro @N5 (And.intro @N6 (And.intro @N7 (And.intro @cp.eq_def (And.intro @loc.eq_def (And.intro @cY.eq_def (And.intro @gg.eq_def (And.intro @ex.eq_def (And.intro @nb.eq_def (And.intro @fits.eq_def (And.intro @I.gd.eq_1 (And.intro @I.gd.eq_2 (And.intro @I.gd.eq_3 (And.intro @I.gd.eq_4 (And.intro @I.gd.eq_5 (And.intro @I.gd.eq_6 (And.intro @K6 (And.intro @K7 (And.intro @Bool.not_true (And.intro @Bool.not_false (And.intro @Bool.true_and (And.intro @Bool.and_true (And.intro @Bool.false_and (And.intro @Bool.true_or (And.intro @Bool.false_or (And.intro @Bool.and_self (And.intro @Bool.false_eq_true (And.intro @Bool.true_eq_false (And.intro @Bool.not_not (And.intro @true_and (And.intro @and_true (And.intro @and_self (And.intro @decide_true (And.intro @decide_false (And.intro @not_false_eq_true (And.intro @not_true_eq_false (And.intro @N0 (And.intro @Nat.zero_add (And.intro @Nat.add_zero (And.intro @Nat.mul_one (And.intro @Nat.lt_add_one (And.intro @Nat.zero_lt_succ (And.intro @dm.eq_def (And.intro @hx.eq_def (And.intro @flat.eq_1 (And.intro @flat.eq_2 (And.intro @flat.eq_3 (And.intro @flat.eq_4 (And.intro @flat.eq_5 (And.intro @flat.eq_6 (And.intro @flat.eq_7 (And.intro @rr.eq_1 (And.intro @rr.eq_2 (And.intro @gH.eq_def (And.intro @IE (And.intro @Oa (And.intro @Ob (@IF)))))))))))))))))))))))))))))))))))))))))))))))))))))))))))))))))))))))))))))))))))))))))))))
def Xv:=PLift.up (And.intro @Iy (And.intro @IA (And.intro @Iz (And.intro @lF.eq_1 (And.intro @Nat.zero_add (And.intro @Bool.not_true (And.intro @Bool.not_false (And.intro @Bool.true_and (And.intro @Bool.and_true (And.intro @Bool.false_and (And.intro @Bool.true_or (And.intro @Bool.false_or (And.intro @Bool.and_self (And.intro @Bool.false_eq_true (And.intro @Bool.true_eq_false (And.intro @Bool.not_not (And.intro @IE (And.intro @IF (@p4)))))))))))))))))))
end Go.c_
