/- Part of a proof that a law returns true for every input. No condition. -/
import Derived.Test.YtpdplcdnpaoceaaFwG
import Derived.ChangeArms
import Derived.WideShapes
namespace Go.cM
open Go.IntKind Nat Or
section
variable {H:Type} {enc:TypeId×Value->H} {P:Program} {w:World} {base:Nat} {sp:Nat->Bool} {held:Bool}
def j9 {τ:Type} (enc:TypeId×Value->H) (P:Program) (w:World) (base:Nat) (sp:Nat->Bool) (held:Bool) (T:TypeId) (e:τ->I) (W:τ->Prop):Prop:=
 ∀(fuel:Nat) (cs:Xw) (x:DataW H×List MemPlace),DataW.trod enc P w base sp held fuel T cs=some x->∃y,W y/\al w (F0 w) (e y) cs (λ_=>False)
theorem NG {T:TypeId} {k:IntKind} (aN:P.underlying T=some (.int k)):j9 enc P w base sp held T (λn=>.int k n) (λn=>(Lit.int k n).wf=true):=by
 intro fuel cs x h;obtain⟨n,rfl,_,hw⟩:=DataW.trod_int aN h;exact⟨n,hw,by rw[al]⟩
theorem NH {T:TypeId} (aN:P.underlying T=some (.int .i64)):j9 enc P w base sp held T (λn=>.int .i64 n) (λn=> -9223372036854775808<=n/\n<=9223372036854775807):=by
 intro fuel cs x h;obtain⟨n,hw,aI⟩:=NG aN fuel cs x h;exact⟨n,wf_i64 hw,aI⟩
theorem NI {T:TypeId} (aN:P.underlying T=some .string):j9 enc P w base sp held T (λs=>.str s) (λs=>s.length<=9223372036854775807):=by
 intro fuel cs x h;obtain⟨s,rfl,_,aa⟩:=DataW.trod_string aN h;exact⟨s.data.toList,aa,by rw[al]⟩
theorem NJ {α β:Type} {f:α->Option β}:∀{l:List α} {r:List β},l.mapM f=some r->r.length=l.length/\∀(i:Nat) (a:α),l[i]? =some a->f a=r[i]? :=by
 intro l;induction l with
 |nil=>intro r h;simp at h;subst h;exact⟨rfl,λi a h=>by simp at h⟩
 |cons a l ih=>
  intro r h;simp only[List.mapM_cons,Option.bind_eq_bind,Option.bind_eq_some_iff]at h;obtain⟨b,U,e0,aI,he⟩:=h;have he:b::e0=r:=by simpa using he
  subst he;obtain⟨ab,ad⟩:=ih aI;refine⟨by simp[ab],λi x an=>?_⟩;cases i with
  |zero=>simp at an;subst an;simpa using U
  |succ i=>simpa using ad i x (by simpa using an)
theorem GC {a:Addr} {n:Nat} {cs:Xw} (h:w.cells? base a n=some cs):cs.length=n/\∀j c,cs[j]? =some c->w.cell? (a.add j)=some c:=by
 unfold World.cells? at h;split at h
 .obtain⟨ab,ad⟩:=NJ h;refine⟨by simpa using ab,λj c aj=>?_⟩;have b6:j<n:=by
   have:=(List.getElem?_eq_some_iff.1 aj).1;rw[ab]at this;simpa using this
  rw[ad j j (by simp[b6]),aj]
 .cases h
theorem NK {a:Addr} {c:Value} (h:w.cell? a=some c):a.spot=none/\a.block<w.heap.size:=by
 unfold World.cell? at h;split at h
 .rename_i cs e fr U;split at h
  .cases h
  .rename_i aa;refine⟨by simpa using aa,?_⟩;exact(Array.getElem?_eq_some_iff.1 U).1
 .cases h
theorem wQ {τ:Type} {T e:TypeId} {sz:Nat} {ec:τ->I} {W:τ->Prop} (aN:P.underlying T=some (.slice e)) (cK:P.cellsOf e=sz) (Wj:0<sz) (hw:∀y,(ec y).wd=sz) (h:j9 enc P w base sp held e ec W):
  j9 enc P w base sp held T (λbT:List τ=>.slice (bT.map ec)) (λbT:List τ=>bT.length<=9223372036854775807/\∀y∈bT,W y):=by
 intro fuel cs x an;rcases DataW.trod_slice aN an with⟨rfl,_⟩|⟨a,len,cap,elems,rest,n,_,rfl,_,_,ab,ad,aB,aY,_⟩
 .exact⟨[],⟨by simp,by simp⟩,by simp only[List.map_nil];rw[al];exact .inl ⟨rfl,none,0,rfl,zero_le _,λ_=>rfl⟩⟩
 .by_cases ba:len=0
  .subst ba;exact⟨[],⟨by simp,by simp⟩,by simp only[List.map_nil];rw[al];exact .inl ⟨rfl,some a,cap,rfl,ad,λh=>by cases h⟩⟩
  .rw[cK]at aY;have get:∀i,i<len->∃pg y,w.cells? base (a.add (i*sz)) sz=some pg/\W y/\al w (F0 w) (ec y) pg (λ_=>False):=by
    intro i aE;have:=aY i aE;rw[List.getElem?_eq_getElem (by omega),Option.bind_eq_some_iff]at this;obtain⟨pg,aM,aS⟩:=this;obtain⟨y,gC,h3⟩:=h _ _ _ aS;exact⟨pg,y,aM,gC,h3⟩
   obtain⟨NL,g1,aO,_,a3⟩:=get 0 (by omega);obtain⟨Wk,e6⟩:=GC aO;have AA:∃c,NL[0]? =some c:=⟨_,List.getElem?_eq_getElem (by omega)⟩
   obtain⟨mr,AA⟩:=AA;have GD:=NK (e6 0 mr AA);have bQ:(a.add (0*sz)).add 0=a:=by simp[Addr.add]
   rw[bQ]at GD;obtain⟨b,o,spot⟩:=a;obtain⟨oq,jn⟩:=GD;simp only at oq jn;subst oq;have all:∀m,m<=len->∃(bT:List τ) (dc:Xw),bT.length=m/\(∀y∈bT,W y)/\dc.length=m*sz/\gi w b o dc/\aQ w (F0 w) (bT.map ec) dc (λ_=>False):=by
    intro m;induction m with
    |zero=>intro _;exact⟨[],[],rfl,by simp,by simp,λj c aj=>by simp at aj,by rw[List.map_nil,aQ]⟩
    |succ m ih=>
     intro hm;obtain⟨bT,dc,bM,b1,cZ,cF,dL⟩:=ih (by omega);obtain⟨pg,y,aM,aS,aV⟩:=get m (by omega);obtain⟨dZ,fj⟩:=GC aM;refine⟨bT++[y],dc++pg,by simp[bM],?_,by simp[cZ,dZ,Nat.add_mul],?_,?_⟩
     .intro z bz;rcases List.mem_append.1 bz with bz|bz
      .exact b1 z bz
      .simp at bz;subst bz;exact aS
     .intro j c aj;by_cases b6:j<dc.length
      .rw[List.getElem?_append_left b6]at aj;exact cF j c aj
      .rw[List.getElem?_append_right (by omega)]at aj;have:=fj _ c aj;rw[Addr.add_lit,Addr.add_lit]at this;rw[<-this];congr 2;omega
     .rw[List.map_append];refine aQ.append dL ?_ (λ_ h=>h) (λ_ h=>h) (λ_ h=>h.elim);simp only[List.map_cons,List.map_nil];rw[aQ];exact⟨pg,[],λ_=>False,λ_=>False,by simp,aV,by rw[aQ],λ_ h=>h.elim,λ_ h=>h.elim,λ_ h=>h.elim⟩
   obtain⟨bT,dc,bM,b1,cZ,cF,dL⟩:=all len (Nat.le_refl _);refine⟨bT,⟨by rw[bM];exact Nat.le_trans ab ad,b1⟩,?_⟩;rw[al];refine .inr ⟨b,o,cap,dc,sz,by simp[bM],jn,by simp[bM,ab],ad,?_,cF,dL⟩;intro d af;obtain⟨y,_,rfl⟩:=List.mem_map.1 af;exact hw y
def ends:Nat->List (Nat×Nat)->Option Nat
 |o,[]=>some o
 |o,(lf,sz)::r=>if o=lf then ends (o+sz) r else none
def GF (w:World) (F:Nat->Prop) (cs:Xw):List (I×Nat×Nat)->Prop
 |[]=>True
 |(d,off,sz)::r=>al w F d ((cs.drop off).take sz) (λ_=>False)/\GF w F cs r
theorem AB {F:Nat->Prop} {cs:Xw}:∀(l:List (I×Nat×Nat)) (o:Nat),ends o (l.map (·.2))=some cs.length->GF w F cs l->aQ w F (l.map (·.1)) (cs.drop o) (λ_=>False):=by
 intro l;induction l with
 |nil=>intro o he _;simp[ends]at he;subst he;simp only[List.map_nil];rw[aQ];simp
 |cons p l ih=>
  intro o he bk;obtain⟨d,off,sz⟩:=p;simp only[List.map_cons,ends]at he;split at he
  .rename_i e;subst e;obtain⟨f1,f2⟩:=bk;simp only[List.map_cons];rw[aQ];refine⟨(cs.drop o).take sz,cs.drop (o+sz),λ_=>False,λ_=>False,?_,f1,ih _ he f2,λ_ h=>h.elim,λ_ h=>h.elim,λ_ h=>h.elim⟩;rw[<-List.drop_drop,List.take_append_drop]
  .cases he
theorem nC {n T:Nat} {cs:Xw} {o:Option (DataW H×List MemPlace)} {τ:Type} {e:τ->I} {W:τ->Prop} (aI:j9 enc P w base sp held T e W) (h:DataW.trod enc P w base sp held n T cs=o) (bG:o.isSome=true):
  ∃y,W y/\al w (F0 w) (e y) cs (λ_=>False):=by
 obtain⟨x,rfl⟩:=Option.isSome_iff_exists.1 bG;exact aI _ _ _ h
theorem NM {τ:Type} {T:TypeId} {ar:Array Field} {es:τ->Xy} {W:τ->Prop} {r:Reach} {gY:Nat} {v:Value} {d:DataW H} {ps:List MemPlace} (aN:P.underlying T=some (.struct ar)) (aI:j9 enc P w base sp held T (λy=>.agg (es y)) W)
  (ov:Value.okWide P w r gY T v) (af:DataW.Trod enc P w base sp held T v d ps):∃y,Arg w (.agg (es y)) v/\W y:=by
 obtain⟨cs,rfl,_⟩:=WideShapes.okWide_struct aN ov;obtain⟨fuel,bk⟩:=af;obtain⟨y,ab,ad⟩:=aI _ _ _ bk;refine⟨y,⟨rfl,⟨cs,rfl⟩,?_⟩,ab⟩;simpa [Value.cells,bL,gk]using ad
end
theorem AD:(∀{α β:Type} (f:α->β) (l:List α),(l.map f).length=l.length)/\(∀{α:Type} (n:Nat) (a:α),(List.replicate n a).length=n)/\(∀{α:Type} (a:α) (l:List α),(a::l).length=l.length+1)/\(∀{α:Type},([]:List α).length=0)/\(∀{α:Type} (a b:List α),(a++b).length=a.length+b.length):=
 ⟨λ_ _=>List.length_map _,λ_ _=>List.length_replicate,λ_ _=>rfl,rfl,λ_ _=>List.length_append⟩
theorem GG:(∀{α β:Type} (f:α->β) (l:List α) (i:Nat),(l.map f)[i]? =l[i]?.map f)/\(∀{α:Type} (a:α) (l:List α),(a::l)[0]? =some a)/\(∀{α:Type} (a:α) (l:List α) (i:Nat),(a::l)[i+1]? =l[i]?)/\
  (∀{α:Type} (a b:α) (l:List α),(a::l).set 0 b=b::l)/\(∀{α:Type} (a b:α) (l:List α) (n:Nat),(a::l).set (n+1) b=a::l.set n b)/\(∀{α:Type} (a:α) (l:List α) (n:Nat),(a::l).take (n+1)=a::l.take n)/\(∀{α:Type} (l:List α),l.take 0=[]):=
 ⟨λ_ _ _=>List.getElem?_map,λ_ _=>rfl,λ_ _ _=>rfl,λ_ _ _=>rfl,λ_ _ _ _=>rfl,λ_ _ _=>rfl,λ_=>rfl⟩
theorem GH:(∀{α β:Type} (f:α->β) (a:α),(some a).map f=some (f a))/\(∀{α β:Type} (f:α->β),(none:Option α).map f=none)/\(∀{α:Type} (a:α),(some a).isSome=true):=⟨λ_ _=>rfl,λ_=>rfl,λ_=>rfl⟩
theorem AE:(∀{α β γ:Type} (g:β->γ) (f:α->β) (l:List α),(l.map f).map g=l.map (g∘f))/\(∀{α:Type} (l:List α),l++[]=l):=⟨λ_ _ _=>List.map_map,λl=>List.append_nil l⟩
theorem r5:(∀{α β:Type} (f:α->β) (a:α) (l:List α),(a::l).map f=f a::l.map f)/\(∀{α β:Type} (f:α->β),([]:List α).map f=[])/\(∀{α β:Type} (f:α->β) (a b:List α),(a++b).map f=a.map f++b.map f)/\
  (∀{α β:Type} (f:α->β) (l:List α) (i:Nat) (a:α),(l.set i a).map f=(l.map f).set i (f a))/\(∀{α β:Type} (f:α->β) (l:List α) (i:Nat),(l.take i).map f=(l.map f).take i)/\(∀{α β:Type} (f:α->β) (l:List α) (i:Nat),(l.drop i).map f=(l.map f).drop i):=
 ⟨λ_ _ _=>rfl,λ_=>rfl,λ_ _ _=>List.map_append,λ_ _ _ _=>List.map_set,λ_ _ _=>List.map_take,λ_ _ _=>List.map_drop⟩
def NN:=PLift.up (ae @wL (ae @FL (ae @Nc (ae @FP (ae @FQ (ae @Nf (ae @FK (ae @Nh (ae @Gd (ae @Ge (ae @FR (ae @FT (ae @Aq (ae @FU (ae @FV (ae @FW (ae @Gf (ae @Gg (ae @Gh (ae @Gi (ae @Gj (ae @Gk (ae @FX (ae @FY (ae @FZ (ae @F1 (ae @F2 (ae @F3 (ae @F4 (ae @F5 (ae @F6 (ae @F7 (ae @Ga (ae @Au (ae @Aw (ae @Av (ae @Gy (ae @Gz (ae @GA (ae @GB (ae @ew.eq_def (ae @loc.eq_def (ae @gO.eq_def (ae @hC.eq_def (ae @ex.eq_def (ae @od.eq_def (ae @fits.eq_def (ae @I.ei.eq_1 (ae @I.ei.eq_2 (ae @I.ei.eq_3 (ae @I.ei.eq_4 (ae @I.ei.eq_5 (ae @I.ei.eq_6 (ae @Dk (ae @Dl (ae @Bool.not_true (ae @Bool.not_false (ae @Bool.true_and (ae @Bool.and_true (ae @Bool.false_and (ae @Bool.true_or (ae @Bool.false_or (ae @Bool.and_self (ae @Bool.false_eq_true (ae @Bool.true_eq_false (ae @Bool.not_not (ae @true_and (ae @and_true (ae @and_self (ae @decide_true (ae @decide_false (ae @not_false_eq_true (ae @not_true_eq_false (ae @Gu (ae @Nat.zero_add (ae @Nat.add_zero (ae @Nat.mul_one (ae @Nat.lt_add_one (ae @zero_lt_succ (ae @g6.eq_def (ae @kL.eq_def (ae @flat.eq_1 (ae @flat.eq_2 (ae @flat.eq_3 (ae @flat.eq_4 (ae @flat.eq_5 (ae @flat.eq_6 (ae @flat.eq_7 (ae @n6.eq_1 (ae @n6.eq_2 (ae @iC.eq_def (ae @AD (ae @GG (ae @GH (@AE)))))))))))))))))))))))))))))))))))))))))))))))))))))))))))))))))))))))))))))))))))))))))))))))
def NO:=PLift.up (ae @Ap (ae @FL (ae @Nd (ae @FP (ae @FQ (ae @Ng (ae @FK (ae @Ni (ae @Gd (ae @Ge (ae @FR (ae @FT (ae @Aq (ae @FU (ae @FV (ae @FW (ae @Gf (ae @Gg (ae @Gh (ae @Gi (ae @Gj (ae @Gk (ae @FX (ae @FY (ae @FZ (ae @F1 (ae @F2 (ae @F3 (ae @F4 (ae @F5 (ae @F6 (ae @F7 (ae @Ga (ae @Au (ae @Aw (ae @Av (ae @Gy (ae @Gz (ae @GA (ae @GB (ae @ew.eq_def (ae @loc.eq_def (ae @gO.eq_def (ae @hC.eq_def (ae @ex.eq_def (ae @od.eq_def (ae @fits.eq_def (ae @I.ei.eq_1 (ae @I.ei.eq_2 (ae @I.ei.eq_3 (ae @I.ei.eq_4 (ae @I.ei.eq_5 (ae @I.ei.eq_6 (ae @Dk (ae @Dl (ae @Bool.not_true (ae @Bool.not_false (ae @Bool.true_and (ae @Bool.and_true (ae @Bool.false_and (ae @Bool.true_or (ae @Bool.false_or (ae @Bool.and_self (ae @Bool.false_eq_true (ae @Bool.true_eq_false (ae @Bool.not_not (ae @true_and (ae @and_true (ae @and_self (ae @decide_true (ae @decide_false (ae @not_false_eq_true (ae @not_true_eq_false (ae @Gu (ae @Nat.zero_add (ae @Nat.add_zero (ae @Nat.mul_one (ae @Nat.lt_add_one (ae @zero_lt_succ (ae @g6.eq_def (ae @kL.eq_def (ae @flat.eq_1 (ae @flat.eq_2 (ae @flat.eq_3 (ae @flat.eq_4 (ae @flat.eq_5 (ae @flat.eq_6 (ae @flat.eq_7 (ae @n6.eq_1 (ae @n6.eq_2 (ae @iC.eq_def (ae @AD (ae @GG (ae @GH (@AE)))))))))))))))))))))))))))))))))))))))))))))))))))))))))))))))))))))))))))))))))))))))))))))))
def NP:=PLift.up (ae @Au (ae @Aw (ae @Av (ae @jf.eq_1 (ae @Nat.zero_add (ae @Bool.not_true (ae @Bool.not_false (ae @Bool.true_and (ae @Bool.and_true (ae @Bool.false_and (ae @Bool.true_or (ae @Bool.false_or (ae @Bool.and_self (ae @Bool.false_eq_true (ae @Bool.true_eq_false (ae @Bool.not_not (ae @AD (ae @AE (@r5)))))))))))))))))))
end Go.cM
