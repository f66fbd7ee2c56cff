/- Part of a proof that a law returns true for every input. No condition. -/
import Derived.Test.YtklcmlnabkfneaaGreatFwG
import Derived.ChangeArms
import Derived.WideShapes
namespace Go.cU
open Go.IntKind Nat Or
section
variable {H:Type} {enc:TypeId×Value->H} {P:Program} {w:World} {base:Nat} {sp:Nat->Bool} {held:Bool}
def ic {τ:Type} (enc:TypeId×Value->H) (P:Program) (w:World) (base:Nat) (sp:Nat->Bool) (held:Bool) (T:TypeId) (e:τ->I) (W:τ->Prop):Prop:=
 ∀(fuel:Nat) (cs:aiD) (x:DataW H×List MemPlace),DataW.trod enc P w base sp held fuel T cs=some x->∃y,W y/\aq w (F0 w) (e y) cs (λ_=>False)
theorem S8 {T:TypeId} {k:IntKind} (aY:P.underlying T=some (.int k)):ic enc P w base sp held T (λn=>.int k n) (λn=>(Lit.int k n).wf=true):=by
 intro fuel cs x h;obtain⟨n,rfl,_,hw⟩:=DataW.trod_int aY h;exact⟨n,hw,by rw[aq]⟩
theorem S9 {T:TypeId} (aY:P.underlying T=some (.int .i64)):ic enc P w base sp held T (λn=>.int .i64 n) (λn=> -9223372036854775808<=n/\n<=9223372036854775807):=by
 intro fuel cs x h;obtain⟨n,hw,aK⟩:=S8 aY fuel cs x h;exact⟨n,wf_i64 hw,aK⟩
theorem S_ {T:TypeId} (aY:P.underlying T=some .string):ic enc P w base sp held T (λs=>.str s) (λs=>s.length<=9223372036854775807):=by
 intro fuel cs x h;obtain⟨s,rfl,_,U⟩:=DataW.trod_string aY h;exact⟨s.data.toList,U,by rw[aq]⟩
theorem Ta {α β:Type} {f:α->Option β}:∀{l:List α} {r:List β},l.mapM f=some r->r.length=l.length/\∀(i:Nat) (a:α),l[i]? =some a->f a=r[i]? :=by
 intro l;induction l with
 |nil=>intro r h;simp at h;subst h;exact⟨rfl,λi a h=>by simp at h⟩
 |cons a l ih=>
  intro r h;simp only[List.mapM_cons,Option.bind_eq_bind,Option.bind_eq_some_iff]at h;obtain⟨b,R,jy,aK,he⟩:=h;have he:b::jy=r:=by simpa using he
  subst he;obtain⟨ab,ad⟩:=ih aK;refine⟨by simp[ab],λi x ar=>?_⟩;cases i with
  |zero=>simp at ar;subst ar;simpa using R
  |succ i=>simpa using ad i x (by simpa using ar)
theorem Lp {a:Addr} {n:Nat} {cs:aiD} (h:w.cells? base a n=some cs):cs.length=n/\∀j c,cs[j]? =some c->w.cell? (a.add j)=some c:=by
 unfold World.cells? at h;split at h
 .obtain⟨ab,ad⟩:=Ta h;refine⟨by simpa using ab,λj c aj=>?_⟩;have bd:j<n:=by
   have:=(List.getElem?_eq_some_iff.1 aj).1;rw[ab]at this;simpa using this
  rw[ad j j (by simp[bd]),aj]
 .cases h
theorem Tb {a:Addr} {c:Value} (h:w.cell? a=some c):a.spot=none/\a.block<w.heap.size:=by
 unfold World.cell? at h;split at h
 .rename_i cs e fr R;split at h
  .cases h
  .rename_i U;refine⟨by simpa using U,?_⟩;exact(Array.getElem?_eq_some_iff.1 R).1
 .cases h
theorem p_ {τ:Type} {T e:TypeId} {sz:Nat} {ec:τ->I} {W:τ->Prop} (aY:P.underlying T=some (.slice e)) (dP:P.cellsOf e=sz) (Tc:0<sz) (hw:∀y,(ec y).wd=sz) (h:ic enc P w base sp held e ec W):
  ic enc P w base sp held T (λys:List τ=>.slice (ys.map ec)) (λys:List τ=>ys.length<=9223372036854775807/\∀y∈ys,W y):=by
 intro fuel cs x ar;rcases DataW.trod_slice aY ar with⟨rfl,_⟩|⟨a,len,cap,elems,rest,n,_,rfl,_,_,ab,ad,aA,aZ,_⟩
 .exact⟨[],⟨by simp,by simp⟩,by simp only[List.map_nil];rw[aq];exact .inl ⟨rfl,none,0,rfl,zero_le _,λ_=>rfl⟩⟩
 .by_cases a7:len=0
  .subst a7;exact⟨[],⟨by simp,by simp⟩,by simp only[List.map_nil];rw[aq];exact .inl ⟨rfl,some a,cap,rfl,ad,λh=>by cases h⟩⟩
  .rw[dP]at aZ;have get:∀i,i<len->∃ni y,w.cells? base (a.add (i*sz)) sz=some ni/\W y/\aq w (F0 w) (ec y) ni (λ_=>False):=by
    intro i ak;have:=aZ i ak;rw[List.getElem?_eq_getElem (by omega),Option.bind_eq_some_iff]at this;obtain⟨ni,aN,aR⟩:=this;obtain⟨y,ez,gT⟩:=h _ _ _ aR;exact⟨ni,y,aN,ez,gT⟩
   obtain⟨Td,fb,g1,_,g2⟩:=get 0 (by omega);obtain⟨Te,ev⟩:=Lp g1;have Ee:∃c,Td[0]? =some c:=⟨_,List.getElem?_eq_getElem (by omega)⟩
   obtain⟨mm,Ee⟩:=Ee;have Lq:=Tb (ev 0 mm Ee);have bU:(a.add (0*sz)).add 0=a:=by simp[Addr.add]
   rw[bU]at Lq;obtain⟨b,o,spot⟩:=a;obtain⟨p3,pc⟩:=Lq;simp only at p3 pc;subst p3;have all:∀m,m<=len->∃(ys:List τ) (d_:aiD),ys.length=m/\(∀y∈ys,W y)/\d_.length=m*sz/\Rd w b o d_/\aV w (F0 w) (ys.map ec) d_ (λ_=>False):=by
    intro m;induction m with
    |zero=>intro _;exact⟨[],[],rfl,by simp,by simp,λj c aj=>by simp at aj,by rw[List.map_nil,aV]⟩
    |succ m ih=>
     intro hm;obtain⟨ys,d_,b1,cb,eu,dp,e0⟩:=ih (by omega);obtain⟨ni,y,aN,aR,aS⟩:=get m (by omega);obtain⟨m1,m2⟩:=Lp aN;refine⟨ys++[y],d_++ni,by simp[b1],?_,by simp[eu,m1,Nat.add_mul],?_,?_⟩
     .intro z bO;rcases List.mem_append.1 bO with bO|bO
      .exact cb z bO
      .simp at bO;subst bO;exact aR
     .intro j c aj;by_cases bd:j<d_.length
      .rw[List.getElem?_append_left bd]at aj;exact dp j c aj
      .rw[List.getElem?_append_right (by omega)]at aj;have:=m2 _ c aj;rw[Addr.add_lit,Addr.add_lit]at this;rw[<-this];congr 2;omega
     .rw[List.map_append];refine aV.append e0 ?_ (λ_ h=>h) (λ_ h=>h) (λ_ h=>h.elim);simp only[List.map_cons,List.map_nil];rw[aV];exact⟨ni,[],λ_=>False,λ_=>False,by simp,aS,by rw[aV],λ_ h=>h.elim,λ_ h=>h.elim,λ_ h=>h.elim⟩
   obtain⟨ys,d_,b1,cb,eu,dp,e0⟩:=all len (Nat.le_refl _);refine⟨ys,⟨by rw[b1];exact Nat.le_trans ab ad,cb⟩,?_⟩;rw[aq];refine .inr ⟨b,o,cap,d_,sz,by simp[b1],pc,by simp[b1,ab],ad,?_,dp,e0⟩;intro d ag;obtain⟨y,_,rfl⟩:=List.mem_map.1 ag;exact hw y
def ends:Nat->List (Nat×Nat)->Option Nat
 |o,[]=>some o
 |o,(lE,sz)::r=>if o=lE then ends (o+sz) r else none
def Lr (w:World) (F:Nat->Prop) (cs:aiD):List (I×Nat×Nat)->Prop
 |[]=>True
 |(d,off,sz)::r=>aq w F d ((cs.drop off).take sz) (λ_=>False)/\Lr w F cs r
theorem sC {F:Nat->Prop} {cs:aiD}:∀(l:List (I×Nat×Nat)) (o:Nat),ends o (l.map (·.2))=some cs.length->Lr w F cs l->aV w F (l.map (·.1)) (cs.drop o) (λ_=>False):=by
 intro l;induction l with
 |nil=>intro o he _;simp[ends]at he;subst he;simp only[List.map_nil];rw[aV];simp
 |cons p l ih=>
  intro o he bn;obtain⟨d,off,sz⟩:=p;simp only[List.map_cons,ends]at he;split at he
  .rename_i e;subst e;obtain⟨f1,f2⟩:=bn;simp only[List.map_cons];rw[aV];refine⟨(cs.drop o).take sz,cs.drop (o+sz),λ_=>False,λ_=>False,?_,f1,ih _ he f2,λ_ h=>h.elim,λ_ h=>h.elim,λ_ h=>h.elim⟩;rw[<-List.drop_drop,List.take_append_drop]
  .cases he
theorem jo {n T:Nat} {cs:aiD} {o:Option (DataW H×List MemPlace)} {τ:Type} {e:τ->I} {W:τ->Prop} (aK:ic enc P w base sp held T e W) (h:DataW.trod enc P w base sp held n T cs=o) (bx:o.isSome=true):
  ∃y,W y/\aq w (F0 w) (e y) cs (λ_=>False):=by
 obtain⟨x,rfl⟩:=Option.isSome_iff_exists.1 bx;exact aK _ _ _ h
theorem Tf {τ:Type} {T e:TypeId} {ec:τ->I} {W:List τ->Prop} {r:Reach} {i7:Nat} {v:Value} {d:DataW H} {ps:List MemPlace} (aY:P.underlying T=some (.slice e)) (aK:ic enc P w base sp held T (λys:List τ=>.slice (ys.map ec)) W)
  (o7:Value.okWide P w r i7 T v) (ag:DataW.Trod enc P w base sp held T v d ps):∃ys,Arg w (.slice (ys.map ec)) v/\W ys:=by
 obtain⟨a,len,cap,rfl⟩:=WideShapes.okWide_slice aY o7;obtain⟨fuel,bn⟩:=ag;obtain⟨ys,ab,ad⟩:=aK _ _ _ bn;refine⟨ys,⟨rfl,rfl,?_⟩,ab⟩;simpa [Value.cells,b9,hU]using ad
theorem Tg {τ:Type} {T:TypeId} {ay:Array Field} {es:τ->aiF} {W:τ->Prop} {r:Reach} {i7:Nat} {v:Value} {d:DataW H} {ps:List MemPlace} (aY:P.underlying T=some (.struct ay)) (aK:ic enc P w base sp held T (λy=>.agg (es y)) W)
  (o7:Value.okWide P w r i7 T v) (ag:DataW.Trod enc P w base sp held T v d ps):∃y,Arg w (.agg (es y)) v/\W y:=by
 obtain⟨cs,rfl,_⟩:=WideShapes.okWide_struct aY o7;obtain⟨fuel,bn⟩:=ag;obtain⟨y,ab,ad⟩:=aK _ _ _ bn;refine⟨y,⟨rfl,⟨cs,rfl⟩,?_⟩,ab⟩;simpa [Value.cells,b9,hU]using ad
end
theorem Ef:(∀{α β:Type} (f:α->β) (l:List α),(l.map f).length=l.length)/\(∀{α:Type} (n:Nat) (a:α),(List.replicate n a).length=n)/\(∀{α:Type} (a:α) (l:List α),(a::l).length=l.length+1)/\(∀{α:Type},([]:List α).length=0)/\(∀{α:Type} (a b:List α),(a++b).length=a.length+b.length):=
 ⟨λ_ _=>List.length_map _,λ_ _=>List.length_replicate,λ_ _=>rfl,rfl,λ_ _=>List.length_append⟩
theorem Ls:(∀{α β:Type} (f:α->β) (l:List α) (i:Nat),(l.map f)[i]? =l[i]?.map f)/\(∀{α:Type} (a:α) (l:List α),(a::l)[0]? =some a)/\(∀{α:Type} (a:α) (l:List α) (i:Nat),(a::l)[i+1]? =l[i]?)/\
  (∀{α:Type} (a b:α) (l:List α),(a::l).set 0 b=b::l)/\(∀{α:Type} (a b:α) (l:List α) (n:Nat),(a::l).set (n+1) b=a::l.set n b)/\(∀{α:Type} (a:α) (l:List α) (n:Nat),(a::l).take (n+1)=a::l.take n)/\(∀{α:Type} (l:List α),l.take 0=[]):=
 ⟨λ_ _ _=>List.getElem?_map,λ_ _=>rfl,λ_ _ _=>rfl,λ_ _ _=>rfl,λ_ _ _ _=>rfl,λ_ _ _=>rfl,λ_=>rfl⟩
theorem Lt:(∀{α β:Type} (f:α->β) (a:α),(some a).map f=some (f a))/\(∀{α β:Type} (f:α->β),(none:Option α).map f=none)/\(∀{α:Type} (a:α),(some a).isSome=true):=⟨λ_ _=>rfl,λ_=>rfl,λ_=>rfl⟩
theorem Eg:(∀{α β γ:Type} (g:β->γ) (f:α->β) (l:List α),(l.map f).map g=l.map (g∘f))/\(∀{α:Type} (l:List α),l++[]=l):=⟨λ_ _ _=>List.map_map,λl=>List.append_nil l⟩
theorem wM:(∀{α β:Type} (f:α->β) (a:α) (l:List α),(a::l).map f=f a::l.map f)/\(∀{α β:Type} (f:α->β),([]:List α).map f=[])/\(∀{α β:Type} (f:α->β) (a b:List α),(a++b).map f=a.map f++b.map f)/\
  (∀{α β:Type} (f:α->β) (l:List α) (i:Nat) (a:α),(l.set i a).map f=(l.map f).set i (f a))/\(∀{α β:Type} (f:α->β) (l:List α) (i:Nat),(l.take i).map f=(l.map f).take i)/\(∀{α β:Type} (f:α->β) (l:List α) (i:Nat),(l.drop i).map f=(l.map f).drop i):=
 ⟨λ_ _ _=>rfl,λ_=>rfl,λ_ _ _=>List.map_append,λ_ _ _ _=>List.map_set,λ_ _ _=>List.map_take,λ_ _ _=>List.map_drop⟩
def Th:=PLift.up (af @KH (af @KJ (af @SL (af @KM (af @KN (af @SN (af @KG (af @SP (af @K8 (af @K9 (af @KO (af @KP (af @KQ (af @KR (af @KS (af @KT (af @K_ (af @La (af @Lb (af @Lc (af @Ld (af @Le (af @KU (af @KV (af @KW (af @KX (af @KY (af @KZ (af @K0 (af @K1 (af @K2 (af @K3 (af @K7 (af @Ea (af @Ec (af @Eb (af @Ll (af @Lm (af @Ln (af @Lo (af @eR.eq_def (af @loc.eq_def (af @gK.eq_def (af @kb.eq_def (af @ex.eq_def (af @pX.eq_def (af @fits.eq_def (af @I.ff.eq_1 (af @I.ff.eq_2 (af @I.ff.eq_3 (af @I.ff.eq_4 (af @I.ff.eq_5 (af @I.ff.eq_6 (af @Il (af @Im (af @Bool.not_true (af @Bool.not_false (af @Bool.true_and (af @Bool.and_true (af @Bool.false_and (af @Bool.true_or (af @Bool.false_or (af @Bool.and_self (af @Bool.false_eq_true (af @Bool.true_eq_false (af @Bool.not_not (af @true_and (af @and_true (af @and_self (af @decide_true (af @decide_false (af @not_false_eq_true (af @not_true_eq_false (af @Lh (af @Nat.zero_add (af @Nat.add_zero (af @Nat.mul_one (af @Nat.lt_add_one (af @zero_lt_succ (af @iJ.eq_def (af @jS.eq_def (af @flat.eq_1 (af @flat.eq_2 (af @flat.eq_3 (af @flat.eq_4 (af @flat.eq_5 (af @flat.eq_6 (af @flat.eq_7 (af @pQ.eq_1 (af @pQ.eq_2 (af @ik.eq_def (af @Ef (af @Ls (af @Lt (@Eg)))))))))))))))))))))))))))))))))))))))))))))))))))))))))))))))))))))))))))))))))))))))))))))))
def Ti:=PLift.up (af @KI (af @KJ (af @SM (af @KM (af @KN (af @SO (af @KG (af @SQ (af @K8 (af @K9 (af @KO (af @KP (af @KQ (af @KR (af @KS (af @KT (af @K_ (af @La (af @Lb (af @Lc (af @Ld (af @Le (af @KU (af @KV (af @KW (af @KX (af @KY (af @KZ (af @K0 (af @K1 (af @K2 (af @K3 (af @K7 (af @Ea (af @Ec (af @Eb (af @Ll (af @Lm (af @Ln (af @Lo (af @eR.eq_def (af @loc.eq_def (af @gK.eq_def (af @kb.eq_def (af @ex.eq_def (af @pX.eq_def (af @fits.eq_def (af @I.ff.eq_1 (af @I.ff.eq_2 (af @I.ff.eq_3 (af @I.ff.eq_4 (af @I.ff.eq_5 (af @I.ff.eq_6 (af @Il (af @Im (af @Bool.not_true (af @Bool.not_false (af @Bool.true_and (af @Bool.and_true (af @Bool.false_and (af @Bool.true_or (af @Bool.false_or (af @Bool.and_self (af @Bool.false_eq_true (af @Bool.true_eq_false (af @Bool.not_not (af @true_and (af @and_true (af @and_self (af @decide_true (af @decide_false (af @not_false_eq_true (af @not_true_eq_false (af @Lh (af @Nat.zero_add (af @Nat.add_zero (af @Nat.mul_one (af @Nat.lt_add_one (af @zero_lt_succ (af @iJ.eq_def (af @jS.eq_def (af @flat.eq_1 (af @flat.eq_2 (af @flat.eq_3 (af @flat.eq_4 (af @flat.eq_5 (af @flat.eq_6 (af @flat.eq_7 (af @pQ.eq_1 (af @pQ.eq_2 (af @ik.eq_def (af @Ef (af @Ls (af @Lt (@Eg)))))))))))))))))))))))))))))))))))))))))))))))))))))))))))))))))))))))))))))))))))))))))))))))
def Tj:=PLift.up (af @Ea (af @Ec (af @Eb (af @mY.eq_1 (af @Nat.zero_add (af @Bool.not_true (af @Bool.not_false (af @Bool.true_and (af @Bool.and_true (af @Bool.false_and (af @Bool.true_or (af @Bool.false_or (af @Bool.and_self (af @Bool.false_eq_true (af @Bool.true_eq_false (af @Bool.not_not (af @Ef (af @Eg (@wM)))))))))))))))))))
end Go.cU
