/- Part of a proof that a law returns true for every input. No condition. -/
import Derived.Test.YtndfcecbamffaaaGreatFwG
import Derived.ChangeArms
import Derived.WideShapes
namespace Go.cW
open Go.IntKind Nat Or
section
variable {H:Type} {enc:TypeId×Value->H} {P:Program} {w:World} {base:Nat} {sp:Nat->Bool} {held:Bool}
def kF {τ:Type} (enc:TypeId×Value->H) (P:Program) (w:World) (base:Nat) (sp:Nat->Bool) (held:Bool) (T:TypeId) (e:τ->j) (W:τ->Prop):Prop:=
 ∀(fuel:Nat) (cs:abL) (x:DataW H×List MemPlace),DataW.trod enc P w base sp held fuel T cs=some x->∃y,W y/\ai w (F0 w) (e y) cs (λ_=>False)
theorem RV {T:TypeId} {k:IntKind} (aL:P.underlying T=some (.int k)):kF enc P w base sp held T (λn=>.int k n) (λn=>(Lit.int k n).wf=true):=by
 intro fuel cs x h;obtain⟨n,rfl,_,hw⟩:=DataW.trod_int aL h;exact⟨n,hw,by rw[ai]⟩
theorem RW {T:TypeId} (aL:P.underlying T=some (.int .i64)):kF enc P w base sp held T (λn=>.int .i64 n) (λn=> -9223372036854775808<=n/\n<=9223372036854775807):=by
 intro fuel cs x h;obtain⟨n,hw,aN⟩:=RV aL fuel cs x h;exact⟨n,wf_i64 hw,aN⟩
theorem RX {T:TypeId} (aL:P.underlying T=some .string):kF enc P w base sp held T (λs=>.str s) (λs=>s.length<=9223372036854775807):=by
 intro fuel cs x h;obtain⟨s,rfl,_,I⟩:=DataW.trod_string aL h;exact⟨s.data.toList,I,by rw[ai]⟩
theorem RY {α β:Type} {f:α->Option β}:∀{l:List α} {r:List β},l.mapM f=some r->r.length=l.length/\∀(i:Nat) (a:α),l[i]? =some a->f a=r[i]? :=by
 intro l;induction l with
 |nil=>intro r h;simp at h;subst h;exact⟨rfl,λi a h=>by simp at h⟩
 |cons a l ih=>
  intro r h;simp only[List.mapM_cons,Option.bind_eq_bind,Option.bind_eq_some_iff]at h;obtain⟨b,J,gX,aN,he⟩:=h;have he:b::gX=r:=by simpa using he
  subst he;obtain⟨R,U⟩:=ih aN;refine⟨by simp[R],λi x ag=>?_⟩;cases i with
  |zero=>simp at ag;subst ag;simpa using J
  |succ i=>simpa using U i x (by simpa using ag)
theorem Kf {a:Addr} {n:Nat} {cs:abL} (h:w.cells? base a n=some cs):cs.length=n/\∀au c,cs[au]? =some c->w.cell? (a.add au)=some c:=by
 unfold World.cells? at h;split at h
 .obtain⟨R,U⟩:=RY h;refine⟨by simpa using R,λau c aj=>?_⟩;have bN:au<n:=by
   have:=(List.getElem?_eq_some_iff.1 aj).1;rw[R]at this;simpa using this
  rw[U au au (by simp[bN]),aj]
 .cases h
theorem RZ {a:Addr} {c:Value} (h:w.cell? a=some c):a.spot=none/\a.block<w.heap.size:=by
 unfold World.cell? at h;split at h
 .rename_i cs e fr J;split at h
  .cases h
  .rename_i I;refine⟨by simpa using I,?_⟩;exact(Array.getElem?_eq_some_iff.1 J).1
 .cases h
theorem zt {τ:Type} {T e:TypeId} {sz:Nat} {ec:τ->j} {W:τ->Prop} (aL:P.underlying T=some (.slice e)) (cT:P.cellsOf e=sz) (aaK:0<sz) (hw:∀y,(ec y).wd=sz) (h:kF enc P w base sp held e ec W):
  kF enc P w base sp held T (λbO:List τ=>.slice (bO.map ec)) (λbO:List τ=>bO.length<=9223372036854775807/\∀y∈bO,W y):=by
 intro fuel cs x ag;rcases DataW.trod_slice aL ag with⟨rfl,_⟩|⟨a,len,cap,elems,rest,n,_,rfl,_,_,R,U,aA,aU,_⟩
 .exact⟨[],⟨by simp,by simp⟩,by simp only[List.map_nil];rw[ai];exact .inl ⟨rfl,none,0,rfl,zero_le _,λ_=>rfl⟩⟩
 .by_cases bq:len=0
  .subst bq;exact⟨[],⟨by simp,by simp⟩,by simp only[List.map_nil];rw[ai];exact .inl ⟨rfl,some a,cap,rfl,U,λh=>by cases h⟩⟩
  .rw[cT]at aU;have get:∀i,i<len->∃qN y,w.cells? base (a.add (i*sz)) sz=some qN/\W y/\ai w (F0 w) (ec y) qN (λ_=>False):=by
    intro i aw;have:=aU i aw;rw[List.getElem?_eq_getElem (by omega),Option.bind_eq_some_iff]at this;obtain⟨qN,aK,aV⟩:=this;obtain⟨y,e7,ia⟩:=h _ _ _ aV;exact⟨qN,y,aK,e7,ia⟩
   obtain⟨R0,hf,aQ,_,a2⟩:=get 0 (by omega);obtain⟨aaL,en⟩:=Kf aQ;have De:∃c,R0[0]? =some c:=⟨_,List.getElem?_eq_getElem (by omega)⟩
   obtain⟨h7,De⟩:=De;have lL:=RZ (en 0 h7 De);have b8:(a.add (0*sz)).add 0=a:=by simp[Addr.add]
   rw[b8]at lL;obtain⟨b,o,spot⟩:=a;obtain⟨p5,Kg⟩:=lL;simp only at p5 Kg;subst p5;have all:∀m,m<=len->∃(bO:List τ) (cX:abL),bO.length=m/\(∀y∈bO,W y)/\cX.length=m*sz/\Rd w b o cX/\aS w (F0 w) (bO.map ec) cX (λ_=>False):=by
    intro m;induction m with
    |zero=>intro _;exact⟨[],[],rfl,by simp,by simp,λau c aj=>by simp at aj,by rw[List.map_nil,aS]⟩
    |succ m ih=>
     intro hm;obtain⟨bO,cX,bU,cc,de,cQ,dT⟩:=ih (by omega);obtain⟨qN,y,aK,aV,a1⟩:=get m (by omega);obtain⟨ee,fb⟩:=Kf aK;refine⟨bO++[y],cX++qN,by simp[bU],?_,by simp[de,ee,Nat.add_mul],?_,?_⟩
     .intro z bA;rcases List.mem_append.1 bA with bA|bA
      .exact cc z bA
      .simp at bA;subst bA;exact aV
     .intro au c aj;by_cases bN:au<cX.length
      .rw[List.getElem?_append_left bN]at aj;exact cQ au c aj
      .rw[List.getElem?_append_right (by omega)]at aj;have:=fb _ c aj;rw[Addr.add_lit,Addr.add_lit]at this;rw[<-this];congr 2;omega
     .rw[List.map_append];refine aS.append dT ?_ (λ_ h=>h) (λ_ h=>h) (λ_ h=>h.elim);simp only[List.map_cons,List.map_nil];rw[aS];exact⟨qN,[],λ_=>False,λ_=>False,by simp,a1,by rw[aS],λ_ h=>h.elim,λ_ h=>h.elim,λ_ h=>h.elim⟩
   obtain⟨bO,cX,bU,cc,de,cQ,dT⟩:=all len (Nat.le_refl _);refine⟨bO,⟨by rw[bU];exact Nat.le_trans R U,cc⟩,?_⟩;rw[ai];refine .inr ⟨b,o,cap,cX,sz,by simp[bU],Kg,by simp[bU,R],U,?_,cQ,dT⟩;intro d ae;obtain⟨y,_,rfl⟩:=List.mem_map.1 ae;exact hw y
def ends:Nat->List (Nat×Nat)->Option Nat
 |o,[]=>some o
 |o,(mg,sz)::r=>if o=mg then ends (o+sz) r else none
def Kh (w:World) (F:Nat->Prop) (cs:abL):List (j×Nat×Nat)->Prop
 |[]=>True
 |(d,off,sz)::r=>ai w F d ((cs.drop off).take sz) (λ_=>False)/\Kh w F cs r
theorem Df {F:Nat->Prop} {cs:abL}:∀(l:List (j×Nat×Nat)) (o:Nat),ends o (l.map (·.2))=some cs.length->Kh w F cs l->aS w F (l.map (·.1)) (cs.drop o) (λ_=>False):=by
 intro l;induction l with
 |nil=>intro o he _;simp[ends]at he;subst he;simp only[List.map_nil];rw[aS];simp
 |cons p l ih=>
  intro o he a6;obtain⟨d,off,sz⟩:=p;simp only[List.map_cons,ends]at he;split at he
  .rename_i e;subst e;obtain⟨f1,f2⟩:=a6;simp only[List.map_cons];rw[aS];refine⟨(cs.drop o).take sz,cs.drop (o+sz),λ_=>False,λ_=>False,?_,f1,ih _ he f2,λ_ h=>h.elim,λ_ h=>h.elim,λ_ h=>h.elim⟩;rw[<-List.drop_drop,List.take_append_drop]
  .cases he
theorem pa {n T:Nat} {cs:abL} {o:Option (DataW H×List MemPlace)} {τ:Type} {e:τ->j} {W:τ->Prop} (aN:kF enc P w base sp held T e W) (h:DataW.trod enc P w base sp held n T cs=o) (br:o.isSome=true):
  ∃y,W y/\ai w (F0 w) (e y) cs (λ_=>False):=by
 obtain⟨x,rfl⟩:=Option.isSome_iff_exists.1 br;exact aN _ _ _ h
theorem R1 {τ:Type} {T:TypeId} {ar:Array Field} {es:τ->abN} {W:τ->Prop} {r:Reach} {fS:Nat} {v:Value} {d:DataW H} {ps:List MemPlace} (aL:P.underlying T=some (.struct ar)) (aN:kF enc P w base sp held T (λy=>.agg (es y)) W)
  (sk:Value.okWide P w r fS T v) (ae:DataW.Trod enc P w base sp held T v d ps):∃y,Arg w (.agg (es y)) v/\W y:=by
 obtain⟨cs,rfl,_⟩:=WideShapes.okWide_struct aL sk;obtain⟨fuel,a6⟩:=ae;obtain⟨y,R,U⟩:=aN _ _ _ a6;refine⟨y,⟨rfl,⟨cs,rfl⟩,?_⟩,R⟩;simpa [Value.cells,bR,gS]using U
end
theorem Dg:(∀{α β:Type} (f:α->β) (l:List α),(l.map f).length=l.length)/\(∀{α:Type} (n:Nat) (a:α),(List.replicate n a).length=n)/\(∀{α:Type} (a:α) (l:List α),(a::l).length=l.length+1)/\(∀{α:Type},([]:List α).length=0)/\(∀{α:Type} (a b:List α),(a++b).length=a.length+b.length):=
 ⟨λ_ _=>List.length_map _,λ_ _=>List.length_replicate,λ_ _=>rfl,rfl,λ_ _=>List.length_append⟩
theorem Ki:(∀{α β:Type} (f:α->β) (l:List α) (i:Nat),(l.map f)[i]? =l[i]?.map f)/\(∀{α:Type} (a:α) (l:List α),(a::l)[0]? =some a)/\(∀{α:Type} (a:α) (l:List α) (i:Nat),(a::l)[i+1]? =l[i]?)/\
  (∀{α:Type} (a b:α) (l:List α),(a::l).set 0 b=b::l)/\(∀{α:Type} (a b:α) (l:List α) (n:Nat),(a::l).set (n+1) b=a::l.set n b)/\(∀{α:Type} (a:α) (l:List α) (n:Nat),(a::l).take (n+1)=a::l.take n)/\(∀{α:Type} (l:List α),l.take 0=[]):=
 ⟨λ_ _ _=>List.getElem?_map,λ_ _=>rfl,λ_ _ _=>rfl,λ_ _ _=>rfl,λ_ _ _ _=>rfl,λ_ _ _=>rfl,λ_=>rfl⟩
theorem Kj:(∀{α β:Type} (f:α->β) (a:α),(some a).map f=some (f a))/\(∀{α β:Type} (f:α->β),(none:Option α).map f=none)/\(∀{α:Type} (a:α),(some a).isSome=true):=⟨λ_ _=>rfl,λ_=>rfl,λ_=>rfl⟩
theorem Dh:(∀{α β γ:Type} (g:β->γ) (f:α->β) (l:List α),(l.map f).map g=l.map (g∘f))/\(∀{α:Type} (l:List α),l++[]=l):=⟨λ_ _ _=>List.map_map,λl=>List.append_nil l⟩
theorem sv:(∀{α β:Type} (f:α->β) (a:α) (l:List α),(a::l).map f=f a::l.map f)/\(∀{α β:Type} (f:α->β),([]:List α).map f=[])/\(∀{α β:Type} (f:α->β) (a b:List α),(a++b).map f=a.map f++b.map f)/\
  (∀{α β:Type} (f:α->β) (l:List α) (i:Nat) (a:α),(l.set i a).map f=(l.map f).set i (f a))/\(∀{α β:Type} (f:α->β) (l:List α) (i:Nat),(l.take i).map f=(l.map f).take i)/\(∀{α β:Type} (f:α->β) (l:List α) (i:Nat),(l.drop i).map f=(l.map f).drop i):=
 ⟨λ_ _ _=>rfl,λ_=>rfl,λ_ _ _=>List.map_append,λ_ _ _ _=>List.map_set,λ_ _ _=>List.map_take,λ_ _ _=>List.map_drop⟩
def R2:=PLift.up (aa @w1 (aa @Jr (aa @Rt (aa @Jv (aa @Jw (aa @Rv (aa @Jq (aa @Rx (aa @JS (aa @JT (aa @Jx (aa @Jy (aa @w4 (aa @Jz (aa @JA (aa @JB (aa @JU (aa @JV (aa @JW (aa @JX (aa @JY (aa @JZ (aa @JC (aa @JD (aa @JE (aa @JF (aa @JG (aa @JH (aa @JI (aa @JJ (aa @JK (aa @JL (aa @JP (aa @C9 (aa @Da (aa @C_ (aa @Kb (aa @Kc (aa @Kd (aa @Ke (aa @e0.eq_def (aa @loc.eq_def (aa @hb.eq_def (aa @h1.eq_def (aa @ex.eq_def (aa @pY.eq_def (aa @fits.eq_def (aa @j.dG.eq_1 (aa @j.dG.eq_2 (aa @j.dG.eq_3 (aa @j.dG.eq_4 (aa @j.dG.eq_5 (aa @j.dG.eq_6 (aa @GO (aa @GP (aa @Bool.not_true (aa @Bool.not_false (aa @Bool.true_and (aa @Bool.and_true (aa @Bool.false_and (aa @Bool.true_or (aa @Bool.false_or (aa @Bool.and_self (aa @Bool.false_eq_true (aa @Bool.true_eq_false (aa @Bool.not_not (aa @true_and (aa @and_true (aa @and_self (aa @decide_true (aa @decide_false (aa @not_false_eq_true (aa @not_true_eq_false (aa @J8 (aa @Nat.zero_add (aa @Nat.add_zero (aa @Nat.mul_one (aa @Nat.lt_add_one (aa @zero_lt_succ (aa @gK.eq_def (aa @kW.eq_def (aa @flat.eq_1 (aa @flat.eq_2 (aa @flat.eq_3 (aa @flat.eq_4 (aa @flat.eq_5 (aa @flat.eq_6 (aa @flat.eq_7 (aa @pR.eq_1 (aa @pR.eq_2 (aa @gp.eq_def (aa @Dg (aa @Ki (aa @Kj (@Dh)))))))))))))))))))))))))))))))))))))))))))))))))))))))))))))))))))))))))))))))))))))))))))))))
def R3:=PLift.up (aa @zn (aa @Jr (aa @Ru (aa @Jv (aa @Jw (aa @Rw (aa @Jq (aa @Ry (aa @JS (aa @JT (aa @Jx (aa @Jy (aa @w4 (aa @Jz (aa @JA (aa @JB (aa @JU (aa @JV (aa @JW (aa @JX (aa @JY (aa @JZ (aa @JC (aa @JD (aa @JE (aa @JF (aa @JG (aa @JH (aa @JI (aa @JJ (aa @JK (aa @JL (aa @JP (aa @C9 (aa @Da (aa @C_ (aa @Kb (aa @Kc (aa @Kd (aa @Ke (aa @e0.eq_def (aa @loc.eq_def (aa @hb.eq_def (aa @h1.eq_def (aa @ex.eq_def (aa @pY.eq_def (aa @fits.eq_def (aa @j.dG.eq_1 (aa @j.dG.eq_2 (aa @j.dG.eq_3 (aa @j.dG.eq_4 (aa @j.dG.eq_5 (aa @j.dG.eq_6 (aa @GO (aa @GP (aa @Bool.not_true (aa @Bool.not_false (aa @Bool.true_and (aa @Bool.and_true (aa @Bool.false_and (aa @Bool.true_or (aa @Bool.false_or (aa @Bool.and_self (aa @Bool.false_eq_true (aa @Bool.true_eq_false (aa @Bool.not_not (aa @true_and (aa @and_true (aa @and_self (aa @decide_true (aa @decide_false (aa @not_false_eq_true (aa @not_true_eq_false (aa @J8 (aa @Nat.zero_add (aa @Nat.add_zero (aa @Nat.mul_one (aa @Nat.lt_add_one (aa @zero_lt_succ (aa @gK.eq_def (aa @kW.eq_def (aa @flat.eq_1 (aa @flat.eq_2 (aa @flat.eq_3 (aa @flat.eq_4 (aa @flat.eq_5 (aa @flat.eq_6 (aa @flat.eq_7 (aa @pR.eq_1 (aa @pR.eq_2 (aa @gp.eq_def (aa @Dg (aa @Ki (aa @Kj (@Dh)))))))))))))))))))))))))))))))))))))))))))))))))))))))))))))))))))))))))))))))))))))))))))))))
def R4:=PLift.up (aa @C9 (aa @Da (aa @C_ (aa @jR.eq_1 (aa @Nat.zero_add (aa @Bool.not_true (aa @Bool.not_false (aa @Bool.true_and (aa @Bool.and_true (aa @Bool.false_and (aa @Bool.true_or (aa @Bool.false_or (aa @Bool.and_self (aa @Bool.false_eq_true (aa @Bool.true_eq_false (aa @Bool.not_not (aa @Dg (aa @Dh (@sv)))))))))))))))))))
end Go.cW
