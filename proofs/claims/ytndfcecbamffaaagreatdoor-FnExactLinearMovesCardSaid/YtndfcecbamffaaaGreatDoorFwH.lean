/- Part of a proof that a law returns true for every input. No condition. -/
import Derived.Test.YtndfcecbamffaaaGreatDoorFwG
import Derived.ChangeArms
import Derived.WideShapes
namespace Go.cG
open Go.IntKind Nat Or
section
variable {H:Type} {enc:TypeId×Value->H} {P:Program} {w:World} {base:Nat} {sp:Nat->Bool} {held:Bool}
def kN {τ:Type} (enc:TypeId×Value->H) (P:Program) (w:World) (base:Nat) (sp:Nat->Bool) (held:Bool) (T:TypeId) (e:τ->j) (W:τ->Prop):Prop:=
 ∀(fuel:Nat) (cs:ach) (x:DataW H×List MemPlace),DataW.trod enc P w base sp held fuel T cs=some x->∃y,W y/\al w (F0 w) (e y) cs (λ_=>False)
theorem RP {T:TypeId} {k:IntKind} (aK:P.underlying T=some (.int k)):kN enc P w base sp held T (λn=>.int k n) (λn=>(Lit.int k n).wf=true):=by
 intro fuel cs x h;obtain⟨n,rfl,_,hw⟩:=DataW.trod_int aK h;exact⟨n,hw,by rw[al]⟩
theorem RQ {T:TypeId} (aK:P.underlying T=some (.int .i64)):kN enc P w base sp held T (λn=>.int .i64 n) (λn=> -9223372036854775808<=n/\n<=9223372036854775807):=by
 intro fuel cs x h;obtain⟨n,hw,aD⟩:=RP aK fuel cs x h;exact⟨n,wf_i64 hw,aD⟩
theorem RR {T:TypeId} (aK:P.underlying T=some .string):kN enc P w base sp held T (λs=>.str s) (λs=>s.length<=9223372036854775807):=by
 intro fuel cs x h;obtain⟨s,rfl,_,J⟩:=DataW.trod_string aK h;exact⟨s.data.toList,J,by rw[al]⟩
theorem RS {α β:Type} {f:α->Option β}:∀{l:List α} {r:List β},l.mapM f=some r->r.length=l.length/\∀(i:Nat) (a:α),l[i]? =some a->f a=r[i]? :=by
 intro l;induction l with
 |nil=>intro r h;simp at h;subst h;exact⟨rfl,λi a h=>by simp at h⟩
 |cons a l ih=>
  intro r h;simp only[List.mapM_cons,Option.bind_eq_bind,Option.bind_eq_some_iff]at h;obtain⟨b,I,gl,aD,he⟩:=h;have he:b::gl=r:=by simpa using he
  subst he;obtain⟨R,U⟩:=ih aD;refine⟨by simp[R],λi x ae=>?_⟩;cases i with
  |zero=>simp at ae;subst ae;simpa using I
  |succ i=>simpa using U i x (by simpa using ae)
theorem J1 {a:Addr} {n:Nat} {cs:ach} (h:w.cells? base a n=some cs):cs.length=n/\∀aB c,cs[aB]? =some c->w.cell? (a.add aB)=some c:=by
 unfold World.cells? at h;split at h
 .obtain⟨R,U⟩:=RS h;refine⟨by simpa using R,λaB c aj=>?_⟩;have cp:aB<n:=by
   have:=(List.getElem?_eq_some_iff.1 aj).1;rw[R]at this;simpa using this
  rw[U aB aB (by simp[cp]),aj]
 .cases h
theorem RT {a:Addr} {c:Value} (h:w.cell? a=some c):a.spot=none/\a.block<w.heap.size:=by
 unfold World.cell? at h;split at h
 .rename_i cs e fr I;split at h
  .cases h
  .rename_i J;refine⟨by simpa using J,?_⟩;exact(Array.getElem?_eq_some_iff.1 I).1
 .cases h
theorem zp {τ:Type} {T e:TypeId} {sz:Nat} {ec:τ->j} {W:τ->Prop} (aK:P.underlying T=some (.slice e)) (dm:P.cellsOf e=sz) (aa8:0<sz) (hw:∀y,(ec y).wd=sz) (h:kN enc P w base sp held e ec W):
  kN enc P w base sp held T (λb0:List τ=>.slice (b0.map ec)) (λb0:List τ=>b0.length<=9223372036854775807/\∀y∈b0,W y):=by
 intro fuel cs x ae;rcases DataW.trod_slice aK ae with⟨rfl,_⟩|⟨a,len,cap,elems,rest,n,_,rfl,_,_,R,U,aw,aQ,_⟩
 .exact⟨[],⟨by simp,by simp⟩,by simp only[List.map_nil];rw[al];exact .inl ⟨rfl,none,0,rfl,zero_le _,λ_=>rfl⟩⟩
 .by_cases bg:len=0
  .subst bg;exact⟨[],⟨by simp,by simp⟩,by simp only[List.map_nil];rw[al];exact .inl ⟨rfl,some a,cap,rfl,U,λh=>by cases h⟩⟩
  .rw[dm]at aQ;have get:∀i,i<len->∃q4 y,w.cells? base (a.add (i*sz)) sz=some q4/\W y/\al w (F0 w) (ec y) q4 (λ_=>False):=by
    intro i ax;have:=aQ i ax;rw[List.getElem?_eq_getElem (by omega),Option.bind_eq_some_iff]at this;obtain⟨q4,aH,aN⟩:=this;obtain⟨y,fy,hn⟩:=h _ _ _ aN;exact⟨q4,y,aH,fy,hn⟩
   obtain⟨RU,hB,g1,_,g2⟩:=get 0 (by omega);obtain⟨aa9,eQ⟩:=J1 g1;have Dc:∃c,RU[0]? =some c:=⟨_,List.getElem?_eq_getElem (by omega)⟩
   obtain⟨n5,Dc⟩:=Dc;have J2:=RT (eQ 0 n5 Dc);have bx:(a.add (0*sz)).add 0=a:=by simp[Addr.add]
   rw[bx]at J2;obtain⟨b,o,spot⟩:=a;obtain⟨qb,J3⟩:=J2;simp only at qb J3;subst qb;have all:∀m,m<=len->∃(b0:List τ) (dC:ach),b0.length=m/\(∀y∈b0,W y)/\dC.length=m*sz/\gJ w b o dC/\aT w (F0 w) (b0.map ec) dC (λ_=>False):=by
    intro m;induction m with
    |zero=>intro _;exact⟨[],[],rfl,by simp,by simp,λaB c aj=>by simp at aj,by rw[List.map_nil,aT]⟩
    |succ m ih=>
     intro hm;obtain⟨b0,dC,bO,b1,cX,cT,ev⟩:=ih (by omega);obtain⟨q4,y,aH,aN,aP⟩:=get m (by omega);obtain⟨m1,m2⟩:=J1 aH;refine⟨b0++[y],dC++q4,by simp[bO],?_,by simp[cX,m1,Nat.add_mul],?_,?_⟩
     .intro z bD;rcases List.mem_append.1 bD with bD|bD
      .exact b1 z bD
      .simp at bD;subst bD;exact aN
     .intro aB c aj;by_cases cp:aB<dC.length
      .rw[List.getElem?_append_left cp]at aj;exact cT aB c aj
      .rw[List.getElem?_append_right (by omega)]at aj;have:=m2 _ c aj;rw[Addr.add_lit,Addr.add_lit]at this;rw[<-this];congr 2;omega
     .rw[List.map_append];refine aT.append ev ?_ (λ_ h=>h) (λ_ h=>h) (λ_ h=>h.elim);simp only[List.map_cons,List.map_nil];rw[aT];exact⟨q4,[],λ_=>False,λ_=>False,by simp,aP,by rw[aT],λ_ h=>h.elim,λ_ h=>h.elim,λ_ h=>h.elim⟩
   obtain⟨b0,dC,bO,b1,cX,cT,ev⟩:=all len (Nat.le_refl _);refine⟨b0,⟨by rw[bO];exact Nat.le_trans R U,b1⟩,?_⟩;rw[al];refine .inr ⟨b,o,cap,dC,sz,by simp[bO],J3,by simp[bO,R],U,?_,cT,ev⟩;intro d ad;obtain⟨y,_,rfl⟩:=List.mem_map.1 ad;exact hw y
def ends:Nat->List (Nat×Nat)->Option Nat
 |o,[]=>some o
 |o,(iW,sz)::r=>if o=iW then ends (o+sz) r else none
def J4 (w:World) (F:Nat->Prop) (cs:ach):List (j×Nat×Nat)->Prop
 |[]=>True
 |(d,off,sz)::r=>al w F d ((cs.drop off).take sz) (λ_=>False)/\J4 w F cs r
theorem Dd {F:Nat->Prop} {cs:ach}:∀(l:List (j×Nat×Nat)) (o:Nat),ends o (l.map (·.2))=some cs.length->J4 w F cs l->aT w F (l.map (·.1)) (cs.drop o) (λ_=>False):=by
 intro l;induction l with
 |nil=>intro o he _;simp[ends]at he;subst he;simp only[List.map_nil];rw[aT];simp
 |cons p l ih=>
  intro o he bf;obtain⟨d,off,sz⟩:=p;simp only[List.map_cons,ends]at he;split at he
  .rename_i e;subst e;obtain⟨f1,f2⟩:=bf;simp only[List.map_cons];rw[aT];refine⟨(cs.drop o).take sz,cs.drop (o+sz),λ_=>False,λ_=>False,?_,f1,ih _ he f2,λ_ h=>h.elim,λ_ h=>h.elim,λ_ h=>h.elim⟩;rw[<-List.drop_drop,List.take_append_drop]
  .cases he
theorem py {n T:Nat} {cs:ach} {o:Option (DataW H×List MemPlace)} {τ:Type} {e:τ->j} {W:τ->Prop} (aD:kN enc P w base sp held T e W) (h:DataW.trod enc P w base sp held n T cs=o) (a_:o.isSome=true):
  ∃y,W y/\al w (F0 w) (e y) cs (λ_=>False):=by
 obtain⟨x,rfl⟩:=Option.isSome_iff_exists.1 a_;exact aD _ _ _ h
theorem RV {τ:Type} {T e:TypeId} {ec:τ->j} {W:List τ->Prop} {r:Reach} {iB:Nat} {v:Value} {d:DataW H} {ps:List MemPlace} (aK:P.underlying T=some (.slice e)) (aD:kN enc P w base sp held T (λb0:List τ=>.slice (b0.map ec)) W)
  (nO:Value.okWide P w r iB T v) (ad:DataW.Trod enc P w base sp held T v d ps):∃b0,Arg w (.slice (b0.map ec)) v/\W b0:=by
 obtain⟨a,len,cap,rfl⟩:=WideShapes.okWide_slice aK nO;obtain⟨fuel,bf⟩:=ad;obtain⟨b0,R,U⟩:=aD _ _ _ bf;refine⟨b0,⟨rfl,rfl,?_⟩,R⟩;simpa [Value.cells,bZ,gM]using U
theorem RW {τ:Type} {T:TypeId} {ar:Array Field} {es:τ->acj} {W:τ->Prop} {r:Reach} {iB:Nat} {v:Value} {d:DataW H} {ps:List MemPlace} (aK:P.underlying T=some (.struct ar)) (aD:kN enc P w base sp held T (λy=>.agg (es y)) W)
  (nO:Value.okWide P w r iB T v) (ad:DataW.Trod enc P w base sp held T v d ps):∃y,Arg w (.agg (es y)) v/\W y:=by
 obtain⟨cs,rfl,_⟩:=WideShapes.okWide_struct aK nO;obtain⟨fuel,bf⟩:=ad;obtain⟨y,R,U⟩:=aD _ _ _ bf;refine⟨y,⟨rfl,⟨cs,rfl⟩,?_⟩,R⟩;simpa [Value.cells,bZ,gM]using U
end
theorem De:(∀{α β:Type} (f:α->β) (l:List α),(l.map f).length=l.length)/\(∀{α:Type} (n:Nat) (a:α),(List.replicate n a).length=n)/\(∀{α:Type} (a:α) (l:List α),(a::l).length=l.length+1)/\(∀{α:Type},([]:List α).length=0)/\(∀{α:Type} (a b:List α),(a++b).length=a.length+b.length):=
 ⟨λ_ _=>List.length_map _,λ_ _=>List.length_replicate,λ_ _=>rfl,rfl,λ_ _=>List.length_append⟩
theorem J5:(∀{α β:Type} (f:α->β) (l:List α) (i:Nat),(l.map f)[i]? =l[i]?.map f)/\(∀{α:Type} (a:α) (l:List α),(a::l)[0]? =some a)/\(∀{α:Type} (a:α) (l:List α) (i:Nat),(a::l)[i+1]? =l[i]?)/\
  (∀{α:Type} (a b:α) (l:List α),(a::l).set 0 b=b::l)/\(∀{α:Type} (a b:α) (l:List α) (n:Nat),(a::l).set (n+1) b=a::l.set n b)/\(∀{α:Type} (a:α) (l:List α) (n:Nat),(a::l).take (n+1)=a::l.take n)/\(∀{α:Type} (l:List α),l.take 0=[]):=
 ⟨λ_ _ _=>List.getElem?_map,λ_ _=>rfl,λ_ _ _=>rfl,λ_ _ _=>rfl,λ_ _ _ _=>rfl,λ_ _ _=>rfl,λ_=>rfl⟩
theorem J6:(∀{α β:Type} (f:α->β) (a:α),(some a).map f=some (f a))/\(∀{α β:Type} (f:α->β),(none:Option α).map f=none)/\(∀{α:Type} (a:α),(some a).isSome=true):=⟨λ_ _=>rfl,λ_=>rfl,λ_=>rfl⟩
theorem Df:(∀{α β γ:Type} (g:β->γ) (f:α->β) (l:List α),(l.map f).map g=l.map (g∘f))/\(∀{α:Type} (l:List α),l++[]=l):=⟨λ_ _ _=>List.map_map,λl=>List.append_nil l⟩
theorem pz:(∀{α β:Type} (f:α->β) (a:α) (l:List α),(a::l).map f=f a::l.map f)/\(∀{α β:Type} (f:α->β),([]:List α).map f=[])/\(∀{α β:Type} (f:α->β) (a b:List α),(a++b).map f=a.map f++b.map f)/\
  (∀{α β:Type} (f:α->β) (l:List α) (i:Nat) (a:α),(l.set i a).map f=(l.map f).set i (f a))/\(∀{α β:Type} (f:α->β) (l:List α) (i:Nat),(l.take i).map f=(l.map f).take i)/\(∀{α β:Type} (f:α->β) (l:List α) (i:Nat),(l.drop i).map f=(l.map f).drop i):=
 ⟨λ_ _ _=>rfl,λ_=>rfl,λ_ _ _=>List.map_append,λ_ _ _ _=>List.map_set,λ_ _ _=>List.map_take,λ_ _ _=>List.map_drop⟩
def RX:=PLift.up (ab @sI (ab @I7 (ab @I8 (ab @Jc (ab @Jd (ab @Rz (ab @I6 (ab @RB (ab @Jz (ab @JA (ab @Je (ab @Jf (ab @C3 (ab @Jg (ab @Jh (ab @Ji (ab @JB (ab @JC (ab @JD (ab @JE (ab @JF (ab @JG (ab @Jj (ab @Jk (ab @Jl (ab @Jm (ab @Jn (ab @Jo (ab @Jp (ab @Jq (ab @Jr (ab @Js (ab @Jw (ab @C7 (ab @C_ (ab @C9 (ab @JW (ab @JX (ab @JY (ab @JZ (ab @dU.eq_def (ab @loc.eq_def (ab @gB.eq_def (ab @ig.eq_def (ab @ex.eq_def (ab @p4.eq_def (ab @fits.eq_def (ab @j.eP.eq_1 (ab @j.eP.eq_2 (ab @j.eP.eq_3 (ab @j.eP.eq_4 (ab @j.eP.eq_5 (ab @j.eP.eq_6 (ab @GF (ab @GG (ab @Bool.not_true (ab @Bool.not_false (ab @Bool.true_and (ab @Bool.and_true (ab @Bool.false_and (ab @Bool.true_or (ab @Bool.false_or (ab @Bool.and_self (ab @Bool.false_eq_true (ab @Bool.true_eq_false (ab @Bool.not_not (ab @true_and (ab @and_true (ab @and_self (ab @decide_true (ab @decide_false (ab @not_false_eq_true (ab @not_true_eq_false (ab @JS (ab @Nat.zero_add (ab @Nat.add_zero (ab @Nat.mul_one (ab @Nat.lt_add_one (ab @zero_lt_succ (ab @hj.eq_def (ab @lC.eq_def (ab @flat.eq_1 (ab @flat.eq_2 (ab @flat.eq_3 (ab @flat.eq_4 (ab @flat.eq_5 (ab @flat.eq_6 (ab @flat.eq_7 (ab @pZ.eq_1 (ab @pZ.eq_2 (ab @iV.eq_def (ab @De (ab @J5 (ab @J6 (@Df)))))))))))))))))))))))))))))))))))))))))))))))))))))))))))))))))))))))))))))))))))))))))))))))
def RY:=PLift.up (ab @ux (ab @I7 (ab @I9 (ab @Jc (ab @Jd (ab @RA (ab @I6 (ab @RC (ab @Jz (ab @JA (ab @Je (ab @Jf (ab @C3 (ab @Jg (ab @Jh (ab @Ji (ab @JB (ab @JC (ab @JD (ab @JE (ab @JF (ab @JG (ab @Jj (ab @Jk (ab @Jl (ab @Jm (ab @Jn (ab @Jo (ab @Jp (ab @Jq (ab @Jr (ab @Js (ab @Jw (ab @C7 (ab @C_ (ab @C9 (ab @JW (ab @JX (ab @JY (ab @JZ (ab @dU.eq_def (ab @loc.eq_def (ab @gB.eq_def (ab @ig.eq_def (ab @ex.eq_def (ab @p4.eq_def (ab @fits.eq_def (ab @j.eP.eq_1 (ab @j.eP.eq_2 (ab @j.eP.eq_3 (ab @j.eP.eq_4 (ab @j.eP.eq_5 (ab @j.eP.eq_6 (ab @GF (ab @GG (ab @Bool.not_true (ab @Bool.not_false (ab @Bool.true_and (ab @Bool.and_true (ab @Bool.false_and (ab @Bool.true_or (ab @Bool.false_or (ab @Bool.and_self (ab @Bool.false_eq_true (ab @Bool.true_eq_false (ab @Bool.not_not (ab @true_and (ab @and_true (ab @and_self (ab @decide_true (ab @decide_false (ab @not_false_eq_true (ab @not_true_eq_false (ab @JS (ab @Nat.zero_add (ab @Nat.add_zero (ab @Nat.mul_one (ab @Nat.lt_add_one (ab @zero_lt_succ (ab @hj.eq_def (ab @lC.eq_def (ab @flat.eq_1 (ab @flat.eq_2 (ab @flat.eq_3 (ab @flat.eq_4 (ab @flat.eq_5 (ab @flat.eq_6 (ab @flat.eq_7 (ab @pZ.eq_1 (ab @pZ.eq_2 (ab @iV.eq_def (ab @De (ab @J5 (ab @J6 (@Df)))))))))))))))))))))))))))))))))))))))))))))))))))))))))))))))))))))))))))))))))))))))))))))))
def RZ:=PLift.up (ab @C7 (ab @C_ (ab @C9 (ab @gD.eq_1 (ab @Nat.zero_add (ab @Bool.not_true (ab @Bool.not_false (ab @Bool.true_and (ab @Bool.and_true (ab @Bool.false_and (ab @Bool.true_or (ab @Bool.false_or (ab @Bool.and_self (ab @Bool.false_eq_true (ab @Bool.true_eq_false (ab @Bool.not_not (ab @De (ab @Df (@pz)))))))))))))))))))
end Go.cG
