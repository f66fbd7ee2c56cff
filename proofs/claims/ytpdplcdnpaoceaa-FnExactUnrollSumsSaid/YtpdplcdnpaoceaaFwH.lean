/- Part of a proof that a law returns true for every input. No condition. -/
import Derived.Test.YtpdplcdnpaoceaaFwG
import Derived.ChangeArms
import Derived.WideShapes
namespace Go.cV
open Go.IntKind Nat Or
section
variable {H:Type} {enc:TypeId×Value->H} {P:Program} {w:World} {base:Nat} {sp:Nat->Bool} {held:Bool}
def jM {τ:Type} (enc:TypeId×Value->H) (P:Program) (w:World) (base:Nat) (sp:Nat->Bool) (held:Bool) (T:TypeId) (e:τ->j) (W:τ->Prop):Prop:=
 ∀(fuel:Nat) (cs:Vp) (x:DataW H×List MemPlace),DataW.trod enc P w base sp held fuel T cs=some x->∃y,W y/\aj w (F0 w) (e y) cs (λ_=>False)
theorem MT {T:TypeId} {k:IntKind} (aO:P.underlying T=some (.int k)):jM enc P w base sp held T (λn=>.int k n) (λn=>(Lit.int k n).wf=true):=by
 intro fuel cs x h;obtain⟨n,rfl,_,hw⟩:=DataW.trod_int aO h;exact⟨n,hw,by rw[aj]⟩
theorem MU {T:TypeId} (aO:P.underlying T=some (.int .i64)):jM enc P w base sp held T (λn=>.int .i64 n) (λn=> -9223372036854775808<=n/\n<=9223372036854775807):=by
 intro fuel cs x h;obtain⟨n,hw,aG⟩:=MT aO fuel cs x h;exact⟨n,wf_i64 hw,aG⟩
theorem MV {T:TypeId} (aO:P.underlying T=some .string):jM enc P w base sp held T (λs=>.str s) (λs=>s.length<=9223372036854775807):=by
 intro fuel cs x h;obtain⟨s,rfl,_,R⟩:=DataW.trod_string aO h;exact⟨s.data.toList,R,by rw[aj]⟩
theorem MW {α β:Type} {f:α->Option β}:∀{l:List α} {r:List β},l.mapM f=some r->r.length=l.length/\∀(i:Nat) (a:α),l[i]? =some a->f a=r[i]? :=by
 intro l;induction l with
 |nil=>intro r h;simp at h;subst h;exact⟨rfl,λi a h=>by simp at h⟩
 |cons a l ih=>
  intro r h;simp only[List.mapM_cons,Option.bind_eq_bind,Option.bind_eq_some_iff]at h;obtain⟨b,J,gF,aG,he⟩:=h;have he:b::gF=r:=by simpa using he
  subst he;obtain⟨U,aa⟩:=ih aG;refine⟨by simp[U],λi x ae=>?_⟩;cases i with
  |zero=>simp at ae;subst ae;simpa using J
  |succ i=>simpa using aa i x (by simpa using ae)
theorem FF {a:Addr} {n:Nat} {cs:Vp} (h:w.cells? base a n=some cs):cs.length=n/\∀aD c,cs[aD]? =some c->w.cell? (a.add aD)=some c:=by
 unfold World.cells? at h;split at h
 .obtain⟨U,aa⟩:=MW h;refine⟨by simpa using U,λaD c ai=>?_⟩;have cn:aD<n:=by
   have:=(List.getElem?_eq_some_iff.1 ai).1;rw[U]at this;simpa using this
  rw[aa aD aD (by simp[cn]),ai]
 .cases h
theorem MX {a:Addr} {c:Value} (h:w.cell? a=some c):a.spot=none/\a.block<w.heap.size:=by
 unfold World.cell? at h;split at h
 .rename_i cs e fr J;split at h
  .cases h
  .rename_i R;refine⟨by simpa using R,?_⟩;exact(Array.getElem?_eq_some_iff.1 J).1
 .cases h
theorem wD {τ:Type} {T e:TypeId} {sz:Nat} {ec:τ->j} {W:τ->Prop} (aO:P.underlying T=some (.slice e)) (df:P.cellsOf e=sz) (Up:0<sz) (hw:∀y,(ec y).wd=sz) (h:jM enc P w base sp held e ec W):
  jM enc P w base sp held T (λys:List τ=>.slice (ys.map ec)) (λys:List τ=>ys.length<=9223372036854775807/\∀y∈ys,W y):=by
 intro fuel cs x ae;rcases DataW.trod_slice aO ae with⟨rfl,_⟩|⟨a,len,cap,elems,rest,n,_,rfl,_,_,U,aa,ax,aP,_⟩
 .exact⟨[],⟨by simp,by simp⟩,by simp only[List.map_nil];rw[aj];exact .inl ⟨rfl,none,0,rfl,zero_le _,λ_=>rfl⟩⟩
 .by_cases bt:len=0
  .subst bt;exact⟨[],⟨by simp,by simp⟩,by simp only[List.map_nil];rw[aj];exact .inl ⟨rfl,some a,cap,rfl,aa,λh=>by cases h⟩⟩
  .rw[df]at aP;have get:∀i,i<len->∃o6 y,w.cells? base (a.add (i*sz)) sz=some o6/\W y/\aj w (F0 w) (ec y) o6 (λ_=>False):=by
    intro i ay;have:=aP i ay;rw[List.getElem?_eq_getElem (by omega),Option.bind_eq_some_iff]at this;obtain⟨o6,aI,aR⟩:=this;obtain⟨y,fR,hi⟩:=h _ _ _ aR;exact⟨o6,y,aI,fR,hi⟩
   obtain⟨MY,gY,aL,_,a0⟩:=get 0 (by omega);obtain⟨Uq,eR⟩:=FF aL;have z2:∃c,MY[0]? =some c:=⟨_,List.getElem?_eq_getElem (by omega)⟩
   obtain⟨mf,z2⟩:=z2;have FG:=MX (eR 0 mf z2);have b4:(a.add (0*sz)).add 0=a:=by simp[Addr.add]
   rw[b4]at FG;obtain⟨b,o,spot⟩:=a;obtain⟨n4,FH⟩:=FG;simp only at n4 FH;subst n4;have all:∀m,m<=len->∃(ys:List τ) (de:Vp),ys.length=m/\(∀y∈ys,W y)/\de.length=m*sz/\gh w b o de/\aQ w (F0 w) (ys.map ec) de (λ_=>False):=by
    intro m;induction m with
    |zero=>intro _;exact⟨[],[],rfl,by simp,by simp,λaD c ai=>by simp at ai,by rw[List.map_nil,aQ]⟩
    |succ m ih=>
     intro hm;obtain⟨ys,de,bX,b6,cR,cI,d_⟩:=ih (by omega);obtain⟨o6,y,aI,aR,aX⟩:=get m (by omega);obtain⟨ea,fh⟩:=FF aI;refine⟨ys++[y],de++o6,by simp[bX],?_,by simp[cR,ea,Nat.add_mul],?_,?_⟩
     .intro z bC;rcases List.mem_append.1 bC with bC|bC
      .exact b6 z bC
      .simp at bC;subst bC;exact aR
     .intro aD c ai;by_cases cn:aD<de.length
      .rw[List.getElem?_append_left cn]at ai;exact cI aD c ai
      .rw[List.getElem?_append_right (by omega)]at ai;have:=fh _ c ai;rw[Addr.add_lit,Addr.add_lit]at this;rw[<-this];congr 2;omega
     .rw[List.map_append];refine aQ.append d_ ?_ (λ_ h=>h) (λ_ h=>h) (λ_ h=>h.elim);simp only[List.map_cons,List.map_nil];rw[aQ];exact⟨o6,[],λ_=>False,λ_=>False,by simp,aX,by rw[aQ],λ_ h=>h.elim,λ_ h=>h.elim,λ_ h=>h.elim⟩
   obtain⟨ys,de,bX,b6,cR,cI,d_⟩:=all len (Nat.le_refl _);refine⟨ys,⟨by rw[bX];exact Nat.le_trans U aa,b6⟩,?_⟩;rw[aj];refine .inr ⟨b,o,cap,de,sz,by simp[bX],FH,by simp[bX,U],aa,?_,cI,d_⟩;intro d ad;obtain⟨y,_,rfl⟩:=List.mem_map.1 ad;exact hw y
def ends:Nat->List (Nat×Nat)->Option Nat
 |o,[]=>some o
 |o,(kY,sz)::r=>if o=kY then ends (o+sz) r else none
def FI (w:World) (F:Nat->Prop) (cs:Vp):List (j×Nat×Nat)->Prop
 |[]=>True
 |(d,off,sz)::r=>aj w F d ((cs.drop off).take sz) (λ_=>False)/\FI w F cs r
theorem z3 {F:Nat->Prop} {cs:Vp}:∀(l:List (j×Nat×Nat)) (o:Nat),ends o (l.map (·.2))=some cs.length->FI w F cs l->aQ w F (l.map (·.1)) (cs.drop o) (λ_=>False):=by
 intro l;induction l with
 |nil=>intro o he _;simp[ends]at he;subst he;simp only[List.map_nil];rw[aQ];simp
 |cons p l ih=>
  intro o he bd;obtain⟨d,off,sz⟩:=p;simp only[List.map_cons,ends]at he;split at he
  .rename_i e;subst e;obtain⟨f1,f2⟩:=bd;simp only[List.map_cons];rw[aQ];refine⟨(cs.drop o).take sz,cs.drop (o+sz),λ_=>False,λ_=>False,?_,f1,ih _ he f2,λ_ h=>h.elim,λ_ h=>h.elim,λ_ h=>h.elim⟩;rw[<-List.drop_drop,List.take_append_drop]
  .cases he
theorem nu {n T:Nat} {cs:Vp} {o:Option (DataW H×List MemPlace)} {τ:Type} {e:τ->j} {W:τ->Prop} (aG:jM enc P w base sp held T e W) (h:DataW.trod enc P w base sp held n T cs=o) (bk:o.isSome=true):
  ∃y,W y/\aj w (F0 w) (e y) cs (λ_=>False):=by
 obtain⟨x,rfl⟩:=Option.isSome_iff_exists.1 bk;exact aG _ _ _ h
theorem MZ {τ:Type} {T:TypeId} {al:Array Field} {es:τ->Vr} {W:τ->Prop} {r:Reach} {ig:Nat} {v:Value} {d:DataW H} {ps:List MemPlace} (aO:P.underlying T=some (.struct al)) (aG:jM enc P w base sp held T (λy=>.agg (es y)) W)
  (qA:Value.okWide P w r ig T v) (ad:DataW.Trod enc P w base sp held T v d ps):∃y,Arg w (.agg (es y)) v/\W y:=by
 obtain⟨cs,rfl,_⟩:=WideShapes.okWide_struct aO qA;obtain⟨fuel,bd⟩:=ad;obtain⟨y,U,aa⟩:=aG _ _ _ bd;refine⟨y,⟨rfl,⟨cs,rfl⟩,?_⟩,U⟩;simpa [Value.cells,bW,gy]using aa
end
theorem z4:(∀{α β:Type} (f:α->β) (l:List α),(l.map f).length=l.length)/\(∀{α:Type} (n:Nat) (a:α),(List.replicate n a).length=n)/\(∀{α:Type} (a:α) (l:List α),(a::l).length=l.length+1)/\(∀{α:Type},([]:List α).length=0)/\(∀{α:Type} (a b:List α),(a++b).length=a.length+b.length):=
 ⟨λ_ _=>List.length_map _,λ_ _=>List.length_replicate,λ_ _=>rfl,rfl,λ_ _=>List.length_append⟩
theorem FJ:(∀{α β:Type} (f:α->β) (l:List α) (i:Nat),(l.map f)[i]? =l[i]?.map f)/\(∀{α:Type} (a:α) (l:List α),(a::l)[0]? =some a)/\(∀{α:Type} (a:α) (l:List α) (i:Nat),(a::l)[i+1]? =l[i]?)/\
  (∀{α:Type} (a b:α) (l:List α),(a::l).set 0 b=b::l)/\(∀{α:Type} (a b:α) (l:List α) (n:Nat),(a::l).set (n+1) b=a::l.set n b)/\(∀{α:Type} (a:α) (l:List α) (n:Nat),(a::l).take (n+1)=a::l.take n)/\(∀{α:Type} (l:List α),l.take 0=[]):=
 ⟨λ_ _ _=>List.getElem?_map,λ_ _=>rfl,λ_ _ _=>rfl,λ_ _ _=>rfl,λ_ _ _ _=>rfl,λ_ _ _=>rfl,λ_=>rfl⟩
theorem FK:(∀{α β:Type} (f:α->β) (a:α),(some a).map f=some (f a))/\(∀{α β:Type} (f:α->β),(none:Option α).map f=none)/\(∀{α:Type} (a:α),(some a).isSome=true):=⟨λ_ _=>rfl,λ_=>rfl,λ_=>rfl⟩
theorem z5:(∀{α β γ:Type} (g:β->γ) (f:α->β) (l:List α),(l.map f).map g=l.map (g∘f))/\(∀{α:Type} (l:List α),l++[]=l):=⟨λ_ _ _=>List.map_map,λl=>List.append_nil l⟩
theorem qQ:(∀{α β:Type} (f:α->β) (a:α) (l:List α),(a::l).map f=f a::l.map f)/\(∀{α β:Type} (f:α->β),([]:List α).map f=[])/\(∀{α β:Type} (f:α->β) (a b:List α),(a++b).map f=a.map f++b.map f)/\
  (∀{α β:Type} (f:α->β) (l:List α) (i:Nat) (a:α),(l.set i a).map f=(l.map f).set i (f a))/\(∀{α β:Type} (f:α->β) (l:List α) (i:Nat),(l.take i).map f=(l.map f).take i)/\(∀{α β:Type} (f:α->β) (l:List α) (i:Nat),(l.drop i).map f=(l.map f).drop i):=
 ⟨λ_ _ _=>rfl,λ_=>rfl,λ_ _ _=>List.map_append,λ_ _ _ _=>List.map_set,λ_ _ _=>List.map_take,λ_ _ _=>List.map_drop⟩
def M0:=PLift.up (ab @wy (ab @EN (ab @Mt (ab @ES (ab @ET (ab @Mv (ab @EM (ab @Mx (ab @Ff (ab @Fg (ab @EU (ab @EV (ab @zT (ab @EW (ab @EX (ab @EY (ab @Fh (ab @Fi (ab @Fj (ab @Fk (ab @Fl (ab @Fm (ab @EZ (ab @E0 (ab @E1 (ab @E2 (ab @E3 (ab @E4 (ab @E5 (ab @E6 (ab @E7 (ab @E8 (ab @Fa (ab @zX (ab @zZ (ab @zY (ab @FB (ab @FC (ab @FD (ab @FE (ab @ey.eq_def (ab @loc.eq_def (ab @gQ.eq_def (ab @ht.eq_def (ab @ex.eq_def (ab @nX.eq_def (ab @fits.eq_def (ab @j.eu.eq_1 (ab @j.eu.eq_2 (ab @j.eu.eq_3 (ab @j.eu.eq_4 (ab @j.eu.eq_5 (ab @j.eu.eq_6 (ab @Cv (ab @Cw (ab @Bool.not_true (ab @Bool.not_false (ab @Bool.true_and (ab @Bool.and_true (ab @Bool.false_and (ab @Bool.true_or (ab @Bool.false_or (ab @Bool.and_self (ab @Bool.false_eq_true (ab @Bool.true_eq_false (ab @Bool.not_not (ab @true_and (ab @and_true (ab @and_self (ab @decide_true (ab @decide_false (ab @not_false_eq_true (ab @not_true_eq_false (ab @Fx (ab @Nat.zero_add (ab @Nat.add_zero (ab @Nat.mul_one (ab @Nat.lt_add_one (ab @zero_lt_succ (ab @g4.eq_def (ab @j1.eq_def (ab @flat.eq_1 (ab @flat.eq_2 (ab @flat.eq_3 (ab @flat.eq_4 (ab @flat.eq_5 (ab @flat.eq_6 (ab @flat.eq_7 (ab @nN.eq_1 (ab @nN.eq_2 (ab @ie.eq_def (ab @z4 (ab @FJ (ab @FK (@z5)))))))))))))))))))))))))))))))))))))))))))))))))))))))))))))))))))))))))))))))))))))))))))))))
def M1:=PLift.up (ab @zS (ab @EN (ab @Mu (ab @ES (ab @ET (ab @Mw (ab @EM (ab @My (ab @Ff (ab @Fg (ab @EU (ab @EV (ab @zT (ab @EW (ab @EX (ab @EY (ab @Fh (ab @Fi (ab @Fj (ab @Fk (ab @Fl (ab @Fm (ab @EZ (ab @E0 (ab @E1 (ab @E2 (ab @E3 (ab @E4 (ab @E5 (ab @E6 (ab @E7 (ab @E8 (ab @Fa (ab @zX (ab @zZ (ab @zY (ab @FB (ab @FC (ab @FD (ab @FE (ab @ey.eq_def (ab @loc.eq_def (ab @gQ.eq_def (ab @ht.eq_def (ab @ex.eq_def (ab @nX.eq_def (ab @fits.eq_def (ab @j.eu.eq_1 (ab @j.eu.eq_2 (ab @j.eu.eq_3 (ab @j.eu.eq_4 (ab @j.eu.eq_5 (ab @j.eu.eq_6 (ab @Cv (ab @Cw (ab @Bool.not_true (ab @Bool.not_false (ab @Bool.true_and (ab @Bool.and_true (ab @Bool.false_and (ab @Bool.true_or (ab @Bool.false_or (ab @Bool.and_self (ab @Bool.false_eq_true (ab @Bool.true_eq_false (ab @Bool.not_not (ab @true_and (ab @and_true (ab @and_self (ab @decide_true (ab @decide_false (ab @not_false_eq_true (ab @not_true_eq_false (ab @Fx (ab @Nat.zero_add (ab @Nat.add_zero (ab @Nat.mul_one (ab @Nat.lt_add_one (ab @zero_lt_succ (ab @g4.eq_def (ab @j1.eq_def (ab @flat.eq_1 (ab @flat.eq_2 (ab @flat.eq_3 (ab @flat.eq_4 (ab @flat.eq_5 (ab @flat.eq_6 (ab @flat.eq_7 (ab @nN.eq_1 (ab @nN.eq_2 (ab @ie.eq_def (ab @z4 (ab @FJ (ab @FK (@z5)))))))))))))))))))))))))))))))))))))))))))))))))))))))))))))))))))))))))))))))))))))))))))))))
def M3:=PLift.up (ab @zX (ab @zZ (ab @zY (ab @i2.eq_1 (ab @Nat.zero_add (ab @Bool.not_true (ab @Bool.not_false (ab @Bool.true_and (ab @Bool.and_true (ab @Bool.false_and (ab @Bool.true_or (ab @Bool.false_or (ab @Bool.and_self (ab @Bool.false_eq_true (ab @Bool.true_eq_false (ab @Bool.not_not (ab @z4 (ab @z5 (@qQ)))))))))))))))))))
end Go.cV
