/- Part of a proof that a law returns true for every input. No condition. -/
import Derived.Test.YtmaepbgkcmjcjagGreatDoorFwG
import Derived.ChangeArms
import Derived.WideShapes
namespace Go.ef
open Go.IntKind Nat
section
variable {H:Type} {enc:TypeId×Value->H} {P:Program} {w:World} {base:Nat} {sp:Nat->Bool} {held:Bool}
def kA {τ:Type} (enc:TypeId×Value->H) (P:Program) (w:World) (base:Nat) (sp:Nat->Bool) (held:Bool) (T:TypeId) (e:τ->I) (W:τ->Prop):Prop:=
 ∀(fuel:Nat) (cs:axg) (x:DataW H×List MemPlace),DataW.trod enc P w base sp held fuel T cs=some x->∃y,W y/\aA w (F0 w) (e y) cs (λ_=>False)
theorem aeF {T:TypeId} {k:IntKind} (aZ:P.underlying T=some (.int k)):kA enc P w base sp held T (λn=>.int k n) (λn=>(Lit.int k n).wf=true):=by
 intro fuel cs x h;obtain⟨n,rfl,_,hw⟩:=DataW.trod_int aZ h;exact⟨n,hw,by rw[aA]⟩
theorem aeG {T:TypeId} (aZ:P.underlying T=some (.int .i64)):kA enc P w base sp held T (λn=>.int .i64 n) (λn=> -9223372036854775808<=n/\n<=9223372036854775807):=by
 intro fuel cs x h;obtain⟨n,hw,aQ⟩:=aeF aZ fuel cs x h;exact⟨n,wf_i64 hw,aQ⟩
theorem aeH {T:TypeId} (aZ:P.underlying T=some .string):kA enc P w base sp held T (λs=>.str s) (λs=>s.length<=9223372036854775807):=by
 intro fuel cs x h;obtain⟨s,rfl,_,aa⟩:=DataW.trod_string aZ h;exact⟨s.data.toList,aa,by rw[aA]⟩
theorem aeI {α β:Type} {f:α->Option β}:∀{l:List α} {r:List β},l.mapM f=some r->r.length=l.length/\∀(i:Nat) (a:α),l[i]? =some a->f a=r[i]? :=by
 intro l;induction l with
 |nil=>intro r h;simp at h;subst h;exact⟨rfl,λi a h=>by simp at h⟩
 |cons a l ih=>
  intro r h;simp only[List.mapM_cons,Option.bind_eq_bind,Option.bind_eq_some_iff]at h;obtain⟨b,ab,me,aQ,he⟩:=h;have he:b::me=r:=by simpa using he
  subst he;obtain⟨ad,ae⟩:=ih aQ;refine⟨by simp[ad],λi x an=>?_⟩;cases i with
  |zero=>simp at an;subst an;simpa using ab
  |succ i=>simpa using ae i x (by simpa using an)
theorem Vd {a:Addr} {n:Nat} {cs:axg} (h:w.cells? base a n=some cs):cs.length=n/\∀j c,cs[j]? =some c->w.cell? (a.add j)=some c:=by
 unfold World.cells? at h;split at h
 .obtain⟨ad,ae⟩:=aeI h;refine⟨by simpa using ad,λj c ar=>?_⟩;have bE:j<n:=by
   have:=(List.getElem?_eq_some_iff.1 ar).1;rw[ad]at this;simpa using this
  rw[ae j j (by simp[bE]),ar]
 .cases h
theorem aeJ {a:Addr} {c:Value} (h:w.cell? a=some c):a.spot=none/\a.block<w.heap.size:=by
 unfold World.cell? at h;split at h
 .rename_i cs e fr ab;split at h
  .cases h
  .rename_i aa;refine⟨by simpa using aa,?_⟩;exact(Array.getElem?_eq_some_iff.1 ab).1
 .cases h
theorem va {τ:Type} {T e:TypeId} {sz:Nat} {ec:τ->I} {W:τ->Prop} (aZ:P.underlying T=some (.slice e)) (fg:P.cellsOf e=sz) (aeK:0<sz) (hw:∀y,(ec y).wd=sz) (h:kA enc P w base sp held e ec W):
  kA enc P w base sp held T (λcL:List τ=>.slice (cL.map ec)) (λcL:List τ=>cL.length<=9223372036854775807/\∀y∈cL,W y):=by
 intro fuel cs x an;rcases DataW.trod_slice aZ an with⟨rfl,_⟩|⟨a,len,cap,elems,rest,n,_,rfl,_,_,ad,ae,aI,bc,_⟩
 .exact⟨[],⟨by simp,by simp⟩,by simp only[List.map_nil];rw[aA];exact .inl ⟨rfl,none,0,rfl,zero_le _,λ_=>rfl⟩⟩
 .by_cases bb:len=0
  .subst bb;exact⟨[],⟨by simp,by simp⟩,by simp only[List.map_nil];rw[aA];exact .inl ⟨rfl,some a,cap,rfl,ae,λh=>by cases h⟩⟩
  .rw[fg]at bc;have get:∀i,i<len->∃qQ y,w.cells? base (a.add (i*sz)) sz=some qQ/\W y/\aA w (F0 w) (ec y) qQ (λ_=>False):=by
    intro i ag;have:=bc i ag;rw[List.getElem?_eq_getElem (by omega),Option.bind_eq_some_iff]at this;obtain⟨qQ,aN,aU⟩:=this;obtain⟨y,fG,ie⟩:=h _ _ _ aU;exact⟨qQ,y,aN,fG,ie⟩
   obtain⟨aeL,gy,g1,_,g2⟩:=get 0 (by omega);obtain⟨aug,hP⟩:=Vd g1;have MV:∃c,aeL[0]? =some c:=⟨_,List.getElem?_eq_getElem (by omega)⟩
   obtain⟨c0,MV⟩:=MV;have Ek:=aeJ (hP 0 c0 MV);have bl:(a.add (0*sz)).add 0=a:=by simp[Addr.add]
   rw[bl]at Ek;obtain⟨b,o,spot⟩:=a;obtain⟨u3,tG⟩:=Ek;simp only at u3 tG;subst u3;have all:∀m,m<=len->∃(cL:List τ) (e9:axg),cL.length=m/\(∀y∈cL,W y)/\e9.length=m*sz/\jc w b o e9/\bx w (F0 w) (cL.map ec) e9 (λ_=>False):=by
    intro m;induction m with
    |zero=>intro _;exact⟨[],[],rfl,by simp,by simp,λj c ar=>by simp at ar,by rw[List.map_nil,bx]⟩
    |succ m ih=>
     intro hm;obtain⟨cL,e9,bX,cN,dH,dT,eG⟩:=ih (by omega);obtain⟨qQ,y,aN,aU,aR⟩:=get m (by omega);obtain⟨m1,m2⟩:=Vd aN;refine⟨cL++[y],e9++qQ,by simp[bX],?_,by simp[dH,m1,Nat.add_mul],?_,?_⟩
     .intro z b9;rcases List.mem_append.1 b9 with b9|b9
      .exact cN z b9
      .simp at b9;subst b9;exact aU
     .intro j c ar;by_cases bE:j<e9.length
      .rw[List.getElem?_append_left bE]at ar;exact dT j c ar
      .rw[List.getElem?_append_right (by omega)]at ar;have:=m2 _ c ar;rw[Addr.add_lit,Addr.add_lit]at this;rw[<-this];congr 2;omega
     .rw[List.map_append];refine bx.append eG ?_ (λ_ h=>h) (λ_ h=>h) (λ_ h=>h.elim);simp only[List.map_cons,List.map_nil];rw[bx];exact⟨qQ,[],λ_=>False,λ_=>False,by simp,aR,by rw[bx],λ_ h=>h.elim,λ_ h=>h.elim,λ_ h=>h.elim⟩
   obtain⟨cL,e9,bX,cN,dH,dT,eG⟩:=all len (Nat.le_refl _);refine⟨cL,⟨by rw[bX];exact Nat.le_trans ad ae,cN⟩,?_⟩;rw[aA];refine .inr ⟨b,o,cap,e9,sz,by simp[bX],tG,by simp[bX,ad],ae,?_,dT,eG⟩;intro d al;obtain⟨y,_,rfl⟩:=List.mem_map.1 al;exact hw y
def ends:Nat->List (Nat×Nat)->Option Nat
 |o,[]=>some o
 |o,(p9,sz)::r=>if o=p9 then ends (o+sz) r else none
def Ve (w:World) (F:Nat->Prop) (cs:axg):List (I×Nat×Nat)->Prop
 |[]=>True
 |(d,off,sz)::r=>aA w F d ((cs.drop off).take sz) (λ_=>False)/\Ve w F cs r
theorem yS {F:Nat->Prop} {cs:axg}:∀(l:List (I×Nat×Nat)) (o:Nat),ends o (l.map (·.2))=some cs.length->Ve w F cs l->bx w F (l.map (·.1)) (cs.drop o) (λ_=>False):=by
 intro l;induction l with
 |nil=>intro o he _;simp[ends]at he;subst he;simp only[List.map_nil];rw[bx];simp
 |cons p l ih=>
  intro o he bF;obtain⟨d,off,sz⟩:=p;simp only[List.map_cons,ends]at he;split at he
  .rename_i e;subst e;obtain⟨f1,f2⟩:=bF;simp only[List.map_cons];rw[bx];refine⟨(cs.drop o).take sz,cs.drop (o+sz),λ_=>False,λ_=>False,?_,f1,ih _ he f2,λ_ h=>h.elim,λ_ h=>h.elim,λ_ h=>h.elim⟩;rw[<-List.drop_drop,List.take_append_drop]
  .cases he
theorem lX {n T:Nat} {cs:axg} {o:Option (DataW H×List MemPlace)} {τ:Type} {e:τ->I} {W:τ->Prop} (aQ:kA enc P w base sp held T e W) (h:DataW.trod enc P w base sp held n T cs=o) (bH:o.isSome=true):
  ∃y,W y/\aA w (F0 w) (e y) cs (λ_=>False):=by
 obtain⟨x,rfl⟩:=Option.isSome_iff_exists.1 bH;exact aQ _ _ _ h
theorem aeM {τ:Type} {T e:TypeId} {ec:τ->I} {W:List τ->Prop} {r:Reach} {lu:Nat} {v:Value} {d:DataW H} {ps:List MemPlace} (aZ:P.underlying T=some (.slice e)) (aQ:kA enc P w base sp held T (λcL:List τ=>.slice (cL.map ec)) W)
  (tE:Value.okWide P w r lu T v) (al:DataW.Trod enc P w base sp held T v d ps):∃cL,Arg w (.slice (cL.map ec)) v/\W cL:=by
 obtain⟨a,len,cap,rfl⟩:=WideShapes.okWide_slice aZ tE;obtain⟨fuel,bF⟩:=al;obtain⟨cL,ad,ae⟩:=aQ _ _ _ bF;refine⟨cL,⟨rfl,rfl,?_⟩,ad⟩;simpa [Value.cells,c8,je]using ae
theorem aeN {τ:Type} {T:TypeId} {aD:Array Field} {es:τ->axi} {W:τ->Prop} {r:Reach} {lu:Nat} {v:Value} {d:DataW H} {ps:List MemPlace} (aZ:P.underlying T=some (.struct aD)) (aQ:kA enc P w base sp held T (λy=>.agg (es y)) W)
  (tE:Value.okWide P w r lu T v) (al:DataW.Trod enc P w base sp held T v d ps):∃y,Arg w (.agg (es y)) v/\W y:=by
 obtain⟨cs,rfl,_⟩:=WideShapes.okWide_struct aZ tE;obtain⟨fuel,bF⟩:=al;obtain⟨y,ad,ae⟩:=aQ _ _ _ bF;refine⟨y,⟨rfl,⟨cs,rfl⟩,?_⟩,ad⟩;simpa [Value.cells,c8,je]using ae
end
theorem MW:(∀{α β:Type} (f:α->β) (l:List α),(l.map f).length=l.length)/\(∀{α:Type} (n:Nat) (a:α),(List.replicate n a).length=n)/\(∀{α:Type} (a:α) (l:List α),(a::l).length=l.length+1)/\(∀{α:Type},([]:List α).length=0)/\(∀{α:Type} (a b:List α),(a++b).length=a.length+b.length):=
 ⟨λ_ _=>List.length_map _,λ_ _=>List.length_replicate,λ_ _=>rfl,rfl,λ_ _=>List.length_append⟩
theorem Vf:(∀{α β:Type} (f:α->β) (l:List α) (i:Nat),(l.map f)[i]? =l[i]?.map f)/\(∀{α:Type} (a:α) (l:List α),(a::l)[0]? =some a)/\(∀{α:Type} (a:α) (l:List α) (i:Nat),(a::l)[i+1]? =l[i]?)/\
  (∀{α:Type} (a b:α) (l:List α),(a::l).set 0 b=b::l)/\(∀{α:Type} (a b:α) (l:List α) (n:Nat),(a::l).set (n+1) b=a::l.set n b)/\(∀{α:Type} (a:α) (l:List α) (n:Nat),(a::l).take (n+1)=a::l.take n)/\(∀{α:Type} (l:List α),l.take 0=[]):=
 ⟨λ_ _ _=>List.getElem?_map,λ_ _=>rfl,λ_ _ _=>rfl,λ_ _ _=>rfl,λ_ _ _ _=>rfl,λ_ _ _=>rfl,λ_=>rfl⟩
theorem Vg:(∀{α β:Type} (f:α->β) (a:α),(some a).map f=some (f a))/\(∀{α β:Type} (f:α->β),(none:Option α).map f=none)/\(∀{α:Type} (a:α),(some a).isSome=true):=⟨λ_ _=>rfl,λ_=>rfl,λ_=>rfl⟩
theorem MX:(∀{α β γ:Type} (g:β->γ) (f:α->β) (l:List α),(l.map f).map g=l.map (g∘f))/\(∀{α:Type} (l:List α),l++[]=l):=⟨λ_ _ _=>List.map_map,λl=>List.append_nil l⟩
theorem o5:(∀{α β:Type} (f:α->β) (a:α) (l:List α),(a::l).map f=f a::l.map f)/\(∀{α β:Type} (f:α->β),([]:List α).map f=[])/\(∀{α β:Type} (f:α->β) (a b:List α),(a++b).map f=a.map f++b.map f)/\
  (∀{α β:Type} (f:α->β) (l:List α) (i:Nat) (a:α),(l.set i a).map f=(l.map f).set i (f a))/\(∀{α β:Type} (f:α->β) (l:List α) (i:Nat),(l.take i).map f=(l.map f).take i)/\(∀{α β:Type} (f:α->β) (l:List α) (i:Nat),(l.drop i).map f=(l.map f).drop i):=
 ⟨λ_ _ _=>rfl,λ_=>rfl,λ_ _ _=>List.map_append,λ_ _ _ _=>List.map_set,λ_ _ _=>List.map_take,λ_ _ _=>List.map_drop⟩
def aeO:=PLift.up (R @yJ (R @Ur (R @MH (R @Uv (R @Uw (R @aej (R @Uq (R @ael (R @UR (R @US (R @Ux (R @Uy (R @Uz (R @UA (R @UB (R @UC (R @UT (R @UU (R @UW (R @UX (R @UY (R @UZ (R @UD (R @UE (R @UF (R @UG (R @UH (R @UI (R @UJ (R @UK (R @UL (R @UM (R @UP (R @MN (R @MR (R @MP (R @U_ (R @Va (R @Vb (R @Vc (R @fO.eq_def (R @loc.eq_def (R @hK.eq_def (R @mf.eq_def (R @ex.eq_def (R @uX.eq_def (R @fits.eq_def (R @I.gD.eq_1 (R @I.gD.eq_2 (R @I.gD.eq_3 (R @I.gD.eq_4 (R @I.gD.eq_5 (R @I.gD.eq_6 (R @Sh (R @Si (R @Bool.not_true (R @Bool.not_false (R @Bool.true_and (R @Bool.and_true (R @Bool.false_and (R @Bool.true_or (R @Bool.false_or (R @Bool.and_self (R @Bool.false_eq_true (R @Bool.true_eq_false (R @Bool.not_not (R @true_and (R @and_true (R @and_self (R @decide_true (R @decide_false (R @not_false_eq_true (R @not_true_eq_false (R @U6 (R @Nat.zero_add (R @Nat.add_zero (R @Nat.mul_one (R @Nat.lt_add_one (R @zero_lt_succ (R @iY.eq_def (R @mE.eq_def (R @flat.eq_1 (R @flat.eq_2 (R @flat.eq_3 (R @flat.eq_4 (R @flat.eq_5 (R @flat.eq_6 (R @flat.eq_7 (R @uS.eq_1 (R @uS.eq_2 (R @kI.eq_def (R @MW (R @Vf (R @Vg (@MX)))))))))))))))))))))))))))))))))))))))))))))))))))))))))))))))))))))))))))))))))))))))))))))))
def El:=PLift.up (R @yK (R @Ur (R @MI (R @Uv (R @Uw (R @aek (R @Uq (R @aem (R @UR (R @US (R @Ux (R @Uy (R @Uz (R @UA (R @UB (R @UC (R @UT (R @UU (R @UW (R @UX (R @UY (R @UZ (R @UD (R @UE (R @UF (R @UG (R @UH (R @UI (R @UJ (R @UK (R @UL (R @UM (R @UP (R @MN (R @MR (R @MP (R @U_ (R @Va (R @Vb (R @Vc (R @fO.eq_def (R @loc.eq_def (R @hK.eq_def (R @mf.eq_def (R @ex.eq_def (R @uX.eq_def (R @fits.eq_def (R @I.gD.eq_1 (R @I.gD.eq_2 (R @I.gD.eq_3 (R @I.gD.eq_4 (R @I.gD.eq_5 (R @I.gD.eq_6 (R @Sh (R @Si (R @Bool.not_true (R @Bool.not_false (R @Bool.true_and (R @Bool.and_true (R @Bool.false_and (R @Bool.true_or (R @Bool.false_or (R @Bool.and_self (R @Bool.false_eq_true (R @Bool.true_eq_false (R @Bool.not_not (R @true_and (R @and_true (R @and_self (R @decide_true (R @decide_false (R @not_false_eq_true (R @not_true_eq_false (R @U6 (R @Nat.zero_add (R @Nat.add_zero (R @Nat.mul_one (R @Nat.lt_add_one (R @zero_lt_succ (R @iY.eq_def (R @mE.eq_def (R @flat.eq_1 (R @flat.eq_2 (R @flat.eq_3 (R @flat.eq_4 (R @flat.eq_5 (R @flat.eq_6 (R @flat.eq_7 (R @uS.eq_1 (R @uS.eq_2 (R @kI.eq_def (R @MW (R @Vf (R @Vg (@MX)))))))))))))))))))))))))))))))))))))))))))))))))))))))))))))))))))))))))))))))))))))))))))))))
def aeP:=PLift.up (R @MN (R @MR (R @MP (R @iK.eq_1 (R @Nat.zero_add (R @Bool.not_true (R @Bool.not_false (R @Bool.true_and (R @Bool.and_true (R @Bool.false_and (R @Bool.true_or (R @Bool.false_or (R @Bool.and_self (R @Bool.false_eq_true (R @Bool.true_eq_false (R @Bool.not_not (R @MW (R @MX (@o5)))))))))))))))))))
end Go.ef
