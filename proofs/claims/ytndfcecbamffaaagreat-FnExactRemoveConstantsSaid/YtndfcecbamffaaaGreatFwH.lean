/- Part of a proof that a law returns true for every input. No condition. -/
import Derived.Test.YtndfcecbamffaaaGreatFwG
import Derived.ChangeArms
import Derived.WideShapes
namespace Go.c3
open Go.IntKind Nat Or
section
variable {H:Type} {enc:TypeId×Value->H} {P:Program} {w:World} {base:Nat} {sp:Nat->Bool} {held:Bool}
def lx {τ:Type} (enc:TypeId×Value->H) (P:Program) (w:World) (base:Nat) (sp:Nat->Bool) (held:Bool) (T:TypeId) (e:τ->I) (W:τ->Prop):Prop:=
 ∀(fuel:Nat) (cs:aff) (x:DataW H×List MemPlace),DataW.trod enc P w base sp held fuel T cs=some x->∃y,W y/\ao w (F0 w) (e y) cs (λ_=>False)
theorem S8 {T:TypeId} {k:IntKind} (aP:P.underlying T=some (.int k)):lx enc P w base sp held T (λn=>.int k n) (λn=>(Lit.int k n).wf=true):=by
 intro fuel cs x h;obtain⟨n,rfl,_,hw⟩:=DataW.trod_int aP h;exact⟨n,hw,by rw[ao]⟩
theorem S9 {T:TypeId} (aP:P.underlying T=some (.int .i64)):lx enc P w base sp held T (λn=>.int .i64 n) (λn=> -9223372036854775808<=n/\n<=9223372036854775807):=by
 intro fuel cs x h;obtain⟨n,hw,aR⟩:=S8 aP fuel cs x h;exact⟨n,wf_i64 hw,aR⟩
theorem S_ {T:TypeId} (aP:P.underlying T=some .string):lx enc P w base sp held T (λs=>.str s) (λs=>s.length<=9223372036854775807):=by
 intro fuel cs x h;obtain⟨s,rfl,_,aa⟩:=DataW.trod_string aP h;exact⟨s.data.toList,aa,by rw[ao]⟩
theorem Ta {α β:Type} {f:α->Option β}:∀{l:List α} {r:List β},l.mapM f=some r->r.length=l.length/\∀(i:Nat) (a:α),l[i]? =some a->f a=r[i]? :=by
 intro l;induction l with
 |nil=>intro r h;simp at h;subst h;exact⟨rfl,λi a h=>by simp at h⟩
 |cons a l ih=>
  intro r h;simp only[List.mapM_cons,Option.bind_eq_bind,Option.bind_eq_some_iff]at h;obtain⟨b,U,gz,aR,he⟩:=h;have he:b::gz=r:=by simpa using he
  subst he;obtain⟨ae,af⟩:=ih aR;refine⟨by simp[ae],λi x al=>?_⟩;cases i with
  |zero=>simp at al;subst al;simpa using U
  |succ i=>simpa using af i x (by simpa using al)
theorem Ln {a:Addr} {n:Nat} {cs:aff} (h:w.cells? base a n=some cs):cs.length=n/\∀j c,cs[j]? =some c->w.cell? (a.add j)=some c:=by
 unfold World.cells? at h;split at h
 .obtain⟨ae,af⟩:=Ta h;refine⟨by simpa using ae,λj c an=>?_⟩;have bZ:j<n:=by
   have:=(List.getElem?_eq_some_iff.1 an).1;rw[ae]at this;simpa using this
  rw[af j j (by simp[bZ]),an]
 .cases h
theorem Tb {a:Addr} {c:Value} (h:w.cell? a=some c):a.spot=none/\a.block<w.heap.size:=by
 unfold World.cell? at h;split at h
 .rename_i cs e fr U;split at h
  .cases h
  .rename_i aa;refine⟨by simpa using aa,?_⟩;exact(Array.getElem?_eq_some_iff.1 U).1
 .cases h
theorem Al {τ:Type} {T e:TypeId} {sz:Nat} {ec:τ->I} {W:τ->Prop} (aP:P.underlying T=some (.slice e)) (cO:P.cellsOf e=sz) (adX:0<sz) (hw:∀y,(ec y).wd=sz) (h:lx enc P w base sp held e ec W):
  lx enc P w base sp held T (λcf:List τ=>.slice (cf.map ec)) (λcf:List τ=>cf.length<=9223372036854775807/\∀y∈cf,W y):=by
 intro fuel cs x al;rcases DataW.trod_slice aP al with⟨rfl,_⟩|⟨a,len,cap,elems,rest,n,_,rfl,_,_,ae,af,aF,a1,_⟩
 .exact⟨[],⟨by simp,by simp⟩,by simp only[List.map_nil];rw[ao];exact .inl ⟨rfl,none,0,rfl,zero_le _,λ_=>rfl⟩⟩
 .by_cases bo:len=0
  .subst bo;exact⟨[],⟨by simp,by simp⟩,by simp only[List.map_nil];rw[ao];exact .inl ⟨rfl,some a,cap,rfl,af,λh=>by cases h⟩⟩
  .rw[cO]at a1;have get:∀i,i<len->∃rM y,w.cells? base (a.add (i*sz)) sz=some rM/\W y/\ao w (F0 w) (ec y) rM (λ_=>False):=by
    intro i aC;have:=a1 i aC;rw[List.getElem?_eq_getElem (by omega),Option.bind_eq_some_iff]at this;obtain⟨rM,aT,a3⟩:=this;obtain⟨y,e_,iD⟩:=h _ _ _ a3;exact⟨rM,y,aT,e_,iD⟩
   obtain⟨Tc,hV,aV,_,ba⟩:=get 0 (by omega);obtain⟨adY,gi⟩:=Ln aV;have Eo:∃c,Tc[0]? =some c:=⟨_,List.getElem?_eq_getElem (by omega)⟩
   obtain⟨i4,Eo⟩:=Eo;have mv:=Tb (gi 0 i4 Eo);have b8:(a.add (0*sz)).add 0=a:=by simp[Addr.add]
   rw[b8]at mv;obtain⟨b,o,spot⟩:=a;obtain⟨qF,kF⟩:=mv;simp only at qF kF;subst qF;have all:∀m,m<=len->∃(cf:List τ) (c4:aff),cf.length=m/\(∀y∈cf,W y)/\c4.length=m*sz/\hi w b o c4/\aX w (F0 w) (cf.map ec) c4 (λ_=>False):=by
    intro m;induction m with
    |zero=>intro _;exact⟨[],[],rfl,by simp,by simp,λj c an=>by simp at an,by rw[List.map_nil,aX]⟩
    |succ m ih=>
     intro hm;obtain⟨cf,c4,bU,ch,dd,cW,ed⟩:=ih (by omega);obtain⟨rM,y,aT,a3,aY⟩:=get m (by omega);obtain⟨el,fJ⟩:=Ln aT;refine⟨cf++[y],c4++rM,by simp[bU],?_,by simp[dd,el,Nat.add_mul],?_,?_⟩
     .intro z bF;rcases List.mem_append.1 bF with bF|bF
      .exact ch z bF
      .simp at bF;subst bF;exact a3
     .intro j c an;by_cases bZ:j<c4.length
      .rw[List.getElem?_append_left bZ]at an;exact cW j c an
      .rw[List.getElem?_append_right (by omega)]at an;have:=fJ _ c an;rw[Addr.add_lit,Addr.add_lit]at this;rw[<-this];congr 2;omega
     .rw[List.map_append];refine aX.append ed ?_ (λ_ h=>h) (λ_ h=>h) (λ_ h=>h.elim);simp only[List.map_cons,List.map_nil];rw[aX];exact⟨rM,[],λ_=>False,λ_=>False,by simp,aY,by rw[aX],λ_ h=>h.elim,λ_ h=>h.elim,λ_ h=>h.elim⟩
   obtain⟨cf,c4,bU,ch,dd,cW,ed⟩:=all len (Nat.le_refl _);refine⟨cf,⟨by rw[bU];exact Nat.le_trans ae af,ch⟩,?_⟩;rw[ao];refine .inr ⟨b,o,cap,c4,sz,by simp[bU],kF,by simp[bU,ae],af,?_,cW,ed⟩;intro d ai;obtain⟨y,_,rfl⟩:=List.mem_map.1 ai;exact hw y
def ends:Nat->List (Nat×Nat)->Option Nat
 |o,[]=>some o
 |o,(m5,sz)::r=>if o=m5 then ends (o+sz) r else none
def Lo (w:World) (F:Nat->Prop) (cs:aff):List (I×Nat×Nat)->Prop
 |[]=>True
 |(d,off,sz)::r=>ao w F d ((cs.drop off).take sz) (λ_=>False)/\Lo w F cs r
theorem Ep {F:Nat->Prop} {cs:aff}:∀(l:List (I×Nat×Nat)) (o:Nat),ends o (l.map (·.2))=some cs.length->Lo w F cs l->aX w F (l.map (·.1)) (cs.drop o) (λ_=>False):=by
 intro l;induction l with
 |nil=>intro o he _;simp[ends]at he;subst he;simp only[List.map_nil];rw[aX];simp
 |cons p l ih=>
  intro o he a8;obtain⟨d,off,sz⟩:=p;simp only[List.map_cons,ends]at he;split at he
  .rename_i e;subst e;obtain⟨f1,f2⟩:=a8;simp only[List.map_cons];rw[aX];refine⟨(cs.drop o).take sz,cs.drop (o+sz),λ_=>False,λ_=>False,?_,f1,ih _ he f2,λ_ h=>h.elim,λ_ h=>h.elim,λ_ h=>h.elim⟩;rw[<-List.drop_drop,List.take_append_drop]
  .cases he
theorem pV {n T:Nat} {cs:aff} {o:Option (DataW H×List MemPlace)} {τ:Type} {e:τ->I} {W:τ->Prop} (aR:lx enc P w base sp held T e W) (h:DataW.trod enc P w base sp held n T cs=o) (bO:o.isSome=true):
  ∃y,W y/\ao w (F0 w) (e y) cs (λ_=>False):=by
 obtain⟨x,rfl⟩:=Option.isSome_iff_exists.1 bO;exact aR _ _ _ h
theorem Td {τ:Type} {T:TypeId} {ay:Array Field} {es:τ->afh} {W:τ->Prop} {r:Reach} {fK:Nat} {v:Value} {d:DataW H} {ps:List MemPlace} (aP:P.underlying T=some (.struct ay)) (aR:lx enc P w base sp held T (λy=>.agg (es y)) W)
  (qK:Value.okWide P w r fK T v) (ai:DataW.Trod enc P w base sp held T v d ps):∃y,Arg w (.agg (es y)) v/\W y:=by
 obtain⟨cs,rfl,_⟩:=WideShapes.okWide_struct aP qK;obtain⟨fuel,a8⟩:=ai;obtain⟨y,ae,af⟩:=aR _ _ _ a8;refine⟨y,⟨rfl,⟨cs,rfl⟩,?_⟩,ae⟩;simpa [Value.cells,bX,hj]using af
end
theorem Er:(∀{α β:Type} (f:α->β) (l:List α),(l.map f).length=l.length)/\(∀{α:Type} (n:Nat) (a:α),(List.replicate n a).length=n)/\(∀{α:Type} (a:α) (l:List α),(a::l).length=l.length+1)/\(∀{α:Type},([]:List α).length=0)/\(∀{α:Type} (a b:List α),(a++b).length=a.length+b.length):=
 ⟨λ_ _=>List.length_map _,λ_ _=>List.length_replicate,λ_ _=>rfl,rfl,λ_ _=>List.length_append⟩
theorem Lp:(∀{α β:Type} (f:α->β) (l:List α) (i:Nat),(l.map f)[i]? =l[i]?.map f)/\(∀{α:Type} (a:α) (l:List α),(a::l)[0]? =some a)/\(∀{α:Type} (a:α) (l:List α) (i:Nat),(a::l)[i+1]? =l[i]?)/\
  (∀{α:Type} (a b:α) (l:List α),(a::l).set 0 b=b::l)/\(∀{α:Type} (a b:α) (l:List α) (n:Nat),(a::l).set (n+1) b=a::l.set n b)/\(∀{α:Type} (a:α) (l:List α) (n:Nat),(a::l).take (n+1)=a::l.take n)/\(∀{α:Type} (l:List α),l.take 0=[]):=
 ⟨λ_ _ _=>List.getElem?_map,λ_ _=>rfl,λ_ _ _=>rfl,λ_ _ _=>rfl,λ_ _ _ _=>rfl,λ_ _ _=>rfl,λ_=>rfl⟩
theorem Lq:(∀{α β:Type} (f:α->β) (a:α),(some a).map f=some (f a))/\(∀{α β:Type} (f:α->β),(none:Option α).map f=none)/\(∀{α:Type} (a:α),(some a).isSome=true):=⟨λ_ _=>rfl,λ_=>rfl,λ_=>rfl⟩
theorem Es:(∀{α β γ:Type} (g:β->γ) (f:α->β) (l:List α),(l.map f).map g=l.map (g∘f))/\(∀{α:Type} (l:List α),l++[]=l):=⟨λ_ _ _=>List.map_map,λl=>List.append_nil l⟩
theorem tj:(∀{α β:Type} (f:α->β) (a:α) (l:List α),(a::l).map f=f a::l.map f)/\(∀{α β:Type} (f:α->β),([]:List α).map f=[])/\(∀{α β:Type} (f:α->β) (a b:List α),(a++b).map f=a.map f++b.map f)/\
  (∀{α β:Type} (f:α->β) (l:List α) (i:Nat) (a:α),(l.set i a).map f=(l.map f).set i (f a))/\(∀{α β:Type} (f:α->β) (l:List α) (i:Nat),(l.take i).map f=(l.map f).take i)/\(∀{α β:Type} (f:α->β) (l:List α) (i:Nat),(l.drop i).map f=(l.map f).drop i):=
 ⟨λ_ _ _=>rfl,λ_=>rfl,λ_ _ _=>List.map_append,λ_ _ _ _=>List.map_set,λ_ _ _=>List.map_take,λ_ _ _=>List.map_drop⟩
def Te:=PLift.up (ad @xw (ad @KA (ad @SH (ad @KE (ad @KF (ad @SJ (ad @Kz (ad @SL (ad @K0 (ad @K1 (ad @KG (ad @KH (ad @Ee (ad @KI (ad @KJ (ad @KK (ad @K2 (ad @K3 (ad @K4 (ad @K5 (ad @K6 (ad @K7 (ad @KL (ad @KM (ad @KN (ad @KO (ad @KP (ad @KQ (ad @KR (ad @KS (ad @KT (ad @KU (ad @KY (ad @Ei (ad @El (ad @Ej (ad @Lj (ad @Lk (ad @Ll (ad @Lm (ad @ff.eq_def (ad @loc.eq_def (ad @hN.eq_def (ad @iT.eq_def (ad @ex.eq_def (ad @qy.eq_def (ad @fits.eq_def (ad @I.dZ.eq_1 (ad @I.dZ.eq_2 (ad @I.dZ.eq_3 (ad @I.dZ.eq_4 (ad @I.dZ.eq_5 (ad @I.dZ.eq_6 (ad @H2 (ad @H3 (ad @Bool.not_true (ad @Bool.not_false (ad @Bool.true_and (ad @Bool.and_true (ad @Bool.false_and (ad @Bool.true_or (ad @Bool.false_or (ad @Bool.and_self (ad @Bool.false_eq_true (ad @Bool.true_eq_false (ad @Bool.not_not (ad @true_and (ad @and_true (ad @and_self (ad @decide_true (ad @decide_false (ad @not_false_eq_true (ad @not_true_eq_false (ad @Lf (ad @Nat.zero_add (ad @Nat.add_zero (ad @Nat.mul_one (ad @Nat.lt_add_one (ad @zero_lt_succ (ad @g_.eq_def (ad @lM.eq_def (ad @flat.eq_1 (ad @flat.eq_2 (ad @flat.eq_3 (ad @flat.eq_4 (ad @flat.eq_5 (ad @flat.eq_6 (ad @flat.eq_7 (ad @qt.eq_1 (ad @qt.eq_2 (ad @gT.eq_def (ad @Er (ad @Lp (ad @Lq (@Es)))))))))))))))))))))))))))))))))))))))))))))))))))))))))))))))))))))))))))))))))))))))))))))))
def Tf:=PLift.up (ad @Ah (ad @KA (ad @SI (ad @KE (ad @KF (ad @SK (ad @Kz (ad @SM (ad @K0 (ad @K1 (ad @KG (ad @KH (ad @Ee (ad @KI (ad @KJ (ad @KK (ad @K2 (ad @K3 (ad @K4 (ad @K5 (ad @K6 (ad @K7 (ad @KL (ad @KM (ad @KN (ad @KO (ad @KP (ad @KQ (ad @KR (ad @KS (ad @KT (ad @KU (ad @KY (ad @Ei (ad @El (ad @Ej (ad @Lj (ad @Lk (ad @Ll (ad @Lm (ad @ff.eq_def (ad @loc.eq_def (ad @hN.eq_def (ad @iT.eq_def (ad @ex.eq_def (ad @qy.eq_def (ad @fits.eq_def (ad @I.dZ.eq_1 (ad @I.dZ.eq_2 (ad @I.dZ.eq_3 (ad @I.dZ.eq_4 (ad @I.dZ.eq_5 (ad @I.dZ.eq_6 (ad @H2 (ad @H3 (ad @Bool.not_true (ad @Bool.not_false (ad @Bool.true_and (ad @Bool.and_true (ad @Bool.false_and (ad @Bool.true_or (ad @Bool.false_or (ad @Bool.and_self (ad @Bool.false_eq_true (ad @Bool.true_eq_false (ad @Bool.not_not (ad @true_and (ad @and_true (ad @and_self (ad @decide_true (ad @decide_false (ad @not_false_eq_true (ad @not_true_eq_false (ad @Lf (ad @Nat.zero_add (ad @Nat.add_zero (ad @Nat.mul_one (ad @Nat.lt_add_one (ad @zero_lt_succ (ad @g_.eq_def (ad @lM.eq_def (ad @flat.eq_1 (ad @flat.eq_2 (ad @flat.eq_3 (ad @flat.eq_4 (ad @flat.eq_5 (ad @flat.eq_6 (ad @flat.eq_7 (ad @qt.eq_1 (ad @qt.eq_2 (ad @gT.eq_def (ad @Er (ad @Lp (ad @Lq (@Es)))))))))))))))))))))))))))))))))))))))))))))))))))))))))))))))))))))))))))))))))))))))))))))))
def Tg:=PLift.up (ad @Ei (ad @El (ad @Ej (ad @kv.eq_1 (ad @Nat.zero_add (ad @Bool.not_true (ad @Bool.not_false (ad @Bool.true_and (ad @Bool.and_true (ad @Bool.false_and (ad @Bool.true_or (ad @Bool.false_or (ad @Bool.and_self (ad @Bool.false_eq_true (ad @Bool.true_eq_false (ad @Bool.not_not (ad @Er (ad @Es (@tj)))))))))))))))))))
end Go.c3
