/- Part of a proof that a law returns true for every input. No condition. -/
import Derived.Test.YtmaepbgkcmjcjaiGreatDoorFwG
import Derived.ChangeArms
import Derived.WideShapes
namespace Go.eg
open Go.IntKind Nat
section
variable {H:Type} {enc:TypeId×Value->H} {P:Program} {w:World} {base:Nat} {sp:Nat->Bool} {held:Bool}
def j7 {τ:Type} (enc:TypeId×Value->H) (P:Program) (w:World) (base:Nat) (sp:Nat->Bool) (held:Bool) (T:TypeId) (e:τ->I) (W:τ->Prop):Prop:=
 ∀(fuel:Nat) (cs:azi) (x:DataW H×List MemPlace),DataW.trod enc P w base sp held fuel T cs=some x->∃y,W y/\aA w (F0 w) (e y) cs (λ_=>False)
theorem agc {T:TypeId} {k:IntKind} (aY:P.underlying T=some (.int k)):j7 enc P w base sp held T (λn=>.int k n) (λn=>(Lit.int k n).wf=true):=by
 intro fuel cs x h;obtain⟨n,rfl,_,hw⟩:=DataW.trod_int aY h;exact⟨n,hw,by rw[aA]⟩
theorem agd {T:TypeId} (aY:P.underlying T=some (.int .i64)):j7 enc P w base sp held T (λn=>.int .i64 n) (λn=> -9223372036854775808<=n/\n<=9223372036854775807):=by
 intro fuel cs x h;obtain⟨n,hw,aT⟩:=agc aY fuel cs x h;exact⟨n,wf_i64 hw,aT⟩
theorem age {T:TypeId} (aY:P.underlying T=some .string):j7 enc P w base sp held T (λs=>.str s) (λs=>s.length<=9223372036854775807):=by
 intro fuel cs x h;obtain⟨s,rfl,_,aa⟩:=DataW.trod_string aY h;exact⟨s.data.toList,aa,by rw[aA]⟩
theorem agf {α β:Type} {f:α->Option β}:∀{l:List α} {r:List β},l.mapM f=some r->r.length=l.length/\∀(i:Nat) (a:α),l[i]? =some a->f a=r[i]? :=by
 intro l;induction l with
 |nil=>intro r h;simp at h;subst h;exact⟨rfl,λi a h=>by simp at h⟩
 |cons a l ih=>
  intro r h;simp only[List.mapM_cons,Option.bind_eq_bind,Option.bind_eq_some_iff]at h;obtain⟨b,ab,mj,aT,he⟩:=h;have he:b::mj=r:=by simpa using he
  subst he;obtain⟨ad,ae⟩:=ih aT;refine⟨by simp[ad],λi x an=>?_⟩;cases i with
  |zero=>simp at an;subst an;simpa using ab
  |succ i=>simpa using ae i x (by simpa using an)
theorem WA {a:Addr} {n:Nat} {cs:azi} (h:w.cells? base a n=some cs):cs.length=n/\∀j c,cs[j]? =some c->w.cell? (a.add j)=some c:=by
 unfold World.cells? at h;split at h
 .obtain⟨ad,ae⟩:=agf h;refine⟨by simpa using ad,λj c ar=>?_⟩;have bJ:j<n:=by
   have:=(List.getElem?_eq_some_iff.1 ar).1;rw[ad]at this;simpa using this
  rw[ae j j (by simp[bJ]),ar]
 .cases h
theorem agh {a:Addr} {c:Value} (h:w.cell? a=some c):a.spot=none/\a.block<w.heap.size:=by
 unfold World.cell? at h;split at h
 .rename_i cs e fr ab;split at h
  .cases h
  .rename_i aa;refine⟨by simpa using aa,?_⟩;exact(Array.getElem?_eq_some_iff.1 ab).1
 .cases h
theorem ud {τ:Type} {T e:TypeId} {sz:Nat} {ec:τ->I} {W:τ->Prop} (aY:P.underlying T=some (.slice e)) (fg:P.cellsOf e=sz) (NV:0<sz) (hw:∀y,(ec y).wd=sz) (h:j7 enc P w base sp held e ec W):
  j7 enc P w base sp held T (λcH:List τ=>.slice (cH.map ec)) (λcH:List τ=>cH.length<=9223372036854775807/\∀y∈cH,W y):=by
 intro fuel cs x an;rcases DataW.trod_slice aY an with⟨rfl,_⟩|⟨a,len,cap,elems,rest,n,_,rfl,_,_,ad,ae,aJ,bh,_⟩
 .exact⟨[],⟨by simp,by simp⟩,by simp only[List.map_nil];rw[aA];exact .inl ⟨rfl,none,0,rfl,zero_le _,λ_=>rfl⟩⟩
 .by_cases a7:len=0
  .subst a7;exact⟨[],⟨by simp,by simp⟩,by simp only[List.map_nil];rw[aA];exact .inl ⟨rfl,some a,cap,rfl,ae,λh=>by cases h⟩⟩
  .rw[fg]at bh;have get:∀i,i<len->∃q2 y,w.cells? base (a.add (i*sz)) sz=some q2/\W y/\aA w (F0 w) (ec y) q2 (λ_=>False):=by
    intro i ai;have:=bh i ai;rw[List.getElem?_eq_getElem (by omega),Option.bind_eq_some_iff]at this;obtain⟨q2,aO,aU⟩:=this;obtain⟨y,fq,gn⟩:=h _ _ _ aU;exact⟨q2,y,aO,fq,gn⟩
   obtain⟨agi,fU,g1,_,g2⟩:=get 0 (by omega);obtain⟨aw_,hJ⟩:=WA g1;have NW:∃c,agi[0]? =some c:=⟨_,List.getElem?_eq_getElem (by omega)⟩
   obtain⟨c0,NW⟩:=NW;have E8:=agh (hJ 0 c0 NW);have bl:(a.add (0*sz)).add 0=a:=by simp[Addr.add]
   rw[bl]at E8;obtain⟨b,o,spot⟩:=a;obtain⟨vG,ue⟩:=E8;simp only at vG ue;subst vG;have all:∀m,m<=len->∃(cH:List τ) (e9:azi),cH.length=m/\(∀y∈cH,W y)/\e9.length=m*sz/\js w b o e9/\bA w (F0 w) (cH.map ec) e9 (λ_=>False):=by
    intro m;induction m with
    |zero=>intro _;exact⟨[],[],rfl,by simp,by simp,λj c ar=>by simp at ar,by rw[List.map_nil,bA]⟩
    |succ m ih=>
     intro hm;obtain⟨cH,e9,b1,cK,dM,dX,eF⟩:=ih (by omega);obtain⟨q2,y,aO,aU,aM⟩:=get m (by omega);obtain⟨m1,m2⟩:=WA aO;refine⟨cH++[y],e9++q2,by simp[b1],?_,by simp[dM,m1,Nat.add_mul],?_,?_⟩
     .intro z cf;rcases List.mem_append.1 cf with cf|cf
      .exact cK z cf
      .simp at cf;subst cf;exact aU
     .intro j c ar;by_cases bJ:j<e9.length
      .rw[List.getElem?_append_left bJ]at ar;exact dX j c ar
      .rw[List.getElem?_append_right (by omega)]at ar;have:=m2 _ c ar;rw[Addr.add_lit,Addr.add_lit]at this;rw[<-this];congr 2;omega
     .rw[List.map_append];refine bA.append eF ?_ (λ_ h=>h) (λ_ h=>h) (λ_ h=>h.elim);simp only[List.map_cons,List.map_nil];rw[bA];exact⟨q2,[],λ_=>False,λ_=>False,by simp,aM,by rw[bA],λ_ h=>h.elim,λ_ h=>h.elim,λ_ h=>h.elim⟩
   obtain⟨cH,e9,b1,cK,dM,dX,eF⟩:=all len (Nat.le_refl _);refine⟨cH,⟨by rw[b1];exact Nat.le_trans ad ae,cK⟩,?_⟩;rw[aA];refine .inr ⟨b,o,cap,e9,sz,by simp[b1],ue,by simp[b1,ad],ae,?_,dX,eF⟩;intro d ao;obtain⟨y,_,rfl⟩:=List.mem_map.1 ao;exact hw y
def ends:Nat->List (Nat×Nat)->Option Nat
 |o,[]=>some o
 |o,(qk,sz)::r=>if o=qk then ends (o+sz) r else none
def WB (w:World) (F:Nat->Prop) (cs:azi):List (I×Nat×Nat)->Prop
 |[]=>True
 |(d,off,sz)::r=>aA w F d ((cs.drop off).take sz) (λ_=>False)/\WB w F cs r
theorem xP {F:Nat->Prop} {cs:azi}:∀(l:List (I×Nat×Nat)) (o:Nat),ends o (l.map (·.2))=some cs.length->WB w F cs l->bA w F (l.map (·.1)) (cs.drop o) (λ_=>False):=by
 intro l;induction l with
 |nil=>intro o he _;simp[ends]at he;subst he;simp only[List.map_nil];rw[bA];simp
 |cons p l ih=>
  intro o he bH;obtain⟨d,off,sz⟩:=p;simp only[List.map_cons,ends]at he;split at he
  .rename_i e;subst e;obtain⟨f1,f2⟩:=bH;simp only[List.map_cons];rw[bA];refine⟨(cs.drop o).take sz,cs.drop (o+sz),λ_=>False,λ_=>False,?_,f1,ih _ he f2,λ_ h=>h.elim,λ_ h=>h.elim,λ_ h=>h.elim⟩;rw[<-List.drop_drop,List.take_append_drop]
  .cases he
theorem kL {n T:Nat} {cs:azi} {o:Option (DataW H×List MemPlace)} {τ:Type} {e:τ->I} {W:τ->Prop} (aT:j7 enc P w base sp held T e W) (h:DataW.trod enc P w base sp held n T cs=o) (bL:o.isSome=true):
  ∃y,W y/\aA w (F0 w) (e y) cs (λ_=>False):=by
 obtain⟨x,rfl⟩:=Option.isSome_iff_exists.1 bL;exact aT _ _ _ h
theorem WC {τ:Type} {T e:TypeId} {ec:τ->I} {W:List τ->Prop} {r:Reach} {lf:Nat} {v:Value} {d:DataW H} {ps:List MemPlace} (aY:P.underlying T=some (.slice e)) (aT:j7 enc P w base sp held T (λcH:List τ=>.slice (cH.map ec)) W)
  (pc:Value.okWide P w r lf T v) (ao:DataW.Trod enc P w base sp held T v d ps):∃cH,Arg w (.slice (cH.map ec)) v/\W cH:=by
 obtain⟨a,len,cap,rfl⟩:=WideShapes.okWide_slice aY pc;obtain⟨fuel,bH⟩:=ao;obtain⟨cH,ad,ae⟩:=aT _ _ _ bH;refine⟨cH,⟨rfl,rfl,?_⟩,ad⟩;simpa [Value.cells,dd,jb]using ae
theorem agj {τ:Type} {T:TypeId} {aE:Array Field} {es:τ->azk} {W:τ->Prop} {r:Reach} {lf:Nat} {v:Value} {d:DataW H} {ps:List MemPlace} (aY:P.underlying T=some (.struct aE)) (aT:j7 enc P w base sp held T (λy=>.agg (es y)) W)
  (pc:Value.okWide P w r lf T v) (ao:DataW.Trod enc P w base sp held T v d ps):∃y,Arg w (.agg (es y)) v/\W y:=by
 obtain⟨cs,rfl,_⟩:=WideShapes.okWide_struct aY pc;obtain⟨fuel,bH⟩:=ao;obtain⟨y,ad,ae⟩:=aT _ _ _ bH;refine⟨y,⟨rfl,⟨cs,rfl⟩,?_⟩,ad⟩;simpa [Value.cells,dd,jb]using ae
end
theorem NX:(∀{α β:Type} (f:α->β) (l:List α),(l.map f).length=l.length)/\(∀{α:Type} (n:Nat) (a:α),(List.replicate n a).length=n)/\(∀{α:Type} (a:α) (l:List α),(a::l).length=l.length+1)/\(∀{α:Type},([]:List α).length=0)/\(∀{α:Type} (a b:List α),(a++b).length=a.length+b.length):=
 ⟨λ_ _=>List.length_map _,λ_ _=>List.length_replicate,λ_ _=>rfl,rfl,λ_ _=>List.length_append⟩
theorem WD:(∀{α β:Type} (f:α->β) (l:List α) (i:Nat),(l.map f)[i]? =l[i]?.map f)/\(∀{α:Type} (a:α) (l:List α),(a::l)[0]? =some a)/\(∀{α:Type} (a:α) (l:List α) (i:Nat),(a::l)[i+1]? =l[i]?)/\
  (∀{α:Type} (a b:α) (l:List α),(a::l).set 0 b=b::l)/\(∀{α:Type} (a b:α) (l:List α) (n:Nat),(a::l).set (n+1) b=a::l.set n b)/\(∀{α:Type} (a:α) (l:List α) (n:Nat),(a::l).take (n+1)=a::l.take n)/\(∀{α:Type} (l:List α),l.take 0=[]):=
 ⟨λ_ _ _=>List.getElem?_map,λ_ _=>rfl,λ_ _ _=>rfl,λ_ _ _=>rfl,λ_ _ _ _=>rfl,λ_ _ _=>rfl,λ_=>rfl⟩
theorem WE:(∀{α β:Type} (f:α->β) (a:α),(some a).map f=some (f a))/\(∀{α β:Type} (f:α->β),(none:Option α).map f=none)/\(∀{α:Type} (a:α),(some a).isSome=true):=⟨λ_ _=>rfl,λ_=>rfl,λ_=>rfl⟩
theorem NY:(∀{α β γ:Type} (g:β->γ) (f:α->β) (l:List α),(l.map f).map g=l.map (g∘f))/\(∀{α:Type} (l:List α),l++[]=l):=⟨λ_ _ _=>List.map_map,λl=>List.append_nil l⟩
theorem pj:(∀{α β:Type} (f:α->β) (a:α) (l:List α),(a::l).map f=f a::l.map f)/\(∀{α β:Type} (f:α->β),([]:List α).map f=[])/\(∀{α β:Type} (f:α->β) (a b:List α),(a++b).map f=a.map f++b.map f)/\
  (∀{α β:Type} (f:α->β) (l:List α) (i:Nat) (a:α),(l.set i a).map f=(l.map f).set i (f a))/\(∀{α β:Type} (f:α->β) (l:List α) (i:Nat),(l.take i).map f=(l.map f).take i)/\(∀{α β:Type} (f:α->β) (l:List α) (i:Nat),(l.drop i).map f=(l.map f).drop i):=
 ⟨λ_ _ _=>rfl,λ_=>rfl,λ_ _ _=>List.map_append,λ_ _ _ _=>List.map_set,λ_ _ _=>List.map_take,λ_ _ _=>List.map_drop⟩
def agk:=PLift.up (R @xJ (R @VO (R @IG (R @VS (R @VT (R @afQ (R @VN (R @afS (R @Wd (R @We (R @VU (R @VV (R @VW (R @VX (R @VY (R @VZ (R @Wf (R @Wg (R @Wh (R @Wi (R @Wj (R @Wk (R @V0 (R @V1 (R @V2 (R @V3 (R @V4 (R @V5 (R @V6 (R @V7 (R @V8 (R @V9 (R @Wb (R @NO (R @NS (R @NQ (R @Wv (R @Ww (R @Wx (R @Wy (R @fL.eq_def (R @loc.eq_def (R @hP.eq_def (R @ml.eq_def (R @ex.eq_def (R @vA.eq_def (R @fits.eq_def (R @I.gC.eq_1 (R @I.gC.eq_2 (R @I.gC.eq_3 (R @I.gC.eq_4 (R @I.gC.eq_5 (R @I.gC.eq_6 (R @TI (R @TJ (R @Bool.not_true (R @Bool.not_false (R @Bool.true_and (R @Bool.and_true (R @Bool.false_and (R @Bool.true_or (R @Bool.false_or (R @Bool.and_self (R @Bool.false_eq_true (R @Bool.true_eq_false (R @Bool.not_not (R @true_and (R @and_true (R @and_self (R @decide_true (R @decide_false (R @not_false_eq_true (R @not_true_eq_false (R @Wr (R @Nat.zero_add (R @Nat.add_zero (R @Nat.mul_one (R @Nat.lt_add_one (R @zero_lt_succ (R @iG.eq_def (R @mL.eq_def (R @flat.eq_1 (R @flat.eq_2 (R @flat.eq_3 (R @flat.eq_4 (R @flat.eq_5 (R @flat.eq_6 (R @flat.eq_7 (R @vv.eq_1 (R @vv.eq_2 (R @kV.eq_def (R @NX (R @WD (R @WE (@NY)))))))))))))))))))))))))))))))))))))))))))))))))))))))))))))))))))))))))))))))))))))))))))))))
def E9:=PLift.up (R @xK (R @VO (R @IH (R @VS (R @VT (R @afR (R @VN (R @afT (R @Wd (R @We (R @VU (R @VV (R @VW (R @VX (R @VY (R @VZ (R @Wf (R @Wg (R @Wh (R @Wi (R @Wj (R @Wk (R @V0 (R @V1 (R @V2 (R @V3 (R @V4 (R @V5 (R @V6 (R @V7 (R @V8 (R @V9 (R @Wb (R @NO (R @NS (R @NQ (R @Wv (R @Ww (R @Wx (R @Wy (R @fL.eq_def (R @loc.eq_def (R @hP.eq_def (R @ml.eq_def (R @ex.eq_def (R @vA.eq_def (R @fits.eq_def (R @I.gC.eq_1 (R @I.gC.eq_2 (R @I.gC.eq_3 (R @I.gC.eq_4 (R @I.gC.eq_5 (R @I.gC.eq_6 (R @TI (R @TJ (R @Bool.not_true (R @Bool.not_false (R @Bool.true_and (R @Bool.and_true (R @Bool.false_and (R @Bool.true_or (R @Bool.false_or (R @Bool.and_self (R @Bool.false_eq_true (R @Bool.true_eq_false (R @Bool.not_not (R @true_and (R @and_true (R @and_self (R @decide_true (R @decide_false (R @not_false_eq_true (R @not_true_eq_false (R @Wr (R @Nat.zero_add (R @Nat.add_zero (R @Nat.mul_one (R @Nat.lt_add_one (R @zero_lt_succ (R @iG.eq_def (R @mL.eq_def (R @flat.eq_1 (R @flat.eq_2 (R @flat.eq_3 (R @flat.eq_4 (R @flat.eq_5 (R @flat.eq_6 (R @flat.eq_7 (R @vv.eq_1 (R @vv.eq_2 (R @kV.eq_def (R @NX (R @WD (R @WE (@NY)))))))))))))))))))))))))))))))))))))))))))))))))))))))))))))))))))))))))))))))))))))))))))))))
def agl:=PLift.up (R @NO (R @NS (R @NQ (R @iR.eq_1 (R @Nat.zero_add (R @Bool.not_true (R @Bool.not_false (R @Bool.true_and (R @Bool.and_true (R @Bool.false_and (R @Bool.true_or (R @Bool.false_or (R @Bool.and_self (R @Bool.false_eq_true (R @Bool.true_eq_false (R @Bool.not_not (R @NX (R @NY (@pj)))))))))))))))))))
end Go.eg
