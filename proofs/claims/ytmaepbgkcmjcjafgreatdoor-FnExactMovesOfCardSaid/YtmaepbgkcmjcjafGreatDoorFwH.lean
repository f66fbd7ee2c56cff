/- Part of a proof that a law returns true for every input. No condition. -/
import Derived.Test.YtmaepbgkcmjcjafGreatDoorFwG
import Derived.ChangeArms
import Derived.WideShapes
namespace Go.eg
open Go.IntKind Nat
section
variable {H:Type} {enc:TypeId×Value->H} {P:Program} {w:World} {base:Nat} {sp:Nat->Bool} {held:Bool}
def kK {τ:Type} (enc:TypeId×Value->H) (P:Program) (w:World) (base:Nat) (sp:Nat->Bool) (held:Bool) (T:TypeId) (e:τ->I) (W:τ->Prop):Prop:=
 ∀(fuel:Nat) (cs:ayi) (x:DataW H×List MemPlace),DataW.trod enc P w base sp held fuel T cs=some x->∃y,W y/\aB w (F0 w) (e y) cs (λ_=>False)
theorem afY {T:TypeId} {k:IntKind} (ba:P.underlying T=some (.int k)):kK enc P w base sp held T (λn=>.int k n) (λn=>(Lit.int k n).wf=true):=by
 intro fuel cs x h;obtain⟨n,rfl,_,hw⟩:=DataW.trod_int ba h;exact⟨n,hw,by rw[aB]⟩
theorem afZ {T:TypeId} (ba:P.underlying T=some (.int .i64)):kK enc P w base sp held T (λn=>.int .i64 n) (λn=> -9223372036854775808<=n/\n<=9223372036854775807):=by
 intro fuel cs x h;obtain⟨n,hw,aQ⟩:=afY ba fuel cs x h;exact⟨n,wf_i64 hw,aQ⟩
theorem af0 {T:TypeId} (ba:P.underlying T=some .string):kK enc P w base sp held T (λs=>.str s) (λs=>s.length<=9223372036854775807):=by
 intro fuel cs x h;obtain⟨s,rfl,_,ab⟩:=DataW.trod_string ba h;exact⟨s.data.toList,ab,by rw[aB]⟩
theorem af1 {α β:Type} {f:α->Option β}:∀{l:List α} {r:List β},l.mapM f=some r->r.length=l.length/\∀(i:Nat) (a:α),l[i]? =some a->f a=r[i]? :=by
 intro l;induction l with
 |nil=>intro r h;simp at h;subst h;exact⟨rfl,λi a h=>by simp at h⟩
 |cons a l ih=>
  intro r h;simp only[List.mapM_cons,Option.bind_eq_bind,Option.bind_eq_some_iff]at h;obtain⟨b,aa,hN,aQ,he⟩:=h;have he:b::hN=r:=by simpa using he
  subst he;obtain⟨ad,af⟩:=ih aQ;refine⟨by simp[ad],λi x ao=>?_⟩;cases i with
  |zero=>simp at ao;subst ao;simpa using aa
  |succ i=>simpa using af i x (by simpa using ao)
theorem Wu {a:Addr} {n:Nat} {cs:ayi} (h:w.cells? base a n=some cs):cs.length=n/\∀j c,cs[j]? =some c->w.cell? (a.add j)=some c:=by
 unfold World.cells? at h;split at h
 .obtain⟨ad,af⟩:=af1 h;refine⟨by simpa using ad,λj c ar=>?_⟩;have bF:j<n:=by
   have:=(List.getElem?_eq_some_iff.1 ar).1;rw[ad]at this;simpa using this
  rw[af j j (by simp[bF]),ar]
 .cases h
theorem af2 {a:Addr} {c:Value} (h:w.cell? a=some c):a.spot=none/\a.block<w.heap.size:=by
 unfold World.cell? at h;split at h
 .rename_i cs e fr aa;split at h
  .cases h
  .rename_i ab;refine⟨by simpa using ab,?_⟩;exact(Array.getElem?_eq_some_iff.1 aa).1
 .cases h
theorem vu {τ:Type} {T e:TypeId} {sz:Nat} {ec:τ->I} {W:τ->Prop} (ba:P.underlying T=some (.slice e)) (fj:P.cellsOf e=sz) (af3:0<sz) (hw:∀y,(ec y).wd=sz) (h:kK enc P w base sp held e ec W):
  kK enc P w base sp held T (λcP:List τ=>.slice (cP.map ec)) (λcP:List τ=>cP.length<=9223372036854775807/\∀y∈cP,W y):=by
 intro fuel cs x ao;rcases DataW.trod_slice ba ao with⟨rfl,_⟩|⟨a,len,cap,elems,rest,n,_,rfl,_,_,ad,af,aG,bf,_⟩
 .exact⟨[],⟨by simp,by simp⟩,by simp only[List.map_nil];rw[aB];exact .inl ⟨rfl,none,0,rfl,zero_le _,λ_=>rfl⟩⟩
 .by_cases a_:len=0
  .subst a_;exact⟨[],⟨by simp,by simp⟩,by simp only[List.map_nil];rw[aB];exact .inl ⟨rfl,some a,cap,rfl,af,λh=>by cases h⟩⟩
  .rw[fj]at bf;have get:∀i,i<len->∃q5 y,w.cells? base (a.add (i*sz)) sz=some q5/\W y/\aB w (F0 w) (ec y) q5 (λ_=>False):=by
    intro i aj;have:=bf i aj;rw[List.getElem?_eq_getElem (by omega),Option.bind_eq_some_iff]at this;obtain⟨q5,aP,aY⟩:=this;obtain⟨y,ft,hr⟩:=h _ _ _ aY;exact⟨q5,y,aP,ft,hr⟩
   obtain⟨af4,gg,g1,_,g2⟩:=get 0 (by omega);obtain⟨awt,h5⟩:=Wu g1;have NO:∃c,af4[0]? =some c:=⟨_,List.getElem?_eq_getElem (by omega)⟩
   obtain⟨c0,NO⟩:=NO;have ES:=af2 (h5 0 c0 NO);have br:(a.add (0*sz)).add 0=a:=by simp[Addr.add]
   rw[br]at ES;obtain⟨b,o,spot⟩:=a;obtain⟨vl,tS⟩:=ES;simp only at vl tS;subst vl;have all:∀m,m<=len->∃(cP:List τ) (fo:ayi),cP.length=m/\(∀y∈cP,W y)/\fo.length=m*sz/\jv w b o fo/\bt w (F0 w) (cP.map ec) fo (λ_=>False):=by
    intro m;induction m with
    |zero=>intro _;exact⟨[],[],rfl,by simp,by simp,λj c ar=>by simp at ar,by rw[List.map_nil,bt]⟩
    |succ m ih=>
     intro hm;obtain⟨cP,fo,bS,ct,dT,ed,eQ⟩:=ih (by omega);obtain⟨q5,y,aP,aY,aU⟩:=get m (by omega);obtain⟨m1,m2⟩:=Wu aP;refine⟨cP++[y],fo++q5,by simp[bS],?_,by simp[dT,m1,Nat.add_mul],?_,?_⟩
     .intro z b8;rcases List.mem_append.1 b8 with b8|b8
      .exact ct z b8
      .simp at b8;subst b8;exact aY
     .intro j c ar;by_cases bF:j<fo.length
      .rw[List.getElem?_append_left bF]at ar;exact ed j c ar
      .rw[List.getElem?_append_right (by omega)]at ar;have:=m2 _ c ar;rw[Addr.add_lit,Addr.add_lit]at this;rw[<-this];congr 2;omega
     .rw[List.map_append];refine bt.append eQ ?_ (λ_ h=>h) (λ_ h=>h) (λ_ h=>h.elim);simp only[List.map_cons,List.map_nil];rw[bt];exact⟨q5,[],λ_=>False,λ_=>False,by simp,aU,by rw[bt],λ_ h=>h.elim,λ_ h=>h.elim,λ_ h=>h.elim⟩
   obtain⟨cP,fo,bS,ct,dT,ed,eQ⟩:=all len (Nat.le_refl _);refine⟨cP,⟨by rw[bS];exact Nat.le_trans ad af,ct⟩,?_⟩;rw[aB];refine .inr ⟨b,o,cap,fo,sz,by simp[bS],tS,by simp[bS,ad],af,?_,ed,eQ⟩;intro d an;obtain⟨y,_,rfl⟩:=List.mem_map.1 an;exact hw y
def ends:Nat->List (Nat×Nat)->Option Nat
 |o,[]=>some o
 |o,(qk,sz)::r=>if o=qk then ends (o+sz) r else none
def Wv (w:World) (F:Nat->Prop) (cs:ayi):List (I×Nat×Nat)->Prop
 |[]=>True
 |(d,off,sz)::r=>aB w F d ((cs.drop off).take sz) (λ_=>False)/\Wv w F cs r
theorem y8 {F:Nat->Prop} {cs:ayi}:∀(l:List (I×Nat×Nat)) (o:Nat),ends o (l.map (·.2))=some cs.length->Wv w F cs l->bt w F (l.map (·.1)) (cs.drop o) (λ_=>False):=by
 intro l;induction l with
 |nil=>intro o he _;simp[ends]at he;subst he;simp only[List.map_nil];rw[bt];simp
 |cons p l ih=>
  intro o he bD;obtain⟨d,off,sz⟩:=p;simp only[List.map_cons,ends]at he;split at he
  .rename_i e;subst e;obtain⟨f1,f2⟩:=bD;simp only[List.map_cons];rw[bt];refine⟨(cs.drop o).take sz,cs.drop (o+sz),λ_=>False,λ_=>False,?_,f1,ih _ he f2,λ_ h=>h.elim,λ_ h=>h.elim,λ_ h=>h.elim⟩;rw[<-List.drop_drop,List.take_append_drop]
  .cases he
theorem l8 {n T:Nat} {cs:ayi} {o:Option (DataW H×List MemPlace)} {τ:Type} {e:τ->I} {W:τ->Prop} (aQ:kK enc P w base sp held T e W) (h:DataW.trod enc P w base sp held n T cs=o) (bI:o.isSome=true):
  ∃y,W y/\aB w (F0 w) (e y) cs (λ_=>False):=by
 obtain⟨x,rfl⟩:=Option.isSome_iff_exists.1 bI;exact aQ _ _ _ h
theorem af5 {τ:Type} {T e:TypeId} {ec:τ->I} {W:List τ->Prop} {r:Reach} {lJ:Nat} {v:Value} {d:DataW H} {ps:List MemPlace} (ba:P.underlying T=some (.slice e)) (aQ:kK enc P w base sp held T (λcP:List τ=>.slice (cP.map ec)) W)
  (tQ:Value.okWide P w r lJ T v) (an:DataW.Trod enc P w base sp held T v d ps):∃cP,Arg w (.slice (cP.map ec)) v/\W cP:=by
 obtain⟨a,len,cap,rfl⟩:=WideShapes.okWide_slice ba tQ;obtain⟨fuel,bD⟩:=an;obtain⟨cP,ad,af⟩:=aQ _ _ _ bD;refine⟨cP,⟨rfl,rfl,?_⟩,ad⟩;simpa [Value.cells,cT,jx]using af
theorem af6 {τ:Type} {T:TypeId} {aF:Array Field} {es:τ->ayk} {W:τ->Prop} {r:Reach} {lJ:Nat} {v:Value} {d:DataW H} {ps:List MemPlace} (ba:P.underlying T=some (.struct aF)) (aQ:kK enc P w base sp held T (λy=>.agg (es y)) W)
  (tQ:Value.okWide P w r lJ T v) (an:DataW.Trod enc P w base sp held T v d ps):∃y,Arg w (.agg (es y)) v/\W y:=by
 obtain⟨cs,rfl,_⟩:=WideShapes.okWide_struct ba tQ;obtain⟨fuel,bD⟩:=an;obtain⟨y,ad,af⟩:=aQ _ _ _ bD;refine⟨y,⟨rfl,⟨cs,rfl⟩,?_⟩,ad⟩;simpa [Value.cells,cT,jx]using af
end
theorem NP:(∀{α β:Type} (f:α->β) (l:List α),(l.map f).length=l.length)/\(∀{α:Type} (n:Nat) (a:α),(List.replicate n a).length=n)/\(∀{α:Type} (a:α) (l:List α),(a::l).length=l.length+1)/\(∀{α:Type},([]:List α).length=0)/\(∀{α:Type} (a b:List α),(a++b).length=a.length+b.length):=
 ⟨λ_ _=>List.length_map _,λ_ _=>List.length_replicate,λ_ _=>rfl,rfl,λ_ _=>List.length_append⟩
theorem Ww:(∀{α β:Type} (f:α->β) (l:List α) (i:Nat),(l.map f)[i]? =l[i]?.map f)/\(∀{α:Type} (a:α) (l:List α),(a::l)[0]? =some a)/\(∀{α:Type} (a:α) (l:List α) (i:Nat),(a::l)[i+1]? =l[i]?)/\
  (∀{α:Type} (a b:α) (l:List α),(a::l).set 0 b=b::l)/\(∀{α:Type} (a b:α) (l:List α) (n:Nat),(a::l).set (n+1) b=a::l.set n b)/\(∀{α:Type} (a:α) (l:List α) (n:Nat),(a::l).take (n+1)=a::l.take n)/\(∀{α:Type} (l:List α),l.take 0=[]):=
 ⟨λ_ _ _=>List.getElem?_map,λ_ _=>rfl,λ_ _ _=>rfl,λ_ _ _=>rfl,λ_ _ _ _=>rfl,λ_ _ _=>rfl,λ_=>rfl⟩
theorem Wx:(∀{α β:Type} (f:α->β) (a:α),(some a).map f=some (f a))/\(∀{α β:Type} (f:α->β),(none:Option α).map f=none)/\(∀{α:Type} (a:α),(some a).isSome=true):=⟨λ_ _=>rfl,λ_=>rfl,λ_=>rfl⟩
theorem NQ:(∀{α β γ:Type} (g:β->γ) (f:α->β) (l:List α),(l.map f).map g=l.map (g∘f))/\(∀{α:Type} (l:List α),l++[]=l):=⟨λ_ _ _=>List.map_map,λl=>List.append_nil l⟩
theorem mw:(∀{α β:Type} (f:α->β) (a:α) (l:List α),(a::l).map f=f a::l.map f)/\(∀{α β:Type} (f:α->β),([]:List α).map f=[])/\(∀{α β:Type} (f:α->β) (a b:List α),(a++b).map f=a.map f++b.map f)/\
  (∀{α β:Type} (f:α->β) (l:List α) (i:Nat) (a:α),(l.set i a).map f=(l.map f).set i (f a))/\(∀{α β:Type} (f:α->β) (l:List α) (i:Nat),(l.take i).map f=(l.map f).take i)/\(∀{α β:Type} (f:α->β) (l:List α) (i:Nat),(l.drop i).map f=(l.map f).drop i):=
 ⟨λ_ _ _=>rfl,λ_=>rfl,λ_ _ _=>List.map_append,λ_ _ _ _=>List.map_set,λ_ _ _=>List.map_take,λ_ _ _=>List.map_drop⟩
def af7:=PLift.up (U @xr (U @VG (U @Nz (U @VK (U @VL (U @afG (U @VF (U @afI (U @V5 (U @V6 (U @VM (U @VN (U @NC (U @VO (U @VP (U @VQ (U @V7 (U @V8 (U @V9 (U @V_ (U @Wa (U @Wb (U @VR (U @VS (U @VT (U @VU (U @VV (U @VW (U @VX (U @VY (U @VZ (U @V0 (U @V3 (U @NH (U @NL (U @NJ (U @Wq (U @Wr (U @Ws (U @Wt (U @fS.eq_def (U @loc.eq_def (U @hU.eq_def (U @mm.eq_def (U @ex.eq_def (U @vf.eq_def (U @fits.eq_def (U @I.gC.eq_1 (U @I.gC.eq_2 (U @I.gC.eq_3 (U @I.gC.eq_4 (U @I.gC.eq_5 (U @I.gC.eq_6 (U @Tv (U @Tw (U @Bool.not_true (U @Bool.not_false (U @Bool.true_and (U @Bool.and_true (U @Bool.false_and (U @Bool.true_or (U @Bool.false_or (U @Bool.and_self (U @Bool.false_eq_true (U @Bool.true_eq_false (U @Bool.not_not (U @true_and (U @and_true (U @and_self (U @decide_true (U @decide_false (U @not_false_eq_true (U @not_true_eq_false (U @Wm (U @Nat.zero_add (U @Nat.add_zero (U @Nat.mul_one (U @Nat.lt_add_one (U @zero_lt_succ (U @ij.eq_def (U @mL.eq_def (U @flat.eq_1 (U @flat.eq_2 (U @flat.eq_3 (U @flat.eq_4 (U @flat.eq_5 (U @flat.eq_6 (U @flat.eq_7 (U @vb.eq_1 (U @vb.eq_2 (U @kR.eq_def (U @NP (U @Ww (U @Wx (@NQ)))))))))))))))))))))))))))))))))))))))))))))))))))))))))))))))))))))))))))))))))))))))))))))))
def ET:=PLift.up (U @y2 (U @VG (U @NA (U @VK (U @VL (U @afH (U @VF (U @afJ (U @V5 (U @V6 (U @VM (U @VN (U @NC (U @VO (U @VP (U @VQ (U @V7 (U @V8 (U @V9 (U @V_ (U @Wa (U @Wb (U @VR (U @VS (U @VT (U @VU (U @VV (U @VW (U @VX (U @VY (U @VZ (U @V0 (U @V3 (U @NH (U @NL (U @NJ (U @Wq (U @Wr (U @Ws (U @Wt (U @fS.eq_def (U @loc.eq_def (U @hU.eq_def (U @mm.eq_def (U @ex.eq_def (U @vf.eq_def (U @fits.eq_def (U @I.gC.eq_1 (U @I.gC.eq_2 (U @I.gC.eq_3 (U @I.gC.eq_4 (U @I.gC.eq_5 (U @I.gC.eq_6 (U @Tv (U @Tw (U @Bool.not_true (U @Bool.not_false (U @Bool.true_and (U @Bool.and_true (U @Bool.false_and (U @Bool.true_or (U @Bool.false_or (U @Bool.and_self (U @Bool.false_eq_true (U @Bool.true_eq_false (U @Bool.not_not (U @true_and (U @and_true (U @and_self (U @decide_true (U @decide_false (U @not_false_eq_true (U @not_true_eq_false (U @Wm (U @Nat.zero_add (U @Nat.add_zero (U @Nat.mul_one (U @Nat.lt_add_one (U @zero_lt_succ (U @ij.eq_def (U @mL.eq_def (U @flat.eq_1 (U @flat.eq_2 (U @flat.eq_3 (U @flat.eq_4 (U @flat.eq_5 (U @flat.eq_6 (U @flat.eq_7 (U @vb.eq_1 (U @vb.eq_2 (U @kR.eq_def (U @NP (U @Ww (U @Wx (@NQ)))))))))))))))))))))))))))))))))))))))))))))))))))))))))))))))))))))))))))))))))))))))))))))))
def af8:=PLift.up (U @NH (U @NL (U @NJ (U @i_.eq_1 (U @Nat.zero_add (U @Bool.not_true (U @Bool.not_false (U @Bool.true_and (U @Bool.and_true (U @Bool.false_and (U @Bool.true_or (U @Bool.false_or (U @Bool.and_self (U @Bool.false_eq_true (U @Bool.true_eq_false (U @Bool.not_not (U @NP (U @NQ (@mw)))))))))))))))))))
end Go.eg
