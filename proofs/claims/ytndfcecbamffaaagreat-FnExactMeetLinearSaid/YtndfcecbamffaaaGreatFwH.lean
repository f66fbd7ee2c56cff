/- Part of a proof that a law returns true for every input. No condition. -/
import Derived.Test.YtndfcecbamffaaaGreatFwG
import Derived.ChangeArms
import Derived.WideShapes
namespace Go.dD
open Go.IntKind Nat Or
section
variable {H:Type} {enc:TypeId×Value->H} {P:Program} {w:World} {base:Nat} {sp:Nat->Bool} {held:Bool}
def lk {τ:Type} (enc:TypeId×Value->H) (P:Program) (w:World) (base:Nat) (sp:Nat->Bool) (held:Bool) (T:TypeId) (e:τ->I) (W:τ->Prop):Prop:=
 ∀(fuel:Nat) (cs:ahF) (x:DataW H×List MemPlace),DataW.trod enc P w base sp held fuel T cs=some x->∃y,W y/\ay w (F0 w) (e y) cs (λ_=>False)
theorem Vp {T:TypeId} {k:IntKind} (aZ:P.underlying T=some (.int k)):lk enc P w base sp held T (λn=>.int k n) (λn=>(Lit.int k n).wf=true):=by
 intro fuel cs x h;obtain⟨n,rfl,_,hw⟩:=DataW.trod_int aZ h;exact⟨n,hw,by rw[ay]⟩
theorem Vq {T:TypeId} (aZ:P.underlying T=some (.int .i64)):lk enc P w base sp held T (λn=>.int .i64 n) (λn=> -9223372036854775808<=n/\n<=9223372036854775807):=by
 intro fuel cs x h;obtain⟨n,hw,aV⟩:=Vp aZ fuel cs x h;exact⟨n,wf_i64 hw,aV⟩
theorem Vr {T:TypeId} (aZ:P.underlying T=some .string):lk enc P w base sp held T (λs=>.str s) (λs=>s.length<=9223372036854775807):=by
 intro fuel cs x h;obtain⟨s,rfl,_,ae⟩:=DataW.trod_string aZ h;exact⟨s.data.toList,ae,by rw[ay]⟩
theorem Vs {α β:Type} {f:α->Option β}:∀{l:List α} {r:List β},l.mapM f=some r->r.length=l.length/\∀(i:Nat) (a:α),l[i]? =some a->f a=r[i]? :=by
 intro l;induction l with
 |nil=>intro r h;simp at h;subst h;exact⟨rfl,λi a h=>by simp at h⟩
 |cons a l ih=>
  intro r h;simp only[List.mapM_cons,Option.bind_eq_bind,Option.bind_eq_some_iff]at h;obtain⟨b,U,gv,aV,he⟩:=h;have he:b::gv=r:=by simpa using he
  subst he;obtain⟨af,ag⟩:=ih aV;refine⟨by simp[af],λi x aA=>?_⟩;cases i with
  |zero=>simp at aA;subst aA;simpa using U
  |succ i=>simpa using ag i x (by simpa using aA)
theorem MU {a:Addr} {n:Nat} {cs:ahF} (h:w.cells? base a n=some cs):cs.length=n/\∀az c,cs[az]? =some c->w.cell? (a.add az)=some c:=by
 unfold World.cells? at h;split at h
 .obtain⟨af,ag⟩:=Vs h;refine⟨by simpa using af,λaz c aC=>?_⟩;have ch:az<n:=by
   have:=(List.getElem?_eq_some_iff.1 aC).1;rw[af]at this;simpa using this
  rw[ag az az (by simp[ch]),aC]
 .cases h
theorem Vt {a:Addr} {c:Value} (h:w.cell? a=some c):a.spot=none/\a.block<w.heap.size:=by
 unfold World.cell? at h;split at h
 .rename_i cs e fr U;split at h
  .cases h
  .rename_i ae;refine⟨by simpa using ae,?_⟩;exact(Array.getElem?_eq_some_iff.1 U).1
 .cases h
theorem y0 {τ:Type} {T e:TypeId} {sz:Nat} {ec:τ->I} {W:τ->Prop} (aZ:P.underlying T=some (.slice e)) (dR:P.cellsOf e=sz) (agp:0<sz) (hw:∀y,(ec y).wd=sz) (h:lk enc P w base sp held e ec W):
  lk enc P w base sp held T (λcr:List τ=>.slice (cr.map ec)) (λcr:List τ=>cr.length<=9223372036854775807/\∀y∈cr,W y):=by
 intro fuel cs x aA;rcases DataW.trod_slice aZ aA with⟨rfl,_⟩|⟨a,len,cap,elems,rest,n,_,rfl,_,_,af,ag,aJ,a_,_⟩
 .exact⟨[],⟨by simp,by simp⟩,by simp only[List.map_nil];rw[ay];exact .inl ⟨rfl,none,0,rfl,zero_le _,λ_=>rfl⟩⟩
 .by_cases bA:len=0
  .subst bA;exact⟨[],⟨by simp,by simp⟩,by simp only[List.map_nil];rw[ay];exact .inl ⟨rfl,some a,cap,rfl,ag,λh=>by cases h⟩⟩
  .rw[dR]at a_;have get:∀i,i<len->∃sN y,w.cells? base (a.add (i*sz)) sz=some sN/\W y/\ay w (F0 w) (ec y) sN (λ_=>False):=by
    intro i aq;have:=a_ i aq;rw[List.getElem?_eq_getElem (by omega),Option.bind_eq_some_iff]at this;obtain⟨sN,a1,bc⟩:=this;obtain⟨y,fg,gd⟩:=h _ _ _ bc;exact⟨sN,y,a1,fg,gd⟩
   obtain⟨Vu,hy,aX,_,bk⟩:=get 0 (by omega);obtain⟨agq,di⟩:=MU aX;have FO:∃c,Vu[0]? =some c:=⟨_,List.getElem?_eq_getElem (by omega)⟩
   obtain⟨mr,FO⟩:=FO;have MV:=Vt (di 0 mr FO);have bY:(a.add (0*sz)).add 0=a:=by simp[Addr.add]
   rw[bY]at MV;obtain⟨b,o,spot⟩:=a;obtain⟨rM,MW⟩:=MV;simp only at rM MW;subst rM;have all:∀m,m<=len->∃(cr:List τ) (eA:ahF),cr.length=m/\(∀y∈cr,W y)/\eA.length=m*sz/\hk w b o eA/\bh w (F0 w) (cr.map ec) eA (λ_=>False):=by
    intro m;induction m with
    |zero=>intro _;exact⟨[],[],rfl,by simp,by simp,λaz c aC=>by simp at aC,by rw[List.map_nil,bh]⟩
    |succ m ih=>
     intro hm;obtain⟨cr,eA,cv,cK,eJ,cU,fq⟩:=ih (by omega);obtain⟨sN,y,a1,bc,bb⟩:=get m (by omega);obtain⟨fY,g6⟩:=MU a1;refine⟨cr++[y],eA++sN,by simp[cv],?_,by simp[eJ,fY,Nat.add_mul],?_,?_⟩
     .intro z b3;rcases List.mem_append.1 b3 with b3|b3
      .exact cK z b3
      .simp at b3;subst b3;exact bc
     .intro az c aC;by_cases ch:az<eA.length
      .rw[List.getElem?_append_left ch]at aC;exact cU az c aC
      .rw[List.getElem?_append_right (by omega)]at aC;have:=g6 _ c aC;rw[Addr.add_lit,Addr.add_lit]at this;rw[<-this];congr 2;omega
     .rw[List.map_append];refine bh.append fq ?_ (λ_ h=>h) (λ_ h=>h) (λ_ h=>h.elim);simp only[List.map_cons,List.map_nil];rw[bh];exact⟨sN,[],λ_=>False,λ_=>False,by simp,bb,by rw[bh],λ_ h=>h.elim,λ_ h=>h.elim,λ_ h=>h.elim⟩
   obtain⟨cr,eA,cv,cK,eJ,cU,fq⟩:=all len (Nat.le_refl _);refine⟨cr,⟨by rw[cv];exact Nat.le_trans af ag,cK⟩,?_⟩;rw[ay];refine .inr ⟨b,o,cap,eA,sz,by simp[cv],MW,by simp[cv,af],ag,?_,cU,fq⟩;intro d al;obtain⟨y,_,rfl⟩:=List.mem_map.1 al;exact hw y
def ends:Nat->ahG->Option Nat
 |o,[]=>some o
 |o,(nw,sz)::r=>if o=nw then ends (o+sz) r else none
def MX (w:World) (F:Nat->Prop) (cs:ahF):List (I×Nat×Nat)->Prop
 |[]=>True
 |(d,off,sz)::r=>ay w F d ((cs.drop off).take sz) (λ_=>False)/\MX w F cs r
theorem BG {F:Nat->Prop} {cs:ahF}:∀(l:List (I×Nat×Nat)) (o:Nat),ends o (l.map (·.2))=some cs.length->MX w F cs l->bh w F (l.map (·.1)) (cs.drop o) (λ_=>False):=by
 intro l;induction l with
 |nil=>intro o he _;simp[ends]at he;subst he;simp only[List.map_nil];rw[bh];simp
 |cons p l ih=>
  intro o he bS;obtain⟨d,off,sz⟩:=p;simp only[List.map_cons,ends]at he;split at he
  .rename_i e;subst e;obtain⟨f1,f2⟩:=bS;simp only[List.map_cons];rw[bh];refine⟨(cs.drop o).take sz,cs.drop (o+sz),λ_=>False,λ_=>False,?_,f1,ih _ he f2,λ_ h=>h.elim,λ_ h=>h.elim,λ_ h=>h.elim⟩;rw[<-List.drop_drop,List.take_append_drop]
  .cases he
theorem n9 {n T:Nat} {cs:ahF} {o:Option (DataW H×List MemPlace)} {τ:Type} {e:τ->I} {W:τ->Prop} (aV:lk enc P w base sp held T e W) (h:DataW.trod enc P w base sp held n T cs=o) (b_:o.isSome=true):
  ∃y,W y/\ay w (F0 w) (e y) cs (λ_=>False):=by
 obtain⟨x,rfl⟩:=Option.isSome_iff_exists.1 b_;exact aV _ _ _ h
theorem Vv {τ:Type} {T e:TypeId} {ec:τ->I} {W:List τ->Prop} {r:Reach} {j3:Nat} {v:Value} {d:DataW H} {ps:List MemPlace} (aZ:P.underlying T=some (.slice e)) (aV:lk enc P w base sp held T (λcr:List τ=>.slice (cr.map ec)) W)
  (pX:Value.okWide P w r j3 T v) (al:DataW.Trod enc P w base sp held T v d ps):∃cr,Arg w (.slice (cr.map ec)) v/\W cr:=by
 obtain⟨a,len,cap,rfl⟩:=WideShapes.okWide_slice aZ pX;obtain⟨fuel,bS⟩:=al;obtain⟨cr,af,ag⟩:=aV _ _ _ bS;refine⟨cr,⟨rfl,rfl,?_⟩,af⟩;simpa [Value.cells,ct,iy]using ag
theorem MY {τ:Type} {T:TypeId} {aG:Array Field} {es:τ->ahI} {W:τ->Prop} {r:Reach} {j3:Nat} {v:Value} {d:DataW H} {ps:List MemPlace} (aZ:P.underlying T=some (.struct aG)) (aV:lk enc P w base sp held T (λy=>.agg (es y)) W)
  (pX:Value.okWide P w r j3 T v) (al:DataW.Trod enc P w base sp held T v d ps):∃y,Arg w (.agg (es y)) v/\W y:=by
 obtain⟨cs,rfl,_⟩:=WideShapes.okWide_struct aZ pX;obtain⟨fuel,bS⟩:=al;obtain⟨y,af,ag⟩:=aV _ _ _ bS;refine⟨y,⟨rfl,⟨cs,rfl⟩,?_⟩,af⟩;simpa [Value.cells,ct,iy]using ag
end
theorem FP:(∀{α β:Type} (f:α->β) (l:List α),(l.map f).length=l.length)/\(∀{α:Type} (n:Nat) (a:α),(List.replicate n a).length=n)/\(∀{α:Type} (a:α) (l:List α),(a::l).length=l.length+1)/\(∀{α:Type},([]:List α).length=0)/\(∀{α:Type} (a b:List α),(a++b).length=a.length+b.length):=
 ⟨λ_ _=>List.length_map _,λ_ _=>List.length_replicate,λ_ _=>rfl,rfl,λ_ _=>List.length_append⟩
theorem MZ:(∀{α β:Type} (f:α->β) (l:List α) (i:Nat),(l.map f)[i]? =l[i]?.map f)/\(∀{α:Type} (a:α) (l:List α),(a::l)[0]? =some a)/\(∀{α:Type} (a:α) (l:List α) (i:Nat),(a::l)[i+1]? =l[i]?)/\
  (∀{α:Type} (a b:α) (l:List α),(a::l).set 0 b=b::l)/\(∀{α:Type} (a b:α) (l:List α) (n:Nat),(a::l).set (n+1) b=a::l.set n b)/\(∀{α:Type} (a:α) (l:List α) (n:Nat),(a::l).take (n+1)=a::l.take n)/\(∀{α:Type} (l:List α),l.take 0=[]):=
 ⟨λ_ _ _=>List.getElem?_map,λ_ _=>rfl,λ_ _ _=>rfl,λ_ _ _=>rfl,λ_ _ _ _=>rfl,λ_ _ _=>rfl,λ_=>rfl⟩
theorem M0:(∀{α β:Type} (f:α->β) (a:α),(some a).map f=some (f a))/\(∀{α β:Type} (f:α->β),(none:Option α).map f=none)/\(∀{α:Type} (a:α),(some a).isSome=true):=⟨λ_ _=>rfl,λ_=>rfl,λ_=>rfl⟩
theorem FQ:(∀{α β γ:Type} (g:β->γ) (f:α->β) (l:List α),(l.map f).map g=l.map (g∘f))/\(∀{α:Type} (l:List α),l++[]=l):=⟨λ_ _ _=>List.map_map,λl=>List.append_nil l⟩
theorem qT:(∀{α β:Type} (f:α->β) (a:α) (l:List α),(a::l).map f=f a::l.map f)/\(∀{α β:Type} (f:α->β),([]:List α).map f=[])/\(∀{α β:Type} (f:α->β) (a b:List α),(a++b).map f=a.map f++b.map f)/\
  (∀{α β:Type} (f:α->β) (l:List α) (i:Nat) (a:α),(l.set i a).map f=(l.map f).set i (f a))/\(∀{α β:Type} (f:α->β) (l:List α) (i:Nat),(l.take i).map f=(l.map f).take i)/\(∀{α β:Type} (f:α->β) (l:List α) (i:Nat),(l.drop i).map f=(l.map f).drop i):=
 ⟨λ_ _ _=>rfl,λ_=>rfl,λ_ _ _=>List.map_append,λ_ _ _ _=>List.map_set,λ_ _ _=>List.map_take,λ_ _ _=>List.map_drop⟩
def Vw:=PLift.up (ab @sW (ab @L8 (ab @FB (ab @Ma (ab @Mb (ab @U0 (ab @L7 (ab @U2 (ab @Mw (ab @Mx (ab @Mc (ab @Md (ab @FE (ab @Me (ab @Mf (ab @Mg (ab @My (ab @Mz (ab @MA (ab @MB (ab @MC (ab @MD (ab @Mh (ab @Mi (ab @Mj (ab @Mk (ab @Ml (ab @Mm (ab @Mn (ab @Mo (ab @Mp (ab @Mq (ab @Mu (ab @FI (ab @FL (ab @FJ (ab @MQ (ab @MR (ab @MS (ab @MT (ab @e_.eq_def (ab @loc.eq_def (ab @gZ.eq_def (ab @jL.eq_def (ab @ex.eq_def (ab @rD.eq_def (ab @fits.eq_def (ab @I.fU.eq_1 (ab @I.fU.eq_2 (ab @I.fU.eq_3 (ab @I.fU.eq_4 (ab @I.fU.eq_5 (ab @I.fU.eq_6 (ab @JN (ab @JO (ab @Bool.not_true (ab @Bool.not_false (ab @Bool.true_and (ab @Bool.and_true (ab @Bool.false_and (ab @Bool.true_or (ab @Bool.false_or (ab @Bool.and_self (ab @Bool.false_eq_true (ab @Bool.true_eq_false (ab @Bool.not_not (ab @true_and (ab @and_true (ab @and_self (ab @decide_true (ab @decide_false (ab @not_false_eq_true (ab @not_true_eq_false (ab @MM (ab @Nat.zero_add (ab @Nat.add_zero (ab @Nat.mul_one (ab @Nat.lt_add_one (ab @zero_lt_succ (ab @g7.eq_def (ab @mT.eq_def (ab @flat.eq_1 (ab @flat.eq_2 (ab @flat.eq_3 (ab @flat.eq_4 (ab @flat.eq_5 (ab @flat.eq_6 (ab @flat.eq_7 (ab @rp.eq_1 (ab @rp.eq_2 (ab @kT.eq_def (ab @FP (ab @MZ (ab @M0 (@FQ)))))))))))))))))))))))))))))))))))))))))))))))))))))))))))))))))))))))))))))))))))))))))))))))
def Vx:=PLift.up (ab @uI (ab @L8 (ab @FC (ab @Ma (ab @Mb (ab @U1 (ab @L7 (ab @U3 (ab @Mw (ab @Mx (ab @Mc (ab @Md (ab @FE (ab @Me (ab @Mf (ab @Mg (ab @My (ab @Mz (ab @MA (ab @MB (ab @MC (ab @MD (ab @Mh (ab @Mi (ab @Mj (ab @Mk (ab @Ml (ab @Mm (ab @Mn (ab @Mo (ab @Mp (ab @Mq (ab @Mu (ab @FI (ab @FL (ab @FJ (ab @MQ (ab @MR (ab @MS (ab @MT (ab @e_.eq_def (ab @loc.eq_def (ab @gZ.eq_def (ab @jL.eq_def (ab @ex.eq_def (ab @rD.eq_def (ab @fits.eq_def (ab @I.fU.eq_1 (ab @I.fU.eq_2 (ab @I.fU.eq_3 (ab @I.fU.eq_4 (ab @I.fU.eq_5 (ab @I.fU.eq_6 (ab @JN (ab @JO (ab @Bool.not_true (ab @Bool.not_false (ab @Bool.true_and (ab @Bool.and_true (ab @Bool.false_and (ab @Bool.true_or (ab @Bool.false_or (ab @Bool.and_self (ab @Bool.false_eq_true (ab @Bool.true_eq_false (ab @Bool.not_not (ab @true_and (ab @and_true (ab @and_self (ab @decide_true (ab @decide_false (ab @not_false_eq_true (ab @not_true_eq_false (ab @MM (ab @Nat.zero_add (ab @Nat.add_zero (ab @Nat.mul_one (ab @Nat.lt_add_one (ab @zero_lt_succ (ab @g7.eq_def (ab @mT.eq_def (ab @flat.eq_1 (ab @flat.eq_2 (ab @flat.eq_3 (ab @flat.eq_4 (ab @flat.eq_5 (ab @flat.eq_6 (ab @flat.eq_7 (ab @rp.eq_1 (ab @rp.eq_2 (ab @kT.eq_def (ab @FP (ab @MZ (ab @M0 (@FQ)))))))))))))))))))))))))))))))))))))))))))))))))))))))))))))))))))))))))))))))))))))))))))))))
def Vy:=PLift.up (ab @FI (ab @FL (ab @FJ (ab @lA.eq_1 (ab @Nat.zero_add (ab @Bool.not_true (ab @Bool.not_false (ab @Bool.true_and (ab @Bool.and_true (ab @Bool.false_and (ab @Bool.true_or (ab @Bool.false_or (ab @Bool.and_self (ab @Bool.false_eq_true (ab @Bool.true_eq_false (ab @Bool.not_not (ab @FP (ab @FQ (@qT)))))))))))))))))))
end Go.dD
