/- Part of a proof that a law returns true for every input. No condition. -/
import Derived.Test.YtklcmlnabkfneaaGreatFwG
import Derived.ChangeArms
import Derived.WideShapes
namespace Go.de
open Go.IntKind Nat Or
section
variable {H:Type} {enc:TypeId×Value->H} {P:Program} {w:World} {base:Nat} {sp:Nat->Bool} {held:Bool}
def iR {τ:Type} (enc:TypeId×Value->H) (P:Program) (w:World) (base:Nat) (sp:Nat->Bool) (held:Bool) (T:TypeId) (e:τ->I) (W:τ->Prop):Prop:=
 ∀(fuel:Nat) (cs:alU) (x:DataW H×List MemPlace),DataW.trod enc P w base sp held fuel T cs=some x->∃y,W y/\ar w (F0 w) (e y) cs (λ_=>False)
theorem VE {T:TypeId} {k:IntKind} (a8:P.underlying T=some (.int k)):iR enc P w base sp held T (λn=>.int k n) (λn=>(Lit.int k n).wf=true):=by
 intro fuel cs x h;obtain⟨n,rfl,_,hw⟩:=DataW.trod_int a8 h;exact⟨n,hw,by rw[ar]⟩
theorem VF {T:TypeId} (a8:P.underlying T=some (.int .i64)):iR enc P w base sp held T (λn=>.int .i64 n) (λn=> -9223372036854775808<=n/\n<=9223372036854775807):=by
 intro fuel cs x h;obtain⟨n,hw,aM⟩:=VE a8 fuel cs x h;exact⟨n,wf_i64 hw,aM⟩
theorem VG {T:TypeId} (a8:P.underlying T=some .string):iR enc P w base sp held T (λs=>.str s) (λs=>s.length<=9223372036854775807):=by
 intro fuel cs x h;obtain⟨s,rfl,_,ad⟩:=DataW.trod_string a8 h;exact⟨s.data.toList,ad,by rw[ar]⟩
theorem VH {α β:Type} {f:α->Option β}:∀{l:List α} {r:List β},l.mapM f=some r->r.length=l.length/\∀(i:Nat) (a:α),l[i]? =some a->f a=r[i]? :=by
 intro l;induction l with
 |nil=>intro r h;simp at h;subst h;exact⟨rfl,λi a h=>by simp at h⟩
 |cons a l ih=>
  intro r h;simp only[List.mapM_cons,Option.bind_eq_bind,Option.bind_eq_some_iff]at h;obtain⟨b,R,gA,aM,he⟩:=h;have he:b::gA=r:=by simpa using he
  subst he;obtain⟨ab,ae⟩:=ih aM;refine⟨by simp[ab],λi x au=>?_⟩;cases i with
  |zero=>simp at au;subst au;simpa using R
  |succ i=>simpa using ae i x (by simpa using au)
theorem Nz {a:Addr} {n:Nat} {cs:alU} (h:w.cells? base a n=some cs):cs.length=n/\∀j c,cs[j]? =some c->w.cell? (a.add j)=some c:=by
 unfold World.cells? at h;split at h
 .obtain⟨ab,ae⟩:=VH h;refine⟨by simpa using ab,λj c an=>?_⟩;have bm:j<n:=by
   have:=(List.getElem?_eq_some_iff.1 an).1;rw[ab]at this;simpa using this
  rw[ae j j (by simp[bm]),an]
 .cases h
theorem VI {a:Addr} {c:Value} (h:w.cell? a=some c):a.spot=none/\a.block<w.heap.size:=by
 unfold World.cell? at h;split at h
 .rename_i cs e fr R;split at h
  .cases h
  .rename_i ad;refine⟨by simpa using ad,?_⟩;exact(Array.getElem?_eq_some_iff.1 R).1
 .cases h
theorem q4 {τ:Type} {T e:TypeId} {sz:Nat} {ec:τ->I} {W:τ->Prop} (a8:P.underlying T=some (.slice e)) (ea:P.cellsOf e=sz) (VJ:0<sz) (hw:∀y,(ec y).wd=sz) (h:iR enc P w base sp held e ec W):
  iR enc P w base sp held T (λys:List τ=>.slice (ys.map ec)) (λys:List τ=>ys.length<=9223372036854775807/\∀y∈ys,W y):=by
 intro fuel cs x au;rcases DataW.trod_slice a8 au with⟨rfl,_⟩|⟨a,len,cap,elems,rest,n,_,rfl,_,_,ab,ae,az,a6,_⟩
 .exact⟨[],⟨by simp,by simp⟩,by simp only[List.map_nil];rw[ar];exact .inl ⟨rfl,none,0,rfl,zero_le _,λ_=>rfl⟩⟩
 .by_cases aX:len=0
  .subst aX;exact⟨[],⟨by simp,by simp⟩,by simp only[List.map_nil];rw[ar];exact .inl ⟨rfl,some a,cap,rfl,ae,λh=>by cases h⟩⟩
  .rw[ea]at a6;have get:∀i,i<len->∃n5 y,w.cells? base (a.add (i*sz)) sz=some n5/\W y/\ar w (F0 w) (ec y) n5 (λ_=>False):=by
    intro i ao;have:=a6 i ao;rw[List.getElem?_eq_getElem (by omega),Option.bind_eq_some_iff]at this;obtain⟨n5,aR,aV⟩:=this;obtain⟨y,eo,gu⟩:=h _ _ _ aV;exact⟨n5,y,aR,eo,gu⟩
   obtain⟨VK,fg,g1,_,g2⟩:=get 0 (by omega);obtain⟨VL,eV⟩:=Nz g1;have F1:∃c,VK[0]? =some c:=⟨_,List.getElem?_eq_getElem (by omega)⟩
   obtain⟨ni,F1⟩:=F1;have NA:=VI (eV 0 ni F1);have cg:(a.add (0*sz)).add 0=a:=by simp[Addr.add]
   rw[cg]at NA;obtain⟨b,o,spot⟩:=a;obtain⟨qX,p9⟩:=NA;simp only at qX p9;subst qX;have all:∀m,m<=len->∃(ys:List τ) (eA:alU),ys.length=m/\(∀y∈ys,W y)/\eA.length=m*sz/\Rd w b o eA/\a1 w (F0 w) (ys.map ec) eA (λ_=>False):=by
    intro m;induction m with
    |zero=>intro _;exact⟨[],[],rfl,by simp,by simp,λj c an=>by simp at an,by rw[List.map_nil,a1]⟩
    |succ m ih=>
     intro hm;obtain⟨ys,eA,b3,cc,eT,dL,fp⟩:=ih (by omega);obtain⟨n5,y,aR,aV,aW⟩:=get m (by omega);obtain⟨m1,m2⟩:=Nz aR;refine⟨ys++[y],eA++n5,by simp[b3],?_,by simp[eT,m1,Nat.add_mul],?_,?_⟩
     .intro z bZ;rcases List.mem_append.1 bZ with bZ|bZ
      .exact cc z bZ
      .simp at bZ;subst bZ;exact aV
     .intro j c an;by_cases bm:j<eA.length
      .rw[List.getElem?_append_left bm]at an;exact dL j c an
      .rw[List.getElem?_append_right (by omega)]at an;have:=m2 _ c an;rw[Addr.add_lit,Addr.add_lit]at this;rw[<-this];congr 2;omega
     .rw[List.map_append];refine a1.append fp ?_ (λ_ h=>h) (λ_ h=>h) (λ_ h=>h.elim);simp only[List.map_cons,List.map_nil];rw[a1];exact⟨n5,[],λ_=>False,λ_=>False,by simp,aW,by rw[a1],λ_ h=>h.elim,λ_ h=>h.elim,λ_ h=>h.elim⟩
   obtain⟨ys,eA,b3,cc,eT,dL,fp⟩:=all len (Nat.le_refl _);refine⟨ys,⟨by rw[b3];exact Nat.le_trans ab ae,cc⟩,?_⟩;rw[ar];refine .inr ⟨b,o,cap,eA,sz,by simp[b3],p9,by simp[b3,ab],ae,?_,dL,fp⟩;intro d ai;obtain⟨y,_,rfl⟩:=List.mem_map.1 ai;exact hw y
def ends:Nat->List (Nat×Nat)->Option Nat
 |o,[]=>some o
 |o,(mh,sz)::r=>if o=mh then ends (o+sz) r else none
def NB (w:World) (F:Nat->Prop) (cs:alU):List (I×Nat×Nat)->Prop
 |[]=>True
 |(d,off,sz)::r=>ar w F d ((cs.drop off).take sz) (λ_=>False)/\NB w F cs r
theorem tF {F:Nat->Prop} {cs:alU}:∀(l:List (I×Nat×Nat)) (o:Nat),ends o (l.map (·.2))=some cs.length->NB w F cs l->a1 w F (l.map (·.1)) (cs.drop o) (λ_=>False):=by
 intro l;induction l with
 |nil=>intro o he _;simp[ends]at he;subst he;simp only[List.map_nil];rw[a1];simp
 |cons p l ih=>
  intro o he bo;obtain⟨d,off,sz⟩:=p;simp only[List.map_cons,ends]at he;split at he
  .rename_i e;subst e;obtain⟨f1,f2⟩:=bo;simp only[List.map_cons];rw[a1];refine⟨(cs.drop o).take sz,cs.drop (o+sz),λ_=>False,λ_=>False,?_,f1,ih _ he f2,λ_ h=>h.elim,λ_ h=>h.elim,λ_ h=>h.elim⟩;rw[<-List.drop_drop,List.take_append_drop]
  .cases he
theorem jZ {n T:Nat} {cs:alU} {o:Option (DataW H×List MemPlace)} {τ:Type} {e:τ->I} {W:τ->Prop} (aM:iR enc P w base sp held T e W) (h:DataW.trod enc P w base sp held n T cs=o) (bE:o.isSome=true):
  ∃y,W y/\ar w (F0 w) (e y) cs (λ_=>False):=by
 obtain⟨x,rfl⟩:=Option.isSome_iff_exists.1 bE;exact aM _ _ _ h
theorem VM {τ:Type} {T e:TypeId} {ec:τ->I} {W:List τ->Prop} {r:Reach} {jy:Nat} {v:Value} {d:DataW H} {ps:List MemPlace} (a8:P.underlying T=some (.slice e)) (aM:iR enc P w base sp held T (λys:List τ=>.slice (ys.map ec)) W)
  (p2:Value.okWide P w r jy T v) (ai:DataW.Trod enc P w base sp held T v d ps):∃ys,Arg w (.slice (ys.map ec)) v/\W ys:=by
 obtain⟨a,len,cap,rfl⟩:=WideShapes.okWide_slice a8 p2;obtain⟨fuel,bo⟩:=ai;obtain⟨ys,ab,ae⟩:=aM _ _ _ bo;refine⟨ys,⟨rfl,rfl,?_⟩,ab⟩;simpa [Value.cells,cj,iu]using ae
theorem VN {τ:Type} {T:TypeId} {aE:Array Field} {es:τ->alW} {W:τ->Prop} {r:Reach} {jy:Nat} {v:Value} {d:DataW H} {ps:List MemPlace} (a8:P.underlying T=some (.struct aE)) (aM:iR enc P w base sp held T (λy=>.agg (es y)) W)
  (p2:Value.okWide P w r jy T v) (ai:DataW.Trod enc P w base sp held T v d ps):∃y,Arg w (.agg (es y)) v/\W y:=by
 obtain⟨cs,rfl,_⟩:=WideShapes.okWide_struct a8 p2;obtain⟨fuel,bo⟩:=ai;obtain⟨y,ab,ae⟩:=aM _ _ _ bo;refine⟨y,⟨rfl,⟨cs,rfl⟩,?_⟩,ab⟩;simpa [Value.cells,cj,iu]using ae
end
theorem F2:(∀{α β:Type} (f:α->β) (l:List α),(l.map f).length=l.length)/\(∀{α:Type} (n:Nat) (a:α),(List.replicate n a).length=n)/\(∀{α:Type} (a:α) (l:List α),(a::l).length=l.length+1)/\(∀{α:Type},([]:List α).length=0)/\(∀{α:Type} (a b:List α),(a++b).length=a.length+b.length):=
 ⟨λ_ _=>List.length_map _,λ_ _=>List.length_replicate,λ_ _=>rfl,rfl,λ_ _=>List.length_append⟩
theorem NC:(∀{α β:Type} (f:α->β) (l:List α) (i:Nat),(l.map f)[i]? =l[i]?.map f)/\(∀{α:Type} (a:α) (l:List α),(a::l)[0]? =some a)/\(∀{α:Type} (a:α) (l:List α) (i:Nat),(a::l)[i+1]? =l[i]?)/\
  (∀{α:Type} (a b:α) (l:List α),(a::l).set 0 b=b::l)/\(∀{α:Type} (a b:α) (l:List α) (n:Nat),(a::l).set (n+1) b=a::l.set n b)/\(∀{α:Type} (a:α) (l:List α) (n:Nat),(a::l).take (n+1)=a::l.take n)/\(∀{α:Type} (l:List α),l.take 0=[]):=
 ⟨λ_ _ _=>List.getElem?_map,λ_ _=>rfl,λ_ _ _=>rfl,λ_ _ _=>rfl,λ_ _ _ _=>rfl,λ_ _ _=>rfl,λ_=>rfl⟩
theorem ND:(∀{α β:Type} (f:α->β) (a:α),(some a).map f=some (f a))/\(∀{α β:Type} (f:α->β),(none:Option α).map f=none)/\(∀{α:Type} (a:α),(some a).isSome=true):=⟨λ_ _=>rfl,λ_=>rfl,λ_=>rfl⟩
theorem F3:(∀{α β γ:Type} (g:β->γ) (f:α->β) (l:List α),(l.map f).map g=l.map (g∘f))/\(∀{α:Type} (l:List α),l++[]=l):=⟨λ_ _ _=>List.map_map,λl=>List.append_nil l⟩
theorem oZ:(∀{α β:Type} (f:α->β) (a:α) (l:List α),(a::l).map f=f a::l.map f)/\(∀{α β:Type} (f:α->β),([]:List α).map f=[])/\(∀{α β:Type} (f:α->β) (a b:List α),(a++b).map f=a.map f++b.map f)/\
  (∀{α β:Type} (f:α->β) (l:List α) (i:Nat) (a:α),(l.set i a).map f=(l.map f).set i (f a))/\(∀{α β:Type} (f:α->β) (l:List α) (i:Nat),(l.take i).map f=(l.map f).take i)/\(∀{α β:Type} (f:α->β) (l:List α) (i:Nat),(l.drop i).map f=(l.map f).drop i):=
 ⟨λ_ _ _=>rfl,λ_=>rfl,λ_ _ _=>List.map_append,λ_ _ _ _=>List.map_set,λ_ _ _=>List.map_take,λ_ _ _=>List.map_drop⟩
def VO:=PLift.up (af @FQ (af @MK (af @Vb (af @MN (af @MO (af @Vd (af @MI (af @Vf (af @M_ (af @Na (af @MP (af @MQ (af @FR (af @MR (af @MS (af @MT (af @Nb (af @Nc (af @Nd (af @Nf (af @Ng (af @Nh (af @MU (af @MV (af @MW (af @MX (af @MY (af @MZ (af @M0 (af @M1 (af @M3 (af @M4 (af @M8 (af @FW (af @FY (af @FX (af @Nv (af @Nw (af @Nx (af @Ny (af @fk.eq_def (af @loc.eq_def (af @ho.eq_def (af @kK.eq_def (af @ex.eq_def (af @qR.eq_def (af @fits.eq_def (af @I.fD.eq_1 (af @I.fD.eq_2 (af @I.fD.eq_3 (af @I.fD.eq_4 (af @I.fD.eq_5 (af @I.fD.eq_6 (af @Kn (af @Ko (af @Bool.not_true (af @Bool.not_false (af @Bool.true_and (af @Bool.and_true (af @Bool.false_and (af @Bool.true_or (af @Bool.false_or (af @Bool.and_self (af @Bool.false_eq_true (af @Bool.true_eq_false (af @Bool.not_not (af @true_and (af @and_true (af @and_self (af @decide_true (af @decide_false (af @not_false_eq_true (af @not_true_eq_false (af @Nr (af @Nat.zero_add (af @Nat.add_zero (af @Nat.mul_one (af @Nat.lt_add_one (af @zero_lt_succ (af @iw.eq_def (af @kq.eq_def (af @flat.eq_1 (af @flat.eq_2 (af @flat.eq_3 (af @flat.eq_4 (af @flat.eq_5 (af @flat.eq_6 (af @flat.eq_7 (af @qL.eq_1 (af @qL.eq_2 (af @iV.eq_def (af @F2 (af @NC (af @ND (@F3)))))))))))))))))))))))))))))))))))))))))))))))))))))))))))))))))))))))))))))))))))))))))))))))
def VP:=PLift.up (af @MJ (af @MK (af @Vc (af @MN (af @MO (af @Ve (af @MI (af @Vg (af @M_ (af @Na (af @MP (af @MQ (af @FR (af @MR (af @MS (af @MT (af @Nb (af @Nc (af @Nd (af @Nf (af @Ng (af @Nh (af @MU (af @MV (af @MW (af @MX (af @MY (af @MZ (af @M0 (af @M1 (af @M3 (af @M4 (af @M8 (af @FW (af @FY (af @FX (af @Nv (af @Nw (af @Nx (af @Ny (af @fk.eq_def (af @loc.eq_def (af @ho.eq_def (af @kK.eq_def (af @ex.eq_def (af @qR.eq_def (af @fits.eq_def (af @I.fD.eq_1 (af @I.fD.eq_2 (af @I.fD.eq_3 (af @I.fD.eq_4 (af @I.fD.eq_5 (af @I.fD.eq_6 (af @Kn (af @Ko (af @Bool.not_true (af @Bool.not_false (af @Bool.true_and (af @Bool.and_true (af @Bool.false_and (af @Bool.true_or (af @Bool.false_or (af @Bool.and_self (af @Bool.false_eq_true (af @Bool.true_eq_false (af @Bool.not_not (af @true_and (af @and_true (af @and_self (af @decide_true (af @decide_false (af @not_false_eq_true (af @not_true_eq_false (af @Nr (af @Nat.zero_add (af @Nat.add_zero (af @Nat.mul_one (af @Nat.lt_add_one (af @zero_lt_succ (af @iw.eq_def (af @kq.eq_def (af @flat.eq_1 (af @flat.eq_2 (af @flat.eq_3 (af @flat.eq_4 (af @flat.eq_5 (af @flat.eq_6 (af @flat.eq_7 (af @qL.eq_1 (af @qL.eq_2 (af @iV.eq_def (af @F2 (af @NC (af @ND (@F3)))))))))))))))))))))))))))))))))))))))))))))))))))))))))))))))))))))))))))))))))))))))))))))))
def VQ:=PLift.up (af @FW (af @FY (af @FX (af @k6.eq_1 (af @Nat.zero_add (af @Bool.not_true (af @Bool.not_false (af @Bool.true_and (af @Bool.and_true (af @Bool.false_and (af @Bool.true_or (af @Bool.false_or (af @Bool.and_self (af @Bool.false_eq_true (af @Bool.true_eq_false (af @Bool.not_not (af @F2 (af @F3 (@oZ)))))))))))))))))))
end Go.de
