/- Part of a proof that a law returns true for every input. No condition. -/
import Derived.Test.YtngohoaiimbacabGreatDoorFwG
import Derived.ChangeArms
import Derived.WideShapes
namespace Go.c_
open Go.IntKind Nat Or
section
variable {H:Type} {enc:TypeId×Value->H} {P:Program} {w:World} {base:Nat} {sp:Nat->Bool} {held:Bool}
def jt {τ:Type} (enc:TypeId×Value->H) (P:Program) (w:World) (base:Nat) (sp:Nat->Bool) (held:Bool) (T:TypeId) (e:τ->I) (W:τ->Prop):Prop:=
 ∀(fuel:Nat) (cs:ahz) (x:DataW H×List MemPlace),DataW.trod enc P w base sp held fuel T cs=some x->∃y,W y/\au w (F0 w) (e y) cs (λ_=>False)
theorem TX {T:TypeId} {k:IntKind} (aY:P.underlying T=some (.int k)):jt enc P w base sp held T (λn=>.int k n) (λn=>(Lit.int k n).wf=true):=by
 intro fuel cs x h;obtain⟨n,rfl,_,hw⟩:=DataW.trod_int aY h;exact⟨n,hw,by rw[au]⟩
theorem TY {T:TypeId} (aY:P.underlying T=some (.int .i64)):jt enc P w base sp held T (λn=>.int .i64 n) (λn=> -9223372036854775808<=n/\n<=9223372036854775807):=by
 intro fuel cs x h;obtain⟨n,hw,aH⟩:=TX aY fuel cs x h;exact⟨n,wf_i64 hw,aH⟩
theorem TZ {T:TypeId} (aY:P.underlying T=some .string):jt enc P w base sp held T (λs=>.str s) (λs=>s.length<=9223372036854775807):=by
 intro fuel cs x h;obtain⟨s,rfl,_,U⟩:=DataW.trod_string aY h;exact⟨s.data.toList,U,by rw[au]⟩
theorem T0 {α β:Type} {f:α->Option β}:∀{l:List α} {r:List β},l.mapM f=some r->r.length=l.length/\∀(i:Nat) (a:α),l[i]? =some a->f a=r[i]? :=by
 intro l;induction l with
 |nil=>intro r h;simp at h;subst h;exact⟨rfl,λi a h=>by simp at h⟩
 |cons a l ih=>
  intro r h;simp only[List.mapM_cons,Option.bind_eq_bind,Option.bind_eq_some_iff]at h;obtain⟨b,R,gn,aH,he⟩:=h;have he:b::gn=r:=by simpa using he
  subst he;obtain⟨ab,ad⟩:=ih aH;refine⟨by simp[ab],λi x ar=>?_⟩;cases i with
  |zero=>simp at ar;subst ar;simpa using R
  |succ i=>simpa using ad i x (by simpa using ar)
theorem Md {a:Addr} {n:Nat} {cs:ahz} (h:w.cells? base a n=some cs):cs.length=n/\∀j c,cs[j]? =some c->w.cell? (a.add j)=some c:=by
 unfold World.cells? at h;split at h
 .obtain⟨ab,ad⟩:=T0 h;refine⟨by simpa using ab,λj c ai=>?_⟩;have bQ:j<n:=by
   have:=(List.getElem?_eq_some_iff.1 ai).1;rw[ab]at this;simpa using this
  rw[ad j j (by simp[bQ]),ai]
 .cases h
theorem T1 {a:Addr} {c:Value} (h:w.cell? a=some c):a.spot=none/\a.block<w.heap.size:=by
 unfold World.cell? at h;split at h
 .rename_i cs e fr R;split at h
  .cases h
  .rename_i U;refine⟨by simpa using U,?_⟩;exact(Array.getElem?_eq_some_iff.1 R).1
 .cases h
theorem rA {τ:Type} {T e:TypeId} {sz:Nat} {ec:τ->I} {W:τ->Prop} (aY:P.underlying T=some (.slice e)) (eJ:P.cellsOf e=sz) (EO:0<sz) (hw:∀y,(ec y).wd=sz) (h:jt enc P w base sp held e ec W):
  jt enc P w base sp held T (λbm:List τ=>.slice (bm.map ec)) (λbm:List τ=>bm.length<=9223372036854775807/\∀y∈bm,W y):=by
 intro fuel cs x ar;rcases DataW.trod_slice aY ar with⟨rfl,_⟩|⟨a,len,cap,elems,rest,n,_,rfl,_,_,ab,ad,aC,aW,_⟩
 .exact⟨[],⟨by simp,by simp⟩,by simp only[List.map_nil];rw[au];exact .inl ⟨rfl,none,0,rfl,zero_le _,λ_=>rfl⟩⟩
 .by_cases aV:len=0
  .subst aV;exact⟨[],⟨by simp,by simp⟩,by simp only[List.map_nil];rw[au];exact .inl ⟨rfl,some a,cap,rfl,ad,λh=>by cases h⟩⟩
  .rw[eJ]at aW;have get:∀i,i<len->∃nD y,w.cells? base (a.add (i*sz)) sz=some nD/\W y/\au w (F0 w) (ec y) nD (λ_=>False):=by
    intro i ak;have:=aW i ak;rw[List.getElem?_eq_getElem (by omega),Option.bind_eq_some_iff]at this;obtain⟨nD,aP,aT⟩:=this;obtain⟨y,eL,gT⟩:=h _ _ _ aT;exact⟨nD,y,aP,eL,gT⟩
   obtain⟨T2,fB,g1,_,g2⟩:=get 0 (by omega);obtain⟨af_,gh⟩:=Md g1;have EP:∃c,T2[0]? =some c:=⟨_,List.getElem?_eq_getElem (by omega)⟩
   obtain⟨c0,EP⟩:=EP;have Me:=T1 (gh 0 c0 EP);have bM:(a.add (0*sz)).add 0=a:=by simp[Addr.add]
   rw[bM]at Me;obtain⟨b,o,spot⟩:=a;obtain⟨qh,s8⟩:=Me;simp only at qh s8;subst qh;have all:∀m,m<=len->∃(bm:List τ) (eh:ahz),bm.length=m/\(∀y∈bm,W y)/\eh.length=m*sz/\hE w b o eh/\aZ w (F0 w) (bm.map ec) eh (λ_=>False):=by
    intro m;induction m with
    |zero=>intro _;exact⟨[],[],rfl,by simp,by simp,λj c ai=>by simp at ai,by rw[List.map_nil,aZ]⟩
    |succ m ih=>
     intro hm;obtain⟨bm,eh,bN,cc,eB,dB,e6⟩:=ih (by omega);obtain⟨nD,y,aP,aT,aR⟩:=get m (by omega);obtain⟨m1,m2⟩:=Md aP;refine⟨bm++[y],eh++nD,by simp[bN],?_,by simp[eB,m1,Nat.add_mul],?_,?_⟩
     .intro z bR;rcases List.mem_append.1 bR with bR|bR
      .exact cc z bR
      .simp at bR;subst bR;exact aT
     .intro j c ai;by_cases bQ:j<eh.length
      .rw[List.getElem?_append_left bQ]at ai;exact dB j c ai
      .rw[List.getElem?_append_right (by omega)]at ai;have:=m2 _ c ai;rw[Addr.add_lit,Addr.add_lit]at this;rw[<-this];congr 2;omega
     .rw[List.map_append];refine aZ.append e6 ?_ (λ_ h=>h) (λ_ h=>h) (λ_ h=>h.elim);simp only[List.map_cons,List.map_nil];rw[aZ];exact⟨nD,[],λ_=>False,λ_=>False,by simp,aR,by rw[aZ],λ_ h=>h.elim,λ_ h=>h.elim,λ_ h=>h.elim⟩
   obtain⟨bm,eh,bN,cc,eB,dB,e6⟩:=all len (Nat.le_refl _);refine⟨bm,⟨by rw[bN];exact Nat.le_trans ab ad,cc⟩,?_⟩;rw[au];refine .inr ⟨b,o,cap,eh,sz,by simp[bN],s8,by simp[bN,ab],ad,?_,dB,e6⟩;intro d ae;obtain⟨y,_,rfl⟩:=List.mem_map.1 ae;exact hw y
def ends:Nat->List (Nat×Nat)->Option Nat
 |o,[]=>some o
 |o,(mY,sz)::r=>if o=mY then ends (o+sz) r else none
def Mf (w:World) (F:Nat->Prop) (cs:ahz):List (I×Nat×Nat)->Prop
 |[]=>True
 |(d,off,sz)::r=>au w F d ((cs.drop off).take sz) (λ_=>False)/\Mf w F cs r
theorem uR {F:Nat->Prop} {cs:ahz}:∀(l:List (I×Nat×Nat)) (o:Nat),ends o (l.map (·.2))=some cs.length->Mf w F cs l->aZ w F (l.map (·.1)) (cs.drop o) (λ_=>False):=by
 intro l;induction l with
 |nil=>intro o he _;simp[ends]at he;subst he;simp only[List.map_nil];rw[aZ];simp
 |cons p l ih=>
  intro o he bd;obtain⟨d,off,sz⟩:=p;simp only[List.map_cons,ends]at he;split at he
  .rename_i e;subst e;obtain⟨f1,f2⟩:=bd;simp only[List.map_cons];rw[aZ];refine⟨(cs.drop o).take sz,cs.drop (o+sz),λ_=>False,λ_=>False,?_,f1,ih _ he f2,λ_ h=>h.elim,λ_ h=>h.elim,λ_ h=>h.elim⟩;rw[<-List.drop_drop,List.take_append_drop]
  .cases he
theorem kH {n T:Nat} {cs:ahz} {o:Option (DataW H×List MemPlace)} {τ:Type} {e:τ->I} {W:τ->Prop} (aH:jt enc P w base sp held T e W) (h:DataW.trod enc P w base sp held n T cs=o) (b1:o.isSome=true):
  ∃y,W y/\au w (F0 w) (e y) cs (λ_=>False):=by
 obtain⟨x,rfl⟩:=Option.isSome_iff_exists.1 b1;exact aH _ _ _ h
theorem T3 {τ:Type} {T:TypeId} {az:Array Field} {es:τ->ahB} {W:τ->Prop} {r:Reach} {h5:Nat} {v:Value} {d:DataW H} {ps:List MemPlace} (aY:P.underlying T=some (.struct az)) (aH:jt enc P w base sp held T (λy=>.agg (es y)) W)
  (pn:Value.okWide P w r h5 T v) (ae:DataW.Trod enc P w base sp held T v d ps):∃y,Arg w (.agg (es y)) v/\W y:=by
 obtain⟨cs,rfl,_⟩:=WideShapes.okWide_struct aY pn;obtain⟨fuel,bd⟩:=ae;obtain⟨y,ab,ad⟩:=aH _ _ _ bd;refine⟨y,⟨rfl,⟨cs,rfl⟩,?_⟩,ab⟩;simpa [Value.cells,b8,hs]using ad
end
theorem ER:(∀{α β:Type} (f:α->β) (l:List α),(l.map f).length=l.length)/\(∀{α:Type} (n:Nat) (a:α),(List.replicate n a).length=n)/\(∀{α:Type} (a:α) (l:List α),(a::l).length=l.length+1)/\(∀{α:Type},([]:List α).length=0)/\(∀{α:Type} (a b:List α),(a++b).length=a.length+b.length):=
 ⟨λ_ _=>List.length_map _,λ_ _=>List.length_replicate,λ_ _=>rfl,rfl,λ_ _=>List.length_append⟩
theorem Mg:(∀{α β:Type} (f:α->β) (l:List α) (i:Nat),(l.map f)[i]? =l[i]?.map f)/\(∀{α:Type} (a:α) (l:List α),(a::l)[0]? =some a)/\(∀{α:Type} (a:α) (l:List α) (i:Nat),(a::l)[i+1]? =l[i]?)/\
  (∀{α:Type} (a b:α) (l:List α),(a::l).set 0 b=b::l)/\(∀{α:Type} (a b:α) (l:List α) (n:Nat),(a::l).set (n+1) b=a::l.set n b)/\(∀{α:Type} (a:α) (l:List α) (n:Nat),(a::l).take (n+1)=a::l.take n)/\(∀{α:Type} (l:List α),l.take 0=[]):=
 ⟨λ_ _ _=>List.getElem?_map,λ_ _=>rfl,λ_ _ _=>rfl,λ_ _ _=>rfl,λ_ _ _ _=>rfl,λ_ _ _=>rfl,λ_=>rfl⟩
theorem Mh:(∀{α β:Type} (f:α->β) (a:α),(some a).map f=some (f a))/\(∀{α β:Type} (f:α->β),(none:Option α).map f=none)/\(∀{α:Type} (a:α),(some a).isSome=true):=⟨λ_ _=>rfl,λ_=>rfl,λ_=>rfl⟩
theorem ES:(∀{α β γ:Type} (g:β->γ) (f:α->β) (l:List α),(l.map f).map g=l.map (g∘f))/\(∀{α:Type} (l:List α),l++[]=l):=⟨λ_ _ _=>List.map_map,λl=>List.append_nil l⟩
theorem qp:(∀{α β:Type} (f:α->β) (a:α) (l:List α),(a::l).map f=f a::l.map f)/\(∀{α β:Type} (f:α->β),([]:List α).map f=[])/\(∀{α β:Type} (f:α->β) (a b:List α),(a++b).map f=a.map f++b.map f)/\
  (∀{α β:Type} (f:α->β) (l:List α) (i:Nat) (a:α),(l.set i a).map f=(l.map f).set i (f a))/\(∀{α β:Type} (f:α->β) (l:List α) (i:Nat),(l.take i).map f=(l.map f).take i)/\(∀{α β:Type} (f:α->β) (l:List α) (i:Nat),(l.drop i).map f=(l.map f).drop i):=
 ⟨λ_ _ _=>rfl,λ_=>rfl,λ_ _ _=>List.map_append,λ_ _ _ _=>List.map_set,λ_ _ _=>List.map_take,λ_ _ _=>List.map_drop⟩
def T4:=PLift.up (af @EE (af @Ll (af @Lm (af @Lr (af @Ls (af @TA (af @Lj (af @TC (af @LP (af @LQ (af @Lt (af @Lu (af @EF (af @Lv (af @Lw (af @Lx (af @LR (af @LS (af @LU (af @LV (af @LW (af @LX (af @Ly (af @Lz (af @LA (af @LB (af @LC (af @LD (af @LF (af @LG (af @LH (af @LI (af @LM (af @EJ (af @EL (af @EK (af @L7 (af @L8 (af @L9 (af @L_ (af @e3.eq_def (af @loc.eq_def (af @gW.eq_def (af @kz.eq_def (af @ex.eq_def (af @qc.eq_def (af @fits.eq_def (af @I.fm.eq_1 (af @I.fm.eq_2 (af @I.fm.eq_3 (af @I.fm.eq_4 (af @I.fm.eq_5 (af @I.fm.eq_6 (af @IY (af @IZ (af @Bool.not_true (af @Bool.not_false (af @Bool.true_and (af @Bool.and_true (af @Bool.false_and (af @Bool.true_or (af @Bool.false_or (af @Bool.and_self (af @Bool.false_eq_true (af @Bool.true_eq_false (af @Bool.not_not (af @true_and (af @and_true (af @and_self (af @decide_true (af @decide_false (af @not_false_eq_true (af @not_true_eq_false (af @L3 (af @Nat.zero_add (af @Nat.add_zero (af @Nat.mul_one (af @Nat.lt_add_one (af @zero_lt_succ (af @ht.eq_def (af @ka.eq_def (af @flat.eq_1 (af @flat.eq_2 (af @flat.eq_3 (af @flat.eq_4 (af @flat.eq_5 (af @flat.eq_6 (af @flat.eq_7 (af @p8.eq_1 (af @p8.eq_2 (af @iA.eq_def (af @ER (af @Mg (af @Mh (@ES)))))))))))))))))))))))))))))))))))))))))))))))))))))))))))))))))))))))))))))))))))))))))))))))
def xq:=PLift.up (af @Lk (af @Ll (af @Ln (af @Lr (af @Ls (af @TB (af @Lj (af @TD (af @LP (af @LQ (af @Lt (af @Lu (af @EF (af @Lv (af @Lw (af @Lx (af @LR (af @LS (af @LU (af @LV (af @LW (af @LX (af @Ly (af @Lz (af @LA (af @LB (af @LC (af @LD (af @LF (af @LG (af @LH (af @LI (af @LM (af @EJ (af @EL (af @EK (af @L7 (af @L8 (af @L9 (af @L_ (af @e3.eq_def (af @loc.eq_def (af @gW.eq_def (af @kz.eq_def (af @ex.eq_def (af @qc.eq_def (af @fits.eq_def (af @I.fm.eq_1 (af @I.fm.eq_2 (af @I.fm.eq_3 (af @I.fm.eq_4 (af @I.fm.eq_5 (af @I.fm.eq_6 (af @IY (af @IZ (af @Bool.not_true (af @Bool.not_false (af @Bool.true_and (af @Bool.and_true (af @Bool.false_and (af @Bool.true_or (af @Bool.false_or (af @Bool.and_self (af @Bool.false_eq_true (af @Bool.true_eq_false (af @Bool.not_not (af @true_and (af @and_true (af @and_self (af @decide_true (af @decide_false (af @not_false_eq_true (af @not_true_eq_false (af @L3 (af @Nat.zero_add (af @Nat.add_zero (af @Nat.mul_one (af @Nat.lt_add_one (af @zero_lt_succ (af @ht.eq_def (af @ka.eq_def (af @flat.eq_1 (af @flat.eq_2 (af @flat.eq_3 (af @flat.eq_4 (af @flat.eq_5 (af @flat.eq_6 (af @flat.eq_7 (af @p8.eq_1 (af @p8.eq_2 (af @iA.eq_def (af @ER (af @Mg (af @Mh (@ES)))))))))))))))))))))))))))))))))))))))))))))))))))))))))))))))))))))))))))))))))))))))))))))))
def T5:=PLift.up (af @EJ (af @EL (af @EK (af @kU.eq_1 (af @Nat.zero_add (af @Bool.not_true (af @Bool.not_false (af @Bool.true_and (af @Bool.and_true (af @Bool.false_and (af @Bool.true_or (af @Bool.false_or (af @Bool.and_self (af @Bool.false_eq_true (af @Bool.true_eq_false (af @Bool.not_not (af @ER (af @ES (@qp)))))))))))))))))))
end Go.c_
