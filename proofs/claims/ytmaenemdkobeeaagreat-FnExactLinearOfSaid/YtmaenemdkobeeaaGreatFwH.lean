/- Part of a proof that a law returns true for every input. No condition. -/
import Derived.Test.YtmaenemdkobeeaaGreatFwG
import Derived.ChangeArms
import Derived.WideShapes
namespace Go.ek
open Go.IntKind Nat Or
section
variable {H:Type} {enc:TypeId×Value->H} {P:Program} {w:World} {base:Nat} {sp:Nat->Bool} {held:Bool}
def kE {τ:Type} (enc:TypeId×Value->H) (P:Program) (w:World) (base:Nat) (sp:Nat->Bool) (held:Bool) (T:TypeId) (e:τ->J) (W:τ->Prop):Prop:=
 ∀(fuel:Nat) (cs:arK) (x:DataW H×List MemPlace),DataW.trod enc P w base sp held fuel T cs=some x->∃y,W y/\aD w (F0 w) (e y) cs (λ_=>False)
theorem aaP {T:TypeId} {k:IntKind} (bc:P.underlying T=some (.int k)):kE enc P w base sp held T (λn=>.int k n) (λn=>(Lit.int k n).wf=true):=by
 intro fuel cs x h;obtain⟨n,rfl,_,hw⟩:=DataW.trod_int bc h;exact⟨n,hw,by rw[aD]⟩
theorem aaQ {T:TypeId} (bc:P.underlying T=some (.int .i64)):kE enc P w base sp held T (λn=>.int .i64 n) (λn=> -9223372036854775808<=n/\n<=9223372036854775807):=by
 intro fuel cs x h;obtain⟨n,hw,a4⟩:=aaP bc fuel cs x h;exact⟨n,wf_i64 hw,a4⟩
theorem aaR {T:TypeId} (bc:P.underlying T=some .string):kE enc P w base sp held T (λs=>.str s) (λs=>s.length<=9223372036854775807):=by
 intro fuel cs x h;obtain⟨s,rfl,_,ad⟩:=DataW.trod_string bc h;exact⟨s.data.toList,ad,by rw[aD]⟩
theorem aaS {α β:Type} {f:α->Option β}:∀{l:List α} {r:List β},l.mapM f=some r->r.length=l.length/\∀(i:Nat) (a:α),l[i]? =some a->f a=r[i]? :=by
 intro l;induction l with
 |nil=>intro r h;simp at h;subst h;exact⟨rfl,λi a h=>by simp at h⟩
 |cons a l ih=>
  intro r h;simp only[List.mapM_cons,Option.bind_eq_bind,Option.bind_eq_some_iff]at h;obtain⟨b,ab,hE,a4,he⟩:=h;have he:b::hE=r:=by simpa using he
  subst he;obtain⟨ae,ag⟩:=ih a4;refine⟨by simp[ae],λi x ay=>?_⟩;cases i with
  |zero=>simp at ay;subst ay;simpa using ab
  |succ i=>simpa using ag i x (by simpa using ay)
theorem SA {a:Addr} {n:Nat} {cs:arK} (h:w.cells? base a n=some cs):cs.length=n/\∀j c,cs[j]? =some c->w.cell? (a.add j)=some c:=by
 unfold World.cells? at h;split at h
 .obtain⟨ae,ag⟩:=aaS h;refine⟨by simpa using ae,λj c ax=>?_⟩;have bP:j<n:=by
   have:=(List.getElem?_eq_some_iff.1 ax).1;rw[ae]at this;simpa using this
  rw[ag j j (by simp[bP]),ax]
 .cases h
theorem aaT {a:Addr} {c:Value} (h:w.cell? a=some c):a.spot=none/\a.block<w.heap.size:=by
 unfold World.cell? at h;split at h
 .rename_i cs e fr ab;split at h
  .cases h
  .rename_i ad;refine⟨by simpa using ad,?_⟩;exact(Array.getElem?_eq_some_iff.1 ab).1
 .cases h
theorem u_ {τ:Type} {T e:TypeId} {sz:Nat} {ec:τ->J} {W:τ->Prop} (bc:P.underlying T=some (.slice e)) (e4:P.cellsOf e=sz) (apG:0<sz) (hw:∀y,(ec y).wd=sz) (h:kE enc P w base sp held e ec W):
  kE enc P w base sp held T (λc7:List τ=>.slice (c7.map ec)) (λc7:List τ=>c7.length<=9223372036854775807/\∀y∈c7,W y):=by
 intro fuel cs x ay;rcases DataW.trod_slice bc ay with⟨rfl,_⟩|⟨a,len,cap,elems,rest,n,_,rfl,_,_,ae,ag,aK,a3,_⟩
 .exact⟨[],⟨by simp,by simp⟩,by simp only[List.map_nil];rw[aD];exact .inl ⟨rfl,none,0,rfl,zero_le _,λ_=>rfl⟩⟩
 .by_cases a5:len=0
  .subst a5;exact⟨[],⟨by simp,by simp⟩,by simp only[List.map_nil];rw[aD];exact .inl ⟨rfl,some a,cap,rfl,ag,λh=>by cases h⟩⟩
  .rw[e4]at a3;have get:∀i,i<len->∃qf y,w.cells? base (a.add (i*sz)) sz=some qf/\W y/\aD w (F0 w) (ec y) qf (λ_=>False):=by
    intro i al;have:=a3 i al;rw[List.getElem?_eq_getElem (by omega),Option.bind_eq_some_iff]at this;obtain⟨qf,aW,a8⟩:=this;obtain⟨y,fj,g8⟩:=h _ _ _ a8;exact⟨qf,y,aW,fj,g8⟩
   obtain⟨aaU,gw,a2,_,bq⟩:=get 0 (by omega);obtain⟨apH,fA⟩:=SA a2;have Kl:∃c,aaU[0]? =some c:=⟨_,List.getElem?_eq_getElem (by omega)⟩
   obtain⟨pc,Kl⟩:=Kl;have BH:=aaT (fA 0 pc Kl);have b6:(a.add (0*sz)).add 0=a:=by simp[Addr.add]
   rw[b6]at BH;obtain⟨b,o,spot⟩:=a;obtain⟨su,wU⟩:=BH;simp only at su wU;subst su;have all:∀m,m<=len->∃(c7:List τ) (fm:arK),c7.length=m/\(∀y∈c7,W y)/\fm.length=m*sz/\iV w b o fm/\bm w (F0 w) (c7.map ec) fm (λ_=>False):=by
    intro m;induction m with
    |zero=>intro _;exact⟨[],[],rfl,by simp,by simp,λj c ax=>by simp at ax,by rw[List.map_nil,bm]⟩
    |succ m ih=>
     intro hm;obtain⟨c7,fm,b3,cv,fz,ez,fR⟩:=ih (by omega);obtain⟨qf,y,aW,a8,aY⟩:=get m (by omega);obtain⟨gk,ht⟩:=SA aW;refine⟨c7++[y],fm++qf,by simp[b3],?_,by simp[fz,gk,Nat.add_mul],?_,?_⟩
     .intro z ca;rcases List.mem_append.1 ca with ca|ca
      .exact cv z ca
      .simp at ca;subst ca;exact a8
     .intro j c ax;by_cases bP:j<fm.length
      .rw[List.getElem?_append_left bP]at ax;exact ez j c ax
      .rw[List.getElem?_append_right (by omega)]at ax;have:=ht _ c ax;rw[Addr.add_lit,Addr.add_lit]at this;rw[<-this];congr 2;omega
     .rw[List.map_append];refine bm.append fR ?_ (λ_ h=>h) (λ_ h=>h) (λ_ h=>h.elim);simp only[List.map_cons,List.map_nil];rw[bm];exact⟨qf,[],λ_=>False,λ_=>False,by simp,aY,by rw[bm],λ_ h=>h.elim,λ_ h=>h.elim,λ_ h=>h.elim⟩
   obtain⟨c7,fm,b3,cv,fz,ez,fR⟩:=all len (Nat.le_refl _);refine⟨c7,⟨by rw[b3];exact Nat.le_trans ae ag,cv⟩,?_⟩;rw[aD];refine .inr ⟨b,o,cap,fm,sz,by simp[b3],wU,by simp[b3,ae],ag,?_,ez,fR⟩;intro d ak;obtain⟨y,_,rfl⟩:=List.mem_map.1 ak;exact hw y
def ends:Nat->List (Nat×Nat)->Option Nat
 |o,[]=>some o
 |o,(pk,sz)::r=>if o=pk then ends (o+sz) r else none
def SB (w:World) (F:Nat->Prop) (cs:arK):List (J×Nat×Nat)->Prop
 |[]=>True
 |(d,off,sz)::r=>aD w F d ((cs.drop off).take sz) (λ_=>False)/\SB w F cs r
theorem yH {F:Nat->Prop} {cs:arK}:∀(l:List (J×Nat×Nat)) (o:Nat),ends o (l.map (·.2))=some cs.length->SB w F cs l->bm w F (l.map (·.1)) (cs.drop o) (λ_=>False):=by
 intro l;induction l with
 |nil=>intro o he _;simp[ends]at he;subst he;simp only[List.map_nil];rw[bm];simp
 |cons p l ih=>
  intro o he bo;obtain⟨d,off,sz⟩:=p;simp only[List.map_cons,ends]at he;split at he
  .rename_i e;subst e;obtain⟨f1,f2⟩:=bo;simp only[List.map_cons];rw[bm];refine⟨(cs.drop o).take sz,cs.drop (o+sz),λ_=>False,λ_=>False,?_,f1,ih _ he f2,λ_ h=>h.elim,λ_ h=>h.elim,λ_ h=>h.elim⟩;rw[<-List.drop_drop,List.take_append_drop]
  .cases he
theorem l_ {n T:Nat} {cs:arK} {o:Option (DataW H×List MemPlace)} {τ:Type} {e:τ->J} {W:τ->Prop} (a4:kE enc P w base sp held T e W) (h:DataW.trod enc P w base sp held n T cs=o) (b_:o.isSome=true):
  ∃y,W y/\aD w (F0 w) (e y) cs (λ_=>False):=by
 obtain⟨x,rfl⟩:=Option.isSome_iff_exists.1 b_;exact a4 _ _ _ h
theorem aaV {τ:Type} {T:TypeId} {aH:Array Field} {es:τ->arM} {W:τ->Prop} {r:Reach} {kU:Nat} {v:Value} {d:DataW H} {ps:List MemPlace} (bc:P.underlying T=some (.struct aH)) (a4:kE enc P w base sp held T (λy=>.agg (es y)) W)
  (sA:Value.okWide P w r kU T v) (ak:DataW.Trod enc P w base sp held T v d ps):∃y,Arg w (.agg (es y)) v/\W y:=by
 obtain⟨cs,rfl,_⟩:=WideShapes.okWide_struct bc sA;obtain⟨fuel,bo⟩:=ak;obtain⟨y,ae,ag⟩:=a4 _ _ _ bo;refine⟨y,⟨rfl,⟨cs,rfl⟩,?_⟩,ae⟩;simpa [Value.cells,cP,jn]using ag
end
theorem Km:(∀{α β:Type} (f:α->β) (l:List α),(l.map f).length=l.length)/\(∀{α:Type} (n:Nat) (a:α),(List.replicate n a).length=n)/\(∀{α:Type} (a:α) (l:List α),(a::l).length=l.length+1)/\(∀{α:Type},([]:List α).length=0)/\(∀{α:Type} (a b:List α),(a++b).length=a.length+b.length):=
 ⟨λ_ _=>List.length_map _,λ_ _=>List.length_replicate,λ_ _=>rfl,rfl,λ_ _=>List.length_append⟩
theorem SC:(∀{α β:Type} (f:α->β) (l:List α) (i:Nat),(l.map f)[i]? =l[i]?.map f)/\(∀{α:Type} (a:α) (l:List α),(a::l)[0]? =some a)/\(∀{α:Type} (a:α) (l:List α) (i:Nat),(a::l)[i+1]? =l[i]?)/\
  (∀{α:Type} (a b:α) (l:List α),(a::l).set 0 b=b::l)/\(∀{α:Type} (a b:α) (l:List α) (n:Nat),(a::l).set (n+1) b=a::l.set n b)/\(∀{α:Type} (a:α) (l:List α) (n:Nat),(a::l).take (n+1)=a::l.take n)/\(∀{α:Type} (l:List α),l.take 0=[]):=
 ⟨λ_ _ _=>List.getElem?_map,λ_ _=>rfl,λ_ _ _=>rfl,λ_ _ _=>rfl,λ_ _ _ _=>rfl,λ_ _ _=>rfl,λ_=>rfl⟩
theorem SD:(∀{α β:Type} (f:α->β) (a:α),(some a).map f=some (f a))/\(∀{α β:Type} (f:α->β),(none:Option α).map f=none)/\(∀{α:Type} (a:α),(some a).isSome=true):=⟨λ_ _=>rfl,λ_=>rfl,λ_=>rfl⟩
theorem Kn:(∀{α β γ:Type} (g:β->γ) (f:α->β) (l:List α),(l.map f).map g=l.map (g∘f))/\(∀{α:Type} (l:List α),l++[]=l):=⟨λ_ _ _=>List.map_map,λl=>List.append_nil l⟩
theorem n8:(∀{α β:Type} (f:α->β) (a:α) (l:List α),(a::l).map f=f a::l.map f)/\(∀{α β:Type} (f:α->β),([]:List α).map f=[])/\(∀{α β:Type} (f:α->β) (a b:List α),(a++b).map f=a.map f++b.map f)/\
  (∀{α β:Type} (f:α->β) (l:List α) (i:Nat) (a:α),(l.set i a).map f=(l.map f).set i (f a))/\(∀{α β:Type} (f:α->β) (l:List α) (i:Nat),(l.take i).map f=(l.map f).take i)/\(∀{α β:Type} (f:α->β) (l:List α) (i:Nat),(l.drop i).map f=(l.map f).drop i):=
 ⟨λ_ _ _=>rfl,λ_=>rfl,λ_ _ _=>List.map_append,λ_ _ _ _=>List.map_set,λ_ _ _=>List.map_take,λ_ _ _=>List.map_drop⟩
def aaW:=PLift.up (aa @wO (aa @RL (aa @RM (aa @RQ (aa @RR (aa @aao (aa @RK (aa @aaq (aa @Sb (aa @Sc (aa @RS (aa @RT (aa @Kb (aa @RU (aa @RV (aa @RW (aa @Sd (aa @Se (aa @Sf (aa @Sg (aa @Sh (aa @Si (aa @RX (aa @RY (aa @RZ (aa @R0 (aa @R1 (aa @R2 (aa @R3 (aa @R4 (aa @R5 (aa @R6 (aa @R_ (aa @Kf (aa @Kh (aa @Kg (aa @Sv (aa @Sw (aa @Sy (aa @Sz (aa @fo.eq_def (aa @loc.eq_def (aa @gQ.eq_def (aa @j6.eq_def (aa @ex.eq_def (aa @tr.eq_def (aa @fits.eq_def (aa @J.gD.eq_1 (aa @J.gD.eq_2 (aa @J.gD.eq_3 (aa @J.gD.eq_4 (aa @J.gD.eq_5 (aa @J.gD.eq_6 (aa @PB (aa @PC (aa @Bool.not_true (aa @Bool.not_false (aa @Bool.true_and (aa @Bool.and_true (aa @Bool.false_and (aa @Bool.true_or (aa @Bool.false_or (aa @Bool.and_self (aa @Bool.false_eq_true (aa @Bool.true_eq_false (aa @Bool.not_not (aa @true_and (aa @and_true (aa @and_self (aa @decide_true (aa @decide_false (aa @not_false_eq_true (aa @not_true_eq_false (aa @Sr (aa @Nat.zero_add (aa @Nat.add_zero (aa @Nat.mul_one (aa @Nat.lt_add_one (aa @zero_lt_succ (aa @ic.eq_def (aa @lz.eq_def (aa @flat.eq_1 (aa @flat.eq_2 (aa @flat.eq_3 (aa @flat.eq_4 (aa @flat.eq_5 (aa @flat.eq_6 (aa @flat.eq_7 (aa @tk.eq_1 (aa @tk.eq_2 (aa @j2.eq_def (aa @Km (aa @SC (aa @SD (@Kn)))))))))))))))))))))))))))))))))))))))))))))))))))))))))))))))))))))))))))))))))))))))))))))))
def aaX:=PLift.up (aa @yD (aa @RL (aa @RN (aa @RQ (aa @RR (aa @aap (aa @RK (aa @aar (aa @Sb (aa @Sc (aa @RS (aa @RT (aa @Kb (aa @RU (aa @RV (aa @RW (aa @Sd (aa @Se (aa @Sf (aa @Sg (aa @Sh (aa @Si (aa @RX (aa @RY (aa @RZ (aa @R0 (aa @R1 (aa @R2 (aa @R3 (aa @R4 (aa @R5 (aa @R6 (aa @R_ (aa @Kf (aa @Kh (aa @Kg (aa @Sv (aa @Sw (aa @Sy (aa @Sz (aa @fo.eq_def (aa @loc.eq_def (aa @gQ.eq_def (aa @j6.eq_def (aa @ex.eq_def (aa @tr.eq_def (aa @fits.eq_def (aa @J.gD.eq_1 (aa @J.gD.eq_2 (aa @J.gD.eq_3 (aa @J.gD.eq_4 (aa @J.gD.eq_5 (aa @J.gD.eq_6 (aa @PB (aa @PC (aa @Bool.not_true (aa @Bool.not_false (aa @Bool.true_and (aa @Bool.and_true (aa @Bool.false_and (aa @Bool.true_or (aa @Bool.false_or (aa @Bool.and_self (aa @Bool.false_eq_true (aa @Bool.true_eq_false (aa @Bool.not_not (aa @true_and (aa @and_true (aa @and_self (aa @decide_true (aa @decide_false (aa @not_false_eq_true (aa @not_true_eq_false (aa @Sr (aa @Nat.zero_add (aa @Nat.add_zero (aa @Nat.mul_one (aa @Nat.lt_add_one (aa @zero_lt_succ (aa @ic.eq_def (aa @lz.eq_def (aa @flat.eq_1 (aa @flat.eq_2 (aa @flat.eq_3 (aa @flat.eq_4 (aa @flat.eq_5 (aa @flat.eq_6 (aa @flat.eq_7 (aa @tk.eq_1 (aa @tk.eq_2 (aa @j2.eq_def (aa @Km (aa @SC (aa @SD (@Kn)))))))))))))))))))))))))))))))))))))))))))))))))))))))))))))))))))))))))))))))))))))))))))))))
def aaY:=PLift.up (aa @Kf (aa @Kh (aa @Kg (aa @mu.eq_1 (aa @Nat.zero_add (aa @Bool.not_true (aa @Bool.not_false (aa @Bool.true_and (aa @Bool.and_true (aa @Bool.false_and (aa @Bool.true_or (aa @Bool.false_or (aa @Bool.and_self (aa @Bool.false_eq_true (aa @Bool.true_eq_false (aa @Bool.not_not (aa @Km (aa @Kn (@n8)))))))))))))))))))
end Go.ek
