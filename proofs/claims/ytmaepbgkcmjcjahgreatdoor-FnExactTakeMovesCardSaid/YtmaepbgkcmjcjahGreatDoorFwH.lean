/- Part of a proof that a law returns true for every input. No condition. -/
import Derived.Test.YtmaepbgkcmjcjahGreatDoorFwG
import Derived.ChangeArms
import Derived.WideShapes
namespace Go.ei
open Go.IntKind Nat Or
section
variable {H:Type} {enc:TypeId×Value->H} {P:Program} {w:World} {base:Nat} {sp:Nat->Bool} {held:Bool}
def kS {τ:Type} (enc:TypeId×Value->H) (P:Program) (w:World) (base:Nat) (sp:Nat->Bool) (held:Bool) (T:TypeId) (e:τ->I) (W:τ->Prop):Prop:=
 ∀(fuel:Nat) (cs:azi) (x:DataW H×List MemPlace),DataW.trod enc P w base sp held fuel T cs=some x->∃y,W y/\az w (F0 w) (e y) cs (λ_=>False)
theorem agx {T:TypeId} {k:IntKind} (bb:P.underlying T=some (.int k)):kS enc P w base sp held T (λn=>.int k n) (λn=>(Lit.int k n).wf=true):=by
 intro fuel cs x h;obtain⟨n,rfl,_,hw⟩:=DataW.trod_int bb h;exact⟨n,hw,by rw[az]⟩
theorem agy {T:TypeId} (bb:P.underlying T=some (.int .i64)):kS enc P w base sp held T (λn=>.int .i64 n) (λn=> -9223372036854775808<=n/\n<=9223372036854775807):=by
 intro fuel cs x h;obtain⟨n,hw,aS⟩:=agx bb fuel cs x h;exact⟨n,wf_i64 hw,aS⟩
theorem agz {T:TypeId} (bb:P.underlying T=some .string):kS enc P w base sp held T (λs=>.str s) (λs=>s.length<=9223372036854775807):=by
 intro fuel cs x h;obtain⟨s,rfl,_,aa⟩:=DataW.trod_string bb h;exact⟨s.data.toList,aa,by rw[az]⟩
theorem agA {α β:Type} {f:α->Option β}:∀{l:List α} {r:List β},l.mapM f=some r->r.length=l.length/\∀(i:Nat) (a:α),l[i]? =some a->f a=r[i]? :=by
 intro l;induction l with
 |nil=>intro r h;simp at h;subst h;exact⟨rfl,λi a h=>by simp at h⟩
 |cons a l ih=>
  intro r h;simp only[List.mapM_cons,Option.bind_eq_bind,Option.bind_eq_some_iff]at h;obtain⟨b,ab,hW,aS,he⟩:=h;have he:b::hW=r:=by simpa using he
  subst he;obtain⟨ad,ag⟩:=ih aS;refine⟨by simp[ad],λi x aq=>?_⟩;cases i with
  |zero=>simp at aq;subst aq;simpa using ab
  |succ i=>simpa using ag i x (by simpa using aq)
theorem Xt {a:Addr} {n:Nat} {cs:azi} (h:w.cells? base a n=some cs):cs.length=n/\∀j c,cs[j]? =some c->w.cell? (a.add j)=some c:=by
 unfold World.cells? at h;split at h
 .obtain⟨ad,ag⟩:=agA h;refine⟨by simpa using ad,λj c au=>?_⟩;have bG:j<n:=by
   have:=(List.getElem?_eq_some_iff.1 au).1;rw[ad]at this;simpa using this
  rw[ag j j (by simp[bG]),au]
 .cases h
theorem agB {a:Addr} {c:Value} (h:w.cell? a=some c):a.spot=none/\a.block<w.heap.size:=by
 unfold World.cell? at h;split at h
 .rename_i cs e fr ab;split at h
  .cases h
  .rename_i aa;refine⟨by simpa using aa,?_⟩;exact(Array.getElem?_eq_some_iff.1 ab).1
 .cases h
theorem wc {τ:Type} {T e:TypeId} {sz:Nat} {ec:τ->I} {W:τ->Prop} (bb:P.underlying T=some (.slice e)) (fa:P.cellsOf e=sz) (agC:0<sz) (hw:∀y,(ec y).wd=sz) (h:kS enc P w base sp held e ec W):
  kS enc P w base sp held T (λc1:List τ=>.slice (c1.map ec)) (λc1:List τ=>c1.length<=9223372036854775807/\∀y∈c1,W y):=by
 intro fuel cs x aq;rcases DataW.trod_slice bb aq with⟨rfl,_⟩|⟨a,len,cap,elems,rest,n,_,rfl,_,_,ad,ag,aD,bh,_⟩
 .exact⟨[],⟨by simp,by simp⟩,by simp only[List.map_nil];rw[az];exact .inl ⟨rfl,none,0,rfl,zero_le _,λ_=>rfl⟩⟩
 .by_cases bc:len=0
  .subst bc;exact⟨[],⟨by simp,by simp⟩,by simp only[List.map_nil];rw[az];exact .inl ⟨rfl,some a,cap,rfl,ag,λh=>by cases h⟩⟩
  .rw[fa]at bh;have get:∀i,i<len->∃rI y,w.cells? base (a.add (i*sz)) sz=some rI/\W y/\az w (F0 w) (ec y) rI (λ_=>False):=by
    intro i ai;have:=bh i ai;rw[List.getElem?_eq_getElem (by omega),Option.bind_eq_some_iff]at this;obtain⟨rI,aR,aW⟩:=this;obtain⟨y,fy,gk⟩:=h _ _ _ aW;exact⟨rI,y,aR,fy,gk⟩
   obtain⟨agD,gm,g1,_,g2⟩:=get 0 (by omega);obtain⟨axk,ic⟩:=Xt g1;have Ov:∃c,agD[0]? =some c:=⟨_,List.getElem?_eq_getElem (by omega)⟩
   obtain⟨c0,Ov⟩:=Ov;have FH:=agB (ic 0 c0 Ov);have bo:(a.add (0*sz)).add 0=a:=by simp[Addr.add]
   rw[bo]at FH;obtain⟨b,o,spot⟩:=a;obtain⟨qM,uE⟩:=FH;simp only at qM uE;subst qM;have all:∀m,m<=len->∃(c1:List τ) (fp:azi),c1.length=m/\(∀y∈c1,W y)/\fp.length=m*sz/\jD w b o fp/\bA w (F0 w) (c1.map ec) fp (λ_=>False):=by
    intro m;induction m with
    |zero=>intro _;exact⟨[],[],rfl,by simp,by simp,λj c au=>by simp at au,by rw[List.map_nil,bA]⟩
    |succ m ih=>
     intro hm;obtain⟨c1,fp,bX,cu,dS,dW,eB⟩:=ih (by omega);obtain⟨rI,y,aR,aW,aU⟩:=get m (by omega);obtain⟨m1,m2⟩:=Xt aR;refine⟨c1++[y],fp++rI,by simp[bX],?_,by simp[dS,m1,Nat.add_mul],?_,?_⟩
     .intro z cf;rcases List.mem_append.1 cf with cf|cf
      .exact cu z cf
      .simp at cf;subst cf;exact aW
     .intro j c au;by_cases bG:j<fp.length
      .rw[List.getElem?_append_left bG]at au;exact dW j c au
      .rw[List.getElem?_append_right (by omega)]at au;have:=m2 _ c au;rw[Addr.add_lit,Addr.add_lit]at this;rw[<-this];congr 2;omega
     .rw[List.map_append];refine bA.append eB ?_ (λ_ h=>h) (λ_ h=>h) (λ_ h=>h.elim);simp only[List.map_cons,List.map_nil];rw[bA];exact⟨rI,[],λ_=>False,λ_=>False,by simp,aU,by rw[bA],λ_ h=>h.elim,λ_ h=>h.elim,λ_ h=>h.elim⟩
   obtain⟨c1,fp,bX,cu,dS,dW,eB⟩:=all len (Nat.le_refl _);refine⟨c1,⟨by rw[bX];exact Nat.le_trans ad ag,cu⟩,?_⟩;rw[az];refine .inr ⟨b,o,cap,fp,sz,by simp[bX],uE,by simp[bX,ad],ag,?_,dW,eB⟩;intro d ao;obtain⟨y,_,rfl⟩:=List.mem_map.1 ao;exact hw y
def ends:Nat->List (Nat×Nat)->Option Nat
 |o,[]=>some o
 |o,(qL,sz)::r=>if o=qL then ends (o+sz) r else none
def Xu (w:World) (F:Nat->Prop) (cs:azi):List (I×Nat×Nat)->Prop
 |[]=>True
 |(d,off,sz)::r=>az w F d ((cs.drop off).take sz) (λ_=>False)/\Xu w F cs r
theorem zJ {F:Nat->Prop} {cs:azi}:∀(l:List (I×Nat×Nat)) (o:Nat),ends o (l.map (·.2))=some cs.length->Xu w F cs l->bA w F (l.map (·.1)) (cs.drop o) (λ_=>False):=by
 intro l;induction l with
 |nil=>intro o he _;simp[ends]at he;subst he;simp only[List.map_nil];rw[bA];simp
 |cons p l ih=>
  intro o he bH;obtain⟨d,off,sz⟩:=p;simp only[List.map_cons,ends]at he;split at he
  .rename_i e;subst e;obtain⟨f1,f2⟩:=bH;simp only[List.map_cons];rw[bA];refine⟨(cs.drop o).take sz,cs.drop (o+sz),λ_=>False,λ_=>False,?_,f1,ih _ he f2,λ_ h=>h.elim,λ_ h=>h.elim,λ_ h=>h.elim⟩;rw[<-List.drop_drop,List.take_append_drop]
  .cases he
theorem mj {n T:Nat} {cs:azi} {o:Option (DataW H×List MemPlace)} {τ:Type} {e:τ->I} {W:τ->Prop} (aS:kS enc P w base sp held T e W) (h:DataW.trod enc P w base sp held n T cs=o) (bO:o.isSome=true):
  ∃y,W y/\az w (F0 w) (e y) cs (λ_=>False):=by
 obtain⟨x,rfl⟩:=Option.isSome_iff_exists.1 bO;exact aS _ _ _ h
theorem Xv {τ:Type} {T e:TypeId} {ec:τ->I} {W:List τ->Prop} {r:Reach} {lR:Nat} {v:Value} {d:DataW H} {ps:List MemPlace} (bb:P.underlying T=some (.slice e)) (aS:kS enc P w base sp held T (λc1:List τ=>.slice (c1.map ec)) W)
  (tb:Value.okWide P w r lR T v) (ao:DataW.Trod enc P w base sp held T v d ps):∃c1,Arg w (.slice (c1.map ec)) v/\W c1:=by
 obtain⟨a,len,cap,rfl⟩:=WideShapes.okWide_slice bb tb;obtain⟨fuel,bH⟩:=ao;obtain⟨c1,ad,ag⟩:=aS _ _ _ bH;refine⟨c1,⟨rfl,rfl,?_⟩,ad⟩;simpa [Value.cells,c_,jF]using ag
theorem agE {τ:Type} {T:TypeId} {aG:Array Field} {es:τ->azk} {W:τ->Prop} {r:Reach} {lR:Nat} {v:Value} {d:DataW H} {ps:List MemPlace} (bb:P.underlying T=some (.struct aG)) (aS:kS enc P w base sp held T (λy=>.agg (es y)) W)
  (tb:Value.okWide P w r lR T v) (ao:DataW.Trod enc P w base sp held T v d ps):∃y,Arg w (.agg (es y)) v/\W y:=by
 obtain⟨cs,rfl,_⟩:=WideShapes.okWide_struct bb tb;obtain⟨fuel,bH⟩:=ao;obtain⟨y,ad,ag⟩:=aS _ _ _ bH;refine⟨y,⟨rfl,⟨cs,rfl⟩,?_⟩,ad⟩;simpa [Value.cells,c_,jF]using ag
end
theorem Ow:(∀{α β:Type} (f:α->β) (l:List α),(l.map f).length=l.length)/\(∀{α:Type} (n:Nat) (a:α),(List.replicate n a).length=n)/\(∀{α:Type} (a:α) (l:List α),(a::l).length=l.length+1)/\(∀{α:Type},([]:List α).length=0)/\(∀{α:Type} (a b:List α),(a++b).length=a.length+b.length):=
 ⟨λ_ _=>List.length_map _,λ_ _=>List.length_replicate,λ_ _=>rfl,rfl,λ_ _=>List.length_append⟩
theorem Xw:(∀{α β:Type} (f:α->β) (l:List α) (i:Nat),(l.map f)[i]? =l[i]?.map f)/\(∀{α:Type} (a:α) (l:List α),(a::l)[0]? =some a)/\(∀{α:Type} (a:α) (l:List α) (i:Nat),(a::l)[i+1]? =l[i]?)/\
  (∀{α:Type} (a b:α) (l:List α),(a::l).set 0 b=b::l)/\(∀{α:Type} (a b:α) (l:List α) (n:Nat),(a::l).set (n+1) b=a::l.set n b)/\(∀{α:Type} (a:α) (l:List α) (n:Nat),(a::l).take (n+1)=a::l.take n)/\(∀{α:Type} (l:List α),l.take 0=[]):=
 ⟨λ_ _ _=>List.getElem?_map,λ_ _=>rfl,λ_ _ _=>rfl,λ_ _ _=>rfl,λ_ _ _ _=>rfl,λ_ _ _=>rfl,λ_=>rfl⟩
theorem Xx:(∀{α β:Type} (f:α->β) (a:α),(some a).map f=some (f a))/\(∀{α β:Type} (f:α->β),(none:Option α).map f=none)/\(∀{α:Type} (a:α),(some a).isSome=true):=⟨λ_ _=>rfl,λ_=>rfl,λ_=>rfl⟩
theorem Ox:(∀{α β γ:Type} (g:β->γ) (f:α->β) (l:List α),(l.map f).map g=l.map (g∘f))/\(∀{α:Type} (l:List α),l++[]=l):=⟨λ_ _ _=>List.map_map,λl=>List.append_nil l⟩
theorem lX:(∀{α β:Type} (f:α->β) (a:α) (l:List α),(a::l).map f=f a::l.map f)/\(∀{α β:Type} (f:α->β),([]:List α).map f=[])/\(∀{α β:Type} (f:α->β) (a b:List α),(a++b).map f=a.map f++b.map f)/\
  (∀{α β:Type} (f:α->β) (l:List α) (i:Nat) (a:α),(l.set i a).map f=(l.map f).set i (f a))/\(∀{α β:Type} (f:α->β) (l:List α) (i:Nat),(l.take i).map f=(l.map f).take i)/\(∀{α β:Type} (f:α->β) (l:List α) (i:Nat),(l.drop i).map f=(l.map f).drop i):=
 ⟨λ_ _ _=>rfl,λ_=>rfl,λ_ _ _=>List.map_append,λ_ _ _ _=>List.map_set,λ_ _ _=>List.map_take,λ_ _ _=>List.map_drop⟩
def agF:=PLift.up (R @v8 (R @WC (R @Of (R @WH (R @WI (R @agf (R @WB (R @agi (R @W3 (R @W4 (R @WJ (R @WK (R @Oi (R @WL (R @WM (R @WN (R @W5 (R @W6 (R @W7 (R @W8 (R @W9 (R @W_ (R @WO (R @WQ (R @WR (R @WS (R @WT (R @WU (R @WV (R @WW (R @WX (R @WY (R @W1 (R @Om (R @Ot (R @Oo (R @Xp (R @Xq (R @Xr (R @Xs (R @fV.eq_def (R @loc.eq_def (R @h2.eq_def (R @mC.eq_def (R @ex.eq_def (R @vQ.eq_def (R @fits.eq_def (R @I.gM.eq_1 (R @I.gM.eq_2 (R @I.gM.eq_3 (R @I.gM.eq_4 (R @I.gM.eq_5 (R @I.gM.eq_6 (R @Uo (R @Up (R @Bool.not_true (R @Bool.not_false (R @Bool.true_and (R @Bool.and_true (R @Bool.false_and (R @Bool.true_or (R @Bool.false_or (R @Bool.and_self (R @Bool.false_eq_true (R @Bool.true_eq_false (R @Bool.not_not (R @true_and (R @and_true (R @and_self (R @decide_true (R @decide_false (R @not_false_eq_true (R @not_true_eq_false (R @Xl (R @Nat.zero_add (R @Nat.add_zero (R @Nat.mul_one (R @Nat.lt_add_one (R @zero_lt_succ (R @iy.eq_def (R @mU.eq_def (R @flat.eq_1 (R @flat.eq_2 (R @flat.eq_3 (R @flat.eq_4 (R @flat.eq_5 (R @flat.eq_6 (R @flat.eq_7 (R @vM.eq_1 (R @vM.eq_2 (R @k1.eq_def (R @Ow (R @Xw (R @Xx (@Ox)))))))))))))))))))))))))))))))))))))))))))))))))))))))))))))))))))))))))))))))))))))))))))))))
def FI:=PLift.up (R @xZ (R @WC (R @Og (R @WH (R @WI (R @agh (R @WB (R @agj (R @W3 (R @W4 (R @WJ (R @WK (R @Oi (R @WL (R @WM (R @WN (R @W5 (R @W6 (R @W7 (R @W8 (R @W9 (R @W_ (R @WO (R @WQ (R @WR (R @WS (R @WT (R @WU (R @WV (R @WW (R @WX (R @WY (R @W1 (R @Om (R @Ot (R @Oo (R @Xp (R @Xq (R @Xr (R @Xs (R @fV.eq_def (R @loc.eq_def (R @h2.eq_def (R @mC.eq_def (R @ex.eq_def (R @vQ.eq_def (R @fits.eq_def (R @I.gM.eq_1 (R @I.gM.eq_2 (R @I.gM.eq_3 (R @I.gM.eq_4 (R @I.gM.eq_5 (R @I.gM.eq_6 (R @Uo (R @Up (R @Bool.not_true (R @Bool.not_false (R @Bool.true_and (R @Bool.and_true (R @Bool.false_and (R @Bool.true_or (R @Bool.false_or (R @Bool.and_self (R @Bool.false_eq_true (R @Bool.true_eq_false (R @Bool.not_not (R @true_and (R @and_true (R @and_self (R @decide_true (R @decide_false (R @not_false_eq_true (R @not_true_eq_false (R @Xl (R @Nat.zero_add (R @Nat.add_zero (R @Nat.mul_one (R @Nat.lt_add_one (R @zero_lt_succ (R @iy.eq_def (R @mU.eq_def (R @flat.eq_1 (R @flat.eq_2 (R @flat.eq_3 (R @flat.eq_4 (R @flat.eq_5 (R @flat.eq_6 (R @flat.eq_7 (R @vM.eq_1 (R @vM.eq_2 (R @k1.eq_def (R @Ow (R @Xw (R @Xx (@Ox)))))))))))))))))))))))))))))))))))))))))))))))))))))))))))))))))))))))))))))))))))))))))))))))
def agG:=PLift.up (R @Om (R @Ot (R @Oo (R @ji.eq_1 (R @Nat.zero_add (R @Bool.not_true (R @Bool.not_false (R @Bool.true_and (R @Bool.and_true (R @Bool.false_and (R @Bool.true_or (R @Bool.false_or (R @Bool.and_self (R @Bool.false_eq_true (R @Bool.true_eq_false (R @Bool.not_not (R @Ow (R @Ox (@lX)))))))))))))))))))
end Go.ei
