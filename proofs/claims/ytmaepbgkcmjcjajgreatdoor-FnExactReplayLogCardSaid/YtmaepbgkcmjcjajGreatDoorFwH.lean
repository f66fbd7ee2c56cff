/- Part of a proof that a law returns true for every input. No condition. -/
import Derived.Test.YtmaepbgkcmjcjajGreatDoorFwG
import Derived.ChangeArms
import Derived.WideShapes
namespace Go.ep
open Go.IntKind Nat Or
section
variable {H:Type} {enc:TypeId×Value->H} {P:Program} {w:World} {base:Nat} {sp:Nat->Bool} {held:Bool}
def kZ {τ:Type} (enc:TypeId×Value->H) (P:Program) (w:World) (base:Nat) (sp:Nat->Bool) (held:Bool) (T:TypeId) (e:τ->I) (W:τ->Prop):Prop:=
 ∀(fuel:Nat) (cs:azw) (x:DataW H×List MemPlace),DataW.trod enc P w base sp held fuel T cs=some x->∃y,W y/\aB w (F0 w) (e y) cs (λ_=>False)
theorem agw {T:TypeId} {k:IntKind} (a8:P.underlying T=some (.int k)):kZ enc P w base sp held T (λn=>.int k n) (λn=>(Lit.int k n).wf=true):=by
 intro fuel cs x h;obtain⟨n,rfl,_,hw⟩:=DataW.trod_int a8 h;exact⟨n,hw,by rw[aB]⟩
theorem agx {T:TypeId} (a8:P.underlying T=some (.int .i64)):kZ enc P w base sp held T (λn=>.int .i64 n) (λn=> -9223372036854775808<=n/\n<=9223372036854775807):=by
 intro fuel cs x h;obtain⟨n,hw,aR⟩:=agw a8 fuel cs x h;exact⟨n,wf_i64 hw,aR⟩
theorem agy {T:TypeId} (a8:P.underlying T=some .string):kZ enc P w base sp held T (λs=>.str s) (λs=>s.length<=9223372036854775807):=by
 intro fuel cs x h;obtain⟨s,rfl,_,aa⟩:=DataW.trod_string a8 h;exact⟨s.data.toList,aa,by rw[aB]⟩
theorem agz {α β:Type} {f:α->Option β}:∀{l:List α} {r:List β},l.mapM f=some r->r.length=l.length/\∀(i:Nat) (a:α),l[i]? =some a->f a=r[i]? :=by
 intro l;induction l with
 |nil=>intro r h;simp at h;subst h;exact⟨rfl,λi a h=>by simp at h⟩
 |cons a l ih=>
  intro r h;simp only[List.mapM_cons,Option.bind_eq_bind,Option.bind_eq_some_iff]at h;obtain⟨b,ab,h4,aR,he⟩:=h;have he:b::h4=r:=by simpa using he
  subst he;obtain⟨ad,af⟩:=ih aR;refine⟨by simp[ad],λi x ao=>?_⟩;cases i with
  |zero=>simp at ao;subst ao;simpa using ab
  |succ i=>simpa using af i x (by simpa using ao)
theorem Xa {a:Addr} {n:Nat} {cs:azw} (h:w.cells? base a n=some cs):cs.length=n/\∀j c,cs[j]? =some c->w.cell? (a.add j)=some c:=by
 unfold World.cells? at h;split at h
 .obtain⟨ad,af⟩:=agz h;refine⟨by simpa using ad,λj c au=>?_⟩;have bQ:j<n:=by
   have:=(List.getElem?_eq_some_iff.1 au).1;rw[ad]at this;simpa using this
  rw[af j j (by simp[bQ]),au]
 .cases h
theorem agA {a:Addr} {c:Value} (h:w.cell? a=some c):a.spot=none/\a.block<w.heap.size:=by
 unfold World.cell? at h;split at h
 .rename_i cs e fr ab;split at h
  .cases h
  .rename_i aa;refine⟨by simpa using aa,?_⟩;exact(Array.getElem?_eq_some_iff.1 ab).1
 .cases h
theorem vZ {τ:Type} {T e:TypeId} {sz:Nat} {ec:τ->I} {W:τ->Prop} (a8:P.underlying T=some (.slice e)) (fo:P.cellsOf e=sz) (Ov:0<sz) (hw:∀y,(ec y).wd=sz) (h:kZ enc P w base sp held e ec W):
  kZ enc P w base sp held T (λc8:List τ=>.slice (c8.map ec)) (λc8:List τ=>c8.length<=9223372036854775807/\∀y∈c8,W y):=by
 intro fuel cs x ao;rcases DataW.trod_slice a8 ao with⟨rfl,_⟩|⟨a,len,cap,elems,rest,n,_,rfl,_,_,ad,af,aG,bh,_⟩
 .exact⟨[],⟨by simp,by simp⟩,by simp only[List.map_nil];rw[aB];exact .inl ⟨rfl,none,0,rfl,zero_le _,λ_=>rfl⟩⟩
 .by_cases a_:len=0
  .subst a_;exact⟨[],⟨by simp,by simp⟩,by simp only[List.map_nil];rw[aB];exact .inl ⟨rfl,some a,cap,rfl,af,λh=>by cases h⟩⟩
  .rw[fo]at bh;have get:∀i,i<len->∃rk y,w.cells? base (a.add (i*sz)) sz=some rk/\W y/\aB w (F0 w) (ec y) rk (λ_=>False):=by
    intro i ai;have:=bh i ai;rw[List.getElem?_eq_getElem (by omega),Option.bind_eq_some_iff]at this;obtain⟨rk,aP,aW⟩:=this;obtain⟨y,fC,hG⟩:=h _ _ _ aW;exact⟨rk,y,aP,fC,hG⟩
   obtain⟨agB,gm,g1,_,g2⟩:=get 0 (by omega);obtain⟨axC,h2⟩:=Xa g1;have Ow:∃c,agB[0]? =some c:=⟨_,List.getElem?_eq_getElem (by omega)⟩
   obtain⟨c0,Ow⟩:=Ow;have Fx:=agA (h2 0 c0 Ow);have bq:(a.add (0*sz)).add 0=a:=by simp[Addr.add]
   rw[bq]at Fx;obtain⟨b,o,spot⟩:=a;obtain⟨p1,zF⟩:=Fx;simp only at p1 zF;subst p1;have all:∀m,m<=len->∃(c8:List τ) (fv:azw),c8.length=m/\(∀y∈c8,W y)/\fv.length=m*sz/\jM w b o fv/\bz w (F0 w) (c8.map ec) fv (λ_=>False):=by
    intro m;induction m with
    |zero=>intro _;exact⟨[],[],rfl,by simp,by simp,λj c au=>by simp at au,by rw[List.map_nil,bz]⟩
    |succ m ih=>
     intro hm;obtain⟨c8,fv,bZ,cu,dY,eb,eJ⟩:=ih (by omega);obtain⟨rk,y,aP,aW,aS⟩:=get m (by omega);obtain⟨m1,m2⟩:=Xa aP;refine⟨c8++[y],fv++rk,by simp[bZ],?_,by simp[dY,m1,Nat.add_mul],?_,?_⟩
     .intro z cd;rcases List.mem_append.1 cd with cd|cd
      .exact cu z cd
      .simp at cd;subst cd;exact aW
     .intro j c au;by_cases bQ:j<fv.length
      .rw[List.getElem?_append_left bQ]at au;exact eb j c au
      .rw[List.getElem?_append_right (by omega)]at au;have:=m2 _ c au;rw[Addr.add_lit,Addr.add_lit]at this;rw[<-this];congr 2;omega
     .rw[List.map_append];refine bz.append eJ ?_ (λ_ h=>h) (λ_ h=>h) (λ_ h=>h.elim);simp only[List.map_cons,List.map_nil];rw[bz];exact⟨rk,[],λ_=>False,λ_=>False,by simp,aS,by rw[bz],λ_ h=>h.elim,λ_ h=>h.elim,λ_ h=>h.elim⟩
   obtain⟨c8,fv,bZ,cu,dY,eb,eJ⟩:=all len (Nat.le_refl _);refine⟨c8,⟨by rw[bZ];exact Nat.le_trans ad af,cu⟩,?_⟩;rw[aB];refine .inr ⟨b,o,cap,fv,sz,by simp[bZ],zF,by simp[bZ,ad],af,?_,eb,eJ⟩;intro d aq;obtain⟨y,_,rfl⟩:=List.mem_map.1 aq;exact hw y
def ends:Nat->List (Nat×Nat)->Option Nat
 |o,[]=>some o
 |o,(qD,sz)::r=>if o=qD then ends (o+sz) r else none
def Xb (w:World) (F:Nat->Prop) (cs:azw):List (I×Nat×Nat)->Prop
 |[]=>True
 |(d,off,sz)::r=>aB w F d ((cs.drop off).take sz) (λ_=>False)/\Xb w F cs r
theorem zG {F:Nat->Prop} {cs:azw}:∀(l:List (I×Nat×Nat)) (o:Nat),ends o (l.map (·.2))=some cs.length->Xb w F cs l->bz w F (l.map (·.1)) (cs.drop o) (λ_=>False):=by
 intro l;induction l with
 |nil=>intro o he _;simp[ends]at he;subst he;simp only[List.map_nil];rw[bz];simp
 |cons p l ih=>
  intro o he bK;obtain⟨d,off,sz⟩:=p;simp only[List.map_cons,ends]at he;split at he
  .rename_i e;subst e;obtain⟨f1,f2⟩:=bK;simp only[List.map_cons];rw[bz];refine⟨(cs.drop o).take sz,cs.drop (o+sz),λ_=>False,λ_=>False,?_,f1,ih _ he f2,λ_ h=>h.elim,λ_ h=>h.elim,λ_ h=>h.elim⟩;rw[<-List.drop_drop,List.take_append_drop]
  .cases he
theorem l0 {n T:Nat} {cs:azw} {o:Option (DataW H×List MemPlace)} {τ:Type} {e:τ->I} {W:τ->Prop} (aR:kZ enc P w base sp held T e W) (h:DataW.trod enc P w base sp held n T cs=o) (bS:o.isSome=true):
  ∃y,W y/\aB w (F0 w) (e y) cs (λ_=>False):=by
 obtain⟨x,rfl⟩:=Option.isSome_iff_exists.1 bS;exact aR _ _ _ h
theorem agC {τ:Type} {T e:TypeId} {ec:τ->I} {W:List τ->Prop} {r:Reach} {lU:Nat} {v:Value} {d:DataW H} {ps:List MemPlace} (a8:P.underlying T=some (.slice e)) (aR:kZ enc P w base sp held T (λc8:List τ=>.slice (c8.map ec)) W)
  (uy:Value.okWide P w r lU T v) (aq:DataW.Trod enc P w base sp held T v d ps):∃c8,Arg w (.slice (c8.map ec)) v/\W c8:=by
 obtain⟨a,len,cap,rfl⟩:=WideShapes.okWide_slice a8 uy;obtain⟨fuel,bK⟩:=aq;obtain⟨c8,ad,af⟩:=aR _ _ _ bK;refine⟨c8,⟨rfl,rfl,?_⟩,ad⟩;simpa [Value.cells,dd,jO]using af
theorem agD {τ:Type} {T:TypeId} {aF:Array Field} {es:τ->azy} {W:τ->Prop} {r:Reach} {lU:Nat} {v:Value} {d:DataW H} {ps:List MemPlace} (a8:P.underlying T=some (.struct aF)) (aR:kZ enc P w base sp held T (λy=>.agg (es y)) W)
  (uy:Value.okWide P w r lU T v) (aq:DataW.Trod enc P w base sp held T v d ps):∃y,Arg w (.agg (es y)) v/\W y:=by
 obtain⟨cs,rfl,_⟩:=WideShapes.okWide_struct a8 uy;obtain⟨fuel,bK⟩:=aq;obtain⟨y,ad,af⟩:=aR _ _ _ bK;refine⟨y,⟨rfl,⟨cs,rfl⟩,?_⟩,ad⟩;simpa [Value.cells,dd,jO]using af
end
theorem Ox:(∀{α β:Type} (f:α->β) (l:List α),(l.map f).length=l.length)/\(∀{α:Type} (n:Nat) (a:α),(List.replicate n a).length=n)/\(∀{α:Type} (a:α) (l:List α),(a::l).length=l.length+1)/\(∀{α:Type},([]:List α).length=0)/\(∀{α:Type} (a b:List α),(a++b).length=a.length+b.length):=
 ⟨λ_ _=>List.length_map _,λ_ _=>List.length_replicate,λ_ _=>rfl,rfl,λ_ _=>List.length_append⟩
theorem Xc:(∀{α β:Type} (f:α->β) (l:List α) (i:Nat),(l.map f)[i]? =l[i]?.map f)/\(∀{α:Type} (a:α) (l:List α),(a::l)[0]? =some a)/\(∀{α:Type} (a:α) (l:List α) (i:Nat),(a::l)[i+1]? =l[i]?)/\
  (∀{α:Type} (a b:α) (l:List α),(a::l).set 0 b=b::l)/\(∀{α:Type} (a b:α) (l:List α) (n:Nat),(a::l).set (n+1) b=a::l.set n b)/\(∀{α:Type} (a:α) (l:List α) (n:Nat),(a::l).take (n+1)=a::l.take n)/\(∀{α:Type} (l:List α),l.take 0=[]):=
 ⟨λ_ _ _=>List.getElem?_map,λ_ _=>rfl,λ_ _ _=>rfl,λ_ _ _=>rfl,λ_ _ _ _=>rfl,λ_ _ _=>rfl,λ_=>rfl⟩
theorem Xd:(∀{α β:Type} (f:α->β) (a:α),(some a).map f=some (f a))/\(∀{α β:Type} (f:α->β),(none:Option α).map f=none)/\(∀{α:Type} (a:α),(some a).isSome=true):=⟨λ_ _=>rfl,λ_=>rfl,λ_=>rfl⟩
theorem Oy:(∀{α β γ:Type} (g:β->γ) (f:α->β) (l:List α),(l.map f).map g=l.map (g∘f))/\(∀{α:Type} (l:List α),l++[]=l):=⟨λ_ _ _=>List.map_map,λl=>List.append_nil l⟩
theorem mo:(∀{α β:Type} (f:α->β) (a:α) (l:List α),(a::l).map f=f a::l.map f)/\(∀{α β:Type} (f:α->β),([]:List α).map f=[])/\(∀{α β:Type} (f:α->β) (a b:List α),(a++b).map f=a.map f++b.map f)/\
  (∀{α β:Type} (f:α->β) (l:List α) (i:Nat) (a:α),(l.set i a).map f=(l.map f).set i (f a))/\(∀{α β:Type} (f:α->β) (l:List α) (i:Nat),(l.take i).map f=(l.map f).take i)/\(∀{α β:Type} (f:α->β) (l:List α) (i:Nat),(l.drop i).map f=(l.map f).drop i):=
 ⟨λ_ _ _=>rfl,λ_=>rfl,λ_ _ _=>List.map_append,λ_ _ _ _=>List.map_set,λ_ _ _=>List.map_take,λ_ _ _=>List.map_drop⟩
def agE:=PLift.up (U @x0 (U @Wj (U @Og (U @Wn (U @Wo (U @age (U @Wi (U @agh (U @WJ (U @WK (U @Wp (U @Wq (U @Oj (U @Wr (U @Ws (U @Wt (U @WL (U @WM (U @WN (U @WO (U @WQ (U @WR (U @Wu (U @Wv (U @Ww (U @Wx (U @Wy (U @Wz (U @WA (U @WB (U @WC (U @WD (U @WH (U @On (U @Ot (U @Oq (U @W7 (U @W8 (U @W9 (U @W_ (U @fX.eq_def (U @loc.eq_def (U @h9.eq_def (U @mD.eq_def (U @ex.eq_def (U @vK.eq_def (U @fits.eq_def (U @I.gK.eq_1 (U @I.gK.eq_2 (U @I.gK.eq_3 (U @I.gK.eq_4 (U @I.gK.eq_5 (U @I.gK.eq_6 (U @T9 (U @T_ (U @Bool.not_true (U @Bool.not_false (U @Bool.true_and (U @Bool.and_true (U @Bool.false_and (U @Bool.true_or (U @Bool.false_or (U @Bool.and_self (U @Bool.false_eq_true (U @Bool.true_eq_false (U @Bool.not_not (U @true_and (U @and_true (U @and_self (U @decide_true (U @decide_false (U @not_false_eq_true (U @not_true_eq_false (U @W3 (U @Nat.zero_add (U @Nat.add_zero (U @Nat.mul_one (U @Nat.lt_add_one (U @zero_lt_succ (U @iF.eq_def (U @nb.eq_def (U @flat.eq_1 (U @flat.eq_2 (U @flat.eq_3 (U @flat.eq_4 (U @flat.eq_5 (U @flat.eq_6 (U @flat.eq_7 (U @vG.eq_1 (U @vG.eq_2 (U @k5.eq_def (U @Ox (U @Xc (U @Xd (@Oy)))))))))))))))))))))))))))))))))))))))))))))))))))))))))))))))))))))))))))))))))))))))))))))))
def Fy:=PLift.up (U @zz (U @Wj (U @Oh (U @Wn (U @Wo (U @agf (U @Wi (U @agi (U @WJ (U @WK (U @Wp (U @Wq (U @Oj (U @Wr (U @Ws (U @Wt (U @WL (U @WM (U @WN (U @WO (U @WQ (U @WR (U @Wu (U @Wv (U @Ww (U @Wx (U @Wy (U @Wz (U @WA (U @WB (U @WC (U @WD (U @WH (U @On (U @Ot (U @Oq (U @W7 (U @W8 (U @W9 (U @W_ (U @fX.eq_def (U @loc.eq_def (U @h9.eq_def (U @mD.eq_def (U @ex.eq_def (U @vK.eq_def (U @fits.eq_def (U @I.gK.eq_1 (U @I.gK.eq_2 (U @I.gK.eq_3 (U @I.gK.eq_4 (U @I.gK.eq_5 (U @I.gK.eq_6 (U @T9 (U @T_ (U @Bool.not_true (U @Bool.not_false (U @Bool.true_and (U @Bool.and_true (U @Bool.false_and (U @Bool.true_or (U @Bool.false_or (U @Bool.and_self (U @Bool.false_eq_true (U @Bool.true_eq_false (U @Bool.not_not (U @true_and (U @and_true (U @and_self (U @decide_true (U @decide_false (U @not_false_eq_true (U @not_true_eq_false (U @W3 (U @Nat.zero_add (U @Nat.add_zero (U @Nat.mul_one (U @Nat.lt_add_one (U @zero_lt_succ (U @iF.eq_def (U @nb.eq_def (U @flat.eq_1 (U @flat.eq_2 (U @flat.eq_3 (U @flat.eq_4 (U @flat.eq_5 (U @flat.eq_6 (U @flat.eq_7 (U @vG.eq_1 (U @vG.eq_2 (U @k5.eq_def (U @Ox (U @Xc (U @Xd (@Oy)))))))))))))))))))))))))))))))))))))))))))))))))))))))))))))))))))))))))))))))))))))))))))))))
def agF:=PLift.up (U @On (U @Ot (U @Oq (U @jn.eq_1 (U @Nat.zero_add (U @Bool.not_true (U @Bool.not_false (U @Bool.true_and (U @Bool.and_true (U @Bool.false_and (U @Bool.true_or (U @Bool.false_or (U @Bool.and_self (U @Bool.false_eq_true (U @Bool.true_eq_false (U @Bool.not_not (U @Ox (U @Oy (@mo)))))))))))))))))))
end Go.ep
