/- Part of a proof that a law returns true for every input. No condition. -/
import Derived.Test.YtipllbfpaepajaaGreatDoorFwG
import Derived.ChangeArms
import Derived.WideShapes
namespace Go.b9
section
variable {H:Type} {enc:TypeId×Value→H} {P:Program} {w:World} {base:Nat} {sp:Nat→Bool} {held:Bool}
def my {τ:Type} (enc:TypeId×Value→H) (P:Program) (w:World) (base:Nat) (sp:Nat→Bool) (held:Bool) (T:TypeId) (e:τ→I) (W:τ→Prop):Prop:=
 ∀(fuel:Nat) (cs:List Value) (x:DataW H×List MemPlace),DataW.trod enc P w base sp held fuel T cs=some x→∃y,W y∧al w (F0 w) (e y) cs (fun _=>False)
theorem KM {T:TypeId} {k:IntKind} (aN:P.underlying T=some (.int k)):my enc P w base sp held T (fun n=>.int k n) (fun n=>(Lit.int k n).wf=true):=by
 intro fuel cs x h
 obtain⟨n,rfl,_,hw⟩:=DataW.trod_int aN h
 exact⟨n,hw,by rw[al]⟩
theorem KN {T:TypeId} (aN:P.underlying T=some (.int .i64)):my enc P w base sp held T (fun n=>.int .i64 n) (fun n=> -9223372036854775808≤n∧n≤9223372036854775807):=by
 intro fuel cs x h
 obtain⟨n,hw,aC⟩:=KM aN fuel cs x h
 exact⟨n,wf_i64 hw,aC⟩
theorem KO {T:TypeId} (aN:P.underlying T=some .string):my enc P w base sp held T (fun s=>.str s) (fun s=>s.length≤9223372036854775807):=by
 intro fuel cs x h
 obtain⟨s,rfl,_,U⟩:=DataW.trod_string aN h
 exact⟨s.data.toList,U,by rw[al]⟩
theorem KP {α β:Type} {f:α→Option β}:∀{l:List α} {r:List β},l.mapM f=some r→r.length=l.length∧∀(i:Nat) (a:α),l[i]? =some a→f a=r[i]? :=by
 intro l
 induction l with
 |nil=>intro r h;simp at h;subst h;exact⟨rfl,fun i a h=>by simp at h⟩
 |cons a l ih=>
  intro r h
  simp only[List.mapM_cons,Option.bind_eq_bind,Option.bind_eq_some_iff]at h
  obtain⟨b,R,gZ,aC,he⟩:=h
  have he:b::gZ=r:=by simpa using he
  subst he
  obtain⟨aa,ad⟩:=ih aC
  refine⟨by simp[aa],fun i x ao=> ?_⟩
  cases i with
  |zero=>simp at ao;subst ao;simpa using R
  |succ i=>simpa using ad i x (by simpa using ao)
theorem DB {a:Addr} {n:Nat} {cs:List Value} (h:w.cells? base a n=some cs):cs.length=n∧∀j c,cs[j]? =some c→w.cell? (a.add j)=some c:=by
 unfold World.cells? at h
 split at h
 ·obtain⟨aa,ad⟩:=KP h
  refine⟨by simpa using aa,fun j c ai=> ?_⟩
  have bY:j<n:=by
   have:=(List.getElem?_eq_some_iff.1 ai).1
   rw[aa]at this;simpa using this
  rw[ad j j (by simp[bY]),ai]
 ·cases h
theorem KQ {a:Addr} {c:Value} (h:w.cell? a=some c):a.spot=none∧a.block<w.heap.size:=by
 unfold World.cell? at h
 split at h
 ·rename_i cs e fr R
  split at h
  ·cases h
  ·rename_i U
   refine⟨by simpa using U,?_⟩
   exact(Array.getElem?_eq_some_iff.1 R).1
 ·cases h
theorem DC {τ:Type} {T e:TypeId} {sz:Nat} {ec:τ→I} {W:τ→Prop} (aN:P.underlying T=some (.slice e)) (cP:P.cellsOf e=sz) (yM:0<sz) (hw:∀y,(ec y).wd=sz) (h:my enc P w base sp held e ec W):
  my enc P w base sp held T (fun bD:List τ=>.slice (bD.map ec)) (fun bD:List τ=>bD.length≤9223372036854775807∧∀y∈bD,W y):=by
 intro fuel cs x ao
 rcases DataW.trod_slice aN ao with⟨rfl,_⟩|⟨a,len,cap,elems,rest,n,_,rfl,_,_,aa,ad,aB,aO,_⟩
 ·exact⟨[],⟨by simp,by simp⟩,by simp only[List.map_nil];rw[al];exact .inl ⟨rfl,none,0,rfl,Nat.zero_le _,fun _=>rfl⟩⟩
 ·by_cases bz:len=0
  ·subst bz
   exact⟨[],⟨by simp,by simp⟩,by simp only[List.map_nil];rw[al];exact .inl ⟨rfl,some a,cap,rfl,ad,fun h=>by cases h⟩⟩
  ·rw[cP]at aO
   have get:∀i,i<len→∃n7 y,w.cells? base (a.add (i*sz)) sz=some n7∧W y∧al w (F0 w) (ec y) n7 (fun _=>False):=by
    intro i aA
    have:=aO i aA
    rw[List.getElem?_eq_getElem (by omega),Option.bind_eq_some_iff]at this
    obtain⟨n7,aF,aI⟩:=this
    obtain⟨y,kq,sI⟩:=h _ _ _ aI
    exact⟨n7,y,aF,kq,sI⟩
   obtain⟨KR,ow,g1,_,g2⟩:=get 0 (by omega)
   obtain⟨Y7,eV⟩:=DB g1
   have yN:∃c,KR[0]? =some c:=⟨_,List.getElem?_eq_getElem (by omega)⟩
   obtain⟨c0,yN⟩:=yN
   have u_:=KQ (eV 0 c0 yN)
   have bQ:(a.add (0*sz)).add 0=a:=by simp[Addr.add]
   rw[bQ]at u_
   obtain⟨b,o,spot⟩:=a
   obtain⟨nq,DD⟩:=u_
   simp only at nq DD;subst nq
   have all:∀m,m≤len→∃(bD:List τ) (cO:List Value),bD.length=m∧(∀y∈bD,W y)∧cO.length=m*sz∧fi w b o cO∧aM w (F0 w) (bD.map ec) cO (fun _=>False):=by
    intro m
    induction m with
    |zero=>intro _;exact⟨[],[],rfl,by simp,by simp,fun j c ai=>by simp at ai,by rw[List.map_nil,aM]⟩
    |succ m ih=>
     intro hm
     obtain⟨bD,cO,bx,bF,c7,ct,dr⟩:=ih (by omega)
     obtain⟨n7,y,aF,aI,aL⟩:=get m (by omega)
     obtain⟨m1,m2⟩:=DB aF
     refine⟨bD++[y],cO++n7,by simp[bx],?_,by simp[c7,m1,Nat.add_mul],?_,?_⟩
     ·intro z bl
      rcases List.mem_append.1 bl with bl|bl
      ·exact bF z bl
      ·simp at bl;subst bl;exact aI
     ·intro j c ai
      by_cases bY:j<cO.length
      ·rw[List.getElem?_append_left bY]at ai
       exact ct j c ai
      ·rw[List.getElem?_append_right (by omega)]at ai
       have:=m2 _ c ai
       rw[Addr.add_lit,Addr.add_lit]at this
       rw[←this]
       congr 2
       omega
     ·rw[List.map_append]
      refine aM.append dr ?_ (fun _ h=>h) (fun _ h=>h) (fun _ h=>h.elim)
      simp only[List.map_cons,List.map_nil]
      rw[aM]
      exact⟨n7,[],fun _=>False,fun _=>False,by simp,aL,by rw[aM],fun _ h=>h.elim,fun _ h=>h.elim,fun _ h=>h.elim⟩
   obtain⟨bD,cO,bx,bF,c7,ct,dr⟩:=all len (Nat.le_refl _)
   refine⟨bD,⟨by rw[bx];exact Nat.le_trans aa ad,bF⟩,?_⟩
   rw[al]
   refine .inr ⟨b,o,cap,cO,sz,by simp[bx],DD,by simp[bx,aa],ad,?_,ct,dr⟩
   intro d ae
   obtain⟨y,_,rfl⟩:=List.mem_map.1 ae
   exact hw y
def ends:Nat→List (Nat×Nat)→Option Nat
 |o,[]=>some o
 |o,(kr,sz)::r=>if o=kr then ends (o+sz) r else none
theorem DE {τ:Type} {T e:TypeId} {ec:τ→I} {W:List τ→Prop} {r:Reach} {g_:Nat} {v:Value} {d:DataW H} {ps:List MemPlace} (aN:P.underlying T=some (.slice e)) (aC:my enc P w base sp held T (fun bD:List τ=>.slice (bD.map ec)) W)
  (oh:Value.okWide P w r g_ T v) (ae:DataW.Trod enc P w base sp held T v d ps):∃bD,Arg w (.slice (bD.map ec)) v∧W bD:=by
 obtain⟨a,len,cap,rfl⟩:=WideShapes.okWide_slice aN oh
 obtain⟨fuel,bh⟩:=ae
 obtain⟨bD,aa,ad⟩:=aC _ _ _ bh
 refine⟨bD,⟨rfl,rfl,?_⟩,aa⟩
 simpa [Value.cells,bw,fl]using ad
end
theorem yO:(∀{α β:Type} (f:α→β) (l:List α),(l.map f).length=l.length)∧(∀{α:Type} (n:Nat) (a:α),(List.replicate n a).length=n)∧(∀{α:Type} (a:α) (l:List α),(a::l).length=l.length+1)∧(∀{α:Type},([]:List α).length=0)∧(∀{α:Type} (a b:List α),(a++b).length=a.length+b.length):=
 ⟨fun _ _=>List.length_map _,fun _ _=>List.length_replicate,fun _ _=>rfl,rfl,fun _ _=>List.length_append⟩
theorem DF:(∀{α β:Type} (f:α→β) (l:List α) (i:Nat),(l.map f)[i]? =l[i]?.map f)∧(∀{α:Type} (a:α) (l:List α),(a::l)[0]? =some a)∧(∀{α:Type} (a:α) (l:List α) (i:Nat),(a::l)[i+1]? =l[i]?)∧
  (∀{α:Type} (a b:α) (l:List α),(a::l).set 0 b=b::l)∧(∀{α:Type} (a b:α) (l:List α) (n:Nat),(a::l).set (n+1) b=a::l.set n b)∧(∀{α:Type} (a:α) (l:List α) (n:Nat),(a::l).take (n+1)=a::l.take n)∧(∀{α:Type} (l:List α),l.take 0=[]):=
 ⟨fun _ _ _=>List.getElem?_map,fun _ _=>rfl,fun _ _ _=>rfl,fun _ _ _=>rfl,fun _ _ _ _=>rfl,fun _ _ _=>rfl,fun _=>rfl⟩
theorem DG:(∀{α β:Type} (f:α→β) (a:α),(some a).map f=some (f a))∧(∀{α β:Type} (f:α→β),(none:Option α).map f=none)∧(∀{α:Type} (a:α),(some a).isSome=true):=⟨fun _ _=>rfl,fun _=>rfl,fun _=>rfl⟩
theorem yP:(∀{α β γ:Type} (g:β→γ) (f:α→β) (l:List α),(l.map f).map g=l.map (g∘f))∧(∀{α:Type} (l:List α),l++[]=l):=⟨fun _ _ _=>List.map_map,fun l=>List.append_nil l⟩
theorem kx:(∀{α β:Type} (f:α→β) (a:α) (l:List α),(a::l).map f=f a::l.map f)∧(∀{α β:Type} (f:α→β),([]:List α).map f=[])∧(∀{α β:Type} (f:α→β) (a b:List α),(a++b).map f=a.map f++b.map f)∧
  (∀{α β:Type} (f:α→β) (l:List α) (i:Nat) (a:α),(l.set i a).map f=(l.map f).set i (f a))∧(∀{α β:Type} (f:α→β) (l:List α) (i:Nat),(l.take i).map f=(l.map f).take i)∧(∀{α β:Type} (f:α→β) (l:List α) (i:Nat),(l.drop i).map f=(l.map f).drop i):=
 ⟨fun _ _ _=>rfl,fun _=>rfl,fun _ _ _=>List.map_append,fun _ _ _ _=>List.map_set,fun _ _ _=>List.map_take,fun _ _ _=>List.map_drop⟩
def KS:=PLift.up (And.intro @Kw (And.intro @CV (And.intro @Ky (And.intro @Kq (And.intro @CU (And.intro @Ks (And.intro @Dg (And.intro @Dh (And.intro @CW (And.intro @CX (And.intro @CY (And.intro @CZ (And.intro @C0 (And.intro @C1 (And.intro @Di (And.intro @Dj (And.intro @Dk (And.intro @Dl (And.intro @Dm (And.intro @Dn (And.intro @C2 (And.intro @C3 (And.intro @C4 (And.intro @C5 (And.intro @C6 (And.intro @C7 (And.intro @C8 (And.intro @C9 (And.intro @C_ (And.intro @Da (And.intro @De (And.intro @yF (And.intro @yH (And.intro @yG (And.intro @Dx (And.intro @Dy (And.intro @Dz (And.intro @DA (And.intro @c8.eq_def (And.intro @loc.eq_def (And.intro @ek.eq_def (And.intro @el.eq_def (And.intro @ex.eq_def (And.intro @js.eq_def (And.intro @fits.eq_def (And.intro @I.dC.eq_1 (And.intro @I.dC.eq_2 (And.intro @I.dC.eq_3 (And.intro @I.dC.eq_4 (And.intro @I.dC.eq_5 (And.intro @I.dC.eq_6 (And.intro @Au (And.intro @Av (And.intro @Bool.not_true (And.intro @Bool.not_false (And.intro @Bool.true_and (And.intro @Bool.and_true (And.intro @Bool.false_and (And.intro @Bool.true_or (And.intro @Bool.false_or (And.intro @Bool.and_self (And.intro @Bool.false_eq_true (And.intro @Bool.true_eq_false (And.intro @Bool.not_not (And.intro @true_and (And.intro @and_true (And.intro @and_self (And.intro @decide_true (And.intro @decide_false (And.intro @not_false_eq_true (And.intro @not_true_eq_false (And.intro @Dt (And.intro @Nat.zero_add (And.intro @Nat.add_zero (And.intro @Nat.mul_one (And.intro @Nat.lt_add_one (And.intro @Nat.zero_lt_succ (And.intro @eg.eq_def (And.intro @fc.eq_def (And.intro @flat.eq_1 (And.intro @flat.eq_2 (And.intro @flat.eq_3 (And.intro @flat.eq_4 (And.intro @flat.eq_5 (And.intro @flat.eq_6 (And.intro @flat.eq_7 (And.intro @na.eq_1 (And.intro @na.eq_2 (And.intro @dY.eq_def (And.intro @yO (And.intro @DF (And.intro @DG (@yP)))))))))))))))))))))))))))))))))))))))))))))))))))))))))))))))))))))))))))))))))))))))))))))
def tb:=PLift.up (And.intro @Kx (And.intro @CV (And.intro @Kz (And.intro @Kr (And.intro @CU (And.intro @Kt (And.intro @Dg (And.intro @Dh (And.intro @CW (And.intro @CX (And.intro @CY (And.intro @CZ (And.intro @C0 (And.intro @C1 (And.intro @Di (And.intro @Dj (And.intro @Dk (And.intro @Dl (And.intro @Dm (And.intro @Dn (And.intro @C2 (And.intro @C3 (And.intro @C4 (And.intro @C5 (And.intro @C6 (And.intro @C7 (And.intro @C8 (And.intro @C9 (And.intro @C_ (And.intro @Da (And.intro @De (And.intro @yF (And.intro @yH (And.intro @yG (And.intro @Dx (And.intro @Dy (And.intro @Dz (And.intro @DA (And.intro @c8.eq_def (And.intro @loc.eq_def (And.intro @ek.eq_def (And.intro @el.eq_def (And.intro @ex.eq_def (And.intro @js.eq_def (And.intro @fits.eq_def (And.intro @I.dC.eq_1 (And.intro @I.dC.eq_2 (And.intro @I.dC.eq_3 (And.intro @I.dC.eq_4 (And.intro @I.dC.eq_5 (And.intro @I.dC.eq_6 (And.intro @Au (And.intro @Av (And.intro @Bool.not_true (And.intro @Bool.not_false (And.intro @Bool.true_and (And.intro @Bool.and_true (And.intro @Bool.false_and (And.intro @Bool.true_or (And.intro @Bool.false_or (And.intro @Bool.and_self (And.intro @Bool.false_eq_true (And.intro @Bool.true_eq_false (And.intro @Bool.not_not (And.intro @true_and (And.intro @and_true (And.intro @and_self (And.intro @decide_true (And.intro @decide_false (And.intro @not_false_eq_true (And.intro @not_true_eq_false (And.intro @Dt (And.intro @Nat.zero_add (And.intro @Nat.add_zero (And.intro @Nat.mul_one (And.intro @Nat.lt_add_one (And.intro @Nat.zero_lt_succ (And.intro @eg.eq_def (And.intro @fc.eq_def (And.intro @flat.eq_1 (And.intro @flat.eq_2 (And.intro @flat.eq_3 (And.intro @flat.eq_4 (And.intro @flat.eq_5 (And.intro @flat.eq_6 (And.intro @flat.eq_7 (And.intro @na.eq_1 (And.intro @na.eq_2 (And.intro @dY.eq_def (And.intro @yO (And.intro @DF (And.intro @DG (@yP)))))))))))))))))))))))))))))))))))))))))))))))))))))))))))))))))))))))))))))))))))))))))))))
def KT:=PLift.up (And.intro @yF (And.intro @yH (And.intro @yG (And.intro @kO.eq_1 (And.intro @Nat.zero_add (And.intro @Bool.not_true (And.intro @Bool.not_false (And.intro @Bool.true_and (And.intro @Bool.and_true (And.intro @Bool.false_and (And.intro @Bool.true_or (And.intro @Bool.false_or (And.intro @Bool.and_self (And.intro @Bool.false_eq_true (And.intro @Bool.true_eq_false (And.intro @Bool.not_not (And.intro @yO (And.intro @yP (@kx)))))))))))))))))))
end Go.b9
