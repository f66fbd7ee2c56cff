/- Part of a proof that a law returns true for every input. No condition. -/
import Derived.Test.YtpddiknnnoomoaaFwG
import Derived.ChangeArms
import Derived.WideShapes
namespace Go.bZ
section
variable {H:Type} {enc:TypeId×Value→H} {P:Program} {w:World} {base:Nat} {sp:Nat→Bool} {held:Bool}
def mJ {τ:Type} (enc:TypeId×Value→H) (P:Program) (w:World) (base:Nat) (sp:Nat→Bool) (held:Bool) (T:TypeId) (e:τ→j) (W:τ→Prop):Prop:=
 ∀(fuel:Nat) (cs:List Value) (x:DataW H×List MemPlace),DataW.trod enc P w base sp held fuel T cs=some x→∃y,W y∧ai w (F0 w) (e y) cs (fun _=>False)
theorem HS {T:TypeId} (aM:P.underlying T=some .string):mJ enc P w base sp held T (fun s=>.str s) (fun s=>s.length≤9223372036854775807):=by
 intro fuel cs x h
 obtain⟨s,rfl,_,R⟩:=DataW.trod_string aM h
 exact⟨s.data.toList,R,by rw[ai]⟩
theorem HT {α β:Type} {f:α→Option β}:∀{l:List α} {r:List β},l.mapM f=some r→r.length=l.length∧∀(i:Nat) (a:α),l[i]? =some a→f a=r[i]? :=by
 intro l
 induction l with
 |nil=>intro r h;simp at h;subst h;exact⟨rfl,fun i a h=>by simp at h⟩
 |cons a l ih=>
  intro r h
  simp only[List.mapM_cons,Option.bind_eq_bind,Option.bind_eq_some_iff]at h
  obtain⟨b,I,fq,aB,he⟩:=h
  have he:b::fq=r:=by simpa using he
  subst he
  obtain⟨U,aa⟩:=ih aB
  refine⟨by simp[U],fun i x ao=> ?_⟩
  cases i with
  |zero=>simp at ao;subst ao;simpa using I
  |succ i=>simpa using aa i x (by simpa using ao)
theorem Bh {a:Addr} {n:Nat} {cs:List Value} (h:w.cells? base a n=some cs):cs.length=n∧∀ad c,cs[ad]? =some c→w.cell? (a.add ad)=some c:=by
 unfold World.cells? at h
 split at h
 ·obtain⟨U,aa⟩:=HT h
  refine⟨by simpa using U,fun ad c ae=> ?_⟩
  have aU:ad<n:=by
   have:=(List.getElem?_eq_some_iff.1 ae).1
   rw[U]at this;simpa using this
  rw[aa ad ad (by simp[aU]),ae]
 ·cases h
theorem HU {a:Addr} {c:Value} (h:w.cell? a=some c):a.spot=none∧a.block<w.heap.size:=by
 unfold World.cell? at h
 split at h
 ·rename_i cs e fr I
  split at h
  ·cases h
  ·rename_i R
   refine⟨by simpa using R,?_⟩
   exact(Array.getElem?_eq_some_iff.1 I).1
 ·cases h
theorem HV {τ:Type} {T e:TypeId} {sz:Nat} {ec:τ→j} {W:τ→Prop} (aM:P.underlying T=some (.slice e)) (cm:P.cellsOf e=sz) (RN:0<sz) (hw:∀y,(ec y).wd=sz) (h:mJ enc P w base sp held e ec W):
  mJ enc P w base sp held T (fun ys:List τ=>.slice (ys.map ec)) (fun ys:List τ=>ys.length≤9223372036854775807∧∀y∈ys,W y):=by
 intro fuel cs x ao
 rcases DataW.trod_slice aM ao with⟨rfl,_⟩|⟨a,len,cap,elems,rest,n,_,rfl,_,_,U,aa,aw,aN,_⟩
 ·exact⟨[],⟨by simp,by simp⟩,by simp only[List.map_nil];rw[ai];exact .inl ⟨rfl,none,0,rfl,Nat.zero_le _,fun _=>rfl⟩⟩
 ·by_cases bu:len=0
  ·subst bu
   exact⟨[],⟨by simp,by simp⟩,by simp only[List.map_nil];rw[ai];exact .inl ⟨rfl,some a,cap,rfl,aa,fun h=>by cases h⟩⟩
  ·rw[cm]at aN
   have get:∀i,i<len→∃nq y,w.cells? base (a.add (i*sz)) sz=some nq∧W y∧ai w (F0 w) (ec y) nq (fun _=>False):=by
    intro i ay
    have:=aN i ay
    rw[List.getElem?_eq_getElem (by omega),Option.bind_eq_some_iff]at this
    obtain⟨nq,aG,aL⟩:=this
    obtain⟨y,hy,rz⟩:=h _ _ _ aL
    exact⟨nq,y,aG,hy,rz⟩
   obtain⟨HW,jQ,aE,_,aO⟩:=get 0 (by omega)
   obtain⟨RO,ed⟩:=Bh aE
   have wR:∃c,HW[0]? =some c:=⟨_,List.getElem?_eq_getElem (by omega)⟩
   obtain⟨kC,wR⟩:=wR
   have nG:=HU (ed 0 kC wR)
   have bN:(a.add (0*sz)).add 0=a:=by simp[Addr.add]
   rw[bN]at nG
   obtain⟨b,o,spot⟩:=a
   obtain⟨lJ,Bi⟩:=nG
   simp only at lJ Bi;subst lJ
   have all:∀m,m≤len→∃(ys:List τ) (cO:List Value),ys.length=m∧(∀y∈ys,W y)∧cO.length=m*sz∧e8 w b o cO∧aJ w (F0 w) (ys.map ec) cO (fun _=>False):=by
    intro m
    induction m with
    |zero=>intro _;exact⟨[],[],rfl,by simp,by simp,fun ad c ae=>by simp at ae,by rw[List.map_nil,aJ]⟩
    |succ m ih=>
     intro hm
     obtain⟨ys,cO,bb,bq,cD,b1,cZ⟩:=ih (by omega)
     obtain⟨nq,y,aG,aL,a1⟩:=get m (by omega)
     obtain⟨eb,fc⟩:=Bh aG
     refine⟨ys++[y],cO++nq,by simp[bb],?_,by simp[cD,eb,Nat.add_mul],?_,?_⟩
     ·intro z bf
      rcases List.mem_append.1 bf with bf|bf
      ·exact bq z bf
      ·simp at bf;subst bf;exact aL
     ·intro ad c ae
      by_cases aU:ad<cO.length
      ·rw[List.getElem?_append_left aU]at ae
       exact b1 ad c ae
      ·rw[List.getElem?_append_right (by omega)]at ae
       have:=fc _ c ae
       rw[Addr.add_lit,Addr.add_lit]at this
       rw[←this]
       congr 2
       omega
     ·rw[List.map_append]
      refine aJ.append cZ ?_ (fun _ h=>h) (fun _ h=>h) (fun _ h=>h.elim)
      simp only[List.map_cons,List.map_nil]
      rw[aJ]
      exact⟨nq,[],fun _=>False,fun _=>False,by simp,a1,by rw[aJ],fun _ h=>h.elim,fun _ h=>h.elim,fun _ h=>h.elim⟩
   obtain⟨ys,cO,bb,bq,cD,b1,cZ⟩:=all len (Nat.le_refl _)
   refine⟨ys,⟨by rw[bb];exact Nat.le_trans U aa,bq⟩,?_⟩
   rw[ai]
   refine .inr ⟨b,o,cap,cO,sz,by simp[bb],Bi,by simp[bb,U],aa,?_,b1,cZ⟩
   intro d ab
   obtain⟨y,_,rfl⟩:=List.mem_map.1 ab
   exact hw y
def ends:Nat→List (Nat×Nat)→Option Nat
 |o,[]=>some o
 |o,(jM,sz)::r=>if o=jM then ends (o+sz) r else none
def Bj (w:World) (F:Nat→Prop) (cs:List Value):List (j×Nat×Nat)→Prop
 |[]=>True
 |(d,off,sz)::r=>ai w F d ((cs.drop off).take sz) (fun _=>False)∧Bj w F cs r
theorem HX {F:Nat→Prop} {cs:List Value}:∀(l:List (j×Nat×Nat)) (o:Nat),ends o (l.map (·.2))=some cs.length→Bj w F cs l→aJ w F (l.map (·.1)) (cs.drop o) (fun _=>False):=by
 intro l
 induction l with
 |nil=>intro o he _;simp[ends]at he;subst he;simp only[List.map_nil];rw[aJ];simp
 |cons p l ih=>
  intro o he bc
  obtain⟨d,off,sz⟩:=p
  simp only[List.map_cons,ends]at he
  split at he
  ·rename_i e;subst e
   obtain⟨f1,f2⟩:=bc
   simp only[List.map_cons]
   rw[aJ]
   refine⟨(cs.drop o).take sz,cs.drop (o+sz),fun _=>False,fun _=>False,?_,f1,ih _ he f2,fun _ h=>h.elim,fun _ h=>h.elim,fun _ h=>h.elim⟩
   rw[←List.drop_drop,List.take_append_drop]
  ·cases he
theorem Bk {n T:Nat} {cs:List Value} {o:Option (DataW H×List MemPlace)} {τ:Type} {e:τ→j} {W:τ→Prop} (aB:mJ enc P w base sp held T e W) (h:DataW.trod enc P w base sp held n T cs=o) (bs:o.isSome=true):
  ∃y,W y∧ai w (F0 w) (e y) cs (fun _=>False):=by
 obtain⟨x,rfl⟩:=Option.isSome_iff_exists.1 bs
 exact aB _ _ _ h
theorem HY {τ:Type} {T e:TypeId} {ec:τ→j} {W:List τ→Prop} {r:Reach} {gq:Nat} {v:Value} {d:DataW H} {ps:List MemPlace} (aM:P.underlying T=some (.slice e)) (aB:mJ enc P w base sp held T (fun ys:List τ=>.slice (ys.map ec)) W)
  (lR:Value.okWide P w r gq T v) (ab:DataW.Trod enc P w base sp held T v d ps):∃ys,Arg w (.slice (ys.map ec)) v∧W ys:=by
 obtain⟨a,len,cap,rfl⟩:=WideShapes.okWide_slice aM lR
 obtain⟨fuel,bc⟩:=ab
 obtain⟨ys,U,aa⟩:=aB _ _ _ bc
 refine⟨ys,⟨rfl,rfl,?_⟩,U⟩
 simpa [Value.cells,ba,e_]using aa
theorem HZ {τ:Type} {T:TypeId} {ah:Array Field} {es:τ→List j} {W:τ→Prop} {r:Reach} {gq:Nat} {v:Value} {d:DataW H} {ps:List MemPlace} (aM:P.underlying T=some (.struct ah)) (aB:mJ enc P w base sp held T (fun y=>.agg (es y)) W)
  (lR:Value.okWide P w r gq T v) (ab:DataW.Trod enc P w base sp held T v d ps):∃y,Arg w (.agg (es y)) v∧W y:=by
 obtain⟨cs,rfl,_⟩:=WideShapes.okWide_struct aM lR
 obtain⟨fuel,bc⟩:=ab
 obtain⟨y,U,aa⟩:=aB _ _ _ bc
 refine⟨y,⟨rfl,⟨cs,rfl⟩,?_⟩,U⟩
 simpa [Value.cells,ba,e_]using aa
end
theorem wS:(∀{α β:Type} (f:α→β) (l:List α),(l.map f).length=l.length)∧(∀{α:Type} (n:Nat) (a:α),(List.replicate n a).length=n)∧(∀{α:Type} (a:α) (l:List α),(a::l).length=l.length+1)∧(∀{α:Type},([]:List α).length=0)∧(∀{α:Type} (a b:List α),(a++b).length=a.length+b.length):=
 ⟨fun _ _=>List.length_map _,fun _ _=>List.length_replicate,fun _ _=>rfl,rfl,fun _ _=>List.length_append⟩
theorem Bl:(∀{α β:Type} (f:α→β) (l:List α) (i:Nat),(l.map f)[i]? =l[i]?.map f)∧(∀{α:Type} (a:α) (l:List α),(a::l)[0]? =some a)∧(∀{α:Type} (a:α) (l:List α) (i:Nat),(a::l)[i+1]? =l[i]?)∧
  (∀{α:Type} (a b:α) (l:List α),(a::l).set 0 b=b::l)∧(∀{α:Type} (a b:α) (l:List α) (n:Nat),(a::l).set (n+1) b=a::l.set n b)∧(∀{α:Type} (a:α) (l:List α) (n:Nat),(a::l).take (n+1)=a::l.take n)∧(∀{α:Type} (l:List α),l.take 0=[]):=
 ⟨fun _ _ _=>List.getElem?_map,fun _ _=>rfl,fun _ _ _=>rfl,fun _ _ _=>rfl,fun _ _ _ _=>rfl,fun _ _ _=>rfl,fun _=>rfl⟩
theorem Bm:(∀{α β:Type} (f:α→β) (a:α),(some a).map f=some (f a))∧(∀{α β:Type} (f:α→β),(none:Option α).map f=none)∧(∀{α:Type} (a:α),(some a).isSome=true):=⟨fun _ _=>rfl,fun _=>rfl,fun _=>rfl⟩
theorem wT:(∀{α β γ:Type} (g:β→γ) (f:α→β) (l:List α),(l.map f).map g=l.map (g∘f))∧(∀{α:Type} (l:List α),l++[]=l):=⟨fun _ _ _=>List.map_map,fun l=>List.append_nil l⟩
theorem tA:(∀{α β:Type} (f:α→β) (a:α) (l:List α),(a::l).map f=f a::l.map f)∧(∀{α β:Type} (f:α→β),([]:List α).map f=[])∧(∀{α β:Type} (f:α→β) (a b:List α),(a++b).map f=a.map f++b.map f)∧
  (∀{α β:Type} (f:α→β) (l:List α) (i:Nat) (a:α),(l.set i a).map f=(l.map f).set i (f a))∧(∀{α β:Type} (f:α→β) (l:List α) (i:Nat),(l.take i).map f=(l.map f).take i)∧(∀{α β:Type} (f:α→β) (l:List α) (i:Nat),(l.drop i).map f=(l.map f).drop i):=
 ⟨fun _ _ _=>rfl,fun _=>rfl,fun _ _ _=>List.map_append,fun _ _ _ _=>List.map_set,fun _ _ _=>List.map_take,fun _ _ _=>List.map_drop⟩
def H0:=PLift.up (And.intro @Hz (And.intro @At (And.intro @HB (And.intro @Hs (And.intro @As (And.intro @Hu (And.intro @AR (And.intro @AS (And.intro @Au (And.intro @Av (And.intro @Aw (And.intro @Ax (And.intro @Ay (And.intro @Az (And.intro @AU (And.intro @AV (And.intro @AW (And.intro @AX (And.intro @AY (And.intro @AZ (And.intro @AA (And.intro @AB (And.intro @AD (And.intro @AE (And.intro @AF (And.intro @AG (And.intro @AH (And.intro @AJ (And.intro @AK (And.intro @AL (And.intro @AP (And.intro @wM (And.intro @wO (And.intro @wN (And.intro @Bd (And.intro @Be (And.intro @Bf (And.intro @Bg (And.intro @cR.eq_def (And.intro @loc.eq_def (And.intro @dG.eq_def (And.intro @eH.eq_def (And.intro @ex.eq_def (And.intro @iO.eq_def (And.intro @fits.eq_def (And.intro @j.dn.eq_1 (And.intro @j.dn.eq_2 (And.intro @j.dn.eq_3 (And.intro @j.dn.eq_4 (And.intro @j.dn.eq_5 (And.intro @j.dn.eq_6 (And.intro @x4 (And.intro @x5 (And.intro @Bool.not_true (And.intro @Bool.not_false (And.intro @Bool.true_and (And.intro @Bool.and_true (And.intro @Bool.false_and (And.intro @Bool.true_or (And.intro @Bool.false_or (And.intro @Bool.and_self (And.intro @Bool.false_eq_true (And.intro @Bool.true_eq_false (And.intro @Bool.not_not (And.intro @true_and (And.intro @and_true (And.intro @and_self (And.intro @decide_true (And.intro @decide_false (And.intro @not_false_eq_true (And.intro @not_true_eq_false (And.intro @A_ (And.intro @Nat.zero_add (And.intro @Nat.add_zero (And.intro @Nat.mul_one (And.intro @Nat.lt_add_one (And.intro @Nat.zero_lt_succ (And.intro @dd.eq_def (And.intro @eR.eq_def (And.intro @flat.eq_1 (And.intro @flat.eq_2 (And.intro @flat.eq_3 (And.intro @flat.eq_4 (And.intro @flat.eq_5 (And.intro @flat.eq_6 (And.intro @flat.eq_7 (And.intro @mi.eq_1 (And.intro @mi.eq_2 (And.intro @ea.eq_def (And.intro @wS (And.intro @Bl (And.intro @Bm (@wT)))))))))))))))))))))))))))))))))))))))))))))))))))))))))))))))))))))))))))))))))))))))))))))
def hG:=PLift.up (And.intro @HA (And.intro @At (And.intro @HC (And.intro @Ht (And.intro @As (And.intro @Hv (And.intro @AR (And.intro @AS (And.intro @Au (And.intro @Av (And.intro @Aw (And.intro @Ax (And.intro @Ay (And.intro @Az (And.intro @AU (And.intro @AV (And.intro @AW (And.intro @AX (And.intro @AY (And.intro @AZ (And.intro @AA (And.intro @AB (And.intro @AD (And.intro @AE (And.intro @AF (And.intro @AG (And.intro @AH (And.intro @AJ (And.intro @AK (And.intro @AL (And.intro @AP (And.intro @wM (And.intro @wO (And.intro @wN (And.intro @Bd (And.intro @Be (And.intro @Bf (And.intro @Bg (And.intro @cR.eq_def (And.intro @loc.eq_def (And.intro @dG.eq_def (And.intro @eH.eq_def (And.intro @ex.eq_def (And.intro @iO.eq_def (And.intro @fits.eq_def (And.intro @j.dn.eq_1 (And.intro @j.dn.eq_2 (And.intro @j.dn.eq_3 (And.intro @j.dn.eq_4 (And.intro @j.dn.eq_5 (And.intro @j.dn.eq_6 (And.intro @x4 (And.intro @x5 (And.intro @Bool.not_true (And.intro @Bool.not_false (And.intro @Bool.true_and (And.intro @Bool.and_true (And.intro @Bool.false_and (And.intro @Bool.true_or (And.intro @Bool.false_or (And.intro @Bool.and_self (And.intro @Bool.false_eq_true (And.intro @Bool.true_eq_false (And.intro @Bool.not_not (And.intro @true_and (And.intro @and_true (And.intro @and_self (And.intro @decide_true (And.intro @decide_false (And.intro @not_false_eq_true (And.intro @not_true_eq_false (And.intro @A_ (And.intro @Nat.zero_add (And.intro @Nat.add_zero (And.intro @Nat.mul_one (And.intro @Nat.lt_add_one (And.intro @Nat.zero_lt_succ (And.intro @dd.eq_def (And.intro @eR.eq_def (And.intro @flat.eq_1 (And.intro @flat.eq_2 (And.intro @flat.eq_3 (And.intro @flat.eq_4 (And.intro @flat.eq_5 (And.intro @flat.eq_6 (And.intro @flat.eq_7 (And.intro @mi.eq_1 (And.intro @mi.eq_2 (And.intro @ea.eq_def (And.intro @wS (And.intro @Bl (And.intro @Bm (@wT)))))))))))))))))))))))))))))))))))))))))))))))))))))))))))))))))))))))))))))))))))))))))))))
def H2:=PLift.up (And.intro @wM (And.intro @wO (And.intro @wN (And.intro @ha.eq_1 (And.intro @Nat.zero_add (And.intro @Bool.not_true (And.intro @Bool.not_false (And.intro @Bool.true_and (And.intro @Bool.and_true (And.intro @Bool.false_and (And.intro @Bool.true_or (And.intro @Bool.false_or (And.intro @Bool.and_self (And.intro @Bool.false_eq_true (And.intro @Bool.true_eq_false (And.intro @Bool.not_not (And.intro @wS (And.intro @wT (@tA)))))))))))))))))))
end Go.bZ
