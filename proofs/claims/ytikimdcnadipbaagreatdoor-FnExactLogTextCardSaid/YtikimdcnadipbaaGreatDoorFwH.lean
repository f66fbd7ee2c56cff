/- Part of a proof that a law returns true for every input. No condition. -/
import Derived.Test.YtikimdcnadipbaaGreatDoorFwG
import Derived.ChangeArms
import Derived.WideShapes
namespace Go.bZ
section
variable {H:Type} {enc:TypeId×Value→H} {P:Program} {w:World} {base:Nat} {sp:Nat→Bool} {held:Bool}
def lM {τ:Type} (enc:TypeId×Value→H) (P:Program) (w:World) (base:Nat) (sp:Nat→Bool) (held:Bool) (T:TypeId) (e:τ→I) (W:τ→Prop):Prop:=
 ∀(fuel:Nat) (cs:List Value) (x:DataW H×List MemPlace),DataW.trod enc P w base sp held fuel T cs=some x→∃y,W y∧ak w (F0 w) (e y) cs (fun _=>False)
theorem KI {T:TypeId} {k:IntKind} (aK:P.underlying T=some (.int k)):lM enc P w base sp held T (fun n=>.int k n) (fun n=>(Lit.int k n).wf=true):=by
 intro fuel cs x h
 obtain⟨n,rfl,_,hw⟩:=DataW.trod_int aK h
 exact⟨n,hw,by rw[ak]⟩
theorem KJ {T:TypeId} (aK:P.underlying T=some (.int .i64)):lM enc P w base sp held T (fun n=>.int .i64 n) (fun n=> -9223372036854775808≤n∧n≤9223372036854775807):=by
 intro fuel cs x h
 obtain⟨n,hw,aC⟩:=KI aK fuel cs x h
 exact⟨n,wf_i64 hw,aC⟩
theorem KK {T:TypeId} (aK:P.underlying T=some .string):lM enc P w base sp held T (fun s=>.str s) (fun s=>s.length≤9223372036854775807):=by
 intro fuel cs x h
 obtain⟨s,rfl,_,U⟩:=DataW.trod_string aK h
 exact⟨s.data.toList,U,by rw[ak]⟩
theorem KL {α β:Type} {f:α→Option β}:∀{l:List α} {r:List β},l.mapM f=some r→r.length=l.length∧∀(i:Nat) (a:α),l[i]? =some a→f a=r[i]? :=by
 intro l
 induction l with
 |nil=>intro r h;simp at h;subst h;exact⟨rfl,fun i a h=>by simp at h⟩
 |cons a l ih=>
  intro r h
  simp only[List.mapM_cons,Option.bind_eq_bind,Option.bind_eq_some_iff]at h
  obtain⟨b,J,gU,aC,he⟩:=h
  have he:b::gU=r:=by simpa using he
  subst he
  obtain⟨aa,ab⟩:=ih aC
  refine⟨by simp[aa],fun i x ai=> ?_⟩
  cases i with
  |zero=>simp at ai;subst ai;simpa using J
  |succ i=>simpa using ab i x (by simpa using ai)
theorem Dt {a:Addr} {n:Nat} {cs:List Value} (h:w.cells? base a n=some cs):cs.length=n∧∀j c,cs[j]? =some c→w.cell? (a.add j)=some c:=by
 unfold World.cells? at h
 split at h
 ·obtain⟨aa,ab⟩:=KL h
  refine⟨by simpa using aa,fun j c af=> ?_⟩
  have bE:j<n:=by
   have:=(List.getElem?_eq_some_iff.1 af).1
   rw[aa]at this;simpa using this
  rw[ab j j (by simp[bE]),af]
 ·cases h
theorem KM {a:Addr} {c:Value} (h:w.cell? a=some c):a.spot=none∧a.block<w.heap.size:=by
 unfold World.cell? at h
 split at h
 ·rename_i cs e fr J
  split at h
  ·cases h
  ·rename_i U
   refine⟨by simpa using U,?_⟩
   exact(Array.getElem?_eq_some_iff.1 J).1
 ·cases h
theorem KN {τ:Type} {T e:TypeId} {sz:Nat} {ec:τ→I} {W:τ→Prop} (aK:P.underlying T=some (.slice e)) (cO:P.cellsOf e=sz) (yB:0<sz) (hw:∀y,(ec y).wd=sz) (h:lM enc P w base sp held e ec W):
  lM enc P w base sp held T (fun bA:List τ=>.slice (bA.map ec)) (fun bA:List τ=>bA.length≤9223372036854775807∧∀y∈bA,W y):=by
 intro fuel cs x ai
 rcases DataW.trod_slice aK ai with⟨rfl,_⟩|⟨a,len,cap,elems,rest,n,_,rfl,_,_,aa,ab,aB,aP,_⟩
 ·exact⟨[],⟨by simp,by simp⟩,by simp only[List.map_nil];rw[ak];exact .inl ⟨rfl,none,0,rfl,Nat.zero_le _,fun _=>rfl⟩⟩
 ·by_cases bl:len=0
  ·subst bl
   exact⟨[],⟨by simp,by simp⟩,by simp only[List.map_nil];rw[ak];exact .inl ⟨rfl,some a,cap,rfl,ab,fun h=>by cases h⟩⟩
  ·rw[cO]at aP
   have get:∀i,i<len→∃n3 y,w.cells? base (a.add (i*sz)) sz=some n3∧W y∧ak w (F0 w) (ec y) n3 (fun _=>False):=by
    intro i ay
    have:=aP i ay
    rw[List.getElem?_eq_getElem (by omega),Option.bind_eq_some_iff]at this
    obtain⟨n3,aF,aJ⟩:=this
    obtain⟨y,l_,ma⟩:=h _ _ _ aJ
    exact⟨n3,y,aF,l_,ma⟩
   obtain⟨KO,ks,g1,_,g2⟩:=get 0 (by omega)
   obtain⟨Ys,eR⟩:=Dt g1
   have qY:∃c,KO[0]? =some c:=⟨_,List.getElem?_eq_getElem (by omega)⟩
   obtain⟨c0,qY⟩:=qY
   have Du:=KM (eR 0 c0 qY)
   have br:(a.add (0*sz)).add 0=a:=by simp[Addr.add]
   rw[br]at Du
   obtain⟨b,o,spot⟩:=a
   obtain⟨lC,sT⟩:=Du
   simp only at lC sT;subst lC
   have all:∀m,m≤len→∃(bA:List τ) (cN:List Value),bA.length=m∧(∀y∈bA,W y)∧cN.length=m*sz∧fc w b o cN∧aL w (F0 w) (bA.map ec) cN (fun _=>False):=by
    intro m
    induction m with
    |zero=>intro _;exact⟨[],[],rfl,by simp,by simp,fun j c af=>by simp at af,by rw[List.map_nil,aL]⟩
    |succ m ih=>
     intro hm
     obtain⟨bA,cN,bg,bw,cM,cc,c8⟩:=ih (by omega)
     obtain⟨n3,y,aF,aJ,aN⟩:=get m (by omega)
     obtain⟨m1,m2⟩:=Dt aF
     refine⟨bA++[y],cN++n3,by simp[bg],?_,by simp[cM,m1,Nat.add_mul],?_,?_⟩
     ·intro z bd
      rcases List.mem_append.1 bd with bd|bd
      ·exact bw z bd
      ·simp at bd;subst bd;exact aJ
     ·intro j c af
      by_cases bE:j<cN.length
      ·rw[List.getElem?_append_left bE]at af
       exact cc j c af
      ·rw[List.getElem?_append_right (by omega)]at af
       have:=m2 _ c af
       rw[Addr.add_lit,Addr.add_lit]at this
       rw[←this]
       congr 2
       omega
     ·rw[List.map_append]
      refine aL.append c8 ?_ (fun _ h=>h) (fun _ h=>h) (fun _ h=>h.elim)
      simp only[List.map_cons,List.map_nil]
      rw[aL]
      exact⟨n3,[],fun _=>False,fun _=>False,by simp,aN,by rw[aL],fun _ h=>h.elim,fun _ h=>h.elim,fun _ h=>h.elim⟩
   obtain⟨bA,cN,bg,bw,cM,cc,c8⟩:=all len (Nat.le_refl _)
   refine⟨bA,⟨by rw[bg];exact Nat.le_trans aa ab,bw⟩,?_⟩
   rw[ak]
   refine .inr ⟨b,o,cap,cN,sz,by simp[bg],sT,by simp[bg,aa],ab,?_,cc,c8⟩
   intro d ae
   obtain⟨y,_,rfl⟩:=List.mem_map.1 ae
   exact hw y
def ends:Nat→List (Nat×Nat)→Option Nat
 |o,[]=>some o
 |o,(km,sz)::r=>if o=km then ends (o+sz) r else none
def Dv (w:World) (F:Nat→Prop) (cs:List Value):List (I×Nat×Nat)→Prop
 |[]=>True
 |(d,off,sz)::r=>ak w F d ((cs.drop off).take sz) (fun _=>False)∧Dv w F cs r
theorem KP {F:Nat→Prop} {cs:List Value}:∀(l:List (I×Nat×Nat)) (o:Nat),ends o (l.map (·.2))=some cs.length→Dv w F cs l→aL w F (l.map (·.1)) (cs.drop o) (fun _=>False):=by
 intro l
 induction l with
 |nil=>intro o he _;simp[ends]at he;subst he;simp only[List.map_nil];rw[aL];simp
 |cons p l ih=>
  intro o he bc
  obtain⟨d,off,sz⟩:=p
  simp only[List.map_cons,ends]at he
  split at he
  ·rename_i e;subst e
   obtain⟨f1,f2⟩:=bc
   simp only[List.map_cons]
   rw[aL]
   refine⟨(cs.drop o).take sz,cs.drop (o+sz),fun _=>False,fun _=>False,?_,f1,ih _ he f2,fun _ h=>h.elim,fun _ h=>h.elim,fun _ h=>h.elim⟩
   rw[←List.drop_drop,List.take_append_drop]
  ·cases he
theorem uY {n T:Nat} {cs:List Value} {o:Option (DataW H×List MemPlace)} {τ:Type} {e:τ→I} {W:τ→Prop} (aC:lM enc P w base sp held T e W) (h:DataW.trod enc P w base sp held n T cs=o) (bH:o.isSome=true):
  ∃y,W y∧ak w (F0 w) (e y) cs (fun _=>False):=by
 obtain⟨x,rfl⟩:=Option.isSome_iff_exists.1 bH
 exact aC _ _ _ h
theorem KQ {τ:Type} {T e:TypeId} {ec:τ→I} {W:List τ→Prop} {r:Reach} {gV:Nat} {v:Value} {d:DataW H} {ps:List MemPlace} (aK:P.underlying T=some (.slice e)) (aC:lM enc P w base sp held T (fun bA:List τ=>.slice (bA.map ec)) W)
  (pj:Value.okWide P w r gV T v) (ae:DataW.Trod enc P w base sp held T v d ps):∃bA,Arg w (.slice (bA.map ec)) v∧W bA:=by
 obtain⟨a,len,cap,rfl⟩:=WideShapes.okWide_slice aK pj
 obtain⟨fuel,bc⟩:=ae
 obtain⟨bA,aa,ab⟩:=aC _ _ _ bc
 refine⟨bA,⟨rfl,rfl,?_⟩,aa⟩
 simpa [Value.cells,bs,ff]using ab
end
theorem yC:(∀{α β:Type} (f:α→β) (l:List α),(l.map f).length=l.length)∧(∀{α:Type} (n:Nat) (a:α),(List.replicate n a).length=n)∧(∀{α:Type} (a:α) (l:List α),(a::l).length=l.length+1)∧(∀{α:Type},([]:List α).length=0)∧(∀{α:Type} (a b:List α),(a++b).length=a.length+b.length):=
 ⟨fun _ _=>List.length_map _,fun _ _=>List.length_replicate,fun _ _=>rfl,rfl,fun _ _=>List.length_append⟩
theorem Dw:(∀{α β:Type} (f:α→β) (l:List α) (i:Nat),(l.map f)[i]? =l[i]?.map f)∧(∀{α:Type} (a:α) (l:List α),(a::l)[0]? =some a)∧(∀{α:Type} (a:α) (l:List α) (i:Nat),(a::l)[i+1]? =l[i]?)∧
  (∀{α:Type} (a b:α) (l:List α),(a::l).set 0 b=b::l)∧(∀{α:Type} (a b:α) (l:List α) (n:Nat),(a::l).set (n+1) b=a::l.set n b)∧(∀{α:Type} (a:α) (l:List α) (n:Nat),(a::l).take (n+1)=a::l.take n)∧(∀{α:Type} (l:List α),l.take 0=[]):=
 ⟨fun _ _ _=>List.getElem?_map,fun _ _=>rfl,fun _ _ _=>rfl,fun _ _ _=>rfl,fun _ _ _ _=>rfl,fun _ _ _=>rfl,fun _=>rfl⟩
theorem Dx:(∀{α β:Type} (f:α→β) (a:α),(some a).map f=some (f a))∧(∀{α β:Type} (f:α→β),(none:Option α).map f=none)∧(∀{α:Type} (a:α),(some a).isSome=true):=⟨fun _ _=>rfl,fun _=>rfl,fun _=>rfl⟩
theorem yD:(∀{α β γ:Type} (g:β→γ) (f:α→β) (l:List α),(l.map f).map g=l.map (g∘f))∧(∀{α:Type} (l:List α),l++[]=l):=⟨fun _ _ _=>List.map_map,fun l=>List.append_nil l⟩
theorem yE:(∀{α β:Type} (f:α→β) (a:α) (l:List α),(a::l).map f=f a::l.map f)∧(∀{α β:Type} (f:α→β),([]:List α).map f=[])∧(∀{α β:Type} (f:α→β) (a b:List α),(a++b).map f=a.map f++b.map f)∧
  (∀{α β:Type} (f:α→β) (l:List α) (i:Nat) (a:α),(l.set i a).map f=(l.map f).set i (f a))∧(∀{α β:Type} (f:α→β) (l:List α) (i:Nat),(l.take i).map f=(l.map f).take i)∧(∀{α β:Type} (f:α→β) (l:List α) (i:Nat),(l.drop i).map f=(l.map f).drop i):=
 ⟨fun _ _ _=>rfl,fun _=>rfl,fun _ _ _=>List.map_append,fun _ _ _ _=>List.map_set,fun _ _ _=>List.map_take,fun _ _ _=>List.map_drop⟩
def KR:=PLift.up (And.intro @Ko (And.intro @CJ (And.intro @Kq (And.intro @Ki (And.intro @CI (And.intro @Kk (And.intro @C5 (And.intro @C6 (And.intro @CK (And.intro @CL (And.intro @CM (And.intro @CN (And.intro @CO (And.intro @CP (And.intro @C7 (And.intro @C8 (And.intro @C9 (And.intro @C_ (And.intro @Da (And.intro @Db (And.intro @CQ (And.intro @CR (And.intro @CS (And.intro @CT (And.intro @CU (And.intro @CV (And.intro @CW (And.intro @CX (And.intro @CY (And.intro @CZ (And.intro @C3 (And.intro @yw (And.intro @yy (And.intro @yx (And.intro @Dp (And.intro @Dq (And.intro @Dr (And.intro @Ds (And.intro @c7.eq_def (And.intro @loc.eq_def (And.intro @dX.eq_def (And.intro @ek.eq_def (And.intro @ex.eq_def (And.intro @jm.eq_def (And.intro @fits.eq_def (And.intro @I.dD.eq_1 (And.intro @I.dD.eq_2 (And.intro @I.dD.eq_3 (And.intro @I.dD.eq_4 (And.intro @I.dD.eq_5 (And.intro @I.dD.eq_6 (And.intro @Ah (And.intro @Ai (And.intro @Bool.not_true (And.intro @Bool.not_false (And.intro @Bool.true_and (And.intro @Bool.and_true (And.intro @Bool.false_and (And.intro @Bool.true_or (And.intro @Bool.false_or (And.intro @Bool.and_self (And.intro @Bool.false_eq_true (And.intro @Bool.true_eq_false (And.intro @Bool.not_not (And.intro @true_and (And.intro @and_true (And.intro @and_self (And.intro @decide_true (And.intro @decide_false (And.intro @not_false_eq_true (And.intro @not_true_eq_false (And.intro @Dk (And.intro @Nat.zero_add (And.intro @Nat.add_zero (And.intro @Nat.mul_one (And.intro @Nat.lt_add_one (And.intro @Nat.zero_lt_succ (And.intro @dB.eq_def (And.intro @e1.eq_def (And.intro @flat.eq_1 (And.intro @flat.eq_2 (And.intro @flat.eq_3 (And.intro @flat.eq_4 (And.intro @flat.eq_5 (And.intro @flat.eq_6 (And.intro @flat.eq_7 (And.intro @mO.eq_1 (And.intro @mO.eq_2 (And.intro @et.eq_def (And.intro @yC (And.intro @Dw (And.intro @Dx (@yD)))))))))))))))))))))))))))))))))))))))))))))))))))))))))))))))))))))))))))))))))))))))))))))
def sU:=PLift.up (And.intro @Kp (And.intro @CJ (And.intro @Kr (And.intro @Kj (And.intro @CI (And.intro @Kl (And.intro @C5 (And.intro @C6 (And.intro @CK (And.intro @CL (And.intro @CM (And.intro @CN (And.intro @CO (And.intro @CP (And.intro @C7 (And.intro @C8 (And.intro @C9 (And.intro @C_ (And.intro @Da (And.intro @Db (And.intro @CQ (And.intro @CR (And.intro @CS (And.intro @CT (And.intro @CU (And.intro @CV (And.intro @CW (And.intro @CX (And.intro @CY (And.intro @CZ (And.intro @C3 (And.intro @yw (And.intro @yy (And.intro @yx (And.intro @Dp (And.intro @Dq (And.intro @Dr (And.intro @Ds (And.intro @c7.eq_def (And.intro @loc.eq_def (And.intro @dX.eq_def (And.intro @ek.eq_def (And.intro @ex.eq_def (And.intro @jm.eq_def (And.intro @fits.eq_def (And.intro @I.dD.eq_1 (And.intro @I.dD.eq_2 (And.intro @I.dD.eq_3 (And.intro @I.dD.eq_4 (And.intro @I.dD.eq_5 (And.intro @I.dD.eq_6 (And.intro @Ah (And.intro @Ai (And.intro @Bool.not_true (And.intro @Bool.not_false (And.intro @Bool.true_and (And.intro @Bool.and_true (And.intro @Bool.false_and (And.intro @Bool.true_or (And.intro @Bool.false_or (And.intro @Bool.and_self (And.intro @Bool.false_eq_true (And.intro @Bool.true_eq_false (And.intro @Bool.not_not (And.intro @true_and (And.intro @and_true (And.intro @and_self (And.intro @decide_true (And.intro @decide_false (And.intro @not_false_eq_true (And.intro @not_true_eq_false (And.intro @Dk (And.intro @Nat.zero_add (And.intro @Nat.add_zero (And.intro @Nat.mul_one (And.intro @Nat.lt_add_one (And.intro @Nat.zero_lt_succ (And.intro @dB.eq_def (And.intro @e1.eq_def (And.intro @flat.eq_1 (And.intro @flat.eq_2 (And.intro @flat.eq_3 (And.intro @flat.eq_4 (And.intro @flat.eq_5 (And.intro @flat.eq_6 (And.intro @flat.eq_7 (And.intro @mO.eq_1 (And.intro @mO.eq_2 (And.intro @et.eq_def (And.intro @yC (And.intro @Dw (And.intro @Dx (@yD)))))))))))))))))))))))))))))))))))))))))))))))))))))))))))))))))))))))))))))))))))))))))))))
def KS:=PLift.up (And.intro @yw (And.intro @yy (And.intro @yx (And.intro @ea.eq_1 (And.intro @Nat.zero_add (And.intro @Bool.not_true (And.intro @Bool.not_false (And.intro @Bool.true_and (And.intro @Bool.and_true (And.intro @Bool.false_and (And.intro @Bool.true_or (And.intro @Bool.false_or (And.intro @Bool.and_self (And.intro @Bool.false_eq_true (And.intro @Bool.true_eq_false (And.intro @Bool.not_not (And.intro @yC (And.intro @yD (@yE)))))))))))))))))))
end Go.bZ
