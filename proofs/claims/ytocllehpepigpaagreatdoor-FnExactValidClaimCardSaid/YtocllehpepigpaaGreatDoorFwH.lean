/- Part of a proof that a law returns true for every input. No condition. -/
import Derived.Test.YtocllehpepigpaaGreatDoorFwG
import Derived.ChangeArms
import Derived.WideShapes
namespace Go.cI
section
variable {H:Type} {enc:TypeId×Value→H} {P:Program} {w:World} {base:Nat} {sp:Nat→Bool} {held:Bool}
def iX {τ:Type} (enc:TypeId×Value→H) (P:Program) (w:World) (base:Nat) (sp:Nat→Bool) (held:Bool) (T:TypeId) (e:τ→I) (W:τ→Prop):Prop:=
 ∀(fuel:Nat) (cs:List Value) (x:DataW H×List MemPlace),DataW.trod enc P w base sp held fuel T cs=some x→∃y,W y∧ak w (F0 w) (e y) cs (fun _=>False)
theorem O6 {T:TypeId} {k:IntKind} (aY:P.underlying T=some (.int k)):iX enc P w base sp held T (fun n=>.int k n) (fun n=>(Lit.int k n).wf=true):=by
 intro fuel cs x h
 obtain⟨n,rfl,_,hw⟩:=DataW.trod_int aY h
 exact⟨n,hw,by rw[ak]⟩
theorem O7 {T:TypeId} (aY:P.underlying T=some (.int .i64)):iX enc P w base sp held T (fun n=>.int .i64 n) (fun n=> -9223372036854775808≤n∧n≤9223372036854775807):=by
 intro fuel cs x h
 obtain⟨n,hw,aH⟩:=O6 aY fuel cs x h
 exact⟨n,wf_i64 hw,aH⟩
theorem O8 {T:TypeId} (aY:P.underlying T=some .bool):iX enc P w base sp held T (fun b=>.bool b) (fun _=>True):=by
 intro fuel cs x h
 obtain⟨b,rfl,_⟩:=DataW.trod_bool aY h
 exact⟨b,trivial,by rw[ak]⟩
theorem O9 {T:TypeId} (aY:P.underlying T=some .string):iX enc P w base sp held T (fun s=>.str s) (fun s=>s.length≤9223372036854775807):=by
 intro fuel cs x h
 obtain⟨s,rfl,_,aa⟩:=DataW.trod_string aY h
 exact⟨s.data.toList,aa,by rw[ak]⟩
theorem O_ {α β:Type} {f:α→Option β}:∀{l:List α} {r:List β},l.mapM f=some r→r.length=l.length∧∀(i:Nat) (a:α),l[i]? =some a→f a=r[i]? :=by
 intro l
 induction l with
 |nil=>intro r h;simp at h;subst h;exact⟨rfl,fun i a h=>by simp at h⟩
 |cons a l ih=>
  intro r h
  simp only[List.mapM_cons,Option.bind_eq_bind,Option.bind_eq_some_iff]at h
  obtain⟨b,U,jr,aH,he⟩:=h
  have he:b::jr=r:=by simpa using he
  subst he
  obtain⟨ad,ag⟩:=ih aH
  refine⟨by simp[ad],fun i x ai=> ?_⟩
  cases i with
  |zero=>simp at ai;subst ai;simpa using U
  |succ i=>simpa using ag i x (by simpa using ai)
theorem He {a:Addr} {n:Nat} {cs:List Value} (h:w.cells? base a n=some cs):cs.length=n∧∀j c,cs[j]? =some c→w.cell? (a.add j)=some c:=by
 unfold World.cells? at h
 split at h
 ·obtain⟨ad,ag⟩:=O_ h
  refine⟨by simpa using ad,fun j c aj=> ?_⟩
  have b6:j<n:=by
   have:=(List.getElem?_eq_some_iff.1 aj).1
   rw[ad]at this;simpa using this
  rw[ag j j (by simp[b6]),aj]
 ·cases h
theorem Pa {a:Addr} {c:Value} (h:w.cell? a=some c):a.spot=none∧a.block<w.heap.size:=by
 unfold World.cell? at h
 split at h
 ·rename_i cs e fr U
  split at h
  ·cases h
  ·rename_i aa
   refine⟨by simpa using aa,?_⟩
   exact(Array.getElem?_eq_some_iff.1 U).1
 ·cases h
theorem rD {τ:Type} {T e:TypeId} {sz:Nat} {ec:τ→I} {W:τ→Prop} (aY:P.underlying T=some (.slice e)) (dJ:P.cellsOf e=sz) (Cl:0<sz) (hw:∀y,(ec y).wd=sz) (h:iX enc P w base sp held e ec W):
  iX enc P w base sp held T (fun cf:List τ=>.slice (cf.map ec)) (fun cf:List τ=>cf.length≤9223372036854775807∧∀y∈cf,W y):=by
 intro fuel cs x ai
 rcases DataW.trod_slice aY ai with⟨rfl,_⟩|⟨a,len,cap,elems,rest,n,_,rfl,_,_,ad,ag,aF,a8,_⟩
 ·exact⟨[],⟨by simp,by simp⟩,by simp only[List.map_nil];rw[ak];exact .inl ⟨rfl,none,0,rfl,Nat.zero_le _,fun _=>rfl⟩⟩
 ·by_cases bm:len=0
  ·subst bm
   exact⟨[],⟨by simp,by simp⟩,by simp only[List.map_nil];rw[ak];exact .inl ⟨rfl,some a,cap,rfl,ag,fun h=>by cases h⟩⟩
  ·rw[dJ]at a8
   have get:∀i,i<len→∃p7 y,w.cells? base (a.add (i*sz)) sz=some p7∧W y∧ak w (F0 w) (ec y) p7 (fun _=>False):=by
    intro i ay
    have:=a8 i ay
    rw[List.getElem?_eq_getElem (by omega),Option.bind_eq_some_iff]at this
    obtain⟨p7,aT,aX⟩:=this
    obtain⟨y,fB,hx⟩:=h _ _ _ aX
    exact⟨p7,y,aT,fB,hx⟩
   obtain⟨Pb,gH,g1,_,g2⟩:=get 0 (by omega)
   obtain⟨al6,gq⟩:=He g1
   have Cm:∃c,Pb[0]? =some c:=⟨_,List.getElem?_eq_getElem (by omega)⟩
   obtain⟨c0,Cm⟩:=Cm
   have Hf:=Pa (gq 0 c0 Cm)
   have cb:(a.add (0*sz)).add 0=a:=by simp[Addr.add]
   rw[cb]at Hf
   obtain⟨b,o,spot⟩:=a
   obtain⟨pg,Hg⟩:=Hf
   simp only at pg Hg;subst pg
   have all:∀m,m≤len→∃(cf:List τ) (dI:List Value),cf.length=m∧(∀y∈cf,W y)∧dI.length=m*sz∧hl w b o dI∧aW w (F0 w) (cf.map ec) dI (fun _=>False):=by
    intro m
    induction m with
    |zero=>intro _;exact⟨[],[],rfl,by simp,by simp,fun j c aj=>by simp at aj,by rw[List.map_nil,aW]⟩
    |succ m ih=>
     intro hm
     obtain⟨cf,dI,bV,b7,eh,dd,eO⟩:=ih (by omega)
     obtain⟨p7,y,aT,aX,aS⟩:=get m (by omega)
     obtain⟨m1,m2⟩:=He aT
     refine⟨cf++[y],dI++p7,by simp[bV],?_,by simp[eh,m1,Nat.add_mul],?_,?_⟩
     ·intro z bG
      rcases List.mem_append.1 bG with bG|bG
      ·exact b7 z bG
      ·simp at bG;subst bG;exact aX
     ·intro j c aj
      by_cases b6:j<dI.length
      ·rw[List.getElem?_append_left b6]at aj
       exact dd j c aj
      ·rw[List.getElem?_append_right (by omega)]at aj
       have:=m2 _ c aj
       rw[Addr.add_lit,Addr.add_lit]at this
       rw[←this]
       congr 2
       omega
     ·rw[List.map_append]
      refine aW.append eO ?_ (fun _ h=>h) (fun _ h=>h) (fun _ h=>h.elim)
      simp only[List.map_cons,List.map_nil]
      rw[aW]
      exact⟨p7,[],fun _=>False,fun _=>False,by simp,aS,by rw[aW],fun _ h=>h.elim,fun _ h=>h.elim,fun _ h=>h.elim⟩
   obtain⟨cf,dI,bV,b7,eh,dd,eO⟩:=all len (Nat.le_refl _)
   refine⟨cf,⟨by rw[bV];exact Nat.le_trans ad ag,b7⟩,?_⟩
   rw[ak]
   refine .inr ⟨b,o,cap,dI,sz,by simp[bV],Hg,by simp[bV,ad],ag,?_,dd,eO⟩
   intro d ah
   obtain⟨y,_,rfl⟩:=List.mem_map.1 ah
   exact hw y
def ends:Nat→List (Nat×Nat)→Option Nat
 |o,[]=>some o
 |o,(mK,sz)::r=>if o=mK then ends (o+sz) r else none
def Hh (w:World) (F:Nat→Prop) (cs:List Value):List (I×Nat×Nat)→Prop
 |[]=>True
 |(d,off,sz)::r=>ak w F d ((cs.drop off).take sz) (fun _=>False)∧Hh w F cs r
theorem vn {F:Nat→Prop} {cs:List Value}:∀(l:List (I×Nat×Nat)) (o:Nat),ends o (l.map (·.2))=some cs.length→Hh w F cs l→aW w F (l.map (·.1)) (cs.drop o) (fun _=>False):=by
 intro l
 induction l with
 |nil=>intro o he _;simp[ends]at he;subst he;simp only[List.map_nil];rw[aW];simp
 |cons p l ih=>
  intro o he br
  obtain⟨d,off,sz⟩:=p
  simp only[List.map_cons,ends]at he
  split at he
  ·rename_i e;subst e
   obtain⟨f1,f2⟩:=br
   simp only[List.map_cons]
   rw[aW]
   refine⟨(cs.drop o).take sz,cs.drop (o+sz),fun _=>False,fun _=>False,?_,f1,ih _ he f2,fun _ h=>h.elim,fun _ h=>h.elim,fun _ h=>h.elim⟩
   rw[←List.drop_drop,List.take_append_drop]
  ·cases he
theorem kf {n T:Nat} {cs:List Value} {o:Option (DataW H×List MemPlace)} {τ:Type} {e:τ→I} {W:τ→Prop} (aH:iX enc P w base sp held T e W) (h:DataW.trod enc P w base sp held n T cs=o) (cd:o.isSome=true):
  ∃y,W y∧ak w (F0 w) (e y) cs (fun _=>False):=by
 obtain⟨x,rfl⟩:=Option.isSome_iff_exists.1 cd
 exact aH _ _ _ h
theorem Hi {τ:Type} {T:TypeId} {aq:Array Field} {es:τ→List I} {W:τ→Prop} {r:Reach} {js:Nat} {v:Value} {d:DataW H} {ps:List MemPlace} (aY:P.underlying T=some (.struct aq)) (aH:iX enc P w base sp held T (fun y=>.agg (es y)) W)
  (qf:Value.okWide P w r js T v) (ah:DataW.Trod enc P w base sp held T v d ps):∃y,Arg w (.agg (es y)) v∧W y:=by
 obtain⟨cs,rfl,_⟩:=WideShapes.okWide_struct aY qf
 obtain⟨fuel,br⟩:=ah
 obtain⟨y,ad,ag⟩:=aH _ _ _ br
 refine⟨y,⟨rfl,⟨cs,rfl⟩,?_⟩,ad⟩
 simpa [Value.cells,bU,hp]using ag
end
theorem Cn:(∀{α β:Type} (f:α→β) (l:List α),(l.map f).length=l.length)∧(∀{α:Type} (n:Nat) (a:α),(List.replicate n a).length=n)∧(∀{α:Type} (a:α) (l:List α),(a::l).length=l.length+1)∧(∀{α:Type},([]:List α).length=0)∧(∀{α:Type} (a b:List α),(a++b).length=a.length+b.length):=
 ⟨fun _ _=>List.length_map _,fun _ _=>List.length_replicate,fun _ _=>rfl,rfl,fun _ _=>List.length_append⟩
theorem Hj:(∀{α β:Type} (f:α→β) (l:List α) (i:Nat),(l.map f)[i]? =l[i]?.map f)∧(∀{α:Type} (a:α) (l:List α),(a::l)[0]? =some a)∧(∀{α:Type} (a:α) (l:List α) (i:Nat),(a::l)[i+1]? =l[i]?)∧
  (∀{α:Type} (a b:α) (l:List α),(a::l).set 0 b=b::l)∧(∀{α:Type} (a b:α) (l:List α) (n:Nat),(a::l).set (n+1) b=a::l.set n b)∧(∀{α:Type} (a:α) (l:List α) (n:Nat),(a::l).take (n+1)=a::l.take n)∧(∀{α:Type} (l:List α),l.take 0=[]):=
 ⟨fun _ _ _=>List.getElem?_map,fun _ _=>rfl,fun _ _ _=>rfl,fun _ _ _=>rfl,fun _ _ _ _=>rfl,fun _ _ _=>rfl,fun _=>rfl⟩
theorem Hk:(∀{α β:Type} (f:α→β) (a:α),(some a).map f=some (f a))∧(∀{α β:Type} (f:α→β),(none:Option α).map f=none)∧(∀{α:Type} (a:α),(some a).isSome=true):=⟨fun _ _=>rfl,fun _=>rfl,fun _=>rfl⟩
theorem Co:(∀{α β γ:Type} (g:β→γ) (f:α→β) (l:List α),(l.map f).map g=l.map (g∘f))∧(∀{α:Type} (l:List α),l++[]=l):=⟨fun _ _ _=>List.map_map,fun l=>List.append_nil l⟩
theorem Pc:(∀{α β:Type} (f:α→β) (a:α) (l:List α),(a::l).map f=f a::l.map f)∧(∀{α β:Type} (f:α→β),([]:List α).map f=[])∧(∀{α β:Type} (f:α→β) (a b:List α),(a++b).map f=a.map f++b.map f)∧
  (∀{α β:Type} (f:α→β) (l:List α) (i:Nat) (a:α),(l.set i a).map f=(l.map f).set i (f a))∧(∀{α β:Type} (f:α→β) (l:List α) (i:Nat),(l.take i).map f=(l.map f).take i)∧(∀{α β:Type} (f:α→β) (l:List α) (i:Nat),(l.drop i).map f=(l.map f).drop i):=
 ⟨fun _ _ _=>rfl,fun _=>rfl,fun _ _ _=>List.map_append,fun _ _ _ _=>List.map_set,fun _ _ _=>List.map_take,fun _ _ _=>List.map_drop⟩
def Pd:=PLift.up (And.intro @OR (And.intro @Gx (And.intro @OT (And.intro @OL (And.intro @Gw (And.intro @ON (And.intro @GU (And.intro @GV (And.intro @Gy (And.intro @Gz (And.intro @GA (And.intro @GB (And.intro @GC (And.intro @GD (And.intro @GW (And.intro @GX (And.intro @GY (And.intro @GZ (And.intro @G0 (And.intro @G1 (And.intro @GF (And.intro @GG (And.intro @GH (And.intro @GI (And.intro @GJ (And.intro @GK (And.intro @GL (And.intro @GM (And.intro @GN (And.intro @GO (And.intro @GS (And.intro @Ce (And.intro @Cg (And.intro @Cf (And.intro @Ha (And.intro @Hb (And.intro @Hc (And.intro @Hd (And.intro @bY.eq_def (And.intro @loc.eq_def (And.intro @cH.eq_def (And.intro @eo.eq_def (And.intro @ex.eq_def (And.intro @lG.eq_def (And.intro @fits.eq_def (And.intro @I.e2.eq_1 (And.intro @I.e2.eq_2 (And.intro @I.e2.eq_3 (And.intro @I.e2.eq_4 (And.intro @I.e2.eq_5 (And.intro @I.e2.eq_6 (And.intro @D7 (And.intro @D8 (And.intro @Bool.not_true (And.intro @Bool.not_false (And.intro @Bool.true_and (And.intro @Bool.and_true (And.intro @Bool.false_and (And.intro @Bool.true_or (And.intro @Bool.false_or (And.intro @Bool.and_self (And.intro @Bool.false_eq_true (And.intro @Bool.true_eq_false (And.intro @Bool.not_not (And.intro @true_and (And.intro @and_true (And.intro @and_self (And.intro @decide_true (And.intro @decide_false (And.intro @not_false_eq_true (And.intro @not_true_eq_false (And.intro @G7 (And.intro @Nat.zero_add (And.intro @Nat.add_zero (And.intro @Nat.mul_one (And.intro @Nat.lt_add_one (And.intro @Nat.zero_lt_succ (And.intro @cQ.eq_def (And.intro @gU.eq_def (And.intro @flat.eq_1 (And.intro @flat.eq_2 (And.intro @flat.eq_3 (And.intro @flat.eq_4 (And.intro @flat.eq_5 (And.intro @flat.eq_6 (And.intro @flat.eq_7 (And.intro @o4.eq_1 (And.intro @o4.eq_2 (And.intro @gd.eq_def (And.intro @Cn (And.intro @Hj (And.intro @Hk (@Co)))))))))))))))))))))))))))))))))))))))))))))))))))))))))))))))))))))))))))))))))))))))))))))
def vo:=PLift.up (And.intro @OS (And.intro @Gx (And.intro @OU (And.intro @OM (And.intro @Gw (And.intro @OO (And.intro @GU (And.intro @GV (And.intro @Gy (And.intro @Gz (And.intro @GA (And.intro @GB (And.intro @GC (And.intro @GD (And.intro @GW (And.intro @GX (And.intro @GY (And.intro @GZ (And.intro @G0 (And.intro @G1 (And.intro @GF (And.intro @GG (And.intro @GH (And.intro @GI (And.intro @GJ (And.intro @GK (And.intro @GL (And.intro @GM (And.intro @GN (And.intro @GO (And.intro @GS (And.intro @Ce (And.intro @Cg (And.intro @Cf (And.intro @Ha (And.intro @Hb (And.intro @Hc (And.intro @Hd (And.intro @bY.eq_def (And.intro @loc.eq_def (And.intro @cH.eq_def (And.intro @eo.eq_def (And.intro @ex.eq_def (And.intro @lG.eq_def (And.intro @fits.eq_def (And.intro @I.e2.eq_1 (And.intro @I.e2.eq_2 (And.intro @I.e2.eq_3 (And.intro @I.e2.eq_4 (And.intro @I.e2.eq_5 (And.intro @I.e2.eq_6 (And.intro @D7 (And.intro @D8 (And.intro @Bool.not_true (And.intro @Bool.not_false (And.intro @Bool.true_and (And.intro @Bool.and_true (And.intro @Bool.false_and (And.intro @Bool.true_or (And.intro @Bool.false_or (And.intro @Bool.and_self (And.intro @Bool.false_eq_true (And.intro @Bool.true_eq_false (And.intro @Bool.not_not (And.intro @true_and (And.intro @and_true (And.intro @and_self (And.intro @decide_true (And.intro @decide_false (And.intro @not_false_eq_true (And.intro @not_true_eq_false (And.intro @G7 (And.intro @Nat.zero_add (And.intro @Nat.add_zero (And.intro @Nat.mul_one (And.intro @Nat.lt_add_one (And.intro @Nat.zero_lt_succ (And.intro @cQ.eq_def (And.intro @gU.eq_def (And.intro @flat.eq_1 (And.intro @flat.eq_2 (And.intro @flat.eq_3 (And.intro @flat.eq_4 (And.intro @flat.eq_5 (And.intro @flat.eq_6 (And.intro @flat.eq_7 (And.intro @o4.eq_1 (And.intro @o4.eq_2 (And.intro @gd.eq_def (And.intro @Cn (And.intro @Hj (And.intro @Hk (@Co)))))))))))))))))))))))))))))))))))))))))))))))))))))))))))))))))))))))))))))))))))))))))))))
def Pe:=PLift.up (And.intro @Ce (And.intro @Cg (And.intro @Cf (And.intro @na.eq_1 (And.intro @Nat.zero_add (And.intro @Bool.not_true (And.intro @Bool.not_false (And.intro @Bool.true_and (And.intro @Bool.and_true (And.intro @Bool.false_and (And.intro @Bool.true_or (And.intro @Bool.false_or (And.intro @Bool.and_self (And.intro @Bool.false_eq_true (And.intro @Bool.true_eq_false (And.intro @Bool.not_not (And.intro @Cn (And.intro @Co (@Pc)))))))))))))))))))
end Go.cI
