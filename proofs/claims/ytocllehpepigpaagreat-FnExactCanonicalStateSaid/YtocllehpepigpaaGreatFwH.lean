/- Part of a proof that a law returns true for every input. No condition. -/
import Derived.Test.YtocllehpepigpaaGreatFwG
import Derived.ChangeArms
import Derived.WideShapes
namespace Go.cZ
section
variable {H:Type} {enc:TypeId×Value→H} {P:Program} {w:World} {base:Nat} {sp:Nat→Bool} {held:Bool}
def jh {τ:Type} (enc:TypeId×Value→H) (P:Program) (w:World) (base:Nat) (sp:Nat→Bool) (held:Bool) (T:TypeId) (e:τ→I) (W:τ→Prop):Prop:=
 ∀(fuel:Nat) (cs:List Value) (x:DataW H×List MemPlace),DataW.trod enc P w base sp held fuel T cs=some x→∃y,W y∧ax w (F0 w) (e y) cs (fun _=>False)
theorem Vl {T:TypeId} {k:IntKind} (ba:P.underlying T=some (.int k)):jh enc P w base sp held T (fun n=>.int k n) (fun n=>(Lit.int k n).wf=true):=by
 intro fuel cs x h
 obtain⟨n,rfl,_,hw⟩:=DataW.trod_int ba h
 exact⟨n,hw,by rw[ax]⟩
theorem Vm {T:TypeId} (ba:P.underlying T=some (.int .i64)):jh enc P w base sp held T (fun n=>.int .i64 n) (fun n=> -9223372036854775808≤n∧n≤9223372036854775807):=by
 intro fuel cs x h
 obtain⟨n,hw,aX⟩:=Vl ba fuel cs x h
 exact⟨n,wf_i64 hw,aX⟩
theorem Vn {T:TypeId} (ba:P.underlying T=some .string):jh enc P w base sp held T (fun s=>.str s) (fun s=>s.length≤9223372036854775807):=by
 intro fuel cs x h
 obtain⟨s,rfl,_,ag⟩:=DataW.trod_string ba h
 exact⟨s.data.toList,ag,by rw[ax]⟩
theorem Vo {α β:Type} {f:α→Option β}:∀{l:List α} {r:List β},l.mapM f=some r→r.length=l.length∧∀(i:Nat) (a:α),l[i]? =some a→f a=r[i]? :=by
 intro l
 induction l with
 |nil=>intro r h;simp at h;subst h;exact⟨rfl,fun i a h=>by simp at h⟩
 |cons a l ih=>
  intro r h
  simp only[List.mapM_cons,Option.bind_eq_bind,Option.bind_eq_some_iff]at h
  obtain⟨b,ae,gU,aX,he⟩:=h
  have he:b::gU=r:=by simpa using he
  subst he
  obtain⟨h1,ah⟩:=ih aX
  refine⟨by simp[h1],fun i x aw=> ?_⟩
  cases i with
  |zero=>simp at aw;subst aw;simpa using ae
  |succ i=>simpa using ah i x (by simpa using aw)
theorem Mb {a:Addr} {n:Nat} {cs:List Value} (h:w.cells? base a n=some cs):cs.length=n∧∀j c,cs[j]? =some c→w.cell? (a.add j)=some c:=by
 unfold World.cells? at h
 split at h
 ·obtain⟨h1,ah⟩:=Vo h
  refine⟨by simpa using h1,fun j c aq=> ?_⟩
  have b_:j<n:=by
   have:=(List.getElem?_eq_some_iff.1 aq).1
   rw[h1]at this;simpa using this
  rw[ah j j (by simp[b_]),aq]
 ·cases h
theorem Vp {a:Addr} {c:Value} (h:w.cell? a=some c):a.spot=none∧a.block<w.heap.size:=by
 unfold World.cell? at h
 split at h
 ·rename_i cs e fr ae
  split at h
  ·cases h
  ·rename_i ag
   refine⟨by simpa using ag,?_⟩
   exact(Array.getElem?_eq_some_iff.1 ae).1
 ·cases h
theorem qW {τ:Type} {T e:TypeId} {sz:Nat} {ec:τ→I} {W:τ→Prop} (ba:P.underlying T=some (.slice e)) (dR:P.cellsOf e=sz) (Vq:0<sz) (hw:∀y,(ec y).wd=sz) (h:jh enc P w base sp held e ec W):
  jh enc P w base sp held T (fun ys:List τ=>.slice (ys.map ec)) (fun ys:List τ=>ys.length≤9223372036854775807∧∀y∈ys,W y):=by
 intro fuel cs x aw
 rcases DataW.trod_slice ba aw with⟨rfl,_⟩|⟨a,len,cap,elems,rest,n,_,rfl,_,_,h1,ah,aC,a8,_⟩
 ·exact⟨[],⟨by simp,by simp⟩,by simp only[List.map_nil];rw[ax];exact .inl ⟨rfl,none,0,rfl,Nat.zero_le _,fun _=>rfl⟩⟩
 ·by_cases bf:len=0
  ·subst bf
   exact⟨[],⟨by simp,by simp⟩,by simp only[List.map_nil];rw[ax];exact .inl ⟨rfl,some a,cap,rfl,ah,fun h=>by cases h⟩⟩
  ·rw[dR]at a8
   have get:∀i,i<len→∃ou y,w.cells? base (a.add (i*sz)) sz=some ou∧W y∧ax w (F0 w) (ec y) ou (fun _=>False):=by
    intro i ao
    have:=a8 i ao
    rw[List.getElem?_eq_getElem (by omega),Option.bind_eq_some_iff]at this
    obtain⟨ou,aS,aZ⟩:=this
    obtain⟨y,eT,gV⟩:=h _ _ _ aZ
    exact⟨ou,y,aS,eT,gV⟩
   obtain⟨Vr,fu,g1,_,g2⟩:=get 0 (by omega)
   obtain⟨aDM,gH⟩:=Mb g1
   have GS:∃c,Vr[0]? =some c:=⟨_,List.getElem?_eq_getElem (by omega)⟩
   obtain⟨ny,GS⟩:=GS
   have Mc:=Vp (gH 0 ny GS)
   have cE:(a.add (0*sz)).add 0=a:=by simp[Addr.add]
   rw[cE]at Mc
   obtain⟨b,o,spot⟩:=a
   obtain⟨qQ,p_⟩:=Mc
   simp only at qQ p_;subst qQ
   have all:∀m,m≤len→∃(ys:List τ) (eR:List Value),ys.length=m∧(∀y∈ys,W y)∧eR.length=m*sz∧Rd w b o eR∧bc w (F0 w) (ys.map ec) eR (fun _=>False):=by
    intro m
    induction m with
    |zero=>intro _;exact⟨[],[],rfl,by simp,by simp,fun j c aq=>by simp at aq,by rw[List.map_nil,bc]⟩
    |succ m ih=>
     intro hm
     obtain⟨ys,eR,b8,cy,e_,ed,fF⟩:=ih (by omega)
     obtain⟨ou,y,aS,aZ,aQ⟩:=get m (by omega)
     obtain⟨m1,m2⟩:=Mb aS
     refine⟨ys++[y],eR++ou,by simp[b8],?_,by simp[e_,m1,Nat.add_mul],?_,?_⟩
     ·intro z cf
      rcases List.mem_append.1 cf with cf|cf
      ·exact cy z cf
      ·simp at cf;subst cf;exact aZ
     ·intro j c aq
      by_cases b_:j<eR.length
      ·rw[List.getElem?_append_left b_]at aq
       exact ed j c aq
      ·rw[List.getElem?_append_right (by omega)]at aq
       have:=m2 _ c aq
       rw[Addr.add_lit,Addr.add_lit]at this
       rw[←this]
       congr 2
       omega
     ·rw[List.map_append]
      refine bc.append fF ?_ (fun _ h=>h) (fun _ h=>h) (fun _ h=>h.elim)
      simp only[List.map_cons,List.map_nil]
      rw[bc]
      exact⟨ou,[],fun _=>False,fun _=>False,by simp,aQ,by rw[bc],fun _ h=>h.elim,fun _ h=>h.elim,fun _ h=>h.elim⟩
   obtain⟨ys,eR,b8,cy,e_,ed,fF⟩:=all len (Nat.le_refl _)
   refine⟨ys,⟨by rw[b8];exact Nat.le_trans h1 ah,cy⟩,?_⟩
   rw[ax]
   refine .inr ⟨b,o,cap,eR,sz,by simp[b8],p_,by simp[b8,h1],ah,?_,ed,fF⟩
   intro d aj
   obtain⟨y,_,rfl⟩:=List.mem_map.1 aj
   exact hw y
def ends:Nat→List (Nat×Nat)→Option Nat
 |o,[]=>some o
 |o,(nE,sz)::r=>if o=nE then ends (o+sz) r else none
def Md (w:World) (F:Nat→Prop) (cs:List Value):List (I×Nat×Nat)→Prop
 |[]=>True
 |(d,off,sz)::r=>ax w F d ((cs.drop off).take sz) (fun _=>False)∧Md w F cs r
theorem tt {F:Nat→Prop} {cs:List Value}:∀(l:List (I×Nat×Nat)) (o:Nat),ends o (l.map (·.2))=some cs.length→Md w F cs l→bc w F (l.map (·.1)) (cs.drop o) (fun _=>False):=by
 intro l
 induction l with
 |nil=>intro o he _;simp[ends]at he;subst he;simp only[List.map_nil];rw[bc];simp
 |cons p l ih=>
  intro o he bC
  obtain⟨d,off,sz⟩:=p
  simp only[List.map_cons,ends]at he
  split at he
  ·rename_i e;subst e
   obtain⟨f1,f2⟩:=bC
   simp only[List.map_cons]
   rw[bc]
   refine⟨(cs.drop o).take sz,cs.drop (o+sz),fun _=>False,fun _=>False,?_,f1,ih _ he f2,fun _ h=>h.elim,fun _ h=>h.elim,fun _ h=>h.elim⟩
   rw[←List.drop_drop,List.take_append_drop]
  ·cases he
theorem j9 {n T:Nat} {cs:List Value} {o:Option (DataW H×List MemPlace)} {τ:Type} {e:τ→I} {W:τ→Prop} (aX:jh enc P w base sp held T e W) (h:DataW.trod enc P w base sp held n T cs=o) (cr:o.isSome=true):
  ∃y,W y∧ax w (F0 w) (e y) cs (fun _=>False):=by
 obtain⟨x,rfl⟩:=Option.isSome_iff_exists.1 cr
 exact aX _ _ _ h
theorem Vs {τ:Type} {T e:TypeId} {ec:τ→I} {W:List τ→Prop} {r:Reach} {jR:Nat} {v:Value} {d:DataW H} {ps:List MemPlace} (ba:P.underlying T=some (.slice e)) (aX:jh enc P w base sp held T (fun ys:List τ=>.slice (ys.map ec)) W)
  (p8:Value.okWide P w r jR T v) (aj:DataW.Trod enc P w base sp held T v d ps):∃ys,Arg w (.slice (ys.map ec)) v∧W ys:=by
 obtain⟨a,len,cap,rfl⟩:=WideShapes.okWide_slice ba p8
 obtain⟨fuel,bC⟩:=aj
 obtain⟨ys,h1,ah⟩:=aX _ _ _ bC
 refine⟨ys,⟨rfl,rfl,?_⟩,h1⟩
 simpa [Value.cells,cC,h6]using ah
theorem Vt {τ:Type} {T:TypeId} {ay:Array Field} {es:τ→List I} {W:τ→Prop} {r:Reach} {jR:Nat} {v:Value} {d:DataW H} {ps:List MemPlace} (ba:P.underlying T=some (.struct ay)) (aX:jh enc P w base sp held T (fun y=>.agg (es y)) W)
  (p8:Value.okWide P w r jR T v) (aj:DataW.Trod enc P w base sp held T v d ps):∃y,Arg w (.agg (es y)) v∧W y:=by
 obtain⟨cs,rfl,_⟩:=WideShapes.okWide_struct ba p8
 obtain⟨fuel,bC⟩:=aj
 obtain⟨y,h1,ah⟩:=aX _ _ _ bC
 refine⟨y,⟨rfl,⟨cs,rfl⟩,?_⟩,h1⟩
 simpa [Value.cells,cC,h6]using ah
end
theorem GU:(∀{α β:Type} (f:α→β) (l:List α),(l.map f).length=l.length)∧(∀{α:Type} (n:Nat) (a:α),(List.replicate n a).length=n)∧(∀{α:Type} (a:α) (l:List α),(a::l).length=l.length+1)∧(∀{α:Type},([]:List α).length=0)∧(∀{α:Type} (a b:List α),(a++b).length=a.length+b.length):=
 ⟨fun _ _=>List.length_map _,fun _ _=>List.length_replicate,fun _ _=>rfl,rfl,fun _ _=>List.length_append⟩
theorem Me:(∀{α β:Type} (f:α→β) (l:List α) (i:Nat),(l.map f)[i]? =l[i]?.map f)∧(∀{α:Type} (a:α) (l:List α),(a::l)[0]? =some a)∧(∀{α:Type} (a:α) (l:List α) (i:Nat),(a::l)[i+1]? =l[i]?)∧
  (∀{α:Type} (a b:α) (l:List α),(a::l).set 0 b=b::l)∧(∀{α:Type} (a b:α) (l:List α) (n:Nat),(a::l).set (n+1) b=a::l.set n b)∧(∀{α:Type} (a:α) (l:List α) (n:Nat),(a::l).take (n+1)=a::l.take n)∧(∀{α:Type} (l:List α),l.take 0=[]):=
 ⟨fun _ _ _=>List.getElem?_map,fun _ _=>rfl,fun _ _ _=>rfl,fun _ _ _=>rfl,fun _ _ _ _=>rfl,fun _ _ _=>rfl,fun _=>rfl⟩
theorem Mf:(∀{α β:Type} (f:α→β) (a:α),(some a).map f=some (f a))∧(∀{α β:Type} (f:α→β),(none:Option α).map f=none)∧(∀{α:Type} (a:α),(some a).isSome=true):=⟨fun _ _=>rfl,fun _=>rfl,fun _=>rfl⟩
theorem GV:(∀{α β γ:Type} (g:β→γ) (f:α→β) (l:List α),(l.map f).map g=l.map (g∘f))∧(∀{α:Type} (l:List α),l++[]=l):=⟨fun _ _ _=>List.map_map,fun l=>List.append_nil l⟩
theorem ni:(∀{α β:Type} (f:α→β) (a:α) (l:List α),(a::l).map f=f a::l.map f)∧(∀{α β:Type} (f:α→β),([]:List α).map f=[])∧(∀{α β:Type} (f:α→β) (a b:List α),(a++b).map f=a.map f++b.map f)∧
  (∀{α β:Type} (f:α→β) (l:List α) (i:Nat) (a:α),(l.set i a).map f=(l.map f).set i (f a))∧(∀{α β:Type} (f:α→β) (l:List α) (i:Nat),(l.take i).map f=(l.map f).take i)∧(∀{α β:Type} (f:α→β) (l:List α) (i:Nat),(l.drop i).map f=(l.map f).drop i):=
 ⟨fun _ _ _=>rfl,fun _=>rfl,fun _ _ _=>List.map_append,fun _ _ _ _=>List.map_set,fun _ _ _=>List.map_take,fun _ _ _=>List.map_drop⟩
def Vu:=PLift.up (And.intro @U3 (And.intro @Lo (And.intro @U5 (And.intro @UX (And.intro @Ln (And.intro @UZ (And.intro @LK (And.intro @LL (And.intro @Lp (And.intro @Lq (And.intro @v_ (And.intro @Lr (And.intro @Ls (And.intro @Lt (And.intro @LM (And.intro @LN (And.intro @LO (And.intro @LP (And.intro @LQ (And.intro @LR (And.intro @Lu (And.intro @Lv (And.intro @Lw (And.intro @Lx (And.intro @Ly (And.intro @Lz (And.intro @LA (And.intro @LB (And.intro @LC (And.intro @LD (And.intro @LI (And.intro @GN (And.intro @GP (And.intro @GO (And.intro @L8 (And.intro @L9 (And.intro @L_ (And.intro @Ma (And.intro @ld.eq_def (And.intro @loc.eq_def (And.intro @c1.eq_def (And.intro @ga.eq_def (And.intro @ex.eq_def (And.intro @mw.eq_def (And.intro @fits.eq_def (And.intro @I.fU.eq_1 (And.intro @I.fU.eq_2 (And.intro @I.fU.eq_3 (And.intro @I.fU.eq_4 (And.intro @I.fU.eq_5 (And.intro @I.fU.eq_6 (And.intro @Jc (And.intro @Jd (And.intro @Bool.not_true (And.intro @Bool.not_false (And.intro @Bool.true_and (And.intro @Bool.and_true (And.intro @Bool.false_and (And.intro @Bool.true_or (And.intro @Bool.false_or (And.intro @Bool.and_self (And.intro @Bool.false_eq_true (And.intro @Bool.true_eq_false (And.intro @Bool.not_not (And.intro @true_and (And.intro @and_true (And.intro @and_self (And.intro @decide_true (And.intro @decide_false (And.intro @not_false_eq_true (And.intro @not_true_eq_false (And.intro @L4 (And.intro @Nat.zero_add (And.intro @Nat.add_zero (And.intro @Nat.mul_one (And.intro @Nat.lt_add_one (And.intro @Nat.zero_lt_succ (And.intro @da.eq_def (And.intro @hc.eq_def (And.intro @flat.eq_1 (And.intro @flat.eq_2 (And.intro @flat.eq_3 (And.intro @flat.eq_4 (And.intro @flat.eq_5 (And.intro @flat.eq_6 (And.intro @flat.eq_7 (And.intro @qE.eq_1 (And.intro @qE.eq_2 (And.intro @gu.eq_def (And.intro @GU (And.intro @Me (And.intro @Mf (@GV)))))))))))))))))))))))))))))))))))))))))))))))))))))))))))))))))))))))))))))))))))))))))))))
def Vv:=PLift.up (And.intro @U4 (And.intro @Lo (And.intro @U6 (And.intro @UY (And.intro @Ln (And.intro @U0 (And.intro @LK (And.intro @LL (And.intro @Lp (And.intro @Lq (And.intro @v_ (And.intro @Lr (And.intro @Ls (And.intro @Lt (And.intro @LM (And.intro @LN (And.intro @LO (And.intro @LP (And.intro @LQ (And.intro @LR (And.intro @Lu (And.intro @Lv (And.intro @Lw (And.intro @Lx (And.intro @Ly (And.intro @Lz (And.intro @LA (And.intro @LB (And.intro @LC (And.intro @LD (And.intro @LI (And.intro @GN (And.intro @GP (And.intro @GO (And.intro @L8 (And.intro @L9 (And.intro @L_ (And.intro @Ma (And.intro @ld.eq_def (And.intro @loc.eq_def (And.intro @c1.eq_def (And.intro @ga.eq_def (And.intro @ex.eq_def (And.intro @mw.eq_def (And.intro @fits.eq_def (And.intro @I.fU.eq_1 (And.intro @I.fU.eq_2 (And.intro @I.fU.eq_3 (And.intro @I.fU.eq_4 (And.intro @I.fU.eq_5 (And.intro @I.fU.eq_6 (And.intro @Jc (And.intro @Jd (And.intro @Bool.not_true (And.intro @Bool.not_false (And.intro @Bool.true_and (And.intro @Bool.and_true (And.intro @Bool.false_and (And.intro @Bool.true_or (And.intro @Bool.false_or (And.intro @Bool.and_self (And.intro @Bool.false_eq_true (And.intro @Bool.true_eq_false (And.intro @Bool.not_not (And.intro @true_and (And.intro @and_true (And.intro @and_self (And.intro @decide_true (And.intro @decide_false (And.intro @not_false_eq_true (And.intro @not_true_eq_false (And.intro @L4 (And.intro @Nat.zero_add (And.intro @Nat.add_zero (And.intro @Nat.mul_one (And.intro @Nat.lt_add_one (And.intro @Nat.zero_lt_succ (And.intro @da.eq_def (And.intro @hc.eq_def (And.intro @flat.eq_1 (And.intro @flat.eq_2 (And.intro @flat.eq_3 (And.intro @flat.eq_4 (And.intro @flat.eq_5 (And.intro @flat.eq_6 (And.intro @flat.eq_7 (And.intro @qE.eq_1 (And.intro @qE.eq_2 (And.intro @gu.eq_def (And.intro @GU (And.intro @Me (And.intro @Mf (@GV)))))))))))))))))))))))))))))))))))))))))))))))))))))))))))))))))))))))))))))))))))))))))))))
def Vw:=PLift.up (And.intro @GN (And.intro @GP (And.intro @GO (And.intro @kX.eq_1 (And.intro @Nat.zero_add (And.intro @Bool.not_true (And.intro @Bool.not_false (And.intro @Bool.true_and (And.intro @Bool.and_true (And.intro @Bool.false_and (And.intro @Bool.true_or (And.intro @Bool.false_or (And.intro @Bool.and_self (And.intro @Bool.false_eq_true (And.intro @Bool.true_eq_false (And.intro @Bool.not_not (And.intro @GU (And.intro @GV (@ni)))))))))))))))))))
end Go.cZ
