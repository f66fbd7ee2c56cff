/- Part of a proof that a law returns true for every input. No condition. -/
import Derived.Test.YtipllbfpaepajaaGreatDoorFwG
import Derived.ChangeArms
import Derived.WideShapes
namespace Go.ca
section
variable {H:Type} {enc:TypeId×Value→H} {P:Program} {w:World} {base:Nat} {sp:Nat→Bool} {held:Bool}
def ng {τ:Type} (enc:TypeId×Value→H) (P:Program) (w:World) (base:Nat) (sp:Nat→Bool) (held:Bool) (T:TypeId) (e:τ→I) (W:τ→Prop):Prop:=
 ∀(fuel:Nat) (cs:List Value) (x:DataW H×List MemPlace),DataW.trod enc P w base sp held fuel T cs=some x→∃y,W y∧an w (F0 w) (e y) cs (fun _=>False)
theorem LR {T:TypeId} {k:IntKind} (aO:P.underlying T=some (.int k)):ng enc P w base sp held T (fun n=>.int k n) (fun n=>(Lit.int k n).wf=true):=by
 intro fuel cs x h
 obtain⟨n,rfl,_,hw⟩:=DataW.trod_int aO h
 exact⟨n,hw,by rw[an]⟩
theorem LS {T:TypeId} (aO:P.underlying T=some (.int .i64)):ng enc P w base sp held T (fun n=>.int .i64 n) (fun n=> -9223372036854775808≤n∧n≤9223372036854775807):=by
 intro fuel cs x h
 obtain⟨n,hw,aD⟩:=LR aO fuel cs x h
 exact⟨n,wf_i64 hw,aD⟩
theorem LU {T:TypeId} (aO:P.underlying T=some .string):ng enc P w base sp held T (fun s=>.str s) (fun s=>s.length≤9223372036854775807):=by
 intro fuel cs x h
 obtain⟨s,rfl,_,U⟩:=DataW.trod_string aO h
 exact⟨s.data.toList,U,by rw[an]⟩
theorem LV {α β:Type} {f:α→Option β}:∀{l:List α} {r:List β},l.mapM f=some r→r.length=l.length∧∀(i:Nat) (a:α),l[i]? =some a→f a=r[i]? :=by
 intro l
 induction l with
 |nil=>intro r h;simp at h;subst h;exact⟨rfl,fun i a h=>by simp at h⟩
 |cons a l ih=>
  intro r h
  simp only[List.mapM_cons,Option.bind_eq_bind,Option.bind_eq_some_iff]at h
  obtain⟨b,R,fl,aD,he⟩:=h
  have he:b::fl=r:=by simpa using he
  subst he
  obtain⟨ab,ad⟩:=ih aD
  refine⟨by simp[ab],fun i x aq=> ?_⟩
  cases i with
  |zero=>simp at aq;subst aq;simpa using R
  |succ i=>simpa using ad i x (by simpa using aq)
theorem En {a:Addr} {n:Nat} {cs:List Value} (h:w.cells? base a n=some cs):cs.length=n∧∀j c,cs[j]? =some c→w.cell? (a.add j)=some c:=by
 unfold World.cells? at h
 split at h
 ·obtain⟨ab,ad⟩:=LV h
  refine⟨by simpa using ab,fun j c ai=> ?_⟩
  have b2:j<n:=by
   have:=(List.getElem?_eq_some_iff.1 ai).1
   rw[ab]at this;simpa using this
  rw[ad j j (by simp[b2]),ai]
 ·cases h
theorem LW {a:Addr} {c:Value} (h:w.cell? a=some c):a.spot=none∧a.block<w.heap.size:=by
 unfold World.cell? at h
 split at h
 ·rename_i cs e fr R
  split at h
  ·cases h
  ·rename_i U
   refine⟨by simpa using U,?_⟩
   exact(Array.getElem?_eq_some_iff.1 R).1
 ·cases h
theorem Eo {τ:Type} {T e:TypeId} {sz:Nat} {ec:τ→I} {W:τ→Prop} (aO:P.underlying T=some (.slice e)) (cV:P.cellsOf e=sz) (zr:0<sz) (hw:∀y,(ec y).wd=sz) (h:ng enc P w base sp held e ec W):
  ng enc P w base sp held T (fun bG:List τ=>.slice (bG.map ec)) (fun bG:List τ=>bG.length≤9223372036854775807∧∀y∈bG,W y):=by
 intro fuel cs x aq
 rcases DataW.trod_slice aO aq with⟨rfl,_⟩|⟨a,len,cap,elems,rest,n,_,rfl,_,_,ab,ad,aB,aR,_⟩
 ·exact⟨[],⟨by simp,by simp⟩,by simp only[List.map_nil];rw[an];exact .inl ⟨rfl,none,0,rfl,Nat.zero_le _,fun _=>rfl⟩⟩
 ·by_cases bm:len=0
  ·subst bm
   exact⟨[],⟨by simp,by simp⟩,by simp only[List.map_nil];rw[an];exact .inl ⟨rfl,some a,cap,rfl,ad,fun h=>by cases h⟩⟩
  ·rw[cV]at aR
   have get:∀i,i<len→∃oH y,w.cells? base (a.add (i*sz)) sz=some oH∧W y∧an w (F0 w) (ec y) oH (fun _=>False):=by
    intro i aA
    have:=aR i aA
    rw[List.getElem?_eq_getElem (by omega),Option.bind_eq_some_iff]at this
    obtain⟨oH,aH,aJ⟩:=this
    obtain⟨y,kW,td⟩:=h _ _ _ aJ
    exact⟨oH,y,aH,kW,td⟩
   obtain⟨LX,oX,g1,_,g2⟩:=get 0 (by omega)
   obtain⟨abG,e4⟩:=En g1
   have zs:∃c,LX[0]? =some c:=⟨_,List.getElem?_eq_getElem (by omega)⟩
   obtain⟨c0,zs⟩:=zs
   have vO:=LW (e4 0 c0 zs)
   have bT:(a.add (0*sz)).add 0=a:=by simp[Addr.add]
   rw[bT]at vO
   obtain⟨b,o,spot⟩:=a
   obtain⟨nU,Ep⟩:=vO
   simp only at nU Ep;subst nU
   have all:∀m,m≤len→∃(bG:List τ) (cU:List Value),bG.length=m∧(∀y∈bG,W y)∧cU.length=m*sz∧fA w b o cU∧aN w (F0 w) (bG.map ec) cU (fun _=>False):=by
    intro m
    induction m with
    |zero=>intro _;exact⟨[],[],rfl,by simp,by simp,fun j c ai=>by simp at ai,by rw[List.map_nil,aN]⟩
    |succ m ih=>
     intro hm
     obtain⟨bG,cU,bz,bK,df,cx,dB⟩:=ih (by omega)
     obtain⟨oH,y,aH,aJ,aK⟩:=get m (by omega)
     obtain⟨m1,m2⟩:=En aH
     refine⟨bG++[y],cU++oH,by simp[bz],?_,by simp[df,m1,Nat.add_mul],?_,?_⟩
     ·intro z bp
      rcases List.mem_append.1 bp with bp|bp
      ·exact bK z bp
      ·simp at bp;subst bp;exact aJ
     ·intro j c ai
      by_cases b2:j<cU.length
      ·rw[List.getElem?_append_left b2]at ai
       exact cx j c ai
      ·rw[List.getElem?_append_right (by omega)]at ai
       have:=m2 _ c ai
       rw[Addr.add_lit,Addr.add_lit]at this
       rw[←this]
       congr 2
       omega
     ·rw[List.map_append]
      refine aN.append dB ?_ (fun _ h=>h) (fun _ h=>h) (fun _ h=>h.elim)
      simp only[List.map_cons,List.map_nil]
      rw[aN]
      exact⟨oH,[],fun _=>False,fun _=>False,by simp,aK,by rw[aN],fun _ h=>h.elim,fun _ h=>h.elim,fun _ h=>h.elim⟩
   obtain⟨bG,cU,bz,bK,df,cx,dB⟩:=all len (Nat.le_refl _)
   refine⟨bG,⟨by rw[bz];exact Nat.le_trans ab ad,bK⟩,?_⟩
   rw[an]
   refine .inr ⟨b,o,cap,cU,sz,by simp[bz],Ep,by simp[bz,ab],ad,?_,cx,dB⟩
   intro d ae
   obtain⟨y,_,rfl⟩:=List.mem_map.1 ae
   exact hw y
def ends:Nat→List (Nat×Nat)→Option Nat
 |o,[]=>some o
 |o,(kX,sz)::r=>if o=kX then ends (o+sz) r else none
theorem Er {τ:Type} {T e:TypeId} {ec:τ→I} {W:List τ→Prop} {r:Reach} {hz:Nat} {v:Value} {d:DataW H} {ps:List MemPlace} (aO:P.underlying T=some (.slice e)) (aD:ng enc P w base sp held T (fun bG:List τ=>.slice (bG.map ec)) W)
  (oR:Value.okWide P w r hz T v) (ae:DataW.Trod enc P w base sp held T v d ps):∃bG,Arg w (.slice (bG.map ec)) v∧W bG:=by
 obtain⟨a,len,cap,rfl⟩:=WideShapes.okWide_slice aO oR
 obtain⟨fuel,bk⟩:=ae
 obtain⟨bG,ab,ad⟩:=aD _ _ _ bk
 refine⟨bG,⟨rfl,rfl,?_⟩,ab⟩
 simpa [Value.cells,bx,fD]using ad
end
theorem zt:(∀{α β:Type} (f:α→β) (l:List α),(l.map f).length=l.length)∧(∀{α:Type} (n:Nat) (a:α),(List.replicate n a).length=n)∧(∀{α:Type} (a:α) (l:List α),(a::l).length=l.length+1)∧(∀{α:Type},([]:List α).length=0)∧(∀{α:Type} (a b:List α),(a++b).length=a.length+b.length):=
 ⟨fun _ _=>List.length_map _,fun _ _=>List.length_replicate,fun _ _=>rfl,rfl,fun _ _=>List.length_append⟩
theorem Es:(∀{α β:Type} (f:α→β) (l:List α) (i:Nat),(l.map f)[i]? =l[i]?.map f)∧(∀{α:Type} (a:α) (l:List α),(a::l)[0]? =some a)∧(∀{α:Type} (a:α) (l:List α) (i:Nat),(a::l)[i+1]? =l[i]?)∧
  (∀{α:Type} (a b:α) (l:List α),(a::l).set 0 b=b::l)∧(∀{α:Type} (a b:α) (l:List α) (n:Nat),(a::l).set (n+1) b=a::l.set n b)∧(∀{α:Type} (a:α) (l:List α) (n:Nat),(a::l).take (n+1)=a::l.take n)∧(∀{α:Type} (l:List α),l.take 0=[]):=
 ⟨fun _ _ _=>List.getElem?_map,fun _ _=>rfl,fun _ _ _=>rfl,fun _ _ _=>rfl,fun _ _ _ _=>rfl,fun _ _ _=>rfl,fun _=>rfl⟩
theorem Et:(∀{α β:Type} (f:α→β) (a:α),(some a).map f=some (f a))∧(∀{α β:Type} (f:α→β),(none:Option α).map f=none)∧(∀{α:Type} (a:α),(some a).isSome=true):=⟨fun _ _=>rfl,fun _=>rfl,fun _=>rfl⟩
theorem zu:(∀{α β γ:Type} (g:β→γ) (f:α→β) (l:List α),(l.map f).map g=l.map (g∘f))∧(∀{α:Type} (l:List α),l++[]=l):=⟨fun _ _ _=>List.map_map,fun l=>List.append_nil l⟩
theorem jC:(∀{α β:Type} (f:α→β) (a:α) (l:List α),(a::l).map f=f a::l.map f)∧(∀{α β:Type} (f:α→β),([]:List α).map f=[])∧(∀{α β:Type} (f:α→β) (a b:List α),(a++b).map f=a.map f++b.map f)∧
  (∀{α β:Type} (f:α→β) (l:List α) (i:Nat) (a:α),(l.set i a).map f=(l.map f).set i (f a))∧(∀{α β:Type} (f:α→β) (l:List α) (i:Nat),(l.take i).map f=(l.map f).take i)∧(∀{α β:Type} (f:α→β) (l:List α) (i:Nat),(l.drop i).map f=(l.map f).drop i):=
 ⟨fun _ _ _=>rfl,fun _=>rfl,fun _ _ _=>List.map_append,fun _ _ _ _=>List.map_set,fun _ _ _=>List.map_take,fun _ _ _=>List.map_drop⟩
def LY:=PLift.up (And.intro @Lz (And.intro @DC (And.intro @LB (And.intro @Lt (And.intro @DB (And.intro @Lv (And.intro @DZ (And.intro @D0 (And.intro @DD (And.intro @DE (And.intro @DF (And.intro @DG (And.intro @DH (And.intro @DI (And.intro @D1 (And.intro @D2 (And.intro @D3 (And.intro @D4 (And.intro @D5 (And.intro @D6 (And.intro @DJ (And.intro @DK (And.intro @DL (And.intro @DM (And.intro @DN (And.intro @DO (And.intro @DP (And.intro @DQ (And.intro @DR (And.intro @DS (And.intro @DW (And.intro @zl (And.intro @zn (And.intro @zm (And.intro @Ej (And.intro @Ek (And.intro @El (And.intro @Em (And.intro @dh.eq_def (And.intro @loc.eq_def (And.intro @ev.eq_def (And.intro @ew.eq_def (And.intro @ex.eq_def (And.intro @jT.eq_def (And.intro @fits.eq_def (And.intro @I.dL.eq_1 (And.intro @I.dL.eq_2 (And.intro @I.dL.eq_3 (And.intro @I.dL.eq_4 (And.intro @I.dL.eq_5 (And.intro @I.dL.eq_6 (And.intro @Be (And.intro @Bf (And.intro @Bool.not_true (And.intro @Bool.not_false (And.intro @Bool.true_and (And.intro @Bool.and_true (And.intro @Bool.false_and (And.intro @Bool.true_or (And.intro @Bool.false_or (And.intro @Bool.and_self (And.intro @Bool.false_eq_true (And.intro @Bool.true_eq_false (And.intro @Bool.not_not (And.intro @true_and (And.intro @and_true (And.intro @and_self (And.intro @decide_true (And.intro @decide_false (And.intro @not_false_eq_true (And.intro @not_true_eq_false (And.intro @Ef (And.intro @Nat.zero_add (And.intro @Nat.add_zero (And.intro @Nat.mul_one (And.intro @Nat.lt_add_one (And.intro @Nat.zero_lt_succ (And.intro @ep.eq_def (And.intro @fv.eq_def (And.intro @flat.eq_1 (And.intro @flat.eq_2 (And.intro @flat.eq_3 (And.intro @flat.eq_4 (And.intro @flat.eq_5 (And.intro @flat.eq_6 (And.intro @flat.eq_7 (And.intro @nI.eq_1 (And.intro @nI.eq_2 (And.intro @eh.eq_def (And.intro @zt (And.intro @Es (And.intro @Et (@zu)))))))))))))))))))))))))))))))))))))))))))))))))))))))))))))))))))))))))))))))))))))))))))))
def tH:=PLift.up (And.intro @LA (And.intro @DC (And.intro @LC (And.intro @Lu (And.intro @DB (And.intro @Lw (And.intro @DZ (And.intro @D0 (And.intro @DD (And.intro @DE (And.intro @DF (And.intro @DG (And.intro @DH (And.intro @DI (And.intro @D1 (And.intro @D2 (And.intro @D3 (And.intro @D4 (And.intro @D5 (And.intro @D6 (And.intro @DJ (And.intro @DK (And.intro @DL (And.intro @DM (And.intro @DN (And.intro @DO (And.intro @DP (And.intro @DQ (And.intro @DR (And.intro @DS (And.intro @DW (And.intro @zl (And.intro @zn (And.intro @zm (And.intro @Ej (And.intro @Ek (And.intro @El (And.intro @Em (And.intro @dh.eq_def (And.intro @loc.eq_def (And.intro @ev.eq_def (And.intro @ew.eq_def (And.intro @ex.eq_def (And.intro @jT.eq_def (And.intro @fits.eq_def (And.intro @I.dL.eq_1 (And.intro @I.dL.eq_2 (And.intro @I.dL.eq_3 (And.intro @I.dL.eq_4 (And.intro @I.dL.eq_5 (And.intro @I.dL.eq_6 (And.intro @Be (And.intro @Bf (And.intro @Bool.not_true (And.intro @Bool.not_false (And.intro @Bool.true_and (And.intro @Bool.and_true (And.intro @Bool.false_and (And.intro @Bool.true_or (And.intro @Bool.false_or (And.intro @Bool.and_self (And.intro @Bool.false_eq_true (And.intro @Bool.true_eq_false (And.intro @Bool.not_not (And.intro @true_and (And.intro @and_true (And.intro @and_self (And.intro @decide_true (And.intro @decide_false (And.intro @not_false_eq_true (And.intro @not_true_eq_false (And.intro @Ef (And.intro @Nat.zero_add (And.intro @Nat.add_zero (And.intro @Nat.mul_one (And.intro @Nat.lt_add_one (And.intro @Nat.zero_lt_succ (And.intro @ep.eq_def (And.intro @fv.eq_def (And.intro @flat.eq_1 (And.intro @flat.eq_2 (And.intro @flat.eq_3 (And.intro @flat.eq_4 (And.intro @flat.eq_5 (And.intro @flat.eq_6 (And.intro @flat.eq_7 (And.intro @nI.eq_1 (And.intro @nI.eq_2 (And.intro @eh.eq_def (And.intro @zt (And.intro @Es (And.intro @Et (@zu)))))))))))))))))))))))))))))))))))))))))))))))))))))))))))))))))))))))))))))))))))))))))))))
def LZ:=PLift.up (And.intro @zl (And.intro @zn (And.intro @zm (And.intro @h8.eq_1 (And.intro @Nat.zero_add (And.intro @Bool.not_true (And.intro @Bool.not_false (And.intro @Bool.true_and (And.intro @Bool.and_true (And.intro @Bool.false_and (And.intro @Bool.true_or (And.intro @Bool.false_or (And.intro @Bool.and_self (And.intro @Bool.false_eq_true (And.intro @Bool.true_eq_false (And.intro @Bool.not_not (And.intro @zt (And.intro @zu (@jC)))))))))))))))))))
end Go.ca
