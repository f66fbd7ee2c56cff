/- Part of a proof that a law returns true for every input. No condition. -/
import Derived.Test.YtpddiknnnoomoaaFwE
import Derived.Orders
import Derived.KernelRfl
import Derived.Test.YtpddiknnnoomoaaFwA
namespace Go.bZ
section
variable {C:bo} {w0 w:World} {F0 X:Nat→Prop} {n:Fr} {ρ:Nat→Value} {s s1:ag} {a:Act} {av:j} {Q:Exit→Act→World→Prop}
def bh.un (o:bh):bh:=⟨o.dst,o.a6.base,o.guard⟩
theorem wc {ops:Array Oper}:∀{os:List Oper} {rs:List bh},lN n ops os=some rs→os.length=rs.length∧∀(i:Nat) (o:Oper),os[i]? =some o→∃r,rs[i]? =some r∧lM n ops o=some r:=by
 intro os
 induction os with
 |nil=>intro rs h;simp only[lN,Option.some.injEq]at h;subst h;exact⟨rfl,fun i o h=>by simp at h⟩
 |cons o os ih=>
  intro rs h
  simp only[lN]at h
  split at h
  ·rename_i r RJ U aa
   simp only[Option.some.injEq]at h;subst h
   obtain⟨bb,bq⟩:=ih aa
   refine⟨by simp[bb],fun i jM bs=> ?_⟩
   cases i with
   |zero=>simp at bs;subst bs;exact⟨r,rfl,U⟩
   |succ i=>simpa using bq i jM (by simpa using bs)
  ·cases h
theorem we {o:Oper} {y:Nat→Option Bool} (h:o.guard=none):Region.wanted o y=true:=by simp[Region.wanted,h]
theorem Gi (h:Rel w0 F0 X n ρ s a w) {ops:Array Oper} {ad t:Nat} (aU:(ops[ad]?).bind (·.dst)=some t):
  (∀b,s t= .bool b→yielded ops a.tmps ad=some b)∧(s t= .tuple []→yielded ops a.tmps ad=none):=by
 obtain⟨ab,R,bc,F,S,aB⟩:=h
 have gg:=aB.b5 t
 refine⟨fun b I=> ?_,fun I=> ?_⟩
 ·rw[I]at gg
  have aC:=nc gg
  simp only[yielded,aU,Option.bind_some]
  rw[Array.getD_eq_getD_getElem?]at aC
  cases aY:a.tmps[t]? with
  |none=>rw[aY]at aC;simp[undef]at aC
  |some v=>rw[aY]at aC;simp at aC;subst aC;rfl
 ·rw[I]at gg
  obtain⟨⟨arr,U,aa⟩,_⟩:=(ar.bx (d:=.tuple []) rfl).1 gg
  simp only[yielded,aU,Option.bind_some]
  rw[Array.getD_eq_getD_getElem?]at U
  cases aY:a.tmps[t]? with
  |none=>rfl
  |some v=>rw[aY]at U;simp at U;subst U;rfl
theorem wg (aQ:C.c5) {ops:Array Oper} {ros:List bh} {l2:List Nat} {K:ag→Prop} (aR:∀aj bM aq,K aj→Rel w0 F0 X n ρ aj bM aq→wpOps C.P ops Q l2 bM aq):
  ∀(l:List Nat),(∀i∈l,(ops[i]? =none→ros[i]? =none)∧∀o,ops[i]? =some o→∃r,ros[i]? =some r∧lM n ops o=some r.un)→
  ∀(s:ag) (a:Act) (w:World),fK C ros s l K→Rel w0 F0 X n ρ s a w→wpOps C.P ops Q (l++l2) a w:=by
 intro l
 induction l with
 |nil=>intro _ s a w h aB;exact aR s a w h aB
 |cons i l ih=>
  intro kf s a w h aB
  replace ih:=ih fun i ay=>kf i (List.mem_cons_of_mem _ ay)
  rw[List.cons_append]
  simp only[wpOps]
  cases bs:ops[i]? with
  |none=>
   simp only[fK,(kf i (by simp)).1 bs]at h
   exact ih s a w h aB
  |some o=>
   obtain⟨r,U,aa⟩:=(kf i (by simp)).2 o bs
   simp only[fK,U]at h
   show(if Region.wanted o (yielded ops a.tmps)=true then o.wp C.P a w (wpOps C.P ops Q (l++l2)) Q∨(o.asks C.P a w∧LetsOut Q)else wpOps C.P ops Q (l++l2) (a.put o.dst undef) w)
   simp only[lM]at aa
   split at aa
   ·rename_i ti
    split at aa
    ·rename_i g aY
     obtain⟨rd,a6,rg⟩:=r
     simp only[bh.un,Option.some.injEq,bh.mk.injEq]at aa
     obtain⟨rfl,br,rfl⟩:=aa
     simp only[im]at h
     have run:∀(b9:ag→Prop),(∀aj,b9 aj→fK C ros aj l K)→ke C s a6 (fun av s1=>b9 (fin s1 o.dst av))→o.wp C.P a w (wpOps C.P ops Q (l++l2)) Q:=
      fun b9 iU hw=>Gg aQ aB br ti hw (fun aj bM aq al cU=>ih aj bM aq (iU aj al) cU)
     cases pI:o.guard with
     |none=>
      rw[pI]at aY
      simp only[rG,Option.some.injEq]at aY;subst aY
      simp only at h
      rw[if_pos (we pI)]
      exact .inl (run _ (fun _ h=>h) h)
     |some wh=>
      obtain⟨ad,b⟩:=wh
      rw[pI]at aY
      simp only[rG]at aY
      split at aY
      ·rename_i t aM
       simp only[Option.some.injEq]at aY;subst aY
       simp only at h
       obtain⟨hy,rz⟩:=Gi aB aM
       have zF:∀(b9:fK C ros (fin s o.dst (.tuple [])) l K),wpOps C.P ops Q (l++l2) (a.put o.dst undef) w:=fun b9=>ih _ _ _ b9 (Rel.skip aB ti)
       split at h
       ·rename_i dr R
        have aT:=hy dr R
        split at h
        ·rename_i I;subst I
         rw[if_pos (by simp[Region.wanted,pI,aT])]
         exact .inl (run _ (fun _ h=>h) h)
        ·rename_i I
         rw[if_neg (by simp[Region.wanted,pI,aT,I])]
         exact zF h
       ·rename_i R
        have aT:=rz R
        rw[if_neg (by simp[Region.wanted,pI,aT])]
        exact zF h
       ·exact h.elim
      ·cases aY
    ·cases aa
   ·cases aa
theorem zG (aQ:C.c5) {ops:Array Oper} {ros:List bh} (nw:lN n ops ops.toList=some (ros.map bh.un)) {K:ag→Prop} (aR:∀aj bM aq,K aj→Rel w0 F0 X n ρ aj bM aq→Q .normal bM aq):
  ∀(l:List Nat) (s:ag) (a:Act) (w:World),fK C ros s l K→Rel w0 F0 X n ρ s a w→wpOps C.P ops Q l a w:=by
 obtain⟨hl,kf⟩:=wc nw
 intro l s a w h aB
 have:=wg (Q:=Q) aQ (ros:=ros) (ops:=ops) (l2:=[]) (K:=K) (n:=n) (ρ:=ρ) (w0:=w0) (F0:=F0) (X:=X) (fun aj bM aq al cU=>aR aj bM aq al cU) l (fun i _=>⟨fun bs=>by
   rw[List.getElem?_eq_none_iff,←List.length_map (f:=bh.un),←hl]
   have:=Array.getElem?_eq_none_iff.1 bs
   simpa using this,fun o bs=>by
   obtain⟨bl,eZ,aa⟩:=kf i o (by simpa using bs)
   obtain⟨r,U,rfl⟩:∃r,ros[i]? =some r∧r.un=bl:=by simpa using eZ
   exact⟨r,U,aa⟩⟩) s a w h aB
 rwa [List.append_nil]at this
theorem Rel.drawn (h:Rel w0 F0 X n ρ s a w) (k:Nat) (al:w.drawn≤k):Rel w0 F0 X n ρ s a {w with drawn:=k}:=by
 obtain⟨U,aa,bc,F,S,aw⟩:=h
 exact⟨U,aa,bc,F,S,aw.grow (fun _ _=>rfl) (Nat.le_refl _) rfl rfl ⟨rfl,fun _=>al⟩⟩
theorem Gj (aQ:C.c5) {id:Nat} {ops:Array Oper} {ros:List bh} (nw:lN n ops ops.toList=some (ros.map bh.un)) {K:ag→Prop} (aR:∀aj bM aq,K aj→Rel w0 F0 X n ρ aj bM aq→Q .normal bM aq)
  (h:h1 C s ros K) (aB:Rel w0 F0 X n ρ s a w):(Code.region id ops false).wp C.P Q a w:=by
 refine wp_region (zG aQ nw aR _ s a w ?_ aB)
 have:=FY C K ros [] s h
 have hl:=(wc nw).1
 simp only[List.nil_append,List.length_nil,Nat.add_zero,List.map_id']at this
 rw[List.length_map]at hl
 rw[←hl]at this
 simpa using this
end
def kZ (k1:List (List Nat)) (l:List Nat):Prop:=
 l.Nodup∧(∀i,i∈l↔i<k1.length)∧∀u i v,l=u++i::v→∀e∈(k1[i]?).getD [],e∈u
def kg (ops:Array Oper):List (List Nat):=ops.toList.map fun o=>(o.after.toList.filter fun e=>Region.binds .any e).map (·.on)
def rK (k1:List (List Nat)):Bool:=k1.zipIdx.all fun p=>p.1.all fun e=>decide (e<p.2)
theorem Gk {k1:List (List Nat)} (h:rK k1=true) {i:Nat} {l:List Nat} (ay:k1[i]? =some l):∀e∈l,e<i:=by
 intro e he
 simp only[rK,List.all_eq_true]at h
 have:=h (l,i) (by rw[List.mem_zipIdx_iff_getElem?];exact ay) e he
 simpa using this
theorem Gl {ops:Array Oper} (I:rK (kg ops)=true):∀(fuel t:Nat) (dT:Array Bool),dT.size=ops.size→((List.range ops.size).filter fun i=> !dT.getD i true).length≤fuel→
  (Region.linearise.go .any ops fuel t dT []).Nodup∧(∀i,i∈Region.linearise.go .any ops fuel t dT []↔(i<ops.size∧dT.getD i true=false))∧
   ∀u i v,Region.linearise.go .any ops fuel t dT []=u++i::v→∀e∈((kg ops)[i]?).getD [],dT.getD e false=true∨e∈u:=by
 intro fuel
 induction fuel with
 |zero=>
  intro t dT R hl
  have nf:((List.range ops.size).filter fun i=> !dT.getD i true)=[]:=List.length_eq_zero_iff.1 (Nat.le_zero.1 hl)
  refine⟨by simp[Region.linearise.go],fun i=> ?_,fun u i v h=>by simp[Region.linearise.go]at h⟩
  simp only[Region.linearise.go,List.reverse_nil,List.not_mem_nil,false_iff,not_and]
  intro ay bc
  have:i∈((List.range ops.size).filter fun i=> !dT.getD i true):=List.mem_filter.2 ⟨List.mem_range.2 ay,by rw[bc];rfl⟩
  rw[nf]at this;cases this
 |succ fuel ih=>
  intro t dT R hl
  have zH:∀i,i∈Region.ready .any ops dT↔(i<ops.size∧dT.getD i true=false∧∀e∈((kg ops)[i]?).getD [],dT.getD e false=true):=by
   intro i
   simp only[Region.ready,List.mem_filter,List.mem_range,Bool.and_eq_true,Bool.not_eq_true']
   constructor
   ·rintro⟨U,aa,aw⟩
    refine⟨U,aa,?_⟩
    rw[Array.getElem?_eq_getElem U]at aw
    simp only[Option.map_some,Option.getD_some,Array.all_eq_true_iff_forall_mem]at aw
    simp only[kg,List.getElem?_map,Array.getElem?_toList,Array.getElem?_eq_getElem U,Option.map_some,Option.getD_some,List.mem_map,List.mem_filter]
    rintro e ⟨x,⟨ao,om⟩,rfl⟩
    have:=aw x (by simpa using ao)
    simpa [om]using this
   ·rintro⟨U,aa,aw⟩
    refine⟨U,aa,?_⟩
    rw[Array.getElem?_eq_getElem U]
    simp only[Option.map_some,Option.getD_some,Array.all_eq_true_iff_forall_mem]
    simp only[kg,List.getElem?_map,Array.getElem?_toList,Array.getElem?_eq_getElem U,Option.map_some,Option.getD_some,List.mem_map,List.mem_filter]at aw
    intro x ao
    cases om:Region.binds .any x with
    |false=>simp
    |true=>simpa using aw x.on ⟨x,⟨by simpa using ao,om⟩,rfl⟩
  have hex:(∃i,i<ops.size∧dT.getD i true=false)→Region.ready .any ops dT≠[]:=by
   rintro⟨i,U,aa⟩
   have:∃i,(i<ops.size∧dT.getD i true=false)∧∀ad,ad<i→¬(ad<ops.size∧dT.getD ad true=false):=by
    induction i using Nat.strongRecOn with
    |_ i Gm=>
     by_cases aU:∃ad,ad<i∧(ad<ops.size∧dT.getD ad true=false)
     ·obtain⟨ad,kh,oB,Gn⟩:=aU
      exact Gm ad kh oB Gn
     ·exact⟨i,⟨U,aa⟩,fun ad Gp ae=>aU ⟨ad,Gp,ae⟩⟩
   obtain⟨k,⟨bb,bq⟩,cD⟩:=this
   have:k∈Region.ready .any ops dT:=(zH k).2 ⟨bb,bq,fun e he=>by
    cases bN:(kg ops)[k]? with
    |none=>rw[bN]at he;simp at he
    |some l=>
     rw[bN]at he
     have cC:=Gk I bN e he
     have:=cD e cC
     rw[not_and]at this
     have:=this (by omega)
     have wi:e<dT.size:=by omega
     simp only[Array.getD_eq_getD_getElem?,Array.getElem?_eq_getElem wi,Option.getD_some]at this⊢
     simpa using this⟩
   intro e;rw[e]at this;cases this
  have zI:Region.linearise.go .any ops (fuel+1) t dT []=(match(Region.ready .any ops dT)[t%(Region.ready .any ops dT).length]? with
   |some i=>Region.linearise.go .any ops fuel (t/(Region.ready .any ops dT).length) (dT.setIfInBounds i true) [i]
   |none=>[]):=rfl
  cases rL:(Region.ready .any ops dT)[t%(Region.ready .any ops dT).length]? with
  |none=>
   have nf:Region.ready .any ops dT=[]:=by
    cases aB:Region.ready .any ops dT with
    |nil=>rfl
    |cons a l=>
     rw[aB]at rL
     have:=List.getElem?_eq_none_iff.1 rL
     have aa:=Nat.mod_lt t (show 0<(a::l).length by simp)
     omega
   rw[zI,rL]
   refine⟨by simp,fun i=> ?_,fun u i v h=>by simp at h⟩
   simp only[List.not_mem_nil,false_iff]
   intro ay
   exact hex ⟨i,ay⟩ nf
  |some i=>
   have ay:=(zH i).1 (List.mem_of_getElem? rL)
   obtain⟨wj,zJ,Gq⟩:=ay
   rw[zI,rL]
   simp only
   rw[linearise_go_acc]
   simp only[List.reverse_singleton,List.singleton_append]
   have nb:∀ad d,(dT.setIfInBounds i true).getD ad d=if ad=i then true else dT.getD ad d:=by
    intro ad d
    split
    ·rename_i e;subst e
     simp[Array.getD_eq_getD_getElem?,Array.getElem?_setIfInBounds_self_of_lt (show ad<dT.size by omega)]
    ·rename_i e
     simp[Array.getD_eq_getD_getElem?,Array.getElem?_setIfInBounds_ne (fun h=>e h.symm)]
   obtain⟨aE,aO,bg⟩:=ih (t/(Region.ready .any ops dT).length) (dT.setIfInBounds i true) (by simpa using R) (by
    have da:((List.range ops.size).filter fun ad=> !(dT.setIfInBounds i true).getD ad true)=((List.range ops.size).filter fun i=> !dT.getD i true).filter fun ad=>decide (ad≠i):=by
     rw[List.filter_filter]
     apply List.filter_congr
     intro ad _
     rw[nb]
     by_cases e:ad=i<;>simp[e]
    rw[da]
    have cC:(((List.range ops.size).filter fun i=> !dT.getD i true).filter fun ad=>decide (ad≠i)).length<((List.range ops.size).filter fun i=> !dT.getD i true).length:=by
     rw[List.length_filter_lt_length_iff_exists]
     exact⟨i,List.mem_filter.2 ⟨List.mem_range.2 wj,by rw[zJ];rfl⟩,by simp⟩
    omega)
   refine⟨?_,fun ad=> ?_,?_⟩
   ·rw[List.nodup_cons]
    refine⟨fun hm=> ?_,aE⟩
    have:=((aO i).1 hm).2
    rw[nb,if_pos rfl]at this;cases this
   ·rw[List.mem_cons,aO,nb]
    by_cases e:ad=i
    ·subst e;simp[wj,zJ]
    ·simp[e]
   ·intro u ad v h e he
    cases u with
    |nil=>
     simp only[List.nil_append,List.cons.injEq]at h
     obtain⟨rfl,rfl⟩:=h
     exact .inl (Gq e he)
    |cons pJ u=>
     simp only[List.cons_append,List.cons.injEq]at h
     obtain⟨rfl,h⟩:=h
     rcases bg u ad v h e he with a2|a2
     ·rw[nb]at a2
      split at a2
      ·rename_i ei;subst ei;exact .inr (by simp)
      ·exact .inl a2
     ·exact .inr (by simp[a2])
theorem Gr {ops:Array Oper} (I:rK (kg ops)=true) (t:Nat):kZ (kg ops) (Region.linearise .any ops t):=by
 have zK:∀i d,i<ops.size→(Array.replicate ops.size false).getD i d=false:=by
  intro i d ay
  simp[Array.getD_eq_getD_getElem?,ay]
 obtain⟨aE,aO,bg⟩:=Gl I ops.size t (Array.replicate ops.size false) (by simp) (by
  have:=List.length_filter_le (fun i=> !(Array.replicate ops.size false).getD i true) (List.range ops.size)
  simpa using this)
 have hlen:(kg ops).length=ops.size:=by simp[kg]
 refine⟨aE,fun i=> ?_,fun u i v h e he=> ?_⟩
 ·rw[hlen]
  rw[show Region.linearise .any ops t=Region.linearise.go .any ops ops.size t (Array.replicate ops.size false) []from rfl,aO]
  exact⟨fun h=>h.1,fun h=>⟨h,zK i true h⟩⟩
 ·rcases bg u i v h e he with a2|a2
  ·exfalso
   by_cases zL:e<ops.size
   ·rw[zK e false zL]at a2;cases a2
   ·simp[Array.getD_eq_getD_getElem?,zL]at a2
  ·exact a2
def J:List (Nat×j)→ag
 |[],_=>.hole
 |(u,d)::l,t=>if t=u then d else J l t
mutual
inductive dj:j→j→Prop
 |refl (d:j):dj d d
 |iV (sz:Nat):dj .bt (.aH sz [])
 |pK:dj .bt (.slice [])
 |any (b:Bool):dj (.bool b) .c2
 |share (d:j):d.tree=true→(∀vs,d≠.tuple vs)→(∀o,d≠.cx o)→dj d d.share
 |agg {ds es:List j}:hf ds es→dj (.agg ds) (.agg es)
 |bm {d e:j}:dj d e→dj (.bm d) (.bm e)
 |aH {sz:Nat} {ds es:List j}:hf ds es→dj (.aH sz ds) (.aH sz es)
 |tuple {ds es:List j}:hf ds es→dj (.tuple ds) (.tuple es)
 |ref {d e:j}:dj d e→dj (.ref d) (.ref e)
 |trans {d e f:j}:dj d e→dj e f→dj d f
inductive hf:List j→List j→Prop
 |nil:hf [] []
 |cons {d e:j} {ds es:List j}:dj d e→hf ds es→hf (d::ds) (e::es)
end
mutual
theorem dj.wd:∀{d e:j},dj d e→e.wd=d.wd
 |_,_,.refl _=>rfl
 |_,_,.iV _=>rfl
 |_,_,.pK=>rfl
 |_,_,.any _=>rfl
 |_,_,.share d _ _ _=>j.sN d
 |_,_,.agg h=>by simp only[j.wd];exact hf.wd h
 |_,_,.bm _=>rfl
 |_,_,.aH _=>rfl
 |_,_,.tuple h=>by simp only[j.wd];exact hf.wd h
 |_,_,.ref _=>rfl
 |_,_,.trans h k=>(dj.wd k).trans (dj.wd h)
theorem hf.wd:∀{ds es:List j},hf ds es→j.cF es=j.cF ds
 |_,_,.nil=>rfl
 |_,_,.cons h R=>by simp only[j.cF];rw[dj.wd h,hf.wd R]
end
theorem hf.len {ds es:List j} (h:hf ds es):es.length=ds.length:=by
 induction ds generalizing es with
 |nil=>cases h;rfl
 |cons d ds ih=>cases h with|cons h R=>simp[ih R]
theorem hf.all {sz:Nat} {ds es:List j} (h:hf ds es) (ab:∀d∈ds,d.wd=sz):∀d∈es,d.wd=sz:=by
 induction ds generalizing es with
 |nil=>cases h;intro d ab;cases ab
 |cons d ds ih=>
  cases h with
  |cons h R=>
   intro x ao
   rcases List.mem_cons.1 ao with rfl|ao
   ·rw[h.wd];exact ab d (by simp)
   ·exact ih R (fun d hm=>ab d (by simp[hm])) x ao
section
variable {w0 w:World} {F0 X F:Nat→Prop} {S:Nat→Nat→Prop} {s aj:ag} {ak:Nat→Value}
def Gs (w:World) (F:Nat→Prop) (_d e:j) (cs:List Value) (S:Nat→Prop):Prop:=
 ∃fi fj:Nat→Prop,(∀b,fi b→S b)∧(∀b,fj b→S b)∧(∀b,fj b→¬fi b)∧∀a7,(∀b,F b∨fi b→a7 b)→ai w a7 e cs fj
mutual
theorem ai.k2:∀{d e:j},dj d e→∀{F:Nat→Prop} {cs:List Value} {S:Nat→Prop},ai w F d cs S→Gs w F d e cs S
 |_,_,.refl _,F,cs,S,h=>⟨fun _=>False,S,fun _ h=>h.elim,fun _ h=>h,fun _ _ h=>h,fun a7 aS=>ai.mono (fun b I=>aS b (.inl I)) _ _ _ _ (fun _ h=>h) h⟩
 | .bt,_,.iV sz,F,cs,S,h=>⟨fun _=>False,S,fun _ h=>h.elim,fun _ h=>h,fun _ _ h=>h,fun a7 aS=>by simp only[ai]at h⊢;exact .inl ⟨trivial,_,h⟩⟩
 | .bt,_,.pK,F,cs,S,h=>⟨fun _=>False,S,fun _ h=>h.elim,fun _ h=>h,fun _ _ h=>h,fun a7 aS=>by simp only[ai]at h⊢;exact .inl ⟨trivial,none,0,h,Nat.zero_le _,fun _=>rfl⟩⟩
 | .bool _,_,.any b,F,cs,S,h=>⟨fun _=>False,S,fun _ h=>h.elim,fun _ h=>h,fun _ _ h=>h,fun a7 aS=>by simp only[ai]at h⊢;exact⟨b,h⟩⟩
 |_,_,.share d _ _ _,F,cs,S,h=>⟨S,fun _=>False,fun _ h=>h,fun _ h=>h.elim,fun _ h=>h.elim,fun a7 aS=>ai.shared (fun b I=>aS b (.inl I)) d cs S (fun b I=>aS b (.inr I)) h⟩
 |_,_,.agg gr,F,cs,S,h=>by
  rw[ai]at h
  obtain⟨fi,fj,U,aa,aw,aN⟩:=aJ.k2 gr h
  exact⟨fi,fj,U,aa,aw,fun a7 aS=>by rw[ai];exact aN a7 aS⟩
 |_,_,.bm ab,F,cs,S,h=>by
  rw[ai]at h
  obtain⟨b,cur,ty,fr,az,bb,bq,cD,b1,cZ,cY,eT⟩:=h
  obtain⟨fi,fj,U,aa,aw,aN⟩:=ai.k2 ab cZ
  refine⟨fi,fun c=>c=b∨fj c,fun c ae=>cY c (U c ae),?_,?_,fun a7 aS=> ?_⟩
  ·rintro c (rfl|ae)
   ·exact bq
   ·exact cY c (aa c ae)
  ·rintro c (rfl|ae) bc
   ·exact eT (U _ bc)
   ·exact aw c ae bc
  ·rw[ai]
   exact⟨b,cur,ty,fr,fj,bb,.inl rfl,cD,b1,aN a7 aS,fun c ae=>.inr ae,fun ae=>eT (aa _ ae)⟩
 | .aH sz ds,.aH _ es,.aH gr,F,cs,S,h=>by
   rw[ai]at h
   have hl:=gr.len
   rcases h with⟨U,aa⟩|⟨b,cap,cur,ty,fr,az,bb,bq,cD,b1,cZ,cY,eT,fH,gM,hZ,zM⟩
   ·refine⟨fun _=>False,S,fun _ h=>h.elim,fun _ h=>h,fun _ _ h=>h,fun a7 _=> ?_⟩
    rw[ai]
    subst U
    exact .inl ⟨List.length_eq_zero_iff.1 (by simpa using hl),aa⟩
   ·obtain⟨fi,fj,U,aa,aw,aN⟩:=aJ.k2 gr gM
    refine⟨fi,fun c=>c=b∨fj c,fun c ae=>hZ c (U c ae),?_,?_,fun a7 aS=> ?_⟩
    ·rintro c (rfl|ae)
     ·exact bq
     ·exact hZ c (aa c ae)
    ·rintro c (rfl|ae) bc
     ·exact zM (U _ bc)
     ·exact aw c ae bc
    ·rw[ai]
     refine .inr ⟨b,cap,cur,ty,fr,fj,by rw[hl];exact bb,.inl rfl,cD,b1,by rw[hl];exact cZ,cY,eT,gr.all fH,by rw[hl];exact aN a7 aS,fun c ae=>.inr ae,fun ae=>zM (aa _ ae)⟩
 |_,_,.tuple gr,F,cs,S,h=>by
  rw[ai]at h
  obtain⟨fi,fj,U,aa,aw,aN⟩:=aJ.k2 gr h
  exact⟨fi,fj,U,aa,aw,fun a7 aS=>by rw[ai];exact aN a7 aS⟩
 |_,_,.ref ab,F,cs,S,h=>by
  rw[ai]at h
  obtain⟨b,o,cO,U,aa,aw,aN⟩:=h
  obtain⟨fi,fj,bb,bq,cD,b1⟩:=ai.k2 ab aN
  refine⟨fun _=>False,S,fun _ h=>h.elim,fun _ h=>h,fun _ _ h=>h,fun a7 aS=> ?_⟩
  rw[ai]
  exact⟨b,o,cO,U,aS _ (.inl aa),aw,ai.mono (fun _ h=>h) _ _ _ _ (fun b I=>bq b I) (b1 a7 fun b I=>aS b (I.imp id fun h=>(bb b h).elim))⟩
 |_,_,.trans ab he,F,cs,S,h=>by
  obtain⟨fi,fj,U,aa,aw,aN⟩:=ai.k2 ab h
  obtain⟨wk,tj,bb,bq,cD,b1⟩:=ai.k2 he (F:=fun b=>F b∨fi b) (aN _ fun _ h=>h)
  refine⟨fun b=>fi b∨wk b,tj,?_,fun b I=>aa b (bq b I),?_,fun a7 aS=>b1 a7 fun b I=> ?_⟩
  ·rintro b (h|h)
   ·exact U b h
   ·exact aa b (bb b h)
  ·rintro b I (h|h)
   ·exact aw b (bq b I) h
   ·exact cD b I h
  ·rcases I with(I|I)|I
   ·exact aS b (.inl I)
   ·exact aS b (.inr (.inl I))
   ·exact aS b (.inr (.inr I))
theorem aJ.k2:∀{ds es:List j},hf ds es→∀{F:Nat→Prop} {cs:List Value} {S:Nat→Prop},aJ w F ds cs S→
  ∃fi fj:Nat→Prop,(∀b,fi b→S b)∧(∀b,fj b→S b)∧(∀b,fj b→¬fi b)∧∀a7,(∀b,F b∨fi b→a7 b)→aJ w a7 es cs fj
 |_,_,.nil,F,cs,S,h=>⟨fun _=>False,fun _=>False,fun _ h=>h.elim,fun _ h=>h.elim,fun _ h=>h.elim,fun a7 aS=>by rw[aJ]at h⊢;exact h⟩
 |_,_,.cons ab gr,F,cs,S,h=>by
  rw[aJ]at h
  obtain⟨bB,bF,bj,ch,rfl,aO,bg,cd,cQ,d_⟩:=h
  obtain⟨Gt,zN,aA,cn,a3,a4⟩:=ai.k2 ab aO
  obtain⟨wk,tj,iM,gd,kQ,dy⟩:=aJ.k2 gr bg
  refine⟨fun b=>Gt b∨wk b,fun b=>zN b∨tj b,?_,?_,?_,fun a7 aS=> ?_⟩
  ·rintro b (h|h)
   ·exact cd b (aA b h)
   ·exact cQ b (iM b h)
  ·rintro b (h|h)
   ·exact cd b (cn b h)
   ·exact cQ b (gd b h)
  ·rintro b (h|h) (a2|a2)
   ·exact a3 b h a2
   ·exact d_ b (cn b h) (iM b a2)
   ·exact d_ b (aA b a2) (gd b h)
   ·exact kQ b h a2
  ·rw[aJ]
   refine⟨bB,bF,zN,tj,rfl,a4 a7 (fun b I=>aS b (I.imp id .inl)),dy a7 (fun b I=>aS b (I.imp id .inr)),fun b I=>.inl I,fun b I=>.inr I,fun b U aa=>d_ b (cn b U) (gd b aa)⟩
end
theorem dj.tk:∀{d e:j},dj d e→(∀vs,d≠.tuple vs)→∀vs,e≠.tuple vs
 |_,_,.refl _,h=>h
 |_,_,.iV _,_=>fun _ h=>by cases h
 |_,_,.pK,_=>fun _ h=>by cases h
 |_,_,.any _,_=>fun _ h=>by cases h
 |_,_,.share d _ _ _,h=>fun vs he=>by cases d<;>first|(cases he;done)|exact h _ rfl
 |_,_,.agg _,_=>fun _ h=>by cases h
 |_,_,.bm _,_=>fun _ h=>by cases h
 |_,_,.aH _,_=>fun _ h=>by cases h
 |_,_,.tuple _,h=>fun _ _=>h _ rfl
 |_,_,.ref _,_=>fun _ h=>by cases h
 |_,_,.trans h k,aR=>dj.tk k (dj.tk h aR)
theorem dj.fp:∀{d e:j} {v:Value},dj d e→(∀vs,d≠.tuple vs)→bZ.fp d v→bZ.fp e v
 |_,_,_,.refl _,_,h=>h
 |_,_,_,.iV _,_,h=>h
 |_,_,_,.pK,_,h=>h
 |_,_,_,.any _,_,h=>h
 |_,_,_,.share d _ aR _,_,h=>by cases d<;>first|exact h|exact(aR _ rfl).elim
 |_,_,_,.agg _,_,h=>h
 |_,_,_,.bm _,_,h=>h
 |_,_,_,.aH _,_,h=>h
 |_,_,_,.tuple _,aR,_=>(aR _ rfl).elim
 |_,_,_,.ref _,_,h=>h
 |_,_,_,.trans h k,aR,R=>dj.fp k (dj.tk h aR) (dj.fp h aR R)
theorem hf.get:∀{ds es:List j},hf ds es→∀(k:Nat) (e:j),es[k]? =some e→∃d,ds[k]? =some d∧dj d e
 |_,_,.nil,k,e,h=>by simp at h
 |_,_,.cons ab R,0,e,h=>by simp at h;subst h;exact⟨_,rfl,ab⟩
 |_,_,.cons ab R,k+1,e,h=>hf.get R k e (by simpa using h)
theorem dj.ct:∀{d e:j} {v:Value},dj d e→bZ.ct d v→bZ.ct e v
 |_,_,_,.refl _,R=>R
 |_,_,_,.iV _,R=>R
 |_,_,_,.pK,R=>R
 |_,_,_,.any _,R=>R
 |_,_,_,.share _ _ jq _,R=>vR jq R
 |_,_,_,.agg _,R=>R
 |_,_,_,.bm _,R=>R
 |_,_,_,.aH _,R=>R
 |_,_,_,.ref _,R=>R
 |_,_,_,.tuple ab,R=>by
  obtain⟨arr,U,aa,aw⟩:=R
  refine⟨arr,U,aa.trans ab.len.symm,fun k e x he ao=> ?_⟩
  obtain⟨d,al,hw⟩:=ab.get k e he
  obtain⟨aA,cn,a3⟩:=aw k d x al ao
  exact⟨hw.fp cn aA,hw.tk cn,a3.trans hw.wd.symm⟩
 |_,_,_,.trans h k,R=>dj.ct k (dj.ct h R)
theorem dj.tree:∀{d e:j},dj d e→d.tree=true→e.tree=true
 |_,_,.refl _,ab=>ab
 |_,_,.iV _,_=>rfl
 |_,_,.pK,_=>rfl
 |_,_,.any _,_=>rfl
 |_,_,.share d _ _ ic,ab=>by cases d<;>first|exact ab|rfl|exact(ic _ rfl).elim
 |_,_,.agg _,_=>rfl
 |_,_,.bm _,_=>rfl
 |_,_,.aH _,_=>rfl
 |_,_,.tuple _,_=>rfl
 |_,_,.ref _,_=>rfl
 |_,_,.trans h k,ab=>dj.tree k (dj.tree h ab)
mutual
def j.oC:j→List Nat
 | .h x q=>if q.isEmpty then []else [x]
 | .an x _=>[x]
 | .I x _=>[x]
 | .fn _ cap=>j.rM cap
 |_=>[]
def j.rM:List j→List Nat
 |[]=>[]
 |d::ds=>d.oC++j.rM ds
end
def rN (s aj:ag) (x:Nat) (D:List Nat):Prop:=aj x=s x∨aj x= .hole∨((s x).own=true∧(aj x).own=true∧x∉D)
theorem rN.less {s aj:ag} {x:Nat} {D E:List Nat} (h:rN s aj x D) (Gu:∀u∈E,u∈D):rN s aj x E:=by
 rcases h with h|h|⟨U,aa,aw⟩
 ·exact .inl h
 ·exact .inr (.inl h)
 ·exact .inr (.inr ⟨U,aa,fun ao=>aw (Gu x ao)⟩)
theorem ar.keep {a7:Nat→Prop} (aS:∀b,F b→a7 b):∀n,(∀(d:j) (v:Value) (cl:Nat→Prop),SizeOf.sizeOf d≤n→(∀x∈d.R,rN s aj x d.oC)→ar w F s ak d v cl→ar w a7 aj ak d v cl)∧
  (∀(ds:List j) (vs:List Value),SizeOf.sizeOf ds≤n→(∀x∈j.cP ds,rN s aj x (j.rM ds))→cE w F s ak ds vs→cE w a7 aj ak ds vs):=by
 intro n
 induction n with
 |zero=>
  refine⟨fun d v cl bf=> ?_,fun ds vs bf=> ?_⟩
  ·cases d<;>simp at bf<;>omega
  ·cases ds<;>simp at bf<;>omega
 |succ n ih=>
  refine⟨fun d v cl bf al h=> ?_,fun ds vs bf al h=> ?_⟩
  ·cases d with
   |hole=>rw[ar];trivial
   |h x q=>
    rw[ar]at h⊢
    intro e da an
    rcases al x (by simp[j.R])with he|he|⟨zO,Gv,rO⟩
    ·rw[he]at da⊢;exact h e da an
    ·rw[he]at da
     cases q with
     |nil=>simp only[j.sub,Option.some.injEq]at da;subst da;simp[j.plain]at an
     |cons k q=>simp[j.sub]at da
    ·cases q with
     |nil=>
      simp only[j.sub,Option.some.injEq]at da
      subst da
      obtain⟨bG,a0,dD,eK,fo⟩:=h (s x) (by simp only[j.sub]) (mz zO).1
      simp only[b0,Option.some.injEq,Prod.mk.injEq,true_and]at dD
      exact⟨ba (ak x),none,by simp only[b0],by rw[eK,←dD.1],((mz Gv).2.2.2.2.2 _).2 (((mz zO).2.2.2.2.2 _).1 fo)⟩
     |cons k q=>exact(rO (by simp[j.oC])).elim
   |an x q=>
    rw[ar]at h⊢
    intro e da ae
    rcases al x (by simp[j.R])with he|he|⟨_,_,rO⟩
    ·rw[he]at da ae⊢;exact h e da ae
    ·rw[he]at ae
     cases q<;>simp[j.dn]at ae
    ·exact(rO (by simp[j.oC])).elim
   |I x k=>
    rw[ar]at h⊢
    intro an
    rcases al x (by simp[j.R])with he|he|⟨_,_,rO⟩
    rotate_left 2
    ·exact(rO (by simp[j.oC])).elim
    ·rw[he]at an
     obtain⟨b,cur,e,fr,U,aa,aw,aN⟩:=h an
     exact⟨b,cur,e,fr,U,aS b aa,aw,aN⟩
    ·rw[he]at an;simp[j.plain]at an
   |fn f cap=>
    rw[ar]at h⊢
    obtain⟨arr,rfl,ae⟩:=h
    exact⟨arr,rfl,ih.2 _ _ (by simp at bf;omega) (by simpa [j.R,j.oC]using al) ae⟩
   |_=>
    have a2:=(ar.bx rfl).1 h
    exact(ar.bx rfl).2 ⟨a2.1,ai.mono aS _ _ _ _ (fun _ h=>h) a2.2⟩
  ·cases ds with
   |nil=>rw[cE]at h⊢;exact h
   |cons d ds=>
    rw[cE]at h⊢
    obtain⟨v,gA,rfl,U,aa⟩:=h
    simp at bf
    simp only[j.cP,List.mem_append]at al
    exact⟨v,gA,rfl,ih.1 _ _ _ (by omega) (fun x ao=>(al x (.inl ao)).less fun u hu=>by simp[j.rM,hu]) U,ih.2 _ _ (by omega) (fun x ao=>(al x (.inr ao)).less fun u hu=>by simp[j.rM,hu]) aa⟩
def rP (s:ag) (l:List (Nat×j)):Prop:=
 ∀p∈l,p.2=s p.1∨((s p.1).tree=true∧dj (s p.1) p.2∧∀bE∈l,p.1∉bE.2.R∨((s p.1).own=true∧p.2.own=true∧p.1∉bE.2.oC))
theorem zP:∀(l:List (Nat×j)) (t:Nat),J l t= .hole∨∃p∈l,p.1=t∧J l t=p.2:=by
 intro l
 induction l with
 |nil=>intro t;exact .inl rfl
 |cons p l ih=>
  intro t
  obtain⟨u,d⟩:=p
  simp only[J]
  split
  ·rename_i e;exact .inr ⟨(u,d),by simp,e.symm,rfl⟩
  ·rcases ih t with h|⟨p,an,h⟩
   ·exact .inl h
   ·exact .inr ⟨p,by simp[an],h⟩
theorem aX.Gw (h:aX w0 F0 X F S s ak w) {l:List (Nat×j)} (hw:rP s l):∃a7 az,aX w0 F0 X a7 az (J l) ak w:=by
 have each:∀t,∃fi fj:Nat→Prop,(∀b,fi b→S t b)∧(∀b,fj b→S t b)∧(∀b,fj b→¬fi b)∧∀a7,(∀b,F b∨fi b→a7 b)→ar w a7 (J l) ak (J l t) (ak t) fj:=by
  intro t
  rcases zP l t with e|⟨p,an,rfl,e⟩
  ·exact⟨fun _=>False,fun _=>False,fun _ h=>h.elim,fun _ h=>h.elim,fun _ h=>h.elim,fun a7 _=>by rw[e,ar];trivial⟩
  ·rw[e]
   rcases hw p an with al|⟨aM,g9,_⟩
   ·refine⟨fun _=>False,S p.1,fun _ h=>h.elim,fun _ h=>h,fun _ _ h=>h,fun a7 aS=> ?_⟩
    rw[al]
    refine(ar.keep (fun b I=>aS b (.inl I)) (SizeOf.sizeOf (s p.1))).1 _ _ _ (Nat.le_refl _) ?_ (h.b5 p.1)
    intro x ao
    rcases zP l x with ei|⟨bE,cV,rfl,ei⟩
    ·exact .inr (.inl ei)
    ·rcases hw bE cV with ig|⟨_,_,ic⟩
     ·exact .inl (ei.trans ig)
     ·rcases ic p an with ic|⟨jN,kU,te⟩
      ·exact(ic (by rw[al];exact ao)).elim
      ·exact .inr (.inr ⟨jN,by rw[ei];exact kU,by rw[al]at te;exact te⟩)
   ·obtain⟨aE,aO⟩:=(ar.bx aM).1 (h.b5 p.1)
    obtain⟨fi,fj,bb,bq,cD,b1⟩:=ai.k2 g9 aO
    exact⟨fi,fj,bb,bq,cD,fun a7 aS=>(ar.bx (g9.tree aM)).2 ⟨g9.ct aE,b1 a7 aS⟩⟩
 have bB:=fun t=>(each t).choose_spec
 let fi:=fun t=>(each t).choose
 have bF:=fun t=>(bB t).choose_spec
 let fj:=fun t=>(bB t).choose
 have fe:∀t b,fi t b→S t b:=fun t=>(bF t).1
 have ej:∀t b,fj t b→S t b:=fun t=>(bF t).2.1
 have gp:∀t b,fj t b→¬fi t b:=fun t=>(bF t).2.2.1
 have gf:=fun t=>(bF t).2.2.2
 refine⟨fun b=>F b∨∃t,fi t b,fj,fun b I=>.inl (h.er b I),?_,?_,fun t b I=>h.cT t b (ej t b I),?_,fun t u b cr I hu=>h.c8 t u b cr (ej t b I) (ej u b hu),fun t b I=>h.cl t b (ej t b I),?_,h.old,h.size,h.os,h.tape,h.output,h.et⟩
 ·rintro b (I|⟨t,I⟩)
  ·exact h.eL b I
  ·exact .inr (h.cl t b (fe t b I))
 ·rintro b (I|⟨t,I⟩)
  ·exact h.db b I
  ·exact h.cT t b (fe t b I)
 ·rintro t b I (bc|⟨u,hu⟩)
  ·exact h.dp t b (ej t b I) bc
  ·by_cases e:t=u
   ·subst e;exact gp t b I hu
   ·exact h.c8 t u b e (ej t b I) (fe u b hu)
 ·intro t
  exact gf t _ (fun b I=>I.imp id fun h=>⟨t,h⟩)
end
inductive af where
 |skip
 |c6 (ros:List bh) (keep:Option (List Nat))
 |iW (ros:List bh) (k1:List (List Nat)) (keep:Option (List Nat))
 |seq (a b:af)
 |cond (c:au) (a b:af)
 |block (id:Nat) (b:af)
 |loop (b:af)
 |exit (id:Nat)
 |ret
 |gO (T:(Exit→ag→Prop)→ag→Prop) (b:af)
def cB (n:Fr):Code→Option af
 | .skip=>some .skip
 | .region _ ops false=>(lN n ops ops.toList).map fun r=>.c6 r none
 | .region _ ops true=>if rK (kg ops)=true then(lN n ops ops.toList).map fun r=>.iW r (kg ops) none else none
 | .seq a b=>match cB n a,cB n b with
   |some a,some b=>some (.seq a b)
   |_,_=>none
 | .cond c a b=>match cj c,cB n a,cB n b with
   |some c,some a,some b=>some (.cond c a b)
   |_,_,_=>none
 | .block id b=>(cB n b).map (.block id)
 | .loop b=>(cB n b).map .loop
 | .exit id=>some (.exit id)
 | .ret=>some .ret
 |_=>none
def af.h2:af→af
 | .c6 ros _=>.c6 ros none
 | .iW ros cg _=>.iW ros cg none
 | .seq a b=>.seq a.h2 b.h2
 | .cond c a b=>.cond c a.h2 b.h2
 | .block id b=>.block id b.h2
 | .loop b=>.loop b.h2
 | .gO T b=>.gO T b.h2
 |c=>c
def af.strip:af→af
 | .c6 ros _=>.c6 (ros.map bh.un) none
 | .iW ros cg _=>.iW (ros.map bh.un) cg none
 | .seq a b=>.seq a.strip b.strip
 | .cond c a b=>.cond c a.strip b.strip
 | .block id b=>.block id b.strip
 | .loop b=>.loop b.strip
 | .gO _ b=>b.strip
 |c=>c
theorem af.zQ:∀c:af,c.h2.strip=c.strip:=by
 intro c
 induction c with
 |seq a b gP gQ=>simp only[af.h2,af.strip,gP,gQ]
 |cond c a b gP gQ=>simp only[af.h2,af.strip,gP,gQ]
 |block id b ih=>simp only[af.h2,af.strip,ih]
 |loop b ih=>simp only[af.h2,af.strip,ih]
 |gO T b ih=>simp only[af.h2,af.strip,ih]
 |_=>rfl
def af.bare (H:((Exit→ag→Prop)→ag→Prop)→af→Prop):af→Prop
 | .c6 _ k=>k=none
 | .iW _ _ k=>k=none
 | .seq a b=>a.bare H∧b.bare H
 | .cond _ a b=>a.bare H∧b.bare H
 | .block _ b=>b.bare H
 | .loop b=>b.bare H
 | .gO T b=>H T b
 |_=>True
def af.lQ (H:((Exit→ag→Prop)→ag→Prop)→af→Prop):af→Prop
 | .seq a b=>a.lQ H∧b.lQ H
 | .cond _ a b=>a.lQ H∧b.lQ H
 | .block _ b=>b.lQ H
 | .loop b=>b.lQ H
 | .gO T b=>H T b.h2
 |_=>True
theorem af.zR {H:((Exit→ag→Prop)→ag→Prop)→af→Prop}:∀c:af,c.lQ H→c.h2.bare H:=by
 intro c
 induction c with
 |seq a b gP gQ=>intro h;exact⟨gP h.1,gQ h.2⟩
 |cond c a b gP gQ=>intro h;exact⟨gP h.1,gQ h.2⟩
 |block id b ih=>intro h;exact ih h
 |loop b ih=>intro h;exact ih h
 |c6=>intro _;rfl
 |iW=>intro _;rfl
 |gO T b _=>intro h;exact h
 |_=>intro _;trivial
def af.plain:af→Bool
 | .seq a b=>a.plain&&b.plain
 | .cond _ a b=>a.plain&&b.plain
 | .block _ b=>b.plain
 | .loop b=>b.plain
 | .gO _ _=>false
 |_=>true
theorem af.Gx {H:((Exit→ag→Prop)→ag→Prop)→af→Prop}:∀c:af,c.plain=true→c.lQ H:=by
 intro c
 induction c with
 |seq a b gP gQ=>intro h;simp only[af.plain,Bool.and_eq_true]at h;exact⟨gP h.1,gQ h.2⟩
 |cond c a b gP gQ=>intro h;simp only[af.plain,Bool.and_eq_true]at h;exact⟨gP h.1,gQ h.2⟩
 |block id b ih=>intro h;exact ih h
 |loop b ih=>intro h;exact ih h
 |gO T b _=>intro h;cases h
 |_=>intro _;trivial
def andThen (K:ag→Prop) (Q:Exit→ag→Prop):Exit→ag→Prop
 | .normal,s=>K s
 |e,s=>Q e s
def pL (id:Nat) (Q:Exit→ag→Prop):Exit→ag→Prop
 | .exit i,s=>if i=id then Q .normal s else Q (.exit i) s
 |e,s=>Q e s
def dN (K:ag→Prop) (s:ag):Prop:=K s∨∃l,rP s l∧K (J l)
def rQ:Option (List Nat)→(ag→Prop)→ag→Prop
 |none,K,s=>dN K s
 |some k,K,s=>K (J (k.map fun t=>(t,s t)))
def bW (C:bo):af→(Exit→ag→Prop)→ag→Prop
 | .skip,Q,s=>Q .normal s
 | .c6 ros keep,Q,s=>h1 C s ros (rQ keep (Q .normal))
 | .iW ros k1 keep,Q,s=>∀l,kZ k1 l→fK C ros s l (rQ keep (Q .normal))
 | .seq a b,Q,s=>bW C a (andThen (dN (bW C b Q)) Q) s
 | .cond c a b,Q,s=>match ax s c with
   | .bool dr=>if dr=true then bW C a Q s else bW C b Q s
   | .c2=>bW C a Q s∧bW C b Q s
   |_=>False
 | .block id b,Q,s=>bW C b (pL id Q) s
 | .loop b,Q,s=>dN (fun s=>∀Z:ag→Prop,(∀aj,bW C b (andThen (dN Z) Q) aj→Z aj)→Z s) s
 | .exit id,Q,s=>Q (.exit id) s
 | .ret,Q,s=>Q .ret s
 | .gO T _,Q,s=>∀cW:Exit→ag→Prop,(∀e s,Q e s→cW e s)→T cW s
section
variable {C:bo}
theorem tl {s:ag} {o:bh} {K b9:ag→Prop} (h:im C s o K) (al:∀s,K s→b9 s):im C s o b9:=by
 unfold im at h⊢
 split
 ·rename_i aY;rw[aY]at h;exact th h fun av s1=>al _
 ·rename_i t b aY
  rw[aY]at h
  simp only at h
  split
  ·rename_i dr R
   rw[R]at h
   simp only at h
   split
   ·rename_i I;rw[if_pos I]at h;exact th h fun av s1=>al _
   ·rename_i I;rw[if_neg I]at h;exact al _ h
  ·rename_i R;rw[R]at h;exact al _ h
  ·rename_i U aa
   split at h
   ·exact U _ (by assumption)
   ·exact aa (by assumption)
   ·exact h
theorem zS {K b9:ag→Prop} (al:∀s,K s→b9 s):∀{ros:List bh} {s:ag},h1 C s ros K→h1 C s ros b9:=by
 intro ros
 induction ros with
 |nil=>intro s h;exact al s h
 |cons o ros ih=>intro s h;exact tl h fun s h=>ih h
theorem zT {ros:List bh} {K b9:ag→Prop} (al:∀s,K s→b9 s):∀{l:List Nat} {s:ag},fK C ros s l K→fK C ros s l b9:=by
 intro l
 induction l with
 |nil=>intro s h;exact al s h
 |cons i l ih=>
  intro s h
  simp only[fK]at h⊢
  split
  ·rename_i bs;rw[bs]at h;exact ih h
  ·rename_i o bs;rw[bs]at h;exact tl h fun s h=>ih h
theorem pM {K b9:ag→Prop} (al:∀s,K s→b9 s) (s:ag) (h:dN K s):dN b9 s:=
 h.imp (al s) fun⟨l,U,aa⟩=>⟨l,U,al _ aa⟩
theorem zU {keep:Option (List Nat)} {K b9:ag→Prop} (al:∀s,K s→b9 s) (s:ag) (h:rQ keep K s):rQ keep b9 s:=by
 cases keep with
 |none=>exact pM al s h
 |some k=>exact al _ h
theorem zV {keep:Option (List Nat)} {K:ag→Prop} {s:ag} (h:rQ keep K s):dN K s:=by
 cases keep with
 |none=>exact h
 |some k=>
  refine .inr ⟨_,?_,h⟩
  intro p an
  obtain⟨t,_,rfl⟩:=List.mem_map.1 an
  exact .inl rfl
theorem wm {K b9:ag→Prop} {Q cW:Exit→ag→Prop} (al:∀s,K s→b9 s) (bX:∀e s,Q e s→cW e s):∀e s,andThen K Q e s→andThen b9 cW e s:=by
 intro e s h
 cases e with
 |normal=>exact al s h
 |_=>exact bX _ s h
theorem zW:∀(c:af) {Q cW:Exit→ag→Prop} {s:ag},(∀e s,Q e s→cW e s)→bW C c Q s→bW C c cW s:=by
 intro c
 induction c with
 |skip=>intro Q cW s bX h;exact bX _ _ h
 |c6 ros keep=>intro Q cW s bX h;exact zS (zU (bX _)) h
 |iW ros k1 keep=>intro Q cW s bX h l hl;exact zT (zU (bX _)) (h l hl)
 |seq a b gP gQ=>
  intro Q cW s bX h
  exact gP (wm (fun s h=>pM (fun _ h=>gQ bX h) s h) bX) h
 |cond c a b gP gQ=>
  intro Q cW s bX h
  simp only[bW]at h⊢
  split
  ·rename_i dr I
   rw[I]at h
   simp only at h
   split
   ·rename_i e;rw[if_pos e]at h;exact gP bX h
   ·rename_i e;rw[if_neg e]at h;exact gQ bX h
  ·rename_i I;rw[I]at h;exact⟨gP bX h.1,gQ bX h.2⟩
  ·rename_i U aa
   split at h
   ·exact U _ (by assumption)
   ·exact aa (by assumption)
   ·exact h
 |block id b ih=>
  intro Q cW s bX h
  refine ih ?_ h
  intro e s h
  cases e with
  |exit i=>
   simp only[pL]at h⊢
   split
   ·rename_i e;rw[if_pos e]at h;exact bX _ _ h
   ·rename_i e;rw[if_neg e]at h;exact bX _ _ h
  |_=>exact bX _ _ h
 |loop b ih=>
  intro Q cW s bX h
  refine pM (fun s h Z pN=> ?_) s h
  exact h Z fun aj eI=>pN aj (ih (wm (fun _ h=>h) bX) eI)
 |exit id=>intro Q cW s bX h;exact bX _ _ h
 |ret=>intro Q cW s bX h;exact bX _ _ h
 |gO T b _=>intro Q cW s bX h iq aa;exact h iq fun e s he=>aa e s (bX e s he)
theorem zX:∀(c:af) {Q:Exit→ag→Prop} {s:ag},bW C c Q s→bW C c.h2 Q s:=by
 intro c
 induction c with
 |c6 ros keep=>intro Q s h;exact zS (fun s h=>zV h) h
 |iW ros cg keep=>intro Q s h l hl;exact zT (fun s h=>zV h) (h l hl)
 |seq a b gP gQ=>intro Q s h;exact gP (zW a (wm (fun s h=>pM (fun _ h=>gQ h) s h) (fun _ _ h=>h)) h)
 |cond c a b gP gQ=>
  intro Q s h
  simp only[af.h2,bW]at h⊢
  split
  ·rename_i dr I
   rw[I]at h
   simp only at h
   split
   ·rename_i e;rw[if_pos e]at h;exact gP h
   ·rename_i e;rw[if_neg e]at h;exact gQ h
  ·rename_i I;rw[I]at h;exact⟨gP h.1,gQ h.2⟩
  ·rename_i U aa
   split at h
   ·exact U _ (by assumption)
   ·exact aa (by assumption)
   ·exact h
 |block id b ih=>intro Q s h;exact ih h
 |loop b ih=>
  intro Q s h
  refine pM (fun s h Z pN=> ?_) s h
  exact h Z fun aj eI=>pN aj (ih eI)
 |gO T b _=>intro Q s h;exact h
 |_=>intro Q s h;exact h
variable {w0 w:World} {F0 X:Nat→Prop} {n:Fr} {ρ:Nat→Value} {s:ag} {a:Act}
def pO (w0:World) (F0 X:Nat→Prop) (n:Fr) (ρ:Nat→Value) (Q:Exit→ag→Prop):Exit→Act→World→Prop:=fun e a w=>∃s,Q e s∧Rel w0 F0 X n ρ s a w
theorem Rel.dN {K:ag→Prop} {s:ag} {a:Act} {w:World} (aB:Rel w0 F0 X n ρ s a w) (h:dN K s):∃aj,K aj∧Rel w0 F0 X n ρ aj a w:=by
 rcases h with h|⟨l,U,aa⟩
 ·exact⟨s,h,aB⟩
 ·obtain⟨aE,aO,bg,F,S,cd⟩:=aB
  obtain⟨a7,az,cQ⟩:=cd.Gw U
  exact⟨J l,aa,aE,aO,bg,a7,az,cQ⟩
theorem af.Gy {c:af} (h:c.strip= .skip):c= .skip∨∃T b,c= .gO T b:=by cases c<;>first|exact .inl rfl|exact .inr ⟨_,_,rfl⟩|cases h
theorem af.Gz {c:af} (h:c.strip= .ret):c= .ret∨∃T b,c= .gO T b:=by cases c<;>first|exact .inl rfl|exact .inr ⟨_,_,rfl⟩|cases h
theorem af.GA {c:af} {i:Nat} (h:c.strip= .exit i):c= .exit i∨∃T b,c= .gO T b:=by cases c<;>first|exact .inl h|exact .inr ⟨_,_,rfl⟩|cases h
theorem af.GB {c:af} {r:List bh} {k:Option (List Nat)} (h:c.strip= .c6 r k):(∃ros b3,c= .c6 ros b3∧ros.map bh.un=r)∨∃T b,c= .gO T b:=by
 cases c<;>first|(cases h;exact .inl ⟨_,_,rfl,rfl⟩)|exact .inr ⟨_,_,rfl⟩|cases h
theorem af.GC {c:af} {r:List bh} {cg:List (List Nat)} {k:Option (List Nat)} (h:c.strip= .iW r cg k):(∃ros zY b3,c= .iW ros zY b3∧ros.map bh.un=r∧zY=cg)∨∃T b,c= .gO T b:=by
 cases c<;>first|(cases h;exact .inl ⟨_,_,_,rfl,rfl,rfl⟩)|exact .inr ⟨_,_,rfl⟩|cases h
theorem af.GD {c x y:af} (h:c.strip= .seq x y):(∃a b,c= .seq a b∧a.strip=x∧b.strip=y)∨∃T b,c= .gO T b:=by
 cases c<;>first|(cases h;exact .inl ⟨_,_,rfl,rfl,rfl⟩)|exact .inr ⟨_,_,rfl⟩|cases h
theorem af.GF {c x y:af} {o:au} (h:c.strip= .cond o x y):(∃jM a b,c= .cond jM a b∧jM=o∧a.strip=x∧b.strip=y)∨∃T b,c= .gO T b:=by
 cases c<;>first|(cases h;exact .inl ⟨_,_,_,rfl,rfl,rfl,rfl⟩)|exact .inr ⟨_,_,rfl⟩|cases h
theorem af.GG {c x:af} {i:Nat} (h:c.strip= .block i x):(∃a,c= .block i a∧a.strip=x)∨∃T b,c= .gO T b:=by
 cases c<;>first|(cases h;exact .inl ⟨_,rfl,rfl⟩)|exact .inr ⟨_,_,rfl⟩|cases h
theorem af.GH {c x:af} (h:c.strip= .loop x):(∃a,c= .loop a∧a.strip=x)∨∃T b,c= .gO T b:=by
 cases c<;>first|(cases h;exact .inl ⟨_,rfl,rfl⟩)|exact .inr ⟨_,_,rfl⟩|cases h
theorem zZ (aQ:C.c5) {H:((Exit→ag→Prop)→ag→Prop)→af→Prop}
  (jO:∀(c:Code) (T:(Exit→ag→Prop)→ag→Prop) (b:af) (Q:Exit→ag→Prop) (s:ag) (a:Act) (w:World),H T b→cB n c=some b.strip→T Q s→Rel w0 F0 X n ρ s a w→c.wp C.P (pO w0 F0 X n ρ Q) a w):
  ∀(c:Code) {c3:af} {Q:Exit→ag→Prop} {s:ag} {a:Act} {w:World},cB n c=some c3.strip→c3.bare H→bW C c3 Q s→Rel w0 F0 X n ρ s a w→c.wp C.P (pO w0 F0 X n ρ Q) a w:=by
 intro c
 induction c with
 |skip=>
  intro c3 Q s a w R eS h aB
  have g2:=R
  simp only[cB,Option.some.injEq]at R
  rcases af.Gy R.symm with rfl|⟨T,b,rfl⟩
  ·exact wp_skip ⟨s,h,aB⟩
  ·exact jO _ T b Q s a w eS (by simpa only[af.strip]using g2) (h Q fun _ _ h=>h) aB
 |region id ops draw=>
  intro c3 Q s a w R eS h aB
  have g2:=R
  cases draw with
  |false=>
   simp only[cB,Option.map_eq_some_iff]at R
   obtain⟨GI,rR,R⟩:=R
   rcases af.GB R.symm with⟨ros,k,rfl,rfl⟩|⟨T,b,rfl⟩
   rotate_left
   ·exact jO _ T b Q s a w eS (by simpa only[af.strip]using g2) (h Q fun _ _ h=>h) aB
   cases eS
   exact Gj aQ rR (fun aj bM aq al cU=>cU.dN al) h aB
  |true=>
   simp only[cB]at R
   split at R
   ·rename_i I
    simp only[Option.map_eq_some_iff]at R
    obtain⟨GI,rR,R⟩:=R
    rcases af.GC R.symm with⟨ros,cg,k,rfl,rfl,rfl⟩|⟨T,b,rfl⟩
    rotate_left
    ·exact jO _ T b Q s a w eS (by simpa only[af.strip]using g2) (h Q fun _ _ h=>h) aB
    cases eS
    refine wp_region_draw fun t=> ?_
    rw[show Region.schedule (C.P.follows .mixedOrders) ops t=Region.linearise .any ops t by simp[Region.schedule,aQ.mixed]]
    exact zG aQ rR (fun aj bM aq al cU=>cU.dN al) _ s a _ (h _ (Gr I t)) (aB.drawn _ (by first|exact Nat.le_succ _|exact Nat.le_add_right _ _|omega))
   ·cases R
 |seq x y GJ tm=>
  intro c3 Q s a w R eS h aB
  have g2:=R
  simp only[cB]at R
  split at R
  ·rename_i rq GK ao aT
   simp only[Option.some.injEq]at R
   rcases af.GD R.symm with⟨b6,hr,rfl,rfl,rfl⟩|⟨T,b,rfl⟩
   rotate_left
   ·exact jO _ T b Q s a w eS (by simpa only[af.strip]using g2) (h Q fun _ _ h=>h) aB
   refine wp_seq (wp_mono (GJ ao eS.1 h aB) ?_)
   rintro e bM aq ⟨aj,a2,cU⟩
   cases e with
   |normal=>
    obtain⟨aj,a2,cU⟩:=cU.dN a2
    exact tm aT eS.2 a2 cU
   |_=>exact⟨aj,a2,cU⟩
  ·cases R
 |cond x y z tm z1=>
  intro c3 Q s a w R eS h aB
  have g2:=R
  simp only[cB]at R
  split at R
  ·rename_i rq GK sz ao aT bf
   simp only[Option.some.injEq]at R
   rcases af.GF R.symm with⟨b6,hr,mm,rfl,rfl,rfl,rfl⟩|⟨T,b,rfl⟩
   rotate_left
   ·exact jO _ T b Q s a w eS (by simpa only[af.strip]using g2) (h Q fun _ _ h=>h) aB
   have cU:=aB
   obtain⟨ab,cm,bc,F,S,mB⟩:=cU
   have aC:=(dc (a:=a) mB (fun _=>rfl) ao).2
   simp only[bW]at h
   split at h
   ·rename_i dr I
    rw[I]at aC
    have:=nc aC
    refine wp_cond this ?_
    split
    ·rename_i e;rw[if_pos e]at h;exact tm aT eS.1 h aB
    ·rename_i e;rw[if_neg e]at h;exact z1 bf eS.2 h aB
   ·rename_i I
    rw[I]at aC
    obtain⟨dr,iH⟩:=yp aC
    refine wp_cond iH ?_
    split
    ·exact tm aT eS.1 h.1 aB
    ·exact z1 bf eS.2 h.2 aB
   ·exact h.elim
  ·cases R
 |block id b ih=>
  intro c3 Q s a w R eS h aB
  have g2:=R
  simp only[cB,Option.map_eq_some_iff]at R
  obtain⟨s5,I,R⟩:=R
  rcases af.GG R.symm with⟨dr,rfl,rfl⟩|⟨T,b,rfl⟩
  rotate_left
  ·exact jO _ T b Q s a w eS (by simpa only[af.strip]using g2) (h Q fun _ _ h=>h) aB
  refine wp_block (wp_mono (ih I eS h aB) ?_)
  rintro e bM aq ⟨aj,a2,cU⟩
  cases e with
  |exit i=>
   simp only[pL]at a2
   simp only[Exit.inBlock]
   split
   ·rename_i e;rw[if_pos e]at a2;exact⟨aj,a2,cU⟩
   ·rename_i e;rw[if_neg e]at a2;exact⟨aj,a2,cU⟩
  |_=>exact⟨aj,a2,cU⟩
 |loop b ih=>
  intro c3 Q s a w R eS h aB
  have g2:=R
  simp only[cB,Option.map_eq_some_iff]at R
  obtain⟨s5,I,R⟩:=R
  rcases af.GH R.symm with⟨dr,rfl,rfl⟩|⟨T,b,rfl⟩
  rotate_left
  ·exact jO _ T b Q s a w eS (by simpa only[af.strip]using g2) (h Q fun _ _ h=>h) aB
  obtain⟨s,h,aB⟩:=aB.dN h
  have key:=h (fun s=>∀a w,Rel w0 F0 X n ρ s a w→∀(f:Frame) (k:List Item) (cs:List Frame),∃e bM aq,pO w0 F0 X n ρ Q e bM aq∧Arrives C.P (lone (f.at a (.code b:: .inLoop b::k)) cs w) f k cs e bM aq) ?_
  ·intro f k cs
   obtain⟨e,bM,aq,bX,nx⟩:=key a w aB f k cs
   exact⟨e,bM,aq,bX,.of_steps (.one step_loop) nx⟩
  ·intro aj eI a w aB f k cs
   obtain⟨e,a₁,w₁,⟨s1,bX,ny⟩,nx⟩:=ih I eS eI aB f (.inLoop b::k) cs
   cases e with
   |normal=>
    simp only[andThen]at bX
    obtain⟨s1,bX,ny⟩:=ny.dN bX
    obtain⟨e₂,a₂,w₂,hq₂,harr₂⟩:=bX a₁ w₁ ny f k cs
    exact⟨e₂,a₂,w₂,hq₂,.of_steps (Steps.trans nx (.one step_inLoop)) harr₂⟩
   |exit id=>exact⟨_,a₁,w₁,⟨s1,bX,ny⟩,.pass (x:=.inLoop b) rfl (fun _ _=>.inl (by simp)) nx⟩
   |goto l=>exact⟨_,a₁,w₁,⟨s1,bX,ny⟩,.pass (x:=.inLoop b) rfl (fun _ _=>.inl (by simp)) nx⟩
   |ret=>exact⟨_,a₁,w₁,⟨s1,bX,ny⟩,.pass (x:=.inLoop b) rfl (fun _ _=>.inl (by simp)) nx⟩
   |panic RK=>exact⟨_,a₁,w₁,⟨s1,bX,ny⟩,.pass (x:=.inLoop b) rfl (fun _ _=>.inl (by simp)) nx⟩
   |outgrown=>exact⟨_,a₁,w₁,⟨s1,bX,ny⟩,.pass (x:=.inLoop b) rfl (fun _ _=>.inl (by simp)) nx⟩
 |exit id=>
  intro c3 Q s a w R eS h aB
  have g2:=R
  simp only[cB,Option.some.injEq]at R
  rcases af.GA R.symm with rfl|⟨T,b,rfl⟩
  ·exact wp_exit ⟨s,h,aB⟩
  ·exact jO _ T b Q s a w eS (by simpa only[af.strip]using g2) (h Q fun _ _ h=>h) aB
 |ret=>
  intro c3 Q s a w R eS h aB
  have g2:=R
  simp only[cB,Option.some.injEq]at R
  rcases af.Gz R.symm with rfl|⟨T,b,rfl⟩
  ·exact wp_ret ⟨s,h,aB⟩
  ·exact jO _ T b Q s a w eS (by simpa only[af.strip]using g2) (h Q fun _ _ h=>h) aB
 |_=>intro c3 Q s a w R;simp[cB]at R
theorem GL (aQ:C.c5) (c:Code) {c3:af} {Q:Exit→ag→Prop} {s:ag} {a:Act} {w:World} (R:cB n c=some c3.strip) (I:c3.bare (fun _ _=>False)) (h:bW C c3 Q s) (aB:Rel w0 F0 X n ρ s a w):c.wp C.P (pO w0 F0 X n ρ Q) a w:=
 zZ aQ (fun _ _ _ _ _ _ _ bc=>bc.elim) c R I h aB
end
def gF:ResultVar→Nat
 | .tmp t=>t
 | .cell a _=>a
def mC (C:bo) (s:ag):ResultVar→Option j
 | .tmp t=>if(s t).tree=true then(match s t with| .tuple _=>none|d=>some d)else none
 | .cell a T=>match s a with
   | .bm d=>if fits C T d=true∧d.tree=true then some d else none
   |_=>none
def wo (C:bo) (fx:List Nat) (dt:List ResultVar) (r:j) (outs:List j) (s:ag):Prop:=
 ∃ds,dt.map (mC C s)=ds.map some∧r=(match ds with|[d]=>d|ds=>.tuple ds)∧(dt.map gF).Nodup∧
  ∀(i:Nat) (o:j),outs[i]? =some o→o= .hole∨(o=s i∧o.dS=true∧i∈fx∧i∉dt.map gF)
def Ends (C:bo) (fx:List Nat) (dt:List ResultVar) (r:j) (outs:List j) (s:ag):Prop:=
 wo C fx dt r outs s∨∃t y q d s1,s t= .h y q∧bK s (.h y q)=some (d,s1)∧wo C fx dt r outs (fin s1 (some t) d)
theorem aX.takes {w0 w:World} {F0 X F:Nat→Prop} {S:Nat→Nat→Prop} {s s1:ag} {ak:Nat→Value} {t y:Nat} {q:List Nat} {d:j} (aB:aX w0 F0 X F S s ak w) (U:s t= .h y q) (aa:bK s (.h y q)=some (d,s1)):
  ∃az,aX w0 F0 X F az (bZ.fin s1 (some t) d) ak w:=by
 have R:=aB.b5 t
 rw[U,ar]at R
 obtain⟨bj,k0,bb,bq,Sn,cD,b1,cZ,cY,eT,_⟩:=kF aB (av:=.h y q) (v:=ak t) rfl (by rw[ar];exact R) aa
 obtain⟨az,a2⟩:=k0.fin (.inr ⟨bb,bq,Sn,cD,b1,cZ,cY,eT⟩) (some t)
 refine⟨az,?_⟩
 have e:mj ak (some t) (ak t)=ak:=by
  funext u
  simp only[mj,b4]
  split
  ·rename_i h;rw[h]
  ·rfl
 rwa [e]at a2
section
variable {C:bo} {w0 w:World} {F0 X F:Nat→Prop} {S:Nat→Nat→Prop} {s:ag} {tmps:Array Value}
theorem z2 {d:j} {x:Value} (ab:∀vs,d≠.tuple vs) (h:ct d x):ba x=e_ x∧fp d x:=by
 have:fp d x:=by cases d<;>first|exact h|exact(ab _ rfl).elim
 refine⟨?_,this⟩
 cases d<;>first
  |(obtain⟨a,rfl⟩:=this;rfl)
  |(simp only[fp]at this
    rw[ek this]
    cases x<;>first|rfl|(simp[Value.dZ]at this))
def rS (tmps:Array Value):ResultVar→Sem Value
 | .tmp t=>pure (tmps.getD t undef)
 | .cell a t=>do loadVar t (←asAddr (tmps.getD a undef))
theorem GM (aQ:C.c5) (h:aX w0 F0 X F S s (fun t=>tmps.getD t undef) w) {v:ResultVar} {d:j} (aC:mC C s v=some d):
  ∃x,(rS tmps v).run C.P w= .ok x w∧d.tree=true∧(∀vs,d≠.tuple vs)∧ct d x∧ai w F d (ba x) (S (gF v)):=by
 cases v with
 |tmp t=>
  simp only[mC]at aC
  split at aC
  ·rename_i aM
   have jq:(∀vs,s t≠.tuple vs)∧d=s t:=by
    cases R:s t<;>rw[R]at aC<;>simp only at aC<;>first
     |(cases aC;done)
     |(simp only[Option.some.injEq]at aC;exact⟨(fun _ h=>by cases h),aC.symm⟩)
   obtain⟨jq,rfl⟩:=jq
   obtain⟨aE,aO⟩:=(ar.bx aM).1 (h.b5 t)
   exact⟨_,by simp[rS],aM,jq,aE,aO⟩
  ·cases aC
 |cell a T=>
  simp only[mC]at aC
  split at aC
  ·rename_i e R
   split at aC
   ·rename_i GN
    obtain⟨fh,GO⟩:=GN
    simp only[Option.some.injEq]at aC;subst aC
    have gg:=h.b5 a
    rw[R]at gg
    obtain⟨aE,aO⟩:=(ar.bx (d:=.bm e) rfl).1 gg
    rw[ek aE,ai]at aO
    obtain⟨b,cur,ty,fr,az,bb,bq,cD,b1,cZ,cY,eT⟩:=aO
    simp only[List.cons.injEq,and_true]at bb
    have gK:e8 w b 0 cur.toList:=by
     have:=pg cD cur.size
     rwa [List.take_of_length_le (by simp)]at this
    obtain⟨x,dw,cy,fu⟩:=sW (C:=C) aQ gK cZ fh
    refine⟨x,?_,GO,?_,fu,?_⟩
    ·simp only[rS]
     rw[bb]
     simpa [asAddr]using dw
    ·intro vs ei;subst ei
     unfold fits at fh
     split at fh<;>simp_all
    ·rw[cy];exact ai.mono (fun _ h=>h) _ _ _ _ cY cZ
   ·cases aC
  ·cases aC
theorem GP (aQ:C.c5) (h:aX w0 F0 X F S s (fun t=>tmps.getD t undef) w):∀(dt:List ResultVar) (ds:List j),dt.map (mC C s)=ds.map some→(dt.map gF).Nodup→
  ∃xs,(dt.mapM (rS tmps)).run C.P w= .ok xs w∧xs.length=ds.length∧aJ w F ds (xs.flatMap e_) (fun b=>∃t∈dt.map gF,S t b)∧
   ∀(k:Nat) (d:j) (x:Value),ds[k]? =some d→xs[k]? =some x→ct d x∧(∀vs,d≠.tuple vs)∧(e_ x).length=d.wd∧ba x=e_ x∧d.tree=true:=by
 intro dt
 induction dt with
 |nil=>
  intro ds he _
  have:ds=[]:=by simpa using he.symm
  subst this
  exact⟨[],by simp,rfl,by simp only[List.flatMap_nil];rw[aJ],fun k d x ab=>by simp at ab⟩
 |cons v dt ih=>
  intro ds he pP
  cases ds with
  |nil=>simp at he
  |cons d ds=>
   simp only[List.map_cons,List.cons.injEq]at he
   simp only[List.map_cons,List.nodup_cons]at pP
   obtain⟨x,dw,rt,cy,fu,fv⟩:=GM aQ h he.1
   obtain⟨xs,fe,ej,gp,gf⟩:=ih ds he.2 pP.2
   obtain⟨aG,aL⟩:=z2 cy fu
   refine⟨x::xs,by simp[List.mapM_cons,dw,fe],by simp[ej],?_,?_⟩
   ·simp only[List.flatMap_cons]
    rw[aJ]
    rw[aG]at fv
    refine⟨e_ x,xs.flatMap e_,S (gF v),fun b=>∃t∈dt.map gF,S t b,rfl,fv,gp,fun b I=>⟨gF v,by simp,I⟩,?_,?_⟩
    ·rintro b ⟨t,aM,I⟩;exact⟨t,by simp[aM],I⟩
    ·rintro b I ⟨t,aM,iH⟩
     have:t≠gF v:=fun e=>pP.1 (e▸aM)
     exact h.c8 t (gF v) b this iH I
   ·intro k aV b6 ab ao
    cases k with
    |zero=>
     simp at ab ao;subst ab ao
     refine⟨fu,cy,?_,aG,rt⟩
     rw[←aG];exact ai.length _ _ _ fv
    |succ k=>exact gf k aV b6 (by simpa using ab) (by simpa using ao)
theorem z5 (aQ:C.c5) {f:FuncId} {fn:Func} {c:Code} {fx:List Nat} {as outs:List j} {r:j} (bc:C.P.funcs[f]? =some fn) (I:fn.body=some c)
  (h3:(fn.name== "runtime.NumGoroutine")=false) (aR:as.length≤fn.ntmps)
  {w:World} {F X:Nat→Prop} {S:Nat→Nat→Prop} {vs:List Value} (hl:vs.length=as.length) (aB:aX w F X F S (dh as) (dW vs) w)
  (wq:∀a,Rel w F X ⟨fn.ntmps,fx⟩ (dW vs) (dh as) a w→(∀t,a.tmps.getD t undef=dW vs t)→c.wp C.P (pO w F X ⟨fn.ntmps,fx⟩ (dW vs) (fun e s=>(e= .normal∨e= .ret)∧dN (Ends C fx fn.results.toList r outs) s)) a w):
  kV C.P f vs.toArray w fun v aq=>∃a7 az,aX w F X a7 az (dh (r::outs)) (dW (v::vs)) aq:=by
 have jo:(vs.toArray++Array.replicate (fn.ntmps-vs.toArray.size) undef).size=fn.ntmps:=by simp;omega
 have cJ:(fun t=>(vs.toArray++Array.replicate (fn.ntmps-vs.toArray.size) undef).getD t undef)=dW vs:=by
  funext t
  simp only[dW,Array.getD_eq_getD_getElem?,List.getD_eq_getElem?_getD]
  by_cases aM:t<vs.length
  ·rw[Array.getElem?_append_left (by simpa using aM)];simp
  ·rw[Array.getElem?_append_right (by simpa using aM)]
   rw[List.getElem?_eq_none (by omega)]
   simp only[Array.getElem?_replicate]
   split<;>rfl
 have mB:Rel w F X ⟨fn.ntmps,fx⟩ (dW vs) (dh as) {tmps:=vs.toArray++Array.replicate (fn.ntmps-vs.toArray.size) undef,defers:=[]} w:=
  ⟨rfl,jo,fun i _=>congrFun cJ i,F,S,by rw[cJ];exact aB⟩
 have wt:fn.name≠ "runtime.NumGoroutine" :=by simpa using h3
 refine .inl ⟨by simp[callFunc,bc,wt,I],calls_of_wp bc I (wp_mono (wq _ mB (congrFun cJ)) ?_)⟩
 rintro e bM aq ⟨aj,⟨he,GQ⟩,GR⟩
 obtain⟨aj,⟨ds,gr,z6,pP,n2⟩,ab,cm,e4,a7,az,cU⟩:∃aj,wo C fx fn.results.toList r outs aj∧Rel w F X ⟨fn.ntmps,fx⟩ (dW vs) aj bM aq:=by
  obtain⟨aj,he,z7⟩:=GR.dN GQ
  rcases he with he|⟨t,y,q,d,s1,U,aa,he⟩
  ·exact⟨aj,he,z7⟩
  ·obtain⟨aE,aO,bg,F,S,cd⟩:=z7
   obtain⟨az,cQ⟩:=cd.takes U aa
   exact⟨_,he,aE,aO,bg,F,az,cQ⟩
 obtain⟨xs,fe,ej,gp,gf⟩:=GP aQ cU _ ds gr pP
 have GS:(results fn bM.tmps)=(do let vs←fn.results.mapM (rS bM.tmps);pure (if h:vs.size=1 then vs[0]else .tuple vs)):=by
  unfold results
  congr 1
 have j0:(results fn bM.tmps).run C.P aq= .ok (if h:xs.toArray.size=1 then xs.toArray[0]else .tuple xs.toArray) aq:=by
  rw[GS,Array.mapM_eq_mapM_toList]
  simp[fe]
 have lR:(r.tree=true∧ct r (if h:xs.toArray.size=1 then xs.toArray[0]else .tuple xs.toArray)∧
   ai aq a7 r (ba (if h:xs.toArray.size=1 then xs.toArray[0]else .tuple xs.toArray)) (fun b=>∃t∈fn.results.toList.map gF,az t b)):=by
  by_cases U:∃d,ds=[d]
  ·obtain⟨d,rfl⟩:=U
   obtain⟨x,rfl⟩:∃x,xs=[x]:=by
    cases xs with
    |nil=>simp at ej
    |cons x xs=>cases xs with
     |nil=>exact⟨x,rfl⟩
     |cons y ys=>simp at ej
   obtain⟨bb,bq,cD,b1,cZ⟩:=gf 0 d x rfl rfl
   have GU:d=r:=z6.symm
   subst GU
   simp only[List.flatMap_cons,List.flatMap_nil,List.append_nil]at gp
   rw[aJ]at gp
   obtain⟨bB,bF,bj,ch,aG,aL,a1,b2,cb,bp⟩:=gp
   rw[aJ]at a1;subst a1
   simp only[List.append_nil]at aG;subst aG
   have ao:(if h:([x]:List Value).toArray.size=1 then([x]:List Value).toArray[0]else .tuple ([x]:List Value).toArray)=x:=by simp
   rw[ao,b1]
   exact⟨cZ,bb,ai.mono (fun _ h=>h) _ _ _ _ b2 aL⟩
  ·have GV:r= .tuple ds:=by
    rw[z6]
    cases ds with
    |nil=>rfl
    |cons d ds=>cases ds with
     |nil=>exact(U ⟨d,rfl⟩).elim
     |cons e ds=>rfl
   have ao:(if h:xs.toArray.size=1 then xs.toArray[0]else Value.tuple xs.toArray)= .tuple xs.toArray:=by
    rw[dif_neg]
    intro cm
    have:ds.length=1:=by rw[←ej];simpa using cm
    obtain⟨d,ab⟩:=List.length_eq_one_iff.1 this
    exact U ⟨d,ab⟩
   rw[ao,GV]
   refine⟨rfl,⟨xs.toArray,rfl,by simpa using ej,fun k d x ab ao=> ?_⟩,?_⟩
   ·obtain⟨bb,bq,cD,b1,_⟩:=gf k d x ab (by simpa using ao)
    exact⟨(z2 bq bb).2,bq,cD⟩
   ·rw[ai]
    simpa [ba]using gp
 have post:∀(v:Value),(r.tree=true∧ct r v∧ai aq a7 r (ba v) (fun b=>∃t∈fn.results.toList.map gF,az t b))→∃pG bj,aX w F X pG bj (dh (r::outs)) (dW (v::vs)) aq:=by
  rintro v ⟨v1,v2,v3⟩
  have wu:∀i,(outs.getD i .hole).dS=true→outs.getD i .hole=aj i∧i∈fx∧i∉fn.results.toList.map gF:=by
   intro i ay
   cases bs:outs[i]? with
   |none=>simp[List.getD,bs,j.dS]at ay
   |some o=>
    have e:outs.getD i .hole=o:=by simp[List.getD,bs]
    rw[e]at ay⊢
    rcases n2 i o bs with h|h
    ·subst h;simp[j.dS]at ay
    ·exact⟨h.1,h.2.2⟩
  refine⟨a7,fun t b=>match t with|0=>∃t∈fn.results.toList.map gF,az t b|i+1=>(outs.getD i .hole).dS=true∧az i b,cU.er,cU.eL,cU.db,?_,?_,?_,?_,?_,cU.old,cU.size,cU.os,cU.tape,cU.output,aB.et⟩
  ·intro t b I
   cases t with
   |zero=>obtain⟨t,_,I⟩:=I;exact cU.cT t b I
   |succ i=>exact cU.cT i b I.2
  ·intro t b I
   cases t with
   |zero=>obtain⟨t,_,I⟩:=I;exact cU.dp t b I
   |succ i=>exact cU.dp i b I.2
  ·intro t u b cr I hu
   cases t with
   |zero=>
    obtain⟨t,aM,I⟩:=I
    cases u with
    |zero=>exact cr rfl
    |succ ad=>
     refine cU.c8 t ad b (fun e=> ?_) I hu.2
     subst e;exact(wu t hu.1).2.2 aM
   |succ i=>
    cases u with
    |zero=>
     obtain⟨t,aM,hu⟩:=hu
     refine cU.c8 t i b (fun e=> ?_) hu I.2
     subst e;exact(wu t I.1).2.2 aM
    |succ ad=>exact cU.c8 i ad b (by omega) I.2 hu.2
  ·intro t b I
   cases t with
   |zero=>obtain⟨t,_,I⟩:=I;exact cU.cl t b I
   |succ i=>exact cU.cl i b I.2
  ·intro t
   cases t with
   |zero=>exact(ar.bx v1).2 ⟨v2,v3⟩
   |succ i=>
    show ar aq a7 (dh (r::outs)) (dW (v::vs)) (outs.getD i .hole) (vs.getD i undef) (fun b=>(outs.getD i .hole).dS=true∧az i b)
    cases ay:(outs.getD i .hole).dS with
    |false=>
     have:outs.getD i .hole= .hole:=by
      cases bs:outs[i]? with
      |none=>simp[List.getD,bs]
      |some o=>
       have e:outs.getD i .hole=o:=by simp[List.getD,bs]
       rw[e]at ay⊢
       rcases n2 i o bs with h|h
       ·exact h
       ·rw[h.2.1]at ay;cases ay
     rw[this,ar];trivial
    |true=>
     obtain⟨jN,kU,te⟩:=wu i ay
     have aM:=(ns ay).2.1
     have gg:=cU.b5 i
     rw[←jN]at gg
     obtain⟨aE,aO⟩:=(ar.bx aM).1 gg
     have aC:bM.tmps.getD i undef=vs.getD i undef:=e4 i kU
     rw[aC]at aE aO
     exact(ar.bx aM).2 ⟨aE,ai.mono (fun _ h=>h) _ _ _ _ (fun b I=>⟨rfl,I⟩) aO⟩
 rcases he with rfl|rfl
 ·exact⟨ab,_,j0,_,rfl,post _ lR⟩
 ·exact⟨ab,_,j0,_,rfl,post _ lR⟩
theorem b8.of_wp (aQ:C.c5) {f:FuncId} {fn:Func} {c:Code} {c3:af} {fx:List Nat} {as outs:List j} {r:j} (bc:C.P.funcs[f]? =some fn) (I:fn.body=some c)
  (h3:(fn.name== "runtime.NumGoroutine")=false) (R:cB ⟨fn.ntmps,fx⟩ c=some c3.strip) (aR:as.length≤fn.ntmps)
  (h:bW C c3 (fun e s=>(e= .normal∨e= .ret)∧dN (Ends C fx fn.results.toList r outs) s) (dh as)) (an:c3.plain=true:=by kernel_rfl):b8 C f as r outs:=
 fun w F X S vs hl aB=>z5 aQ bc I h3 aR hl aB fun a mB _=>GL aQ c (by rw[af.zQ];exact R) (af.zR c3 (af.Gx c3 an)) (zX c3 h) mB
end
def num:Nat→List j→List (Nat×j)
 |_,[]=>[]
 |k,a::as=>(k,a)::num (k+1) as
theorem GW:∀(as:List j) (k t:Nat),J (num k as) (k+t)=as.getD t .hole:=by
 intro as
 induction as with
 |nil=>intro k t;simp[num,J]
 |cons a as ih=>
  intro k t
  cases t with
  |zero=>simp[num,J]
  |succ t=>
   have:=ih (k+1) t
   simp only[num,J]
   rw[if_neg (by omega)]
   rw[show k+(t+1)=k+1+t by omega,this]
   simp
theorem z8 (as:List j):dh as=J (num 0 as):=by
 funext t
 have:=GW as 0 t
 rw[Nat.zero_add]at this
 rw[this];rfl
theorem hB (l:List (Nat×j)) (t:Nat) (d:j):b4 (J l) t d=J ((t,d)::l):=by
 funext u;simp only[b4,J]
def ki (t:Nat):List (Nat×j)→List (Nat×j)
 |[]=>[]
 |(u,d)::l=>(u,bJ t d)::ki t l
def oD (t:Nat):List (Nat×j)→List (Nat×j)
 |[]=>[]
 |(u,d)::l=>(u,bn t d)::oD t l
theorem pQ (t:Nat):∀l:List (Nat×j),ia t (J l)=J (ki t l):=by
 intro l
 funext u
 induction l with
 |nil=>rfl
 |cons p l ih=>
  obtain⟨v,d⟩:=p
  simp only[ia,J,ki]at ih⊢
  split
  ·rfl
  ·exact ih
theorem GX (t:Nat):∀l:List (Nat×j),ff t (J l)=J (oD t l):=by
 intro l
 funext u
 induction l with
 |nil=>rfl
 |cons p l ih=>
  obtain⟨v,d⟩:=p
  simp only[ff,J,oD]at ih⊢
  split
  ·rfl
  ·exact ih
def fL (k:List Nat) (s:ag):List (Nat×j):=k.map fun t=>(t,s t)
section
variable {C:bo} {l:List (Nat×j)}
def dI.oE:dI→Bool
 | .call _ _=>true
 | .cA _=>false
 | .fs _=>false
 | .pick _ _ _=>false
 | .eR _=>false
 | .dd _ _=>false
 | .dO _ _=>false
 | .c0 _ _ _=>false
 | .cR _ _=>false
 | .ea _ _ _=>false
 | .eH _=>false
 | .bV _ _ _ _=>false
 | .un _ _=>false
 | .dH _ _ _=>false
 | .hd _ _=>false
 | .eV _ _ _=>false
 | .de _ _ _ _=>false
 | .dG _ _ _=>false
 | .dx _ _ _=>false
 | .idx _ _ _=>false
 | .ex _ _=>false
 | .iN _ _ _=>false
 | .len _ _=>false
 | .app _ _ _ _=>false
 | .shr _=>true
 | .j7 _ _ _ _=>false
 | .cap _ _=>false
 | .lG _ _ _=>false
 | .bad=>false
 | .jm _ _ _ _=>true
 | .jn _ _ _=>true
 | .hU _ _=>false
 | .np _=>false
 | .ij _=>false
 | .rv=>false
 | .j6 _ _ _=>false
 | .jl _ _ _ _=>false
variable {Q:Exit→ag→Prop}
def j.z_:j→Bool
 | .tuple _=>true
 |_=>false
theorem Ends.one {fx:List Nat} {t:Nat} {r:j} {s:ag} (U:s t=r) (aa:(r.tree&& !r.z_)=true):Ends C fx [.tmp t] r [] s:=by
 simp only[Bool.and_eq_true,Bool.not_eq_true']at aa
 obtain⟨aa,tn⟩:=aa
 have aw:∀vs,r≠.tuple vs:=fun vs e=>by subst e;simp[j.z_]at tn
 refine .inl ⟨[r],?_,rfl,by simp,fun i o h=>by simp at h⟩
 have:mC C s (.tmp t)=some r:=by
  simp only[mC,U,aa,if_true]
  try (cases r<;>first|rfl|exact(aw _ rfl).elim)
 simp only[List.map_cons,List.map_nil,this]
end
section
variable {C:bo} {l:List (Nat×j)} {Q:Exit→ag→Prop}
theorem b8.outs {f:FuncId} {as:List j} {r:j} {jN kU:List j} (h:b8 C f as r jN) (he:dh jN=dh kU):b8 C f as r kU:=by
 intro w F X S vs hl aB
 refine kV.mono (h w F X S vs hl aB) ?_
 rintro v aq ⟨a7,az,a2⟩
 refine⟨a7,az,?_⟩
 have:dh (r::kU)=dh (r::jN):=by
  funext t
  cases t with
  |zero=>rfl
  |succ t=>exact(congrFun he t).symm
 rw[this];exact a2
def iX:List j→List j→List bH
 |a::as,d::ds=>⟨a,false,d,.hole⟩::iX as ds
 |_,_=>[]
theorem GY {s:ag}:∀(as ds:List j),views s as=some ds→(iX as ds).map (·.a)=as∧(iX as ds).map (·.d)=ds∧(∀p∈iX as ds,p.ok s∧p.g=false∧p.o= .hole∧p.a∈as)∧fS (iX as ds)=true∧
  dh ((iX as ds).map (·.o))=dh []∧(∀mD,dq mD (iX as ds)=mD)∧(∀mD,fJ mD (iX as ds)=mD):=by
 intro as
 induction as with
 |nil=>
  intro ds h
  simp only[views,Option.some.injEq]at h;subst h
  exact⟨rfl,rfl,(fun p an=>by cases an),rfl,rfl,fun _=>rfl,fun _=>rfl⟩
 |cons a as ih=>
  intro ds h
  simp only[views]at h
  split at h
  ·rename_i d GZ U aa
   simp only[Option.some.injEq]at h;subst h
   obtain⟨aG,aL,a1,b2,cb,bp,bk⟩:=ih GZ aa
   refine⟨by simp only[iX,List.map_cons,aG],by simp only[iX,List.map_cons,aL],?_,?_,?_,?_,?_⟩
   ·intro p an
    simp only[iX,List.mem_cons]at an
    rcases an with rfl|an
    ·exact⟨by simp only[bH.ok];exact U,rfl,rfl,by simp⟩
    ·obtain⟨aE,aO,bg,cd⟩:=a1 p an
     exact⟨aE,aO,bg,by simp[cd]⟩
   ·simp only[iX,fS,b2,Bool.and_true,List.all_eq_true]
    intro p an
    simp[(a1 p an).2.1]
   ·funext t
    cases t with
    |zero=>rfl
    |succ t=>exact(congrFun cb t).trans (by simp[dh])
   ·intro mD;exact bp mD
   ·intro mD;exact bk mD
  ·cases h
end
structure dk where
 a5:List Nat
 H:List Nat
 T:List Nat
 c:Bool
mutual
def j.clean:j→Bool
 | .hole=>false
 | .fn _ cap=>j.pR cap
 |_=>true
def j.pR:List j→Bool
 |[]=>true
 |d::ds=>d.clean&&j.pR ds
end
mutual
theorem Aa {x:Nat}:∀a:j,(bn x a).clean=true→bn x a=a
 | .h y q,h=>by
   simp only[bn]at h⊢
   split
   ·rename_i e;rw[if_pos e]at h
    split
    ·rfl
    ·rename_i ei;rw[if_neg ei]at h;simp[j.clean]at h
   ·rfl
 | .an y q,h=>by
   simp only[bn]at h⊢
   split
   ·rename_i e;rw[if_pos e]at h;simp[j.clean]at h
   ·rfl
 | .I y q,h=>rfl
 | .fn f cap,h=>by simp only[bn,j.clean]at h⊢;rw[Ab cap h]
 | .hole,_=>rfl
 | .bool _,_=>rfl
 | .c2,_=>rfl
 | .int _ _,_=>rfl
 | .str _,_=>rfl
 | .cw,_=>rfl
 | .bt,_=>rfl
 | .slice _,_=>rfl
 | .aH _ _,_=>rfl
 | .ref _,_=>rfl
 | .bm _,_=>rfl
 | .agg _,_=>rfl
 | .tuple _,_=>rfl
 | .cx _,_=>rfl
theorem Ab {x:Nat}:∀ds:List j,j.pR (fD x ds)=true→fD x ds=ds
 |[],_=>rfl
 |d::ds,h=>by
  simp only[fD,j.pR,Bool.and_eq_true]at h⊢
  rw[Aa d h.1,Ab ds h.2]
end
mutual
theorem Ac {x:Nat}:∀a:j,(bJ x a).clean=true→bJ x a=a
 | .h y q,h=>by
   simp only[bJ]at h⊢
   split
   ·rename_i e;rw[if_pos e]at h;simp[j.clean]at h
   ·rfl
 | .an y q,h=>by
   simp only[bJ]at h⊢
   split
   ·rename_i e;rw[if_pos e]at h;simp[j.clean]at h
   ·rfl
 | .I y q,h=>by
   simp only[bJ]at h⊢
   split
   ·rename_i e;rw[if_pos e]at h;simp[j.clean]at h
   ·rfl
 | .fn f cap,h=>by simp only[bJ,j.clean]at h⊢;rw[Ad cap h]
 | .hole,_=>rfl
 | .bool _,_=>rfl
 | .c2,_=>rfl
 | .int _ _,_=>rfl
 | .str _,_=>rfl
 | .cw,_=>rfl
 | .bt,_=>rfl
 | .slice _,_=>rfl
 | .aH _ _,_=>rfl
 | .ref _,_=>rfl
 | .bm _,_=>rfl
 | .agg _,_=>rfl
 | .tuple _,_=>rfl
 | .cx _,_=>rfl
theorem Ad {x:Nat}:∀ds:List j,j.pR (f_ x ds)=true→f_ x ds=ds
 |[],_=>rfl
 |d::ds,h=>by
  simp only[f_,j.pR,Bool.and_eq_true]at h⊢
  rw[Ac d h.1,Ad ds h.2]
end
theorem G0 {k:lI} {x:Nat} {a:j} (h:(k.app x a).clean=true):k.app x a=a:=by
 cases k with
 |no=>rfl
 |bn=>exact Aa a h
 |bJ=>exact Ac a h
theorem G1:∀(ms:List el) (u:Nat) (a:j),(∀m∈ms,m.x≠u)→(gN ms u a).clean=true→gN ms u a=a:=by
 intro ms
 induction ms with
 |nil=>intros;rfl
 |cons m ms ih=>
  intro u a ao ae
  simp only[gN]at ae⊢
  have e:=ih u _ (fun gL oF=>ao gL (by simp[oF])) ae
  have hm:m.at u a=m.k.app m.x a:=by
   simp only[el.at];rw[if_neg (fun e=>ao m (by simp) e.symm)]
  rw[e,hm]
  rw[e,hm]at ae
  exact G0 ae
theorem G2:∀(ms:List el) (u:Nat) (a:j),(∀m∈ms,m.x≠u∧m.x∉a.R)→gN ms u a=a:=by
 intro ms
 induction ms with
 |nil=>intros;rfl
 |cons m ms ih=>
  intro u a ao
  simp only[gN]
  have hm:m.at u a=a:=by
   simp only[el.at];rw[if_neg (fun e=>(ao m (by simp)).1 e.symm)]
   exact rB (.inr (ao m (by simp)).2)
  rw[hm]
  exact ih u a fun gL oF=>ao gL (by simp[oF])
theorem G3 (m:el):∀(ms:List el) (u:Nat) (a:j),(∀gL∈ms,gL.x≠m.x∧gL.x∉m.d.R∧m.x∉gL.d.R)→gN ms u (m.at u a)=m.at u (gN ms u a):=by
 intro ms
 induction ms with
 |nil=>intros;rfl
 |cons n ms ih=>
  intro u a ao
  simp only[gN]
  have aR:=ao n (by simp)
  have ae:n.at u (m.at u a)=m.at u (n.at u a):=by
   simp only[el.at]
   by_cases aG:u=n.x
   ·subst aG
    rw[if_pos rfl,if_neg aR.1,if_pos rfl]
    exact(rB (.inr aR.2.2)).symm
   ·rw[if_neg aG]
    by_cases aL:u=m.x
    ·subst aL
     rw[if_pos rfl,if_pos rfl]
     exact rB (.inr aR.2.1)
    ·rw[if_neg aL,if_neg aG,if_neg aL]
     exact Fh _ _ _ _ _
  rw[ae]
  exact ih u _ fun gL oF=>ao gL (by simp[oF])
theorem G4:∀(ms hz:List el) (s:ag),(∀m∈ms,∀n∈hz,n.x≠m.x∧n.x∉m.d.R∧m.x∉n.d.R)→cc hz (cc ms s)=cc ms (cc hz s):=by
 intro ms
 induction ms with
 |nil=>intros;rfl
 |cons m ms ih=>
  intro hz s h
  have e:∀s,cc (m::ms) s=cc ms (cc [m] s):=fun s=>ik [m] ms s
  rw[e,e,ih hz _ (fun gL oF=>h gL (by simp[oF]))]
  congr 1
  funext u
  simp only[cc,gN]
  exact G3 m hz u _ (h m (by simp))
def wv (C:bo) (s:ag) (f:au) (args:List au) (K:List Nat→j→ag→Prop):Prop:=
 ∃(g:FuncId) (caps:List j) (ps:List bH) (r:j),ax s f= .fn g caps∧j.dE caps=true∧ps.map (·.a)=args.map (ax s)++caps∧(∀p∈ps,p.ok s)∧fS ps=true∧
   b8 C g (ps.map (·.d)) r (ps.map (·.o))∧r.res=true∧(hA ps=true→r.cS=true∧∀p∈ps,p.o.cS=true)∧K (j.cP ((ps.filter (·.g)).map (·.a))) r (fJ (dq s ps) ps)
def k3 (C:bo) (s:ag) (a6:dI) (K:List Nat→j→ag→Prop):Prop:=
 match a6 with
 | .call f args=>∃(g:FuncId) (caps:List j) (ps:List bH) (r:j),ax s f= .fn g caps∧j.dE caps=true∧ps.map (·.a)=args.map (ax s)++caps∧(∀p∈ps,p.ok s)∧fS ps=true∧
   b8 C g (ps.map (·.d)) r (ps.map (·.o))∧r.res=true∧(hA ps=true→r.cS=true∧∀p∈ps,p.o.cS=true)∧K (j.cP ((ps.filter (·.g)).map (·.a))) r (fJ (dq s ps) ps)
 | .shr a6=>∃av s1,aW C s a6=some (av,s1)∧av.tree=true∧(∀vs,av≠.tuple vs)∧K (b7 s a6) av.share s1
 | .jm f args u x=>s u= .h x []∧(s x).own=true∧wv C s f args fun bK av s1=>s1 u= .hole∧(s1 x).own=true∧K (u::bK) av (b4 s1 u (.h x []))
 | .jn f args us=>lO s (iT s us)=true∧wv C s f args fun bK av s1=>lO s1 (iT s us)=true∧K (us++bK) av (mA s1 (iT s us))
 |a6=>∃av s1,aW C s a6=some (av,s1)∧K (b7 s a6) av s1
def fU (s:ag) (a5:List Nat) (dst:Option Nat) (bK:List Nat) (av:j):dk:=
 ⟨a5,a5.flatMap (fun u=>(s u).R)++av.R,dst.toList++bK,a5.all fun u=>(s u).clean⟩
def kj (C:bo) (s:ag) (o:bh) (K:dk→ag→Prop):Prop:=
 match o.guard with
 |none=>k3 C s o.a6 fun bK av s1=>K (fU s (use s o.a6) o.dst bK av) (fin s1 o.dst av)
 |some (t,b)=>match s t with
  | .bool dr=>if dr=b then k3 C s o.a6 (fun bK av s1=>K (fU s (t::use s o.a6) o.dst bK av) (fin s1 o.dst av))else K (fU s [t] o.dst [] (.tuple [])) (fin s o.dst (.tuple []))
  | .tuple []=>K (fU s [t] o.dst [] (.tuple [])) (fin s o.dst (.tuple []))
  |_=>False
def mE:Option (List dk)→dk→Option (List dk)
 |none,_=>none
 |some l,f=>some (f::l)
def bz (C:bo) (s:ag):List bh→Option (List dk)→(Option (List dk)→ag→Prop)→Prop
 |[],acc,K=>K acc s
 |o::os,acc,K=>kj C s o fun f s1=>bz C s1 os (mE acc f) K
section
variable {C:bo}
theorem Ae {s:ag} {a6:dI} {K:List Nat→j→ag→Prop} {b9:j→ag→Prop} (al:∀bK av s,K bK av s→b9 av s) (h:k3 C s a6 K):ke C s a6 b9:=by
 cases a6 with
 |call f args=>
  obtain⟨g,caps,ps,r,U,ee,aa,aw,aN,a8,bI,bO,di⟩:=h
  exact⟨g,caps,ps,r,U,ee,aa,aw,aN,a8,bI,bO,al _ _ _ di⟩
 |jm f args u x=>
  obtain⟨bb,bq,g,caps,ps,r,U,ee,aa,aw,aN,a8,bI,bO,di,eY,eZ⟩:=h
  exact⟨bb,bq,g,caps,ps,r,U,ee,aa,aw,aN,a8,bI,bO,di,eY,al _ _ _ eZ⟩
 |jn f args us=>
  obtain⟨bq,g,caps,ps,r,U,ee,aa,aw,aN,a8,bI,bO,di,eY⟩:=h
  exact⟨bq,g,caps,ps,r,U,ee,aa,aw,aN,a8,bI,bO,di,al _ _ _ eY⟩
 |shr a6=>
  obtain⟨av,s1,U,aa,aw,aN⟩:=h
  exact⟨av,s1,U,aa,aw,al _ _ _ aN⟩
 |_=>
  obtain⟨av,s1,U,aa⟩:=h
  exact⟨av,s1,U,al _ _ _ aa⟩
theorem G5 {s:ag} {o:bh} {K:dk→ag→Prop} {b9:ag→Prop} (al:∀f s,K f s→b9 s) (h:kj C s o K):im C s o b9:=by
 unfold kj at h
 unfold im
 split
 ·rename_i aY;rw[aY]at h;exact Ae (fun _ _ _=>al _ _) h
 ·rename_i t b aY
  rw[aY]at h
  simp only at h
  split
  ·rename_i dr R
   rw[R]at h
   simp only at h
   split
   ·rename_i I;rw[if_pos I]at h;exact Ae (fun _ _ _=>al _ _) h
   ·rename_i I;rw[if_neg I]at h;exact al _ _ h
  ·rename_i R;rw[R]at h;exact al _ _ h
  ·rename_i U aa
   split at h
   ·exact U _ (by assumption)
   ·exact aa (by assumption)
   ·exact h
theorem tp {K:ag→Prop}:∀{ros:List bh} {s:ag} {acc:Option (List dk)} {b9:Option (List dk)→ag→Prop},(∀a s,b9 a s→K s)→bz C s ros acc b9→h1 C s ros K:=by
 intro ros
 induction ros with
 |nil=>intro s acc b9 al h;exact al _ _ h
 |cons o ros ih=>intro s acc b9 al h;exact G5 (fun f s h=>ih al h) h
theorem Af {q:List Nat} {a d:j} (h:j.sub q a=some d) (bX:q≠[]∨d.R=[]):a.R=[]:=by
 cases q with
 |nil=>
  simp only[j.sub,Option.some.injEq]at h;subst h
  exact bX.resolve_left (fun e=>e rfl)
 |cons k q=>cases a<;>first|rfl|(simp[j.sub]at h)
def tq (s:ag) (p:bH) (e:j→Prop):Prop:=p.g=true→∃x q d,p.a= .h x q∧j.sub q (s x)=some d∧e d∧(p.o= .hole∨p.o.dS=true)
theorem Ag {d:j} (h:d.dS=true):d.R=[]:=zw (ns h).2.1
theorem Ah {d:j} (h:d.dS=true):d.bT.R=[]:=by cases d<;>first|rfl|(simp[j.dS]at h)
theorem Ai {p:bH} {ps:List bH} (h:fS (p::ps)=true):fS ps=true∧∀bE∈ps,(p.g=true∨bE.g=true)→∀u∈p.a.R,u∉bE.a.R:=by
 simp only[fS,Bool.and_eq_true,List.all_eq_true,Bool.or_eq_true,Bool.not_eq_true']at h
 refine⟨h.2,fun bE cV aY u hu=> ?_⟩
 rcases h.1 bE cV with e|e
 ·rcases aY with aY|aY<;>simp[aY]at e
 ·simpa using e u hu
def nz (ps:List bH):List Nat:=j.cP ((ps.filter (·.g)).map (·.a))
theorem pS (p:bH) (ps:List bH):(∀u∈nz ps,u∈nz (p::ps))∧(p.g=true→∀u∈p.a.R,u∈nz (p::ps)):=by
 unfold nz
 by_cases aY:p.g=true
 ·simp only[List.filter_cons,aY,if_true,List.map_cons,j.cP,List.mem_append]
  exact⟨fun u h=>.inr h,fun _ u h=>.inl h⟩
 ·simp only[List.filter_cons,aY]
  exact⟨fun u h=>h,fun h=>by simp at h⟩
theorem G6 {p:bH} {ps:List bH} (h:p∈ps):∀u∈p.a.R,u∈j.cP (ps.map (·.a)):=by
 induction ps with
 |nil=>cases h
 |cons bE ps ih=>
  intro u hu
  simp only[List.map_cons,j.cP,List.mem_append]
  rcases List.mem_cons.1 h with rfl|h
  ·exact .inl hu
  ·exact .inr (ih h u hu)
theorem G7:∀(ps:List bH) (s:ag),(∀p∈ps,tq s p (fun d=>d=p.d∧p.d.dS=true))→fS ps=true→
  (∃ms:List el,(∀m∈ms,m.x∈nz ps∧m.d.R=[])∧∀aj,cf (j.cP (ps.map (·.a))) aj s→dq aj ps=cc ms aj)∧∀p∈ps,tq (dq s ps) p (fun d=>d=p.d.bT∧p.d.dS=true):=by
 intro ps
 induction ps with
 |nil=>intro s _ _;exact⟨⟨[],by simp,fun aj _=>rfl⟩,fun p an=>by cases an⟩
 |cons p ps ih=>
  intro s aY hx
  obtain⟨kT,kc⟩:=Ai hx
  by_cases iY:p.g=true
  ·obtain⟨x,q,d,bN,R,⟨rfl,ab⟩,bs⟩:=aY p (by simp) iY
   have gY:(j.put q p.d.bT (s x)).R=[]:=pD q _ _ _ R (.inl (ns ab).1) fun _=>Ah ab
   have rT:∀aj:ag,aj x=s x→p.take aj=cc [⟨.bn,x,j.put q p.d.bT (s x)⟩] aj:=by
    intro aj e
    simp only[bH.take,iY,if_true,bN,e,ov]
   have cr:∀bE∈ps,∀b6 gm,bE.a= .h b6 gm→b6≠x:=by
    intro bE cV b6 gm e ei
    have:=kc bE cV (.inl iY) x (by simp[bN,j.R])
    rw[e,ei]at this;simp[j.R]at this
   have nt:∀b6,b6≠x→(s b6).R=[]→cc [⟨.bn,x,j.put q p.d.bT (s x)⟩] s b6=s b6:=by
    intro b6 pq bu
    simp only[cc,gN,el.at]
    rw[if_neg pq]
    exact rB (.inr (by rw[bu];simp))
   obtain⟨⟨ms,eb,fc⟩,gn⟩:=ih (cc [⟨.bn,x,j.put q p.d.bT (s x)⟩] s) (fun bE cV wx=>by
    obtain⟨b6,gm,aV,ox,eI,eJ,rU⟩:=aY bE (by simp[cV]) wx
    refine⟨b6,gm,aV,ox,?_,eJ,rU⟩
    rw[nt b6 (cr bE cV b6 gm ox) (Af eI (.inr (by rw[eJ.1];exact Ag eJ.2)))];exact eI) kT
   refine⟨⟨[⟨.bn,x,j.put q p.d.bT (s x)⟩]++ms,?_,?_⟩,?_⟩
   ·intro m hm
    rcases List.mem_append.1 hm with hm|hm
    ·simp only[List.mem_singleton]at hm;subst hm
     exact⟨(pS p ps).2 iY x (by simp[bN,j.R]),gY⟩
    ·exact⟨(pS p ps).1 _ (eb m hm).1,(eb m hm).2⟩
   ·intro aj eI
    simp only[List.map_cons,j.cP]at eI
    have e:aj x=s x:=eI x (by simp[bN,j.R])
    rw[ik]
    show dq (p.take aj) ps=_
    rw[rT aj e]
    exact fc _ (cf.cc eI.right _)
   ·have aG:dq s (p::ps)=dq (cc [⟨.bn,x,j.put q p.d.bT (s x)⟩] s) ps:=by
     show dq (p.take s) ps=_
     rw[rT s rfl]
    rw[aG]
    intro bE cV
    rcases List.mem_cons.1 cV with rfl|cV
    ·intro _
     refine⟨x,q,bE.d.bT,bN,?_,⟨rfl,ab⟩,bs⟩
     have aC:cc [⟨.bn,x,j.put q bE.d.bT (s x)⟩] s x=j.put q bE.d.bT (s x):=by
      simp only[cc,gN,el.at,if_true]
     rw[vS (by rw[aC];exact gY) (fun G8 G9 RL=> ?_),aC]
     ·exact zs q _ _ _ R
     ·exact kc G8 G9 (.inl iY) x (by simp[bN,j.R])
    ·exact gn bE cV
  ·have rT:∀aj:ag,p.take aj=aj:=by intro aj;simp only[bH.take,iY];rfl
   obtain⟨⟨ms,eb,fc⟩,gn⟩:=ih s (fun bE cV=>aY bE (by simp[cV])) kT
   refine⟨⟨ms,fun m hm=>⟨(pS p ps).1 _ (eb m hm).1,(eb m hm).2⟩,?_⟩,?_⟩
   ·intro aj eI
    simp only[List.map_cons,j.cP]at eI
    show dq (p.take aj) ps=_
    rw[rT];exact fc aj eI.right
   ·intro bE cV
    have aG:dq s (p::ps)=dq s ps:=by show dq (p.take s) ps=_;rw[rT]
    rw[aG]
    rcases List.mem_cons.1 cV with rfl|cV
    ·intro h;exact(iY h).elim
    ·exact gn bE cV
theorem G_:∀(ps:List bH) (s:ag),(∀p∈ps,tq s p (fun d=>d=p.d.bT∧p.d.dS=true))→fS ps=true→
  (∃ms:List el,(∀m∈ms,m.x∈nz ps∧m.d.R=[])∧∀aj,cf (j.cP (ps.map (·.a))) aj s→fJ aj ps=cc ms aj):=by
 intro ps
 induction ps with
 |nil=>intro s _ _;exact⟨[],by simp,fun aj _=>rfl⟩
 |cons p ps ih=>
  intro s aY hx
  obtain⟨kT,kc⟩:=Ai hx
  by_cases iY:p.g=true∧p.o≠.hole
  ·obtain⟨iY,Ha⟩:=iY
   obtain⟨x,q,d,bN,R,⟨rfl,ab⟩,bs⟩:=aY p (by simp) iY
   have bs:p.o.dS=true:=bs.resolve_left Ha
   have gY:(j.put q p.o (s x)).R=[]:=by
    cases q with
    |nil=>simp only[j.put];exact Ag bs
    |cons k q=>exact pD _ _ _ _ R (.inr (by simp)) (by simp)
   have wy:∀aj:ag,aj x=s x→p.fI aj=cc [⟨.bJ,x,j.put q p.o (s x)⟩] aj:=by
    intro aj e
    simp only[bH.fI,iY,if_true,bN]
    rw[e,za]
   have cr:∀bE∈ps,∀b6 gm,bE.a= .h b6 gm→b6≠x:=by
    intro bE cV b6 gm e ei
    have:=kc bE cV (.inl iY) x (by simp[bN,j.R])
    rw[e,ei]at this;simp[j.R]at this
   obtain⟨ms,eb,fc⟩:=ih (cc [⟨.bJ,x,j.put q p.o (s x)⟩] s) (fun bE cV wx=>by
    obtain⟨b6,gm,aV,ox,eI,eJ,rU⟩:=aY bE (by simp[cV]) wx
    refine⟨b6,gm,aV,ox,?_,eJ,rU⟩
    have bu:=Af eI (.inr (by rw[eJ.1];exact Ah eJ.2))
    have nt:cc [⟨.bJ,x,j.put q p.o (s x)⟩] s b6=s b6:=by
     simp only[cc,gN,el.at]
     rw[if_neg (cr bE cV b6 gm ox)]
     exact rB (.inr (by rw[bu];simp))
    rw[nt];exact eI) kT
   refine⟨[⟨.bJ,x,j.put q p.o (s x)⟩]++ms,?_,?_⟩
   ·intro m hm
    rcases List.mem_append.1 hm with hm|hm
    ·simp only[List.mem_singleton]at hm;subst hm
     exact⟨(pS p ps).2 iY x (by simp[bN,j.R]),gY⟩
    ·exact⟨(pS p ps).1 _ (eb m hm).1,(eb m hm).2⟩
   ·intro aj eI
    simp only[List.map_cons,j.cP]at eI
    have e:aj x=s x:=eI x (by simp[bN,j.R])
    rw[ik]
    show fJ (p.fI aj) ps=_
    rw[wy aj e]
    exact fc _ (cf.cc eI.right _)
  ·have wy:∀aj:ag,p.fI aj=aj:=by
    intro aj
    unfold bH.fI
    split
    ·rename_i e3
     have:p.o= .hole:=by
      by_cases h:p.o= .hole
      ·exact h
      ·exact(iY ⟨e3,h⟩).elim
     rw[this]
    ·rfl
   obtain⟨ms,eb,fc⟩:=ih s (fun bE cV=>aY bE (by simp[cV])) kT
   refine⟨ms,fun m hm=>⟨(pS p ps).1 _ (eb m hm).1,(eb m hm).2⟩,?_⟩
   intro aj eI
   simp only[List.map_cons,j.cP]at eI
   show fJ (p.fI aj) ps=_
   rw[wy];exact fc aj eI.right
theorem Hb {s aj:ag}:∀(a:j) (d:j),cf a.R aj s→view s a=some d→view aj a=some d:=by
 intro a d h
 have:=vV (s:=s) (aj:=aj) a d
 intro aC
 cases a with
 |h x q=>simp only[view]at aC⊢;rw[h x (by simp[j.R])];exact aC
 |an x q=>simp only[view]at aC⊢;rw[h x (by simp[j.R])];exact aC
 |fn f cap=>
  refine this (fun u hu _=>h u hu) aC
 |_=>exact aC
theorem Hc {p:bH} {s aj:ag} (h:cf p.a.R aj s) (en:p.ok s):p.ok aj:=by
 unfold bH.ok at en⊢
 split
 ·rename_i aY
  rw[if_pos aY]at en
  cases bN:p.a with
  |h x q=>
   rw[bN]at en
   simp only at en⊢
   rw[h x (by simp[bN,j.R])];exact en
  |_=>rw[bN]at en;exact en.elim
 ·rename_i aY
  rw[if_neg aY]at en
  exact Hb _ _ h en
def tr (C:bo) (o:bh) (s:ag) (hg:dk) (ms:List el):Prop:=
 (∀aj,cf hg.a5 aj s→∀K:ag→Prop,K (cc ms aj)→im C aj o K)∧(∀m∈ms,m.x∈hg.T∧∀u∈m.d.R,u∈hg.H)∧(∀u∈hg.a5,∀x∈(s u).R,x∈hg.H)∧(hg.c=true→∀u∈hg.a5,(s u).clean=true)
theorem Aj (dst:Option Nat) (av:j):∃ms:List el,(∀m∈ms,m.x∈dst.toList∧m.d=av)∧∀s1:ag,fin s1 dst av=cc ms s1:=by
 cases dst with
 |none=>exact⟨[],by simp,fun s=>rfl⟩
 |some t=>
  simp only[fin]
  by_cases h:av.plain=true
  ·exact⟨[⟨.no,t,av⟩],by simp,fun s=>by rw[if_pos h,vF]⟩
  ·exact⟨[⟨.bJ,t,av⟩],by simp,fun s=>by rw[if_neg h,za]⟩
theorem ts {s:ag} {a5:List Nat} {dst:Option Nat} {bK:List Nat} {av:j}:(∀u∈(fU s a5 dst bK av).a5,∀x∈(s u).R,x∈(fU s a5 dst bK av).H)∧((fU s a5 dst bK av).c=true→∀u∈(fU s a5 dst bK av).a5,(s u).clean=true):=by
 refine⟨fun u hu x ao=> ?_,fun ae=> ?_⟩
 ·simp only[fU,List.mem_append,List.mem_flatMap];exact .inl ⟨u,hu,ao⟩
 ·simp only[fU,List.all_eq_true]at ae;exact ae
theorem wz {s:ag} {f:au} {args:List au} {K:List Nat→j→ag→Prop} (h:wv C s f args K):
  ∃bK av ms,K bK av (cc ms s)∧(∀m∈ms,m.x∈bK∧m.d.R=[])∧∀aj,cf (use s (.call f args)) aj s→∀b9:j→ag→Prop,b9 av (cc ms aj)→tg C aj f args b9:=by
 obtain⟨g,caps,ps,r,U,ee,aa,aw,aN,a8,bI,bO,di⟩:=h
 have Hd:∀p∈ps,tq s p (fun d=>d=p.d∧p.d.dS=true):=by
  intro p an aY
  have:=aw p an
  simp only[bH.ok,aY,if_true]at this
  cases bN:p.a with
  |h x q=>rw[bN]at this;exact⟨x,q,p.d,rfl,this.1,⟨rfl,this.2.1⟩,this.2.2.imp id fun h=>h.1⟩
  |_=>rw[bN]at this;exact this.elim
 obtain⟨⟨kS,aA,cn⟩,a3⟩:=G7 ps s Hd aN
 obtain⟨nk,iM,gd⟩:=G_ ps (dq s ps) a3 aN
 have lE:∀u∈j.cP (ps.map (·.a)),u∈use s (.call f args):=by
  rw[aa]
  intro u hu
  simp only[use,List.mem_append]
  have key:∀(ed l2:List j),u∈j.cP (ed++l2)→u∈j.cP ed∨u∈j.cP l2:=by
   intro ed
   induction ed with
   |nil=>intro l2 h;exact .inr h
   |cons a ed ih=>
    intro l2 h
    simp only[List.cons_append,j.cP,List.mem_append]at h⊢
    rcases h with h|h
    ·exact .inl (.inl h)
    ·exact(ih l2 h).imp .inr id
  rcases key _ _ hu with hu|hu
  ·exact .inr (au.tc u hu)
  ·refine .inl (au.ow u ?_)
   rw[U];exact hu
 have eu:fJ (dq s ps) ps=cc (kS++nk) s:=by
  rw[ik,←cn s (fun _ _=>rfl),gd _ (fun _ _=>rfl)]
 refine⟨nz ps,r,kS++nk,by rw[←eu];exact di,?_,?_⟩
 ·intro m hm
  rcases List.mem_append.1 hm with hm|hm
  ·exact aA m hm
  ·exact iM m hm
 ·intro aj R b9 al
  have lJ:cf (j.cP (ps.map (·.a))) aj s:=R.sub lE
  have bc:cf (f.use s) aj s:=by simp only[use]at R;exact R.left
  have ao:cf (au.kb s args) aj s:=by simp only[use]at R;exact R.right
  have aG:fJ (dq aj ps) ps=cc (kS++nk) aj:=by
   rw[ik,←cn aj lJ,gd]
   rw[cn aj lJ,cn s (fun _ _=>rfl)]
   exact cf.cc lJ _
  exact⟨g,caps,ps,r,by rw[au.dg bc];exact U,ee,by rw[au.vJ ao];exact aa,fun p an=>Hc (lJ.sub (G6 an)) (aw p an),aN,a8,bI,bO,by rw[aG];exact al⟩
mutual
theorem Ak {s aj:ag}:∀(d:j),cf d.R aj s→d.eW aj=d.eW s
 | .h x q,h=>by simp only[j.eW];rw[h x (by simp[j.R])]
 | .I x q,h=>by simp only[j.eW];rw[h x (by simp[j.R])]
 | .fn f cap,h=>by simp only[j.eW];exact Al cap (by simpa only[j.R]using h)
 | .an _ _,_=>by simp only[j.eW]
 | .hole,_=>by simp only[j.eW]
 | .bool _,_=>by simp only[j.eW]
 | .c2,_=>by simp only[j.eW]
 | .int _ _,_=>by simp only[j.eW]
 | .str _,_=>by simp only[j.eW]
 | .cw,_=>by simp only[j.eW]
 | .bt,_=>by simp only[j.eW]
 | .slice _,_=>by simp only[j.eW]
 | .aH _ _,_=>by simp only[j.eW]
 | .ref _,_=>by simp only[j.eW]
 | .bm _,_=>by simp only[j.eW]
 | .agg _,_=>by simp only[j.eW]
 | .tuple _,_=>by simp only[j.eW]
 | .cx _,_=>by simp only[j.eW]
theorem Al {s aj:ag}:∀(ds:List j),cf (j.cP ds) aj s→j.nv aj ds=j.nv s ds
 |[],_=>rfl
 |d::ds,h=>by
  simp only[j.cP]at h
  simp only[j.nv];rw[Ak d h.left,Al ds h.right]
end
theorem wA {s aj:ag} {us:List Nat} (h:cf (us.flatMap fun u=>u::(s u).R) aj s):iT aj us=iT s us:=by
 unfold iT
 refine List.map_congr_left fun u hu=> ?_
 rw[h u (List.mem_flatMap.2 ⟨u,hu,by simp⟩)]
theorem wB {s aj:ag}:∀(L:List (Nat×j)),(∀p∈L,cf p.2.R aj s)→lO aj L=lO s L
 |[],_=>rfl
 |p::L,h=>by
  simp only[lO];rw[Ak p.2 (h p (by simp)),wB L (fun q bX=>h q (by simp[bX]))]
theorem Am:∀(L:List (Nat×j)) (s:ag),mA s L=cc (L.map fun p=>⟨.no,p.1,p.2⟩) s
 |[],s=>rfl
 |p::L,s=>by
  simp only[mA,List.map_cons]
  rw[Am L,vF]
  exact(ik [⟨.no,p.1,p.2⟩] _ s).symm
theorem He {s:ag} {a6:dI} {K:List Nat→j→ag→Prop} (h:k3 C s a6 K):
  ∃bK av ms,K bK av (cc ms s)∧(∀m∈ms,m.x∈bK∧∀v∈m.d.R,∃u∈use s a6,v∈(s u).R)∧∀aj,cf (use s a6) aj s→∀b9:j→ag→Prop,b9 av (cc ms aj)→ke C aj a6 b9:=by
 have plain:(∃av s1,aW C s a6=some (av,s1)∧K (b7 s a6) av s1)→(∀aj (b9:j→ag→Prop) av s1,aW C aj a6=some (av,s1)→b9 av s1→ke C aj a6 b9)→
   ∃bK av ms,K bK av (cc ms s)∧(∀m∈ms,m.x∈bK∧∀v∈m.d.R,∃u∈use s a6,v∈(s u).R)∧∀aj,cf (use s a6) aj s→∀b9:j→ag→Prop,b9 av (cc ms aj)→ke C aj a6 b9:=by
  rintro⟨av,s1,U,aa⟩ hw
  obtain⟨ms,aG,aL,a1⟩:=zq U
  subst aG
  exact⟨_,av,ms,aa,fun m hm=>⟨(aL m hm).1,fun v aC=>by rw[(aL m hm).2]at aC;cases aC⟩,fun aj R b9 al=>hw aj b9 av _ (a1 aj R) al⟩
 cases a6 with
 |call f args=>
  obtain⟨bK,av,ms,aA,cn,a3⟩:=wz h
  exact⟨bK,av,ms,aA,fun m hm=>⟨(cn m hm).1,fun v aC=>by rw[(cn m hm).2]at aC;cases aC⟩,fun aj R b9 al=>a3 aj R b9 al⟩
 |jm f args u x=>
  obtain⟨bb,bq,ae⟩:=h
  obtain⟨bK,av,ms,⟨aA,wC,Hf⟩,cn,a3⟩:=wz ae
  have e:∀s:ag,b4 (cc ms s) u (.h x [])=cc (ms++[⟨.no,u,.h x []⟩]) s:=fun s=>by rw[ik,←vF]
  refine⟨u::bK,av,ms++[⟨.no,u,.h x []⟩],by rw[←e];exact Hf,?_,?_⟩
  ·intro m hm
   rcases List.mem_append.1 hm with hm|hm
   ·exact⟨by simp[(cn m hm).1],fun v aC=>by rw[(cn m hm).2]at aC;cases aC⟩
   ·simp only[List.mem_singleton]at hm;subst hm
    refine⟨by simp,fun v aC=>⟨u,by simp[use],?_⟩⟩
    rw[bb];exact aC
  ·intro aj R b9 al
   have An:aj u=s u:=R u (by simp[use])
   have ex:aj x=s x:=R x (by simp[use])
   refine⟨by rw[An];exact bb,by rw[ex];exact bq,a3 aj (fun y aT=>R y (by simp only[use,List.mem_cons]at aT⊢;exact .inr (.inr aT))) _ ⟨?_,?_,?_⟩⟩
   ·have:=aA;simp only[cc]at this⊢;rw[An];exact this
   ·have:=wC;simp only[cc]at this⊢;rw[ex];exact this
   ·rw[e];exact al
 |jn f args us=>
  obtain⟨bq,ae⟩:=h
  obtain⟨bK,av,ms,⟨aA,wC⟩,cn,a3⟩:=wz ae
  have e:∀aj:ag,mA (cc ms aj) (iT s us)=cc (ms++(iT s us).map fun p=>⟨.no,p.1,p.2⟩) aj:=fun aj=>by rw[ik,Am]
  have jc:∀{aj:ag},cf (us.flatMap fun u=>u::(s u).R) aj s→∀p∈iT s us,cf p.2.R aj s:=fun {aj} R p an v aC=>by
   obtain⟨u,hu,rfl⟩:=List.mem_map.1 an
   exact R v (List.mem_flatMap.2 ⟨u,hu,by simp[aC]⟩)
  refine⟨us++bK,av,ms++(iT s us).map fun p=>⟨.no,p.1,p.2⟩,by rw[←e];exact wC,?_,?_⟩
  ·intro m hm
   rcases List.mem_append.1 hm with hm|hm
   ·exact⟨by simp[(cn m hm).1],fun v aC=>by rw[(cn m hm).2]at aC;cases aC⟩
   ·obtain⟨p,an,rfl⟩:=List.mem_map.1 hm
    obtain⟨u,hu,rfl⟩:=List.mem_map.1 an
    exact⟨List.mem_append_left _ hu,fun v aC=>⟨u,by simp only[use,List.mem_append,List.mem_flatMap];exact .inl ⟨u,hu,by simp⟩,aC⟩⟩
  ·intro aj R b9 al
   simp only[use]at R
   refine⟨by rw[wA R.left,wB _ (jc R.left)];exact bq,a3 aj R.right _ ⟨?_,?_⟩⟩
   ·rw[wA R.left,wB _ (fun p an=>(jc R.left p an).cc ms)];exact aA
   ·rw[wA R.left,e];exact al
 |shr a6=>
  obtain⟨av,s1,U,aa,aw,aN⟩:=h
  obtain⟨ms,aG,aL,a1⟩:=zq U
  subst aG
  exact⟨_,av.share,ms,aN,fun m hm=>⟨(aL m hm).1,fun v aC=>by rw[(aL m hm).2]at aC;cases aC⟩,fun aj R b9 al=>⟨av,_,a1 aj R,aa,aw,al⟩⟩
 |_=>exact plain h (fun aj b9 av s1 U aa=>⟨av,s1,U,aa⟩)
theorem Hg {s:ag} {o:bh} {K:dk→ag→Prop} (h:kj C s o K):∃hg ms,K hg (cc ms s)∧tr C o s hg ms:=by
 have op:∀(a5:List Nat),(∀u∈use s o.a6,u∈a5)→(∀aj,cf a5 aj s→∀b9:ag→Prop,ke C aj o.a6 (fun av s1=>b9 (fin s1 o.dst av))→im C aj o b9)→
   k3 C s o.a6 (fun bK av s1=>K (fU s a5 o.dst bK av) (fin s1 o.dst av))→∃hg ms,K hg (cc ms s)∧tr C o s hg ms:=by
  intro a5 lE iJ hw
  obtain⟨bK,av,ms,U,aa,aw⟩:=He hw
  obtain⟨hz,kk,eo⟩:=Aj o.dst av
  refine⟨fU s a5 o.dst bK av,ms++hz,?_,?_,?_,ts.1,ts.2⟩
  ·rw[ik,←eo];exact U
  ·intro aj R b9 al
   refine iJ aj R b9 (aw aj (R.sub lE) _ ?_)
   rw[eo,←ik];exact al
  ·intro m hm
   simp only[fU,List.mem_append]
   rcases List.mem_append.1 hm with hm|hm
   ·refine⟨.inr (aa m hm).1,fun v aC=>.inl ?_⟩
    obtain⟨u,hu,iK⟩:=(aa m hm).2 v aC
    exact List.mem_flatMap.2 ⟨u,lE u hu,iK⟩
   ·exact⟨.inl (kk m hm).1,fun u hu=>.inr (by rw[(kk m hm).2]at hu;exact hu)⟩
 have skip:∀t,(∀aj,cf [t] aj s→∀b9:ag→Prop,b9 (fin aj o.dst (.tuple []))→im C aj o b9)→K (fU s [t] o.dst [] (.tuple [])) (fin s o.dst (.tuple []))→∃hg ms,K hg (cc ms s)∧tr C o s hg ms:=by
  intro t iJ al
  obtain⟨hz,kk,eo⟩:=Aj o.dst (.tuple [])
  refine⟨_,hz,by rw[←eo];exact al,?_,?_,ts.1,ts.2⟩
  ·intro aj R b9 ig
   exact iJ aj R b9 (by rw[eo];exact ig)
  ·intro m hm
   simp only[fU,List.mem_append]
   exact⟨.inl (kk m hm).1,fun u hu=>by rw[(kk m hm).2]at hu;simp[j.R]at hu⟩
 unfold kj at h
 split at h
 ·rename_i aY
  exact op _ (fun _ h=>h) (fun aj _ b9 hw=>by unfold im;rw[aY];exact hw) h
 ·rename_i t b aY
  split at h
  ·rename_i dr I
   split at h
   ·rename_i e
    refine op (t::use s o.a6) (fun u hu=>by simp[hu]) (fun aj R b9 hw=> ?_) h
    have:aj t=s t:=R t (by simp)
    unfold im
    rw[aY]
    simp only[this,I,if_pos e]
    exact hw
   ·rename_i e
    refine skip t (fun aj R b9 al=> ?_) h
    have:aj t=s t:=R t (by simp)
    unfold im
    rw[aY]
    simp only[this,I,if_neg e]
    exact al
  ·rename_i I
   refine skip t (fun aj R b9 al=> ?_) h
   have:aj t=s t:=R t (by simp)
   unfold im
   rw[aY]
   simp only[this,I]
   exact al
  ·exact h.elim
def nA (C:bo) (ros:List bh):ag→List (Nat×dk×List el)→Prop
 |_,[]=>True
 |s,e::r=>(∃o,ros[e.1]? =some o∧tr C o s e.2.1 e.2.2)∧nA C ros (cc e.2.2 s) r
def k4 (s:ag) (r:List (Nat×dk×List el)):ag:=r.foldl (fun s e=>cc e.2.2 s) s
def j5 (a b:List Nat):Bool:=a.all fun x=> !b.contains x
theorem pT {a b:List Nat} (h:j5 a b=true):∀x∈a,x∉b:=by
 intro x ao
 simp only[j5,List.all_eq_true]at h
 simpa using h x ao
def oG (a b:dk):Bool:=j5 b.T a.a5&&j5 b.T a.H&&j5 b.T a.T&&j5 a.T b.a5&&j5 a.T b.H&&b.c
theorem Hh {ros:List bh} {s:ag} {a b:Nat×dk×List el} {r:List (Nat×dk×List el)} (h:nA C ros s (a::b::r)) (ay:oG a.2.1 b.2.1=true):
  nA C ros s (b::a::r)∧k4 s (b::a::r)=k4 s (a::b::r):=by
 obtain⟨⟨Hi,bN,aA,cn,a3,a4⟩,⟨cx,I,iM,gd,kQ,dy⟩,aB⟩:=h
 simp only[oG,Bool.and_eq_true]at ay
 obtain⟨⟨⟨⟨⟨m5,kB⟩,i3⟩,uM⟩,qQ⟩,uO⟩:=ay
 have wD:∀u∈b.2.1.a5,cc a.2.2 s u=s u:=by
  intro u hu
  refine G1 _ _ _ (fun m hm e=> ?_) (dy uO u hu)
  exact pT uM m.x (cn m hm).1 (e▸hu)
 have wE:∀u∈a.2.1.a5,cc b.2.2 s u=s u:=by
  intro u hu
  refine G2 _ _ _ fun m hm=>⟨fun e=> ?_,fun ao=> ?_⟩
  ·exact pT m5 m.x (gd m hm).1 (e▸hu)
  ·exact pT kB m.x (gd m hm).1 (a3 u hu _ ao)
 have Ao:cc b.2.2 (cc a.2.2 s)=cc a.2.2 (cc b.2.2 s):=by
  refine G4 _ _ _ fun m hm n aR=>⟨fun e=> ?_,fun h=> ?_,fun h=> ?_⟩
  ·exact pT i3 n.x (gd n aR).1 (e▸(cn m hm).1)
  ·exact pT kB n.x (gd n aR).1 ((cn m hm).2 _ h)
  ·exact pT qQ m.x (cn m hm).1 ((gd n aR).2 _ h)
 refine⟨⟨⟨cx,I,?_,gd,?_,?_⟩,⟨Hi,bN,?_,cn,?_,?_⟩,?_⟩,?_⟩
 ·intro aj R K al
  exact iM aj (fun u hu=>(R u hu).trans (wD u hu).symm) K al
 ·intro u hu x ao
  exact kQ u hu x (by rw[wD u hu];exact ao)
 ·intro ae u hu
  have:=dy ae u hu
  rwa [wD u hu]at this
 ·intro aj R K al
  exact aA aj (fun u hu=>(R u hu).trans (wE u hu)) K al
 ·intro u hu x ao
  rw[wE u hu]at ao
  exact a3 u hu x ao
 ·intro ae u hu
  rw[wE u hu]
  exact a4 ae u hu
 ·rw[←Ao];exact aB
 ·simp only[k4,List.foldl_cons]
  rw[Ao]
theorem Hj {ros:List bh} {e:Nat×dk×List el} {post:List (Nat×dk×List el)}:∀(pre:List (Nat×dk×List el)) (s:ag),nA C ros s (pre++e::post)→(∀a∈pre,oG a.2.1 e.2.1=true)→
  nA C ros s (e::(pre++post))∧k4 s (e::(pre++post))=k4 s (pre++e::post):=by
 intro pre
 induction pre with
 |nil=>intro s h _;exact⟨h,rfl⟩
 |cons a pre ih=>
  intro s h ay
  obtain⟨U,aa⟩:=h
  obtain⟨aE,aO⟩:=ih _ aa fun b I=>ay b (by simp[I])
  have ae:nA C ros s (a::e::(pre++post)):=⟨U,aE⟩
  obtain⟨bb,bq⟩:=Hh ae (ay a (by simp))
  refine⟨bb,bq.trans ?_⟩
  simp only[k4,List.foldl_cons,List.cons_append]at aO⊢
  exact aO
end
def rV:List (List Nat)→List (List Nat)→List (List Nat)
 |done,[]=>done
 |done,a::r=>rV (done++[a++a.flatMap fun e=>(done[e]?).getD []]) r
def lS (cg:List (List Nat)):List (List Nat):=rV [] cg
theorem Hk {cg:List (List Nat)} {l:List Nat} (hl:∀u i v,l=u++i::v→∀e∈(cg[i]?).getD [],e∈u):∀(rest pre done:List (List Nat)),cg=pre++rest→done.length=pre.length→
  (∀u i v,l=u++i::v→∀e∈(done[i]?).getD [],e∈u)→∀u i v,l=u++i::v→∀e∈((rV done rest)[i]?).getD [],e∈u:=by
 intro rest
 induction rest with
 |nil=>intro pre done _ _ h;exact h
 |cons a rest ih=>
  intro pre done Ap hlen h
  simp only[rV]
  refine ih (pre++[a]) _ (by simp[Ap]) (by simp[hlen]) ?_
  intro u i v hu e he
  by_cases ay:i<done.length
  ·rw[List.getElem?_append_left ay]at he
   exact h u i v hu e he
  ·rw[List.getElem?_append_right (by omega)]at he
   by_cases y9:i-done.length=0
   ·rw[y9]at he
    simp only[List.getElem?_cons_zero,Option.getD_some,List.mem_append,List.mem_flatMap]at he
    have Aq:(cg[i]?).getD []=a:=by
     have:i=pre.length:=by omega
     rw[Ap,this,List.getElem?_append_right (Nat.le_refl _)];simp
    rcases he with he|⟨ei,wi,he⟩
    ·exact hl u i v hu e (by rw[Aq];exact he)
    ·have rC:=hl u i v hu ei (by rw[Aq];exact wi)
     obtain⟨nm,oq,rfl⟩:=List.append_of_mem rC
     have:=h nm ei (oq++i::v) (by rw[hu];simp) e he
     simp[this]
   ·rw[List.getElem?_eq_none (by simp;omega)]at he
    simp at he
theorem Hl {cg:List (List Nat)} {l:List Nat} (hl:∀u i v,l=u++i::v→∀e∈(cg[i]?).getD [],e∈u):∀u i v,l=u++i::v→∀e∈((lS cg)[i]?).getD [],e∈u:=
 Hk hl cg [] [] rfl rfl fun u i v _ e he=>by simp at he
def hC (js:List (List Nat)):Nat→List (Nat×dk)→List dk→Bool
 |_,_,[]=>true
 |ad,es,f::ah=>(es.all fun e=>((js[ad]?).getD []).contains e.1||oG e.2 f)&&hC js (ad+1) ((ad,f)::es) ah
def wF (js:List (List Nat)) (a b:Nat×dk×List el):Prop:=a.1∈(js[b.1]?).getD []∨oG a.2.1 b.2.1=true
theorem Hm {js:List (List Nat)}:∀(eN:List (Nat×dk×List el)) (ad:Nat) (es:List (Nat×dk)),eN.map (·.1)=(List.range eN.length).map (·+ad)→hC js ad es (eN.map (·.2.1))=true→
  eN.Pairwise (wF js)∧∀e∈es,∀b∈eN,e.1∈(js[b.1]?).getD []∨oG e.2 b.2.1=true:=by
 intro eN
 induction eN with
 |nil=>intro ad es _ _;exact⟨.nil,fun e _ b I=>by cases I⟩
 |cons a eN ih=>
  intro ad es oH en
  rw[List.length_cons,List.range_succ_eq_map,List.map_cons,List.map_cons,List.map_map]at oH
  simp only[List.cons.injEq,Nat.zero_add]at oH
  obtain⟨aU,oH⟩:=oH
  simp only[List.map_cons,hC,Bool.and_eq_true,List.all_eq_true,Bool.or_eq_true]at en
  obtain⟨U,aa⟩:=en
  obtain⟨aE,aO⟩:=ih (ad+1) _ (by rw[oH];congr 1;funext x;simp;omega) aa
  refine⟨.cons (fun b I=> ?_) aE,fun e he b I=> ?_⟩
  ·have:=aO (ad,a.2.1) (by simp) b I
   simp only[wF,aU];exact this
  ·rcases List.mem_cons.1 I with rfl|I
   ·rw[aU]
    exact(U e he).imp (fun h=>by simpa using h) id
   ·exact aO e (by simp[he]) b I
section
variable {C:bo}
theorem Hn {K:Option (List dk)→ag→Prop}:∀(os pre:List bh) (s:ag) (acc:List dk),bz C s os (some acc) K→
  ∃eN,nA C (pre++os) s eN∧eN.map (·.1)=(List.range os.length).map (·+pre.length)∧K (some ((eN.map (·.2.1)).reverse++acc)) (k4 s eN):=by
 intro os
 induction os with
 |nil=>intro pre s acc h;exact⟨[],trivial,rfl,h⟩
 |cons o os ih=>
  intro pre s acc h
  obtain⟨hg,ms,U,aa⟩:=Hg h
  obtain⟨eN,aE,aO,bg⟩:=ih (pre++[o]) _ (hg::acc) U
  refine⟨(pre.length,hg,ms)::eN,⟨⟨o,?_,aa⟩,?_⟩,?_,?_⟩
  ·rw[List.getElem?_append_right (Nat.le_refl _)];simp
  ·simpa using aE
  ·rw[List.length_cons,List.range_succ_eq_map,List.map_cons,List.map_cons,List.map_map,aO]
   simp only[List.cons.injEq,Nat.zero_add,true_and]
   congr 1;funext x;simp;omega
  ·simpa [k4]using bg
theorem Ho {ros:List bh} {js:List (List Nat)} {K:ag→Prop}:∀(l:List Nat) (eN:List (Nat×dk×List el)) (s:ag),nA C ros s eN→eN.Pairwise (wF js)→l.Nodup→(eN.map (·.1)).Nodup→
  (∀i,i∈l↔i∈eN.map (·.1))→(∀u i v,l=u++i::v→∀e∈(js[i]?).getD [],e∈eN.map (·.1)→e∈u)→K (k4 s eN)→fK C ros s l K:=by
 intro l
 induction l with
 |nil=>
  intro eN s _ _ _ _ hm _ al
  cases eN with
  |nil=>exact al
  |cons e eN=>have:=(hm e.1).2 (by simp);cases this
 |cons i l ih=>
  intro eN s ae an aR ru hm bs al
  obtain⟨e,he,ay⟩:=List.mem_map.1 ((hm i).1 (by simp))
  obtain⟨pre,post,rfl⟩:=List.append_of_mem he
  have Hp:∀a∈pre,oG a.2.1 e.2.1=true:=by
   intro a bN
   have aB:=(List.pairwise_append.1 an).2.2 a bN e (by simp)
   rcases aB with aB|aB
   ·rw[ay]at aB
    have:=bs [] i l rfl a.1 aB (by simp only[List.map_append,List.mem_append,List.mem_map];exact .inl ⟨a,bN,rfl⟩)
    cases this
   ·exact aB
  obtain⟨aE,aO⟩:=Hj pre s ae Hp
  obtain⟨⟨o,Hq,Hr⟩,bg⟩:=aE
  have Ar:i∉(pre++post).map (·.1):=by
   have:(pre.map (·.1)++e.1::post.map (·.1)).Nodup:=by simpa using ru
   have a2:=(List.perm_middle.nodup_iff.1 this)
   rw[List.nodup_cons]at a2
   rw[←ay];simpa using a2.1
  simp only[fK]
  rw[←ay,Hq]
  refine Hr.1 s (fun _ _=>rfl) _ ?_
  rw[List.nodup_cons]at aR
  refine ih (pre++post) _ bg ?_ aR.2 ?_ ?_ ?_ ?_
  ·exact an.sublist ((List.Sublist.refl pre).append (List.sublist_cons_self e post))
  ·have:(pre.map (·.1)++e.1::post.map (·.1)).Nodup:=by simpa using ru
   have a2:=(List.perm_middle.nodup_iff.1 this)
   rw[List.nodup_cons]at a2
   simpa using a2.2
  ·intro ad
   constructor
   ·intro aU
    have U:=(hm ad).1 (by simp[aU])
    simp only[List.map_append,List.map_cons,List.mem_append,List.mem_cons]at U⊢
    rcases U with U|rfl|U
    ·exact .inl U
    ·exact(aR.1 (ay▸aU)).elim
    ·exact .inr U
   ·intro aU
    have U:=(hm ad).2 (by
     simp only[List.map_append,List.map_cons,List.mem_append,List.mem_cons]at aU⊢
     exact aU.imp id .inr)
    rcases List.mem_cons.1 U with rfl|U
    ·exact(Ar aU).elim
    ·exact U
  ·intro u ad v hu x ao wG
   have U:=bs (i::u) ad v (by rw[hu];rfl) x ao (by
    simp only[List.map_append,List.map_cons,List.mem_append,List.mem_cons]at wG⊢
    exact wG.imp id .inr)
   rcases List.mem_cons.1 U with rfl|U
   ·exact(Ar wG).elim
   ·exact U
  ·have:k4 s (e::(pre++post))=k4 (cc e.2.2 s) (pre++post):=rfl
   rw[←this,aO];exact al
theorem wH {ros:List bh} {cg:List (List Nat)} {s:ag} {K:ag→Prop} (hlen:cg.length=ros.length)
  (h:bz C s ros (some []) (fun acc s=>hC (lS cg) 0 [] (acc.getD []).reverse=true∧K s)):∀l,kZ cg l→fK C ros s l K:=by
 intro l ⟨ed,l2,pH⟩
 obtain⟨eN,aE,aO,bg,cd⟩:=Hn ros [] s [] h
 simp only[List.nil_append,List.append_nil,List.length_nil,Option.getD_some,List.reverse_reverse]at aE aO bg
 have hl:eN.length=ros.length:=by have:=congrArg List.length aO;simpa using this
 have oH:eN.map (·.1)=(List.range eN.length).map (·+0):=by rw[aO,hl]
 have aB:eN.map (·.1)=List.range ros.length:=by rw[aO];simp
 obtain⟨dD,_⟩:=Hm eN 0 [] oH bg
 refine Ho l eN s aE dD ed (by rw[aB];exact List.nodup_range) (fun i=> ?_) (fun u i v hu e he _=>Hl pH u i v hu e he) cd
 rw[aB,l2,hlen,List.mem_range]
end
def cp (C:bo) (dst:Option Nat) (os:List bh) (K:Option (List dk)→ag→Prop):Option (j×ag)→Prop
 |some (av,s1)=>bz C (fin s1 dst av) os none K
 |none=>False
def cq (C:bo) (l:List (Nat×j)) (a5 bK:List Nat) (dst:Option Nat) (os:List bh) (a:List dk) (K:Option (List dk)→ag→Prop):Option (j×ag)→Prop
 |some (av,s1)=>bz C (fin s1 dst av) os (some (fU (J l) a5 dst bK av::a)) K
 |none=>False
def bD (C:bo) (l:List (Nat×j)) (dst:Option Nat) (a6:dI) (t:Nat) (b:Bool) (os:List bh) (acc:Option (List dk)) (K:Option (List dk)→ag→Prop):j→Prop
 | .bool dr=>if dr=b then k3 C (J l) a6 (fun bK av s1=>bz C (fin s1 dst av) os (mE acc (fU (J l) (t::use (J l) a6) dst bK av)) K)else bz C (fin (J l) dst (.tuple [])) os (mE acc (fU (J l) [t] dst [] (.tuple []))) K
 | .tuple []=>bz C (fin (J l) dst (.tuple [])) os (mE acc (fU (J l) [t] dst [] (.tuple []))) K
 |_=>False
section
variable {C:bo} {l:List (Nat×j)} {os:List bh} {K:Option (List dk)→ag→Prop} {dst:Option Nat} {a:List dk} {acc:Option (List dk)}
theorem tt {s:ag} {a6:dI} {K:List Nat→j→ag→Prop} (aR:a6.oE=false):k3 C s a6 K=(match aW C s a6 with
  |some (av,s1)=>K (b7 s a6) av s1
  |none=>False):=by
 apply propext
 constructor
 ·intro h
  cases a6<;>first
   |(simp[dI.oE]at aR;done)
   |(obtain⟨av,s1,U,aa⟩:=h;rw[U];exact aa)
 ·intro h
  split at h
  ·rename_i av s1 he
   cases a6<;>first
    |(simp[dI.oE]at aR;done)
    |exact⟨av,s1,he,h⟩
  ·exact h.elim
theorem As:bz C (J l) [] acc K=K acc (J l):=rfl
theorem gu {a6:dI} (aR:a6.oE=false):bz C (J l) (⟨dst,a6,none⟩::os) none K=cp C dst os K (aW C (J l) a6):=by
 simp only[bz,kj,mE]
 rw[tt aR]
 cases aW C (J l) a6 with
 |none=>rfl
 |some p=>rfl
theorem gv {a6:dI} (aR:a6.oE=false):bz C (J l) (⟨dst,a6,none⟩::os) (some a) K=cq C l (use (J l) a6) (b7 (J l) a6) dst os a K (aW C (J l) a6):=by
 simp only[bz,kj,mE]
 rw[tt aR]
 cases aW C (J l) a6 with
 |none=>rfl
 |some p=>rfl
theorem At {a6:dI} {t:Nat} {b:Bool}:bz C (J l) (⟨dst,a6,some (t,b)⟩::os) acc K=bD C l dst a6 t b os acc K (J l t):=by
 simp only[bz,kj]
 generalize J l t=v
 cases v<;>first|rfl|(rename_i vs;cases vs<;>rfl)
theorem du {a6:dI} {t:Nat} {b:Bool} (aR:a6.oE=false):bD C l dst a6 t b os none K (.bool b)=cp C dst os K (aW C (J l) a6):=by
 simp only[bD,if_true]
 rw[tt aR]
 cases aW C (J l) a6 with
 |none=>rfl
 |some p=>rfl
theorem dv {a6:dI} {t:Nat} {b:Bool} (aR:a6.oE=false):bD C l dst a6 t b os (some a) K (.bool b)=cq C l (t::use (J l) a6) (b7 (J l) a6) dst os a K (aW C (J l) a6):=by
 simp only[bD,if_true]
 rw[tt aR]
 cases aW C (J l) a6 with
 |none=>rfl
 |some p=>rfl
theorem Hs {a6:dI} {t:Nat}:bD C l dst a6 t true os none K (.bool false)=bz C (fin (J l) dst (.tuple [])) os none K∧bD C l dst a6 t false os none K (.bool true)=bz C (fin (J l) dst (.tuple [])) os none K∧
  (∀b,bD C l dst a6 t b os none K (.tuple [])=bz C (fin (J l) dst (.tuple [])) os none K):=⟨rfl,rfl,fun _=>rfl⟩
theorem Ht {a6:dI} {t:Nat}:bD C l dst a6 t true os (some a) K (.bool false)=bz C (fin (J l) dst (.tuple [])) os (some (fU (J l) [t] dst [] (.tuple [])::a)) K∧
  bD C l dst a6 t false os (some a) K (.bool true)=bz C (fin (J l) dst (.tuple [])) os (some (fU (J l) [t] dst [] (.tuple [])::a)) K∧
  (∀b,bD C l dst a6 t b os (some a) K (.tuple [])=bz C (fin (J l) dst (.tuple [])) os (some (fU (J l) [t] dst [] (.tuple [])::a)) K):=⟨rfl,rfl,fun _=>rfl⟩
theorem Hu (av:j) (s1:ag):cp C dst os K (some (av,s1))=bz C (fin s1 dst av) os none K:=rfl
theorem Hv (a5 bK:List Nat) (av:j) (s1:ag):cq C l a5 bK dst os a K (some (av,s1))=bz C (fin s1 dst av) os (some (fU (J l) a5 dst bK av::a)) K:=rfl
def fM (s:ag):j→Option (j×ag)
 | .h y q=>bK s (.h y q)
 |d=>some (d,s)
def nB (s:ag):j→j→j→Option (j×ag)
 | .bool dr,x,y=>some (if dr then x else y,s)
 |_,_,_=>none
def bR (s:ag):Option j→Option (j×ag)
 |some d=>some (d,s)
 |none=>none
def gR:Option ag→Option (j×ag)
 |some s1=>some (.hole,s1)
 |none=>none
def fN (s:ag):List au→List j
 |[]=>[]
 |x::xs=>ax s x::fN s xs
def g3 (s:ag):List (Nat×au)→List (Nat×j)
 |[]=>[]
 |(k,x)::xs=>(k,ax s x)::g3 s xs
def h4 (s:ag):Option au→Option j
 |none=>none
 |some x=>some (ax s x)
theorem kl (s:ag) (x:Option j):(x.map fun d=>(d,s))=bR s x:=by cases x<;>rfl
theorem Hw (x:Option ag):(x.map fun s1=>(j.hole,s1))=gR x:=by cases x<;>rfl
theorem tu (s:ag):∀xs:List au,xs.map (ax s)=fN s xs
 |[]=>rfl
 |x::xs=>by simp only[List.map_cons,fN,tu s xs]
theorem wI (s:ag):∀xs:List (Nat×au),(xs.map fun p=>(p.1,ax s p.2))=g3 s xs
 |[]=>rfl
 |(k,x)::xs=>by simp only[List.map_cons,g3,wI s xs]
theorem Hy (s:ag) (x:Option au):x.map (ax s)=h4 s x:=by cases x<;>rfl
theorem pU (x:au):aW C (J l) (.cA x)=some (ax (J l) x,J l):=by
 rfl
theorem pV (x:au):aW C (J l) (.fs x)=fM (J l) (ax (J l) x):=by
 simp only[aW];cases ax (J l) x<;>rfl
theorem pW (c x y:au):aW C (J l) (.pick c x y)=nB (J l) (ax (J l) c) (ax (J l) x) (ax (J l) y):=by
 simp only[aW];cases ax (J l) c<;>first|rfl|(rename_i b;cases b<;>rfl)
theorem pX (T:TypeId):aW C (J l) (.eR T)=bR (J l) (eR C T):=by
 simp only[aW,kl]
theorem pY (T:TypeId) (x:au):aW C (J l) (.dd T x)=dd (J l) (ax (J l) x):=by
 rfl
theorem pZ (T:TypeId) (ps:List (Nat×au)):aW C (J l) (.dO T ps)=dO C (J l) T (g3 (J l) ps):=by
 simp only[aW,wI]
theorem p0 (T:TypeId) (n:Nat) (ps:List (Nat×au)):aW C (J l) (.c0 T n ps)=c0 C (J l) T n (g3 (J l) ps):=by
 simp only[aW,wI]
theorem p1 (T:TypeId) (x:au):aW C (J l) (.cR T x)=bR (J l) (cR C (J l) T (ax (J l) x)):=by
 simp only[aW,kl]
theorem p2 (T:TypeId) (x y:au):aW C (J l) (.ea T x y)=gR (ea C (J l) T (ax (J l) x) (ax (J l) y)):=by
 simp only[aW,Hw]
theorem p3 (x:au):aW C (J l) (.eH x)=bR (J l) (eH (J l) (ax (J l) x)):=by
 simp only[aW,kl]
theorem p4 (op:BinOp) (T:TypeId) (x y:au):aW C (J l) (.bV op T x y)=bR (J l) (bV C (J l) op T (ax (J l) x) (ax (J l) y)):=by
 simp only[aW,kl]
theorem p5 (op:UnOp) (x:au):aW C (J l) (.un op x)=bR (J l) (un op (ax (J l) x)):=by
 simp only[aW,kl]
theorem p6 (A B:TypeId) (x:au):aW C (J l) (.dH A B x)=bR (J l) (dH C (J l) A B (ax (J l) x)):=by
 simp only[aW,kl]
theorem p7 (f:FuncId) (cs:List au):aW C (J l) (.hd f cs)=some (.fn f (fN (J l) cs),J l):=by
 simp only[aW,tu]
theorem p8 (T:TypeId) (x y:au):aW C (J l) (.eV T x y)=bR (J l) (eV C T (ax (J l) x) (ax (J l) y)):=by
 simp only[aW,kl]
theorem p9 (T:TypeId) (x:au) (bC ay:Option au):aW C (J l) (.de T x bC ay)=de C (J l) T (ax (J l) x) (h4 (J l) bC) (h4 (J l) ay):=by
 simp only[aW,Hy]
theorem p_ (T:TypeId) (x:au) (k:Nat):aW C (J l) (.dG T x k)=bR (J l) (dG C (J l) T (ax (J l) x) k):=by
 simp only[aW,kl]
theorem qa (T:TypeId) (x y:au):aW C (J l) (.dx T x y)=bR (J l) (dx C (J l) T (ax (J l) x) (ax (J l) y)):=by
 simp only[aW,kl]
theorem qb (T:TypeId) (x y:au):aW C (J l) (.idx T x y)=bR (J l) (idx C T (ax (J l) x) (ax (J l) y)):=by
 simp only[aW,kl]
theorem qc (x:au) (k:Nat):aW C (J l) (.ex x k)=bR (J l) (ex (J l) (ax (J l) x) k):=by
 simp only[aW,kl]
theorem qd (T:TypeId) (x:au):aW C (J l) (.len T x)=bR (J l) (iO C (J l) T (ax (J l) x)):=by
 simp only[aW,kl]
theorem qe (T a5:TypeId) (x y:au):aW C (J l) (.app T a5 x y)=iP C (J l) T a5 (ax (J l) x) (ax (J l) y):=by
 rfl
theorem Hz:
  (∀(x:au),bz C (J l) (⟨dst,.cA x,none⟩::os) none K=cp C dst os K (some (ax (J l) x,J l)))∧
  (∀(x:au),bz C (J l) (⟨dst,.fs x,none⟩::os) none K=cp C dst os K (fM (J l) (ax (J l) x)))∧
  (∀(c x y:au),bz C (J l) (⟨dst,.pick c x y,none⟩::os) none K=cp C dst os K (nB (J l) (ax (J l) c) (ax (J l) x) (ax (J l) y)))∧
  (∀(T:TypeId),bz C (J l) (⟨dst,.eR T,none⟩::os) none K=cp C dst os K (bR (J l) (eR C T)))∧
  (∀(T:TypeId) (x:au),bz C (J l) (⟨dst,.dd T x,none⟩::os) none K=cp C dst os K (dd (J l) (ax (J l) x)))∧
  (∀(T:TypeId) (ps:List (Nat×au)),bz C (J l) (⟨dst,.dO T ps,none⟩::os) none K=cp C dst os K (dO C (J l) T (g3 (J l) ps)))∧
  (∀(T:TypeId) (n:Nat) (ps:List (Nat×au)),bz C (J l) (⟨dst,.c0 T n ps,none⟩::os) none K=cp C dst os K (c0 C (J l) T n (g3 (J l) ps)))∧
  (∀(T:TypeId) (x:au),bz C (J l) (⟨dst,.cR T x,none⟩::os) none K=cp C dst os K (bR (J l) (cR C (J l) T (ax (J l) x))))∧
  (∀(T:TypeId) (x y:au),bz C (J l) (⟨dst,.ea T x y,none⟩::os) none K=cp C dst os K (gR (ea C (J l) T (ax (J l) x) (ax (J l) y))))∧
  (∀(x:au),bz C (J l) (⟨dst,.eH x,none⟩::os) none K=cp C dst os K (bR (J l) (eH (J l) (ax (J l) x))))∧
  (∀(op:BinOp) (T:TypeId) (x y:au),bz C (J l) (⟨dst,.bV op T x y,none⟩::os) none K=cp C dst os K (bR (J l) (bV C (J l) op T (ax (J l) x) (ax (J l) y))))∧
  (∀(op:UnOp) (x:au),bz C (J l) (⟨dst,.un op x,none⟩::os) none K=cp C dst os K (bR (J l) (un op (ax (J l) x))))∧
  (∀(A B:TypeId) (x:au),bz C (J l) (⟨dst,.dH A B x,none⟩::os) none K=cp C dst os K (bR (J l) (dH C (J l) A B (ax (J l) x))))∧
  (∀(f:FuncId) (cs:List au),bz C (J l) (⟨dst,.hd f cs,none⟩::os) none K=cp C dst os K (some (.fn f (fN (J l) cs),J l)))∧
  (∀(T:TypeId) (x y:au),bz C (J l) (⟨dst,.eV T x y,none⟩::os) none K=cp C dst os K (bR (J l) (eV C T (ax (J l) x) (ax (J l) y))))∧
  (∀(T:TypeId) (x:au) (bC ay:Option au),bz C (J l) (⟨dst,.de T x bC ay,none⟩::os) none K=cp C dst os K (de C (J l) T (ax (J l) x) (h4 (J l) bC) (h4 (J l) ay)))∧
  (∀(T:TypeId) (x:au) (k:Nat),bz C (J l) (⟨dst,.dG T x k,none⟩::os) none K=cp C dst os K (bR (J l) (dG C (J l) T (ax (J l) x) k)))∧
  (∀(T:TypeId) (x y:au),bz C (J l) (⟨dst,.dx T x y,none⟩::os) none K=cp C dst os K (bR (J l) (dx C (J l) T (ax (J l) x) (ax (J l) y))))∧
  (∀(T:TypeId) (x y:au),bz C (J l) (⟨dst,.idx T x y,none⟩::os) none K=cp C dst os K (bR (J l) (idx C T (ax (J l) x) (ax (J l) y))))∧
  (∀(x:au) (k:Nat),bz C (J l) (⟨dst,.ex x k,none⟩::os) none K=cp C dst os K (bR (J l) (ex (J l) (ax (J l) x) k)))∧
  (∀(T:TypeId) (x:au),bz C (J l) (⟨dst,.len T x,none⟩::os) none K=cp C dst os K (bR (J l) (iO C (J l) T (ax (J l) x))))∧
  (∀(T a5:TypeId) (x y:au),bz C (J l) (⟨dst,.app T a5 x y,none⟩::os) none K=cp C dst os K (iP C (J l) T a5 (ax (J l) x) (ax (J l) y))):=
 ⟨fun x=>(gu rfl).trans (congrArg _ (pU x)),fun x=>(gu rfl).trans (congrArg _ (pV x)),fun c x y=>(gu rfl).trans (congrArg _ (pW c x y)),fun T=>(gu rfl).trans (congrArg _ (pX T)),fun T x=>(gu rfl).trans (congrArg _ (pY T x)),fun T ps=>(gu rfl).trans (congrArg _ (pZ T ps)),fun T n ps=>(gu rfl).trans (congrArg _ (p0 T n ps)),fun T x=>(gu rfl).trans (congrArg _ (p1 T x)),fun T x y=>(gu rfl).trans (congrArg _ (p2 T x y)),fun x=>(gu rfl).trans (congrArg _ (p3 x)),fun op T x y=>(gu rfl).trans (congrArg _ (p4 op T x y)),fun op x=>(gu rfl).trans (congrArg _ (p5 op x)),fun A B x=>(gu rfl).trans (congrArg _ (p6 A B x)),fun f cs=>(gu rfl).trans (congrArg _ (p7 f cs)),fun T x y=>(gu rfl).trans (congrArg _ (p8 T x y)),fun T x bC ay=>(gu rfl).trans (congrArg _ (p9 T x bC ay)),fun T x k=>(gu rfl).trans (congrArg _ (p_ T x k)),fun T x y=>(gu rfl).trans (congrArg _ (qa T x y)),fun T x y=>(gu rfl).trans (congrArg _ (qb T x y)),fun x k=>(gu rfl).trans (congrArg _ (qc x k)),fun T x=>(gu rfl).trans (congrArg _ (qd T x)),fun T a5 x y=>(gu rfl).trans (congrArg _ (qe T a5 x y))⟩
theorem HA:
  (∀(x:au),bz C (J l) (⟨dst,.cA x,none⟩::os) (some a) K=cq C l (use (J l) (.cA x)) (b7 (J l) (.cA x)) dst os a K (some (ax (J l) x,J l)))∧
  (∀(x:au),bz C (J l) (⟨dst,.fs x,none⟩::os) (some a) K=cq C l (use (J l) (.fs x)) (b7 (J l) (.fs x)) dst os a K (fM (J l) (ax (J l) x)))∧
  (∀(c x y:au),bz C (J l) (⟨dst,.pick c x y,none⟩::os) (some a) K=cq C l (use (J l) (.pick c x y)) (b7 (J l) (.pick c x y)) dst os a K (nB (J l) (ax (J l) c) (ax (J l) x) (ax (J l) y)))∧
  (∀(T:TypeId),bz C (J l) (⟨dst,.eR T,none⟩::os) (some a) K=cq C l (use (J l) (.eR T)) (b7 (J l) (.eR T)) dst os a K (bR (J l) (eR C T)))∧
  (∀(T:TypeId) (x:au),bz C (J l) (⟨dst,.dd T x,none⟩::os) (some a) K=cq C l (use (J l) (.dd T x)) (b7 (J l) (.dd T x)) dst os a K (dd (J l) (ax (J l) x)))∧
  (∀(T:TypeId) (ps:List (Nat×au)),bz C (J l) (⟨dst,.dO T ps,none⟩::os) (some a) K=cq C l (use (J l) (.dO T ps)) (b7 (J l) (.dO T ps)) dst os a K (dO C (J l) T (g3 (J l) ps)))∧
  (∀(T:TypeId) (n:Nat) (ps:List (Nat×au)),bz C (J l) (⟨dst,.c0 T n ps,none⟩::os) (some a) K=cq C l (use (J l) (.c0 T n ps)) (b7 (J l) (.c0 T n ps)) dst os a K (c0 C (J l) T n (g3 (J l) ps)))∧
  (∀(T:TypeId) (x:au),bz C (J l) (⟨dst,.cR T x,none⟩::os) (some a) K=cq C l (use (J l) (.cR T x)) (b7 (J l) (.cR T x)) dst os a K (bR (J l) (cR C (J l) T (ax (J l) x))))∧
  (∀(T:TypeId) (x y:au),bz C (J l) (⟨dst,.ea T x y,none⟩::os) (some a) K=cq C l (use (J l) (.ea T x y)) (b7 (J l) (.ea T x y)) dst os a K (gR (ea C (J l) T (ax (J l) x) (ax (J l) y))))∧
  (∀(x:au),bz C (J l) (⟨dst,.eH x,none⟩::os) (some a) K=cq C l (use (J l) (.eH x)) (b7 (J l) (.eH x)) dst os a K (bR (J l) (eH (J l) (ax (J l) x))))∧
  (∀(op:BinOp) (T:TypeId) (x y:au),bz C (J l) (⟨dst,.bV op T x y,none⟩::os) (some a) K=cq C l (use (J l) (.bV op T x y)) (b7 (J l) (.bV op T x y)) dst os a K (bR (J l) (bV C (J l) op T (ax (J l) x) (ax (J l) y))))∧
  (∀(op:UnOp) (x:au),bz C (J l) (⟨dst,.un op x,none⟩::os) (some a) K=cq C l (use (J l) (.un op x)) (b7 (J l) (.un op x)) dst os a K (bR (J l) (un op (ax (J l) x))))∧
  (∀(A B:TypeId) (x:au),bz C (J l) (⟨dst,.dH A B x,none⟩::os) (some a) K=cq C l (use (J l) (.dH A B x)) (b7 (J l) (.dH A B x)) dst os a K (bR (J l) (dH C (J l) A B (ax (J l) x))))∧
  (∀(f:FuncId) (cs:List au),bz C (J l) (⟨dst,.hd f cs,none⟩::os) (some a) K=cq C l (use (J l) (.hd f cs)) (b7 (J l) (.hd f cs)) dst os a K (some (.fn f (fN (J l) cs),J l)))∧
  (∀(T:TypeId) (x y:au),bz C (J l) (⟨dst,.eV T x y,none⟩::os) (some a) K=cq C l (use (J l) (.eV T x y)) (b7 (J l) (.eV T x y)) dst os a K (bR (J l) (eV C T (ax (J l) x) (ax (J l) y))))∧
  (∀(T:TypeId) (x:au) (bC ay:Option au),bz C (J l) (⟨dst,.de T x bC ay,none⟩::os) (some a) K=cq C l (use (J l) (.de T x bC ay)) (b7 (J l) (.de T x bC ay)) dst os a K (de C (J l) T (ax (J l) x) (h4 (J l) bC) (h4 (J l) ay)))∧
  (∀(T:TypeId) (x:au) (k:Nat),bz C (J l) (⟨dst,.dG T x k,none⟩::os) (some a) K=cq C l (use (J l) (.dG T x k)) (b7 (J l) (.dG T x k)) dst os a K (bR (J l) (dG C (J l) T (ax (J l) x) k)))∧
  (∀(T:TypeId) (x y:au),bz C (J l) (⟨dst,.dx T x y,none⟩::os) (some a) K=cq C l (use (J l) (.dx T x y)) (b7 (J l) (.dx T x y)) dst os a K (bR (J l) (dx C (J l) T (ax (J l) x) (ax (J l) y))))∧
  (∀(T:TypeId) (x y:au),bz C (J l) (⟨dst,.idx T x y,none⟩::os) (some a) K=cq C l (use (J l) (.idx T x y)) (b7 (J l) (.idx T x y)) dst os a K (bR (J l) (idx C T (ax (J l) x) (ax (J l) y))))∧
  (∀(x:au) (k:Nat),bz C (J l) (⟨dst,.ex x k,none⟩::os) (some a) K=cq C l (use (J l) (.ex x k)) (b7 (J l) (.ex x k)) dst os a K (bR (J l) (ex (J l) (ax (J l) x) k)))∧
  (∀(T:TypeId) (x:au),bz C (J l) (⟨dst,.len T x,none⟩::os) (some a) K=cq C l (use (J l) (.len T x)) (b7 (J l) (.len T x)) dst os a K (bR (J l) (iO C (J l) T (ax (J l) x))))∧
  (∀(T a5:TypeId) (x y:au),bz C (J l) (⟨dst,.app T a5 x y,none⟩::os) (some a) K=cq C l (use (J l) (.app T a5 x y)) (b7 (J l) (.app T a5 x y)) dst os a K (iP C (J l) T a5 (ax (J l) x) (ax (J l) y))):=
 ⟨fun x=>(gv rfl).trans (congrArg _ (pU x)),fun x=>(gv rfl).trans (congrArg _ (pV x)),fun c x y=>(gv rfl).trans (congrArg _ (pW c x y)),fun T=>(gv rfl).trans (congrArg _ (pX T)),fun T x=>(gv rfl).trans (congrArg _ (pY T x)),fun T ps=>(gv rfl).trans (congrArg _ (pZ T ps)),fun T n ps=>(gv rfl).trans (congrArg _ (p0 T n ps)),fun T x=>(gv rfl).trans (congrArg _ (p1 T x)),fun T x y=>(gv rfl).trans (congrArg _ (p2 T x y)),fun x=>(gv rfl).trans (congrArg _ (p3 x)),fun op T x y=>(gv rfl).trans (congrArg _ (p4 op T x y)),fun op x=>(gv rfl).trans (congrArg _ (p5 op x)),fun A B x=>(gv rfl).trans (congrArg _ (p6 A B x)),fun f cs=>(gv rfl).trans (congrArg _ (p7 f cs)),fun T x y=>(gv rfl).trans (congrArg _ (p8 T x y)),fun T x bC ay=>(gv rfl).trans (congrArg _ (p9 T x bC ay)),fun T x k=>(gv rfl).trans (congrArg _ (p_ T x k)),fun T x y=>(gv rfl).trans (congrArg _ (qa T x y)),fun T x y=>(gv rfl).trans (congrArg _ (qb T x y)),fun x k=>(gv rfl).trans (congrArg _ (qc x k)),fun T x=>(gv rfl).trans (congrArg _ (qd T x)),fun T a5 x y=>(gv rfl).trans (congrArg _ (qe T a5 x y))⟩
theorem HB:
  (∀(x:au) (t:Nat),bD C l dst (.cA x) t true os none K (.bool true)=cp C dst os K (some (ax (J l) x,J l)))∧
  (∀(x:au) (t:Nat),bD C l dst (.cA x) t false os none K (.bool false)=cp C dst os K (some (ax (J l) x,J l)))∧
  (∀(x:au) (t:Nat),bD C l dst (.fs x) t true os none K (.bool true)=cp C dst os K (fM (J l) (ax (J l) x)))∧
  (∀(x:au) (t:Nat),bD C l dst (.fs x) t false os none K (.bool false)=cp C dst os K (fM (J l) (ax (J l) x)))∧
  (∀(c x y:au) (t:Nat),bD C l dst (.pick c x y) t true os none K (.bool true)=cp C dst os K (nB (J l) (ax (J l) c) (ax (J l) x) (ax (J l) y)))∧
  (∀(c x y:au) (t:Nat),bD C l dst (.pick c x y) t false os none K (.bool false)=cp C dst os K (nB (J l) (ax (J l) c) (ax (J l) x) (ax (J l) y)))∧
  (∀(T:TypeId) (t:Nat),bD C l dst (.eR T) t true os none K (.bool true)=cp C dst os K (bR (J l) (eR C T)))∧
  (∀(T:TypeId) (t:Nat),bD C l dst (.eR T) t false os none K (.bool false)=cp C dst os K (bR (J l) (eR C T)))∧
  (∀(T:TypeId) (x:au) (t:Nat),bD C l dst (.dd T x) t true os none K (.bool true)=cp C dst os K (dd (J l) (ax (J l) x)))∧
  (∀(T:TypeId) (x:au) (t:Nat),bD C l dst (.dd T x) t false os none K (.bool false)=cp C dst os K (dd (J l) (ax (J l) x)))∧
  (∀(T:TypeId) (ps:List (Nat×au)) (t:Nat),bD C l dst (.dO T ps) t true os none K (.bool true)=cp C dst os K (dO C (J l) T (g3 (J l) ps)))∧
  (∀(T:TypeId) (ps:List (Nat×au)) (t:Nat),bD C l dst (.dO T ps) t false os none K (.bool false)=cp C dst os K (dO C (J l) T (g3 (J l) ps)))∧
  (∀(T:TypeId) (n:Nat) (ps:List (Nat×au)) (t:Nat),bD C l dst (.c0 T n ps) t true os none K (.bool true)=cp C dst os K (c0 C (J l) T n (g3 (J l) ps)))∧
  (∀(T:TypeId) (n:Nat) (ps:List (Nat×au)) (t:Nat),bD C l dst (.c0 T n ps) t false os none K (.bool false)=cp C dst os K (c0 C (J l) T n (g3 (J l) ps)))∧
  (∀(T:TypeId) (x:au) (t:Nat),bD C l dst (.cR T x) t true os none K (.bool true)=cp C dst os K (bR (J l) (cR C (J l) T (ax (J l) x))))∧
  (∀(T:TypeId) (x:au) (t:Nat),bD C l dst (.cR T x) t false os none K (.bool false)=cp C dst os K (bR (J l) (cR C (J l) T (ax (J l) x))))∧
  (∀(T:TypeId) (x y:au) (t:Nat),bD C l dst (.ea T x y) t true os none K (.bool true)=cp C dst os K (gR (ea C (J l) T (ax (J l) x) (ax (J l) y))))∧
  (∀(T:TypeId) (x y:au) (t:Nat),bD C l dst (.ea T x y) t false os none K (.bool false)=cp C dst os K (gR (ea C (J l) T (ax (J l) x) (ax (J l) y))))∧
  (∀(x:au) (t:Nat),bD C l dst (.eH x) t true os none K (.bool true)=cp C dst os K (bR (J l) (eH (J l) (ax (J l) x))))∧
  (∀(x:au) (t:Nat),bD C l dst (.eH x) t false os none K (.bool false)=cp C dst os K (bR (J l) (eH (J l) (ax (J l) x))))∧
  (∀(op:BinOp) (T:TypeId) (x y:au) (t:Nat),bD C l dst (.bV op T x y) t true os none K (.bool true)=cp C dst os K (bR (J l) (bV C (J l) op T (ax (J l) x) (ax (J l) y))))∧
  (∀(op:BinOp) (T:TypeId) (x y:au) (t:Nat),bD C l dst (.bV op T x y) t false os none K (.bool false)=cp C dst os K (bR (J l) (bV C (J l) op T (ax (J l) x) (ax (J l) y))))∧
  (∀(op:UnOp) (x:au) (t:Nat),bD C l dst (.un op x) t true os none K (.bool true)=cp C dst os K (bR (J l) (un op (ax (J l) x))))∧
  (∀(op:UnOp) (x:au) (t:Nat),bD C l dst (.un op x) t false os none K (.bool false)=cp C dst os K (bR (J l) (un op (ax (J l) x))))∧
  (∀(A B:TypeId) (x:au) (t:Nat),bD C l dst (.dH A B x) t true os none K (.bool true)=cp C dst os K (bR (J l) (dH C (J l) A B (ax (J l) x))))∧
  (∀(A B:TypeId) (x:au) (t:Nat),bD C l dst (.dH A B x) t false os none K (.bool false)=cp C dst os K (bR (J l) (dH C (J l) A B (ax (J l) x))))∧
  (∀(f:FuncId) (cs:List au) (t:Nat),bD C l dst (.hd f cs) t true os none K (.bool true)=cp C dst os K (some (.fn f (fN (J l) cs),J l)))∧
  (∀(f:FuncId) (cs:List au) (t:Nat),bD C l dst (.hd f cs) t false os none K (.bool false)=cp C dst os K (some (.fn f (fN (J l) cs),J l)))∧
  (∀(T:TypeId) (x y:au) (t:Nat),bD C l dst (.eV T x y) t true os none K (.bool true)=cp C dst os K (bR (J l) (eV C T (ax (J l) x) (ax (J l) y))))∧
  (∀(T:TypeId) (x y:au) (t:Nat),bD C l dst (.eV T x y) t false os none K (.bool false)=cp C dst os K (bR (J l) (eV C T (ax (J l) x) (ax (J l) y))))∧
  (∀(T:TypeId) (x:au) (bC ay:Option au) (t:Nat),bD C l dst (.de T x bC ay) t true os none K (.bool true)=cp C dst os K (de C (J l) T (ax (J l) x) (h4 (J l) bC) (h4 (J l) ay)))∧
  (∀(T:TypeId) (x:au) (bC ay:Option au) (t:Nat),bD C l dst (.de T x bC ay) t false os none K (.bool false)=cp C dst os K (de C (J l) T (ax (J l) x) (h4 (J l) bC) (h4 (J l) ay)))∧
  (∀(T:TypeId) (x:au) (k:Nat) (t:Nat),bD C l dst (.dG T x k) t true os none K (.bool true)=cp C dst os K (bR (J l) (dG C (J l) T (ax (J l) x) k)))∧
  (∀(T:TypeId) (x:au) (k:Nat) (t:Nat),bD C l dst (.dG T x k) t false os none K (.bool false)=cp C dst os K (bR (J l) (dG C (J l) T (ax (J l) x) k)))∧
  (∀(T:TypeId) (x y:au) (t:Nat),bD C l dst (.dx T x y) t true os none K (.bool true)=cp C dst os K (bR (J l) (dx C (J l) T (ax (J l) x) (ax (J l) y))))∧
  (∀(T:TypeId) (x y:au) (t:Nat),bD C l dst (.dx T x y) t false os none K (.bool false)=cp C dst os K (bR (J l) (dx C (J l) T (ax (J l) x) (ax (J l) y))))∧
  (∀(T:TypeId) (x y:au) (t:Nat),bD C l dst (.idx T x y) t true os none K (.bool true)=cp C dst os K (bR (J l) (idx C T (ax (J l) x) (ax (J l) y))))∧
  (∀(T:TypeId) (x y:au) (t:Nat),bD C l dst (.idx T x y) t false os none K (.bool false)=cp C dst os K (bR (J l) (idx C T (ax (J l) x) (ax (J l) y))))∧
  (∀(x:au) (k:Nat) (t:Nat),bD C l dst (.ex x k) t true os none K (.bool true)=cp C dst os K (bR (J l) (ex (J l) (ax (J l) x) k)))∧
  (∀(x:au) (k:Nat) (t:Nat),bD C l dst (.ex x k) t false os none K (.bool false)=cp C dst os K (bR (J l) (ex (J l) (ax (J l) x) k)))∧
  (∀(T:TypeId) (x:au) (t:Nat),bD C l dst (.len T x) t true os none K (.bool true)=cp C dst os K (bR (J l) (iO C (J l) T (ax (J l) x))))∧
  (∀(T:TypeId) (x:au) (t:Nat),bD C l dst (.len T x) t false os none K (.bool false)=cp C dst os K (bR (J l) (iO C (J l) T (ax (J l) x))))∧
  (∀(T a5:TypeId) (x y:au) (t:Nat),bD C l dst (.app T a5 x y) t true os none K (.bool true)=cp C dst os K (iP C (J l) T a5 (ax (J l) x) (ax (J l) y)))∧
  (∀(T a5:TypeId) (x y:au) (t:Nat),bD C l dst (.app T a5 x y) t false os none K (.bool false)=cp C dst os K (iP C (J l) T a5 (ax (J l) x) (ax (J l) y))):=
 ⟨fun x _=>(du rfl).trans (congrArg _ (pU x)),fun x _=>(du rfl).trans (congrArg _ (pU x)),fun x _=>(du rfl).trans (congrArg _ (pV x)),fun x _=>(du rfl).trans (congrArg _ (pV x)),fun c x y _=>(du rfl).trans (congrArg _ (pW c x y)),fun c x y _=>(du rfl).trans (congrArg _ (pW c x y)),fun T _=>(du rfl).trans (congrArg _ (pX T)),fun T _=>(du rfl).trans (congrArg _ (pX T)),fun T x _=>(du rfl).trans (congrArg _ (pY T x)),fun T x _=>(du rfl).trans (congrArg _ (pY T x)),fun T ps _=>(du rfl).trans (congrArg _ (pZ T ps)),fun T ps _=>(du rfl).trans (congrArg _ (pZ T ps)),fun T n ps _=>(du rfl).trans (congrArg _ (p0 T n ps)),fun T n ps _=>(du rfl).trans (congrArg _ (p0 T n ps)),fun T x _=>(du rfl).trans (congrArg _ (p1 T x)),fun T x _=>(du rfl).trans (congrArg _ (p1 T x)),fun T x y _=>(du rfl).trans (congrArg _ (p2 T x y)),fun T x y _=>(du rfl).trans (congrArg _ (p2 T x y)),fun x _=>(du rfl).trans (congrArg _ (p3 x)),fun x _=>(du rfl).trans (congrArg _ (p3 x)),fun op T x y _=>(du rfl).trans (congrArg _ (p4 op T x y)),fun op T x y _=>(du rfl).trans (congrArg _ (p4 op T x y)),fun op x _=>(du rfl).trans (congrArg _ (p5 op x)),fun op x _=>(du rfl).trans (congrArg _ (p5 op x)),fun A B x _=>(du rfl).trans (congrArg _ (p6 A B x)),fun A B x _=>(du rfl).trans (congrArg _ (p6 A B x)),fun f cs _=>(du rfl).trans (congrArg _ (p7 f cs)),fun f cs _=>(du rfl).trans (congrArg _ (p7 f cs)),fun T x y _=>(du rfl).trans (congrArg _ (p8 T x y)),fun T x y _=>(du rfl).trans (congrArg _ (p8 T x y)),fun T x bC ay _=>(du rfl).trans (congrArg _ (p9 T x bC ay)),fun T x bC ay _=>(du rfl).trans (congrArg _ (p9 T x bC ay)),fun T x k _=>(du rfl).trans (congrArg _ (p_ T x k)),fun T x k _=>(du rfl).trans (congrArg _ (p_ T x k)),fun T x y _=>(du rfl).trans (congrArg _ (qa T x y)),fun T x y _=>(du rfl).trans (congrArg _ (qa T x y)),fun T x y _=>(du rfl).trans (congrArg _ (qb T x y)),fun T x y _=>(du rfl).trans (congrArg _ (qb T x y)),fun x k _=>(du rfl).trans (congrArg _ (qc x k)),fun x k _=>(du rfl).trans (congrArg _ (qc x k)),fun T x _=>(du rfl).trans (congrArg _ (qd T x)),fun T x _=>(du rfl).trans (congrArg _ (qd T x)),fun T a5 x y _=>(du rfl).trans (congrArg _ (qe T a5 x y)),fun T a5 x y _=>(du rfl).trans (congrArg _ (qe T a5 x y))⟩
theorem HC:
  (∀(x:au) (t:Nat),bD C l dst (.cA x) t true os (some a) K (.bool true)=cq C l (t::use (J l) (.cA x)) (b7 (J l) (.cA x)) dst os a K (some (ax (J l) x,J l)))∧
  (∀(x:au) (t:Nat),bD C l dst (.cA x) t false os (some a) K (.bool false)=cq C l (t::use (J l) (.cA x)) (b7 (J l) (.cA x)) dst os a K (some (ax (J l) x,J l)))∧
  (∀(x:au) (t:Nat),bD C l dst (.fs x) t true os (some a) K (.bool true)=cq C l (t::use (J l) (.fs x)) (b7 (J l) (.fs x)) dst os a K (fM (J l) (ax (J l) x)))∧
  (∀(x:au) (t:Nat),bD C l dst (.fs x) t false os (some a) K (.bool false)=cq C l (t::use (J l) (.fs x)) (b7 (J l) (.fs x)) dst os a K (fM (J l) (ax (J l) x)))∧
  (∀(c x y:au) (t:Nat),bD C l dst (.pick c x y) t true os (some a) K (.bool true)=cq C l (t::use (J l) (.pick c x y)) (b7 (J l) (.pick c x y)) dst os a K (nB (J l) (ax (J l) c) (ax (J l) x) (ax (J l) y)))∧
  (∀(c x y:au) (t:Nat),bD C l dst (.pick c x y) t false os (some a) K (.bool false)=cq C l (t::use (J l) (.pick c x y)) (b7 (J l) (.pick c x y)) dst os a K (nB (J l) (ax (J l) c) (ax (J l) x) (ax (J l) y)))∧
  (∀(T:TypeId) (t:Nat),bD C l dst (.eR T) t true os (some a) K (.bool true)=cq C l (t::use (J l) (.eR T)) (b7 (J l) (.eR T)) dst os a K (bR (J l) (eR C T)))∧
  (∀(T:TypeId) (t:Nat),bD C l dst (.eR T) t false os (some a) K (.bool false)=cq C l (t::use (J l) (.eR T)) (b7 (J l) (.eR T)) dst os a K (bR (J l) (eR C T)))∧
  (∀(T:TypeId) (x:au) (t:Nat),bD C l dst (.dd T x) t true os (some a) K (.bool true)=cq C l (t::use (J l) (.dd T x)) (b7 (J l) (.dd T x)) dst os a K (dd (J l) (ax (J l) x)))∧
  (∀(T:TypeId) (x:au) (t:Nat),bD C l dst (.dd T x) t false os (some a) K (.bool false)=cq C l (t::use (J l) (.dd T x)) (b7 (J l) (.dd T x)) dst os a K (dd (J l) (ax (J l) x)))∧
  (∀(T:TypeId) (ps:List (Nat×au)) (t:Nat),bD C l dst (.dO T ps) t true os (some a) K (.bool true)=cq C l (t::use (J l) (.dO T ps)) (b7 (J l) (.dO T ps)) dst os a K (dO C (J l) T (g3 (J l) ps)))∧
  (∀(T:TypeId) (ps:List (Nat×au)) (t:Nat),bD C l dst (.dO T ps) t false os (some a) K (.bool false)=cq C l (t::use (J l) (.dO T ps)) (b7 (J l) (.dO T ps)) dst os a K (dO C (J l) T (g3 (J l) ps)))∧
  (∀(T:TypeId) (n:Nat) (ps:List (Nat×au)) (t:Nat),bD C l dst (.c0 T n ps) t true os (some a) K (.bool true)=cq C l (t::use (J l) (.c0 T n ps)) (b7 (J l) (.c0 T n ps)) dst os a K (c0 C (J l) T n (g3 (J l) ps)))∧
  (∀(T:TypeId) (n:Nat) (ps:List (Nat×au)) (t:Nat),bD C l dst (.c0 T n ps) t false os (some a) K (.bool false)=cq C l (t::use (J l) (.c0 T n ps)) (b7 (J l) (.c0 T n ps)) dst os a K (c0 C (J l) T n (g3 (J l) ps)))∧
  (∀(T:TypeId) (x:au) (t:Nat),bD C l dst (.cR T x) t true os (some a) K (.bool true)=cq C l (t::use (J l) (.cR T x)) (b7 (J l) (.cR T x)) dst os a K (bR (J l) (cR C (J l) T (ax (J l) x))))∧
  (∀(T:TypeId) (x:au) (t:Nat),bD C l dst (.cR T x) t false os (some a) K (.bool false)=cq C l (t::use (J l) (.cR T x)) (b7 (J l) (.cR T x)) dst os a K (bR (J l) (cR C (J l) T (ax (J l) x))))∧
  (∀(T:TypeId) (x y:au) (t:Nat),bD C l dst (.ea T x y) t true os (some a) K (.bool true)=cq C l (t::use (J l) (.ea T x y)) (b7 (J l) (.ea T x y)) dst os a K (gR (ea C (J l) T (ax (J l) x) (ax (J l) y))))∧
  (∀(T:TypeId) (x y:au) (t:Nat),bD C l dst (.ea T x y) t false os (some a) K (.bool false)=cq C l (t::use (J l) (.ea T x y)) (b7 (J l) (.ea T x y)) dst os a K (gR (ea C (J l) T (ax (J l) x) (ax (J l) y))))∧
  (∀(x:au) (t:Nat),bD C l dst (.eH x) t true os (some a) K (.bool true)=cq C l (t::use (J l) (.eH x)) (b7 (J l) (.eH x)) dst os a K (bR (J l) (eH (J l) (ax (J l) x))))∧
  (∀(x:au) (t:Nat),bD C l dst (.eH x) t false os (some a) K (.bool false)=cq C l (t::use (J l) (.eH x)) (b7 (J l) (.eH x)) dst os a K (bR (J l) (eH (J l) (ax (J l) x))))∧
  (∀(op:BinOp) (T:TypeId) (x y:au) (t:Nat),bD C l dst (.bV op T x y) t true os (some a) K (.bool true)=cq C l (t::use (J l) (.bV op T x y)) (b7 (J l) (.bV op T x y)) dst os a K (bR (J l) (bV C (J l) op T (ax (J l) x) (ax (J l) y))))∧
  (∀(op:BinOp) (T:TypeId) (x y:au) (t:Nat),bD C l dst (.bV op T x y) t false os (some a) K (.bool false)=cq C l (t::use (J l) (.bV op T x y)) (b7 (J l) (.bV op T x y)) dst os a K (bR (J l) (bV C (J l) op T (ax (J l) x) (ax (J l) y))))∧
  (∀(op:UnOp) (x:au) (t:Nat),bD C l dst (.un op x) t true os (some a) K (.bool true)=cq C l (t::use (J l) (.un op x)) (b7 (J l) (.un op x)) dst os a K (bR (J l) (un op (ax (J l) x))))∧
  (∀(op:UnOp) (x:au) (t:Nat),bD C l dst (.un op x) t false os (some a) K (.bool false)=cq C l (t::use (J l) (.un op x)) (b7 (J l) (.un op x)) dst os a K (bR (J l) (un op (ax (J l) x))))∧
  (∀(A B:TypeId) (x:au) (t:Nat),bD C l dst (.dH A B x) t true os (some a) K (.bool true)=cq C l (t::use (J l) (.dH A B x)) (b7 (J l) (.dH A B x)) dst os a K (bR (J l) (dH C (J l) A B (ax (J l) x))))∧
  (∀(A B:TypeId) (x:au) (t:Nat),bD C l dst (.dH A B x) t false os (some a) K (.bool false)=cq C l (t::use (J l) (.dH A B x)) (b7 (J l) (.dH A B x)) dst os a K (bR (J l) (dH C (J l) A B (ax (J l) x))))∧
  (∀(f:FuncId) (cs:List au) (t:Nat),bD C l dst (.hd f cs) t true os (some a) K (.bool true)=cq C l (t::use (J l) (.hd f cs)) (b7 (J l) (.hd f cs)) dst os a K (some (.fn f (fN (J l) cs),J l)))∧
  (∀(f:FuncId) (cs:List au) (t:Nat),bD C l dst (.hd f cs) t false os (some a) K (.bool false)=cq C l (t::use (J l) (.hd f cs)) (b7 (J l) (.hd f cs)) dst os a K (some (.fn f (fN (J l) cs),J l)))∧
  (∀(T:TypeId) (x y:au) (t:Nat),bD C l dst (.eV T x y) t true os (some a) K (.bool true)=cq C l (t::use (J l) (.eV T x y)) (b7 (J l) (.eV T x y)) dst os a K (bR (J l) (eV C T (ax (J l) x) (ax (J l) y))))∧
  (∀(T:TypeId) (x y:au) (t:Nat),bD C l dst (.eV T x y) t false os (some a) K (.bool false)=cq C l (t::use (J l) (.eV T x y)) (b7 (J l) (.eV T x y)) dst os a K (bR (J l) (eV C T (ax (J l) x) (ax (J l) y))))∧
  (∀(T:TypeId) (x:au) (bC ay:Option au) (t:Nat),bD C l dst (.de T x bC ay) t true os (some a) K (.bool true)=cq C l (t::use (J l) (.de T x bC ay)) (b7 (J l) (.de T x bC ay)) dst os a K (de C (J l) T (ax (J l) x) (h4 (J l) bC) (h4 (J l) ay)))∧
  (∀(T:TypeId) (x:au) (bC ay:Option au) (t:Nat),bD C l dst (.de T x bC ay) t false os (some a) K (.bool false)=cq C l (t::use (J l) (.de T x bC ay)) (b7 (J l) (.de T x bC ay)) dst os a K (de C (J l) T (ax (J l) x) (h4 (J l) bC) (h4 (J l) ay)))∧
  (∀(T:TypeId) (x:au) (k:Nat) (t:Nat),bD C l dst (.dG T x k) t true os (some a) K (.bool true)=cq C l (t::use (J l) (.dG T x k)) (b7 (J l) (.dG T x k)) dst os a K (bR (J l) (dG C (J l) T (ax (J l) x) k)))∧
  (∀(T:TypeId) (x:au) (k:Nat) (t:Nat),bD C l dst (.dG T x k) t false os (some a) K (.bool false)=cq C l (t::use (J l) (.dG T x k)) (b7 (J l) (.dG T x k)) dst os a K (bR (J l) (dG C (J l) T (ax (J l) x) k)))∧
  (∀(T:TypeId) (x y:au) (t:Nat),bD C l dst (.dx T x y) t true os (some a) K (.bool true)=cq C l (t::use (J l) (.dx T x y)) (b7 (J l) (.dx T x y)) dst os a K (bR (J l) (dx C (J l) T (ax (J l) x) (ax (J l) y))))∧
  (∀(T:TypeId) (x y:au) (t:Nat),bD C l dst (.dx T x y) t false os (some a) K (.bool false)=cq C l (t::use (J l) (.dx T x y)) (b7 (J l) (.dx T x y)) dst os a K (bR (J l) (dx C (J l) T (ax (J l) x) (ax (J l) y))))∧
  (∀(T:TypeId) (x y:au) (t:Nat),bD C l dst (.idx T x y) t true os (some a) K (.bool true)=cq C l (t::use (J l) (.idx T x y)) (b7 (J l) (.idx T x y)) dst os a K (bR (J l) (idx C T (ax (J l) x) (ax (J l) y))))∧
  (∀(T:TypeId) (x y:au) (t:Nat),bD C l dst (.idx T x y) t false os (some a) K (.bool false)=cq C l (t::use (J l) (.idx T x y)) (b7 (J l) (.idx T x y)) dst os a K (bR (J l) (idx C T (ax (J l) x) (ax (J l) y))))∧
  (∀(x:au) (k:Nat) (t:Nat),bD C l dst (.ex x k) t true os (some a) K (.bool true)=cq C l (t::use (J l) (.ex x k)) (b7 (J l) (.ex x k)) dst os a K (bR (J l) (ex (J l) (ax (J l) x) k)))∧
  (∀(x:au) (k:Nat) (t:Nat),bD C l dst (.ex x k) t false os (some a) K (.bool false)=cq C l (t::use (J l) (.ex x k)) (b7 (J l) (.ex x k)) dst os a K (bR (J l) (ex (J l) (ax (J l) x) k)))∧
  (∀(T:TypeId) (x:au) (t:Nat),bD C l dst (.len T x) t true os (some a) K (.bool true)=cq C l (t::use (J l) (.len T x)) (b7 (J l) (.len T x)) dst os a K (bR (J l) (iO C (J l) T (ax (J l) x))))∧
  (∀(T:TypeId) (x:au) (t:Nat),bD C l dst (.len T x) t false os (some a) K (.bool false)=cq C l (t::use (J l) (.len T x)) (b7 (J l) (.len T x)) dst os a K (bR (J l) (iO C (J l) T (ax (J l) x))))∧
  (∀(T a5:TypeId) (x y:au) (t:Nat),bD C l dst (.app T a5 x y) t true os (some a) K (.bool true)=cq C l (t::use (J l) (.app T a5 x y)) (b7 (J l) (.app T a5 x y)) dst os a K (iP C (J l) T a5 (ax (J l) x) (ax (J l) y)))∧
  (∀(T a5:TypeId) (x y:au) (t:Nat),bD C l dst (.app T a5 x y) t false os (some a) K (.bool false)=cq C l (t::use (J l) (.app T a5 x y)) (b7 (J l) (.app T a5 x y)) dst os a K (iP C (J l) T a5 (ax (J l) x) (ax (J l) y))):=
 ⟨fun x _=>(dv rfl).trans (congrArg _ (pU x)),fun x _=>(dv rfl).trans (congrArg _ (pU x)),fun x _=>(dv rfl).trans (congrArg _ (pV x)),fun x _=>(dv rfl).trans (congrArg _ (pV x)),fun c x y _=>(dv rfl).trans (congrArg _ (pW c x y)),fun c x y _=>(dv rfl).trans (congrArg _ (pW c x y)),fun T _=>(dv rfl).trans (congrArg _ (pX T)),fun T _=>(dv rfl).trans (congrArg _ (pX T)),fun T x _=>(dv rfl).trans (congrArg _ (pY T x)),fun T x _=>(dv rfl).trans (congrArg _ (pY T x)),fun T ps _=>(dv rfl).trans (congrArg _ (pZ T ps)),fun T ps _=>(dv rfl).trans (congrArg _ (pZ T ps)),fun T n ps _=>(dv rfl).trans (congrArg _ (p0 T n ps)),fun T n ps _=>(dv rfl).trans (congrArg _ (p0 T n ps)),fun T x _=>(dv rfl).trans (congrArg _ (p1 T x)),fun T x _=>(dv rfl).trans (congrArg _ (p1 T x)),fun T x y _=>(dv rfl).trans (congrArg _ (p2 T x y)),fun T x y _=>(dv rfl).trans (congrArg _ (p2 T x y)),fun x _=>(dv rfl).trans (congrArg _ (p3 x)),fun x _=>(dv rfl).trans (congrArg _ (p3 x)),fun op T x y _=>(dv rfl).trans (congrArg _ (p4 op T x y)),fun op T x y _=>(dv rfl).trans (congrArg _ (p4 op T x y)),fun op x _=>(dv rfl).trans (congrArg _ (p5 op x)),fun op x _=>(dv rfl).trans (congrArg _ (p5 op x)),fun A B x _=>(dv rfl).trans (congrArg _ (p6 A B x)),fun A B x _=>(dv rfl).trans (congrArg _ (p6 A B x)),fun f cs _=>(dv rfl).trans (congrArg _ (p7 f cs)),fun f cs _=>(dv rfl).trans (congrArg _ (p7 f cs)),fun T x y _=>(dv rfl).trans (congrArg _ (p8 T x y)),fun T x y _=>(dv rfl).trans (congrArg _ (p8 T x y)),fun T x bC ay _=>(dv rfl).trans (congrArg _ (p9 T x bC ay)),fun T x bC ay _=>(dv rfl).trans (congrArg _ (p9 T x bC ay)),fun T x k _=>(dv rfl).trans (congrArg _ (p_ T x k)),fun T x k _=>(dv rfl).trans (congrArg _ (p_ T x k)),fun T x y _=>(dv rfl).trans (congrArg _ (qa T x y)),fun T x y _=>(dv rfl).trans (congrArg _ (qa T x y)),fun T x y _=>(dv rfl).trans (congrArg _ (qb T x y)),fun T x y _=>(dv rfl).trans (congrArg _ (qb T x y)),fun x k _=>(dv rfl).trans (congrArg _ (qc x k)),fun x k _=>(dv rfl).trans (congrArg _ (qc x k)),fun T x _=>(dv rfl).trans (congrArg _ (qd T x)),fun T x _=>(dv rfl).trans (congrArg _ (qd T x)),fun T a5 x y _=>(dv rfl).trans (congrArg _ (qe T a5 x y)),fun T a5 x y _=>(dv rfl).trans (congrArg _ (qe T a5 x y))⟩
end
theorem Au:
  (∀(t:Nat) (k:IntKind) (n:Int),ga t (.int k n)=(.int k n))∧
  (∀(t:Nat) (b:Bool),ga t (.bool b)=(.bool b))∧
  (∀(t:Nat) (x:List UInt8),ga t (.str x)=(.str x))∧
  (∀(t:Nat) (xs:List j),ga t (.slice xs)=(.slice xs))∧
  (∀(t:Nat) (d:j),ga t (.ref d)=(.ref d))∧
  (∀(t:Nat) (f:FuncId) (cap:List j),ga t (.fn f cap)=(.fn f cap))∧
  (∀(t:Nat) (x:Nat) (q:List Nat),ga t (.h x q)=(.h x q))∧
  (∀(t:Nat) (x:Nat) (q:List Nat),ga t (.an x q)=(.an x q))∧
  (∀(t:Nat),ga t .cw= .cw)∧
  (∀(t:Nat),ga t .bt= .bt)∧
  (∀(t:Nat),ga t .c2= .c2)∧
  (∀(t:Nat),ga t .hole= .hole)∧
  (∀(t:Nat) (sz:Nat) (xs:List j),ga t (.aH sz xs)= .h t [])∧
  (∀(t:Nat) (d:j),ga t (.bm d)= .h t [])∧
  (∀(t:Nat) (ah:List j),ga t (.agg ah)=if j.dE ah=true then(.agg ah)else .h t [])∧
  (∀(t:Nat) (ah:List j),ga t (.tuple ah)=if j.dE ah=true then(.tuple ah)else .h t []):=
 ⟨fun _ _ _=>rfl,fun _ _=>rfl,fun _ _=>rfl,fun _ _=>rfl,fun _ _=>rfl,fun _ _ _=>rfl,fun _ _ _=>rfl,fun _ _ _=>rfl,fun _=>rfl,fun _=>rfl,fun _=>rfl,fun _=>rfl,fun _ _ _=>rfl,fun _ _=>rfl,fun _ _=>rfl,fun _ _=>rfl⟩
theorem Av:
  (∀(l:List (Nat×j)) (av:j),fin (J l) none av=J l)∧
  (∀(l:List (Nat×j)) (t:Nat) (k:IntKind) (n:Int),fin (J l) (some t) (.int k n)=J ((t,(.int k n))::l))∧
  (∀(l:List (Nat×j)) (t:Nat) (b:Bool),fin (J l) (some t) (.bool b)=J ((t,(.bool b))::l))∧
  (∀(l:List (Nat×j)) (t:Nat) (x:List UInt8),fin (J l) (some t) (.str x)=J ((t,(.str x))::l))∧
  (∀(l:List (Nat×j)) (t:Nat) (xs:List j),fin (J l) (some t) (.slice xs)=J ((t,(.slice xs))::l))∧
  (∀(l:List (Nat×j)) (t:Nat) (d:j),fin (J l) (some t) (.ref d)=J ((t,(.ref d))::l))∧
  (∀(l:List (Nat×j)) (t:Nat) (f:FuncId) (cap:List j),fin (J l) (some t) (.fn f cap)=J ((t,(.fn f cap))::l))∧
  (∀(l:List (Nat×j)) (t:Nat) (x:Nat) (q:List Nat),fin (J l) (some t) (.h x q)=J ((t,(.h x q))::l))∧
  (∀(l:List (Nat×j)) (t:Nat) (x:Nat) (q:List Nat),fin (J l) (some t) (.an x q)=J ((t,(.an x q))::l))∧
  (∀(l:List (Nat×j)) (t:Nat),fin (J l) (some t) .cw=J ((t,.cw)::l))∧
  (∀(l:List (Nat×j)) (t:Nat),fin (J l) (some t) .bt=J ((t,.bt)::l))∧
  (∀(l:List (Nat×j)) (t:Nat),fin (J l) (some t) .c2=J ((t,.c2)::l))∧
  (∀(l:List (Nat×j)) (t:Nat),fin (J l) (some t) .hole=J ((t,.hole)::l))∧
  (∀(l:List (Nat×j)) (t:Nat) (sz:Nat) (xs:List j),fin (J l) (some t) (.aH sz xs)=J ((t,(.aH sz xs))::ki t l))∧
  (∀(l:List (Nat×j)) (t:Nat) (d:j),fin (J l) (some t) (.bm d)=J ((t,(.bm d))::ki t l))∧
  (∀(l:List (Nat×j)) (t:Nat) (ah:List j),fin (J l) (some t) (.agg ah)=J ((t,(.agg ah))::if j.dE ah=true then l else ki t l))∧
  (∀(l:List (Nat×j)) (t:Nat) (ah:List j),fin (J l) (some t) (.tuple ah)=J ((t,(.tuple ah))::if j.dE ah=true then l else ki t l)):=
 ⟨fun _ _=>rfl,fun l t _ _=>by simp only[fin,j.plain,if_true,hB],fun l t _=>by simp only[fin,j.plain,if_true,hB],fun l t _=>by simp only[fin,j.plain,if_true,hB],fun l t _=>by simp only[fin,j.plain,if_true,hB],fun l t _=>by simp only[fin,j.plain,if_true,hB],fun l t _ _=>by simp only[fin,j.plain,if_true,hB],fun l t _ _=>by simp only[fin,j.plain,if_true,hB],fun l t _ _=>by simp only[fin,j.plain,if_true,hB],fun l t=>by simp only[fin,j.plain,if_true,hB],fun l t=>by simp only[fin,j.plain,if_true,hB],fun l t=>by simp only[fin,j.plain,if_true,hB],fun l t=>by simp only[fin,j.plain,if_true,hB],fun l t _ _=>by simp only[fin,j.plain,Bool.false_eq_true,if_false,pQ,hB],fun l t _=>by simp only[fin,j.plain,Bool.false_eq_true,if_false,pQ,hB],fun l t _=>by simp only[fin,j.plain,pQ,hB];split<;>rfl,fun l t _=>by simp only[fin,j.plain,pQ,hB];split<;>rfl⟩
theorem Aw:
  (∀(k:IntKind) (n:Int),j.plain (.int k n)=true)∧
  (∀(b:Bool),j.plain (.bool b)=true)∧
  (∀(x:List UInt8),j.plain (.str x)=true)∧
  (∀(xs:List j),j.plain (.slice xs)=true)∧
  (∀(d:j),j.plain (.ref d)=true)∧
  (∀(f:FuncId) (cap:List j),j.plain (.fn f cap)=true)∧
  (∀(x:Nat) (q:List Nat),j.plain (.h x q)=true)∧
  (∀(x:Nat) (q:List Nat),j.plain (.an x q)=true)∧
  (j.plain .cw=true)∧
  (j.plain .bt=true)∧
  (j.plain .c2=true)∧
  (j.plain .hole=true)∧
  (∀(sz:Nat) (xs:List j),j.plain (.aH sz xs)=false)∧
  (∀(d:j),j.plain (.bm d)=false)∧
  (∀(ah:List j),j.plain (.agg ah)=j.dE ah)∧
  (∀(ah:List j),j.plain (.tuple ah)=j.dE ah)∧
  (j.dE []=true)∧
  (∀d ds,j.dE (d::ds)=(d.plain&&j.dE ds)):=
 ⟨fun _ _=>rfl,fun _=>rfl,fun _=>rfl,fun _=>rfl,fun _=>rfl,fun _ _=>rfl,fun _ _=>rfl,fun _ _=>rfl,rfl,rfl,rfl,rfl,fun _ _=>rfl,fun _=>rfl,fun _=>rfl,fun _=>rfl,rfl,fun _ _=>rfl⟩
theorem Ax:
  (∀(s:ag) (k:IntKind) (n:Int),fM s (.int k n)=some ((.int k n),s))∧
  (∀(s:ag) (b:Bool),fM s (.bool b)=some ((.bool b),s))∧
  (∀(s:ag) (x:List UInt8),fM s (.str x)=some ((.str x),s))∧
  (∀(s:ag) (xs:List j),fM s (.slice xs)=some ((.slice xs),s))∧
  (∀(s:ag) (d:j),fM s (.ref d)=some ((.ref d),s))∧
  (∀(s:ag) (f:FuncId) (cap:List j),fM s (.fn f cap)=some ((.fn f cap),s))∧
  (∀(s:ag) (x:Nat) (q:List Nat),fM s (.an x q)=some ((.an x q),s))∧
  (∀(s:ag),fM s .cw=some (.cw,s))∧
  (∀(s:ag),fM s .bt=some (.bt,s))∧
  (∀(s:ag),fM s .c2=some (.c2,s))∧
  (∀(s:ag),fM s .hole=some (.hole,s))∧
  (∀(s:ag) (sz:Nat) (xs:List j),fM s (.aH sz xs)=some ((.aH sz xs),s))∧
  (∀(s:ag) (d:j),fM s (.bm d)=some ((.bm d),s))∧
  (∀(s:ag) (ah:List j),fM s (.agg ah)=some ((.agg ah),s))∧
  (∀(s:ag) (ah:List j),fM s (.tuple ah)=some ((.tuple ah),s))∧
  (∀(s:ag) y q,fM s (.h y q)=bK s (.h y q)):=
 ⟨fun _ _ _=>rfl,fun _ _=>rfl,fun _ _=>rfl,fun _ _=>rfl,fun _ _=>rfl,fun _ _ _=>rfl,fun _ _ _=>rfl,fun _=>rfl,fun _=>rfl,fun _=>rfl,fun _=>rfl,fun _ _ _=>rfl,fun _ _=>rfl,fun _ _=>rfl,fun _ _=>rfl,fun _ _ _=>rfl⟩
theorem Ay:
  (∀(t:Nat) (k:IntKind) (n:Int),bJ t (.int k n)=(.int k n))∧
  (∀(t:Nat) (b:Bool),bJ t (.bool b)=(.bool b))∧
  (∀(t:Nat) (x:List UInt8),bJ t (.str x)=(.str x))∧
  (∀(t:Nat) (xs:List j),bJ t (.slice xs)=(.slice xs))∧
  (∀(t:Nat) (d:j),bJ t (.ref d)=(.ref d))∧
  (∀(t:Nat),bJ t .cw= .cw)∧
  (∀(t:Nat),bJ t .bt= .bt)∧
  (∀(t:Nat),bJ t .c2= .c2)∧
  (∀(t:Nat),bJ t .hole= .hole)∧
  (∀(t:Nat) (sz:Nat) (xs:List j),bJ t (.aH sz xs)=(.aH sz xs))∧
  (∀(t:Nat) (d:j),bJ t (.bm d)=(.bm d))∧
  (∀(t:Nat) (ah:List j),bJ t (.agg ah)=(.agg ah))∧
  (∀(t:Nat) (ah:List j),bJ t (.tuple ah)=(.tuple ah))∧
  (∀(t y:Nat) q,bJ t (.h y q)=if y=t then .hole else .h y q)∧
  (∀(t y:Nat) q,bJ t (.an y q)=if y=t then .hole else .an y q)∧
  (∀(t:Nat) f c,bJ t (.fn f c)= .fn f (f_ t c))∧
  (∀t,f_ t []=[])∧
  (∀t d ds,f_ t (d::ds)=bJ t d::f_ t ds)∧
  (∀t,ki t []=[])∧
  (∀t u d l,ki t ((u,d)::l)=(u,bJ t d)::ki t l)∧
  (∀t l,ia t (J l)=J (ki t l)):=
 ⟨fun _ _ _=>by unfold bJ;rfl,fun _ _=>by unfold bJ;rfl,fun _ _=>by unfold bJ;rfl,fun _ _=>by unfold bJ;rfl,fun _ _=>by unfold bJ;rfl,fun _=>by unfold bJ;rfl,fun _=>by unfold bJ;rfl,fun _=>by unfold bJ;rfl,fun _=>by unfold bJ;rfl,fun _ _ _=>by unfold bJ;rfl,fun _ _=>by unfold bJ;rfl,fun _ _=>by unfold bJ;rfl,fun _ _=>by unfold bJ;rfl,fun _ _ _=>by unfold bJ;rfl,fun _ _ _=>by unfold bJ;rfl,fun _ _ _=>by simp only[bJ],fun _=>by simp only[f_],fun _ _ _=>by simp only[f_],fun _=>rfl,fun _ _ _ _=>rfl,fun t l=>pQ t l⟩
theorem Az:
  (∀(t:Nat) (k:IntKind) (n:Int),bn t (.int k n)=(.int k n))∧
  (∀(t:Nat) (b:Bool),bn t (.bool b)=(.bool b))∧
  (∀(t:Nat) (x:List UInt8),bn t (.str x)=(.str x))∧
  (∀(t:Nat) (xs:List j),bn t (.slice xs)=(.slice xs))∧
  (∀(t:Nat) (d:j),bn t (.ref d)=(.ref d))∧
  (∀(t:Nat),bn t .cw= .cw)∧
  (∀(t:Nat),bn t .bt= .bt)∧
  (∀(t:Nat),bn t .c2= .c2)∧
  (∀(t:Nat),bn t .hole= .hole)∧
  (∀(t:Nat) (sz:Nat) (xs:List j),bn t (.aH sz xs)=(.aH sz xs))∧
  (∀(t:Nat) (d:j),bn t (.bm d)=(.bm d))∧
  (∀(t:Nat) (ah:List j),bn t (.agg ah)=(.agg ah))∧
  (∀(t:Nat) (ah:List j),bn t (.tuple ah)=(.tuple ah))∧
  (∀(t y:Nat),bn t (.h y [])= .h y [])∧
  (∀(t y k:Nat) q,bn t (.h y (k::q))=if y=t then .hole else .h y (k::q))∧
  (∀(t y:Nat) q,bn t (.an y q)=if y=t then .hole else .an y q)∧
  (∀(t:Nat) f c,bn t (.fn f c)= .fn f (fD t c))∧
  (∀t,fD t []=[])∧
  (∀t d ds,fD t (d::ds)=bn t d::fD t ds)∧
  (∀t,oD t []=[])∧
  (∀t u d l,oD t ((u,d)::l)=(u,bn t d)::oD t l)∧
  (∀t l,ff t (J l)=J (oD t l)):=
 ⟨fun _ _ _=>by unfold bn;rfl,fun _ _=>by unfold bn;rfl,fun _ _=>by unfold bn;rfl,fun _ _=>by unfold bn;rfl,fun _ _=>by unfold bn;rfl,fun _=>by unfold bn;rfl,fun _=>by unfold bn;rfl,fun _=>by unfold bn;rfl,fun _=>by unfold bn;rfl,fun _ _ _=>by unfold bn;rfl,fun _ _=>by unfold bn;rfl,fun _ _=>by unfold bn;rfl,fun _ _=>by unfold bn;rfl,fun _ _=>by simp[bn],fun _ _ _ _=>by simp[bn],fun _ _ _=>by unfold bn;rfl,fun _ _ _=>by simp only[bn],fun _=>by simp only[fD],fun _ _ _=>by simp only[fD],fun _=>rfl,fun _ _ _ _=>rfl,fun t l=>GX t l⟩
def wJ:jY→Bool→Option j
 | .bool,b=>some (.bool b)
 |_,_=>none
def nC (neg:Bool):jY→Option (Option Bool)→Option j
 | .slice _,some r=>some (kL neg r)
 |_,_=>none
def oI (neg:Bool):jY→Option Bool→Option j
 | .ptr _,some b=>some (.bool (b !=neg))
 |_,_=>none
theorem AA (C:bo) (s:ag) (T:TypeId):
  (∀op k a b3 b,bV C s op T (.int k a) (.int b3 b)=e2 op k a b3 b)∧
  (∀op a b,bV C s op T (.str a) (.str b)=jI op a b)∧
  (∀a b,bV C s .eql T (.bool a) (.bool b)=wJ (C.T T).k (a==b))∧
  (∀a b,bV C s .neq T (.bool a) (.bool b)=wJ (C.T T).k (!(a==b)))∧
  (∀xs,bV C s .eql T (.slice xs) .bt=nC false (C.T T).k (gE s (.slice xs)))∧
  (∀xs,bV C s .neq T (.slice xs) .bt=nC true (C.T T).k (gE s (.slice xs)))∧
  (bV C s .eql T .bt .bt=nC false (C.T T).k (gE s .bt))∧
  (bV C s .neq T .bt .bt=nC true (C.T T).k (gE s .bt))∧
  (∀x q,bV C s .eql T (.h x q) .bt=nC false (C.T T).k (gE s (.h x q)))∧
  (∀x q,bV C s .neq T (.h x q) .bt=nC true (C.T T).k (gE s (.h x q)))∧
  (∀x q,bV C s .eql T (.h x q) .cw=oI false (C.T T).k (hV s (.h x q)))∧
  (∀x q,bV C s .neq T (.h x q) .cw=oI true (C.T T).k (hV s (.h x q)))∧
  (∀d,bV C s .eql T (.ref d) .cw=oI false (C.T T).k (hV s (.ref d)))∧
  (∀d,bV C s .neq T (.ref d) .cw=oI true (C.T T).k (hV s (.ref d)))∧
  (bV C s .eql T .cw .cw=oI false (C.T T).k (hV s .cw))∧
  (bV C s .neq T .cw .cw=oI true (C.T T).k (hV s .cw)):=by
 refine⟨?_,?_,?_,?_,?_,?_,?_,?_,?_,?_,?_,?_,?_,?_,?_,?_⟩<;>intros<;>first
  |rfl
  |(simp only[bV]
    generalize (C.T T).k=iL
    cases iL<;>first|rfl|(simp only[nC];generalize gE s _=v;cases v<;>rfl)|(simp only[oI];generalize hV s _=v;cases v<;>(try (rename_i b;cases b))<;>rfl))
theorem AB (k:IntKind) (a b:Int):
  e2 .add k a k b=some (.int k (k.wrap (a+b)))∧e2 .sub k a k b=some (.int k (k.wrap (a-b)))∧e2 .mul k a k b=some (.int k (k.wrap (a*b)))∧
  e2 .eql k a k b=some (.bool (a==b))∧e2 .neq k a k b=some (.bool (a !=b))∧e2 .lss k a k b=some (.bool (decide (a<b)))∧e2 .leq k a k b=some (.bool (decide (a≤b)))∧
  e2 .gtr k a k b=some (.bool (decide (b<a)))∧e2 .geq k a k b=some (.bool (decide (b≤a)))∧
  e2 .and k a k b=some (.int k (bitsOf .and k a b))∧e2 .or k a k b=some (.int k (bitsOf .or k a b))∧e2 .xor k a k b=some (.int k (bitsOf .xor k a b))∧e2 .andNot k a k b=some (.int k (bitsOf .andNot k a b)):=by
 simp[e2]
theorem HD {k:IntKind} {a b:Int} (h:b≠0):e2 .quo k a k b=some (.int k (k.wrap (a.tdiv b))):=by simp[e2,h]
theorem HE {k:IntKind} {a b:Int} (h:b≠0):e2 .rem k a k b=some (.int k (a.tmod b)):=by simp[e2,h]
theorem HF {k b3:IntKind} {a b:Int} (h:¬b<0):e2 .shl k a b3 b=some (.int k (k.wrap (a*2^(min b.toNat k.bits)))):=by simp[e2,h]
theorem HG {k b3:IntKind} {a b:Int} (h:¬b<0):e2 .shr k a b3 b=some (.int k (a.fdiv (2^(min b.toNat k.bits)))):=by simp[e2,h]
theorem AD (a b:List UInt8):
  jI .eql a b=some (.bool (a==b))∧jI .neq a b=some (.bool !(a==b))∧jI .lss a b=some (.bool (Op.bytesLess a b))∧
  jI .leq a b=some (.bool (Op.bytesLess a b||a==b))∧jI .gtr a b=some (.bool !(Op.bytesLess a b||a==b))∧jI .geq a b=some (.bool !(Op.bytesLess a b)):=by
 refine⟨rfl,rfl,rfl,rfl,rfl,rfl⟩
theorem AE:(∀b,un .not (.bool b)=some (.bool !b))∧(un .not .c2=some .c2)∧(∀k n,un .neg (.int k n)=some (.int k (k.wrap (0-n)))):=⟨fun _=>rfl,rfl,fun _ _=>rfl⟩
def wK:jY→Option UInt8→Option j
 | .str,some c=>some (.int .u8 c.toNat)
 |_,_=>none
theorem AF (C:bo) (T:TypeId) (l:List UInt8) (k:IntKind) (n:Int):idx C T (.str l) (.int k n)=wK (C.T T).k (cX l n):=by
 simp only[idx,cX]
 generalize (C.T T).k=iL
 cases iL<;>first|rfl|(simp only[wK];split<;>first|rfl|(cases l[n.toNat]? <;>rfl))
def wL (C:bo):jY→Option j→Option j
 | .slice e,some d=>if(C.T e).ok=true∧d.wd=(C.T e).sz then some (.ref d)else none
 |_,_=>none
theorem AG (C:bo) (s:ag) (T:TypeId) (xs:List j) (k:IntKind) (n:Int):dx C s T (.slice xs) (.int k n)=wL C (C.T T).k (cX xs n):=by
 simp only[dx,cX]
 generalize (C.T T).k=iL
 cases iL<;>first|rfl|skip
 simp only[wL]
 by_cases bu:0≤n
 ·simp only[bu,true_and,if_true]
  split
  ·cases xs[n.toNat]? <;>simp[*]
  ·cases xs[n.toNat]? <;>simp[*]
 ·simp only[bu,false_and,if_false]
def rW (C:bo) (y:Nat) (q:List Nat) (n:Int):jY→Option j→Option j
 | .slice e,some (.aH sz xs)=>if(cX xs n).isSome=true∧(C.T e).ok=true∧sz=(C.T e).sz then some (.an y (q++[n.toNat]))else none
 |_,_=>none
theorem AH (C:bo) (s:ag) (T:TypeId) (y:Nat) (q:List Nat) (k:IntKind) (n:Int):dx C s T (.h y q) (.int k n)=rW C y q n (C.T T).k (j.sub q (s y)):=by
 simp only[dx]
 generalize (C.T T).k=iL
 cases iL<;>first|rfl|skip
 rename_i e
 cases R:j.sub q (s y)with
 |none=>simp[rW]
 |some d=>
  cases d<;>first
   |(simp[rW];done)
   |skip
  rename_i sz xs
  have aY:(cX xs n).isSome=true↔0≤n∧n.toNat<xs.length:=by
   unfold cX;split<;>simp_all<;>omega
  simp only[rW,aY]
  by_cases bu:0≤n<;>by_cases U:(C.T e).ok=true<;>simp[bu,U]
def qf:jY→ag→Option (List UInt8)→Option (j×ag)
 | .str,s,some t=>some (.str t,s)
 |_,_,_=>none
def qg (C:bo):jY→ag→List j→Option (List j)→Option (j×ag)
 | .slice e,s,xs,some t=>if(C.T e).ok=true∧∀d∈xs,d.wd=(C.T e).sz then some (.slice t,s)else none
 |_,_,_,_=>none
theorem AJ (C:bo) (s:ag) (T:TypeId) (l:List UInt8):
  (∀k a b3 b,de C s T (.str l) (some (.int k a)) (some (.int b3 b))=qf (C.T T).k s (hL l a b))∧
  (∀b3 b,de C s T (.str l) none (some (.int b3 b))=qf (C.T T).k s (hL l 0 b))∧
  (∀k a,de C s T (.str l) (some (.int k a)) none=qf (C.T T).k s (hL l a l.length)):=by
 have e:∀(bC ay:Option j) (a b:Int),(fB 0 bC=if 0≤a then some a.toNat else none)→(fB l.length ay=if 0≤b then some b.toNat else none)→de C s T (.str l) bC ay=qf (C.T T).k s (hL l a b):=by
  intro bC ay a b U aa
  simp only[de]
  generalize (C.T T).k=iL
  cases iL<;>first|rfl|skip
  simp only[U,aa,hL]
  by_cases bN:0≤a<;>by_cases I:0≤b<;>simp only[bN,I,if_true,if_false,qf,true_and,false_and]
  ·by_cases ae:a≤b∧b≤l.length
   ·rw[if_pos ⟨by omega,by omega⟩,if_pos ae]
   ·rw[if_neg (fun h=>ae ⟨by omega,by omega⟩),if_neg ae]
  ·rw[if_neg (by omega)]
 exact⟨fun k a b3 b=>e _ _ a b rfl rfl,fun b3 b=>e _ _ 0 b rfl rfl,fun k a=>e _ _ a l.length rfl (by simp[fB])⟩
theorem AK (C:bo) (s:ag) (T:TypeId) (xs:List j):
  (∀k a b3 b,de C s T (.slice xs) (some (.int k a)) (some (.int b3 b))=qg C (C.T T).k s xs (hL xs a b))∧
  (∀b3 b,de C s T (.slice xs) none (some (.int b3 b))=qg C (C.T T).k s xs (hL xs 0 b))∧
  (∀k a,de C s T (.slice xs) (some (.int k a)) none=qg C (C.T T).k s xs (hL xs a xs.length)):=by
 have e:∀(bC ay:Option j) (a b:Int),(fB 0 bC=if 0≤a then some a.toNat else none)→(fB xs.length ay=if 0≤b then some b.toNat else none)→de C s T (.slice xs) bC ay=qg C (C.T T).k s xs (hL xs a b):=by
  intro bC ay a b U aa
  simp only[de]
  generalize (C.T T).k=iL
  cases iL<;>first|rfl|skip
  simp only[U,aa,hL]
  by_cases bN:0≤a<;>by_cases I:0≤b<;>simp only[bN,I,if_true,if_false,qg,true_and,false_and]
  ·by_cases ae:a≤b∧b≤xs.length
   ·rw[if_pos ae]
    have U:a.toNat≤b.toNat:=by omega
    have aa:b.toNat≤xs.length:=by omega
    simp only[U,aa,true_and]
   ·rw[if_neg (fun h=>ae ⟨by omega,by omega⟩),if_neg ae]
  ·rw[if_neg (by omega)]
 exact⟨fun k a b3 b=>e _ _ a b rfl rfl,fun b3 b=>e _ _ 0 b rfl rfl,fun k a=>e _ _ a xs.length rfl (by simp[fB])⟩
def rX (q:List Nat):Option j→Option j
 |some d=>j.sub q d
 |none=>none
theorem AL:(∀d,j.sub [] d=some d)∧(∀k q ah,j.sub (k::q) (.agg ah)=rX q ah[k]?)∧(∀k q ah,j.sub (k::q) (.tuple ah)=rX q ah[k]?)∧(∀k q sz xs,j.sub (k::q) (.aH sz xs)=rX q xs[k]?)∧
  (∀q d,j.sub (0::q) (.bm d)=j.sub q d)∧(∀q d,rX q (some d)=j.sub q d)∧
  (∀k q a b,j.sub (k::q) (.int a b)=none):=by
 refine⟨fun d=>by simp[j.sub],?_,?_,?_,fun q d=>by simp[j.sub],fun _ _=>rfl,fun _ _ _ _=>by simp[j.sub]⟩
 ·intro k q ah;simp only[j.sub];cases ah[k]? <;>rfl
 ·intro k q ah;simp only[j.sub];cases ah[k]? <;>rfl
 ·intro k q sz ah;simp only[j.sub];cases ah[k]? <;>rfl
def AM (k:Nat) (q:List Nat) (n:j) (ah:List j):Option j→j
 |some d=>.agg (ah.set k (j.put q n d))
 |none=>.agg ah
def AN (k:Nat) (q:List Nat) (n:j) (ah:List j):Option j→j
 |some d=>.tuple (ah.set k (j.put q n d))
 |none=>.tuple ah
def AO (k:Nat) (q:List Nat) (n:j) (sz:Nat) (xs:List j):Option j→j
 |some d=>.aH sz (xs.set k (j.put q n d))
 |none=>.aH sz xs
theorem AP:(∀n d,j.put [] n d=n)∧(∀k q n ah,j.put (k::q) n (.agg ah)=AM k q n ah ah[k]?)∧(∀k q n ah,j.put (k::q) n (.tuple ah)=AN k q n ah ah[k]?)∧
  (∀k q n sz xs,j.put (k::q) n (.aH sz xs)=AO k q n sz xs xs[k]?)∧(∀q n d,j.put (0::q) n (.bm d)= .bm (j.put q n d))∧
  (∀k q n ah d,AM k q n ah (some d)= .agg (ah.set k (j.put q n d)))∧(∀k q n ah d,AN k q n ah (some d)= .tuple (ah.set k (j.put q n d)))∧
  (∀k q n sz xs d,AO k q n sz xs (some d)= .aH sz (xs.set k (j.put q n d))):=by
 refine⟨fun n d=>by simp[j.put],?_,?_,?_,fun q n d=>by simp[j.put],fun _ _ _ _ _=>rfl,fun _ _ _ _ _=>rfl,fun _ _ _ _ _ _=>rfl⟩
 ·intro k q n ah;simp only[j.put];cases ah[k]? <;>rfl
 ·intro k q n ah;simp only[j.put];cases ah[k]? <;>rfl
 ·intro k q n sz ah;simp only[j.put];cases ah[k]? <;>rfl
theorem wM:(∀k n,j.wd (.int k n)=1)∧(∀b,j.wd (.bool b)=1)∧(∀x,j.wd (.str x)=1)∧(∀x,j.wd (.slice x)=1)∧(∀n x,j.wd (.aH n x)=1)∧(∀x,j.wd (.ref x)=1)∧(∀x,j.wd (.bm x)=1)∧
  j.wd .bt=1∧j.wd .cw=1∧j.wd .hole=1∧j.wd .c2=1∧(∀x y,j.wd (.h x y)=1)∧(∀x y,j.wd (.an x y)=1)∧(∀x y,j.wd (.fn x y)=1)∧(∀ah,j.wd (.agg ah)=j.cF ah)∧(∀ah,j.wd (.tuple ah)=j.cF ah)∧j.cF []=0∧(∀d ds,j.cF (d::ds)=d.wd+j.cF ds):=by
 simp[j.wd,j.cF]
theorem HH {α:Type} {e:α→j} {n:Nat} (h:∀x,(e x).wd=n) (xs:List α):(∀d∈xs.map e,d.wd=n)=True:=by
 simp only[List.mem_map,eq_iff_iff,iff_true]
 rintro d ⟨x,_,rfl⟩;exact h x
theorem HI (C:bo) (s:ag) (A B:TypeId) (k b3:IntKind) (n:Int) (fR:(C.T A).ok=true) (eD:(C.T B).k= .int b3):dH C s A B (.int k n)=some (.int b3 (b3.wrap n)):=by
 simp only[dH,fR,eD,if_true]
theorem AQ (m:Int):ha (mg m)= .int .u8 (IntKind.u8.wrap m):=by
 have h:0≤IntKind.u8.wrap m∧IntKind.u8.wrap m<256:=by rw[IntKind.wrap_u8];omega
 simp only[ha,mg,UInt8.toNat_ofNat']
 congr 1
 omega
theorem wN (m:Int):((mg m).toNat:Int)=IntKind.u8.wrap m:=by
 have h:=AQ m
 simpa [ha]using h
section
variable {C:bo} {l:List (Nat×j)} {Q:Exit→ag→Prop} {s:ag}
theorem mF {ros:List bh} {k:List Nat} (h:bz C (J l) ros none (fun _ s=>Q .normal (J (fL k s)))):bW C (.c6 ros (some k)) Q (J l):=tp (fun _ _ h=>h) h
theorem HJ {a b:af} (h:∀cW:Exit→ag→Prop,(∀s,dN (bW C b Q) s→cW .normal s)→(∀s,Q .ret s→cW .ret s)→(∀i s,Q (.exit i) s→cW (.exit i) s)→bW C a cW s):bW C (.seq a b) Q s:=
 h _ (fun _ h=>h) (fun _ h=>h) (fun _ _ h=>h)
theorem ef {ros:List bh} {k:List Nat} {b:af} (h:bz C (J l) ros none (fun _ s=>bW C b Q (J (fL k s)))):bW C (.seq (.c6 ros (some k)) b) Q (J l):=tp (fun _ _ h=>.inl h) h
theorem iZ {ros:List bh} {cg:List (List Nat)} {k:List Nat} {b:af} (hlen:cg.length=ros.length) (h:bz C (J l) ros (some []) (fun acc s=>hC (lS cg) 0 [] (acc.getD []).reverse=true∧bW C b Q (J (fL k s)))):
  bW C (.seq (.iW ros cg (some k)) b) Q (J l):=wH (K:=fun s=>dN (bW C b Q) (J (fL k s))) hlen (by
   have key:∀(os:List bh) (s:ag) (acc:Option (List dk)),bz C s os acc (fun acc s=>hC (lS cg) 0 [] (acc.getD []).reverse=true∧bW C b Q (J (fL k s)))→
     bz C s os acc (fun acc s=>hC (lS cg) 0 [] (acc.getD []).reverse=true∧dN (bW C b Q) (J (fL k s))):=by
    intro os
    induction os with
    |nil=>intro s acc h;exact⟨h.1,.inl h.2⟩
    |cons o os ih=>
     intro s acc h
     have mono:∀{s:ag} {a6:dI} {K b9:List Nat→j→ag→Prop},(∀a b c,K a b c→b9 a b c)→k3 C s a6 K→k3 C s a6 b9:=by
      intro s a6 K b9 al h
      cases a6 with
      |call f args=>
       obtain⟨g,caps,ps,r,U,ee,aa,aw,aN,a8,bI,bO,di⟩:=h
       exact⟨g,caps,ps,r,U,ee,aa,aw,aN,a8,bI,bO,al _ _ _ di⟩
      |shr a6=>obtain⟨av,s1,U,aa,aw,aN⟩:=h;exact⟨av,s1,U,aa,aw,al _ _ _ aN⟩
      |jm f args u x=>
       obtain⟨bb,bq,g,caps,ps,r,U,ee,aa,aw,aN,a8,bI,bO,di,eY,eZ⟩:=h
       exact⟨bb,bq,g,caps,ps,r,U,ee,aa,aw,aN,a8,bI,bO,di,eY,al _ _ _ eZ⟩
      |jn f args us=>
       obtain⟨bq,g,caps,ps,r,U,ee,aa,aw,aN,a8,bI,bO,di,eY⟩:=h
       exact⟨bq,g,caps,ps,r,U,ee,aa,aw,aN,a8,bI,bO,di,al _ _ _ eY⟩
      |_=>obtain⟨av,s1,U,aa⟩:=h;exact⟨av,s1,U,al _ _ _ aa⟩
     simp only[bz,kj]at h⊢
     split
     ·rename_i aY;rw[aY]at h;exact mono (fun _ _ _=>ih _ _) h
     ·rename_i t dr aY
      rw[aY]at h
      simp only at h
      split
      ·rename_i RM R
       rw[R]at h
       simp only at h
       split
       ·rename_i I;rw[if_pos I]at h;exact mono (fun _ _ _=>ih _ _) h
       ·rename_i I;rw[if_neg I]at h;exact ih _ _ h
      ·rename_i R;rw[R]at h;exact ih _ _ h
      ·rename_i U aa
       split at h
       ·exact U _ (by assumption)
       ·exact aa (by assumption)
       ·exact h
   exact key _ _ _ h)
theorem nD {c:au} {a b:af} (ae:ax s c= .bool true) (h:bW C a Q s):bW C (.cond c a b) Q s:=by simp only[bW,ae,if_true];exact h
theorem oJ {c:au} {a b:af} (ae:ax s c= .bool false) (h:bW C b Q s):bW C (.cond c a b) Q s:=by simp only[bW,ae];exact h
theorem HK {c:au} {a b:af} (ae:ax s c= .c2) (U:bW C a Q s) (aa:bW C b Q s):bW C (.cond c a b) Q s:=by simp only[bW,ae];exact⟨U,aa⟩
theorem HL {id:Nat} {b:af} (h:∀cW:Exit→ag→Prop,(∀s,Q .normal s→cW .normal s)→(∀s,Q .ret s→cW .ret s)→(∀s,Q .normal s→cW (.exit id) s)→(∀i s,i≠id→Q (.exit i) s→cW (.exit i) s)→bW C b cW s):bW C (.block id b) Q s:=
 h (pL id Q) (fun _ h=>h) (fun _ h=>h) (fun s h=>by simp only[pL,if_true];exact h) (fun i s ay h=>by simp only[pL,if_neg ay];exact h)
theorem ir {id:Nat} (h:Q (.exit id) s):bW C (.exit id) Q s:=h
theorem bS (h:Q .ret s):bW C .ret Q s:=h
theorem cu (h:Q .normal s):bW C .skip Q s:=h
def gG (C:bo) (b:af) (Q:Exit→ag→Prop) (s:ag):Prop:=∀Z:ag→Prop,(∀aj,bW C b (andThen (dN Z) Q) aj→Z aj)→Z s
theorem iu {b:af} (h:dN (gG C b Q) s):bW C (.loop b) Q s:=h
theorem HM {b:af} (h:∀cW:Exit→ag→Prop,(∀s,dN (gG C b Q) s→cW .normal s)→(∀s,Q .ret s→cW .ret s)→(∀i s,Q (.exit i) s→cW (.exit i) s)→bW C b cW s):gG C b Q s:=by
 intro Z pN
 refine pN s (zW b ?_ (h (andThen (dN (gG C b Q)) Q) (fun _ h=>h) (fun _ h=>h) (fun _ _ h=>h)))
 intro e aj a2
 cases e with
 |normal=>exact pM (fun s h=>h Z pN) aj a2
 |_=>exact a2
theorem c7 {cM:List (Nat×j)} (h:cM.map (·.2)=cM.map fun p=>s p.1):rP s cM:=by
 intro p an
 left
 induction cM with
 |nil=>cases an
 |cons a cM ih=>
  simp only[List.map_cons,List.cons.injEq]at h
  rcases List.mem_cons.1 an with rfl|an
  ·exact h.1
  ·exact ih h.2 an
end
section
variable {C:bo} {l:List (Nat×j)} {Q:Exit→ag→Prop} {s:ag} {os ros:List bh} {K:Option (List dk)→ag→Prop} {dst:Option Nat}
theorem AR (l:List (Nat×j)):(∀n,ax (J l) (.t n)=ga n (J l n))∧(∀av,ax (J l) (.c av)=av)∧(∀g,ax (J l) (.f g)= .fn g []):=⟨fun _=>rfl,fun _=>rfl,fun _=>rfl⟩
theorem AS:(∀t,J [] t= .hole)∧(∀u d (l:List (Nat×j)) t,J ((u,d)::l) t=if t=u then d else J l t):=⟨fun _=>rfl,fun _ _ _ _=>rfl⟩
theorem AU (s:ag):fL [] s=[]∧(∀t k,fL (t::k) s=(t,s t)::fL k s):=⟨rfl,fun _ _=>rfl⟩
theorem AV (s:ag):(∀d,bR s (some d)=some (d,s))∧(∀s1,gR (some s1)=some (.hole,s1))∧fN s []=[]∧(∀x xs,fN s (x::xs)=ax s x::fN s xs)∧g3 s []=[]∧(∀k x xs,g3 s ((k,x)::xs)=(k,ax s x)::g3 s xs)∧
  h4 s none=none∧(∀x,h4 s (some x)=some (ax s x))∧(∀b x y,nB s (.bool b) x y=some (if b=true then x else y,s)):=
 ⟨fun _=>rfl,fun _=>rfl,rfl,fun _ _=>rfl,rfl,fun _ _ _=>rfl,rfl,fun _=>rfl,fun b _ _=>by cases b<;>rfl⟩
theorem AW (C:bo):(∀e d,wL C (.slice e) (some d)=if(C.T e).ok=true∧d.wd=(C.T e).sz then some (.ref d)else none)∧
  (∀y q n e sz xs,rW C y q n (.slice e) (some (.aH sz xs))=if(cX xs n).isSome=true∧(C.T e).ok=true∧sz=(C.T e).sz then some (.an y (q++[n.toNat]))else none)∧
  (∀e s xs t,qg C (.slice e) s xs (some t)=if(C.T e).ok=true∧∀d∈xs,d.wd=(C.T e).sz then some (.slice t,s)else none):=
 ⟨fun _ _=>rfl,fun _ _ _ _ _ _=>rfl,fun _ _ _ _=>rfl⟩
theorem AX:(∀b,wJ .bool b=some (.bool b))∧(∀c,wK .str (some c)=some (.int .u8 c.toNat))∧(∀s t,qf .str s (some t)=some (.str t,s))∧(∀q d,rX q (some d)=j.sub q d):=
 ⟨fun _=>rfl,fun _=>rfl,fun _ _=>rfl,fun _ _=>rfl⟩
theorem AY (sz bytes:Nat) (z:j):(∀k,dR.ok ⟨.int k,sz,bytes,z⟩=true)∧dR.ok ⟨.bool,sz,bytes,z⟩=true∧dR.ok ⟨.str,sz,bytes,z⟩=true∧(∀e,dR.ok ⟨.ptr e,sz,bytes,z⟩=true)∧(∀e,dR.ok ⟨.slice e,sz,bytes,z⟩=true)∧(∀e,dR.ok ⟨.struct e,sz,bytes,z⟩=true)∧dR.ok ⟨.fn,sz,bytes,z⟩=true:=by
 simp[dR.ok]
theorem AZ (sz bytes:Nat) (z:j):(∀k,dR.flat ⟨.int k,sz,bytes,z⟩=true)∧dR.flat ⟨.bool,sz,bytes,z⟩=true∧dR.flat ⟨.str,sz,bytes,z⟩=true∧(∀e,dR.flat ⟨.ptr e,sz,bytes,z⟩=true)∧(∀e,dR.flat ⟨.slice e,sz,bytes,z⟩=true)∧(∀e,dR.flat ⟨.struct e,sz,bytes,z⟩=false)∧dR.flat ⟨.fn,sz,bytes,z⟩=true:=by
 simp[dR.flat]
theorem rY (c:UInt8) (k:IntKind) (al:k≠.i8):k.wrap (c.toNat:Int)=(c.toNat:Int):=by
 have:=c.toNat_lt
 cases k<;>first|(exact(al rfl).elim)|(simp[IntKind.wrap,IntKind.bits,IntKind.signed];try omega)
theorem wO (c:UInt8):IntKind.i64.wrap (c.toNat:Int)=(c.toNat:Int)∧IntKind.u64.wrap (c.toNat:Int)=(c.toNat:Int)∧IntKind.u8.wrap (c.toNat:Int)=(c.toNat:Int)∧IntKind.i32.wrap (c.toNat:Int)=(c.toNat:Int)∧IntKind.u32.wrap (c.toNat:Int)=(c.toNat:Int):=
 ⟨rY c _ (by simp),rY c _ (by simp),rY c _ (by simp),rY c _ (by simp),rY c _ (by simp)⟩
theorem dm {k:List Nat} {K:ag→Prop} (cM:List (Nat×j)) (h:∀P:List (Nat×j)→Prop,P cM→bz C (J l) ros none (fun _ s=>P (fL k s))) (al:K (J cM)):bz C (J l) ros none (fun _ s=>K (J (fL k s))):=
 h (fun l=>K (J l)) al
theorem i0 {k:List Nat} {js:List (List Nat)} {K:ag→Prop} (cM:List (Nat×j)) (h:∀P:List (Nat×j)→Prop,P cM→bz C (J l) ros (some []) (fun acc s=>hC js 0 [] (acc.getD []).reverse=true∧P (fL k s))) (al:K (J cM)):
  bz C (J l) ros (some []) (fun acc s=>hC js 0 [] (acc.getD []).reverse=true∧K (J (fL k s))):=
 h (fun l=>K (J l)) al
theorem b8.HN (aQ:C.c5) {f:FuncId} {fn:Func} {c:Code} {c3:af} {fx:List Nat} {as outs:List j} {r:j} (bc:C.P.funcs[f]? =some fn) (I:fn.body=some c)
  (h3:(fn.name== "runtime.NumGoroutine")=false) (R:cB ⟨fn.ntmps,fx⟩ c=some c3.strip) (aR:as.length≤fn.ntmps)
  (h:∀Q:Exit→ag→Prop,(∀s,dN (Ends C fx fn.results.toList r outs) s→Q .ret s)→(∀s,dN (Ends C fx fn.results.toList r outs) s→Q .normal s)→bW C c3 Q (J (num 0 as))) (an:c3.plain=true:=by kernel_rfl):b8 C f as r outs:=by
 refine b8.of_wp aQ bc I h3 R aR ?_ an
 rw[z8]
 exact h _ (fun s h=>⟨.inr rfl,h⟩) (fun s h=>⟨.inl rfl,h⟩)
def A0:List j→j
 |[d]=>d
 |ds=>.tuple ds
theorem A1 {fx:List Nat} {dt:List ResultVar} {r:j} {outs:List j} (ds:List j) (U:dt.map (mC C s)=ds.map some) (aa:r=A0 ds) (aw:(dt.map gF).Nodup)
  (aN:∀(i:Nat) (o:j),outs[i]? =some o→o= .hole∨(o=s i∧o.dS=true∧i∈fx∧i∉dt.map gF)):Ends C fx dt r outs s:=.inl ⟨ds,U,by subst aa;cases ds with|nil=>rfl|cons a t=>cases t<;>rfl,aw,aN⟩
theorem HO {fx:List Nat} {dt:List ResultVar}:∀(i:Nat) (o:j),([]:List j)[i]? =some o→o= .hole∨(o=s i∧o.dS=true∧i∈fx∧i∉dt.map gF):=fun i o h=>by simp at h
theorem A2:∀(as ds:List j),(iX as ds).filter (·.g)=[]
 |[],_=>rfl
 |_::_,[]=>rfl
 |a::as,d::ds=>by simp only[iX,List.filter_cons];exact A2 as ds
theorem tv {f:au} {args:List au} {g:FuncId} {caps:List j} {K:List Nat→j→ag→Prop} (ds:List j) (r:j)
  (U:ax (J l) f= .fn g caps) (ee:j.dE caps=true) (gr:views (J l) (fN (J l) args++caps)=some ds)
  (a8:b8 C g ds r []) (bI:r.res=true) (bO:j.cP (fN (J l) args++caps)=[]∨r.cS=true) (iU:K [] r (J l)):k3 C (J l) (.call f args) K:=by
 obtain⟨aG,aL,a1,b2,cb,bp,bk⟩:=GY _ _ gr
 refine⟨g,caps,iX (fN (J l) args++caps) ds,r,U,ee,by rw[aG,tu],fun p an=>(a1 p an).1,b2,by rw[aL];exact a8.outs cb.symm,bI,?_,by rw[bp,bk,A2];exact iU⟩
 intro hl
 refine⟨?_,fun p an=>by rw[(a1 p an).2.2.1];rfl⟩
 rcases bO with bO|bO
 ·exfalso
  simp only[hA,List.any_eq_true]at hl
  obtain⟨p,an,eE⟩:=hl
  have hm:=(a1 p an).2.2.2
  have:p.a.R=[]:=by
   have key:∀(as:List j) (a:j),a∈as→j.cP as=[]→a.R=[]:=by
    intro as
    induction as with
    |nil=>intro a h;cases h
    |cons b as ih=>
     intro a h he
     simp only[j.cP,List.append_eq_nil_iff]at he
     rcases List.mem_cons.1 h with rfl|h
     ·exact he.1
     ·exact ih a h he.2
   exact key _ _ hm bO
  rw[this]at eE;simp at eE
 ·exact bO
theorem gw {f:au} {args:List au} {g:FuncId} {caps:List j} {ds:List j} {r:j} (a8:b8 C g ds r [])
  (U:ax (J l) f= .fn g caps) (ee:j.dE caps=true) (gr:views (J l) (fN (J l) args++caps)=some ds)
  (bI:r.res=true) (bO:j.cP (fN (J l) args++caps)=[]∨r.cS=true)
  (iU:bz C (fin (J l) dst r) os none K):bz C (J l) (⟨dst,.call f args,none⟩::os) none K:=by
 simp only[bz,kj,mE]
 exact tv ds r U ee gr a8 bI bO iU
theorem gx {a:List dk} {f:au} {args:List au} {g:FuncId} {caps:List j} {ds:List j} {r:j} (a8:b8 C g ds r [])
  (U:ax (J l) f= .fn g caps) (ee:j.dE caps=true) (gr:views (J l) (fN (J l) args++caps)=some ds)
  (bI:r.res=true) (bO:j.cP (fN (J l) args++caps)=[]∨r.cS=true)
  (iU:bz C (fin (J l) dst r) os (some (fU (J l) (use (J l) (.call f args)) dst [] r::a)) K):bz C (J l) (⟨dst,.call f args,none⟩::os) (some a) K:=by
 simp only[bz,kj,mE]
 exact tv ds r U ee gr a8 bI bO iU
theorem qh {t:Nat} {b:Bool} {f:au} {args:List au} {g:FuncId} {caps:List j} {ds:List j} {r:j} (a8:b8 C g ds r [])
  (U:ax (J l) f= .fn g caps) (ee:j.dE caps=true) (gr:views (J l) (fN (J l) args++caps)=some ds)
  (bI:r.res=true) (bO:j.cP (fN (J l) args++caps)=[]∨r.cS=true)
  (iU:bz C (fin (J l) dst r) os none K):bD C l dst (.call f args) t b os none K (.bool b):=by
 simp only[bD,if_true]
 exact tv ds r U ee gr a8 bI bO iU
theorem wP {a:List dk} {t:Nat} {b:Bool} {f:au} {args:List au} {g:FuncId} {caps:List j} {ds:List j} {r:j} (a8:b8 C g ds r [])
  (U:ax (J l) f= .fn g caps) (ee:j.dE caps=true) (gr:views (J l) (fN (J l) args++caps)=some ds)
  (bI:r.res=true) (bO:j.cP (fN (J l) args++caps)=[]∨r.cS=true)
  (iU:bz C (fin (J l) dst r) os (some (fU (J l) (t::use (J l) (.call f args)) dst [] r::a)) K):bD C l dst (.call f args) t b os (some a) K (.bool b):=by
 simp only[bD,if_true]
 exact tv ds r U ee gr a8 bI bO iU
theorem hD (s:ag):views s []=some []∧(∀d ds,views s (d::ds)=(match view s d,views s ds with|some a,some b=>some (a::b)|_,_=>none))∧
  (∀k n,view s (.int k n)=some (.int k n))∧(∀b,view s (.bool b)=some (.bool b))∧(∀x,view s (.str x)=some (.str x))∧(∀x,view s (.slice x)=some (.slice x))∧(∀x,view s (.ref x)=some (.ref x))∧
  view s .bt=some .bt∧view s .cw=some .cw∧(∀ah,view s (.agg ah)=some (.agg ah))∧(∀f cap,view s (.fn f cap)=(views s cap).map (.fn f)):=by
 refine⟨rfl,fun d ds=> ?_,fun _ _=>rfl,fun _=>rfl,fun _=>rfl,fun _=>rfl,fun _=>rfl,rfl,rfl,fun _=>rfl,fun _ _=>by simp only[view]⟩
 simp only[views];rfl
theorem fO {α:Type} {u e:α→j} (h:∀x,(u x).share=e x) (xs:List α):j.shares (xs.map u)=xs.map e:=by
 rw[j.nX];simp[h]
theorem rZ {α:Type} {u:α→j} (h:∀x,(u x).cS=true) (xs:List α):j.il (xs.map u)=true:=by
 induction xs with
 |nil=>rfl
 |cons x xs ih=>simp only[List.map_cons,j.il,h,ih,Bool.and_self]
def nE (s:ag) (H:List Nat):List (Nat×j)→Prop
 |[]=>True
 |p::l=>(p.2=s p.1∨((s p.1).tree=true∧dj (s p.1) p.2∧p.1∉H))∧nE s H l
theorem mG {cM:List (Nat×j)} (H:List Nat) (jO:j.cP (cM.map (·.2))=H) (h:nE s H cM):rP s cM:=by
 have key:∀(ed:List (Nat×j)),nE s H ed→∀p∈ed,p.2=s p.1∨((s p.1).tree=true∧dj (s p.1) p.2∧p.1∉H):=by
  intro ed
  induction ed with
  |nil=>intro _ p an;cases an
  |cons a ed ih=>
   intro h p an
   rcases List.mem_cons.1 an with rfl|an
   ·exact h.1
   ·exact ih h.2 p an
 have R:∀(ed:List (Nat×j)),∀bE∈ed,∀u∈bE.2.R,u∈j.cP (ed.map (·.2)):=by
  intro ed
  induction ed with
  |nil=>intro p an;cases an
  |cons a ed ih=>
   intro p an u hu
   simp only[List.map_cons,j.cP,List.mem_append]
   rcases List.mem_cons.1 an with rfl|an
   ·exact .inl hu
   ·exact .inr (ih p an u hu)
 intro p an
 rcases key _ h p an with U|⟨U,aa,aw⟩
 ·exact .inl U
 ·refine .inr ⟨U,aa,fun bE cV=>.inl fun hm=>aw ?_⟩
  rw[←jO];exact R cM bE cV _ hm
theorem mH {H:List Nat}:nE s H []:=trivial
theorem nF {H:List Nat} {t:Nat} {d:j} {cM:List (Nat×j)} (h:d=s t) (hl:nE s H cM):nE s H ((t,d)::cM):=⟨.inl h,hl⟩
theorem mI {H:List Nat} {t:Nat} {d aV:j} {cM:List (Nat×j)} (e:s t=d) (aM:d.tree=true) (ab:dj d aV) (jO:t∉H) (hl:nE s H cM):nE s H ((t,aV)::cM):=⟨.inr ⟨by rw[e];exact aM,by rw[e];exact ab,jO⟩,hl⟩
end
theorem jP {C:bo} {A B:TypeId} {b3:IntKind} (fR:(C.T A).ok=true) (eD:(C.T B).k= .int b3):∀s k n,dH C s A B (.int k n)=some (.int b3 (b3.wrap n)):=fun s k n=>HI C s A B k b3 n fR eD
def A3:Option j→Option j
 |some (.aH 1 xs)=>(bytesOf xs).map .str
 |_=>none
theorem A4 {C:bo} {A B e:TypeId} (fR:(C.T A).k= .slice e) (eD:(C.T B).k= .str) (he:(C.T e).k= .int .u8):
  (∀s xs,dH C s A B (.slice xs)=(bytesOf xs).map .str)∧(∀s,dH C s A B .bt=some (.str []))∧(∀s x q,dH C s A B (.h x q)=A3 (j.sub q (s x))):=by
 have rr:(C.T A).ok=true:=by simp[dR.ok,fR]
 refine⟨fun s xs=> ?_,fun s=> ?_,fun s x q=> ?_⟩
 ·simp only[dH,rr,fR,eD,he,if_true]
 ·simp only[dH,rr,fR,eD,he,if_true]
 ·simp only[dH,rr,fR,eD,he,if_true]
  rfl
theorem A5 (xs:List j):A3 (some (.aH 1 xs))=(bytesOf xs).map .str:=rfl
theorem A6 (c:UInt8) (r:List j):bytesOf (ha c::r)=(bytesOf r).map (c::·):=by
 have:=c.toNat_lt
 simp only[ha,bytesOf]
 rw[if_pos (by omega)]
 simp
theorem A7:bytesOf []=some []∧(∀l:List UInt8,bytesOf (l.map ha)=some l)∧(∀(c:UInt8) r,bytesOf (.int .u8 (c.toNat:Int)::r)=(bytesOf r).map (c::·))∧
  (∀m r,bytesOf (.int .u8 (IntKind.u8.wrap m)::r)=(bytesOf r).map (mg m::·)):=
 ⟨rfl,Eo,fun c r=>A6 c r,fun m r=>by rw[←AQ];exact A6 _ r⟩
theorem HP {k:IntKind} {b:Int} (h:b≠0):∀a,e2 .quo k a k b=some (.int k (k.wrap (a.tdiv b))):=fun _=>HD h
theorem A8 {k:IntKind} {b:Int} (h:b≠0):∀a,e2 .rem k a k b=some (.int k (a.tmod b)):=fun _=>HE h
theorem lT {α:Type} {e:α→j} {n:Nat} (h:∀x,(e x).wd=n):∀xs:List α,(∀d∈xs.map e,d.wd=n)=True:=HH h
theorem all_cons {P:j→Prop} (d:j) (ds:List j):(∀x∈d::ds,P x)=(P d∧∀x∈ds,P x):=by simp
theorem all_nil {P:j→Prop}:(∀x∈([]:List j),P x)=True:=by simp
def A9 (a b:List UInt8):Option Unit→Option j
 |some _=>some (.str (a++b))
 |none=>none
theorem tw (a b:List UInt8):jI .add a b=A9 a b (lo (a.length+b.length)):=by
 simp only[jI,lo];split<;>rfl
theorem tx (a b:List UInt8) (u:Unit):A9 a b (some u)=some (.str (a++b)):=rfl
theorem A_:(∀l:List Nat,[]++l=l)∧(∀a (l m:List Nat),(a::l)++m=a::(l++m)):=⟨fun _=>rfl,fun _ _ _=>rfl⟩
def Ba (C:bo) (e a5:TypeId):Bool:=(C.T e).ok&&((C.T e).zero.wd==(C.T e).sz)&&(flat (C.T e).zero).isSome&&s4 C e a5
def tz (C:bo) (e:TypeId) (xs:List j):Option (List j×ag)→Option (j×ag)
 |some (ys,s2)=>if(∀d∈ys,d.wd=(C.T e).sz)∧(room (C.T e).bytes (xs.length+ys.length)).isSome=true then some (.aH (C.T e).sz (xs++ys),s2)else none
 |none=>none
def wQ (C:bo) (e:TypeId) (y:j) (o:Option Nat):Option (j×ag)→Option (j×ag)
 |some (.aH sz xs,s1)=>if sz=(C.T e).sz then tz C e xs (h0 s1 (hs o y))else none
 |_=>none
theorem HQ (b n:Nat):(room b n).isSome=true↔n*b≤140737488355328∧n≤9223372036854775807:=by unfold room;split<;>simp_all
theorem lU {C:bo} {T a5 e:TypeId} (ib:(C.T T).k= .slice e) (en:Ba C e a5=true):∀s x y,iP C s T a5 x y=wQ C e y x.owner (lK C e s x):=by
 intro s x y
 simp only[Ba,Bool.and_eq_true,beq_iff_eq]at en
 rw[vO,ib]
 simp only
 rw[if_pos ⟨en.1.1.1,en.1.1.2,en.1.2,en.2⟩]
 generalize x.owner=o
 cases lK C e s x with
 |none=>rfl
 |some p=>
  obtain⟨d,s1⟩:=p
  cases d<;>first
   |rfl
   |(simp only[wQ]
     split
     ·rename_i h;subst h
      generalize h0 s1 (hs o y)=z
      cases z with
      |none=>rfl
      |some p=>simp only[tz,HQ]
     ·rfl)
def Bb:Option (j×ag)→Option (List j×ag)
 |some (.aH _ ys,s2)=>some (ys,s2)
 |_=>none
theorem lV (s:ag):h0 s .bt=some ([],s)∧(∀ys,h0 s (.slice ys)=some (ys,s))∧(∀l,h0 s (.str l)=some (l.map ha,s))∧
  (∀a q,h0 s (.h a q)=Bb (bK s (.h a q)))∧(∀n ys,Bb (some (.aH n ys,s))=some (ys,s)):=
 ⟨rfl,fun _=>rfl,fun _=>rfl,fun _ _=>by simp only[h0];rfl,fun _ _=>rfl⟩
theorem lW (C:bo) (e:TypeId):(∀s,lK C e s .bt=some (.aH (C.T e).sz [],s))∧(∀s a q,lK C e s (.h a q)=bK s (.h a q))∧
  (∀y o sz xs s1,wQ C e y o (some (.aH sz xs,s1))=if sz=(C.T e).sz then tz C e xs (h0 s1 (hs o y))else none)∧
  (∀xs ys s2,tz C e xs (some (ys,s2))=if(∀d∈ys,d.wd=(C.T e).sz)∧(room (C.T e).bytes (xs.length+ys.length)).isSome=true then some (.aH (C.T e).sz (xs++ys),s2)else none):=
 ⟨fun _=>rfl,fun _ _ _=>rfl,fun _ _ _ _ _=>rfl,fun _ _ _=>rfl⟩
theorem lX:(∀d,hs none d=d)∧(∀x d,hs (some x) d=bn x d)∧(∀x q,j.owner (.h x q)=some x)∧j.owner .bt=none:=
 ⟨fun _=>rfl,fun _ _=>rfl,fun _ _=>rfl,rfl⟩
def Bc (s:ag) (x:Nat) (q:List Nat):Option j→Option (j×ag)
 |some d=>if d.plain=true then none else some (d,b4 (ff x s) x (j.put q d.bT (s x)))
 |none=>none
theorem Bd (s:ag) (x:Nat) (q:List Nat):bK s (.h x q)=Bc s x q (j.sub q (s x)):=by
 simp only[bK];cases j.sub q (s x)<;>rfl
theorem Be (s:ag):(∀x q d,Bc s x q (some d)=if d.plain=true then none else some (d,b4 (ff x s) x (j.put q d.bT (s x))))∧(∀k n,bK s (.int k n)=some (.int k n,s))∧(∀b,bK s (.bool b)=some (.bool b,s))∧(∀x,bK s (.str x)=some (.str x,s))∧
  (∀x,bK s (.slice x)=some (.slice x,s))∧(∀x,bK s (.ref x)=some (.ref x,s))∧(∀x,bK s (.agg x)=some (.agg x,s))∧bK s .bt=some (.bt,s)∧bK s .cw=some (.cw,s):=
 ⟨fun _ _ _=>rfl,fun _ _=>rfl,fun _=>rfl,fun _=>rfl,fun _=>rfl,fun _=>rfl,fun _=>rfl,rfl,rfl⟩
theorem Bf (l:List (Nat×j)) (t:Nat) (d:j):b4 (J l) t d=J ((t,d)::l):=hB l t d
theorem Bg:(∀n x,j.bT (.aH n x)= .hole)∧(∀x,j.bT (.bm x)= .hole)∧(∀ah,j.bT (.agg ah)= .agg (j.hO ah))∧(∀ah,j.bT (.tuple ah)= .tuple (j.hO ah))∧j.hO []=[]∧(∀d ds,j.hO (d::ds)=d.bT::j.hO ds)∧
  (∀k n,j.bT (.int k n)= .int k n)∧(∀b,j.bT (.bool b)= .bool b)∧(∀x,j.bT (.str x)= .str x)∧(∀x,j.bT (.slice x)= .slice x)∧(∀x,j.bT (.ref x)= .ref x)∧j.bT .bt= .bt∧j.bT .cw= .cw∧j.bT .hole= .hole:=by
 simp[j.bT,j.hO]
def oK:Option j→Option j
 |some d=>(match d with| .tuple _=>none| .cx _=>none|d=>if d.plain=true then none else some d.share)
 |none=>none
def oL:Option j→Option j
 |some d=>(match d with| .tuple _=>none|d=>some (.ref d.share))
 |none=>none
theorem hE (s:ag) (x:Nat) (q:List Nat):view s (.h x q)=oK (j.sub q (s x))∧view s (.an x q)=(if j.dn q (s x)=true then oL (j.sub q (s x))else none):=by
 constructor
 ·simp only[view];rfl
 ·simp only[view];rfl
theorem hF:(∀n xs,oK (some (.aH n xs))=some (.slice (j.shares xs)))∧(∀d,oK (some (.bm d))=some (.ref d.share))∧(∀ah,oK (some (.agg ah))=if j.dE ah=true then none else some (.agg (j.shares ah)))∧
  (∀ah,oL (some (.agg ah))=some (.ref (.agg (j.shares ah))))∧(∀k n,oL (some (.int k n))=some (.ref (.int k n)))∧(∀x,oL (some (.str x))=some (.ref (.str x))):=
 ⟨fun _ _=>by simp[oK,j.plain,j.share],fun _=>by simp[oK,j.plain,j.share],fun ah=>by cases h:j.dE ah<;>simp[oK,j.plain,j.share,h],fun _=>by simp[oL,j.share],fun _ _=>by simp[oL,j.share],fun _=>by simp[oL,j.share]⟩
theorem gS:(∀n xs,j.share (.aH n xs)= .slice (j.shares xs))∧(∀d,j.share (.bm d)= .ref d.share)∧(∀xs,j.share (.slice xs)= .slice (j.shares xs))∧(∀d,j.share (.ref d)= .ref d.share)∧(∀ah,j.share (.agg ah)= .agg (j.shares ah))∧(∀ah,j.share (.tuple ah)= .tuple (j.shares ah))∧
  (∀k n,j.share (.int k n)= .int k n)∧(∀b,j.share (.bool b)= .bool b)∧(∀x,j.share (.str x)= .str x)∧j.share .bt= .bt∧j.share .cw= .cw∧j.shares []=[]∧(∀d ds,j.shares (d::ds)=d.share::j.shares ds):=by
 simp[j.share,j.shares]
theorem k5:(∀k n,j.owner (.int k n)=none)∧(∀b,j.owner (.bool b)=none)∧(∀x,j.owner (.str x)=none)∧(∀x,j.owner (.slice x)=none)∧(∀x,j.owner (.ref x)=none)∧(∀x,j.owner (.agg x)=none)∧j.owner .cw=none∧j.owner .bt=none∧(∀x q,j.owner (.h x q)=some x):=
 ⟨fun _ _=>rfl,fun _=>rfl,fun _=>rfl,fun _=>rfl,fun _=>rfl,fun _=>rfl,rfl,rfl,fun _ _=>rfl⟩
end Go.bZ
