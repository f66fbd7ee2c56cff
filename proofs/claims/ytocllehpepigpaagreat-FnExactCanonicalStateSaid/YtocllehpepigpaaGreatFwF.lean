/- Part of a proof that a law returns true for every input. No condition. -/
import Derived.Test.YtocllehpepigpaaGreatFwE
import Derived.Orders
import Derived.KernelRfl
import Derived.Test.YtocllehpepigpaaGreatFwA
namespace Go.cZ
section
variable {C:cw} {w0 w:World} {F0 X:Nat→Prop} {n:Fr} {ρ:Nat→Value} {s s1:ar} {a:Act} {av:I} {Q:Exit→Act→World→Prop}
def cj.un (o:cj):cj:=⟨o.dst,o.b0.base,o.guard⟩
theorem ye {ops:Array Oper}:∀{os:List Oper} {rs:List cj},p6 n ops os=some rs→os.length=rs.length∧∀(i:Nat) (o:Oper),os[i]? =some o→∃r,rs[i]? =some r∧p5 n ops o=some r:=by
 intro os
 induction os with
 |nil=>intro rs h;simp only[p6,Option.some.injEq]at h;subst h;exact⟨rfl,fun i o h=>by simp at h⟩
 |cons o os ih=>
  intro rs h
  simp only[p6]at h
  split at h
  ·rename_i r aDI h1 ah
   simp only[Option.some.injEq]at h;subst h
   obtain⟨b8,cy⟩:=ih ah
   refine⟨by simp[b8],fun i nE cr=> ?_⟩
   cases i with
   |zero=>simp at cr;subst cr;exact⟨r,rfl,h1⟩
   |succ i=>simpa using cy i nE (by simpa using cr)
  ·cases h
theorem Bn {o:Oper} {y:Nat→Option Bool} (h:o.guard=none):Region.wanted o y=true:=by simp[Region.wanted,h]
theorem TV (h:Rel w0 F0 X n ρ s a w) {ops:Array Oper} {j t:Nat} (b_:(ops[j]?).bind (·.dst)=some t):
  (∀b,s t= .bool b→yielded ops a.tmps j=some b)∧(s t= .tuple []→yielded ops a.tmps j=none):=by
 obtain⟨aj,ag,bC,F,S,aX⟩:=h
 have jd:=aX.dF t
 refine⟨fun b ae=> ?_,fun ae=> ?_⟩
 ·rw[ae]at jd
  have aM:=rF jd
  simp only[yielded,b_,Option.bind_some]
  rw[Array.getD_eq_getD_getElem?]at aM
  cases b9:a.tmps[t]? with
  |none=>rw[b9]at aM;simp[undef]at aM
  |some v=>rw[b9]at aM;simp at aM;subst aM;rfl
 ·rw[ae]at jd
  obtain⟨⟨arr,h1,ah⟩,_⟩:=(aL.cV (d:=.tuple []) rfl).1 jd
  simp only[yielded,b_,Option.bind_some]
  rw[Array.getD_eq_getD_getElem?]at h1
  cases b9:a.tmps[t]? with
  |none=>rfl
  |some v=>rw[b9]at h1;simp at h1;subst h1;rfl
theorem Gh (bu:C.Ok) {ops:Array Oper} {ros:List cj} {l2:List Nat} {K:ar→Prop} (a6:∀az c4 aG,K az→Rel w0 F0 X n ρ az c4 aG→wpOps C.P ops Q l2 c4 aG):
  ∀(l:List Nat),(∀i∈l,(ops[i]? =none→ros[i]? =none)∧∀o,ops[i]? =some o→∃r,ros[i]? =some r∧p5 n ops o=some r.un)→
  ∀(s:ar) (a:Act) (w:World),kk C ros s l K→Rel w0 F0 X n ρ s a w→wpOps C.P ops Q (l++l2) a w:=by
 intro l
 induction l with
 |nil=>intro _ s a w h aX;exact a6 s a w h aX
 |cons i l ih=>
  intro p7 s a w h aX
  replace ih:=ih fun i ao=>p7 i (List.mem_cons_of_mem _ ao)
  rw[List.cons_append]
  simp only[wpOps]
  cases cr:ops[i]? with
  |none=>
   simp only[kk,(p7 i (by simp)).1 cr]at h
   exact ih s a w h aX
  |some o=>
   obtain⟨r,h1,ah⟩:=(p7 i (by simp)).2 o cr
   simp only[kk,h1]at h
   show(if Region.wanted o (yielded ops a.tmps)=true then o.wp C.P a w (wpOps C.P ops Q (l++l2)) Q∨(o.asks C.P a w∧LetsOut Q)else wpOps C.P ops Q (l++l2) (a.put o.dst undef) w)
   simp only[p5]at ah
   split at ah
   ·rename_i Bo
    split at ah
    ·rename_i g b9
     obtain⟨rd,b0,rg⟩:=r
     simp only[cj.un,Option.some.injEq,cj.mk.injEq]at ah
     obtain⟨rfl,cI,rfl⟩:=ah
     simp only[l7]at h
     have run:∀(dM:ar→Prop),(∀az,dM az→kk C ros az l K)→oz C s b0 (fun av s1=>dM (fin s1 o.dst av))→o.wp C.P a w (wpOps C.P ops Q (l++l2)) Q:=
      fun dM jT hw=>TS bu aX cI Bo hw (fun az c4 aG hk eV=>ih az c4 aG (jT az hk) eV)
     cases vv:o.guard with
     |none=>
      rw[vv]at b9
      simp only[x9,Option.some.injEq]at b9;subst b9
      simp only at h
      rw[if_pos (Bn vv)]
      exact .inl (run _ (fun _ h=>h) h)
     |some Gi=>
      obtain⟨j,b⟩:=Gi
      rw[vv]at b9
      simp only[x9]at b9
      split at b9
      ·rename_i t ba
       simp only[Option.some.injEq]at b9;subst b9
       simp only at h
       obtain⟨eT,gV⟩:=TV aX ba
       have KH:∀(dM:kk C ros (fin s o.dst (.tuple [])) l K),wpOps C.P ops Q (l++l2) (a.put o.dst undef) w:=fun dM=>ih _ _ _ dM (Rel.skip aX Bo)
       split at h
       ·rename_i fZ ag
        have bt:=eT fZ ag
        split at h
        ·rename_i ae;subst ae
         rw[if_pos (by simp[Region.wanted,vv,bt])]
         exact .inl (run _ (fun _ h=>h) h)
        ·rename_i ae
         rw[if_neg (by simp[Region.wanted,vv,bt,ae])]
         exact KH h
       ·rename_i ag
        have bt:=gV ag
        rw[if_neg (by simp[Region.wanted,vv,bt])]
        exact KH h
       ·exact h.elim
      ·cases b9
    ·cases ah
   ·cases ah
theorem KI (bu:C.Ok) {ops:Array Oper} {ros:List cj} (rT:p6 n ops ops.toList=some (ros.map cj.un)) {K:ar→Prop} (a6:∀az c4 aG,K az→Rel w0 F0 X n ρ az c4 aG→Q .normal c4 aG):
  ∀(l:List Nat) (s:ar) (a:Act) (w:World),kk C ros s l K→Rel w0 F0 X n ρ s a w→wpOps C.P ops Q l a w:=by
 obtain⟨hl,p7⟩:=ye rT
 intro l s a w h aX
 have:=Gh (Q:=Q) bu (ros:=ros) (ops:=ops) (l2:=[]) (K:=K) (n:=n) (ρ:=ρ) (w0:=w0) (F0:=F0) (X:=X) (fun az c4 aG hk eV=>a6 az c4 aG hk eV) l (fun i _=>⟨fun cr=>by
   rw[List.getElem?_eq_none_iff,←List.length_map (f:=cj.un),←hl]
   have:=Array.getElem?_eq_none_iff.1 cr
   simpa using this,fun o cr=>by
   obtain⟨al,h3,ah⟩:=p7 i o (by simpa using cr)
   obtain⟨r,h1,rfl⟩:∃r,ros[i]? =some r∧r.un=al:=by simpa using h3
   exact⟨r,h1,ah⟩⟩) s a w h aX
 rwa [List.append_nil]at this
theorem Rel.drawn (h:Rel w0 F0 X n ρ s a w) (k:Nat) (hk:w.drawn≤k):Rel w0 F0 X n ρ s a {w with drawn:=k}:=by
 obtain⟨h1,ah,bC,F,S,aC⟩:=h
 exact⟨h1,ah,bC,F,S,aC.grow (fun _ _=>rfl) (Nat.le_refl _) rfl rfl ⟨rfl,fun _=>hk⟩⟩
theorem TW (bu:C.Ok) {id:Nat} {ops:Array Oper} {ros:List cj} (rT:p6 n ops ops.toList=some (ros.map cj.un)) {K:ar→Prop} (a6:∀az c4 aG,K az→Rel w0 F0 X n ρ az c4 aG→Q .normal c4 aG)
  (h:lN C s ros K) (aX:Rel w0 F0 X n ρ s a w):(Code.region id ops false).wp C.P Q a w:=by
 refine wp_region (KI bu rT a6 _ s a w ?_ aX)
 have:=TA C K ros [] s h
 have hl:=(ye rT).1
 simp only[List.nil_append,List.length_nil,Nat.add_zero,List.map_id']at this
 rw[List.length_map]at hl
 rw[←hl]at this
 simpa using this
end
def Gj (pg:List (List Nat)) (l:List Nat):Prop:=
 l.Nodup∧(∀i,i∈l↔i<pg.length)∧∀u i v,l=u++i::v→∀e∈(pg[i]?).getD [],e∈u
def oA (ops:Array Oper):List (List Nat):=ops.toList.map fun o=>(o.after.toList.filter fun e=>Region.binds .any e).map (·.on)
def yf (pg:List (List Nat)):Bool:=pg.zipIdx.all fun p=>p.1.all fun e=>decide (e<p.2)
theorem TX {pg:List (List Nat)} (h:yf pg=true) {i:Nat} {l:List Nat} (ao:pg[i]? =some l):∀e∈l,e<i:=by
 intro e he
 simp only[yf,List.all_eq_true]at h
 have:=h (l,i) (by rw[List.mem_zipIdx_iff_getElem?];exact ao) e he
 simpa using this
theorem TY {ops:Array Oper} (ae:yf (oA ops)=true):∀(fuel t:Nat) (gX:Array Bool),gX.size=ops.size→((List.range ops.size).filter fun i=> !gX.getD i true).length≤fuel→
  (Region.linearise.go .any ops fuel t gX []).Nodup∧(∀i,i∈Region.linearise.go .any ops fuel t gX []↔(i<ops.size∧gX.getD i true=false))∧
   ∀u i v,Region.linearise.go .any ops fuel t gX []=u++i::v→∀e∈((oA ops)[i]?).getD [],gX.getD e false=true∨e∈u:=by
 intro fuel
 induction fuel with
 |zero=>
  intro t gX ag hl
  have xS:((List.range ops.size).filter fun i=> !gX.getD i true)=[]:=List.length_eq_zero_iff.1 (Nat.le_zero.1 hl)
  refine⟨by simp[Region.linearise.go],fun i=> ?_,fun u i v h=>by simp[Region.linearise.go]at h⟩
  simp only[Region.linearise.go,List.reverse_nil,List.not_mem_nil,false_iff,not_and]
  intro ao bC
  have:i∈((List.range ops.size).filter fun i=> !gX.getD i true):=List.mem_filter.2 ⟨List.mem_range.2 ao,by rw[bC];rfl⟩
  rw[xS]at this;cases this
 |succ fuel ih=>
  intro t gX ag hl
  have KJ:∀i,i∈Region.ready .any ops gX↔(i<ops.size∧gX.getD i true=false∧∀e∈((oA ops)[i]?).getD [],gX.getD e false=true):=by
   intro i
   simp only[Region.ready,List.mem_filter,List.mem_range,Bool.and_eq_true,Bool.not_eq_true']
   constructor
   ·rintro⟨h1,ah,aC⟩
    refine⟨h1,ah,?_⟩
    rw[Array.getElem?_eq_getElem h1]at aC
    simp only[Option.map_some,Option.getD_some,Array.all_eq_true_iff_forall_mem]at aC
    simp only[oA,List.getElem?_map,Array.getElem?_toList,Array.getElem?_eq_getElem h1,Option.map_some,Option.getD_some,List.mem_map,List.mem_filter]
    rintro e ⟨x,⟨aw,sY⟩,rfl⟩
    have:=aC x (by simpa using aw)
    simpa [sY]using this
   ·rintro⟨h1,ah,aC⟩
    refine⟨h1,ah,?_⟩
    rw[Array.getElem?_eq_getElem h1]
    simp only[Option.map_some,Option.getD_some,Array.all_eq_true_iff_forall_mem]
    simp only[oA,List.getElem?_map,Array.getElem?_toList,Array.getElem?_eq_getElem h1,Option.map_some,Option.getD_some,List.mem_map,List.mem_filter]at aC
    intro x aw
    cases sY:Region.binds .any x with
    |false=>simp
    |true=>simpa using aC x.on ⟨x,⟨by simpa using aw,sY⟩,rfl⟩
  have hex:(∃i,i<ops.size∧gX.getD i true=false)→Region.ready .any ops gX≠[]:=by
   rintro⟨i,h1,ah⟩
   have:∃i,(i<ops.size∧gX.getD i true=false)∧∀j,j<i→¬(j<ops.size∧gX.getD j true=false):=by
    induction i using Nat.strongRecOn with
    |_ i TZ=>
     by_cases b_:∃j,j<i∧(j<ops.size∧gX.getD j true=false)
     ·obtain⟨j,T0,T1,T2⟩:=b_
      exact TZ j T0 T1 T2
     ·exact⟨i,⟨h1,ah⟩,fun j T3 aq=>b_ ⟨j,T3,aq⟩⟩
   obtain⟨k,⟨b8,cy⟩,e_⟩:=this
   have:k∈Region.ready .any ops gX:=(KJ k).2 ⟨b8,cy,fun e he=>by
    cases cE:(oA ops)[k]? with
    |none=>rw[cE]at he;simp at he
    |some l=>
     rw[cE]at he
     have e7:=TX ae cE e he
     have:=e_ e e7
     rw[not_and]at this
     have:=this (by omega)
     have nI:e<gX.size:=by omega
     simp only[Array.getD_eq_getD_getElem?,Array.getElem?_eq_getElem nI,Option.getD_some]at this⊢
     simpa using this⟩
   intro e;rw[e]at this;cases this
  have KK:Region.linearise.go .any ops (fuel+1) t gX []=(match(Region.ready .any ops gX)[t%(Region.ready .any ops gX).length]? with
   |some i=>Region.linearise.go .any ops fuel (t/(Region.ready .any ops gX).length) (gX.setIfInBounds i true) [i]
   |none=>[]):=rfl
  cases yg:(Region.ready .any ops gX)[t%(Region.ready .any ops gX).length]? with
  |none=>
   have xS:Region.ready .any ops gX=[]:=by
    cases aX:Region.ready .any ops gX with
    |nil=>rfl
    |cons a l=>
     rw[aX]at yg
     have:=List.getElem?_eq_none_iff.1 yg
     have ah:=Nat.mod_lt t (show 0<(a::l).length by simp)
     omega
   rw[KK,yg]
   refine⟨by simp,fun i=> ?_,fun u i v h=>by simp at h⟩
   simp only[List.not_mem_nil,false_iff]
   intro ao
   exact hex ⟨i,ao⟩ xS
  |some i=>
   have ao:=(KJ i).1 (List.mem_of_getElem? yg)
   obtain⟨Gk,KL,T4⟩:=ao
   rw[KK,yg]
   simp only
   rw[linearise_go_acc]
   simp only[List.reverse_singleton,List.singleton_append]
   have rE:∀j d,(gX.setIfInBounds i true).getD j d=if j=i then true else gX.getD j d:=by
    intro j d
    split
    ·rename_i e;subst e
     simp[Array.getD_eq_getD_getElem?,Array.getElem?_setIfInBounds_self_of_lt (show j<gX.size by omega)]
    ·rename_i e
     simp[Array.getD_eq_getD_getElem?,Array.getElem?_setIfInBounds_ne (fun h=>e h.symm)]
   obtain⟨g1,g2,g3⟩:=ih (t/(Region.ready .any ops gX).length) (gX.setIfInBounds i true) (by simpa using ag) (by
    have fy:((List.range ops.size).filter fun j=> !(gX.setIfInBounds i true).getD j true)=((List.range ops.size).filter fun i=> !gX.getD i true).filter fun j=>decide (j≠i):=by
     rw[List.filter_filter]
     apply List.filter_congr
     intro j _
     rw[rE]
     by_cases e:j=i<;>simp[e]
    rw[fy]
    have e7:(((List.range ops.size).filter fun i=> !gX.getD i true).filter fun j=>decide (j≠i)).length<((List.range ops.size).filter fun i=> !gX.getD i true).length:=by
     rw[List.length_filter_lt_length_iff_exists]
     exact⟨i,List.mem_filter.2 ⟨List.mem_range.2 Gk,by rw[KL];rfl⟩,by simp⟩
    omega)
   refine⟨?_,fun j=> ?_,?_⟩
   ·rw[List.nodup_cons]
    refine⟨fun hm=> ?_,g1⟩
    have:=((g2 i).1 hm).2
    rw[rE,if_pos rfl]at this;cases this
   ·rw[List.mem_cons,g2,rE]
    by_cases e:j=i
    ·subst e;simp[Gk,KL]
    ·simp[e]
   ·intro u j v h e he
    cases u with
    |nil=>
     simp only[List.nil_append,List.cons.injEq]at h
     obtain⟨rfl,rfl⟩:=h
     exact .inl (T4 e he)
    |cons Bp u=>
     simp only[List.cons_append,List.cons.injEq]at h
     obtain⟨rfl,h⟩:=h
     rcases g3 u j v h e he with bL|bL
     ·rw[rE]at bL
      split at bL
      ·rename_i gE;subst gE;exact .inr (by simp)
      ·exact .inl bL
     ·exact .inr (by simp[bL])
theorem T5 {ops:Array Oper} (ae:yf (oA ops)=true) (t:Nat):Gj (oA ops) (Region.linearise .any ops t):=by
 have KM:∀i d,i<ops.size→(Array.replicate ops.size false).getD i d=false:=by
  intro i d ao
  simp[Array.getD_eq_getD_getElem?,ao]
 obtain⟨g1,g2,g3⟩:=TY ae ops.size t (Array.replicate ops.size false) (by simp) (by
  have:=List.length_filter_le (fun i=> !(Array.replicate ops.size false).getD i true) (List.range ops.size)
  simpa using this)
 have hlen:(oA ops).length=ops.size:=by simp[oA]
 refine⟨g1,fun i=> ?_,fun u i v h e he=> ?_⟩
 ·rw[hlen]
  rw[show Region.linearise .any ops t=Region.linearise.go .any ops ops.size t (Array.replicate ops.size false) []from rfl,g2]
  exact⟨fun h=>h.1,fun h=>⟨h,KM i true h⟩⟩
 ·rcases g3 u i v h e he with bL|bL
  ·exfalso
   by_cases KN:e<ops.size
   ·rw[KM e false KN]at bL;cases bL
   ·simp[Array.getD_eq_getD_getElem?,KN]at bL
  ·exact bL
def ab:List (Nat×I)→ar
 |[],_=>.hole
 |(u,d)::l,t=>if t=u then d else ab l t
mutual
inductive fh:I→I→Prop
 |refl (d:I):fh d d
 |l8 (sz:Nat):fh .bk (.an sz [])
 |rU:fh .bk (.slice [])
 |any (b:Bool):fh (.bool b) .fb
 |share (d:I):d.tree=true→(∀vs,d≠.tuple vs)→(∀o,d≠.en o)→fh d d.share
 |agg {ds es:List I}:j6 ds es→fh (.agg ds) (.agg es)
 |bd {d e:I}:fh d e→fh (.bd d) (.bd e)
 |an {sz:Nat} {ds es:List I}:j6 ds es→fh (.an sz ds) (.an sz es)
 |tuple {ds es:List I}:j6 ds es→fh (.tuple ds) (.tuple es)
 |ref {d e:I}:fh d e→fh (.ref d) (.ref e)
 |trans {d e f:I}:fh d e→fh e f→fh d f
inductive j6:List I→List I→Prop
 |nil:j6 [] []
 |cons {d e:I} {ds es:List I}:fh d e→j6 ds es→j6 (d::ds) (e::es)
end
mutual
theorem fh.wd:∀{d e:I},fh d e→e.wd=d.wd
 |_,_,.refl _=>rfl
 |_,_,.l8 _=>rfl
 |_,_,.rU=>rfl
 |_,_,.any _=>rfl
 |_,_,.share d _ _ _=>I.AO d
 |_,_,.agg h=>by simp only[I.wd];exact j6.wd h
 |_,_,.bd _=>rfl
 |_,_,.an _=>rfl
 |_,_,.tuple h=>by simp only[I.wd];exact j6.wd h
 |_,_,.ref _=>rfl
 |_,_,.trans h k=>(fh.wd k).trans (fh.wd h)
theorem j6.wd:∀{ds es:List I},j6 ds es→I.eC es=I.eC ds
 |_,_,.nil=>rfl
 |_,_,.cons h ag=>by simp only[I.eC];rw[fh.wd h,j6.wd ag]
end
theorem j6.len {ds es:List I} (h:j6 ds es):es.length=ds.length:=by
 induction ds generalizing es with
 |nil=>cases h;rfl
 |cons d ds ih=>cases h with|cons h ag=>simp[ih ag]
theorem j6.all {sz:Nat} {ds es:List I} (h:j6 ds es) (aj:∀d∈ds,d.wd=sz):∀d∈es,d.wd=sz:=by
 induction ds generalizing es with
 |nil=>cases h;intro d aj;cases aj
 |cons d ds ih=>
  cases h with
  |cons h ag=>
   intro x aw
   rcases List.mem_cons.1 aw with rfl|aw
   ·rw[h.wd];exact aj d (by simp)
   ·exact ih ag (fun d hm=>aj d (by simp[hm])) x aw
section
variable {w0 w:World} {F0 X F:Nat→Prop} {S:Nat→Nat→Prop} {s az:ar} {aA:Nat→Value}
def T6 (w:World) (F:Nat→Prop) (_d e:I) (cs:List Value) (S:Nat→Prop):Prop:=
 ∃iA iB:Nat→Prop,(∀b,iA b→S b)∧(∀b,iB b→S b)∧(∀b,iB b→¬iA b)∧∀b2,(∀b,F b∨iA b→b2 b)→ax w b2 e cs iB
mutual
theorem ax.ph:∀{d e:I},fh d e→∀{F:Nat→Prop} {cs:List Value} {S:Nat→Prop},ax w F d cs S→T6 w F d e cs S
 |_,_,.refl _,F,cs,S,h=>⟨fun _=>False,S,fun _ h=>h.elim,fun _ h=>h,fun _ _ h=>h,fun b2 bI=>ax.mono (fun b ae=>bI b (.inl ae)) _ _ _ _ (fun _ h=>h) h⟩
 | .bk,_,.l8 sz,F,cs,S,h=>⟨fun _=>False,S,fun _ h=>h.elim,fun _ h=>h,fun _ _ h=>h,fun b2 bI=>by simp only[ax]at h⊢;exact .inl ⟨trivial,_,h⟩⟩
 | .bk,_,.rU,F,cs,S,h=>⟨fun _=>False,S,fun _ h=>h.elim,fun _ h=>h,fun _ _ h=>h,fun b2 bI=>by simp only[ax]at h⊢;exact .inl ⟨trivial,none,0,h,Nat.zero_le _,fun _=>rfl⟩⟩
 | .bool _,_,.any b,F,cs,S,h=>⟨fun _=>False,S,fun _ h=>h.elim,fun _ h=>h,fun _ _ h=>h,fun b2 bI=>by simp only[ax]at h⊢;exact⟨b,h⟩⟩
 |_,_,.share d _ _ _,F,cs,S,h=>⟨S,fun _=>False,fun _ h=>h,fun _ h=>h.elim,fun _ h=>h.elim,fun b2 bI=>ax.shared (fun b ae=>bI b (.inl ae)) d cs S (fun b ae=>bI b (.inr ae)) h⟩
 |_,_,.agg jS,F,cs,S,h=>by
  rw[ax]at h
  obtain⟨iA,iB,h1,ah,aC,a8⟩:=bc.ph jS h
  exact⟨iA,iB,h1,ah,aC,fun b2 bI=>by rw[ax];exact a8 b2 bI⟩
 |_,_,.bd aj,F,cs,S,h=>by
  rw[ax]at h
  obtain⟨b,cur,ty,fr,aR,b8,cy,e_,ed,fF,dr,jb⟩:=h
  obtain⟨iA,iB,h1,ah,aC,a8⟩:=ax.ph aj fF
  refine⟨iA,fun c=>c=b∨iB c,fun c aq=>dr c (h1 c aq),?_,?_,fun b2 bI=> ?_⟩
  ·rintro c (rfl|aq)
   ·exact cy
   ·exact dr c (ah c aq)
  ·rintro c (rfl|aq) bC
   ·exact jb (h1 _ bC)
   ·exact aC c aq bC
  ·rw[ax]
   exact⟨b,cur,ty,fr,iB,b8,.inl rfl,e_,ed,a8 b2 bI,fun c aq=>.inr aq,fun aq=>jb (ah _ aq)⟩
 | .an sz ds,.an _ es,.an jS,F,cs,S,h=>by
   rw[ax]at h
   have hl:=jS.len
   rcases h with⟨h1,ah⟩|⟨b,cap,cur,ty,fr,aR,b8,cy,e_,ed,fF,dr,jb,fV,mx,k10,KO⟩
   ·refine⟨fun _=>False,S,fun _ h=>h.elim,fun _ h=>h,fun _ _ h=>h,fun b2 _=> ?_⟩
    rw[ax]
    subst h1
    exact .inl ⟨List.length_eq_zero_iff.1 (by simpa using hl),ah⟩
   ·obtain⟨iA,iB,h1,ah,aC,a8⟩:=bc.ph jS mx
    refine⟨iA,fun c=>c=b∨iB c,fun c aq=>k10 c (h1 c aq),?_,?_,fun b2 bI=> ?_⟩
    ·rintro c (rfl|aq)
     ·exact cy
     ·exact k10 c (ah c aq)
    ·rintro c (rfl|aq) bC
     ·exact KO (h1 _ bC)
     ·exact aC c aq bC
    ·rw[ax]
     refine .inr ⟨b,cap,cur,ty,fr,iB,by rw[hl];exact b8,.inl rfl,e_,ed,by rw[hl];exact fF,dr,jb,jS.all fV,by rw[hl];exact a8 b2 bI,fun c aq=>.inr aq,fun aq=>KO (ah _ aq)⟩
 |_,_,.tuple jS,F,cs,S,h=>by
  rw[ax]at h
  obtain⟨iA,iB,h1,ah,aC,a8⟩:=bc.ph jS h
  exact⟨iA,iB,h1,ah,aC,fun b2 bI=>by rw[ax];exact a8 b2 bI⟩
 |_,_,.ref aj,F,cs,S,h=>by
  rw[ax]at h
  obtain⟨b,o,eR,h1,ah,aC,a8⟩:=h
  obtain⟨iA,iB,b8,cy,e_,ed⟩:=ax.ph aj a8
  refine⟨fun _=>False,S,fun _ h=>h.elim,fun _ h=>h,fun _ _ h=>h,fun b2 bI=> ?_⟩
  rw[ax]
  exact⟨b,o,eR,h1,bI _ (.inl ah),aC,ax.mono (fun _ h=>h) _ _ _ _ (fun b ae=>cy b ae) (ed b2 fun b ae=>bI b (ae.imp id fun h=>(b8 b h).elim))⟩
 |_,_,.trans aj he,F,cs,S,h=>by
  obtain⟨iA,iB,h1,ah,aC,a8⟩:=ax.ph aj h
  obtain⟨Gl,Bq,b8,cy,e_,ed⟩:=ax.ph he (F:=fun b=>F b∨iA b) (a8 _ fun _ h=>h)
  refine⟨fun b=>iA b∨Gl b,Bq,?_,fun b ae=>ah b (cy b ae),?_,fun b2 bI=>ed b2 fun b ae=> ?_⟩
  ·rintro b (h|h)
   ·exact h1 b h
   ·exact ah b (b8 b h)
  ·rintro b ae (h|h)
   ·exact aC b (cy b ae) h
   ·exact e_ b ae h
  ·rcases ae with(ae|ae)|ae
   ·exact bI b (.inl ae)
   ·exact bI b (.inr (.inl ae))
   ·exact bI b (.inr (.inr ae))
theorem bc.ph:∀{ds es:List I},j6 ds es→∀{F:Nat→Prop} {cs:List Value} {S:Nat→Prop},bc w F ds cs S→
  ∃iA iB:Nat→Prop,(∀b,iA b→S b)∧(∀b,iB b→S b)∧(∀b,iB b→¬iA b)∧∀b2,(∀b,F b∨iA b→b2 b)→bc w b2 es cs iB
 |_,_,.nil,F,cs,S,h=>⟨fun _=>False,fun _=>False,fun _ h=>h.elim,fun _ h=>h.elim,fun _ h=>h.elim,fun b2 bI=>by rw[bc]at h⊢;exact h⟩
 |_,_,.cons aj jS,F,cs,S,h=>by
  rw[bc]at h
  obtain⟨cB,cu,cq,dU,rfl,g2,g3,g4,g5,g6⟩:=h
  obtain⟨T7,KP,R,a2,a3,a4⟩:=ax.ph aj g2
  obtain⟨Gl,Bq,kW,iP,lJ,b4⟩:=bc.ph jS g3
  refine⟨fun b=>T7 b∨Gl b,fun b=>KP b∨Bq b,?_,?_,?_,fun b2 bI=> ?_⟩
  ·rintro b (h|h)
   ·exact g4 b (R b h)
   ·exact g5 b (kW b h)
  ·rintro b (h|h)
   ·exact g4 b (a2 b h)
   ·exact g5 b (iP b h)
  ·rintro b (h|h) (bL|bL)
   ·exact a3 b h bL
   ·exact g6 b (a2 b h) (kW b bL)
   ·exact g6 b (R b bL) (iP b h)
   ·exact lJ b h bL
  ·rw[bc]
   refine⟨cB,cu,KP,Bq,rfl,a4 b2 (fun b ae=>bI b (ae.imp id .inl)),b4 b2 (fun b ae=>bI b (ae.imp id .inr)),fun b ae=>.inl ae,fun b ae=>.inr ae,fun b h1 ah=>g6 b (a2 b h1) (iP b ah)⟩
end
theorem fh.Br:∀{d e:I},fh d e→(∀vs,d≠.tuple vs)→∀vs,e≠.tuple vs
 |_,_,.refl _,h=>h
 |_,_,.l8 _,_=>fun _ h=>by cases h
 |_,_,.rU,_=>fun _ h=>by cases h
 |_,_,.any _,_=>fun _ h=>by cases h
 |_,_,.share d _ _ _,h=>fun vs he=>by cases d<;>first|(cases he;done)|exact h _ rfl
 |_,_,.agg _,_=>fun _ h=>by cases h
 |_,_,.bd _,_=>fun _ h=>by cases h
 |_,_,.an _,_=>fun _ h=>by cases h
 |_,_,.tuple _,h=>fun _ _=>h _ rfl
 |_,_,.ref _,_=>fun _ h=>by cases h
 |_,_,.trans h k,a6=>fh.Br k (fh.Br h a6)
theorem fh.iO:∀{d e:I} {v:Value},fh d e→(∀vs,d≠.tuple vs)→cZ.iO d v→cZ.iO e v
 |_,_,_,.refl _,_,h=>h
 |_,_,_,.l8 _,_,h=>h
 |_,_,_,.rU,_,h=>h
 |_,_,_,.any _,_,h=>h
 |_,_,_,.share d _ a6 _,_,h=>by cases d<;>first|exact h|exact(a6 _ rfl).elim
 |_,_,_,.agg _,_,h=>h
 |_,_,_,.bd _,_,h=>h
 |_,_,_,.an _,_,h=>h
 |_,_,_,.tuple _,a6,_=>(a6 _ rfl).elim
 |_,_,_,.ref _,_,h=>h
 |_,_,_,.trans h k,a6,ag=>fh.iO k (fh.Br h a6) (fh.iO h a6 ag)
theorem j6.get:∀{ds es:List I},j6 ds es→∀(k:Nat) (e:I),es[k]? =some e→∃d,ds[k]? =some d∧fh d e
 |_,_,.nil,k,e,h=>by simp at h
 |_,_,.cons aj ag,0,e,h=>by simp at h;subst h;exact⟨_,rfl,aj⟩
 |_,_,.cons aj ag,k+1,e,h=>j6.get ag k e (by simpa using h)
theorem fh.ei:∀{d e:I} {v:Value},fh d e→cZ.ei d v→cZ.ei e v
 |_,_,_,.refl _,ag=>ag
 |_,_,_,.l8 _,ag=>ag
 |_,_,_,.rU,ag=>ag
 |_,_,_,.any _,ag=>ag
 |_,_,_,.share _ _ nb _,ag=>F6 nb ag
 |_,_,_,.agg _,ag=>ag
 |_,_,_,.bd _,ag=>ag
 |_,_,_,.an _,ag=>ag
 |_,_,_,.ref _,ag=>ag
 |_,_,_,.tuple aj,ag=>by
  obtain⟨arr,h1,ah,aC⟩:=ag
  refine⟨arr,h1,ah.trans aj.len.symm,fun k e x he aw=> ?_⟩
  obtain⟨d,hk,hw⟩:=aj.get k e he
  obtain⟨R,a2,a3⟩:=aC k d x hk aw
  exact⟨hw.iO a2 R,hw.Br a2,a3.trans hw.wd.symm⟩
 |_,_,_,.trans h k,ag=>fh.ei k (fh.ei h ag)
theorem fh.tree:∀{d e:I},fh d e→d.tree=true→e.tree=true
 |_,_,.refl _,aj=>aj
 |_,_,.l8 _,_=>rfl
 |_,_,.rU,_=>rfl
 |_,_,.any _,_=>rfl
 |_,_,.share d _ _ l1,aj=>by cases d<;>first|exact aj|rfl|exact(l1 _ rfl).elim
 |_,_,.agg _,_=>rfl
 |_,_,.bd _,_=>rfl
 |_,_,.an _,_=>rfl
 |_,_,.tuple _,_=>rfl
 |_,_,.ref _,_=>rfl
 |_,_,.trans h k,aj=>fh.tree k (fh.tree h aj)
mutual
def I.tc:I→List Nat
 | .h x q=>if q.isEmpty then []else [x]
 | .au x _=>[x]
 | .ae x _=>[x]
 | .fn _ cap=>I.yh cap
 |_=>[]
def I.yh:List I→List Nat
 |[]=>[]
 |d::ds=>d.tc++I.yh ds
end
def yi (s az:ar) (x:Nat) (D:List Nat):Prop:=az x=s x∨az x= .hole∨((s x).own=true∧(az x).own=true∧x∉D)
theorem yi.less {s az:ar} {x:Nat} {D E:List Nat} (h:yi s az x D) (T8:∀u∈E,u∈D):yi s az x E:=by
 rcases h with h|h|⟨h1,ah,aC⟩
 ·exact .inl h
 ·exact .inr (.inl h)
 ·exact .inr (.inr ⟨h1,ah,fun aw=>aC (T8 x aw)⟩)
theorem aL.keep {b2:Nat→Prop} (bI:∀b,F b→b2 b):∀n,(∀(d:I) (v:Value) (dZ:Nat→Prop),SizeOf.sizeOf d≤n→(∀x∈d.ag,yi s az x d.tc)→aL w F s aA d v dZ→aL w b2 az aA d v dZ)∧
  (∀(ds:List I) (vs:List Value),SizeOf.sizeOf ds≤n→(∀x∈I.er ds,yi s az x (I.yh ds))→eA w F s aA ds vs→eA w b2 az aA ds vs):=by
 intro n
 induction n with
 |zero=>
  refine⟨fun d v dZ cf=> ?_,fun ds vs cf=> ?_⟩
  ·cases d<;>simp at cf<;>omega
  ·cases ds<;>simp at cf<;>omega
 |succ n ih=>
  refine⟨fun d v dZ cf hk h=> ?_,fun ds vs cf hk h=> ?_⟩
  ·cases d with
   |hole=>rw[aL];trivial
   |h x q=>
    rw[aL]at h⊢
    intro e fy au
    rcases hk x (by simp[I.ag])with he|he|⟨yj,KQ,vw⟩
    ·rw[he]at fy⊢;exact h e fy au
    ·rw[he]at fy
     cases q with
     |nil=>simp only[I.sub,Option.some.injEq]at fy;subst fy;simp[I.plain]at au
     |cons k q=>simp[I.sub]at fy
    ·cases q with
     |nil=>
      simp only[I.sub,Option.some.injEq]at fy
      subst fy
      obtain⟨c3,a0,fQ,hC,ie⟩:=h (s x) (by simp only[I.sub]) (qR yj).1
      simp only[dB,Option.some.injEq,Prod.mk.injEq,true_and]at fQ
      exact⟨cC (aA x),none,by simp only[dB],by rw[hC,←fQ.1],((qR KQ).2.2.2.2.2 _).2 (((qR yj).2.2.2.2.2 _).1 ie)⟩
     |cons k q=>exact(vw (by simp[I.tc])).elim
   |au x q=>
    rw[aL]at h⊢
    intro e fy aq
    rcases hk x (by simp[I.ag])with he|he|⟨_,_,vw⟩
    ·rw[he]at fy aq⊢;exact h e fy aq
    ·rw[he]at aq
     cases q<;>simp[I.fU]at aq
    ·exact(vw (by simp[I.tc])).elim
   |ae x k=>
    rw[aL]at h⊢
    intro au
    rcases hk x (by simp[I.ag])with he|he|⟨_,_,vw⟩
    rotate_left 2
    ·exact(vw (by simp[I.tc])).elim
    ·rw[he]at au
     obtain⟨b,cur,e,fr,h1,ah,aC,a8⟩:=h au
     exact⟨b,cur,e,fr,h1,bI b ah,aC,a8⟩
    ·rw[he]at au;simp[I.plain]at au
   |fn f cap=>
    rw[aL]at h⊢
    obtain⟨arr,rfl,aq⟩:=h
    exact⟨arr,rfl,ih.2 _ _ (by simp at cf;omega) (by simpa [I.ag,I.tc]using hk) aq⟩
   |_=>
    have bL:=(aL.cV rfl).1 h
    exact(aL.cV rfl).2 ⟨bL.1,ax.mono bI _ _ _ _ (fun _ h=>h) bL.2⟩
  ·cases ds with
   |nil=>rw[eA]at h⊢;exact h
   |cons d ds=>
    rw[eA]at h⊢
    obtain⟨v,j1,rfl,h1,ah⟩:=h
    simp at cf
    simp only[I.er,List.mem_append]at hk
    exact⟨v,j1,rfl,ih.1 _ _ _ (by omega) (fun x aw=>(hk x (.inl aw)).less fun u hu=>by simp[I.yh,hu]) h1,ih.2 _ _ (by omega) (fun x aw=>(hk x (.inr aw)).less fun u hu=>by simp[I.yh,hu]) ah⟩
def td (s:ar) (l:List (Nat×I)):Prop:=
 ∀p∈l,p.2=s p.1∨((s p.1).tree=true∧fh (s p.1) p.2∧∀cX∈l,p.1∉cX.2.ag∨((s p.1).own=true∧p.2.own=true∧p.1∉cX.2.tc))
theorem KR:∀(l:List (Nat×I)) (t:Nat),ab l t= .hole∨∃p∈l,p.1=t∧ab l t=p.2:=by
 intro l
 induction l with
 |nil=>intro t;exact .inl rfl
 |cons p l ih=>
  intro t
  obtain⟨u,d⟩:=p
  simp only[ab]
  split
  ·rename_i e;exact .inr ⟨(u,d),by simp,e.symm,rfl⟩
  ·rcases ih t with h|⟨p,au,h⟩
   ·exact .inl h
   ·exact .inr ⟨p,by simp[au],h⟩
theorem bQ.KS (h:bQ w0 F0 X F S s aA w) {l:List (Nat×I)} (hw:td s l):∃b2 aR,bQ w0 F0 X b2 aR (ab l) aA w:=by
 have each:∀t,∃iA iB:Nat→Prop,(∀b,iA b→S t b)∧(∀b,iB b→S t b)∧(∀b,iB b→¬iA b)∧∀b2,(∀b,F b∨iA b→b2 b)→aL w b2 (ab l) aA (ab l t) (aA t) iB:=by
  intro t
  rcases KR l t with e|⟨p,au,rfl,e⟩
  ·exact⟨fun _=>False,fun _=>False,fun _ h=>h.elim,fun _ h=>h.elim,fun _ h=>h.elim,fun b2 _=>by rw[e,aL];trivial⟩
  ·rw[e]
   rcases hw p au with hk|⟨ba,kQ,_⟩
   ·refine⟨fun _=>False,S p.1,fun _ h=>h.elim,fun _ h=>h,fun _ _ h=>h,fun b2 bI=> ?_⟩
    rw[hk]
    refine(aL.keep (fun b ae=>bI b (.inl ae)) (SizeOf.sizeOf (s p.1))).1 _ _ _ (Nat.le_refl _) ?_ (h.dF p.1)
    intro x aw
    rcases KR l x with gE|⟨cX,eW,rfl,gE⟩
    ·exact .inr (.inl gE)
    ·rcases hw cX eW with lj|⟨_,_,l1⟩
     ·exact .inl (gE.trans lj)
     ·rcases l1 p au with l1|⟨nF,lo,pc⟩
      ·exact(l1 (by rw[hk];exact aw)).elim
      ·exact .inr (.inr ⟨nF,by rw[gE];exact lo,by rw[hk]at pc;exact pc⟩)
   ·obtain⟨g1,g2⟩:=(aL.cV ba).1 (h.dF p.1)
    obtain⟨iA,iB,b8,cy,e_,ed⟩:=ax.ph kQ g2
    exact⟨iA,iB,b8,cy,e_,fun b2 bI=>(aL.cV (kQ.tree ba)).2 ⟨kQ.ei g1,ed b2 bI⟩⟩
 have cB:=fun t=>(each t).choose_spec
 let iA:=fun t=>(each t).choose
 have cu:=fun t=>(cB t).choose_spec
 let iB:=fun t=>(cB t).choose
 have hd:∀t b,iA t b→S t b:=fun t=>(cu t).1
 have gF:∀t b,iB t b→S t b:=fun t=>(cu t).2.1
 have h7:∀t b,iB t b→¬iA t b:=fun t=>(cu t).2.2.1
 have iy:=fun t=>(cu t).2.2.2
 refine⟨fun b=>F b∨∃t,iA t b,iB,fun b ae=>.inl (h.ho b ae),?_,?_,fun t b ae=>h.eD t b (gF t b ae),?_,fun t u b df ae hu=>h.fs t u b df (gF t b ae) (gF u b hu),fun t b ae=>h.dZ t b (gF t b ae),?_,h.old,h.size,h.os,h.tape,h.output,h.hD⟩
 ·rintro b (ae|⟨t,ae⟩)
  ·exact h.hO b ae
  ·exact .inr (h.dZ t b (hd t b ae))
 ·rintro b (ae|⟨t,ae⟩)
  ·exact h.fm b ae
  ·exact h.eD t b (hd t b ae)
 ·rintro t b ae (bC|⟨u,hu⟩)
  ·exact h.fz t b (gF t b ae) bC
  ·by_cases e:t=u
   ·subst e;exact h7 t b ae hu
   ·exact h.fs t u b e (gF t b ae) (hd u b hu)
 ·intro t
  exact iy t _ (fun b ae=>ae.imp id fun h=>⟨t,h⟩)
end
inductive J where
 |skip
 |ca (ros:List cj) (keep:Option (List Nat))
 |l9 (ros:List cj) (pg:List (List Nat)) (keep:Option (List Nat))
 |seq (a b:J)
 |cond (c:aK) (a b:J)
 |block (id:Nat) (b:J)
 |loop (b:J)
 |exit (id:Nat)
 |ret
 |ju (T:(Exit→ar→Prop)→ar→Prop) (b:J)
def bn (n:Fr):Code→Option J
 | .skip=>some .skip
 | .region _ ops false=>(p6 n ops ops.toList).map fun r=>.ca r none
 | .region _ ops true=>if yf (oA ops)=true then(p6 n ops ops.toList).map fun r=>.l9 r (oA ops) none else none
 | .seq a b=>match bn n a,bn n b with
   |some a,some b=>some (.seq a b)
   |_,_=>none
 | .cond c a b=>match dO c,bn n a,bn n b with
   |some c,some a,some b=>some (.cond c a b)
   |_,_,_=>none
 | .block id b=>(bn n b).map (.block id)
 | .loop b=>(bn n b).map .loop
 | .exit id=>some (.exit id)
 | .ret=>some .ret
 |_=>none
def J.kZ:J→J
 | .ca ros _=>.ca ros none
 | .l9 ros g_ _=>.l9 ros g_ none
 | .seq a b=>.seq a.kZ b.kZ
 | .cond c a b=>.cond c a.kZ b.kZ
 | .block id b=>.block id b.kZ
 | .loop b=>.loop b.kZ
 | .ju T b=>.ju T b.kZ
 |c=>c
def J.strip:J→J
 | .ca ros _=>.ca (ros.map cj.un) none
 | .l9 ros g_ _=>.l9 (ros.map cj.un) g_ none
 | .seq a b=>.seq a.strip b.strip
 | .cond c a b=>.cond c a.strip b.strip
 | .block id b=>.block id b.strip
 | .loop b=>.loop b.strip
 | .ju _ b=>b.strip
 |c=>c
theorem J.Gm:∀c:J,c.kZ.strip=c.strip:=by
 intro c
 induction c with
 |seq a b kl km=>simp only[J.kZ,J.strip,kl,km]
 |cond c a b kl km=>simp only[J.kZ,J.strip,kl,km]
 |block id b ih=>simp only[J.kZ,J.strip,ih]
 |loop b ih=>simp only[J.kZ,J.strip,ih]
 |ju T b ih=>simp only[J.kZ,J.strip,ih]
 |_=>rfl
def J.bare (H:((Exit→ar→Prop)→ar→Prop)→J→Prop):J→Prop
 | .ca _ k=>k=none
 | .l9 _ _ k=>k=none
 | .seq a b=>a.bare H∧b.bare H
 | .cond _ a b=>a.bare H∧b.bare H
 | .block _ b=>b.bare H
 | .loop b=>b.bare H
 | .ju T b=>H T b
 |_=>True
def J.ng (H:((Exit→ar→Prop)→ar→Prop)→J→Prop):J→Prop
 | .seq a b=>a.ng H∧b.ng H
 | .cond _ a b=>a.ng H∧b.ng H
 | .block _ b=>b.ng H
 | .loop b=>b.ng H
 | .ju T b=>H T b.kZ
 |_=>True
theorem J.Bs {H:((Exit→ar→Prop)→ar→Prop)→J→Prop}:∀c:J,c.ng H→c.kZ.bare H:=by
 intro c
 induction c with
 |seq a b kl km=>intro h;exact⟨kl h.1,km h.2⟩
 |cond c a b kl km=>intro h;exact⟨kl h.1,km h.2⟩
 |block id b ih=>intro h;exact ih h
 |loop b ih=>intro h;exact ih h
 |ca=>intro _;rfl
 |l9=>intro _;rfl
 |ju T b _=>intro h;exact h
 |_=>intro _;trivial
def J.plain:J→Bool
 | .seq a b=>a.plain&&b.plain
 | .cond _ a b=>a.plain&&b.plain
 | .block _ b=>b.plain
 | .loop b=>b.plain
 | .ju _ _=>false
 |_=>true
theorem J.KT {H:((Exit→ar→Prop)→ar→Prop)→J→Prop}:∀c:J,c.plain=true→c.ng H:=by
 intro c
 induction c with
 |seq a b kl km=>intro h;simp only[J.plain,Bool.and_eq_true]at h;exact⟨kl h.1,km h.2⟩
 |cond c a b kl km=>intro h;simp only[J.plain,Bool.and_eq_true]at h;exact⟨kl h.1,km h.2⟩
 |block id b ih=>intro h;exact ih h
 |loop b ih=>intro h;exact ih h
 |ju T b _=>intro h;cases h
 |_=>intro _;trivial
def andThen (K:ar→Prop) (Q:Exit→ar→Prop):Exit→ar→Prop
 | .normal,s=>K s
 |e,s=>Q e s
def vx (id:Nat) (Q:Exit→ar→Prop):Exit→ar→Prop
 | .exit i,s=>if i=id then Q .normal s else Q (.exit i) s
 |e,s=>Q e s
def ev (K:ar→Prop) (s:ar):Prop:=K s∨∃l,td s l∧K (ab l)
def yk:Option (List Nat)→(ar→Prop)→ar→Prop
 |none,K,s=>ev K s
 |some k,K,s=>K (ab (k.map fun t=>(t,s t)))
def dc (C:cw):J→(Exit→ar→Prop)→ar→Prop
 | .skip,Q,s=>Q .normal s
 | .ca ros keep,Q,s=>lN C s ros (yk keep (Q .normal))
 | .l9 ros pg keep,Q,s=>∀l,Gj pg l→kk C ros s l (yk keep (Q .normal))
 | .seq a b,Q,s=>dc C a (andThen (ev (dc C b Q)) Q) s
 | .cond c a b,Q,s=>match aN s c with
   | .bool fZ=>if fZ=true then dc C a Q s else dc C b Q s
   | .fb=>dc C a Q s∧dc C b Q s
   |_=>False
 | .block id b,Q,s=>dc C b (vx id Q) s
 | .loop b,Q,s=>ev (fun s=>∀Z:ar→Prop,(∀az,dc C b (andThen (ev Z) Q) az→Z az)→Z s) s
 | .exit id,Q,s=>Q (.exit id) s
 | .ret,Q,s=>Q .ret s
 | .ju T _,Q,s=>∀eM:Exit→ar→Prop,(∀e s,Q e s→eM e s)→T eM s
section
variable {C:cw}
theorem Gn {s:ar} {o:cj} {K dM:ar→Prop} (h:l7 C s o K) (hk:∀s,K s→dM s):l7 C s o dM:=by
 unfold l7 at h⊢
 split
 ·rename_i b9;rw[b9]at h;exact Bm h fun av s1=>hk _
 ·rename_i t b b9
  rw[b9]at h
  simp only at h
  split
  ·rename_i fZ ag
   rw[ag]at h
   simp only at h
   split
   ·rename_i ae;rw[if_pos ae]at h;exact Bm h fun av s1=>hk _
   ·rename_i ae;rw[if_neg ae]at h;exact hk _ h
  ·rename_i ag;rw[ag]at h;exact hk _ h
  ·rename_i h1 ah
   split at h
   ·exact h1 _ (by assumption)
   ·exact ah (by assumption)
   ·exact h
theorem KU {K dM:ar→Prop} (hk:∀s,K s→dM s):∀{ros:List cj} {s:ar},lN C s ros K→lN C s ros dM:=by
 intro ros
 induction ros with
 |nil=>intro s h;exact hk s h
 |cons o ros ih=>intro s h;exact Gn h fun s h=>ih h
theorem KV {ros:List cj} {K dM:ar→Prop} (hk:∀s,K s→dM s):∀{l:List Nat} {s:ar},kk C ros s l K→kk C ros s l dM:=by
 intro l
 induction l with
 |nil=>intro s h;exact hk s h
 |cons i l ih=>
  intro s h
  simp only[kk]at h⊢
  split
  ·rename_i cr;rw[cr]at h;exact ih h
  ·rename_i o cr;rw[cr]at h;exact Gn h fun s h=>ih h
theorem vy {K dM:ar→Prop} (hk:∀s,K s→dM s) (s:ar) (h:ev K s):ev dM s:=
 h.imp (hk s) fun⟨l,h1,ah⟩=>⟨l,h1,hk _ ah⟩
theorem KW {keep:Option (List Nat)} {K dM:ar→Prop} (hk:∀s,K s→dM s) (s:ar) (h:yk keep K s):yk keep dM s:=by
 cases keep with
 |none=>exact vy hk s h
 |some k=>exact hk _ h
theorem KX {keep:Option (List Nat)} {K:ar→Prop} {s:ar} (h:yk keep K s):ev K s:=by
 cases keep with
 |none=>exact h
 |some k=>
  refine .inr ⟨_,?_,h⟩
  intro p au
  obtain⟨t,_,rfl⟩:=List.mem_map.1 au
  exact .inl rfl
theorem Gp {K dM:ar→Prop} {Q eM:Exit→ar→Prop} (hk:∀s,K s→dM s) (c6:∀e s,Q e s→eM e s):∀e s,andThen K Q e s→andThen dM eM e s:=by
 intro e s h
 cases e with
 |normal=>exact hk s h
 |_=>exact c6 _ s h
theorem Gq:∀(c:J) {Q eM:Exit→ar→Prop} {s:ar},(∀e s,Q e s→eM e s)→dc C c Q s→dc C c eM s:=by
 intro c
 induction c with
 |skip=>intro Q eM s c6 h;exact c6 _ _ h
 |ca ros keep=>intro Q eM s c6 h;exact KU (KW (c6 _)) h
 |l9 ros pg keep=>intro Q eM s c6 h l hl;exact KV (KW (c6 _)) (h l hl)
 |seq a b kl km=>
  intro Q eM s c6 h
  exact kl (Gp (fun s h=>vy (fun _ h=>km c6 h) s h) c6) h
 |cond c a b kl km=>
  intro Q eM s c6 h
  simp only[dc]at h⊢
  split
  ·rename_i fZ ae
   rw[ae]at h
   simp only at h
   split
   ·rename_i e;rw[if_pos e]at h;exact kl c6 h
   ·rename_i e;rw[if_neg e]at h;exact km c6 h
  ·rename_i ae;rw[ae]at h;exact⟨kl c6 h.1,km c6 h.2⟩
  ·rename_i h1 ah
   split at h
   ·exact h1 _ (by assumption)
   ·exact ah (by assumption)
   ·exact h
 |block id b ih=>
  intro Q eM s c6 h
  refine ih ?_ h
  intro e s h
  cases e with
  |exit i=>
   simp only[vx]at h⊢
   split
   ·rename_i e;rw[if_pos e]at h;exact c6 _ _ h
   ·rename_i e;rw[if_neg e]at h;exact c6 _ _ h
  |_=>exact c6 _ _ h
 |loop b ih=>
  intro Q eM s c6 h
  refine vy (fun s h Z vz=> ?_) s h
  exact h Z fun az fB=>vz az (ih (Gp (fun _ h=>h) c6) fB)
 |exit id=>intro Q eM s c6 h;exact c6 _ _ h
 |ret=>intro Q eM s c6 h;exact c6 _ _ h
 |ju T b _=>intro Q eM s c6 h d_ ah;exact h d_ fun e s he=>ah e s (c6 e s he)
theorem Bt:∀(c:J) {Q:Exit→ar→Prop} {s:ar},dc C c Q s→dc C c.kZ Q s:=by
 intro c
 induction c with
 |ca ros keep=>intro Q s h;exact KU (fun s h=>KX h) h
 |l9 ros g_ keep=>intro Q s h l hl;exact KV (fun s h=>KX h) (h l hl)
 |seq a b kl km=>intro Q s h;exact kl (Gq a (Gp (fun s h=>vy (fun _ h=>km h) s h) (fun _ _ h=>h)) h)
 |cond c a b kl km=>
  intro Q s h
  simp only[J.kZ,dc]at h⊢
  split
  ·rename_i fZ ae
   rw[ae]at h
   simp only at h
   split
   ·rename_i e;rw[if_pos e]at h;exact kl h
   ·rename_i e;rw[if_neg e]at h;exact km h
  ·rename_i ae;rw[ae]at h;exact⟨kl h.1,km h.2⟩
  ·rename_i h1 ah
   split at h
   ·exact h1 _ (by assumption)
   ·exact ah (by assumption)
   ·exact h
 |block id b ih=>intro Q s h;exact ih h
 |loop b ih=>
  intro Q s h
  refine vy (fun s h Z vz=> ?_) s h
  exact h Z fun az fB=>vz az (ih fB)
 |ju T b _=>intro Q s h;exact h
 |_=>intro Q s h;exact h
variable {w0 w:World} {F0 X:Nat→Prop} {n:Fr} {ρ:Nat→Value} {s:ar} {a:Act}
def te (w0:World) (F0 X:Nat→Prop) (n:Fr) (ρ:Nat→Value) (Q:Exit→ar→Prop):Exit→Act→World→Prop:=fun e a w=>∃s,Q e s∧Rel w0 F0 X n ρ s a w
theorem Rel.ev {K:ar→Prop} {s:ar} {a:Act} {w:World} (aX:Rel w0 F0 X n ρ s a w) (h:ev K s):∃az,K az∧Rel w0 F0 X n ρ az a w:=by
 rcases h with h|⟨l,h1,ah⟩
 ·exact⟨s,h,aX⟩
 ·obtain⟨g1,g2,g3,F,S,g4⟩:=aX
  obtain⟨b2,aR,g5⟩:=g4.KS h1
  exact⟨ab l,ah,g1,g2,g3,b2,aR,g5⟩
theorem J.T9 {c:J} (h:c.strip= .skip):c= .skip∨∃T b,c= .ju T b:=by cases c<;>first|exact .inl rfl|exact .inr ⟨_,_,rfl⟩|cases h
theorem J.T_ {c:J} (h:c.strip= .ret):c= .ret∨∃T b,c= .ju T b:=by cases c<;>first|exact .inl rfl|exact .inr ⟨_,_,rfl⟩|cases h
theorem J.Ua {c:J} {i:Nat} (h:c.strip= .exit i):c= .exit i∨∃T b,c= .ju T b:=by cases c<;>first|exact .inl h|exact .inr ⟨_,_,rfl⟩|cases h
theorem J.Ub {c:J} {r:List cj} {k:Option (List Nat)} (h:c.strip= .ca r k):(∃ros cW,c= .ca ros cW∧ros.map cj.un=r)∨∃T b,c= .ju T b:=by
 cases c<;>first|(cases h;exact .inl ⟨_,_,rfl,rfl⟩)|exact .inr ⟨_,_,rfl⟩|cases h
theorem J.Uc {c:J} {r:List cj} {g_:List (List Nat)} {k:Option (List Nat)} (h:c.strip= .l9 r g_ k):(∃ros KY cW,c= .l9 ros KY cW∧ros.map cj.un=r∧KY=g_)∨∃T b,c= .ju T b:=by
 cases c<;>first|(cases h;exact .inl ⟨_,_,_,rfl,rfl,rfl⟩)|exact .inr ⟨_,_,rfl⟩|cases h
theorem J.Ud {c x y:J} (h:c.strip= .seq x y):(∃a b,c= .seq a b∧a.strip=x∧b.strip=y)∨∃T b,c= .ju T b:=by
 cases c<;>first|(cases h;exact .inl ⟨_,_,rfl,rfl,rfl⟩)|exact .inr ⟨_,_,rfl⟩|cases h
theorem J.Ue {c x y:J} {o:aK} (h:c.strip= .cond o x y):(∃nE a b,c= .cond nE a b∧nE=o∧a.strip=x∧b.strip=y)∨∃T b,c= .ju T b:=by
 cases c<;>first|(cases h;exact .inl ⟨_,_,_,rfl,rfl,rfl,rfl⟩)|exact .inr ⟨_,_,rfl⟩|cases h
theorem J.Uf {c x:J} {i:Nat} (h:c.strip= .block i x):(∃a,c= .block i a∧a.strip=x)∨∃T b,c= .ju T b:=by
 cases c<;>first|(cases h;exact .inl ⟨_,rfl,rfl⟩)|exact .inr ⟨_,_,rfl⟩|cases h
theorem J.Ug {c x:J} (h:c.strip= .loop x):(∃a,c= .loop a∧a.strip=x)∨∃T b,c= .ju T b:=by
 cases c<;>first|(cases h;exact .inl ⟨_,rfl,rfl⟩)|exact .inr ⟨_,_,rfl⟩|cases h
theorem Gr (bu:C.Ok) {H:((Exit→ar→Prop)→ar→Prop)→J→Prop}
  (hH:∀(c:Code) (T:(Exit→ar→Prop)→ar→Prop) (b:J) (Q:Exit→ar→Prop) (s:ar) (a:Act) (w:World),H T b→bn n c=some b.strip→T Q s→Rel w0 F0 X n ρ s a w→c.wp C.P (te w0 F0 X n ρ Q) a w):
  ∀(c:Code) {dJ:J} {Q:Exit→ar→Prop} {s:ar} {a:Act} {w:World},bn n c=some dJ.strip→dJ.bare H→dc C dJ Q s→Rel w0 F0 X n ρ s a w→c.wp C.P (te w0 F0 X n ρ Q) a w:=by
 intro c
 induction c with
 |skip=>
  intro dJ Q s a w ag ik h aX
  have lp:=ag
  simp only[bn,Option.some.injEq]at ag
  rcases J.T9 ag.symm with rfl|⟨T,b,rfl⟩
  ·exact wp_skip ⟨s,h,aX⟩
  ·exact hH _ T b Q s a w ik (by simpa only[J.strip]using lp) (h Q fun _ _ h=>h) aX
 |region id ops draw=>
  intro dJ Q s a w ag ik h aX
  have lp:=ag
  cases draw with
  |false=>
   simp only[bn,Option.map_eq_some_iff]at ag
   obtain⟨Uh,yl,ag⟩:=ag
   rcases J.Ub ag.symm with⟨ros,k,rfl,rfl⟩|⟨T,b,rfl⟩
   rotate_left
   ·exact hH _ T b Q s a w ik (by simpa only[J.strip]using lp) (h Q fun _ _ h=>h) aX
   cases ik
   exact TW bu yl (fun az c4 aG hk eV=>eV.ev hk) h aX
  |true=>
   simp only[bn]at ag
   split at ag
   ·rename_i ae
    simp only[Option.map_eq_some_iff]at ag
    obtain⟨Uh,yl,ag⟩:=ag
    rcases J.Uc ag.symm with⟨ros,g_,k,rfl,rfl,rfl⟩|⟨T,b,rfl⟩
    rotate_left
    ·exact hH _ T b Q s a w ik (by simpa only[J.strip]using lp) (h Q fun _ _ h=>h) aX
    cases ik
    refine wp_region_draw fun t=> ?_
    rw[show Region.schedule (C.P.follows .mixedOrders) ops t=Region.linearise .any ops t by simp[Region.schedule,bu.mixed]]
    exact KI bu yl (fun az c4 aG hk eV=>eV.ev hk) _ s a _ (h _ (T5 ae t)) (aX.drawn _ (by first|exact Nat.le_succ _|exact Nat.le_add_right _ _|omega))
   ·cases ag
 |seq x y Ui Bu=>
  intro dJ Q s a w ag ik h aX
  have lp:=ag
  simp only[bn]at ag
  split at ag
  ·rename_i vl KZ aw bt
   simp only[Option.some.injEq]at ag
   rcases J.Ud ag.symm with⟨cz,kU,rfl,rfl,rfl⟩|⟨T,b,rfl⟩
   rotate_left
   ·exact hH _ T b Q s a w ik (by simpa only[J.strip]using lp) (h Q fun _ _ h=>h) aX
   refine wp_seq (wp_mono (Ui aw ik.1 h aX) ?_)
   rintro e c4 aG ⟨az,bL,eV⟩
   cases e with
   |normal=>
    obtain⟨az,bL,eV⟩:=eV.ev bL
    exact Bu bt ik.2 bL eV
   |_=>exact⟨az,bL,eV⟩
  ·cases ag
 |cond x y z Bu K0=>
  intro dJ Q s a w ag ik h aX
  have lp:=ag
  simp only[bn]at ag
  split at ag
  ·rename_i vl KZ sz aw bt cf
   simp only[Option.some.injEq]at ag
   rcases J.Ue ag.symm with⟨cz,kU,qG,rfl,rfl,rfl,rfl⟩|⟨T,b,rfl⟩
   rotate_left
   ·exact hH _ T b Q s a w ik (by simpa only[J.strip]using lp) (h Q fun _ _ h=>h) aX
   have eV:=aX
   obtain⟨aj,dR,bC,F,S,nH⟩:=eV
   have aM:=(fA (a:=a) nH (fun _=>rfl) aw).2
   simp only[dc]at h
   split at h
   ·rename_i fZ ae
    rw[ae]at aM
    have:=rF aM
    refine wp_cond this ?_
    split
    ·rename_i e;rw[if_pos e]at h;exact Bu bt ik.1 h aX
    ·rename_i e;rw[if_neg e]at h;exact K0 cf ik.2 h aX
   ·rename_i ae
    rw[ae]at aM
    obtain⟨fZ,lB⟩:=Jz aM
    refine wp_cond lB ?_
    split
    ·exact Bu bt ik.1 h.1 aX
    ·exact K0 cf ik.2 h.2 aX
   ·exact h.elim
  ·cases ag
 |block id b ih=>
  intro dJ Q s a w ag ik h aX
  have lp:=ag
  simp only[bn,Option.map_eq_some_iff]at ag
  obtain⟨xT,ae,ag⟩:=ag
  rcases J.Uf ag.symm with⟨fZ,rfl,rfl⟩|⟨T,b,rfl⟩
  rotate_left
  ·exact hH _ T b Q s a w ik (by simpa only[J.strip]using lp) (h Q fun _ _ h=>h) aX
  refine wp_block (wp_mono (ih ae ik h aX) ?_)
  rintro e c4 aG ⟨az,bL,eV⟩
  cases e with
  |exit i=>
   simp only[vx]at bL
   simp only[Exit.inBlock]
   split
   ·rename_i e;rw[if_pos e]at bL;exact⟨az,bL,eV⟩
   ·rename_i e;rw[if_neg e]at bL;exact⟨az,bL,eV⟩
  |_=>exact⟨az,bL,eV⟩
 |loop b ih=>
  intro dJ Q s a w ag ik h aX
  have lp:=ag
  simp only[bn,Option.map_eq_some_iff]at ag
  obtain⟨xT,ae,ag⟩:=ag
  rcases J.Ug ag.symm with⟨fZ,rfl,rfl⟩|⟨T,b,rfl⟩
  rotate_left
  ·exact hH _ T b Q s a w ik (by simpa only[J.strip]using lp) (h Q fun _ _ h=>h) aX
  obtain⟨s,h,aX⟩:=aX.ev h
  have key:=h (fun s=>∀a w,Rel w0 F0 X n ρ s a w→∀(f:Frame) (k:List Item) (cs:List Frame),∃e c4 aG,te w0 F0 X n ρ Q e c4 aG∧Arrives C.P (lone (f.at a (.code b:: .inLoop b::k)) cs w) f k cs e c4 aG) ?_
  ·intro f k cs
   obtain⟨e,c4,aG,c6,rV⟩:=key a w aX f k cs
   exact⟨e,c4,aG,c6,.of_steps (.one step_loop) rV⟩
  ·intro az fB a w aX f k cs
   obtain⟨e,a₁,w₁,⟨s1,c6,rW⟩,rV⟩:=ih ae ik fB aX f (.inLoop b::k) cs
   cases e with
   |normal=>
    simp only[andThen]at c6
    obtain⟨s1,c6,rW⟩:=rW.ev c6
    obtain⟨e₂,a₂,w₂,hq₂,harr₂⟩:=c6 a₁ w₁ rW f k cs
    exact⟨e₂,a₂,w₂,hq₂,.of_steps (Steps.trans rV (.one step_inLoop)) harr₂⟩
   |exit id=>exact⟨_,a₁,w₁,⟨s1,c6,rW⟩,.pass (x:=.inLoop b) rfl (fun _ _=>.inl (by simp)) rV⟩
   |goto l=>exact⟨_,a₁,w₁,⟨s1,c6,rW⟩,.pass (x:=.inLoop b) rfl (fun _ _=>.inl (by simp)) rV⟩
   |ret=>exact⟨_,a₁,w₁,⟨s1,c6,rW⟩,.pass (x:=.inLoop b) rfl (fun _ _=>.inl (by simp)) rV⟩
   |panic aDJ=>exact⟨_,a₁,w₁,⟨s1,c6,rW⟩,.pass (x:=.inLoop b) rfl (fun _ _=>.inl (by simp)) rV⟩
   |outgrown=>exact⟨_,a₁,w₁,⟨s1,c6,rW⟩,.pass (x:=.inLoop b) rfl (fun _ _=>.inl (by simp)) rV⟩
 |exit id=>
  intro dJ Q s a w ag ik h aX
  have lp:=ag
  simp only[bn,Option.some.injEq]at ag
  rcases J.Ua ag.symm with rfl|⟨T,b,rfl⟩
  ·exact wp_exit ⟨s,h,aX⟩
  ·exact hH _ T b Q s a w ik (by simpa only[J.strip]using lp) (h Q fun _ _ h=>h) aX
 |ret=>
  intro dJ Q s a w ag ik h aX
  have lp:=ag
  simp only[bn,Option.some.injEq]at ag
  rcases J.T_ ag.symm with rfl|⟨T,b,rfl⟩
  ·exact wp_ret ⟨s,h,aX⟩
  ·exact hH _ T b Q s a w ik (by simpa only[J.strip]using lp) (h Q fun _ _ h=>h) aX
 |_=>intro dJ Q s a w ag;simp[bn]at ag
theorem K1 (bu:C.Ok) (c:Code) {dJ:J} {Q:Exit→ar→Prop} {s:ar} {a:Act} {w:World} (ag:bn n c=some dJ.strip) (ae:dJ.bare (fun _ _=>False)) (h:dc C dJ Q s) (aX:Rel w0 F0 X n ρ s a w):c.wp C.P (te w0 F0 X n ρ Q) a w:=
 Gr bu (fun _ _ _ _ _ _ _ bC=>bC.elim) c ag ae h aX
end
def j7:ResultVar→Nat
 | .tmp t=>t
 | .cell a _=>a
def qS (C:cw) (s:ar):ResultVar→Option I
 | .tmp t=>if(s t).tree=true then(match s t with| .tuple _=>none|d=>some d)else none
 | .cell a T=>match s a with
   | .bd d=>if fits C T d=true∧d.tree=true then some d else none
   |_=>none
def Gs (C:cw) (fx:List Nat) (fC:List ResultVar) (r:I) (outs:List I) (s:ar):Prop:=
 ∃ds,fC.map (qS C s)=ds.map some∧r=(match ds with|[d]=>d|ds=>.tuple ds)∧(fC.map j7).Nodup∧
  ∀(i:Nat) (o:I),outs[i]? =some o→o= .hole∨(o=s i∧o.gW=true∧i∈fx∧i∉fC.map j7)
def Ends (C:cw) (fx:List Nat) (fC:List ResultVar) (r:I) (outs:List I) (s:ar):Prop:=
 Gs C fx fC r outs s∨∃t y q d s1,s t= .h y q∧c7 s (.h y q)=some (d,s1)∧Gs C fx fC r outs (fin s1 (some t) d)
theorem bQ.takes {w0 w:World} {F0 X F:Nat→Prop} {S:Nat→Nat→Prop} {s s1:ar} {aA:Nat→Value} {t y:Nat} {q:List Nat} {d:I} (aX:bQ w0 F0 X F S s aA w) (h1:s t= .h y q) (ah:c7 s (.h y q)=some (d,s1)):
  ∃aR,bQ w0 F0 X F aR (cZ.fin s1 (some t) d) aA w:=by
 have ag:=aX.dF t
 rw[h1,aL]at ag
 obtain⟨cq,k0,b8,cy,Sn,e_,ed,fF,dr,jb,_⟩:=oY aX (av:=.h y q) (v:=aA t) rfl (by rw[aL];exact ag) ah
 obtain⟨aR,bL⟩:=k0.fin (.inr ⟨b8,cy,Sn,e_,ed,fF,dr,jb⟩) (some t)
 refine⟨aR,?_⟩
 have e:nz aA (some t) (aA t)=aA:=by
  funext u
  simp only[nz,du]
  split
  ·rename_i h;rw[h]
  ·rfl
 rwa [e]at bL
section
variable {C:cw} {w0 w:World} {F0 X F:Nat→Prop} {S:Nat→Nat→Prop} {s:ar} {tmps:Array Value}
theorem K2 {d:I} {x:Value} (aj:∀vs,d≠.tuple vs) (h:ei d x):cC x=h6 x∧iO d x:=by
 have:iO d x:=by cases d<;>first|exact h|exact(aj _ rfl).elim
 refine⟨?_,this⟩
 cases d<;>first
  |(obtain⟨a,rfl⟩:=this;rfl)
  |(simp only[iO]at this
    rw[hp this]
    cases x<;>first|rfl|(simp[Value.gC]at this))
def ym (tmps:Array Value):ResultVar→Sem Value
 | .tmp t=>pure (tmps.getD t undef)
 | .cell a t=>do loadVar t (←asAddr (tmps.getD a undef))
theorem Uj (bu:C.Ok) (h:bQ w0 F0 X F S s (fun t=>tmps.getD t undef) w) {v:ResultVar} {d:I} (aM:qS C s v=some d):
  ∃x,(ym tmps v).run C.P w= .ok x w∧d.tree=true∧(∀vs,d≠.tuple vs)∧ei d x∧ax w F d (cC x) (S (j7 v)):=by
 cases v with
 |tmp t=>
  simp only[qS]at aM
  split at aM
  ·rename_i ba
   have nb:(∀vs,s t≠.tuple vs)∧d=s t:=by
    cases ag:s t<;>rw[ag]at aM<;>simp only at aM<;>first
     |(cases aM;done)
     |(simp only[Option.some.injEq]at aM;exact⟨(fun _ h=>by cases h),aM.symm⟩)
   obtain⟨nb,rfl⟩:=nb
   obtain⟨g1,g2⟩:=(aL.cV ba).1 (h.dF t)
   exact⟨_,by simp[ym],ba,nb,g1,g2⟩
  ·cases aM
 |cell a T=>
  simp only[qS]at aM
  split at aM
  ·rename_i e ag
   split at aM
   ·rename_i Uk
    obtain⟨iw,Gt⟩:=Uk
    simp only[Option.some.injEq]at aM;subst aM
    have jd:=h.dF a
    rw[ag]at jd
    obtain⟨g1,g2⟩:=(aL.cV (d:=.bd e) rfl).1 jd
    rw[hp g1,ax]at g2
    obtain⟨b,cur,ty,fr,aR,b8,cy,e_,ed,fF,dr,jb⟩:=g2
    simp only[List.cons.injEq,and_true]at b8
    have kg:Rd w b 0 cur.toList:=by
     have:=u5 e_ cur.size
     rwa [List.take_of_length_le (by simp)]at this
    obtain⟨x,dw,bg,di⟩:=A0 (C:=C) bu kg fF iw
    refine⟨x,?_,Gt,?_,di,?_⟩
    ·simp only[ym]
     rw[b8]
     simpa [asAddr]using dw
    ·intro vs gE;subst gE
     unfold fits at iw
     split at iw<;>simp_all
    ·rw[bg];exact ax.mono (fun _ h=>h) _ _ _ _ dr fF
   ·cases aM
  ·cases aM
theorem Ul (bu:C.Ok) (h:bQ w0 F0 X F S s (fun t=>tmps.getD t undef) w):∀(fC:List ResultVar) (ds:List I),fC.map (qS C s)=ds.map some→(fC.map j7).Nodup→
  ∃xs,(fC.mapM (ym tmps)).run C.P w= .ok xs w∧xs.length=ds.length∧bc w F ds (xs.flatMap h6) (fun b=>∃t∈fC.map j7,S t b)∧
   ∀(k:Nat) (d:I) (x:Value),ds[k]? =some d→xs[k]? =some x→ei d x∧(∀vs,d≠.tuple vs)∧(h6 x).length=d.wd∧cC x=h6 x∧d.tree=true:=by
 intro fC
 induction fC with
 |nil=>
  intro ds he _
  have:ds=[]:=by simpa using he.symm
  subst this
  exact⟨[],by simp,rfl,by simp only[List.flatMap_nil];rw[bc],fun k d x aj=>by simp at aj⟩
 |cons v fC ih=>
  intro ds he vA
  cases ds with
  |nil=>simp at he
  |cons d ds=>
   simp only[List.map_cons,List.cons.injEq]at he
   simp only[List.map_cons,List.nodup_cons]at vA
   obtain⟨x,dw,rt,bg,di,cd⟩:=Uj bu h he.1
   obtain⟨xs,hd,gF,h7,iy⟩:=ih ds he.2 vA.2
   obtain⟨aS,aZ⟩:=K2 bg di
   refine⟨x::xs,by simp[List.mapM_cons,dw,hd],by simp[gF],?_,?_⟩
   ·simp only[List.flatMap_cons]
    rw[bc]
    rw[aS]at cd
    refine⟨h6 x,xs.flatMap h6,S (j7 v),fun b=>∃t∈fC.map j7,S t b,rfl,cd,h7,fun b ae=>⟨j7 v,by simp,ae⟩,?_,?_⟩
    ·rintro b ⟨t,ba,ae⟩;exact⟨t,by simp[ba],ae⟩
    ·rintro b ae ⟨t,ba,lB⟩
     have:t≠j7 v:=fun e=>vA.1 (e▸ba)
     exact h.fs t (j7 v) b this lB ae
   ·intro k bp cz aj aw
    cases k with
    |zero=>
     simp at aj aw;subst aj aw
     refine⟨di,bg,?_,aS,rt⟩
     rw[←aS];exact ax.length _ _ _ cd
    |succ k=>exact iy k bp cz (by simpa using aj) (by simpa using aw)
theorem Gu (bu:C.Ok) {f:FuncId} {fn:Func} {c:Code} {fx:List Nat} {as outs:List I} {r:I} (bC:C.P.funcs[f]? =some fn) (ae:fn.body=some c)
  (k1:(fn.name== "runtime.NumGoroutine")=false) (a6:as.length≤fn.ntmps)
  {w:World} {F X:Nat→Prop} {S:Nat→Nat→Prop} {vs:List Value} (hl:vs.length=as.length) (aX:bQ w F X F S (fI as) (hs vs) w)
  (yn:∀a,Rel w F X ⟨fn.ntmps,fx⟩ (hs vs) (fI as) a w→(∀t,a.tmps.getD t undef=hs vs t)→c.wp C.P (te w F X ⟨fn.ntmps,fx⟩ (hs vs) (fun e s=>(e= .normal∨e= .ret)∧ev (Ends C fx fn.results.toList r outs) s)) a w):
  ox C.P f vs.toArray w fun v aG=>∃b2 aR,bQ w F X b2 aR (fI (r::outs)) (hs (v::vs)) aG:=by
 have na:(vs.toArray++Array.replicate (fn.ntmps-vs.toArray.size) undef).size=fn.ntmps:=by simp;omega
 have eE:(fun t=>(vs.toArray++Array.replicate (fn.ntmps-vs.toArray.size) undef).getD t undef)=hs vs:=by
  funext t
  simp only[hs,Array.getD_eq_getD_getElem?,List.getD_eq_getElem?_getD]
  by_cases ba:t<vs.length
  ·rw[Array.getElem?_append_left (by simpa using ba)];simp
  ·rw[Array.getElem?_append_right (by simpa using ba)]
   rw[List.getElem?_eq_none (by omega)]
   simp only[Array.getElem?_replicate]
   split<;>rfl
 have nH:Rel w F X ⟨fn.ntmps,fx⟩ (hs vs) (fI as) {tmps:=vs.toArray++Array.replicate (fn.ntmps-vs.toArray.size) undef,defers:=[]} w:=
  ⟨rfl,na,fun i _=>congrFun eE i,F,S,by rw[eE];exact aX⟩
 have Gv:fn.name≠ "runtime.NumGoroutine" :=by simpa using k1
 refine .inl ⟨by simp[callFunc,bC,Gv,ae],calls_of_wp bC ae (wp_mono (yn _ nH (congrFun eE)) ?_)⟩
 rintro e c4 aG ⟨az,⟨he,Um⟩,Un⟩
 obtain⟨az,⟨ds,jS,K3,vA,sL⟩,aj,dR,hS,b2,aR,eV⟩:∃az,Gs C fx fn.results.toList r outs az∧Rel w F X ⟨fn.ntmps,fx⟩ (hs vs) az c4 aG:=by
  obtain⟨az,he,K4⟩:=Un.ev Um
  rcases he with he|⟨t,y,q,d,s1,h1,ah,he⟩
  ·exact⟨az,he,K4⟩
  ·obtain⟨g1,g2,g3,F,S,g4⟩:=K4
   obtain⟨aR,g5⟩:=g4.takes h1 ah
   exact⟨_,he,g1,g2,g3,F,aR,g5⟩
 obtain⟨xs,hd,gF,h7,iy⟩:=Ul bu eV _ ds jS vA
 have Uo:(results fn c4.tmps)=(do let vs←fn.results.mapM (ym c4.tmps);pure (if h:vs.size=1 then vs[0]else .tuple vs)):=by
  unfold results
  congr 1
 have sP:(results fn c4.tmps).run C.P aG= .ok (if h:xs.toArray.size=1 then xs.toArray[0]else .tuple xs.toArray) aG:=by
  rw[Uo,Array.mapM_eq_mapM_toList]
  simp[hd]
 have p8:(r.tree=true∧ei r (if h:xs.toArray.size=1 then xs.toArray[0]else .tuple xs.toArray)∧
   ax aG b2 r (cC (if h:xs.toArray.size=1 then xs.toArray[0]else .tuple xs.toArray)) (fun b=>∃t∈fn.results.toList.map j7,aR t b)):=by
  by_cases h1:∃d,ds=[d]
  ·obtain⟨d,rfl⟩:=h1
   obtain⟨x,rfl⟩:∃x,xs=[x]:=by
    cases xs with
    |nil=>simp at gF
    |cons x xs=>cases xs with
     |nil=>exact⟨x,rfl⟩
     |cons y ys=>simp at gF
   obtain⟨b8,cy,e_,ed,fF⟩:=iy 0 d x rfl rfl
   have Up:d=r:=K3.symm
   subst Up
   simp only[List.flatMap_cons,List.flatMap_nil,List.append_nil]at h7
   rw[bc]at h7
   obtain⟨cB,cu,cq,dU,aS,aZ,aQ,cF,cR,ch⟩:=h7
   rw[bc]at aQ;subst aQ
   simp only[List.append_nil]at aS;subst aS
   have aw:(if h:([x]:List Value).toArray.size=1 then([x]:List Value).toArray[0]else .tuple ([x]:List Value).toArray)=x:=by simp
   rw[aw,ed]
   exact⟨fF,b8,ax.mono (fun _ h=>h) _ _ _ _ cF aZ⟩
  ·have Bv:r= .tuple ds:=by
    rw[K3]
    cases ds with
    |nil=>rfl
    |cons d ds=>cases ds with
     |nil=>exact(h1 ⟨d,rfl⟩).elim
     |cons e ds=>rfl
   have aw:(if h:xs.toArray.size=1 then xs.toArray[0]else Value.tuple xs.toArray)= .tuple xs.toArray:=by
    rw[dif_neg]
    intro dR
    have:ds.length=1:=by rw[←gF];simpa using dR
    obtain⟨d,aj⟩:=List.length_eq_one_iff.1 this
    exact h1 ⟨d,aj⟩
   rw[aw,Bv]
   refine⟨rfl,⟨xs.toArray,rfl,by simpa using gF,fun k d x aj aw=> ?_⟩,?_⟩
   ·obtain⟨b8,cy,e_,ed,_⟩:=iy k d x aj (by simpa using aw)
    exact⟨(K2 cy b8).2,cy,e_⟩
   ·rw[ax]
    simpa [cC]using h7
 have post:∀(v:Value),(r.tree=true∧ei r v∧ax aG b2 r (cC v) (fun b=>∃t∈fn.results.toList.map j7,aR t b))→∃vt cq,bQ w F X vt cq (fI (r::outs)) (hs (v::vs)) aG:=by
  rintro v ⟨v1,v2,v3⟩
  have Gw:∀i,(outs.getD i .hole).gW=true→outs.getD i .hole=az i∧i∈fx∧i∉fn.results.toList.map j7:=by
   intro i ao
   cases cr:outs[i]? with
   |none=>simp[List.getD,cr,I.gW]at ao
   |some o=>
    have e:outs.getD i .hole=o:=by simp[List.getD,cr]
    rw[e]at ao⊢
    rcases sL i o cr with h|h
    ·subst h;simp[I.gW]at ao
    ·exact⟨h.1,h.2.2⟩
  refine⟨b2,fun t b=>match t with|0=>∃t∈fn.results.toList.map j7,aR t b|i+1=>(outs.getD i .hole).gW=true∧aR i b,eV.ho,eV.hO,eV.fm,?_,?_,?_,?_,?_,eV.old,eV.size,eV.os,eV.tape,eV.output,aX.hD⟩
  ·intro t b ae
   cases t with
   |zero=>obtain⟨t,_,ae⟩:=ae;exact eV.eD t b ae
   |succ i=>exact eV.eD i b ae.2
  ·intro t b ae
   cases t with
   |zero=>obtain⟨t,_,ae⟩:=ae;exact eV.fz t b ae
   |succ i=>exact eV.fz i b ae.2
  ·intro t u b df ae hu
   cases t with
   |zero=>
    obtain⟨t,ba,ae⟩:=ae
    cases u with
    |zero=>exact df rfl
    |succ j=>
     refine eV.fs t j b (fun e=> ?_) ae hu.2
     subst e;exact(Gw t hu.1).2.2 ba
   |succ i=>
    cases u with
    |zero=>
     obtain⟨t,ba,hu⟩:=hu
     refine eV.fs t i b (fun e=> ?_) hu ae.2
     subst e;exact(Gw t ae.1).2.2 ba
    |succ j=>exact eV.fs i j b (by omega) ae.2 hu.2
  ·intro t b ae
   cases t with
   |zero=>obtain⟨t,_,ae⟩:=ae;exact eV.dZ t b ae
   |succ i=>exact eV.dZ i b ae.2
  ·intro t
   cases t with
   |zero=>exact(aL.cV v1).2 ⟨v2,v3⟩
   |succ i=>
    show aL aG b2 (fI (r::outs)) (hs (v::vs)) (outs.getD i .hole) (vs.getD i undef) (fun b=>(outs.getD i .hole).gW=true∧aR i b)
    cases ao:(outs.getD i .hole).gW with
    |false=>
     have:outs.getD i .hole= .hole:=by
      cases cr:outs[i]? with
      |none=>simp[List.getD,cr]
      |some o=>
       have e:outs.getD i .hole=o:=by simp[List.getD,cr]
       rw[e]at ao⊢
       rcases sL i o cr with h|h
       ·exact h
       ·rw[h.2.1]at ao;cases ao
     rw[this,aL];trivial
    |true=>
     obtain⟨nF,lo,pc⟩:=Gw i ao
     have ba:=(rP ao).2.1
     have jd:=eV.dF i
     rw[←nF]at jd
     obtain⟨g1,g2⟩:=(aL.cV ba).1 jd
     have aM:c4.tmps.getD i undef=vs.getD i undef:=hS i lo
     rw[aM]at g1 g2
     exact(aL.cV ba).2 ⟨g1,ax.mono (fun _ h=>h) _ _ _ _ (fun b ae=>⟨rfl,ae⟩) g2⟩
 rcases he with rfl|rfl
 ·exact⟨aj,_,sP,_,rfl,post _ p8⟩
 ·exact⟨aj,_,sP,_,rfl,post _ p8⟩
theorem bl.of_wp (bu:C.Ok) {f:FuncId} {fn:Func} {c:Code} {dJ:J} {fx:List Nat} {as outs:List I} {r:I} (bC:C.P.funcs[f]? =some fn) (ae:fn.body=some c)
  (k1:(fn.name== "runtime.NumGoroutine")=false) (ag:bn ⟨fn.ntmps,fx⟩ c=some dJ.strip) (a6:as.length≤fn.ntmps)
  (h:dc C dJ (fun e s=>(e= .normal∨e= .ret)∧ev (Ends C fx fn.results.toList r outs) s) (fI as)) (au:dJ.plain=true:=by kernel_rfl):bl C f as r outs:=
 fun w F X S vs hl aX=>Gu bu bC ae k1 a6 hl aX fun a nH _=>K1 bu c (by rw[J.Gm];exact ag) (J.Bs dJ (J.KT dJ au)) (Bt dJ h) nH
end
def num:Nat→List I→List (Nat×I)
 |_,[]=>[]
 |k,a::as=>(k,a)::num (k+1) as
theorem Uq:∀(as:List I) (k t:Nat),ab (num k as) (k+t)=as.getD t .hole:=by
 intro as
 induction as with
 |nil=>intro k t;simp[num,ab]
 |cons a as ih=>
  intro k t
  cases t with
  |zero=>simp[num,ab]
  |succ t=>
   have:=ih (k+1) t
   simp only[num,ab]
   rw[if_neg (by omega)]
   rw[show k+(t+1)=k+1+t by omega,this]
   simp
theorem Bw (as:List I):fI as=ab (num 0 as):=by
 funext t
 have:=Uq as 0 t
 rw[Nat.zero_add]at this
 rw[this];rfl
theorem k2 (l:List (Nat×I)) (t:Nat) (d:I):du (ab l) t d=ab ((t,d)::l):=by
 funext u;simp only[du,ab]
def oB (t:Nat):List (Nat×I)→List (Nat×I)
 |[]=>[]
 |(u,d)::l=>(u,c5 t d)::oB t l
def tf (t:Nat):List (Nat×I)→List (Nat×I)
 |[]=>[]
 |(u,d)::l=>(u,cv t d)::tf t l
theorem vB (t:Nat):∀l:List (Nat×I),lZ t (ab l)=ab (oB t l):=by
 intro l
 funext u
 induction l with
 |nil=>rfl
 |cons p l ih=>
  obtain⟨v,d⟩:=p
  simp only[lZ,ab,oB]at ih⊢
  split
  ·rfl
  ·exact ih
theorem Ur (t:Nat):∀l:List (Nat×I),iu t (ab l)=ab (tf t l):=by
 intro l
 funext u
 induction l with
 |nil=>rfl
 |cons p l ih=>
  obtain⟨v,d⟩:=p
  simp only[iu,ab,tf]at ih⊢
  split
  ·rfl
  ·exact ih
def jf (k:List Nat) (s:ar):List (Nat×I):=k.map fun t=>(t,s t)
section
variable {C:cw} {l:List (Nat×I)}
def gb.tg:gb→Bool
 | .call _ _=>true
 | .ct _=>false
 | .iR _=>false
 | .pick _ _ _=>false
 | .hc _=>false
 | .da _ _=>false
 | .e0 _ _=>false
 | .dG _ _ _=>false
 | .ld _ _=>false
 | .gu _ _ _=>false
 | .ga _=>false
 | .ck _ _ _ _=>false
 | .un _ _=>false
 | .gw _ _ _=>false
 | .iz _ _=>false
 | .eS _ _ _=>false
 | .fG _ _ _ _=>false
 | .c1 _ _ _=>false
 | .fc _ _ _=>false
 | .idx _ _ _=>false
 | .ex _ _=>false
 | .mv _ _ _=>false
 | .len _ _=>false
 | .app _ _ _ _=>false
 | .shr _=>true
 | .oq _ _ _ _=>false
 | .cap _ _=>false
 | .p1 _ _ _=>false
 | .bad=>false
 | .mZ _ _ _ _=>true
 | .ky _ _ _=>true
 | .j4 _ _=>false
 | .rN _=>false
 | .qO _=>false
 | .xZ=>false
 | .oo _ _ _=>false
 | .mY _ _ _ _=>false
variable {Q:Exit→ar→Prop}
def I.K5:I→Bool
 | .tuple _=>true
 |_=>false
theorem Ends.one {fx:List Nat} {t:Nat} {r:I} {s:ar} (h1:s t=r) (ah:(r.tree&& !r.K5)=true):Ends C fx [.tmp t] r [] s:=by
 simp only[Bool.and_eq_true,Bool.not_eq_true']at ah
 obtain⟨ah,Bx⟩:=ah
 have aC:∀vs,r≠.tuple vs:=fun vs e=>by subst e;simp[I.K5]at Bx
 refine .inl ⟨[r],?_,rfl,by simp,fun i o h=>by simp at h⟩
 have:qS C s (.tmp t)=some r:=by
  simp only[qS,h1,ah,if_true]
  try (cases r<;>first|rfl|exact(aC _ rfl).elim)
 simp only[List.map_cons,List.map_nil,this]
end
section
variable {C:cw} {l:List (Nat×I)} {Q:Exit→ar→Prop}
theorem bl.outs {f:FuncId} {as:List I} {r:I} {nF lo:List I} (h:bl C f as r nF) (he:fI nF=fI lo):bl C f as r lo:=by
 intro w F X S vs hl aX
 refine ox.mono (h w F X S vs hl aX) ?_
 rintro v aG ⟨b2,aR,bL⟩
 refine⟨b2,aR,?_⟩
 have:fI (r::lo)=fI (r::nF):=by
  funext t
  cases t with
  |zero=>rfl
  |succ t=>exact(congrFun he t).symm
 rw[this];exact bL
def mC:List I→List I→List c2
 |a::as,d::ds=>⟨a,false,d,.hole⟩::mC as ds
 |_,_=>[]
theorem Us {s:ar}:∀(as ds:List I),views s as=some ds→(mC as ds).map (·.a)=as∧(mC as ds).map (·.d)=ds∧(∀p∈mC as ds,p.ok s∧p.g=false∧p.o= .hole∧p.a∈as)∧iS (mC as ds)=true∧
  fI ((mC as ds).map (·.o))=fI []∧(∀qT,fo qT (mC as ds)=qT)∧(∀qT,h9 qT (mC as ds)=qT):=by
 intro as
 induction as with
 |nil=>
  intro ds h
  simp only[views,Option.some.injEq]at h;subst h
  exact⟨rfl,rfl,(fun p au=>by cases au),rfl,rfl,fun _=>rfl,fun _=>rfl⟩
 |cons a as ih=>
  intro ds h
  simp only[views]at h
  split at h
  ·rename_i d Ut h1 ah
   simp only[Option.some.injEq]at h;subst h
   obtain⟨aS,aZ,aQ,cF,cR,ch,b3⟩:=ih Ut ah
   refine⟨by simp only[mC,List.map_cons,aS],by simp only[mC,List.map_cons,aZ],?_,?_,?_,?_,?_⟩
   ·intro p au
    simp only[mC,List.mem_cons]at au
    rcases au with rfl|au
    ·exact⟨by simp only[c2.ok];exact h1,rfl,rfl,by simp⟩
    ·obtain⟨g1,g2,g3,g4⟩:=aQ p au
     exact⟨g1,g2,g3,by simp[g4]⟩
   ·simp only[mC,iS,cF,Bool.and_true,List.all_eq_true]
    intro p au
    simp[(aQ p au).2.1]
   ·funext t
    cases t with
    |zero=>rfl
    |succ t=>exact(congrFun cR t).trans (by simp[fI])
   ·intro qT;exact ch qT
   ·intro qT;exact b3 qT
  ·cases h
end
structure fR where
 bZ:List Nat
 H:List Nat
 T:List Nat
 c:Bool
mutual
def I.clean:I→Bool
 | .hole=>false
 | .fn _ cap=>I.vC cap
 |_=>true
def I.vC:List I→Bool
 |[]=>true
 |d::ds=>d.clean&&I.vC ds
end
mutual
theorem K6 {x:Nat}:∀a:I,(cv x a).clean=true→cv x a=a
 | .h y q,h=>by
   simp only[cv]at h⊢
   split
   ·rename_i e;rw[if_pos e]at h
    split
    ·rfl
    ·rename_i gE;rw[if_neg gE]at h;simp[I.clean]at h
   ·rfl
 | .au y q,h=>by
   simp only[cv]at h⊢
   split
   ·rename_i e;rw[if_pos e]at h;simp[I.clean]at h
   ·rfl
 | .ae y q,h=>rfl
 | .fn f cap,h=>by simp only[cv,I.clean]at h⊢;rw[K7 cap h]
 | .hole,_=>rfl
 | .bool _,_=>rfl
 | .fb,_=>rfl
 | .int _ _,_=>rfl
 | .str _,_=>rfl
 | .dI,_=>rfl
 | .bk,_=>rfl
 | .slice _,_=>rfl
 | .an _ _,_=>rfl
 | .ref _,_=>rfl
 | .bd _,_=>rfl
 | .agg _,_=>rfl
 | .tuple _,_=>rfl
 | .en _,_=>rfl
theorem K7 {x:Nat}:∀ds:List I,I.vC (i_ x ds)=true→i_ x ds=ds
 |[],_=>rfl
 |d::ds,h=>by
  simp only[i_,I.vC,Bool.and_eq_true]at h⊢
  rw[K6 d h.1,K7 ds h.2]
end
mutual
theorem K8 {x:Nat}:∀a:I,(c5 x a).clean=true→c5 x a=a
 | .h y q,h=>by
   simp only[c5]at h⊢
   split
   ·rename_i e;rw[if_pos e]at h;simp[I.clean]at h
   ·rfl
 | .au y q,h=>by
   simp only[c5]at h⊢
   split
   ·rename_i e;rw[if_pos e]at h;simp[I.clean]at h
   ·rfl
 | .ae y q,h=>by
   simp only[c5]at h⊢
   split
   ·rename_i e;rw[if_pos e]at h;simp[I.clean]at h
   ·rfl
 | .fn f cap,h=>by simp only[c5,I.clean]at h⊢;rw[K9 cap h]
 | .hole,_=>rfl
 | .bool _,_=>rfl
 | .fb,_=>rfl
 | .int _ _,_=>rfl
 | .str _,_=>rfl
 | .dI,_=>rfl
 | .bk,_=>rfl
 | .slice _,_=>rfl
 | .an _ _,_=>rfl
 | .ref _,_=>rfl
 | .bd _,_=>rfl
 | .agg _,_=>rfl
 | .tuple _,_=>rfl
 | .en _,_=>rfl
theorem K9 {x:Nat}:∀ds:List I,I.vC (jG x ds)=true→jG x ds=ds
 |[],_=>rfl
 |d::ds,h=>by
  simp only[jG,I.vC,Bool.and_eq_true]at h⊢
  rw[K8 d h.1,K9 ds h.2]
end
theorem Uu {k:p3} {x:Nat} {a:I} (h:(k.app x a).clean=true):k.app x a=a:=by
 cases k with
 |no=>rfl
 |cv=>exact K6 a h
 |c5=>exact K8 a h
theorem Uv:∀(ms:List hr) (u:Nat) (a:I),(∀m∈ms,m.x≠u)→(ki ms u a).clean=true→ki ms u a=a:=by
 intro ms
 induction ms with
 |nil=>intros;rfl
 |cons m ms ih=>
  intro u a aw aq
  simp only[ki]at aq⊢
  have e:=ih u _ (fun ix th=>aw ix (by simp[th])) aq
  have hm:m.at u a=m.k.app m.x a:=by
   simp only[hr.at];rw[if_neg (fun e=>aw m (by simp) e.symm)]
  rw[e,hm]
  rw[e,hm]at aq
  exact Uu aq
theorem Uw:∀(ms:List hr) (u:Nat) (a:I),(∀m∈ms,m.x≠u∧m.x∉a.ag)→ki ms u a=a:=by
 intro ms
 induction ms with
 |nil=>intros;rfl
 |cons m ms ih=>
  intro u a aw
  simp only[ki]
  have hm:m.at u a=a:=by
   simp only[hr.at];rw[if_neg (fun e=>(aw m (by simp)).1 e.symm)]
   exact x3 (.inr (aw m (by simp)).2)
  rw[hm]
  exact ih u a fun ix th=>aw ix (by simp[th])
theorem Ux (m:hr):∀(ms:List hr) (u:Nat) (a:I),(∀ix∈ms,ix.x≠m.x∧ix.x∉m.d.ag∧m.x∉ix.d.ag)→ki ms u (m.at u a)=m.at u (ki ms u a):=by
 intro ms
 induction ms with
 |nil=>intros;rfl
 |cons n ms ih=>
  intro u a aw
  simp only[ki]
  have a6:=aw n (by simp)
  have aq:n.at u (m.at u a)=m.at u (n.at u a):=by
   simp only[hr.at]
   by_cases aS:u=n.x
   ·subst aS
    rw[if_pos rfl,if_neg a6.1,if_pos rfl]
    exact(x3 (.inr a6.2.2)).symm
   ·rw[if_neg aS]
    by_cases aZ:u=m.x
    ·subst aZ
     rw[if_pos rfl,if_pos rfl]
     exact x3 (.inr a6.2.1)
    ·rw[if_neg aZ,if_neg aS,if_neg aZ]
     exact S1 _ _ _ _ _
  rw[aq]
  exact ih u _ fun ix th=>aw ix (by simp[th])
theorem Uy:∀(ms ln:List hr) (s:ar),(∀m∈ms,∀n∈ln,n.x≠m.x∧n.x∉m.d.ag∧m.x∉n.d.ag)→dP ln (dP ms s)=dP ms (dP ln s):=by
 intro ms
 induction ms with
 |nil=>intros;rfl
 |cons m ms ih=>
  intro ln s h
  have e:∀s,dP (m::ms) s=dP ms (dP [m] s):=fun s=>l6 [m] ms s
  rw[e,e,ih ln _ (fun ix th=>h ix (by simp[th]))]
  congr 1
  funext u
  simp only[dP,ki]
  exact Ux m ln u _ (h m (by simp))
def Gx (C:cw) (s:ar) (f:aK) (args:List aK) (K:List Nat→I→ar→Prop):Prop:=
 ∃(g:FuncId) (caps:List I) (ps:List c2) (r:I),aN s f= .fn g caps∧I.dX caps=true∧ps.map (·.a)=args.map (aN s)++caps∧(∀p∈ps,p.ok s)∧iS ps=true∧
   bl C g (ps.map (·.d)) r (ps.map (·.o))∧r.res=true∧(kj ps=true→r.dd=true∧∀p∈ps,p.o.dd=true)∧K (I.er ((ps.filter (·.g)).map (·.a))) r (h9 (fo s ps) ps)
def oC (C:cw) (s:ar) (b0:gb) (K:List Nat→I→ar→Prop):Prop:=
 match b0 with
 | .call f args=>∃(g:FuncId) (caps:List I) (ps:List c2) (r:I),aN s f= .fn g caps∧I.dX caps=true∧ps.map (·.a)=args.map (aN s)++caps∧(∀p∈ps,p.ok s)∧iS ps=true∧
   bl C g (ps.map (·.d)) r (ps.map (·.o))∧r.res=true∧(kj ps=true→r.dd=true∧∀p∈ps,p.o.dd=true)∧K (I.er ((ps.filter (·.g)).map (·.a))) r (h9 (fo s ps) ps)
 | .shr b0=>∃av s1,bR C s b0=some (av,s1)∧av.tree=true∧(∀vs,av≠.tuple vs)∧K (dL s b0) av.share s1
 | .mZ f args u x=>s u= .h x []∧(s x).own=true∧Gx C s f args fun c7 av s1=>s1 u= .hole∧(s1 x).own=true∧K (u::c7) av (du s1 u (.h x []))
 | .ky f args us=>lM s (jL s us)=true∧Gx C s f args fun c7 av s1=>lM s1 (jL s us)=true∧K (us++c7) av (nd s1 (jL s us))
 |b0=>∃av s1,bR C s b0=some (av,s1)∧K (dL s b0) av s1
def jv (s:ar) (bZ:List Nat) (dst:Option Nat) (c7:List Nat) (av:I):fR:=
 ⟨bZ,bZ.flatMap (fun u=>(s u).ag)++av.ag,dst.toList++c7,bZ.all fun u=>(s u).clean⟩
def nJ (C:cw) (s:ar) (o:cj) (K:fR→ar→Prop):Prop:=
 match o.guard with
 |none=>oC C s o.b0 fun c7 av s1=>K (jv s (use s o.b0) o.dst c7 av) (fin s1 o.dst av)
 |some (t,b)=>match s t with
  | .bool fZ=>if fZ=b then oC C s o.b0 (fun c7 av s1=>K (jv s (t::use s o.b0) o.dst c7 av) (fin s1 o.dst av))else K (jv s [t] o.dst [] (.tuple [])) (fin s o.dst (.tuple []))
  | .tuple []=>K (jv s [t] o.dst [] (.tuple [])) (fin s o.dst (.tuple []))
  |_=>False
def p9:Option (List fR)→fR→Option (List fR)
 |none,_=>none
 |some l,f=>some (f::l)
def cT (C:cw) (s:ar):List cj→Option (List fR)→(Option (List fR)→ar→Prop)→Prop
 |[],acc,K=>K acc s
 |o::os,acc,K=>nJ C s o fun f s1=>cT C s1 os (p9 acc f) K
section
variable {C:cw}
theorem K_ {s:ar} {b0:gb} {K:List Nat→I→ar→Prop} {dM:I→ar→Prop} (hk:∀c7 av s,K c7 av s→dM av s) (h:oC C s b0 K):oz C s b0 dM:=by
 cases b0 with
 |call f args=>
  obtain⟨g,caps,ps,r,h1,gI,ah,aC,a8,bK,cU,cJ,fw⟩:=h
  exact⟨g,caps,ps,r,h1,gI,ah,aC,a8,bK,cU,cJ,hk _ _ _ fw⟩
 |mZ f args u x=>
  obtain⟨b8,cy,g,caps,ps,r,h1,gI,ah,aC,a8,bK,cU,cJ,fw,hR,h3⟩:=h
  exact⟨b8,cy,g,caps,ps,r,h1,gI,ah,aC,a8,bK,cU,cJ,fw,hR,hk _ _ _ h3⟩
 |ky f args us=>
  obtain⟨cy,g,caps,ps,r,h1,gI,ah,aC,a8,bK,cU,cJ,fw,hR⟩:=h
  exact⟨cy,g,caps,ps,r,h1,gI,ah,aC,a8,bK,cU,cJ,fw,hk _ _ _ hR⟩
 |shr b0=>
  obtain⟨av,s1,h1,ah,aC,a8⟩:=h
  exact⟨av,s1,h1,ah,aC,hk _ _ _ a8⟩
 |_=>
  obtain⟨av,s1,h1,ah⟩:=h
  exact⟨av,s1,h1,hk _ _ _ ah⟩
theorem Uz {s:ar} {o:cj} {K:fR→ar→Prop} {dM:ar→Prop} (hk:∀f s,K f s→dM s) (h:nJ C s o K):l7 C s o dM:=by
 unfold nJ at h
 unfold l7
 split
 ·rename_i b9;rw[b9]at h;exact K_ (fun _ _ _=>hk _ _) h
 ·rename_i t b b9
  rw[b9]at h
  simp only at h
  split
  ·rename_i fZ ag
   rw[ag]at h
   simp only at h
   split
   ·rename_i ae;rw[if_pos ae]at h;exact K_ (fun _ _ _=>hk _ _) h
   ·rename_i ae;rw[if_neg ae]at h;exact hk _ _ h
  ·rename_i ag;rw[ag]at h;exact hk _ _ h
  ·rename_i h1 ah
   split at h
   ·exact h1 _ (by assumption)
   ·exact ah (by assumption)
   ·exact h
theorem ti {K:ar→Prop}:∀{ros:List cj} {s:ar} {acc:Option (List fR)} {dM:Option (List fR)→ar→Prop},(∀a s,dM a s→K s)→cT C s ros acc dM→lN C s ros K:=by
 intro ros
 induction ros with
 |nil=>intro s acc dM hk h;exact hk _ _ h
 |cons o ros ih=>intro s acc dM hk h;exact Uz (fun f s h=>ih hk h) h
theorem La {q:List Nat} {a d:I} (h:I.sub q a=some d) (c6:q≠[]∨d.ag=[]):a.ag=[]:=by
 cases q with
 |nil=>
  simp only[I.sub,Option.some.injEq]at h;subst h
  exact c6.resolve_left (fun e=>e rfl)
 |cons k q=>cases a<;>first|rfl|(simp[I.sub]at h)
def Bz (s:ar) (p:c2) (e:I→Prop):Prop:=p.g=true→∃x q d,p.a= .h x q∧I.sub q (s x)=some d∧e d∧(p.o= .hole∨p.o.gW=true)
theorem Lb {d:I} (h:d.gW=true):d.ag=[]:=F9 (rP h).2.1
theorem Lc {d:I} (h:d.gW=true):d.dq.ag=[]:=by cases d<;>first|rfl|(simp[I.gW]at h)
theorem Ld {p:c2} {ps:List c2} (h:iS (p::ps)=true):iS ps=true∧∀cX∈ps,(p.g=true∨cX.g=true)→∀u∈p.a.ag,u∉cX.a.ag:=by
 simp only[iS,Bool.and_eq_true,List.all_eq_true,Bool.or_eq_true,Bool.not_eq_true']at h
 refine⟨h.2,fun cX eW b9 u hu=> ?_⟩
 rcases h.1 cX eW with e|e
 ·rcases b9 with b9|b9<;>simp[b9]at e
 ·simpa using e u hu
def qU (ps:List c2):List Nat:=I.er ((ps.filter (·.g)).map (·.a))
theorem vD (p:c2) (ps:List c2):(∀u∈qU ps,u∈qU (p::ps))∧(p.g=true→∀u∈p.a.ag,u∈qU (p::ps)):=by
 unfold qU
 by_cases b9:p.g=true
 ·simp only[List.filter_cons,b9,if_true,List.map_cons,I.er,List.mem_append]
  exact⟨fun u h=>.inr h,fun _ u h=>.inl h⟩
 ·simp only[List.filter_cons,b9]
  exact⟨fun u h=>h,fun h=>by simp at h⟩
theorem UA {p:c2} {ps:List c2} (h:p∈ps):∀u∈p.a.ag,u∈I.er (ps.map (·.a)):=by
 induction ps with
 |nil=>cases h
 |cons cX ps ih=>
  intro u hu
  simp only[List.map_cons,I.er,List.mem_append]
  rcases List.mem_cons.1 h with rfl|h
  ·exact .inl hu
  ·exact .inr (ih h u hu)
theorem UB:∀(ps:List c2) (s:ar),(∀p∈ps,Bz s p (fun d=>d=p.d∧p.d.gW=true))→iS ps=true→
  (∃ms:List hr,(∀m∈ms,m.x∈qU ps∧m.d.ag=[])∧∀az,dV (I.er (ps.map (·.a))) az s→fo az ps=dP ms az)∧∀p∈ps,Bz (fo s ps) p (fun d=>d=p.d.dq∧p.d.gW=true):=by
 intro ps
 induction ps with
 |nil=>intro s _ _;exact⟨⟨[],by simp,fun az _=>rfl⟩,fun p au=>by cases au⟩
 |cons p ps ih=>
  intro s b9 ll
  obtain⟨pb,ow⟩:=Ld ll
  by_cases mD:p.g=true
  ·obtain⟨x,q,d,cE,ag,⟨rfl,aj⟩,cr⟩:=b9 p (by simp) mD
   have j0:(I.put q p.d.dq (s x)).ag=[]:=vp q _ _ _ ag (.inl (rP aj).1) fun _=>Lc aj
   have yo:∀az:ar,az x=s x→p.take az=dP [⟨.cv,x,I.put q p.d.dq (s x)⟩] az:=by
    intro az e
    simp only[c2.take,mD,if_true,cE,e,s5]
   have df:∀cX∈ps,∀cz jQ,cX.a= .h cz jQ→cz≠x:=by
    intro cX eW cz jQ e gE
    have:=ow cX eW (.inl mD) x (by simp[cE,I.ag])
    rw[e,gE]at this;simp[I.ag]at this
   have rR:∀cz,cz≠x→(s cz).ag=[]→dP [⟨.cv,x,I.put q p.d.dq (s x)⟩] s cz=s cz:=by
    intro cz rG bf
    simp only[dP,ki,hr.at]
    rw[if_neg rG]
    exact x3 (.inr (by rw[bf];simp))
   obtain⟨⟨ms,m1,m2⟩,m3⟩:=ih (dP [⟨.cv,x,I.put q p.d.dq (s x)⟩] s) (fun cX eW Gy=>by
    obtain⟨cz,jQ,bp,s7,fB,ha,yp⟩:=b9 cX (by simp[eW]) Gy
    refine⟨cz,jQ,bp,s7,?_,ha,yp⟩
    rw[rR cz (df cX eW cz jQ s7) (La fB (.inr (by rw[ha.1];exact Lb ha.2)))];exact fB) pb
   refine⟨⟨[⟨.cv,x,I.put q p.d.dq (s x)⟩]++ms,?_,?_⟩,?_⟩
   ·intro m hm
    rcases List.mem_append.1 hm with hm|hm
    ·simp only[List.mem_singleton]at hm;subst hm
     exact⟨(vD p ps).2 mD x (by simp[cE,I.ag]),j0⟩
    ·exact⟨(vD p ps).1 _ (m1 m hm).1,(m1 m hm).2⟩
   ·intro az fB
    simp only[List.map_cons,I.er]at fB
    have e:az x=s x:=fB x (by simp[cE,I.ag])
    rw[l6]
    show fo (p.take az) ps=_
    rw[yo az e]
    exact m2 _ (dV.dP fB.right _)
   ·have aS:fo s (p::ps)=fo (dP [⟨.cv,x,I.put q p.d.dq (s x)⟩] s) ps:=by
     show fo (p.take s) ps=_
     rw[yo s rfl]
    rw[aS]
    intro cX eW
    rcases List.mem_cons.1 eW with rfl|eW
    ·intro _
     refine⟨x,q,cX.d.dq,cE,?_,⟨rfl,aj⟩,cr⟩
     have aM:dP [⟨.cv,x,I.put q cX.d.dq (s x)⟩] s x=I.put q cX.d.dq (s x):=by
      simp only[dP,ki,hr.at,if_true]
     rw[F7 (by rw[aM];exact j0) (fun UC UD aDK=> ?_),aM]
     ·exact Kx q _ _ _ ag
     ·exact ow UC UD (.inl mD) x (by simp[cE,I.ag])
    ·exact m3 cX eW
  ·have yo:∀az:ar,p.take az=az:=by intro az;simp only[c2.take,mD];rfl
   obtain⟨⟨ms,m1,m2⟩,m3⟩:=ih s (fun cX eW=>b9 cX (by simp[eW])) pb
   refine⟨⟨ms,fun m hm=>⟨(vD p ps).1 _ (m1 m hm).1,(m1 m hm).2⟩,?_⟩,?_⟩
   ·intro az fB
    simp only[List.map_cons,I.er]at fB
    show fo (p.take az) ps=_
    rw[yo];exact m2 az fB.right
   ·intro cX eW
    have aS:fo s (p::ps)=fo s ps:=by show fo (p.take s) ps=_;rw[yo]
    rw[aS]
    rcases List.mem_cons.1 eW with rfl|eW
    ·intro h;exact(mD h).elim
    ·exact m3 cX eW
theorem UE:∀(ps:List c2) (s:ar),(∀p∈ps,Bz s p (fun d=>d=p.d.dq∧p.d.gW=true))→iS ps=true→
  (∃ms:List hr,(∀m∈ms,m.x∈qU ps∧m.d.ag=[])∧∀az,dV (I.er (ps.map (·.a))) az s→h9 az ps=dP ms az):=by
 intro ps
 induction ps with
 |nil=>intro s _ _;exact⟨[],by simp,fun az _=>rfl⟩
 |cons p ps ih=>
  intro s b9 ll
  obtain⟨pb,ow⟩:=Ld ll
  by_cases mD:p.g=true∧p.o≠.hole
  ·obtain⟨mD,UF⟩:=mD
   obtain⟨x,q,d,cE,ag,⟨rfl,aj⟩,cr⟩:=b9 p (by simp) mD
   have cr:p.o.gW=true:=cr.resolve_left UF
   have j0:(I.put q p.o (s x)).ag=[]:=by
    cases q with
    |nil=>simp only[I.put];exact Lb cr
    |cons k q=>exact vp _ _ _ _ ag (.inr (by simp)) (by simp)
   have Gz:∀az:ar,az x=s x→p.jc az=dP [⟨.c5,x,I.put q p.o (s x)⟩] az:=by
    intro az e
    simp only[c2.jc,mD,if_true,cE]
    rw[e,Kg]
   have df:∀cX∈ps,∀cz jQ,cX.a= .h cz jQ→cz≠x:=by
    intro cX eW cz jQ e gE
    have:=ow cX eW (.inl mD) x (by simp[cE,I.ag])
    rw[e,gE]at this;simp[I.ag]at this
   obtain⟨ms,m1,m2⟩:=ih (dP [⟨.c5,x,I.put q p.o (s x)⟩] s) (fun cX eW Gy=>by
    obtain⟨cz,jQ,bp,s7,fB,ha,yp⟩:=b9 cX (by simp[eW]) Gy
    refine⟨cz,jQ,bp,s7,?_,ha,yp⟩
    have bf:=La fB (.inr (by rw[ha.1];exact Lc ha.2))
    have rR:dP [⟨.c5,x,I.put q p.o (s x)⟩] s cz=s cz:=by
     simp only[dP,ki,hr.at]
     rw[if_neg (df cX eW cz jQ s7)]
     exact x3 (.inr (by rw[bf];simp))
    rw[rR];exact fB) pb
   refine⟨[⟨.c5,x,I.put q p.o (s x)⟩]++ms,?_,?_⟩
   ·intro m hm
    rcases List.mem_append.1 hm with hm|hm
    ·simp only[List.mem_singleton]at hm;subst hm
     exact⟨(vD p ps).2 mD x (by simp[cE,I.ag]),j0⟩
    ·exact⟨(vD p ps).1 _ (m1 m hm).1,(m1 m hm).2⟩
   ·intro az fB
    simp only[List.map_cons,I.er]at fB
    have e:az x=s x:=fB x (by simp[cE,I.ag])
    rw[l6]
    show h9 (p.jc az) ps=_
    rw[Gz az e]
    exact m2 _ (dV.dP fB.right _)
  ·have Gz:∀az:ar,p.jc az=az:=by
    intro az
    unfold c2.jc
    split
    ·rename_i h8
     have:p.o= .hole:=by
      by_cases h:p.o= .hole
      ·exact h
      ·exact(mD ⟨h8,h⟩).elim
     rw[this]
    ·rfl
   obtain⟨ms,m1,m2⟩:=ih s (fun cX eW=>b9 cX (by simp[eW])) pb
   refine⟨ms,fun m hm=>⟨(vD p ps).1 _ (m1 m hm).1,(m1 m hm).2⟩,?_⟩
   intro az fB
   simp only[List.map_cons,I.er]at fB
   show h9 (p.jc az) ps=_
   rw[Gz];exact m2 az fB.right
theorem UG {s az:ar}:∀(a:I) (d:I),dV a.ag az s→view s a=some d→view az a=some d:=by
 intro a d h
 have:=F_ (s:=s) (az:=az) a d
 intro aM
 cases a with
 |h x q=>simp only[view]at aM⊢;rw[h x (by simp[I.ag])];exact aM
 |au x q=>simp only[view]at aM⊢;rw[h x (by simp[I.ag])];exact aM
 |fn f cap=>
  refine this (fun u hu _=>h u hu) aM
 |_=>exact aM
theorem UH {p:c2} {s az:ar} (h:dV p.a.ag az s) (fW:p.ok s):p.ok az:=by
 unfold c2.ok at fW⊢
 split
 ·rename_i b9
  rw[if_pos b9]at fW
  cases cE:p.a with
  |h x q=>
   rw[cE]at fW
   simp only at fW⊢
   rw[h x (by simp[cE,I.ag])];exact fW
  |_=>rw[cE]at fW;exact fW.elim
 ·rename_i b9
  rw[if_neg b9]at fW
  exact UG _ _ h fW
def BA (C:cw) (o:cj) (s:ar) (k3:fR) (ms:List hr):Prop:=
 (∀az,dV k3.bZ az s→∀K:ar→Prop,K (dP ms az)→l7 C az o K)∧(∀m∈ms,m.x∈k3.T∧∀u∈m.d.ag,u∈k3.H)∧(∀u∈k3.bZ,∀x∈(s u).ag,x∈k3.H)∧(k3.c=true→∀u∈k3.bZ,(s u).clean=true)
theorem Le (dst:Option Nat) (av:I):∃ms:List hr,(∀m∈ms,m.x∈dst.toList∧m.d=av)∧∀s1:ar,fin s1 dst av=dP ms s1:=by
 cases dst with
 |none=>exact⟨[],by simp,fun s=>rfl⟩
 |some t=>
  simp only[fin]
  by_cases h:av.plain=true
  ·exact⟨[⟨.no,t,av⟩],by simp,fun s=>by rw[if_pos h,FT]⟩
  ·exact⟨[⟨.c5,t,av⟩],by simp,fun s=>by rw[if_neg h,Kg]⟩
theorem BB {s:ar} {bZ:List Nat} {dst:Option Nat} {c7:List Nat} {av:I}:(∀u∈(jv s bZ dst c7 av).bZ,∀x∈(s u).ag,x∈(jv s bZ dst c7 av).H)∧((jv s bZ dst c7 av).c=true→∀u∈(jv s bZ dst c7 av).bZ,(s u).clean=true):=by
 refine⟨fun u hu x aw=> ?_,fun aq=> ?_⟩
 ·simp only[jv,List.mem_append,List.mem_flatMap];exact .inl ⟨u,hu,aw⟩
 ·simp only[jv,List.all_eq_true]at aq;exact aq
theorem GA {s:ar} {f:aK} {args:List aK} {K:List Nat→I→ar→Prop} (h:Gx C s f args K):
  ∃c7 av ms,K c7 av (dP ms s)∧(∀m∈ms,m.x∈c7∧m.d.ag=[])∧∀az,dV (use s (.call f args)) az s→∀dM:I→ar→Prop,dM av (dP ms az)→Bl C az f args dM:=by
 obtain⟨g,caps,ps,r,h1,gI,ah,aC,a8,bK,cU,cJ,fw⟩:=h
 have UI:∀p∈ps,Bz s p (fun d=>d=p.d∧p.d.gW=true):=by
  intro p au b9
  have:=aC p au
  simp only[c2.ok,b9,if_true]at this
  cases cE:p.a with
  |h x q=>rw[cE]at this;exact⟨x,q,p.d,rfl,this.1,⟨rfl,this.2.1⟩,this.2.2.imp id fun h=>h.1⟩
  |_=>rw[cE]at this;exact this.elim
 obtain⟨⟨pa,R,a2⟩,a3⟩:=UB ps s UI a8
 obtain⟨rK,kW,iP⟩:=UE ps (fo s ps) a3 a8
 have pZ:∀u∈I.er (ps.map (·.a)),u∈use s (.call f args):=by
  rw[ah]
  intro u hu
  simp only[use,List.mem_append]
  have key:∀(gH l2:List I),u∈I.er (gH++l2)→u∈I.er gH∨u∈I.er l2:=by
   intro gH
   induction gH with
   |nil=>intro l2 h;exact .inr h
   |cons a gH ih=>
    intro l2 h
    simp only[List.cons_append,I.er,List.mem_append]at h⊢
    rcases h with h|h
    ·exact .inl (.inl h)
    ·exact(ih l2 h).imp .inr id
  rcases key _ _ hu with hu|hu
  ·exact .inr (aK.Bh u hu)
  ·refine .inl (aK.s6 u ?_)
   rw[h1];exact hu
 have gT:h9 (fo s ps) ps=dP (pa++rK) s:=by
  rw[l6,←a2 s (fun _ _=>rfl),iP _ (fun _ _=>rfl)]
 refine⟨qU ps,r,pa++rK,by rw[←gT];exact fw,?_,?_⟩
 ·intro m hm
  rcases List.mem_append.1 hm with hm|hm
  ·exact R m hm
  ·exact kW m hm
 ·intro az ag dM hk
  have qQ:dV (I.er (ps.map (·.a))) az s:=ag.sub pZ
  have bC:dV (f.use s) az s:=by simp only[use]at ag;exact ag.left
  have aw:dV (aK.ov s args) az s:=by simp only[use]at ag;exact ag.right
  have aS:h9 (fo az ps) ps=dP (pa++rK) az:=by
   rw[l6,←a2 az qQ,iP]
   rw[a2 az qQ,a2 s (fun _ _=>rfl)]
   exact dV.dP qQ _
  exact⟨g,caps,ps,r,by rw[aK.fH bC];exact h1,gI,by rw[aK.FX aw];exact ah,fun p au=>UH (qQ.sub (UA au)) (aC p au),a8,bK,cU,cJ,by rw[aS];exact hk⟩
mutual
theorem Lf {s az:ar}:∀(d:I),dV d.ag az s→d.fX az=d.fX s
 | .h x q,h=>by simp only[I.fX];rw[h x (by simp[I.ag])]
 | .ae x q,h=>by simp only[I.fX];rw[h x (by simp[I.ag])]
 | .fn f cap,h=>by simp only[I.fX];exact Lg cap (by simpa only[I.ag]using h)
 | .au _ _,_=>by simp only[I.fX]
 | .hole,_=>by simp only[I.fX]
 | .bool _,_=>by simp only[I.fX]
 | .fb,_=>by simp only[I.fX]
 | .int _ _,_=>by simp only[I.fX]
 | .str _,_=>by simp only[I.fX]
 | .dI,_=>by simp only[I.fX]
 | .bk,_=>by simp only[I.fX]
 | .slice _,_=>by simp only[I.fX]
 | .an _ _,_=>by simp only[I.fX]
 | .ref _,_=>by simp only[I.fX]
 | .bd _,_=>by simp only[I.fX]
 | .agg _,_=>by simp only[I.fX]
 | .tuple _,_=>by simp only[I.fX]
 | .en _,_=>by simp only[I.fX]
theorem Lg {s az:ar}:∀(ds:List I),dV (I.er ds) az s→I.oy az ds=I.oy s ds
 |[],_=>rfl
 |d::ds,h=>by
  simp only[I.er]at h
  simp only[I.oy];rw[Lf d h.left,Lg ds h.right]
end
theorem GB {s az:ar} {us:List Nat} (h:dV (us.flatMap fun u=>u::(s u).ag) az s):jL az us=jL s us:=by
 unfold jL
 refine List.map_congr_left fun u hu=> ?_
 rw[h u (List.mem_flatMap.2 ⟨u,hu,by simp⟩)]
theorem GC {s az:ar}:∀(L:List (Nat×I)),(∀p∈L,dV p.2.ag az s)→lM az L=lM s L
 |[],_=>rfl
 |p::L,h=>by
  simp only[lM];rw[Lf p.2 (h p (by simp)),GC L (fun q c6=>h q (by simp[c6]))]
theorem Lh:∀(L:List (Nat×I)) (s:ar),nd s L=dP (L.map fun p=>⟨.no,p.1,p.2⟩) s
 |[],s=>rfl
 |p::L,s=>by
  simp only[nd,List.map_cons]
  rw[Lh L,FT]
  exact(l6 [⟨.no,p.1,p.2⟩] _ s).symm
theorem UJ {s:ar} {b0:gb} {K:List Nat→I→ar→Prop} (h:oC C s b0 K):
  ∃c7 av ms,K c7 av (dP ms s)∧(∀m∈ms,m.x∈c7∧∀v∈m.d.ag,∃u∈use s b0,v∈(s u).ag)∧∀az,dV (use s b0) az s→∀dM:I→ar→Prop,dM av (dP ms az)→oz C az b0 dM:=by
 have plain:(∃av s1,bR C s b0=some (av,s1)∧K (dL s b0) av s1)→(∀az (dM:I→ar→Prop) av s1,bR C az b0=some (av,s1)→dM av s1→oz C az b0 dM)→
   ∃c7 av ms,K c7 av (dP ms s)∧(∀m∈ms,m.x∈c7∧∀v∈m.d.ag,∃u∈use s b0,v∈(s u).ag)∧∀az,dV (use s b0) az s→∀dM:I→ar→Prop,dM av (dP ms az)→oz C az b0 dM:=by
  rintro⟨av,s1,h1,ah⟩ hw
  obtain⟨ms,aS,aZ,aQ⟩:=Kv h1
  subst aS
  exact⟨_,av,ms,ah,fun m hm=>⟨(aZ m hm).1,fun v aM=>by rw[(aZ m hm).2]at aM;cases aM⟩,fun az ag dM hk=>hw az dM av _ (aQ az ag) hk⟩
 cases b0 with
 |call f args=>
  obtain⟨c7,av,ms,R,a2,a3⟩:=GA h
  exact⟨c7,av,ms,R,fun m hm=>⟨(a2 m hm).1,fun v aM=>by rw[(a2 m hm).2]at aM;cases aM⟩,fun az ag dM hk=>a3 az ag dM hk⟩
 |mZ f args u x=>
  obtain⟨b8,cy,aq⟩:=h
  obtain⟨c7,av,ms,⟨R,GD,UK⟩,a2,a3⟩:=GA aq
  have e:∀s:ar,du (dP ms s) u (.h x [])=dP (ms++[⟨.no,u,.h x []⟩]) s:=fun s=>by rw[l6,←FT]
  refine⟨u::c7,av,ms++[⟨.no,u,.h x []⟩],by rw[←e];exact UK,?_,?_⟩
  ·intro m hm
   rcases List.mem_append.1 hm with hm|hm
   ·exact⟨by simp[(a2 m hm).1],fun v aM=>by rw[(a2 m hm).2]at aM;cases aM⟩
   ·simp only[List.mem_singleton]at hm;subst hm
    refine⟨by simp,fun v aM=>⟨u,by simp[use],?_⟩⟩
    rw[b8];exact aM
  ·intro az ag dM hk
   have Li:az u=s u:=ag u (by simp[use])
   have ex:az x=s x:=ag x (by simp[use])
   refine⟨by rw[Li];exact b8,by rw[ex];exact cy,a3 az (fun y bt=>ag y (by simp only[use,List.mem_cons]at bt⊢;exact .inr (.inr bt))) _ ⟨?_,?_,?_⟩⟩
   ·have:=R;simp only[dP]at this⊢;rw[Li];exact this
   ·have:=GD;simp only[dP]at this⊢;rw[ex];exact this
   ·rw[e];exact hk
 |ky f args us=>
  obtain⟨cy,aq⟩:=h
  obtain⟨c7,av,ms,⟨R,GD⟩,a2,a3⟩:=GA aq
  have e:∀az:ar,nd (dP ms az) (jL s us)=dP (ms++(jL s us).map fun p=>⟨.no,p.1,p.2⟩) az:=fun az=>by rw[l6,Lh]
  have kT:∀{az:ar},dV (us.flatMap fun u=>u::(s u).ag) az s→∀p∈jL s us,dV p.2.ag az s:=fun {az} ag p au v aM=>by
   obtain⟨u,hu,rfl⟩:=List.mem_map.1 au
   exact ag v (List.mem_flatMap.2 ⟨u,hu,by simp[aM]⟩)
  refine⟨us++c7,av,ms++(jL s us).map fun p=>⟨.no,p.1,p.2⟩,by rw[←e];exact GD,?_,?_⟩
  ·intro m hm
   rcases List.mem_append.1 hm with hm|hm
   ·exact⟨by simp[(a2 m hm).1],fun v aM=>by rw[(a2 m hm).2]at aM;cases aM⟩
   ·obtain⟨p,au,rfl⟩:=List.mem_map.1 hm
    obtain⟨u,hu,rfl⟩:=List.mem_map.1 au
    exact⟨List.mem_append_left _ hu,fun v aM=>⟨u,by simp only[use,List.mem_append,List.mem_flatMap];exact .inl ⟨u,hu,by simp⟩,aM⟩⟩
  ·intro az ag dM hk
   simp only[use]at ag
   refine⟨by rw[GB ag.left,GC _ (kT ag.left)];exact cy,a3 az ag.right _ ⟨?_,?_⟩⟩
   ·rw[GB ag.left,GC _ (fun p au=>(kT ag.left p au).dP ms)];exact R
   ·rw[GB ag.left,e];exact hk
 |shr b0=>
  obtain⟨av,s1,h1,ah,aC,a8⟩:=h
  obtain⟨ms,aS,aZ,aQ⟩:=Kv h1
  subst aS
  exact⟨_,av.share,ms,a8,fun m hm=>⟨(aZ m hm).1,fun v aM=>by rw[(aZ m hm).2]at aM;cases aM⟩,fun az ag dM hk=>⟨av,_,aQ az ag,ah,aC,hk⟩⟩
 |_=>exact plain h (fun az dM av s1 h1 ah=>⟨av,s1,h1,ah⟩)
theorem UL {s:ar} {o:cj} {K:fR→ar→Prop} (h:nJ C s o K):∃k3 ms,K k3 (dP ms s)∧BA C o s k3 ms:=by
 have op:∀(bZ:List Nat),(∀u∈use s o.b0,u∈bZ)→(∀az,dV bZ az s→∀dM:ar→Prop,oz C az o.b0 (fun av s1=>dM (fin s1 o.dst av))→l7 C az o dM)→
   oC C s o.b0 (fun c7 av s1=>K (jv s bZ o.dst c7 av) (fin s1 o.dst av))→∃k3 ms,K k3 (dP ms s)∧BA C o s k3 ms:=by
  intro bZ pZ mo hw
  obtain⟨c7,av,ms,h1,ah,aC⟩:=UJ hw
  obtain⟨ln,oD,bW⟩:=Le o.dst av
  refine⟨jv s bZ o.dst c7 av,ms++ln,?_,?_,?_,BB.1,BB.2⟩
  ·rw[l6,←bW];exact h1
  ·intro az ag dM hk
   refine mo az ag dM (aC az (ag.sub pZ) _ ?_)
   rw[bW,←l6];exact hk
  ·intro m hm
   simp only[jv,List.mem_append]
   rcases List.mem_append.1 hm with hm|hm
   ·refine⟨.inr (ah m hm).1,fun v aM=>.inl ?_⟩
    obtain⟨u,hu,mq⟩:=(ah m hm).2 v aM
    exact List.mem_flatMap.2 ⟨u,pZ u hu,mq⟩
   ·exact⟨.inl (oD m hm).1,fun u hu=>.inr (by rw[(oD m hm).2]at hu;exact hu)⟩
 have skip:∀t,(∀az,dV [t] az s→∀dM:ar→Prop,dM (fin az o.dst (.tuple []))→l7 C az o dM)→K (jv s [t] o.dst [] (.tuple [])) (fin s o.dst (.tuple []))→∃k3 ms,K k3 (dP ms s)∧BA C o s k3 ms:=by
  intro t mo hk
  obtain⟨ln,oD,bW⟩:=Le o.dst (.tuple [])
  refine⟨_,ln,by rw[←bW];exact hk,?_,?_,BB.1,BB.2⟩
  ·intro az ag dM lj
   exact mo az ag dM (by rw[bW];exact lj)
  ·intro m hm
   simp only[jv,List.mem_append]
   exact⟨.inl (oD m hm).1,fun u hu=>by rw[(oD m hm).2]at hu;simp[I.ag]at hu⟩
 unfold nJ at h
 split at h
 ·rename_i b9
  exact op _ (fun _ h=>h) (fun az _ dM hw=>by unfold l7;rw[b9];exact hw) h
 ·rename_i t b b9
  split at h
  ·rename_i fZ ae
   split at h
   ·rename_i e
    refine op (t::use s o.b0) (fun u hu=>by simp[hu]) (fun az ag dM hw=> ?_) h
    have:az t=s t:=ag t (by simp)
    unfold l7
    rw[b9]
    simp only[this,ae,if_pos e]
    exact hw
   ·rename_i e
    refine skip t (fun az ag dM hk=> ?_) h
    have:az t=s t:=ag t (by simp)
    unfold l7
    rw[b9]
    simp only[this,ae,if_neg e]
    exact hk
  ·rename_i ae
   refine skip t (fun az ag dM hk=> ?_) h
   have:az t=s t:=ag t (by simp)
   unfold l7
   rw[b9]
   simp only[this,ae]
   exact hk
  ·exact h.elim
def rX (C:cw) (ros:List cj):ar→List (Nat×fR×List hr)→Prop
 |_,[]=>True
 |s,e::r=>(∃o,ros[e.1]? =some o∧BA C o s e.2.1 e.2.2)∧rX C ros (dP e.2.2 s) r
def pj (s:ar) (r:List (Nat×fR×List hr)):ar:=r.foldl (fun s e=>dP e.2.2 s) s
def om (a b:List Nat):Bool:=a.all fun x=> !b.contains x
theorem vE {a b:List Nat} (h:om a b=true):∀x∈a,x∉b:=by
 intro x aw
 simp only[om,List.all_eq_true]at h
 simpa using h x aw
def tj (a b:fR):Bool:=om b.T a.bZ&&om b.T a.H&&om b.T a.T&&om a.T b.bZ&&om a.T b.H&&b.c
theorem UM {ros:List cj} {s:ar} {a b:Nat×fR×List hr} {r:List (Nat×fR×List hr)} (h:rX C ros s (a::b::r)) (ao:tj a.2.1 b.2.1=true):
  rX C ros s (b::a::r)∧pj s (b::a::r)=pj s (a::b::r):=by
 obtain⟨⟨UN,cE,R,a2,a3,a4⟩,⟨en,ae,kW,iP,lJ,b4⟩,aX⟩:=h
 simp only[tj,Bool.and_eq_true]at ao
 obtain⟨⟨⟨⟨⟨ry,i2⟩,i3⟩,i4⟩,i5⟩,EW⟩:=ao
 have GF:∀u∈b.2.1.bZ,dP a.2.2 s u=s u:=by
  intro u hu
  refine Uv _ _ _ (fun m hm e=> ?_) (b4 EW u hu)
  exact vE i4 m.x (a2 m hm).1 (e▸hu)
 have GG:∀u∈a.2.1.bZ,dP b.2.2 s u=s u:=by
  intro u hu
  refine Uw _ _ _ fun m hm=>⟨fun e=> ?_,fun aw=> ?_⟩
  ·exact vE ry m.x (iP m hm).1 (e▸hu)
  ·exact vE i2 m.x (iP m hm).1 (a3 u hu _ aw)
 have Lj:dP b.2.2 (dP a.2.2 s)=dP a.2.2 (dP b.2.2 s):=by
  refine Uy _ _ _ fun m hm n a6=>⟨fun e=> ?_,fun h=> ?_,fun h=> ?_⟩
  ·exact vE i3 n.x (iP n a6).1 (e▸(a2 m hm).1)
  ·exact vE i2 n.x (iP n a6).1 ((a2 m hm).2 _ h)
  ·exact vE i5 m.x (a2 m hm).1 ((iP n a6).2 _ h)
 refine⟨⟨⟨en,ae,?_,iP,?_,?_⟩,⟨UN,cE,?_,a2,?_,?_⟩,?_⟩,?_⟩
 ·intro az ag K hk
  exact kW az (fun u hu=>(ag u hu).trans (GF u hu).symm) K hk
 ·intro u hu x aw
  exact lJ u hu x (by rw[GF u hu];exact aw)
 ·intro aq u hu
  have:=b4 aq u hu
  rwa [GF u hu]at this
 ·intro az ag K hk
  exact R az (fun u hu=>(ag u hu).trans (GG u hu)) K hk
 ·intro u hu x aw
  rw[GG u hu]at aw
  exact a3 u hu x aw
 ·intro aq u hu
  rw[GG u hu]
  exact a4 aq u hu
 ·rw[←Lj];exact aX
 ·simp only[pj,List.foldl_cons]
  rw[Lj]
theorem UO {ros:List cj} {e:Nat×fR×List hr} {post:List (Nat×fR×List hr)}:∀(pre:List (Nat×fR×List hr)) (s:ar),rX C ros s (pre++e::post)→(∀a∈pre,tj a.2.1 e.2.1=true)→
  rX C ros s (e::(pre++post))∧pj s (e::(pre++post))=pj s (pre++e::post):=by
 intro pre
 induction pre with
 |nil=>intro s h _;exact⟨h,rfl⟩
 |cons a pre ih=>
  intro s h ao
  obtain⟨h1,ah⟩:=h
  obtain⟨g1,g2⟩:=ih _ ah fun b ae=>ao b (by simp[ae])
  have aq:rX C ros s (a::e::(pre++post)):=⟨h1,g1⟩
  obtain⟨b8,cy⟩:=UM aq (ao a (by simp))
  refine⟨b8,cy.trans ?_⟩
  simp only[pj,List.foldl_cons,List.cons_append]at g2⊢
  exact g2
end
def yq:List (List Nat)→List (List Nat)→List (List Nat)
 |done,[]=>done
 |done,a::r=>yq (done++[a++a.flatMap fun e=>(done[e]?).getD []]) r
def tk (g_:List (List Nat)):List (List Nat):=yq [] g_
theorem UP {g_:List (List Nat)} {l:List Nat} (hl:∀u i v,l=u++i::v→∀e∈(g_[i]?).getD [],e∈u):∀(rest pre done:List (List Nat)),g_=pre++rest→done.length=pre.length→
  (∀u i v,l=u++i::v→∀e∈(done[i]?).getD [],e∈u)→∀u i v,l=u++i::v→∀e∈((yq done rest)[i]?).getD [],e∈u:=by
 intro rest
 induction rest with
 |nil=>intro pre done _ _ h;exact h
 |cons a rest ih=>
  intro pre done Lk hlen h
  simp only[yq]
  refine ih (pre++[a]) _ (by simp[Lk]) (by simp[hlen]) ?_
  intro u i v hu e he
  by_cases ao:i<done.length
  ·rw[List.getElem?_append_left ao]at he
   exact h u i v hu e he
  ·rw[List.getElem?_append_right (by omega)]at he
   by_cases vo:i-done.length=0
   ·rw[vo]at he
    simp only[List.getElem?_cons_zero,Option.getD_some,List.mem_append,List.mem_flatMap]at he
    have BC:(g_[i]?).getD []=a:=by
     have:i=pre.length:=by omega
     rw[Lk,this,List.getElem?_append_right (Nat.le_refl _)];simp
    rcases he with he|⟨gE,nI,he⟩
    ·exact hl u i v hu e (by rw[BC];exact he)
    ·have x5:=hl u i v hu gE (by rw[BC];exact nI)
     obtain⟨rL,Be,rfl⟩:=List.append_of_mem x5
     have:=h rL gE (Be++i::v) (by rw[hu];simp) e he
     simp[this]
   ·rw[List.getElem?_eq_none (by simp;omega)]at he
    simp at he
theorem UQ {g_:List (List Nat)} {l:List Nat} (hl:∀u i v,l=u++i::v→∀e∈(g_[i]?).getD [],e∈u):∀u i v,l=u++i::v→∀e∈((tk g_)[i]?).getD [],e∈u:=
 UP hl g_ [] [] rfl rfl fun u i v _ e he=>by simp at he
def mE (nh:List (List Nat)):Nat→List (Nat×fR)→List fR→Bool
 |_,_,[]=>true
 |j,es,f::ay=>(es.all fun e=>((nh[j]?).getD []).contains e.1||tj e.2 f)&&mE nh (j+1) ((j,f)::es) ay
def GH (nh:List (List Nat)) (a b:Nat×fR×List hr):Prop:=a.1∈(nh[b.1]?).getD []∨tj a.2.1 b.2.1=true
theorem UR {nh:List (List Nat)}:∀(hT:List (Nat×fR×List hr)) (j:Nat) (es:List (Nat×fR)),hT.map (·.1)=(List.range hT.length).map (·+j)→mE nh j es (hT.map (·.2.1))=true→
  hT.Pairwise (GH nh)∧∀e∈es,∀b∈hT,e.1∈(nh[b.1]?).getD []∨tj e.2 b.2.1=true:=by
 intro hT
 induction hT with
 |nil=>intro j es _ _;exact⟨.nil,fun e _ b ae=>by cases ae⟩
 |cons a hT ih=>
  intro j es tl fW
  rw[List.length_cons,List.range_succ_eq_map,List.map_cons,List.map_cons,List.map_map]at tl
  simp only[List.cons.injEq,Nat.zero_add]at tl
  obtain⟨b_,tl⟩:=tl
  simp only[List.map_cons,mE,Bool.and_eq_true,List.all_eq_true,Bool.or_eq_true]at fW
  obtain⟨h1,ah⟩:=fW
  obtain⟨g1,g2⟩:=ih (j+1) _ (by rw[tl];congr 1;funext x;simp;omega) ah
  refine⟨.cons (fun b ae=> ?_) g1,fun e he b ae=> ?_⟩
  ·have:=g2 (j,a.2.1) (by simp) b ae
   simp only[GH,b_];exact this
  ·rcases List.mem_cons.1 ae with rfl|ae
   ·rw[b_]
    exact(h1 e he).imp (fun h=>by simpa using h) id
   ·exact g2 e (by simp[he]) b ae
section
variable {C:cw}
theorem US {K:Option (List fR)→ar→Prop}:∀(os pre:List cj) (s:ar) (acc:List fR),cT C s os (some acc) K→
  ∃hT,rX C (pre++os) s hT∧hT.map (·.1)=(List.range os.length).map (·+pre.length)∧K (some ((hT.map (·.2.1)).reverse++acc)) (pj s hT):=by
 intro os
 induction os with
 |nil=>intro pre s acc h;exact⟨[],trivial,rfl,h⟩
 |cons o os ih=>
  intro pre s acc h
  obtain⟨k3,ms,h1,ah⟩:=UL h
  obtain⟨hT,g1,g2,g3⟩:=ih (pre++[o]) _ (k3::acc) h1
  refine⟨(pre.length,k3,ms)::hT,⟨⟨o,?_,ah⟩,?_⟩,?_,?_⟩
  ·rw[List.getElem?_append_right (Nat.le_refl _)];simp
  ·simpa using g1
  ·rw[List.length_cons,List.range_succ_eq_map,List.map_cons,List.map_cons,List.map_map,g2]
   simp only[List.cons.injEq,Nat.zero_add,true_and]
   congr 1;funext x;simp;omega
  ·simpa [pj]using g3
theorem UT {ros:List cj} {nh:List (List Nat)} {K:ar→Prop}:∀(l:List Nat) (hT:List (Nat×fR×List hr)) (s:ar),rX C ros s hT→hT.Pairwise (GH nh)→l.Nodup→(hT.map (·.1)).Nodup→
  (∀i,i∈l↔i∈hT.map (·.1))→(∀u i v,l=u++i::v→∀e∈(nh[i]?).getD [],e∈hT.map (·.1)→e∈u)→K (pj s hT)→kk C ros s l K:=by
 intro l
 induction l with
 |nil=>
  intro hT s _ _ _ _ hm _ hk
  cases hT with
  |nil=>exact hk
  |cons e hT=>have:=(hm e.1).2 (by simp);cases this
 |cons i l ih=>
  intro hT s aq au a6 xY hm cr hk
  obtain⟨e,he,ao⟩:=List.mem_map.1 ((hm i).1 (by simp))
  obtain⟨pre,post,rfl⟩:=List.append_of_mem he
  have UU:∀a∈pre,tj a.2.1 e.2.1=true:=by
   intro a cE
   have aX:=(List.pairwise_append.1 au).2.2 a cE e (by simp)
   rcases aX with aX|aX
   ·rw[ao]at aX
    have:=cr [] i l rfl a.1 aX (by simp only[List.map_append,List.mem_append,List.mem_map];exact .inl ⟨a,cE,rfl⟩)
    cases this
   ·exact aX
  obtain⟨g1,g2⟩:=UO pre s aq UU
  obtain⟨⟨o,UW,BD⟩,g3⟩:=g1
  have Ll:i∉(pre++post).map (·.1):=by
   have:(pre.map (·.1)++e.1::post.map (·.1)).Nodup:=by simpa using xY
   have bL:=(List.perm_middle.nodup_iff.1 this)
   rw[List.nodup_cons]at bL
   rw[←ao];simpa using bL.1
  simp only[kk]
  rw[←ao,UW]
  refine BD.1 s (fun _ _=>rfl) _ ?_
  rw[List.nodup_cons]at a6
  refine ih (pre++post) _ g3 ?_ a6.2 ?_ ?_ ?_ ?_
  ·exact au.sublist ((List.Sublist.refl pre).append (List.sublist_cons_self e post))
  ·have:(pre.map (·.1)++e.1::post.map (·.1)).Nodup:=by simpa using xY
   have bL:=(List.perm_middle.nodup_iff.1 this)
   rw[List.nodup_cons]at bL
   simpa using bL.2
  ·intro j
   constructor
   ·intro b_
    have h1:=(hm j).1 (by simp[b_])
    simp only[List.map_append,List.map_cons,List.mem_append,List.mem_cons]at h1⊢
    rcases h1 with h1|rfl|h1
    ·exact .inl h1
    ·exact(a6.1 (ao▸b_)).elim
    ·exact .inr h1
   ·intro b_
    have h1:=(hm j).2 (by
     simp only[List.map_append,List.map_cons,List.mem_append,List.mem_cons]at b_⊢
     exact b_.imp id .inr)
    rcases List.mem_cons.1 h1 with rfl|h1
    ·exact(Ll b_).elim
    ·exact h1
  ·intro u j v hu x aw GI
   have h1:=cr (i::u) j v (by rw[hu];rfl) x aw (by
    simp only[List.map_append,List.map_cons,List.mem_append,List.mem_cons]at GI⊢
    exact GI.imp id .inr)
   rcases List.mem_cons.1 h1 with rfl|h1
   ·exact(Ll GI).elim
   ·exact h1
  ·have:pj s (e::(pre++post))=pj (dP e.2.2 s) (pre++post):=rfl
   rw[←this,g2];exact hk
theorem Lm {ros:List cj} {g_:List (List Nat)} {s:ar} {K:ar→Prop} (hlen:g_.length=ros.length)
  (h:cT C s ros (some []) (fun acc s=>mE (tk g_) 0 [] (acc.getD []).reverse=true∧K s)):∀l,Gj g_ l→kk C ros s l K:=by
 intro l ⟨gH,l2,x8⟩
 obtain⟨hT,g1,g2,g3,g4⟩:=US ros [] s [] h
 simp only[List.nil_append,List.append_nil,List.length_nil,Option.getD_some,List.reverse_reverse]at g1 g2 g3
 have hl:hT.length=ros.length:=by have:=congrArg List.length g2;simpa using this
 have tl:hT.map (·.1)=(List.range hT.length).map (·+0):=by rw[g2,hl]
 have aX:hT.map (·.1)=List.range ros.length:=by rw[g2];simp
 obtain⟨fQ,_⟩:=UR hT 0 [] tl g3
 refine UT l hT s g1 fQ gH (by rw[aX];exact List.nodup_range) (fun i=> ?_) (fun u i v hu e he _=>UQ x8 u i v hu e he) g4
 rw[aX,l2,hlen,List.mem_range]
end
def ef (C:cw) (dst:Option Nat) (os:List cj) (K:Option (List fR)→ar→Prop):Option (I×ar)→Prop
 |some (av,s1)=>cT C (fin s1 dst av) os none K
 |none=>False
def ej (C:cw) (l:List (Nat×I)) (bZ c7:List Nat) (dst:Option Nat) (os:List cj) (a:List fR) (K:Option (List fR)→ar→Prop):Option (I×ar)→Prop
 |some (av,s1)=>cT C (fin s1 dst av) os (some (jv (ab l) bZ dst c7 av::a)) K
 |none=>False
def c0 (C:cw) (l:List (Nat×I)) (dst:Option Nat) (b0:gb) (t:Nat) (b:Bool) (os:List cj) (acc:Option (List fR)) (K:Option (List fR)→ar→Prop):I→Prop
 | .bool fZ=>if fZ=b then oC C (ab l) b0 (fun c7 av s1=>cT C (fin s1 dst av) os (p9 acc (jv (ab l) (t::use (ab l) b0) dst c7 av)) K)else cT C (fin (ab l) dst (.tuple [])) os (p9 acc (jv (ab l) [t] dst [] (.tuple []))) K
 | .tuple []=>cT C (fin (ab l) dst (.tuple [])) os (p9 acc (jv (ab l) [t] dst [] (.tuple []))) K
 |_=>False
section
variable {C:cw} {l:List (Nat×I)} {os:List cj} {K:Option (List fR)→ar→Prop} {dst:Option Nat} {a:List fR} {acc:Option (List fR)}
theorem BE {s:ar} {b0:gb} {K:List Nat→I→ar→Prop} (a6:b0.tg=false):oC C s b0 K=(match bR C s b0 with
  |some (av,s1)=>K (dL s b0) av s1
  |none=>False):=by
 apply propext
 constructor
 ·intro h
  cases b0<;>first
   |(simp[gb.tg]at a6;done)
   |(obtain⟨av,s1,h1,ah⟩:=h;rw[h1];exact ah)
 ·intro h
  split at h
  ·rename_i av s1 he
   cases b0<;>first
    |(simp[gb.tg]at a6;done)
    |exact⟨av,s1,he,h⟩
  ·exact h.elim
theorem Ln:cT C (ab l) [] acc K=K acc (ab l):=rfl
theorem jU {b0:gb} (a6:b0.tg=false):cT C (ab l) (⟨dst,b0,none⟩::os) none K=ef C dst os K (bR C (ab l) b0):=by
 simp only[cT,nJ,p9]
 rw[BE a6]
 cases bR C (ab l) b0 with
 |none=>rfl
 |some p=>rfl
theorem j8 {b0:gb} (a6:b0.tg=false):cT C (ab l) (⟨dst,b0,none⟩::os) (some a) K=ej C l (use (ab l) b0) (dL (ab l) b0) dst os a K (bR C (ab l) b0):=by
 simp only[cT,nJ,p9]
 rw[BE a6]
 cases bR C (ab l) b0 with
 |none=>rfl
 |some p=>rfl
theorem Lo {b0:gb} {t:Nat} {b:Bool}:cT C (ab l) (⟨dst,b0,some (t,b)⟩::os) acc K=c0 C l dst b0 t b os acc K (ab l t):=by
 simp only[cT,nJ]
 generalize ab l t=v
 cases v<;>first|rfl|(rename_i vs;cases vs<;>rfl)
theorem gd {b0:gb} {t:Nat} {b:Bool} (a6:b0.tg=false):c0 C l dst b0 t b os none K (.bool b)=ef C dst os K (bR C (ab l) b0):=by
 simp only[c0,if_true]
 rw[BE a6]
 cases bR C (ab l) b0 with
 |none=>rfl
 |some p=>rfl
theorem gf {b0:gb} {t:Nat} {b:Bool} (a6:b0.tg=false):c0 C l dst b0 t b os (some a) K (.bool b)=ej C l (t::use (ab l) b0) (dL (ab l) b0) dst os a K (bR C (ab l) b0):=by
 simp only[c0,if_true]
 rw[BE a6]
 cases bR C (ab l) b0 with
 |none=>rfl
 |some p=>rfl
theorem UX {b0:gb} {t:Nat}:c0 C l dst b0 t true os none K (.bool false)=cT C (fin (ab l) dst (.tuple [])) os none K∧c0 C l dst b0 t false os none K (.bool true)=cT C (fin (ab l) dst (.tuple [])) os none K∧
  (∀b,c0 C l dst b0 t b os none K (.tuple [])=cT C (fin (ab l) dst (.tuple [])) os none K):=⟨rfl,rfl,fun _=>rfl⟩
theorem UY {b0:gb} {t:Nat}:c0 C l dst b0 t true os (some a) K (.bool false)=cT C (fin (ab l) dst (.tuple [])) os (some (jv (ab l) [t] dst [] (.tuple [])::a)) K∧
  c0 C l dst b0 t false os (some a) K (.bool true)=cT C (fin (ab l) dst (.tuple [])) os (some (jv (ab l) [t] dst [] (.tuple [])::a)) K∧
  (∀b,c0 C l dst b0 t b os (some a) K (.tuple [])=cT C (fin (ab l) dst (.tuple [])) os (some (jv (ab l) [t] dst [] (.tuple [])::a)) K):=⟨rfl,rfl,fun _=>rfl⟩
theorem UZ (av:I) (s1:ar):ef C dst os K (some (av,s1))=cT C (fin s1 dst av) os none K:=rfl
theorem U0 (bZ c7:List Nat) (av:I) (s1:ar):ej C l bZ c7 dst os a K (some (av,s1))=cT C (fin s1 dst av) os (some (jv (ab l) bZ dst c7 av::a)) K:=rfl
def jM (s:ar):I→Option (I×ar)
 | .h y q=>c7 s (.h y q)
 |d=>some (d,s)
def rY (s:ar):I→I→I→Option (I×ar)
 | .bool fZ,x,y=>some (if fZ then x else y,s)
 |_,_,_=>none
def dn (s:ar):Option I→Option (I×ar)
 |some d=>some (d,s)
 |none=>none
def dz:Option ar→Option (I×ar)
 |some s1=>some (.hole,s1)
 |none=>none
def iC (s:ar):List aK→List I
 |[]=>[]
 |x::xs=>aN s x::iC s xs
def kz (s:ar):List (Nat×aK)→List (Nat×I)
 |[]=>[]
 |(k,x)::xs=>(k,aN s x)::kz s xs
def lO (s:ar):Option aK→Option I
 |none=>none
 |some x=>some (aN s x)
theorem oE (s:ar) (x:Option I):(x.map fun d=>(d,s))=dn s x:=by cases x<;>rfl
theorem U1 (x:Option ar):(x.map fun s1=>(I.hole,s1))=dz x:=by cases x<;>rfl
theorem vF (s:ar):∀xs:List aK,xs.map (aN s)=iC s xs
 |[]=>rfl
 |x::xs=>by simp only[List.map_cons,iC,vF s xs]
theorem GJ (s:ar):∀xs:List (Nat×aK),(xs.map fun p=>(p.1,aN s p.2))=kz s xs
 |[]=>rfl
 |(k,x)::xs=>by simp only[List.map_cons,kz,GJ s xs]
theorem U2 (s:ar) (x:Option aK):x.map (aN s)=lO s x:=by cases x<;>rfl
theorem vG (x:aK):bR C (ab l) (.ct x)=some (aN (ab l) x,ab l):=by
 rfl
theorem vH (x:aK):bR C (ab l) (.iR x)=jM (ab l) (aN (ab l) x):=by
 simp only[bR];cases aN (ab l) x<;>rfl
theorem vI (c x y:aK):bR C (ab l) (.pick c x y)=rY (ab l) (aN (ab l) c) (aN (ab l) x) (aN (ab l) y):=by
 simp only[bR];cases aN (ab l) c<;>first|rfl|(rename_i b;cases b<;>rfl)
theorem vJ (T:TypeId):bR C (ab l) (.hc T)=dn (ab l) (hc C T):=by
 simp only[bR,oE]
theorem vK (T:TypeId) (x:aK):bR C (ab l) (.da T x)=da (ab l) (aN (ab l) x):=by
 rfl
theorem vL (T:TypeId) (ps:List (Nat×aK)):bR C (ab l) (.e0 T ps)=e0 C (ab l) T (kz (ab l) ps):=by
 simp only[bR,GJ]
theorem vM (T:TypeId) (n:Nat) (ps:List (Nat×aK)):bR C (ab l) (.dG T n ps)=dG C (ab l) T n (kz (ab l) ps):=by
 simp only[bR,GJ]
theorem vN (T:TypeId) (x:aK):bR C (ab l) (.ld T x)=dn (ab l) (ld C (ab l) T (aN (ab l) x)):=by
 simp only[bR,oE]
theorem vO (T:TypeId) (x y:aK):bR C (ab l) (.gu T x y)=dz (gu C (ab l) T (aN (ab l) x) (aN (ab l) y)):=by
 simp only[bR,U1]
theorem vP (x:aK):bR C (ab l) (.ga x)=dn (ab l) (ga (ab l) (aN (ab l) x)):=by
 simp only[bR,oE]
theorem vQ (op:BinOp) (T:TypeId) (x y:aK):bR C (ab l) (.ck op T x y)=dn (ab l) (ck C (ab l) op T (aN (ab l) x) (aN (ab l) y)):=by
 simp only[bR,oE]
theorem vR (op:UnOp) (x:aK):bR C (ab l) (.un op x)=dn (ab l) (un op (aN (ab l) x)):=by
 simp only[bR,oE]
theorem vS (A B:TypeId) (x:aK):bR C (ab l) (.gw A B x)=dn (ab l) (gw C (ab l) A B (aN (ab l) x)):=by
 simp only[bR,oE]
theorem vT (f:FuncId) (cs:List aK):bR C (ab l) (.iz f cs)=some (.fn f (iC (ab l) cs),ab l):=by
 simp only[bR,vF]
theorem vU (T:TypeId) (x y:aK):bR C (ab l) (.eS T x y)=dn (ab l) (eS C T (aN (ab l) x) (aN (ab l) y)):=by
 simp only[bR,oE]
theorem vV (T:TypeId) (x:aK) (dv ao:Option aK):bR C (ab l) (.fG T x dv ao)=fG C (ab l) T (aN (ab l) x) (lO (ab l) dv) (lO (ab l) ao):=by
 simp only[bR,U2]
theorem vW (T:TypeId) (x:aK) (k:Nat):bR C (ab l) (.c1 T x k)=dn (ab l) (c1 C (ab l) T (aN (ab l) x) k):=by
 simp only[bR,oE]
theorem vX (T:TypeId) (x y:aK):bR C (ab l) (.fc T x y)=dn (ab l) (fc C (ab l) T (aN (ab l) x) (aN (ab l) y)):=by
 simp only[bR,oE]
theorem vY (T:TypeId) (x y:aK):bR C (ab l) (.idx T x y)=dn (ab l) (idx C T (aN (ab l) x) (aN (ab l) y)):=by
 simp only[bR,oE]
theorem vZ (x:aK) (k:Nat):bR C (ab l) (.ex x k)=dn (ab l) (ex (ab l) (aN (ab l) x) k):=by
 simp only[bR,oE]
theorem v7 (T:TypeId) (x:aK):bR C (ab l) (.len T x)=dn (ab l) (mw C (ab l) T (aN (ab l) x)):=by
 simp only[bR,oE]
theorem v8 (T bZ:TypeId) (x y:aK):bR C (ab l) (.app T bZ x y)=my C (ab l) T bZ (aN (ab l) x) (aN (ab l) y):=by
 rfl
theorem U3:
  (∀(x:aK),cT C (ab l) (⟨dst,.ct x,none⟩::os) none K=ef C dst os K (some (aN (ab l) x,ab l)))∧
  (∀(x:aK),cT C (ab l) (⟨dst,.iR x,none⟩::os) none K=ef C dst os K (jM (ab l) (aN (ab l) x)))∧
  (∀(c x y:aK),cT C (ab l) (⟨dst,.pick c x y,none⟩::os) none K=ef C dst os K (rY (ab l) (aN (ab l) c) (aN (ab l) x) (aN (ab l) y)))∧
  (∀(T:TypeId),cT C (ab l) (⟨dst,.hc T,none⟩::os) none K=ef C dst os K (dn (ab l) (hc C T)))∧
  (∀(T:TypeId) (x:aK),cT C (ab l) (⟨dst,.da T x,none⟩::os) none K=ef C dst os K (da (ab l) (aN (ab l) x)))∧
  (∀(T:TypeId) (ps:List (Nat×aK)),cT C (ab l) (⟨dst,.e0 T ps,none⟩::os) none K=ef C dst os K (e0 C (ab l) T (kz (ab l) ps)))∧
  (∀(T:TypeId) (n:Nat) (ps:List (Nat×aK)),cT C (ab l) (⟨dst,.dG T n ps,none⟩::os) none K=ef C dst os K (dG C (ab l) T n (kz (ab l) ps)))∧
  (∀(T:TypeId) (x:aK),cT C (ab l) (⟨dst,.ld T x,none⟩::os) none K=ef C dst os K (dn (ab l) (ld C (ab l) T (aN (ab l) x))))∧
  (∀(T:TypeId) (x y:aK),cT C (ab l) (⟨dst,.gu T x y,none⟩::os) none K=ef C dst os K (dz (gu C (ab l) T (aN (ab l) x) (aN (ab l) y))))∧
  (∀(x:aK),cT C (ab l) (⟨dst,.ga x,none⟩::os) none K=ef C dst os K (dn (ab l) (ga (ab l) (aN (ab l) x))))∧
  (∀(op:BinOp) (T:TypeId) (x y:aK),cT C (ab l) (⟨dst,.ck op T x y,none⟩::os) none K=ef C dst os K (dn (ab l) (ck C (ab l) op T (aN (ab l) x) (aN (ab l) y))))∧
  (∀(op:UnOp) (x:aK),cT C (ab l) (⟨dst,.un op x,none⟩::os) none K=ef C dst os K (dn (ab l) (un op (aN (ab l) x))))∧
  (∀(A B:TypeId) (x:aK),cT C (ab l) (⟨dst,.gw A B x,none⟩::os) none K=ef C dst os K (dn (ab l) (gw C (ab l) A B (aN (ab l) x))))∧
  (∀(f:FuncId) (cs:List aK),cT C (ab l) (⟨dst,.iz f cs,none⟩::os) none K=ef C dst os K (some (.fn f (iC (ab l) cs),ab l)))∧
  (∀(T:TypeId) (x y:aK),cT C (ab l) (⟨dst,.eS T x y,none⟩::os) none K=ef C dst os K (dn (ab l) (eS C T (aN (ab l) x) (aN (ab l) y))))∧
  (∀(T:TypeId) (x:aK) (dv ao:Option aK),cT C (ab l) (⟨dst,.fG T x dv ao,none⟩::os) none K=ef C dst os K (fG C (ab l) T (aN (ab l) x) (lO (ab l) dv) (lO (ab l) ao)))∧
  (∀(T:TypeId) (x:aK) (k:Nat),cT C (ab l) (⟨dst,.c1 T x k,none⟩::os) none K=ef C dst os K (dn (ab l) (c1 C (ab l) T (aN (ab l) x) k)))∧
  (∀(T:TypeId) (x y:aK),cT C (ab l) (⟨dst,.fc T x y,none⟩::os) none K=ef C dst os K (dn (ab l) (fc C (ab l) T (aN (ab l) x) (aN (ab l) y))))∧
  (∀(T:TypeId) (x y:aK),cT C (ab l) (⟨dst,.idx T x y,none⟩::os) none K=ef C dst os K (dn (ab l) (idx C T (aN (ab l) x) (aN (ab l) y))))∧
  (∀(x:aK) (k:Nat),cT C (ab l) (⟨dst,.ex x k,none⟩::os) none K=ef C dst os K (dn (ab l) (ex (ab l) (aN (ab l) x) k)))∧
  (∀(T:TypeId) (x:aK),cT C (ab l) (⟨dst,.len T x,none⟩::os) none K=ef C dst os K (dn (ab l) (mw C (ab l) T (aN (ab l) x))))∧
  (∀(T bZ:TypeId) (x y:aK),cT C (ab l) (⟨dst,.app T bZ x y,none⟩::os) none K=ef C dst os K (my C (ab l) T bZ (aN (ab l) x) (aN (ab l) y))):=
 ⟨fun x=>(jU rfl).trans (congrArg _ (vG x)),fun x=>(jU rfl).trans (congrArg _ (vH x)),fun c x y=>(jU rfl).trans (congrArg _ (vI c x y)),fun T=>(jU rfl).trans (congrArg _ (vJ T)),fun T x=>(jU rfl).trans (congrArg _ (vK T x)),fun T ps=>(jU rfl).trans (congrArg _ (vL T ps)),fun T n ps=>(jU rfl).trans (congrArg _ (vM T n ps)),fun T x=>(jU rfl).trans (congrArg _ (vN T x)),fun T x y=>(jU rfl).trans (congrArg _ (vO T x y)),fun x=>(jU rfl).trans (congrArg _ (vP x)),fun op T x y=>(jU rfl).trans (congrArg _ (vQ op T x y)),fun op x=>(jU rfl).trans (congrArg _ (vR op x)),fun A B x=>(jU rfl).trans (congrArg _ (vS A B x)),fun f cs=>(jU rfl).trans (congrArg _ (vT f cs)),fun T x y=>(jU rfl).trans (congrArg _ (vU T x y)),fun T x dv ao=>(jU rfl).trans (congrArg _ (vV T x dv ao)),fun T x k=>(jU rfl).trans (congrArg _ (vW T x k)),fun T x y=>(jU rfl).trans (congrArg _ (vX T x y)),fun T x y=>(jU rfl).trans (congrArg _ (vY T x y)),fun x k=>(jU rfl).trans (congrArg _ (vZ x k)),fun T x=>(jU rfl).trans (congrArg _ (v7 T x)),fun T bZ x y=>(jU rfl).trans (congrArg _ (v8 T bZ x y))⟩
theorem U4:
  (∀(x:aK),cT C (ab l) (⟨dst,.ct x,none⟩::os) (some a) K=ej C l (use (ab l) (.ct x)) (dL (ab l) (.ct x)) dst os a K (some (aN (ab l) x,ab l)))∧
  (∀(x:aK),cT C (ab l) (⟨dst,.iR x,none⟩::os) (some a) K=ej C l (use (ab l) (.iR x)) (dL (ab l) (.iR x)) dst os a K (jM (ab l) (aN (ab l) x)))∧
  (∀(c x y:aK),cT C (ab l) (⟨dst,.pick c x y,none⟩::os) (some a) K=ej C l (use (ab l) (.pick c x y)) (dL (ab l) (.pick c x y)) dst os a K (rY (ab l) (aN (ab l) c) (aN (ab l) x) (aN (ab l) y)))∧
  (∀(T:TypeId),cT C (ab l) (⟨dst,.hc T,none⟩::os) (some a) K=ej C l (use (ab l) (.hc T)) (dL (ab l) (.hc T)) dst os a K (dn (ab l) (hc C T)))∧
  (∀(T:TypeId) (x:aK),cT C (ab l) (⟨dst,.da T x,none⟩::os) (some a) K=ej C l (use (ab l) (.da T x)) (dL (ab l) (.da T x)) dst os a K (da (ab l) (aN (ab l) x)))∧
  (∀(T:TypeId) (ps:List (Nat×aK)),cT C (ab l) (⟨dst,.e0 T ps,none⟩::os) (some a) K=ej C l (use (ab l) (.e0 T ps)) (dL (ab l) (.e0 T ps)) dst os a K (e0 C (ab l) T (kz (ab l) ps)))∧
  (∀(T:TypeId) (n:Nat) (ps:List (Nat×aK)),cT C (ab l) (⟨dst,.dG T n ps,none⟩::os) (some a) K=ej C l (use (ab l) (.dG T n ps)) (dL (ab l) (.dG T n ps)) dst os a K (dG C (ab l) T n (kz (ab l) ps)))∧
  (∀(T:TypeId) (x:aK),cT C (ab l) (⟨dst,.ld T x,none⟩::os) (some a) K=ej C l (use (ab l) (.ld T x)) (dL (ab l) (.ld T x)) dst os a K (dn (ab l) (ld C (ab l) T (aN (ab l) x))))∧
  (∀(T:TypeId) (x y:aK),cT C (ab l) (⟨dst,.gu T x y,none⟩::os) (some a) K=ej C l (use (ab l) (.gu T x y)) (dL (ab l) (.gu T x y)) dst os a K (dz (gu C (ab l) T (aN (ab l) x) (aN (ab l) y))))∧
  (∀(x:aK),cT C (ab l) (⟨dst,.ga x,none⟩::os) (some a) K=ej C l (use (ab l) (.ga x)) (dL (ab l) (.ga x)) dst os a K (dn (ab l) (ga (ab l) (aN (ab l) x))))∧
  (∀(op:BinOp) (T:TypeId) (x y:aK),cT C (ab l) (⟨dst,.ck op T x y,none⟩::os) (some a) K=ej C l (use (ab l) (.ck op T x y)) (dL (ab l) (.ck op T x y)) dst os a K (dn (ab l) (ck C (ab l) op T (aN (ab l) x) (aN (ab l) y))))∧
  (∀(op:UnOp) (x:aK),cT C (ab l) (⟨dst,.un op x,none⟩::os) (some a) K=ej C l (use (ab l) (.un op x)) (dL (ab l) (.un op x)) dst os a K (dn (ab l) (un op (aN (ab l) x))))∧
  (∀(A B:TypeId) (x:aK),cT C (ab l) (⟨dst,.gw A B x,none⟩::os) (some a) K=ej C l (use (ab l) (.gw A B x)) (dL (ab l) (.gw A B x)) dst os a K (dn (ab l) (gw C (ab l) A B (aN (ab l) x))))∧
  (∀(f:FuncId) (cs:List aK),cT C (ab l) (⟨dst,.iz f cs,none⟩::os) (some a) K=ej C l (use (ab l) (.iz f cs)) (dL (ab l) (.iz f cs)) dst os a K (some (.fn f (iC (ab l) cs),ab l)))∧
  (∀(T:TypeId) (x y:aK),cT C (ab l) (⟨dst,.eS T x y,none⟩::os) (some a) K=ej C l (use (ab l) (.eS T x y)) (dL (ab l) (.eS T x y)) dst os a K (dn (ab l) (eS C T (aN (ab l) x) (aN (ab l) y))))∧
  (∀(T:TypeId) (x:aK) (dv ao:Option aK),cT C (ab l) (⟨dst,.fG T x dv ao,none⟩::os) (some a) K=ej C l (use (ab l) (.fG T x dv ao)) (dL (ab l) (.fG T x dv ao)) dst os a K (fG C (ab l) T (aN (ab l) x) (lO (ab l) dv) (lO (ab l) ao)))∧
  (∀(T:TypeId) (x:aK) (k:Nat),cT C (ab l) (⟨dst,.c1 T x k,none⟩::os) (some a) K=ej C l (use (ab l) (.c1 T x k)) (dL (ab l) (.c1 T x k)) dst os a K (dn (ab l) (c1 C (ab l) T (aN (ab l) x) k)))∧
  (∀(T:TypeId) (x y:aK),cT C (ab l) (⟨dst,.fc T x y,none⟩::os) (some a) K=ej C l (use (ab l) (.fc T x y)) (dL (ab l) (.fc T x y)) dst os a K (dn (ab l) (fc C (ab l) T (aN (ab l) x) (aN (ab l) y))))∧
  (∀(T:TypeId) (x y:aK),cT C (ab l) (⟨dst,.idx T x y,none⟩::os) (some a) K=ej C l (use (ab l) (.idx T x y)) (dL (ab l) (.idx T x y)) dst os a K (dn (ab l) (idx C T (aN (ab l) x) (aN (ab l) y))))∧
  (∀(x:aK) (k:Nat),cT C (ab l) (⟨dst,.ex x k,none⟩::os) (some a) K=ej C l (use (ab l) (.ex x k)) (dL (ab l) (.ex x k)) dst os a K (dn (ab l) (ex (ab l) (aN (ab l) x) k)))∧
  (∀(T:TypeId) (x:aK),cT C (ab l) (⟨dst,.len T x,none⟩::os) (some a) K=ej C l (use (ab l) (.len T x)) (dL (ab l) (.len T x)) dst os a K (dn (ab l) (mw C (ab l) T (aN (ab l) x))))∧
  (∀(T bZ:TypeId) (x y:aK),cT C (ab l) (⟨dst,.app T bZ x y,none⟩::os) (some a) K=ej C l (use (ab l) (.app T bZ x y)) (dL (ab l) (.app T bZ x y)) dst os a K (my C (ab l) T bZ (aN (ab l) x) (aN (ab l) y))):=
 ⟨fun x=>(j8 rfl).trans (congrArg _ (vG x)),fun x=>(j8 rfl).trans (congrArg _ (vH x)),fun c x y=>(j8 rfl).trans (congrArg _ (vI c x y)),fun T=>(j8 rfl).trans (congrArg _ (vJ T)),fun T x=>(j8 rfl).trans (congrArg _ (vK T x)),fun T ps=>(j8 rfl).trans (congrArg _ (vL T ps)),fun T n ps=>(j8 rfl).trans (congrArg _ (vM T n ps)),fun T x=>(j8 rfl).trans (congrArg _ (vN T x)),fun T x y=>(j8 rfl).trans (congrArg _ (vO T x y)),fun x=>(j8 rfl).trans (congrArg _ (vP x)),fun op T x y=>(j8 rfl).trans (congrArg _ (vQ op T x y)),fun op x=>(j8 rfl).trans (congrArg _ (vR op x)),fun A B x=>(j8 rfl).trans (congrArg _ (vS A B x)),fun f cs=>(j8 rfl).trans (congrArg _ (vT f cs)),fun T x y=>(j8 rfl).trans (congrArg _ (vU T x y)),fun T x dv ao=>(j8 rfl).trans (congrArg _ (vV T x dv ao)),fun T x k=>(j8 rfl).trans (congrArg _ (vW T x k)),fun T x y=>(j8 rfl).trans (congrArg _ (vX T x y)),fun T x y=>(j8 rfl).trans (congrArg _ (vY T x y)),fun x k=>(j8 rfl).trans (congrArg _ (vZ x k)),fun T x=>(j8 rfl).trans (congrArg _ (v7 T x)),fun T bZ x y=>(j8 rfl).trans (congrArg _ (v8 T bZ x y))⟩
theorem U5:
  (∀(x:aK) (t:Nat),c0 C l dst (.ct x) t true os none K (.bool true)=ef C dst os K (some (aN (ab l) x,ab l)))∧
  (∀(x:aK) (t:Nat),c0 C l dst (.ct x) t false os none K (.bool false)=ef C dst os K (some (aN (ab l) x,ab l)))∧
  (∀(x:aK) (t:Nat),c0 C l dst (.iR x) t true os none K (.bool true)=ef C dst os K (jM (ab l) (aN (ab l) x)))∧
  (∀(x:aK) (t:Nat),c0 C l dst (.iR x) t false os none K (.bool false)=ef C dst os K (jM (ab l) (aN (ab l) x)))∧
  (∀(c x y:aK) (t:Nat),c0 C l dst (.pick c x y) t true os none K (.bool true)=ef C dst os K (rY (ab l) (aN (ab l) c) (aN (ab l) x) (aN (ab l) y)))∧
  (∀(c x y:aK) (t:Nat),c0 C l dst (.pick c x y) t false os none K (.bool false)=ef C dst os K (rY (ab l) (aN (ab l) c) (aN (ab l) x) (aN (ab l) y)))∧
  (∀(T:TypeId) (t:Nat),c0 C l dst (.hc T) t true os none K (.bool true)=ef C dst os K (dn (ab l) (hc C T)))∧
  (∀(T:TypeId) (t:Nat),c0 C l dst (.hc T) t false os none K (.bool false)=ef C dst os K (dn (ab l) (hc C T)))∧
  (∀(T:TypeId) (x:aK) (t:Nat),c0 C l dst (.da T x) t true os none K (.bool true)=ef C dst os K (da (ab l) (aN (ab l) x)))∧
  (∀(T:TypeId) (x:aK) (t:Nat),c0 C l dst (.da T x) t false os none K (.bool false)=ef C dst os K (da (ab l) (aN (ab l) x)))∧
  (∀(T:TypeId) (ps:List (Nat×aK)) (t:Nat),c0 C l dst (.e0 T ps) t true os none K (.bool true)=ef C dst os K (e0 C (ab l) T (kz (ab l) ps)))∧
  (∀(T:TypeId) (ps:List (Nat×aK)) (t:Nat),c0 C l dst (.e0 T ps) t false os none K (.bool false)=ef C dst os K (e0 C (ab l) T (kz (ab l) ps)))∧
  (∀(T:TypeId) (n:Nat) (ps:List (Nat×aK)) (t:Nat),c0 C l dst (.dG T n ps) t true os none K (.bool true)=ef C dst os K (dG C (ab l) T n (kz (ab l) ps)))∧
  (∀(T:TypeId) (n:Nat) (ps:List (Nat×aK)) (t:Nat),c0 C l dst (.dG T n ps) t false os none K (.bool false)=ef C dst os K (dG C (ab l) T n (kz (ab l) ps)))∧
  (∀(T:TypeId) (x:aK) (t:Nat),c0 C l dst (.ld T x) t true os none K (.bool true)=ef C dst os K (dn (ab l) (ld C (ab l) T (aN (ab l) x))))∧
  (∀(T:TypeId) (x:aK) (t:Nat),c0 C l dst (.ld T x) t false os none K (.bool false)=ef C dst os K (dn (ab l) (ld C (ab l) T (aN (ab l) x))))∧
  (∀(T:TypeId) (x y:aK) (t:Nat),c0 C l dst (.gu T x y) t true os none K (.bool true)=ef C dst os K (dz (gu C (ab l) T (aN (ab l) x) (aN (ab l) y))))∧
  (∀(T:TypeId) (x y:aK) (t:Nat),c0 C l dst (.gu T x y) t false os none K (.bool false)=ef C dst os K (dz (gu C (ab l) T (aN (ab l) x) (aN (ab l) y))))∧
  (∀(x:aK) (t:Nat),c0 C l dst (.ga x) t true os none K (.bool true)=ef C dst os K (dn (ab l) (ga (ab l) (aN (ab l) x))))∧
  (∀(x:aK) (t:Nat),c0 C l dst (.ga x) t false os none K (.bool false)=ef C dst os K (dn (ab l) (ga (ab l) (aN (ab l) x))))∧
  (∀(op:BinOp) (T:TypeId) (x y:aK) (t:Nat),c0 C l dst (.ck op T x y) t true os none K (.bool true)=ef C dst os K (dn (ab l) (ck C (ab l) op T (aN (ab l) x) (aN (ab l) y))))∧
  (∀(op:BinOp) (T:TypeId) (x y:aK) (t:Nat),c0 C l dst (.ck op T x y) t false os none K (.bool false)=ef C dst os K (dn (ab l) (ck C (ab l) op T (aN (ab l) x) (aN (ab l) y))))∧
  (∀(op:UnOp) (x:aK) (t:Nat),c0 C l dst (.un op x) t true os none K (.bool true)=ef C dst os K (dn (ab l) (un op (aN (ab l) x))))∧
  (∀(op:UnOp) (x:aK) (t:Nat),c0 C l dst (.un op x) t false os none K (.bool false)=ef C dst os K (dn (ab l) (un op (aN (ab l) x))))∧
  (∀(A B:TypeId) (x:aK) (t:Nat),c0 C l dst (.gw A B x) t true os none K (.bool true)=ef C dst os K (dn (ab l) (gw C (ab l) A B (aN (ab l) x))))∧
  (∀(A B:TypeId) (x:aK) (t:Nat),c0 C l dst (.gw A B x) t false os none K (.bool false)=ef C dst os K (dn (ab l) (gw C (ab l) A B (aN (ab l) x))))∧
  (∀(f:FuncId) (cs:List aK) (t:Nat),c0 C l dst (.iz f cs) t true os none K (.bool true)=ef C dst os K (some (.fn f (iC (ab l) cs),ab l)))∧
  (∀(f:FuncId) (cs:List aK) (t:Nat),c0 C l dst (.iz f cs) t false os none K (.bool false)=ef C dst os K (some (.fn f (iC (ab l) cs),ab l)))∧
  (∀(T:TypeId) (x y:aK) (t:Nat),c0 C l dst (.eS T x y) t true os none K (.bool true)=ef C dst os K (dn (ab l) (eS C T (aN (ab l) x) (aN (ab l) y))))∧
  (∀(T:TypeId) (x y:aK) (t:Nat),c0 C l dst (.eS T x y) t false os none K (.bool false)=ef C dst os K (dn (ab l) (eS C T (aN (ab l) x) (aN (ab l) y))))∧
  (∀(T:TypeId) (x:aK) (dv ao:Option aK) (t:Nat),c0 C l dst (.fG T x dv ao) t true os none K (.bool true)=ef C dst os K (fG C (ab l) T (aN (ab l) x) (lO (ab l) dv) (lO (ab l) ao)))∧
  (∀(T:TypeId) (x:aK) (dv ao:Option aK) (t:Nat),c0 C l dst (.fG T x dv ao) t false os none K (.bool false)=ef C dst os K (fG C (ab l) T (aN (ab l) x) (lO (ab l) dv) (lO (ab l) ao)))∧
  (∀(T:TypeId) (x:aK) (k:Nat) (t:Nat),c0 C l dst (.c1 T x k) t true os none K (.bool true)=ef C dst os K (dn (ab l) (c1 C (ab l) T (aN (ab l) x) k)))∧
  (∀(T:TypeId) (x:aK) (k:Nat) (t:Nat),c0 C l dst (.c1 T x k) t false os none K (.bool false)=ef C dst os K (dn (ab l) (c1 C (ab l) T (aN (ab l) x) k)))∧
  (∀(T:TypeId) (x y:aK) (t:Nat),c0 C l dst (.fc T x y) t true os none K (.bool true)=ef C dst os K (dn (ab l) (fc C (ab l) T (aN (ab l) x) (aN (ab l) y))))∧
  (∀(T:TypeId) (x y:aK) (t:Nat),c0 C l dst (.fc T x y) t false os none K (.bool false)=ef C dst os K (dn (ab l) (fc C (ab l) T (aN (ab l) x) (aN (ab l) y))))∧
  (∀(T:TypeId) (x y:aK) (t:Nat),c0 C l dst (.idx T x y) t true os none K (.bool true)=ef C dst os K (dn (ab l) (idx C T (aN (ab l) x) (aN (ab l) y))))∧
  (∀(T:TypeId) (x y:aK) (t:Nat),c0 C l dst (.idx T x y) t false os none K (.bool false)=ef C dst os K (dn (ab l) (idx C T (aN (ab l) x) (aN (ab l) y))))∧
  (∀(x:aK) (k:Nat) (t:Nat),c0 C l dst (.ex x k) t true os none K (.bool true)=ef C dst os K (dn (ab l) (ex (ab l) (aN (ab l) x) k)))∧
  (∀(x:aK) (k:Nat) (t:Nat),c0 C l dst (.ex x k) t false os none K (.bool false)=ef C dst os K (dn (ab l) (ex (ab l) (aN (ab l) x) k)))∧
  (∀(T:TypeId) (x:aK) (t:Nat),c0 C l dst (.len T x) t true os none K (.bool true)=ef C dst os K (dn (ab l) (mw C (ab l) T (aN (ab l) x))))∧
  (∀(T:TypeId) (x:aK) (t:Nat),c0 C l dst (.len T x) t false os none K (.bool false)=ef C dst os K (dn (ab l) (mw C (ab l) T (aN (ab l) x))))∧
  (∀(T bZ:TypeId) (x y:aK) (t:Nat),c0 C l dst (.app T bZ x y) t true os none K (.bool true)=ef C dst os K (my C (ab l) T bZ (aN (ab l) x) (aN (ab l) y)))∧
  (∀(T bZ:TypeId) (x y:aK) (t:Nat),c0 C l dst (.app T bZ x y) t false os none K (.bool false)=ef C dst os K (my C (ab l) T bZ (aN (ab l) x) (aN (ab l) y))):=
 ⟨fun x _=>(gd rfl).trans (congrArg _ (vG x)),fun x _=>(gd rfl).trans (congrArg _ (vG x)),fun x _=>(gd rfl).trans (congrArg _ (vH x)),fun x _=>(gd rfl).trans (congrArg _ (vH x)),fun c x y _=>(gd rfl).trans (congrArg _ (vI c x y)),fun c x y _=>(gd rfl).trans (congrArg _ (vI c x y)),fun T _=>(gd rfl).trans (congrArg _ (vJ T)),fun T _=>(gd rfl).trans (congrArg _ (vJ T)),fun T x _=>(gd rfl).trans (congrArg _ (vK T x)),fun T x _=>(gd rfl).trans (congrArg _ (vK T x)),fun T ps _=>(gd rfl).trans (congrArg _ (vL T ps)),fun T ps _=>(gd rfl).trans (congrArg _ (vL T ps)),fun T n ps _=>(gd rfl).trans (congrArg _ (vM T n ps)),fun T n ps _=>(gd rfl).trans (congrArg _ (vM T n ps)),fun T x _=>(gd rfl).trans (congrArg _ (vN T x)),fun T x _=>(gd rfl).trans (congrArg _ (vN T x)),fun T x y _=>(gd rfl).trans (congrArg _ (vO T x y)),fun T x y _=>(gd rfl).trans (congrArg _ (vO T x y)),fun x _=>(gd rfl).trans (congrArg _ (vP x)),fun x _=>(gd rfl).trans (congrArg _ (vP x)),fun op T x y _=>(gd rfl).trans (congrArg _ (vQ op T x y)),fun op T x y _=>(gd rfl).trans (congrArg _ (vQ op T x y)),fun op x _=>(gd rfl).trans (congrArg _ (vR op x)),fun op x _=>(gd rfl).trans (congrArg _ (vR op x)),fun A B x _=>(gd rfl).trans (congrArg _ (vS A B x)),fun A B x _=>(gd rfl).trans (congrArg _ (vS A B x)),fun f cs _=>(gd rfl).trans (congrArg _ (vT f cs)),fun f cs _=>(gd rfl).trans (congrArg _ (vT f cs)),fun T x y _=>(gd rfl).trans (congrArg _ (vU T x y)),fun T x y _=>(gd rfl).trans (congrArg _ (vU T x y)),fun T x dv ao _=>(gd rfl).trans (congrArg _ (vV T x dv ao)),fun T x dv ao _=>(gd rfl).trans (congrArg _ (vV T x dv ao)),fun T x k _=>(gd rfl).trans (congrArg _ (vW T x k)),fun T x k _=>(gd rfl).trans (congrArg _ (vW T x k)),fun T x y _=>(gd rfl).trans (congrArg _ (vX T x y)),fun T x y _=>(gd rfl).trans (congrArg _ (vX T x y)),fun T x y _=>(gd rfl).trans (congrArg _ (vY T x y)),fun T x y _=>(gd rfl).trans (congrArg _ (vY T x y)),fun x k _=>(gd rfl).trans (congrArg _ (vZ x k)),fun x k _=>(gd rfl).trans (congrArg _ (vZ x k)),fun T x _=>(gd rfl).trans (congrArg _ (v7 T x)),fun T x _=>(gd rfl).trans (congrArg _ (v7 T x)),fun T bZ x y _=>(gd rfl).trans (congrArg _ (v8 T bZ x y)),fun T bZ x y _=>(gd rfl).trans (congrArg _ (v8 T bZ x y))⟩
theorem U6:
  (∀(x:aK) (t:Nat),c0 C l dst (.ct x) t true os (some a) K (.bool true)=ej C l (t::use (ab l) (.ct x)) (dL (ab l) (.ct x)) dst os a K (some (aN (ab l) x,ab l)))∧
  (∀(x:aK) (t:Nat),c0 C l dst (.ct x) t false os (some a) K (.bool false)=ej C l (t::use (ab l) (.ct x)) (dL (ab l) (.ct x)) dst os a K (some (aN (ab l) x,ab l)))∧
  (∀(x:aK) (t:Nat),c0 C l dst (.iR x) t true os (some a) K (.bool true)=ej C l (t::use (ab l) (.iR x)) (dL (ab l) (.iR x)) dst os a K (jM (ab l) (aN (ab l) x)))∧
  (∀(x:aK) (t:Nat),c0 C l dst (.iR x) t false os (some a) K (.bool false)=ej C l (t::use (ab l) (.iR x)) (dL (ab l) (.iR x)) dst os a K (jM (ab l) (aN (ab l) x)))∧
  (∀(c x y:aK) (t:Nat),c0 C l dst (.pick c x y) t true os (some a) K (.bool true)=ej C l (t::use (ab l) (.pick c x y)) (dL (ab l) (.pick c x y)) dst os a K (rY (ab l) (aN (ab l) c) (aN (ab l) x) (aN (ab l) y)))∧
  (∀(c x y:aK) (t:Nat),c0 C l dst (.pick c x y) t false os (some a) K (.bool false)=ej C l (t::use (ab l) (.pick c x y)) (dL (ab l) (.pick c x y)) dst os a K (rY (ab l) (aN (ab l) c) (aN (ab l) x) (aN (ab l) y)))∧
  (∀(T:TypeId) (t:Nat),c0 C l dst (.hc T) t true os (some a) K (.bool true)=ej C l (t::use (ab l) (.hc T)) (dL (ab l) (.hc T)) dst os a K (dn (ab l) (hc C T)))∧
  (∀(T:TypeId) (t:Nat),c0 C l dst (.hc T) t false os (some a) K (.bool false)=ej C l (t::use (ab l) (.hc T)) (dL (ab l) (.hc T)) dst os a K (dn (ab l) (hc C T)))∧
  (∀(T:TypeId) (x:aK) (t:Nat),c0 C l dst (.da T x) t true os (some a) K (.bool true)=ej C l (t::use (ab l) (.da T x)) (dL (ab l) (.da T x)) dst os a K (da (ab l) (aN (ab l) x)))∧
  (∀(T:TypeId) (x:aK) (t:Nat),c0 C l dst (.da T x) t false os (some a) K (.bool false)=ej C l (t::use (ab l) (.da T x)) (dL (ab l) (.da T x)) dst os a K (da (ab l) (aN (ab l) x)))∧
  (∀(T:TypeId) (ps:List (Nat×aK)) (t:Nat),c0 C l dst (.e0 T ps) t true os (some a) K (.bool true)=ej C l (t::use (ab l) (.e0 T ps)) (dL (ab l) (.e0 T ps)) dst os a K (e0 C (ab l) T (kz (ab l) ps)))∧
  (∀(T:TypeId) (ps:List (Nat×aK)) (t:Nat),c0 C l dst (.e0 T ps) t false os (some a) K (.bool false)=ej C l (t::use (ab l) (.e0 T ps)) (dL (ab l) (.e0 T ps)) dst os a K (e0 C (ab l) T (kz (ab l) ps)))∧
  (∀(T:TypeId) (n:Nat) (ps:List (Nat×aK)) (t:Nat),c0 C l dst (.dG T n ps) t true os (some a) K (.bool true)=ej C l (t::use (ab l) (.dG T n ps)) (dL (ab l) (.dG T n ps)) dst os a K (dG C (ab l) T n (kz (ab l) ps)))∧
  (∀(T:TypeId) (n:Nat) (ps:List (Nat×aK)) (t:Nat),c0 C l dst (.dG T n ps) t false os (some a) K (.bool false)=ej C l (t::use (ab l) (.dG T n ps)) (dL (ab l) (.dG T n ps)) dst os a K (dG C (ab l) T n (kz (ab l) ps)))∧
  (∀(T:TypeId) (x:aK) (t:Nat),c0 C l dst (.ld T x) t true os (some a) K (.bool true)=ej C l (t::use (ab l) (.ld T x)) (dL (ab l) (.ld T x)) dst os a K (dn (ab l) (ld C (ab l) T (aN (ab l) x))))∧
  (∀(T:TypeId) (x:aK) (t:Nat),c0 C l dst (.ld T x) t false os (some a) K (.bool false)=ej C l (t::use (ab l) (.ld T x)) (dL (ab l) (.ld T x)) dst os a K (dn (ab l) (ld C (ab l) T (aN (ab l) x))))∧
  (∀(T:TypeId) (x y:aK) (t:Nat),c0 C l dst (.gu T x y) t true os (some a) K (.bool true)=ej C l (t::use (ab l) (.gu T x y)) (dL (ab l) (.gu T x y)) dst os a K (dz (gu C (ab l) T (aN (ab l) x) (aN (ab l) y))))∧
  (∀(T:TypeId) (x y:aK) (t:Nat),c0 C l dst (.gu T x y) t false os (some a) K (.bool false)=ej C l (t::use (ab l) (.gu T x y)) (dL (ab l) (.gu T x y)) dst os a K (dz (gu C (ab l) T (aN (ab l) x) (aN (ab l) y))))∧
  (∀(x:aK) (t:Nat),c0 C l dst (.ga x) t true os (some a) K (.bool true)=ej C l (t::use (ab l) (.ga x)) (dL (ab l) (.ga x)) dst os a K (dn (ab l) (ga (ab l) (aN (ab l) x))))∧
  (∀(x:aK) (t:Nat),c0 C l dst (.ga x) t false os (some a) K (.bool false)=ej C l (t::use (ab l) (.ga x)) (dL (ab l) (.ga x)) dst os a K (dn (ab l) (ga (ab l) (aN (ab l) x))))∧
  (∀(op:BinOp) (T:TypeId) (x y:aK) (t:Nat),c0 C l dst (.ck op T x y) t true os (some a) K (.bool true)=ej C l (t::use (ab l) (.ck op T x y)) (dL (ab l) (.ck op T x y)) dst os a K (dn (ab l) (ck C (ab l) op T (aN (ab l) x) (aN (ab l) y))))∧
  (∀(op:BinOp) (T:TypeId) (x y:aK) (t:Nat),c0 C l dst (.ck op T x y) t false os (some a) K (.bool false)=ej C l (t::use (ab l) (.ck op T x y)) (dL (ab l) (.ck op T x y)) dst os a K (dn (ab l) (ck C (ab l) op T (aN (ab l) x) (aN (ab l) y))))∧
  (∀(op:UnOp) (x:aK) (t:Nat),c0 C l dst (.un op x) t true os (some a) K (.bool true)=ej C l (t::use (ab l) (.un op x)) (dL (ab l) (.un op x)) dst os a K (dn (ab l) (un op (aN (ab l) x))))∧
  (∀(op:UnOp) (x:aK) (t:Nat),c0 C l dst (.un op x) t false os (some a) K (.bool false)=ej C l (t::use (ab l) (.un op x)) (dL (ab l) (.un op x)) dst os a K (dn (ab l) (un op (aN (ab l) x))))∧
  (∀(A B:TypeId) (x:aK) (t:Nat),c0 C l dst (.gw A B x) t true os (some a) K (.bool true)=ej C l (t::use (ab l) (.gw A B x)) (dL (ab l) (.gw A B x)) dst os a K (dn (ab l) (gw C (ab l) A B (aN (ab l) x))))∧
  (∀(A B:TypeId) (x:aK) (t:Nat),c0 C l dst (.gw A B x) t false os (some a) K (.bool false)=ej C l (t::use (ab l) (.gw A B x)) (dL (ab l) (.gw A B x)) dst os a K (dn (ab l) (gw C (ab l) A B (aN (ab l) x))))∧
  (∀(f:FuncId) (cs:List aK) (t:Nat),c0 C l dst (.iz f cs) t true os (some a) K (.bool true)=ej C l (t::use (ab l) (.iz f cs)) (dL (ab l) (.iz f cs)) dst os a K (some (.fn f (iC (ab l) cs),ab l)))∧
  (∀(f:FuncId) (cs:List aK) (t:Nat),c0 C l dst (.iz f cs) t false os (some a) K (.bool false)=ej C l (t::use (ab l) (.iz f cs)) (dL (ab l) (.iz f cs)) dst os a K (some (.fn f (iC (ab l) cs),ab l)))∧
  (∀(T:TypeId) (x y:aK) (t:Nat),c0 C l dst (.eS T x y) t true os (some a) K (.bool true)=ej C l (t::use (ab l) (.eS T x y)) (dL (ab l) (.eS T x y)) dst os a K (dn (ab l) (eS C T (aN (ab l) x) (aN (ab l) y))))∧
  (∀(T:TypeId) (x y:aK) (t:Nat),c0 C l dst (.eS T x y) t false os (some a) K (.bool false)=ej C l (t::use (ab l) (.eS T x y)) (dL (ab l) (.eS T x y)) dst os a K (dn (ab l) (eS C T (aN (ab l) x) (aN (ab l) y))))∧
  (∀(T:TypeId) (x:aK) (dv ao:Option aK) (t:Nat),c0 C l dst (.fG T x dv ao) t true os (some a) K (.bool true)=ej C l (t::use (ab l) (.fG T x dv ao)) (dL (ab l) (.fG T x dv ao)) dst os a K (fG C (ab l) T (aN (ab l) x) (lO (ab l) dv) (lO (ab l) ao)))∧
  (∀(T:TypeId) (x:aK) (dv ao:Option aK) (t:Nat),c0 C l dst (.fG T x dv ao) t false os (some a) K (.bool false)=ej C l (t::use (ab l) (.fG T x dv ao)) (dL (ab l) (.fG T x dv ao)) dst os a K (fG C (ab l) T (aN (ab l) x) (lO (ab l) dv) (lO (ab l) ao)))∧
  (∀(T:TypeId) (x:aK) (k:Nat) (t:Nat),c0 C l dst (.c1 T x k) t true os (some a) K (.bool true)=ej C l (t::use (ab l) (.c1 T x k)) (dL (ab l) (.c1 T x k)) dst os a K (dn (ab l) (c1 C (ab l) T (aN (ab l) x) k)))∧
  (∀(T:TypeId) (x:aK) (k:Nat) (t:Nat),c0 C l dst (.c1 T x k) t false os (some a) K (.bool false)=ej C l (t::use (ab l) (.c1 T x k)) (dL (ab l) (.c1 T x k)) dst os a K (dn (ab l) (c1 C (ab l) T (aN (ab l) x) k)))∧
  (∀(T:TypeId) (x y:aK) (t:Nat),c0 C l dst (.fc T x y) t true os (some a) K (.bool true)=ej C l (t::use (ab l) (.fc T x y)) (dL (ab l) (.fc T x y)) dst os a K (dn (ab l) (fc C (ab l) T (aN (ab l) x) (aN (ab l) y))))∧
  (∀(T:TypeId) (x y:aK) (t:Nat),c0 C l dst (.fc T x y) t false os (some a) K (.bool false)=ej C l (t::use (ab l) (.fc T x y)) (dL (ab l) (.fc T x y)) dst os a K (dn (ab l) (fc C (ab l) T (aN (ab l) x) (aN (ab l) y))))∧
  (∀(T:TypeId) (x y:aK) (t:Nat),c0 C l dst (.idx T x y) t true os (some a) K (.bool true)=ej C l (t::use (ab l) (.idx T x y)) (dL (ab l) (.idx T x y)) dst os a K (dn (ab l) (idx C T (aN (ab l) x) (aN (ab l) y))))∧
  (∀(T:TypeId) (x y:aK) (t:Nat),c0 C l dst (.idx T x y) t false os (some a) K (.bool false)=ej C l (t::use (ab l) (.idx T x y)) (dL (ab l) (.idx T x y)) dst os a K (dn (ab l) (idx C T (aN (ab l) x) (aN (ab l) y))))∧
  (∀(x:aK) (k:Nat) (t:Nat),c0 C l dst (.ex x k) t true os (some a) K (.bool true)=ej C l (t::use (ab l) (.ex x k)) (dL (ab l) (.ex x k)) dst os a K (dn (ab l) (ex (ab l) (aN (ab l) x) k)))∧
  (∀(x:aK) (k:Nat) (t:Nat),c0 C l dst (.ex x k) t false os (some a) K (.bool false)=ej C l (t::use (ab l) (.ex x k)) (dL (ab l) (.ex x k)) dst os a K (dn (ab l) (ex (ab l) (aN (ab l) x) k)))∧
  (∀(T:TypeId) (x:aK) (t:Nat),c0 C l dst (.len T x) t true os (some a) K (.bool true)=ej C l (t::use (ab l) (.len T x)) (dL (ab l) (.len T x)) dst os a K (dn (ab l) (mw C (ab l) T (aN (ab l) x))))∧
  (∀(T:TypeId) (x:aK) (t:Nat),c0 C l dst (.len T x) t false os (some a) K (.bool false)=ej C l (t::use (ab l) (.len T x)) (dL (ab l) (.len T x)) dst os a K (dn (ab l) (mw C (ab l) T (aN (ab l) x))))∧
  (∀(T bZ:TypeId) (x y:aK) (t:Nat),c0 C l dst (.app T bZ x y) t true os (some a) K (.bool true)=ej C l (t::use (ab l) (.app T bZ x y)) (dL (ab l) (.app T bZ x y)) dst os a K (my C (ab l) T bZ (aN (ab l) x) (aN (ab l) y)))∧
  (∀(T bZ:TypeId) (x y:aK) (t:Nat),c0 C l dst (.app T bZ x y) t false os (some a) K (.bool false)=ej C l (t::use (ab l) (.app T bZ x y)) (dL (ab l) (.app T bZ x y)) dst os a K (my C (ab l) T bZ (aN (ab l) x) (aN (ab l) y))):=
 ⟨fun x _=>(gf rfl).trans (congrArg _ (vG x)),fun x _=>(gf rfl).trans (congrArg _ (vG x)),fun x _=>(gf rfl).trans (congrArg _ (vH x)),fun x _=>(gf rfl).trans (congrArg _ (vH x)),fun c x y _=>(gf rfl).trans (congrArg _ (vI c x y)),fun c x y _=>(gf rfl).trans (congrArg _ (vI c x y)),fun T _=>(gf rfl).trans (congrArg _ (vJ T)),fun T _=>(gf rfl).trans (congrArg _ (vJ T)),fun T x _=>(gf rfl).trans (congrArg _ (vK T x)),fun T x _=>(gf rfl).trans (congrArg _ (vK T x)),fun T ps _=>(gf rfl).trans (congrArg _ (vL T ps)),fun T ps _=>(gf rfl).trans (congrArg _ (vL T ps)),fun T n ps _=>(gf rfl).trans (congrArg _ (vM T n ps)),fun T n ps _=>(gf rfl).trans (congrArg _ (vM T n ps)),fun T x _=>(gf rfl).trans (congrArg _ (vN T x)),fun T x _=>(gf rfl).trans (congrArg _ (vN T x)),fun T x y _=>(gf rfl).trans (congrArg _ (vO T x y)),fun T x y _=>(gf rfl).trans (congrArg _ (vO T x y)),fun x _=>(gf rfl).trans (congrArg _ (vP x)),fun x _=>(gf rfl).trans (congrArg _ (vP x)),fun op T x y _=>(gf rfl).trans (congrArg _ (vQ op T x y)),fun op T x y _=>(gf rfl).trans (congrArg _ (vQ op T x y)),fun op x _=>(gf rfl).trans (congrArg _ (vR op x)),fun op x _=>(gf rfl).trans (congrArg _ (vR op x)),fun A B x _=>(gf rfl).trans (congrArg _ (vS A B x)),fun A B x _=>(gf rfl).trans (congrArg _ (vS A B x)),fun f cs _=>(gf rfl).trans (congrArg _ (vT f cs)),fun f cs _=>(gf rfl).trans (congrArg _ (vT f cs)),fun T x y _=>(gf rfl).trans (congrArg _ (vU T x y)),fun T x y _=>(gf rfl).trans (congrArg _ (vU T x y)),fun T x dv ao _=>(gf rfl).trans (congrArg _ (vV T x dv ao)),fun T x dv ao _=>(gf rfl).trans (congrArg _ (vV T x dv ao)),fun T x k _=>(gf rfl).trans (congrArg _ (vW T x k)),fun T x k _=>(gf rfl).trans (congrArg _ (vW T x k)),fun T x y _=>(gf rfl).trans (congrArg _ (vX T x y)),fun T x y _=>(gf rfl).trans (congrArg _ (vX T x y)),fun T x y _=>(gf rfl).trans (congrArg _ (vY T x y)),fun T x y _=>(gf rfl).trans (congrArg _ (vY T x y)),fun x k _=>(gf rfl).trans (congrArg _ (vZ x k)),fun x k _=>(gf rfl).trans (congrArg _ (vZ x k)),fun T x _=>(gf rfl).trans (congrArg _ (v7 T x)),fun T x _=>(gf rfl).trans (congrArg _ (v7 T x)),fun T bZ x y _=>(gf rfl).trans (congrArg _ (v8 T bZ x y)),fun T bZ x y _=>(gf rfl).trans (congrArg _ (v8 T bZ x y))⟩
end
theorem Lp:
  (∀(t:Nat) (k:IntKind) (n:Int),js t (.int k n)=(.int k n))∧
  (∀(t:Nat) (b:Bool),js t (.bool b)=(.bool b))∧
  (∀(t:Nat) (x:List UInt8),js t (.str x)=(.str x))∧
  (∀(t:Nat) (xs:List I),js t (.slice xs)=(.slice xs))∧
  (∀(t:Nat) (d:I),js t (.ref d)=(.ref d))∧
  (∀(t:Nat) (f:FuncId) (cap:List I),js t (.fn f cap)=(.fn f cap))∧
  (∀(t:Nat) (x:Nat) (q:List Nat),js t (.h x q)=(.h x q))∧
  (∀(t:Nat) (x:Nat) (q:List Nat),js t (.au x q)=(.au x q))∧
  (∀(t:Nat),js t .dI= .dI)∧
  (∀(t:Nat),js t .bk= .bk)∧
  (∀(t:Nat),js t .fb= .fb)∧
  (∀(t:Nat),js t .hole= .hole)∧
  (∀(t:Nat) (sz:Nat) (xs:List I),js t (.an sz xs)= .h t [])∧
  (∀(t:Nat) (d:I),js t (.bd d)= .h t [])∧
  (∀(t:Nat) (ay:List I),js t (.agg ay)=if I.dX ay=true then(.agg ay)else .h t [])∧
  (∀(t:Nat) (ay:List I),js t (.tuple ay)=if I.dX ay=true then(.tuple ay)else .h t []):=
 ⟨fun _ _ _=>rfl,fun _ _=>rfl,fun _ _=>rfl,fun _ _=>rfl,fun _ _=>rfl,fun _ _ _=>rfl,fun _ _ _=>rfl,fun _ _ _=>rfl,fun _=>rfl,fun _=>rfl,fun _=>rfl,fun _=>rfl,fun _ _ _=>rfl,fun _ _=>rfl,fun _ _=>rfl,fun _ _=>rfl⟩
theorem Lq:
  (∀(l:List (Nat×I)) (av:I),fin (ab l) none av=ab l)∧
  (∀(l:List (Nat×I)) (t:Nat) (k:IntKind) (n:Int),fin (ab l) (some t) (.int k n)=ab ((t,(.int k n))::l))∧
  (∀(l:List (Nat×I)) (t:Nat) (b:Bool),fin (ab l) (some t) (.bool b)=ab ((t,(.bool b))::l))∧
  (∀(l:List (Nat×I)) (t:Nat) (x:List UInt8),fin (ab l) (some t) (.str x)=ab ((t,(.str x))::l))∧
  (∀(l:List (Nat×I)) (t:Nat) (xs:List I),fin (ab l) (some t) (.slice xs)=ab ((t,(.slice xs))::l))∧
  (∀(l:List (Nat×I)) (t:Nat) (d:I),fin (ab l) (some t) (.ref d)=ab ((t,(.ref d))::l))∧
  (∀(l:List (Nat×I)) (t:Nat) (f:FuncId) (cap:List I),fin (ab l) (some t) (.fn f cap)=ab ((t,(.fn f cap))::l))∧
  (∀(l:List (Nat×I)) (t:Nat) (x:Nat) (q:List Nat),fin (ab l) (some t) (.h x q)=ab ((t,(.h x q))::l))∧
  (∀(l:List (Nat×I)) (t:Nat) (x:Nat) (q:List Nat),fin (ab l) (some t) (.au x q)=ab ((t,(.au x q))::l))∧
  (∀(l:List (Nat×I)) (t:Nat),fin (ab l) (some t) .dI=ab ((t,.dI)::l))∧
  (∀(l:List (Nat×I)) (t:Nat),fin (ab l) (some t) .bk=ab ((t,.bk)::l))∧
  (∀(l:List (Nat×I)) (t:Nat),fin (ab l) (some t) .fb=ab ((t,.fb)::l))∧
  (∀(l:List (Nat×I)) (t:Nat),fin (ab l) (some t) .hole=ab ((t,.hole)::l))∧
  (∀(l:List (Nat×I)) (t:Nat) (sz:Nat) (xs:List I),fin (ab l) (some t) (.an sz xs)=ab ((t,(.an sz xs))::oB t l))∧
  (∀(l:List (Nat×I)) (t:Nat) (d:I),fin (ab l) (some t) (.bd d)=ab ((t,(.bd d))::oB t l))∧
  (∀(l:List (Nat×I)) (t:Nat) (ay:List I),fin (ab l) (some t) (.agg ay)=ab ((t,(.agg ay))::if I.dX ay=true then l else oB t l))∧
  (∀(l:List (Nat×I)) (t:Nat) (ay:List I),fin (ab l) (some t) (.tuple ay)=ab ((t,(.tuple ay))::if I.dX ay=true then l else oB t l)):=
 ⟨fun _ _=>rfl,fun l t _ _=>by simp only[fin,I.plain,if_true,k2],fun l t _=>by simp only[fin,I.plain,if_true,k2],fun l t _=>by simp only[fin,I.plain,if_true,k2],fun l t _=>by simp only[fin,I.plain,if_true,k2],fun l t _=>by simp only[fin,I.plain,if_true,k2],fun l t _ _=>by simp only[fin,I.plain,if_true,k2],fun l t _ _=>by simp only[fin,I.plain,if_true,k2],fun l t _ _=>by simp only[fin,I.plain,if_true,k2],fun l t=>by simp only[fin,I.plain,if_true,k2],fun l t=>by simp only[fin,I.plain,if_true,k2],fun l t=>by simp only[fin,I.plain,if_true,k2],fun l t=>by simp only[fin,I.plain,if_true,k2],fun l t _ _=>by simp only[fin,I.plain,Bool.false_eq_true,if_false,vB,k2],fun l t _=>by simp only[fin,I.plain,Bool.false_eq_true,if_false,vB,k2],fun l t _=>by simp only[fin,I.plain,vB,k2];split<;>rfl,fun l t _=>by simp only[fin,I.plain,vB,k2];split<;>rfl⟩
theorem v_:
  (∀(k:IntKind) (n:Int),I.plain (.int k n)=true)∧
  (∀(b:Bool),I.plain (.bool b)=true)∧
  (∀(x:List UInt8),I.plain (.str x)=true)∧
  (∀(xs:List I),I.plain (.slice xs)=true)∧
  (∀(d:I),I.plain (.ref d)=true)∧
  (∀(f:FuncId) (cap:List I),I.plain (.fn f cap)=true)∧
  (∀(x:Nat) (q:List Nat),I.plain (.h x q)=true)∧
  (∀(x:Nat) (q:List Nat),I.plain (.au x q)=true)∧
  (I.plain .dI=true)∧
  (I.plain .bk=true)∧
  (I.plain .fb=true)∧
  (I.plain .hole=true)∧
  (∀(sz:Nat) (xs:List I),I.plain (.an sz xs)=false)∧
  (∀(d:I),I.plain (.bd d)=false)∧
  (∀(ay:List I),I.plain (.agg ay)=I.dX ay)∧
  (∀(ay:List I),I.plain (.tuple ay)=I.dX ay)∧
  (I.dX []=true)∧
  (∀d ds,I.dX (d::ds)=(d.plain&&I.dX ds)):=
 ⟨fun _ _=>rfl,fun _=>rfl,fun _=>rfl,fun _=>rfl,fun _=>rfl,fun _ _=>rfl,fun _ _=>rfl,fun _ _=>rfl,rfl,rfl,rfl,rfl,fun _ _=>rfl,fun _=>rfl,fun _=>rfl,fun _=>rfl,rfl,fun _ _=>rfl⟩
theorem Lr:
  (∀(s:ar) (k:IntKind) (n:Int),jM s (.int k n)=some ((.int k n),s))∧
  (∀(s:ar) (b:Bool),jM s (.bool b)=some ((.bool b),s))∧
  (∀(s:ar) (x:List UInt8),jM s (.str x)=some ((.str x),s))∧
  (∀(s:ar) (xs:List I),jM s (.slice xs)=some ((.slice xs),s))∧
  (∀(s:ar) (d:I),jM s (.ref d)=some ((.ref d),s))∧
  (∀(s:ar) (f:FuncId) (cap:List I),jM s (.fn f cap)=some ((.fn f cap),s))∧
  (∀(s:ar) (x:Nat) (q:List Nat),jM s (.au x q)=some ((.au x q),s))∧
  (∀(s:ar),jM s .dI=some (.dI,s))∧
  (∀(s:ar),jM s .bk=some (.bk,s))∧
  (∀(s:ar),jM s .fb=some (.fb,s))∧
  (∀(s:ar),jM s .hole=some (.hole,s))∧
  (∀(s:ar) (sz:Nat) (xs:List I),jM s (.an sz xs)=some ((.an sz xs),s))∧
  (∀(s:ar) (d:I),jM s (.bd d)=some ((.bd d),s))∧
  (∀(s:ar) (ay:List I),jM s (.agg ay)=some ((.agg ay),s))∧
  (∀(s:ar) (ay:List I),jM s (.tuple ay)=some ((.tuple ay),s))∧
  (∀(s:ar) y q,jM s (.h y q)=c7 s (.h y q)):=
 ⟨fun _ _ _=>rfl,fun _ _=>rfl,fun _ _=>rfl,fun _ _=>rfl,fun _ _=>rfl,fun _ _ _=>rfl,fun _ _ _=>rfl,fun _=>rfl,fun _=>rfl,fun _=>rfl,fun _=>rfl,fun _ _ _=>rfl,fun _ _=>rfl,fun _ _=>rfl,fun _ _=>rfl,fun _ _ _=>rfl⟩
theorem Ls:
  (∀(t:Nat) (k:IntKind) (n:Int),c5 t (.int k n)=(.int k n))∧
  (∀(t:Nat) (b:Bool),c5 t (.bool b)=(.bool b))∧
  (∀(t:Nat) (x:List UInt8),c5 t (.str x)=(.str x))∧
  (∀(t:Nat) (xs:List I),c5 t (.slice xs)=(.slice xs))∧
  (∀(t:Nat) (d:I),c5 t (.ref d)=(.ref d))∧
  (∀(t:Nat),c5 t .dI= .dI)∧
  (∀(t:Nat),c5 t .bk= .bk)∧
  (∀(t:Nat),c5 t .fb= .fb)∧
  (∀(t:Nat),c5 t .hole= .hole)∧
  (∀(t:Nat) (sz:Nat) (xs:List I),c5 t (.an sz xs)=(.an sz xs))∧
  (∀(t:Nat) (d:I),c5 t (.bd d)=(.bd d))∧
  (∀(t:Nat) (ay:List I),c5 t (.agg ay)=(.agg ay))∧
  (∀(t:Nat) (ay:List I),c5 t (.tuple ay)=(.tuple ay))∧
  (∀(t y:Nat) q,c5 t (.h y q)=if y=t then .hole else .h y q)∧
  (∀(t y:Nat) q,c5 t (.au y q)=if y=t then .hole else .au y q)∧
  (∀(t:Nat) f c,c5 t (.fn f c)= .fn f (jG t c))∧
  (∀t,jG t []=[])∧
  (∀t d ds,jG t (d::ds)=c5 t d::jG t ds)∧
  (∀t,oB t []=[])∧
  (∀t u d l,oB t ((u,d)::l)=(u,c5 t d)::oB t l)∧
  (∀t l,lZ t (ab l)=ab (oB t l)):=
 ⟨fun _ _ _=>by unfold c5;rfl,fun _ _=>by unfold c5;rfl,fun _ _=>by unfold c5;rfl,fun _ _=>by unfold c5;rfl,fun _ _=>by unfold c5;rfl,fun _=>by unfold c5;rfl,fun _=>by unfold c5;rfl,fun _=>by unfold c5;rfl,fun _=>by unfold c5;rfl,fun _ _ _=>by unfold c5;rfl,fun _ _=>by unfold c5;rfl,fun _ _=>by unfold c5;rfl,fun _ _=>by unfold c5;rfl,fun _ _ _=>by unfold c5;rfl,fun _ _ _=>by unfold c5;rfl,fun _ _ _=>by simp only[c5],fun _=>by simp only[jG],fun _ _ _=>by simp only[jG],fun _=>rfl,fun _ _ _ _=>rfl,fun t l=>vB t l⟩
theorem Lt:
  (∀(t:Nat) (k:IntKind) (n:Int),cv t (.int k n)=(.int k n))∧
  (∀(t:Nat) (b:Bool),cv t (.bool b)=(.bool b))∧
  (∀(t:Nat) (x:List UInt8),cv t (.str x)=(.str x))∧
  (∀(t:Nat) (xs:List I),cv t (.slice xs)=(.slice xs))∧
  (∀(t:Nat) (d:I),cv t (.ref d)=(.ref d))∧
  (∀(t:Nat),cv t .dI= .dI)∧
  (∀(t:Nat),cv t .bk= .bk)∧
  (∀(t:Nat),cv t .fb= .fb)∧
  (∀(t:Nat),cv t .hole= .hole)∧
  (∀(t:Nat) (sz:Nat) (xs:List I),cv t (.an sz xs)=(.an sz xs))∧
  (∀(t:Nat) (d:I),cv t (.bd d)=(.bd d))∧
  (∀(t:Nat) (ay:List I),cv t (.agg ay)=(.agg ay))∧
  (∀(t:Nat) (ay:List I),cv t (.tuple ay)=(.tuple ay))∧
  (∀(t y:Nat),cv t (.h y [])= .h y [])∧
  (∀(t y k:Nat) q,cv t (.h y (k::q))=if y=t then .hole else .h y (k::q))∧
  (∀(t y:Nat) q,cv t (.au y q)=if y=t then .hole else .au y q)∧
  (∀(t:Nat) f c,cv t (.fn f c)= .fn f (i_ t c))∧
  (∀t,i_ t []=[])∧
  (∀t d ds,i_ t (d::ds)=cv t d::i_ t ds)∧
  (∀t,tf t []=[])∧
  (∀t u d l,tf t ((u,d)::l)=(u,cv t d)::tf t l)∧
  (∀t l,iu t (ab l)=ab (tf t l)):=
 ⟨fun _ _ _=>by unfold cv;rfl,fun _ _=>by unfold cv;rfl,fun _ _=>by unfold cv;rfl,fun _ _=>by unfold cv;rfl,fun _ _=>by unfold cv;rfl,fun _=>by unfold cv;rfl,fun _=>by unfold cv;rfl,fun _=>by unfold cv;rfl,fun _=>by unfold cv;rfl,fun _ _ _=>by unfold cv;rfl,fun _ _=>by unfold cv;rfl,fun _ _=>by unfold cv;rfl,fun _ _=>by unfold cv;rfl,fun _ _=>by simp[cv],fun _ _ _ _=>by simp[cv],fun _ _ _=>by unfold cv;rfl,fun _ _ _=>by simp only[cv],fun _=>by simp only[i_],fun _ _ _=>by simp only[i_],fun _=>rfl,fun _ _ _ _=>rfl,fun t l=>Ur t l⟩
def GK:n9→Bool→Option I
 | .bool,b=>some (.bool b)
 |_,_=>none
def rZ (neg:Bool):n9→Option (Option Bool)→Option I
 | .slice _,some r=>some (o4 neg r)
 |_,_=>none
def tm (neg:Bool):n9→Option Bool→Option I
 | .ptr _,some b=>some (.bool (b !=neg))
 |_,_=>none
theorem Lu (C:cw) (s:ar) (T:TypeId):
  (∀op k a cW b,ck C s op T (.int k a) (.int cW b)=jt op k a cW b)∧
  (∀op a b,ck C s op T (.str a) (.str b)=nB op a b)∧
  (∀a b,ck C s .eql T (.bool a) (.bool b)=GK (C.T T).k (a==b))∧
  (∀a b,ck C s .neq T (.bool a) (.bool b)=GK (C.T T).k (!(a==b)))∧
  (∀xs,ck C s .eql T (.slice xs) .bk=rZ false (C.T T).k (j5 s (.slice xs)))∧
  (∀xs,ck C s .neq T (.slice xs) .bk=rZ true (C.T T).k (j5 s (.slice xs)))∧
  (ck C s .eql T .bk .bk=rZ false (C.T T).k (j5 s .bk))∧
  (ck C s .neq T .bk .bk=rZ true (C.T T).k (j5 s .bk))∧
  (∀x q,ck C s .eql T (.h x q) .bk=rZ false (C.T T).k (j5 s (.h x q)))∧
  (∀x q,ck C s .neq T (.h x q) .bk=rZ true (C.T T).k (j5 s (.h x q)))∧
  (∀x q,ck C s .eql T (.h x q) .dI=tm false (C.T T).k (lH s (.h x q)))∧
  (∀x q,ck C s .neq T (.h x q) .dI=tm true (C.T T).k (lH s (.h x q)))∧
  (∀d,ck C s .eql T (.ref d) .dI=tm false (C.T T).k (lH s (.ref d)))∧
  (∀d,ck C s .neq T (.ref d) .dI=tm true (C.T T).k (lH s (.ref d)))∧
  (ck C s .eql T .dI .dI=tm false (C.T T).k (lH s .dI))∧
  (ck C s .neq T .dI .dI=tm true (C.T T).k (lH s .dI)):=by
 refine⟨?_,?_,?_,?_,?_,?_,?_,?_,?_,?_,?_,?_,?_,?_,?_,?_⟩<;>intros<;>first
  |rfl
  |(simp only[ck]
    generalize (C.T T).k=mr
    cases mr<;>first|rfl|(simp only[rZ];generalize j5 s _=v;cases v<;>rfl)|(simp only[tm];generalize lH s _=v;cases v<;>(try (rename_i b;cases b))<;>rfl))
theorem Lv (k:IntKind) (a b:Int):
  jt .add k a k b=some (.int k (k.wrap (a+b)))∧jt .sub k a k b=some (.int k (k.wrap (a-b)))∧jt .mul k a k b=some (.int k (k.wrap (a*b)))∧
  jt .eql k a k b=some (.bool (a==b))∧jt .neq k a k b=some (.bool (a !=b))∧jt .lss k a k b=some (.bool (decide (a<b)))∧jt .leq k a k b=some (.bool (decide (a≤b)))∧
  jt .gtr k a k b=some (.bool (decide (b<a)))∧jt .geq k a k b=some (.bool (decide (b≤a)))∧
  jt .and k a k b=some (.int k (bitsOf .and k a b))∧jt .or k a k b=some (.int k (bitsOf .or k a b))∧jt .xor k a k b=some (.int k (bitsOf .xor k a b))∧jt .andNot k a k b=some (.int k (bitsOf .andNot k a b)):=by
 simp[jt]
theorem U7 {k:IntKind} {a b:Int} (h:b≠0):jt .quo k a k b=some (.int k (k.wrap (a.tdiv b))):=by simp[jt,h]
theorem U8 {k:IntKind} {a b:Int} (h:b≠0):jt .rem k a k b=some (.int k (a.tmod b)):=by simp[jt,h]
theorem Lw (a b:List UInt8):
  nB .eql a b=some (.bool (a==b))∧nB .neq a b=some (.bool !(a==b))∧nB .lss a b=some (.bool (Op.bytesLess a b))∧
  nB .leq a b=some (.bool (Op.bytesLess a b||a==b))∧nB .gtr a b=some (.bool !(Op.bytesLess a b||a==b))∧nB .geq a b=some (.bool !(Op.bytesLess a b)):=by
 refine⟨rfl,rfl,rfl,rfl,rfl,rfl⟩
theorem Lx:(∀b,un .not (.bool b)=some (.bool !b))∧(un .not .fb=some .fb)∧(∀k n,un .neg (.int k n)=some (.int k (k.wrap (0-n)))):=⟨fun _=>rfl,rfl,fun _ _=>rfl⟩
def GL:n9→Option UInt8→Option I
 | .str,some c=>some (.int .u8 c.toNat)
 |_,_=>none
theorem Ly (C:cw) (T:TypeId) (l:List UInt8) (k:IntKind) (n:Int):idx C T (.str l) (.int k n)=GL (C.T T).k (bF l n):=by
 simp only[idx,bF]
 generalize (C.T T).k=mr
 cases mr<;>first|rfl|(simp only[GL];split<;>first|rfl|(cases l[n.toNat]? <;>rfl))
def GM (C:cw):n9→Option I→Option I
 | .slice e,some d=>if(C.T e).ok=true∧d.wd=(C.T e).sz then some (.ref d)else none
 |_,_=>none
theorem Lz (C:cw) (s:ar) (T:TypeId) (xs:List I) (k:IntKind) (n:Int):fc C s T (.slice xs) (.int k n)=GM C (C.T T).k (bF xs n):=by
 simp only[fc,bF]
 generalize (C.T T).k=mr
 cases mr<;>first|rfl|skip
 simp only[GM]
 by_cases bf:0≤n
 ·simp only[bf,true_and,if_true]
  split
  ·cases xs[n.toNat]? <;>simp[*]
  ·cases xs[n.toNat]? <;>simp[*]
 ·simp only[bf,false_and,if_false]
def yr (C:cw) (y:Nat) (q:List Nat) (n:Int):n9→Option I→Option I
 | .slice e,some (.an sz xs)=>if(bF xs n).isSome=true∧(C.T e).ok=true∧sz=(C.T e).sz then some (.au y (q++[n.toNat]))else none
 |_,_=>none
theorem LA (C:cw) (s:ar) (T:TypeId) (y:Nat) (q:List Nat) (k:IntKind) (n:Int):fc C s T (.h y q) (.int k n)=yr C y q n (C.T T).k (I.sub q (s y)):=by
 simp only[fc]
 generalize (C.T T).k=mr
 cases mr<;>first|rfl|skip
 rename_i e
 cases ag:I.sub q (s y)with
 |none=>simp[yr]
 |some d=>
  cases d<;>first
   |(simp[yr];done)
   |skip
  rename_i sz xs
  have b9:(bF xs n).isSome=true↔0≤n∧n.toNat<xs.length:=by
   unfold bF;split<;>simp_all<;>omega
  simp only[yr,b9]
  by_cases bf:0≤n<;>by_cases h1:(C.T e).ok=true<;>simp[bf,h1]
def wa:n9→ar→Option (List UInt8)→Option (I×ar)
 | .str,s,some t=>some (.str t,s)
 |_,_,_=>none
def wb (C:cw):n9→ar→List I→Option (List I)→Option (I×ar)
 | .slice e,s,xs,some t=>if(C.T e).ok=true∧∀d∈xs,d.wd=(C.T e).sz then some (.slice t,s)else none
 |_,_,_,_=>none
theorem LB (C:cw) (s:ar) (T:TypeId) (l:List UInt8):
  (∀k a cW b,fG C s T (.str l) (some (.int k a)) (some (.int cW b))=wa (C.T T).k s (lA l a b))∧
  (∀cW b,fG C s T (.str l) none (some (.int cW b))=wa (C.T T).k s (lA l 0 b))∧
  (∀k a,fG C s T (.str l) (some (.int k a)) none=wa (C.T T).k s (lA l a l.length)):=by
 have e:∀(dv ao:Option I) (a b:Int),(i7 0 dv=if 0≤a then some a.toNat else none)→(i7 l.length ao=if 0≤b then some b.toNat else none)→fG C s T (.str l) dv ao=wa (C.T T).k s (lA l a b):=by
  intro dv ao a b h1 ah
  simp only[fG]
  generalize (C.T T).k=mr
  cases mr<;>first|rfl|skip
  simp only[h1,ah,lA]
  by_cases cE:0≤a<;>by_cases ae:0≤b<;>simp only[cE,ae,if_true,if_false,wa,true_and,false_and]
  ·by_cases aq:a≤b∧b≤l.length
   ·rw[if_pos ⟨by omega,by omega⟩,if_pos aq]
   ·rw[if_neg (fun h=>aq ⟨by omega,by omega⟩),if_neg aq]
  ·rw[if_neg (by omega)]
 exact⟨fun k a cW b=>e _ _ a b rfl rfl,fun cW b=>e _ _ 0 b rfl rfl,fun k a=>e _ _ a l.length rfl (by simp[i7])⟩
theorem LC (C:cw) (s:ar) (T:TypeId) (xs:List I):
  (∀k a cW b,fG C s T (.slice xs) (some (.int k a)) (some (.int cW b))=wb C (C.T T).k s xs (lA xs a b))∧
  (∀cW b,fG C s T (.slice xs) none (some (.int cW b))=wb C (C.T T).k s xs (lA xs 0 b))∧
  (∀k a,fG C s T (.slice xs) (some (.int k a)) none=wb C (C.T T).k s xs (lA xs a xs.length)):=by
 have e:∀(dv ao:Option I) (a b:Int),(i7 0 dv=if 0≤a then some a.toNat else none)→(i7 xs.length ao=if 0≤b then some b.toNat else none)→fG C s T (.slice xs) dv ao=wb C (C.T T).k s xs (lA xs a b):=by
  intro dv ao a b h1 ah
  simp only[fG]
  generalize (C.T T).k=mr
  cases mr<;>first|rfl|skip
  simp only[h1,ah,lA]
  by_cases cE:0≤a<;>by_cases ae:0≤b<;>simp only[cE,ae,if_true,if_false,wb,true_and,false_and]
  ·by_cases aq:a≤b∧b≤xs.length
   ·rw[if_pos aq]
    have h1:a.toNat≤b.toNat:=by omega
    have ah:b.toNat≤xs.length:=by omega
    simp only[h1,ah,true_and]
   ·rw[if_neg (fun h=>aq ⟨by omega,by omega⟩),if_neg aq]
  ·rw[if_neg (by omega)]
 exact⟨fun k a cW b=>e _ _ a b rfl rfl,fun cW b=>e _ _ 0 b rfl rfl,fun k a=>e _ _ a xs.length rfl (by simp[i7])⟩
def yt (q:List Nat):Option I→Option I
 |some d=>I.sub q d
 |none=>none
theorem LD:(∀d,I.sub [] d=some d)∧(∀k q ay,I.sub (k::q) (.agg ay)=yt q ay[k]?)∧(∀k q ay,I.sub (k::q) (.tuple ay)=yt q ay[k]?)∧(∀k q sz xs,I.sub (k::q) (.an sz xs)=yt q xs[k]?)∧
  (∀q d,I.sub (0::q) (.bd d)=I.sub q d)∧(∀q d,yt q (some d)=I.sub q d)∧
  (∀k q a b,I.sub (k::q) (.int a b)=none):=by
 refine⟨fun d=>by simp[I.sub],?_,?_,?_,fun q d=>by simp[I.sub],fun _ _=>rfl,fun _ _ _ _=>by simp[I.sub]⟩
 ·intro k q ay;simp only[I.sub];cases ay[k]? <;>rfl
 ·intro k q ay;simp only[I.sub];cases ay[k]? <;>rfl
 ·intro k q sz ay;simp only[I.sub];cases ay[k]? <;>rfl
def LF (k:Nat) (q:List Nat) (n:I) (ay:List I):Option I→I
 |some d=>.agg (ay.set k (I.put q n d))
 |none=>.agg ay
def LG (k:Nat) (q:List Nat) (n:I) (ay:List I):Option I→I
 |some d=>.tuple (ay.set k (I.put q n d))
 |none=>.tuple ay
def LH (k:Nat) (q:List Nat) (n:I) (sz:Nat) (xs:List I):Option I→I
 |some d=>.an sz (xs.set k (I.put q n d))
 |none=>.an sz xs
theorem LI:(∀n d,I.put [] n d=n)∧(∀k q n ay,I.put (k::q) n (.agg ay)=LF k q n ay ay[k]?)∧(∀k q n ay,I.put (k::q) n (.tuple ay)=LG k q n ay ay[k]?)∧
  (∀k q n sz xs,I.put (k::q) n (.an sz xs)=LH k q n sz xs xs[k]?)∧(∀q n d,I.put (0::q) n (.bd d)= .bd (I.put q n d))∧
  (∀k q n ay d,LF k q n ay (some d)= .agg (ay.set k (I.put q n d)))∧(∀k q n ay d,LG k q n ay (some d)= .tuple (ay.set k (I.put q n d)))∧
  (∀k q n sz xs d,LH k q n sz xs (some d)= .an sz (xs.set k (I.put q n d))):=by
 refine⟨fun n d=>by simp[I.put],?_,?_,?_,fun q n d=>by simp[I.put],fun _ _ _ _ _=>rfl,fun _ _ _ _ _=>rfl,fun _ _ _ _ _ _=>rfl⟩
 ·intro k q n ay;simp only[I.put];cases ay[k]? <;>rfl
 ·intro k q n ay;simp only[I.put];cases ay[k]? <;>rfl
 ·intro k q n sz ay;simp only[I.put];cases ay[k]? <;>rfl
theorem GN:(∀k n,I.wd (.int k n)=1)∧(∀b,I.wd (.bool b)=1)∧(∀x,I.wd (.str x)=1)∧(∀x,I.wd (.slice x)=1)∧(∀n x,I.wd (.an n x)=1)∧(∀x,I.wd (.ref x)=1)∧(∀x,I.wd (.bd x)=1)∧
  I.wd .bk=1∧I.wd .dI=1∧I.wd .hole=1∧I.wd .fb=1∧(∀x y,I.wd (.h x y)=1)∧(∀x y,I.wd (.au x y)=1)∧(∀x y,I.wd (.fn x y)=1)∧(∀ay,I.wd (.agg ay)=I.eC ay)∧(∀ay,I.wd (.tuple ay)=I.eC ay)∧I.eC []=0∧(∀d ds,I.eC (d::ds)=d.wd+I.eC ds):=by
 simp[I.wd,I.eC]
theorem U9 {α:Type} {e:α→I} {n:Nat} (h:∀x,(e x).wd=n) (xs:List α):(∀d∈xs.map e,d.wd=n)=True:=by
 simp only[List.mem_map,eq_iff_iff,iff_true]
 rintro d ⟨x,_,rfl⟩;exact h x
theorem U_ (C:cw) (s:ar) (A B:TypeId) (k cW:IntKind) (n:Int) (iQ:(C.T A).ok=true) (hN:(C.T B).k= .int cW):gw C s A B (.int k n)=some (.int cW (cW.wrap n)):=by
 simp only[gw,iQ,hN,if_true]
theorem LJ (m:Int):kX (qC m)= .int .u8 (IntKind.u8.wrap m):=by
 have h:0≤IntKind.u8.wrap m∧IntKind.u8.wrap m<256:=by rw[IntKind.wrap_u8];omega
 simp only[kX,qC,UInt8.toNat_ofNat']
 congr 1
 omega
theorem GO (m:Int):((qC m).toNat:Int)=IntKind.u8.wrap m:=by
 have h:=LJ m
 simpa [kX]using h
section
variable {C:cw} {l:List (Nat×I)} {Q:Exit→ar→Prop} {s:ar}
theorem jV {ros:List cj} {k:List Nat} (h:cT C (ab l) ros none (fun _ s=>Q .normal (ab (jf k s)))):dc C (.ca ros (some k)) Q (ab l):=ti (fun _ _ h=>h) h
theorem Va {ros:List cj} {g_:List (List Nat)} {k:List Nat} (hlen:g_.length=ros.length) (h:cT C (ab l) ros (some []) (fun acc s=>mE (tk g_) 0 [] (acc.getD []).reverse=true∧Q .normal (ab (jf k s)))):
  dc C (.l9 ros g_ (some k)) Q (ab l):=Lm hlen h
theorem Vb {a b:J} (h:∀eM:Exit→ar→Prop,(∀s,ev (dc C b Q) s→eM .normal s)→(∀s,Q .ret s→eM .ret s)→(∀i s,Q (.exit i) s→eM (.exit i) s)→dc C a eM s):dc C (.seq a b) Q s:=
 h _ (fun _ h=>h) (fun _ h=>h) (fun _ _ h=>h)
theorem cP {ros:List cj} {k:List Nat} {b:J} (h:cT C (ab l) ros none (fun _ s=>dc C b Q (ab (jf k s)))):dc C (.seq (.ca ros (some k)) b) Q (ab l):=ti (fun _ _ h=>.inl h) h
theorem fj {ros:List cj} {g_:List (List Nat)} {k:List Nat} {b:J} (hlen:g_.length=ros.length) (h:cT C (ab l) ros (some []) (fun acc s=>mE (tk g_) 0 [] (acc.getD []).reverse=true∧dc C b Q (ab (jf k s)))):
  dc C (.seq (.l9 ros g_ (some k)) b) Q (ab l):=Lm (K:=fun s=>ev (dc C b Q) (ab (jf k s))) hlen (by
   have key:∀(os:List cj) (s:ar) (acc:Option (List fR)),cT C s os acc (fun acc s=>mE (tk g_) 0 [] (acc.getD []).reverse=true∧dc C b Q (ab (jf k s)))→
     cT C s os acc (fun acc s=>mE (tk g_) 0 [] (acc.getD []).reverse=true∧ev (dc C b Q) (ab (jf k s))):=by
    intro os
    induction os with
    |nil=>intro s acc h;exact⟨h.1,.inl h.2⟩
    |cons o os ih=>
     intro s acc h
     have mono:∀{s:ar} {b0:gb} {K dM:List Nat→I→ar→Prop},(∀a b c,K a b c→dM a b c)→oC C s b0 K→oC C s b0 dM:=by
      intro s b0 K dM hk h
      cases b0 with
      |call f args=>
       obtain⟨g,caps,ps,r,h1,gI,ah,aC,a8,bK,cU,cJ,fw⟩:=h
       exact⟨g,caps,ps,r,h1,gI,ah,aC,a8,bK,cU,cJ,hk _ _ _ fw⟩
      |shr b0=>obtain⟨av,s1,h1,ah,aC,a8⟩:=h;exact⟨av,s1,h1,ah,aC,hk _ _ _ a8⟩
      |mZ f args u x=>
       obtain⟨b8,cy,g,caps,ps,r,h1,gI,ah,aC,a8,bK,cU,cJ,fw,hR,h3⟩:=h
       exact⟨b8,cy,g,caps,ps,r,h1,gI,ah,aC,a8,bK,cU,cJ,fw,hR,hk _ _ _ h3⟩
      |ky f args us=>
       obtain⟨cy,g,caps,ps,r,h1,gI,ah,aC,a8,bK,cU,cJ,fw,hR⟩:=h
       exact⟨cy,g,caps,ps,r,h1,gI,ah,aC,a8,bK,cU,cJ,fw,hk _ _ _ hR⟩
      |_=>obtain⟨av,s1,h1,ah⟩:=h;exact⟨av,s1,h1,hk _ _ _ ah⟩
     simp only[cT,nJ]at h⊢
     split
     ·rename_i b9;rw[b9]at h;exact mono (fun _ _ _=>ih _ _) h
     ·rename_i t fZ b9
      rw[b9]at h
      simp only at h
      split
      ·rename_i aDL ag
       rw[ag]at h
       simp only at h
       split
       ·rename_i ae;rw[if_pos ae]at h;exact mono (fun _ _ _=>ih _ _) h
       ·rename_i ae;rw[if_neg ae]at h;exact ih _ _ h
      ·rename_i ag;rw[ag]at h;exact ih _ _ h
      ·rename_i h1 ah
       split at h
       ·exact h1 _ (by assumption)
       ·exact ah (by assumption)
       ·exact h
   exact key _ _ _ h)
theorem jg {c:aK} {a b:J} (aq:aN s c= .bool true) (h:dc C a Q s):dc C (.cond c a b) Q s:=by simp only[dc,aq,if_true];exact h
theorem qV {c:aK} {a b:J} (aq:aN s c= .bool false) (h:dc C b Q s):dc C (.cond c a b) Q s:=by simp only[dc,aq];exact h
theorem Vc {c:aK} {a b:J} (aq:aN s c= .fb) (h1:dc C a Q s) (ah:dc C b Q s):dc C (.cond c a b) Q s:=by simp only[dc,aq];exact⟨h1,ah⟩
theorem Vd {id:Nat} {b:J} (h:∀eM:Exit→ar→Prop,(∀s,Q .normal s→eM .normal s)→(∀s,Q .ret s→eM .ret s)→(∀s,Q .normal s→eM (.exit id) s)→(∀i s,i≠id→Q (.exit i) s→eM (.exit i) s)→dc C b eM s):dc C (.block id b) Q s:=
 h (vx id Q) (fun _ h=>h) (fun _ h=>h) (fun s h=>by simp only[vx,if_true];exact h) (fun i s ao h=>by simp only[vx,if_neg ao];exact h)
theorem dA {id:Nat} (h:Q (.exit id) s):dc C (.exit id) Q s:=h
theorem aD (h:Q .ret s):dc C .ret Q s:=h
theorem aY (h:Q .normal s):dc C .skip Q s:=h
def dp (C:cw) (b:J) (Q:Exit→ar→Prop) (s:ar):Prop:=∀Z:ar→Prop,(∀az,dc C b (andThen (ev Z) Q) az→Z az)→Z s
theorem dC {b:J} (h:ev (dp C b Q) s):dc C (.loop b) Q s:=h
theorem Ve {b:J} (h:∀eM:Exit→ar→Prop,(∀s,ev (dp C b Q) s→eM .normal s)→(∀s,Q .ret s→eM .ret s)→(∀i s,Q (.exit i) s→eM (.exit i) s)→dc C b eM s):dp C b Q s:=by
 intro Z vz
 refine vz s (Gq b ?_ (h (andThen (ev (dp C b Q)) Q) (fun _ h=>h) (fun _ h=>h) (fun _ _ h=>h)))
 intro e az bL
 cases e with
 |normal=>exact vy (fun s h=>h Z vz) az bL
 |_=>exact bL
theorem bq {eu:List (Nat×I)} (h:eu.map (·.2)=eu.map fun p=>s p.1):td s eu:=by
 intro p au
 left
 induction eu with
 |nil=>cases au
 |cons a eu ih=>
  simp only[List.map_cons,List.cons.injEq]at h
  rcases List.mem_cons.1 au with rfl|au
  ·exact h.1
  ·exact ih h.2 au
end
section
variable {C:cw} {l:List (Nat×I)} {Q:Exit→ar→Prop} {s:ar} {os ros:List cj} {K:Option (List fR)→ar→Prop} {dst:Option Nat}
theorem LK (l:List (Nat×I)):(∀n,aN (ab l) (.t n)=js n (ab l n))∧(∀av,aN (ab l) (.c av)=av)∧(∀g,aN (ab l) (.f g)= .fn g []):=⟨fun _=>rfl,fun _=>rfl,fun _=>rfl⟩
theorem LL:(∀t,ab [] t= .hole)∧(∀u d (l:List (Nat×I)) t,ab ((u,d)::l) t=if t=u then d else ab l t):=⟨fun _=>rfl,fun _ _ _ _=>rfl⟩
theorem LM (s:ar):jf [] s=[]∧(∀t k,jf (t::k) s=(t,s t)::jf k s):=⟨rfl,fun _ _=>rfl⟩
theorem LN (s:ar):(∀d,dn s (some d)=some (d,s))∧(∀s1,dz (some s1)=some (.hole,s1))∧iC s []=[]∧(∀x xs,iC s (x::xs)=aN s x::iC s xs)∧kz s []=[]∧(∀k x xs,kz s ((k,x)::xs)=(k,aN s x)::kz s xs)∧
  lO s none=none∧(∀x,lO s (some x)=some (aN s x))∧(∀b x y,rY s (.bool b) x y=some (if b=true then x else y,s)):=
 ⟨fun _=>rfl,fun _=>rfl,rfl,fun _ _=>rfl,rfl,fun _ _ _=>rfl,rfl,fun _=>rfl,fun b _ _=>by cases b<;>rfl⟩
theorem LO (C:cw):(∀e d,GM C (.slice e) (some d)=if(C.T e).ok=true∧d.wd=(C.T e).sz then some (.ref d)else none)∧
  (∀y q n e sz xs,yr C y q n (.slice e) (some (.an sz xs))=if(bF xs n).isSome=true∧(C.T e).ok=true∧sz=(C.T e).sz then some (.au y (q++[n.toNat]))else none)∧
  (∀e s xs t,wb C (.slice e) s xs (some t)=if(C.T e).ok=true∧∀d∈xs,d.wd=(C.T e).sz then some (.slice t,s)else none):=
 ⟨fun _ _=>rfl,fun _ _ _ _ _ _=>rfl,fun _ _ _ _=>rfl⟩
theorem LP:(∀b,GK .bool b=some (.bool b))∧(∀c,GL .str (some c)=some (.int .u8 c.toNat))∧(∀s t,wa .str s (some t)=some (.str t,s))∧(∀q d,yt q (some d)=I.sub q d):=
 ⟨fun _=>rfl,fun _=>rfl,fun _ _=>rfl,fun _ _=>rfl⟩
theorem LQ (sz bytes:Nat) (z:I):(∀k,gS.ok ⟨.int k,sz,bytes,z⟩=true)∧gS.ok ⟨.bool,sz,bytes,z⟩=true∧gS.ok ⟨.str,sz,bytes,z⟩=true∧(∀e,gS.ok ⟨.ptr e,sz,bytes,z⟩=true)∧(∀e,gS.ok ⟨.slice e,sz,bytes,z⟩=true)∧(∀e,gS.ok ⟨.struct e,sz,bytes,z⟩=true)∧gS.ok ⟨.fn,sz,bytes,z⟩=true:=by
 simp[gS.ok]
theorem LR (sz bytes:Nat) (z:I):(∀k,gS.flat ⟨.int k,sz,bytes,z⟩=true)∧gS.flat ⟨.bool,sz,bytes,z⟩=true∧gS.flat ⟨.str,sz,bytes,z⟩=true∧(∀e,gS.flat ⟨.ptr e,sz,bytes,z⟩=true)∧(∀e,gS.flat ⟨.slice e,sz,bytes,z⟩=true)∧(∀e,gS.flat ⟨.struct e,sz,bytes,z⟩=false)∧gS.flat ⟨.fn,sz,bytes,z⟩=true:=by
 simp[gS.flat]
theorem yu (c:UInt8) (k:IntKind) (hk:k≠.i8):k.wrap (c.toNat:Int)=(c.toNat:Int):=by
 have:=c.toNat_lt
 cases k<;>first|(exact(hk rfl).elim)|(simp[IntKind.wrap,IntKind.bits,IntKind.signed];try omega)
theorem GP (c:UInt8):IntKind.i64.wrap (c.toNat:Int)=(c.toNat:Int)∧IntKind.u64.wrap (c.toNat:Int)=(c.toNat:Int)∧IntKind.u8.wrap (c.toNat:Int)=(c.toNat:Int)∧IntKind.i32.wrap (c.toNat:Int)=(c.toNat:Int)∧IntKind.u32.wrap (c.toNat:Int)=(c.toNat:Int):=
 ⟨yu c _ (by simp),yu c _ (by simp),yu c _ (by simp),yu c _ (by simp),yu c _ (by simp)⟩
theorem bU {k:List Nat} {K:ar→Prop} (eu:List (Nat×I)) (h:∀P:List (Nat×I)→Prop,P eu→cT C (ab l) ros none (fun _ s=>P (jf k s))) (hk:K (ab eu)):cT C (ab l) ros none (fun _ s=>K (ab (jf k s))):=
 h (fun l=>K (ab l)) hk
theorem fi {k:List Nat} {nh:List (List Nat)} {K:ar→Prop} (eu:List (Nat×I)) (h:∀P:List (Nat×I)→Prop,P eu→cT C (ab l) ros (some []) (fun acc s=>mE nh 0 [] (acc.getD []).reverse=true∧P (jf k s))) (hk:K (ab eu)):
  cT C (ab l) ros (some []) (fun acc s=>mE nh 0 [] (acc.getD []).reverse=true∧K (ab (jf k s))):=
 h (fun l=>K (ab l)) hk
theorem bl.Vf (bu:C.Ok) {f:FuncId} {fn:Func} {c:Code} {dJ:J} {fx:List Nat} {as outs:List I} {r:I} (bC:C.P.funcs[f]? =some fn) (ae:fn.body=some c)
  (k1:(fn.name== "runtime.NumGoroutine")=false) (ag:bn ⟨fn.ntmps,fx⟩ c=some dJ.strip) (a6:as.length≤fn.ntmps)
  (h:∀Q:Exit→ar→Prop,(∀s,ev (Ends C fx fn.results.toList r outs) s→Q .ret s)→(∀s,ev (Ends C fx fn.results.toList r outs) s→Q .normal s)→dc C dJ Q (ab (num 0 as))) (au:dJ.plain=true:=by kernel_rfl):bl C f as r outs:=by
 refine bl.of_wp bu bC ae k1 ag a6 ?_ au
 rw[Bw]
 exact h _ (fun s h=>⟨.inr rfl,h⟩) (fun s h=>⟨.inl rfl,h⟩)
def LS:List I→I
 |[d]=>d
 |ds=>.tuple ds
theorem l_ {fx:List Nat} {fC:List ResultVar} {r:I} {outs:List I} (ds:List I) (h1:fC.map (qS C s)=ds.map some) (ah:r=LS ds) (aC:(fC.map j7).Nodup)
  (a8:∀(i:Nat) (o:I),outs[i]? =some o→o= .hole∨(o=s i∧o.gW=true∧i∈fx∧i∉fC.map j7)):Ends C fx fC r outs s:=.inl ⟨ds,h1,by subst ah;cases ds with|nil=>rfl|cons a t=>cases t<;>rfl,aC,a8⟩
theorem Vg {fx:List Nat} {fC:List ResultVar}:∀(i:Nat) (o:I),([]:List I)[i]? =some o→o= .hole∨(o=s i∧o.gW=true∧i∈fx∧i∉fC.map j7):=fun i o h=>by simp at h
theorem LU:∀(as ds:List I),(mC as ds).filter (·.g)=[]
 |[],_=>rfl
 |_::_,[]=>rfl
 |a::as,d::ds=>by simp only[mC,List.filter_cons];exact LU as ds
theorem BF {f:aK} {args:List aK} {g:FuncId} {caps:List I} {K:List Nat→I→ar→Prop} (ds:List I) (r:I)
  (h1:aN (ab l) f= .fn g caps) (gI:I.dX caps=true) (jS:views (ab l) (iC (ab l) args++caps)=some ds)
  (bK:bl C g ds r []) (cU:r.res=true) (cJ:I.er (iC (ab l) args++caps)=[]∨r.dd=true) (jT:K [] r (ab l)):oC C (ab l) (.call f args) K:=by
 obtain⟨aS,aZ,aQ,cF,cR,ch,b3⟩:=Us _ _ jS
 refine⟨g,caps,mC (iC (ab l) args++caps) ds,r,h1,gI,by rw[aS,vF],fun p au=>(aQ p au).1,cF,by rw[aZ];exact bK.outs cR.symm,cU,?_,by rw[ch,b3,LU];exact jT⟩
 intro hl
 refine⟨?_,fun p au=>by rw[(aQ p au).2.2.1];rfl⟩
 rcases cJ with cJ|cJ
 ·exfalso
  simp only[kj,List.any_eq_true]at hl
  obtain⟨p,au,gq⟩:=hl
  have hm:=(aQ p au).2.2.2
  have:p.a.ag=[]:=by
   have key:∀(as:List I) (a:I),a∈as→I.er as=[]→a.ag=[]:=by
    intro as
    induction as with
    |nil=>intro a h;cases h
    |cons b as ih=>
     intro a h he
     simp only[I.er,List.append_eq_nil_iff]at he
     rcases List.mem_cons.1 h with rfl|h
     ·exact he.1
     ·exact ih a h he.2
   exact key _ _ hm cJ
  rw[this]at gq;simp at gq
 ·exact cJ
theorem e1 {f:aK} {args:List aK} {g:FuncId} {caps:List I} {ds:List I} {r:I} (bK:bl C g ds r [])
  (h1:aN (ab l) f= .fn g caps) (gI:I.dX caps=true) (jS:views (ab l) (iC (ab l) args++caps)=some ds)
  (cU:r.res=true) (cJ:I.er (iC (ab l) args++caps)=[]∨r.dd=true)
  (jT:cT C (fin (ab l) dst r) os none K):cT C (ab l) (⟨dst,.call f args,none⟩::os) none K:=by
 simp only[cT,nJ,p9]
 exact BF ds r h1 gI jS bK cU cJ jT
theorem hf {a:List fR} {f:aK} {args:List aK} {g:FuncId} {caps:List I} {ds:List I} {r:I} (bK:bl C g ds r [])
  (h1:aN (ab l) f= .fn g caps) (gI:I.dX caps=true) (jS:views (ab l) (iC (ab l) args++caps)=some ds)
  (cU:r.res=true) (cJ:I.er (iC (ab l) args++caps)=[]∨r.dd=true)
  (jT:cT C (fin (ab l) dst r) os (some (jv (ab l) (use (ab l) (.call f args)) dst [] r::a)) K):cT C (ab l) (⟨dst,.call f args,none⟩::os) (some a) K:=by
 simp only[cT,nJ,p9]
 exact BF ds r h1 gI jS bK cU cJ jT
theorem hQ {t:Nat} {b:Bool} {f:aK} {args:List aK} {g:FuncId} {caps:List I} {ds:List I} {r:I} (bK:bl C g ds r [])
  (h1:aN (ab l) f= .fn g caps) (gI:I.dX caps=true) (jS:views (ab l) (iC (ab l) args++caps)=some ds)
  (cU:r.res=true) (cJ:I.er (iC (ab l) args++caps)=[]∨r.dd=true)
  (jT:cT C (fin (ab l) dst r) os none K):c0 C l dst (.call f args) t b os none K (.bool b):=by
 simp only[c0,if_true]
 exact BF ds r h1 gI jS bK cU cJ jT
theorem kA {a:List fR} {t:Nat} {b:Bool} {f:aK} {args:List aK} {g:FuncId} {caps:List I} {ds:List I} {r:I} (bK:bl C g ds r [])
  (h1:aN (ab l) f= .fn g caps) (gI:I.dX caps=true) (jS:views (ab l) (iC (ab l) args++caps)=some ds)
  (cU:r.res=true) (cJ:I.er (iC (ab l) args++caps)=[]∨r.dd=true)
  (jT:cT C (fin (ab l) dst r) os (some (jv (ab l) (t::use (ab l) (.call f args)) dst [] r::a)) K):c0 C l dst (.call f args) t b os (some a) K (.bool b):=by
 simp only[c0,if_true]
 exact BF ds r h1 gI jS bK cU cJ jT
theorem fJ (s:ar):views s []=some []∧(∀d ds,views s (d::ds)=(match view s d,views s ds with|some a,some b=>some (a::b)|_,_=>none))∧
  (∀k n,view s (.int k n)=some (.int k n))∧(∀b,view s (.bool b)=some (.bool b))∧(∀x,view s (.str x)=some (.str x))∧(∀x,view s (.slice x)=some (.slice x))∧(∀x,view s (.ref x)=some (.ref x))∧
  view s .bk=some .bk∧view s .dI=some .dI∧(∀ay,view s (.agg ay)=some (.agg ay))∧(∀f cap,view s (.fn f cap)=(views s cap).map (.fn f)):=by
 refine⟨rfl,fun d ds=> ?_,fun _ _=>rfl,fun _=>rfl,fun _=>rfl,fun _=>rfl,fun _=>rfl,rfl,rfl,fun _=>rfl,fun _ _=>by simp only[view]⟩
 simp only[views];rfl
theorem b5 {α:Type} {u e:α→I} (h:∀x,(u x).share=e x) (xs:List α):I.shares (xs.map u)=xs.map e:=by
 rw[I.sG];simp[h]
theorem kB {α:Type} {u:α→I} (h:∀x,(u x).dd=true) (xs:List α):I.hY (xs.map u)=true:=by
 induction xs with
 |nil=>rfl
 |cons x xs ih=>simp only[List.map_cons,I.hY,h,ih,Bool.and_self]
def r0 (s:ar) (H:List Nat):List (Nat×I)→Prop
 |[]=>True
 |p::l=>(p.2=s p.1∨((s p.1).tree=true∧fh (s p.1) p.2∧p.1∉H))∧r0 s H l
theorem nK {eu:List (Nat×I)} (H:List Nat) (hH:I.er (eu.map (·.2))=H) (h:r0 s H eu):td s eu:=by
 have key:∀(gH:List (Nat×I)),r0 s H gH→∀p∈gH,p.2=s p.1∨((s p.1).tree=true∧fh (s p.1) p.2∧p.1∉H):=by
  intro gH
  induction gH with
  |nil=>intro _ p au;cases au
  |cons a gH ih=>
   intro h p au
   rcases List.mem_cons.1 au with rfl|au
   ·exact h.1
   ·exact ih h.2 p au
 have ag:∀(gH:List (Nat×I)),∀cX∈gH,∀u∈cX.2.ag,u∈I.er (gH.map (·.2)):=by
  intro gH
  induction gH with
  |nil=>intro p au;cases au
  |cons a gH ih=>
   intro p au u hu
   simp only[List.map_cons,I.er,List.mem_append]
   rcases List.mem_cons.1 au with rfl|au
   ·exact .inl hu
   ·exact .inr (ih p au u hu)
 intro p au
 rcases key _ h p au with h1|⟨h1,ah,aC⟩
 ·exact .inl h1
 ·refine .inr ⟨h1,ah,fun cX eW=>.inl fun hm=>aC ?_⟩
  rw[←hH];exact ag eu cX eW _ hm
theorem nL {H:List Nat}:r0 s H []:=trivial
theorem iD {H:List Nat} {t:Nat} {d:I} {eu:List (Nat×I)} (h:d=s t) (hl:r0 s H eu):r0 s H ((t,d)::eu):=⟨.inl h,hl⟩
theorem nM {H:List Nat} {t:Nat} {d bp:I} {eu:List (Nat×I)} (e:s t=d) (ba:d.tree=true) (aj:fh d bp) (hH:t∉H) (hl:r0 s H eu):r0 s H ((t,bp)::eu):=⟨.inr ⟨by rw[e];exact ba,by rw[e];exact aj,hH⟩,hl⟩
theorem Vh {d e:I} (ba:d.tree=true) (a6:d.own=true) (h:d.share=e):fh d e:=by
 subst h
 exact .share d ba (fun vs e=>by subst e;simp[I.own]at a6) (fun o e=>by subst e;simp[I.own]at a6)
theorem LV {a b:I} (h:fh a b):∀n,j6 (List.replicate n a) (List.replicate n b)
 |0=>.nil
 |n+1=>by simp only[List.replicate_succ];exact .cons h (LV h n)
theorem yv {α:Type} {sz:Nat} {u:α→I} {z:α} {a:I} (h:fh a (u z)) (n:Nat):fh (.an sz (List.replicate n a)) (.an sz ((List.replicate n z).map u)):=by
 rw[List.map_replicate];exact .an (LV h n)
end
theorem LW {C:cw} {A B:TypeId} {cW:IntKind} (iQ:(C.T A).ok=true) (hN:(C.T B).k= .int cW):∀s k n,gw C s A B (.int k n)=some (.int cW (cW.wrap n)):=fun s k n=>U_ C s A B k cW n iQ hN
def LX:Option I→Option I
 |some (.an 1 xs)=>(bytesOf xs).map .str
 |_=>none
theorem LY {C:cw} {A B e:TypeId} (iQ:(C.T A).k= .slice e) (hN:(C.T B).k= .str) (he:(C.T e).k= .int .u8):
  (∀s xs,gw C s A B (.slice xs)=(bytesOf xs).map .str)∧(∀s,gw C s A B .bk=some (.str []))∧(∀s x q,gw C s A B (.h x q)=LX (I.sub q (s x))):=by
 have xX:(C.T A).ok=true:=by simp[gS.ok,iQ]
 refine⟨fun s xs=> ?_,fun s=> ?_,fun s x q=> ?_⟩
 ·simp only[gw,xX,iQ,hN,he,if_true]
 ·simp only[gw,xX,iQ,hN,he,if_true]
 ·simp only[gw,xX,iQ,hN,he,if_true]
  rfl
theorem LZ (xs:List I):LX (some (.an 1 xs))=(bytesOf xs).map .str:=rfl
theorem L0 (c:UInt8) (r:List I):bytesOf (kX c::r)=(bytesOf r).map (c::·):=by
 have:=c.toNat_lt
 simp only[kX,bytesOf]
 rw[if_pos (by omega)]
 simp
theorem L1:bytesOf []=some []∧(∀l:List UInt8,bytesOf (l.map kX)=some l)∧(∀(c:UInt8) r,bytesOf (.int .u8 (c.toNat:Int)::r)=(bytesOf r).map (c::·))∧
  (∀m r,bytesOf (.int .u8 (IntKind.u8.wrap m)::r)=(bytesOf r).map (qC m::·)):=
 ⟨rfl,Sc,fun c r=>L0 c r,fun m r=>by rw[←LJ];exact L0 _ r⟩
theorem Vi {k:IntKind} {b:Int} (h:b≠0):∀a,jt .quo k a k b=some (.int k (k.wrap (a.tdiv b))):=fun _=>U7 h
theorem L2 {k:IntKind} {b:Int} (h:b≠0):∀a,jt .rem k a k b=some (.int k (a.tmod b)):=fun _=>U8 h
theorem kC {α:Type} {e:α→I} {n:Nat} (h:∀x,(e x).wd=n):∀xs:List α,(∀d∈xs.map e,d.wd=n)=True:=U9 h
theorem all_cons {P:I→Prop} (d:I) (ds:List I):(∀x∈d::ds,P x)=(P d∧∀x∈ds,P x):=by simp
theorem all_nil {P:I→Prop}:(∀x∈([]:List I),P x)=True:=by simp
def L3 (a b:List UInt8):Option Unit→Option I
 |some _=>some (.str (a++b))
 |none=>none
theorem BG (a b:List UInt8):nB .add a b=L3 a b (pP (a.length+b.length)):=by
 simp only[nB,pP];split<;>rfl
theorem BH (a b:List UInt8) (u:Unit):L3 a b (some u)=some (.str (a++b)):=rfl
theorem L4:(∀l:List Nat,[]++l=l)∧(∀a (l m:List Nat),(a::l)++m=a::(l++m)):=⟨fun _=>rfl,fun _ _ _=>rfl⟩
def L5 (C:cw) (e bZ:TypeId):Bool:=(C.T e).ok&&((C.T e).zero.wd==(C.T e).sz)&&(flat (C.T e).zero).isSome&&A7 C e bZ
def BI (C:cw) (e:TypeId) (xs:List I):Option (List I×ar)→Option (I×ar)
 |some (ys,s2)=>if(∀d∈ys,d.wd=(C.T e).sz)∧(room (C.T e).bytes (xs.length+ys.length)).isSome=true then some (.an (C.T e).sz (xs++ys),s2)else none
 |none=>none
def GQ (C:cw) (e:TypeId) (y:I) (o:Option Nat):Option (I×ar)→Option (I×ar)
 |some (.an sz xs,s1)=>if sz=(C.T e).sz then BI C e xs (lK s1 (kV o y))else none
 |_=>none
theorem Vj (b n:Nat):(room b n).isSome=true↔n*b≤140737488355328∧n≤9223372036854775807:=by unfold room;split<;>simp_all
theorem ma {C:cw} {T bZ e:TypeId} (jJ:(C.T T).k= .slice e) (fW:L5 C e bZ=true):∀s x y,my C s T bZ x y=GQ C e y x.owner (p4 C e s x):=by
 intro s x y
 simp only[L5,Bool.and_eq_true,beq_iff_eq]at fW
 rw[F3,jJ]
 simp only
 rw[if_pos ⟨fW.1.1.1,fW.1.1.2,fW.1.2,fW.2⟩]
 generalize x.owner=o
 cases p4 C e s x with
 |none=>rfl
 |some p=>
  obtain⟨d,s1⟩:=p
  cases d<;>first
   |rfl
   |(simp only[GQ]
     split
     ·rename_i h;subst h
      generalize lK s1 (kV o y)=z
      cases z with
      |none=>rfl
      |some p=>simp only[BI,Vj]
     ·rfl)
def L6:Option (I×ar)→Option (List I×ar)
 |some (.an _ ys,s2)=>some (ys,s2)
 |_=>none
theorem mb (s:ar):lK s .bk=some ([],s)∧(∀ys,lK s (.slice ys)=some (ys,s))∧(∀l,lK s (.str l)=some (l.map kX,s))∧
  (∀a q,lK s (.h a q)=L6 (c7 s (.h a q)))∧(∀n ys,L6 (some (.an n ys,s))=some (ys,s)):=
 ⟨rfl,fun _=>rfl,fun _=>rfl,fun _ _=>by simp only[lK];rfl,fun _ _=>rfl⟩
theorem mc (C:cw) (e:TypeId):(∀s,p4 C e s .bk=some (.an (C.T e).sz [],s))∧(∀s a q,p4 C e s (.h a q)=c7 s (.h a q))∧
  (∀y o sz xs s1,GQ C e y o (some (.an sz xs,s1))=if sz=(C.T e).sz then BI C e xs (lK s1 (kV o y))else none)∧
  (∀xs ys s2,BI C e xs (some (ys,s2))=if(∀d∈ys,d.wd=(C.T e).sz)∧(room (C.T e).bytes (xs.length+ys.length)).isSome=true then some (.an (C.T e).sz (xs++ys),s2)else none):=
 ⟨fun _=>rfl,fun _ _ _=>rfl,fun _ _ _ _ _=>rfl,fun _ _ _=>rfl⟩
theorem me:(∀d,kV none d=d)∧(∀x d,kV (some x) d=cv x d)∧(∀x q,I.owner (.h x q)=some x)∧I.owner .bk=none:=
 ⟨fun _=>rfl,fun _ _=>rfl,fun _ _=>rfl,rfl⟩
def L7 (s:ar) (x:Nat) (q:List Nat):Option I→Option (I×ar)
 |some d=>if d.plain=true then none else some (d,du (iu x s) x (I.put q d.dq (s x)))
 |none=>none
theorem L8 (s:ar) (x:Nat) (q:List Nat):c7 s (.h x q)=L7 s x q (I.sub q (s x)):=by
 simp only[c7];cases I.sub q (s x)<;>rfl
theorem L9 (s:ar):(∀x q d,L7 s x q (some d)=if d.plain=true then none else some (d,du (iu x s) x (I.put q d.dq (s x))))∧(∀k n,c7 s (.int k n)=some (.int k n,s))∧(∀b,c7 s (.bool b)=some (.bool b,s))∧(∀x,c7 s (.str x)=some (.str x,s))∧
  (∀x,c7 s (.slice x)=some (.slice x,s))∧(∀x,c7 s (.ref x)=some (.ref x,s))∧(∀x,c7 s (.agg x)=some (.agg x,s))∧c7 s .bk=some (.bk,s)∧c7 s .dI=some (.dI,s):=
 ⟨fun _ _ _=>rfl,fun _ _=>rfl,fun _=>rfl,fun _=>rfl,fun _=>rfl,fun _=>rfl,fun _=>rfl,rfl,rfl⟩
theorem L_ (l:List (Nat×I)) (t:Nat) (d:I):du (ab l) t d=ab ((t,d)::l):=k2 l t d
theorem Ma:(∀n x,I.dq (.an n x)= .hole)∧(∀x,I.dq (.bd x)= .hole)∧(∀ay,I.dq (.agg ay)= .agg (I.lD ay))∧(∀ay,I.dq (.tuple ay)= .tuple (I.lD ay))∧I.lD []=[]∧(∀d ds,I.lD (d::ds)=d.dq::I.lD ds)∧
  (∀k n,I.dq (.int k n)= .int k n)∧(∀b,I.dq (.bool b)= .bool b)∧(∀x,I.dq (.str x)= .str x)∧(∀x,I.dq (.slice x)= .slice x)∧(∀x,I.dq (.ref x)= .ref x)∧I.dq .bk= .bk∧I.dq .dI= .dI∧I.dq .hole= .hole:=by
 simp[I.dq,I.lD]
def tn:Option I→Option I
 |some d=>(match d with| .tuple _=>none| .en _=>none|d=>if d.plain=true then none else some d.share)
 |none=>none
def tp:Option I→Option I
 |some d=>(match d with| .tuple _=>none|d=>some (.ref d.share))
 |none=>none
theorem fK (s:ar) (x:Nat) (q:List Nat):view s (.h x q)=tn (I.sub q (s x))∧view s (.au x q)=(if I.fU q (s x)=true then tp (I.sub q (s x))else none):=by
 constructor
 ·simp only[view];rfl
 ·simp only[view];rfl
theorem fL:(∀n xs,tn (some (.an n xs))=some (.slice (I.shares xs)))∧(∀d,tn (some (.bd d))=some (.ref d.share))∧(∀ay,tn (some (.agg ay))=if I.dX ay=true then none else some (.agg (I.shares ay)))∧
  (∀ay,tp (some (.agg ay))=some (.ref (.agg (I.shares ay))))∧(∀k n,tp (some (.int k n))=some (.ref (.int k n)))∧(∀x,tp (some (.str x))=some (.ref (.str x))):=
 ⟨fun _ _=>by simp[tn,I.plain,I.share],fun _=>by simp[tn,I.plain,I.share],fun ay=>by cases h:I.dX ay<;>simp[tn,I.plain,I.share,h],fun _=>by simp[tp,I.share],fun _ _=>by simp[tp,I.share],fun _=>by simp[tp,I.share]⟩
theorem de:(∀n xs,I.share (.an n xs)= .slice (I.shares xs))∧(∀d,I.share (.bd d)= .ref d.share)∧(∀xs,I.share (.slice xs)= .slice (I.shares xs))∧(∀d,I.share (.ref d)= .ref d.share)∧(∀ay,I.share (.agg ay)= .agg (I.shares ay))∧(∀ay,I.share (.tuple ay)= .tuple (I.shares ay))∧
  (∀k n,I.share (.int k n)= .int k n)∧(∀b,I.share (.bool b)= .bool b)∧(∀x,I.share (.str x)= .str x)∧I.share .bk= .bk∧I.share .dI= .dI∧I.shares []=[]∧(∀d ds,I.shares (d::ds)=d.share::I.shares ds):=by
 simp[I.share,I.shares]
def tq (sz:Nat):Option (List I×ar)→Option (I×ar)
 |some (ds,s1)=>some (.an sz ds,s1)
 |none=>none
def BJ:Option (List I×ar)→Option (I×ar)
 |some (ds,s1)=>some (.agg ds,s1)
 |none=>none
theorem wc {C:cw} {T e n sz:Nat} {eG:List I} (jJ:(C.T T).k= .slice e) (dR:(C.T e).sz=sz) (cf:List.replicate n (C.T e).zero=eG)
  (fW:((C.T e).ok&&((C.T e).zero.wd==sz)&&(flat (C.T e).zero).isSome&&(sz !=0)&&decide (n*sz≤16777216))=true):∀s ps,dG C s T n ps=tq sz (eL (fun k=>some (k*sz,sz)) s eG [] ps):=by
 intro s ps
 subst dR
 simp only[Bool.and_eq_true,beq_iff_eq,bne_iff_ne,decide_eq_true_eq]at fW
 obtain⟨⟨⟨⟨h1,ah⟩,aC⟩,a8⟩,bK⟩:=fW
 unfold dG
 rw[jJ]
 simp only
 rw[if_pos ⟨h1,ah,aC,a8,bK⟩,cf]
 cases eL (fun k=>some (k*(C.T e).sz,(C.T e).sz)) s eG [] ps<;>rfl
theorem GR {C:cw} {T:Nat} {ay:List (TypeId×Nat)} {eG:List I} (jJ:(C.T T).k= .struct ay) (cf:(C.T T).zero= .agg eG)
  (fW:((flat (.agg eG)).isSome&&ay.all fun f=>(C.T f.1).ok)=true):∀s ps,e0 C s T ps=BJ (eL (fun k=>(ay[k]?).map fun f=>(f.2,(C.T f.1).sz)) s eG [] ps):=by
 intro s ps
 simp only[Bool.and_eq_true,List.all_eq_true]at fW
 unfold e0
 rw[jJ,cf]
 simp only
 rw[if_pos ⟨fW.1,fW.2⟩]
 cases eL (fun k=>(ay[k]?).map fun f=>(f.2,(C.T f.1).sz)) s eG [] ps<;>rfl
def tr (place:Nat→Option (Nat×Nat)) (k:Nat) (eG:List I) (os:List (Option Nat)) (r:List (Nat×I)) (o:Option Nat):Option (Nat×Nat)→Option I→Option (I×ar)→Option (List I×ar)
 |some (off,n),some z,some (d,s1)=>(match d with
  | .tuple _=>none
  |d=>if d.wd=n∧z.wd=n∧I.eC (eG.take k)=off then eL place s1 (eG.set k d) (os++[o]) r else none)
 |_,_,_=>none
theorem we (place:Nat→Option (Nat×Nat)) (s:ar) (eG:List I) (os:List (Option Nat)):eL place s eG os []=some (eG,s)∧
  (∀k a r,eL place s eG os ((k,a)::r)=tr place k eG os r (lk os a).owner (place k) eG[k]? (c7 s (lk os a))):=by
 refine⟨rfl,fun k a r=> ?_⟩
 simp only[eL]
 cases c7 s (lk os a)with
 |none=>cases place k<;>cases eG[k]? <;>rfl
 |some p=>
  obtain⟨d,s1⟩:=p
  cases place k with
  |none=>cases eG[k]? <;>rfl
  |some q=>cases eG[k]? <;>(cases d<;>rfl)
theorem wg:(∀a,lk [] a=a)∧(∀o os a,lk (o::os) a=lk os (kV o a)):=⟨fun _=>rfl,fun _ _ _=>rfl⟩
theorem dN:(∀k n,I.owner (.int k n)=none)∧(∀b,I.owner (.bool b)=none)∧(∀x,I.owner (.str x)=none)∧(∀x,I.owner (.slice x)=none)∧(∀x,I.owner (.ref x)=none)∧(∀x,I.owner (.agg x)=none)∧I.owner .dI=none∧I.owner .bk=none∧(∀x q,I.owner (.h x q)=some x):=
 ⟨fun _ _=>rfl,fun _=>rfl,fun _=>rfl,fun _=>rfl,fun _=>rfl,fun _=>rfl,rfl,rfl,fun _ _=>rfl⟩
end Go.cZ
