/- Part of a proof that a law returns true for every input. No condition. -/
import Derived.Test.YtpddiknnnoomoaaFwE
import Derived.Orders
import Derived.KernelRfl
import Derived.Test.YtpddiknnnoomoaaFwA
namespace Go.bV
section
variable {C:bq} {w0 w:World} {F0 X:Nat→Prop} {n:Fr} {ρ:Nat→Value} {s s1:af} {a:Act} {av:j} {Q:Exit→Act→World→Prop}
def bm.un (o:bm):bm:=⟨o.dst,o.a7.base,o.guard⟩
theorem vm {ops:Array Oper}:∀{os:List Oper} {rs:List bm},k3 n ops os=some rs→os.length=rs.length∧∀(i:Nat) (o:Oper),os[i]? =some o→∃r,rs[i]? =some r∧k2 n ops o=some r:=by
 intro os
 induction os with
 |nil=>intro rs h;simp only[k3,Option.some.injEq]at h;subst h;exact⟨rfl,fun i o h=>by simp at h⟩
 |cons o os ih=>
  intro rs h
  simp only[k3]at h
  split at h
  ·rename_i r PO U aa
   simp only[Option.some.injEq]at h;subst h
   obtain⟨bn,bp⟩:=ih aa
   refine⟨by simp[bn],fun i i5 bs=> ?_⟩
   cases i with
   |zero=>simp at bs;subst bs;exact⟨r,rfl,U⟩
   |succ i=>simpa using bp i i5 (by simpa using bs)
  ·cases h
theorem vn {o:Oper} {y:Nat→Option Bool} (h:o.guard=none):Region.wanted o y=true:=by simp[Region.wanted,h]
theorem E_ (h:Rel w0 F0 X n ρ s a w) {ops:Array Oper} {ad t:Nat} (aS:(ops[ad]?).bind (·.dst)=some t):
  (∀b,s t= .bool b→yielded ops a.tmps ad=some b)∧(s t= .tuple []→yielded ops a.tmps ad=none):=by
 obtain⟨ab,R,bk,F,S,aA⟩:=h
 have fR:=aA.b0 t
 refine⟨fun b I=> ?_,fun I=> ?_⟩
 ·rw[I]at fR
  have aC:=mq fR
  simp only[yielded,aS,Option.bind_some]
  rw[Array.getD_eq_getD_getElem?]at aC
  cases aZ:a.tmps[t]? with
  |none=>rw[aZ]at aC;simp[undef]at aC
  |some v=>rw[aZ]at aC;simp at aC;subst aC;rfl
 ·rw[I]at fR
  obtain⟨⟨arr,U,aa⟩,_⟩:=(ar.bx (d:=.tuple []) rfl).1 fR
  simp only[yielded,aS,Option.bind_some]
  rw[Array.getD_eq_getD_getElem?]at U
  cases aZ:a.tmps[t]? with
  |none=>rfl
  |some v=>rw[aZ]at U;simp at U;subst U;rfl
theorem vo (aQ:C.cY) {ops:Array Oper} {ros:List bm} {l2:List Nat} {K:af→Prop} (aV:∀aj bM aq,K aj→Rel w0 F0 X n ρ aj bM aq→wpOps C.P ops Q l2 bM aq):
  ∀(l:List Nat),(∀i∈l,(ops[i]? =none→ros[i]? =none)∧∀o,ops[i]? =some o→∃r,ros[i]? =some r∧k2 n ops o=some r.un)→
  ∀(s:af) (a:Act) (w:World),gn C ros s l K→Rel w0 F0 X n ρ s a w→wpOps C.P ops Q (l++l2) a w:=by
 intro l
 induction l with
 |nil=>intro _ s a w h aA;exact aV s a w h aA
 |cons i l ih=>
  intro jE s a w h aA
  replace ih:=ih fun i az=>jE i (List.mem_cons_of_mem _ az)
  rw[List.cons_append]
  simp only[wpOps]
  cases bs:ops[i]? with
  |none=>
   simp only[gn,(jE i (by simp)).1 bs]at h
   exact ih s a w h aA
  |some o=>
   obtain⟨r,U,aa⟩:=(jE i (by simp)).2 o bs
   simp only[gn,U]at h
   show(if Region.wanted o (yielded ops a.tmps)=true then o.wp C.P a w (wpOps C.P ops Q (l++l2)) Q∨(o.asks C.P a w∧LetsOut Q)else wpOps C.P ops Q (l++l2) (a.put o.dst undef) w)
   simp only[k2]at aa
   split at aa
   ·rename_i sB
    split at aa
    ·rename_i g aZ
     obtain⟨rd,a7,rg⟩:=r
     simp only[bm.un,Option.some.injEq,bm.mk.injEq]at aa
     obtain⟨rfl,br,rfl⟩:=aa
     simp only[hI]at h
     have run:∀(b4:af→Prop),(∀aj,b4 aj→gn C ros aj l K)→jD C s a7 (fun av s1=>b4 (fin s1 o.dst av))→o.wp C.P a w (wpOps C.P ops Q (l++l2)) Q:=
      fun b4 ic hw=>E8 aQ aA br sB hw (fun aj bM aq ai cQ=>ih aj bM aq (ic aj ai) cQ)
     cases oI:o.guard with
     |none=>
      rw[oI]at aZ
      simp only[qP,Option.some.injEq]at aZ;subst aZ
      simp only at h
      rw[if_pos (vn oI)]
      exact .inl (run _ (fun _ h=>h) h)
     |some vp=>
      obtain⟨ad,b⟩:=vp
      rw[oI]at aZ
      simp only[qP]at aZ
      split at aZ
      ·rename_i t aG
       simp only[Option.some.injEq]at aZ;subst aZ
       simp only at h
       obtain⟨uR,uS⟩:=E_ aA aG
       have yX:∀(b4:gn C ros (fin s o.dst (.tuple [])) l K),wpOps C.P ops Q (l++l2) (a.put o.dst undef) w:=fun b4=>ih _ _ _ b4 (Rel.skip aA sB)
       split at h
       ·rename_i dp R
        have aW:=uR dp R
        split at h
        ·rename_i I;subst I
         rw[if_pos (by simp[Region.wanted,oI,aW])]
         exact .inl (run _ (fun _ h=>h) h)
        ·rename_i I
         rw[if_neg (by simp[Region.wanted,oI,aW,I])]
         exact yX h
       ·rename_i R
        have aW:=uS R
        rw[if_neg (by simp[Region.wanted,oI,aW])]
        exact yX h
       ·exact h.elim
      ·cases aZ
    ·cases aa
   ·cases aa
theorem yY (aQ:C.cY) {ops:Array Oper} {ros:List bm} (mF:k3 n ops ops.toList=some (ros.map bm.un)) {K:af→Prop} (aV:∀aj bM aq,K aj→Rel w0 F0 X n ρ aj bM aq→Q .normal bM aq):
  ∀(l:List Nat) (s:af) (a:Act) (w:World),gn C ros s l K→Rel w0 F0 X n ρ s a w→wpOps C.P ops Q l a w:=by
 obtain⟨hl,jE⟩:=vm mF
 intro l s a w h aA
 have:=vo (Q:=Q) aQ (ros:=ros) (ops:=ops) (l2:=[]) (K:=K) (n:=n) (ρ:=ρ) (w0:=w0) (F0:=F0) (X:=X) (fun aj bM aq ai cQ=>aV aj bM aq ai cQ) l (fun i _=>⟨fun bs=>by
   rw[List.getElem?_eq_none_iff,←List.length_map (f:=bm.un),←hl]
   have:=Array.getElem?_eq_none_iff.1 bs
   simpa using this,fun o bs=>by
   obtain⟨bC,eI,aa⟩:=jE i o (by simpa using bs)
   obtain⟨r,U,rfl⟩:∃r,ros[i]? =some r∧r.un=bC:=by simpa using eI
   exact⟨r,U,aa⟩⟩) s a w h aA
 rwa [List.append_nil]at this
theorem Rel.drawn (h:Rel w0 F0 X n ρ s a w) (k:Nat) (ai:w.drawn≤k):Rel w0 F0 X n ρ s a {w with drawn:=k}:=by
 obtain⟨U,aa,bk,F,S,aw⟩:=h
 exact⟨U,aa,bk,F,S,aw.grow (fun _ _=>rfl) (Nat.le_refl _) rfl rfl ⟨rfl,fun _=>ai⟩⟩
theorem Fa (aQ:C.cY) {id:Nat} {ops:Array Oper} {ros:List bm} (mF:k3 n ops ops.toList=some (ros.map bm.un)) {K:af→Prop} (aV:∀aj bM aq,K aj→Rel w0 F0 X n ρ aj bM aq→Q .normal bM aq)
  (h:hr C s ros K) (aA:Rel w0 F0 X n ρ s a w):(Code.region id ops false).wp C.P Q a w:=by
 refine wp_region (yY aQ mF aV _ s a w ?_ aA)
 have:=ER C K ros [] s h
 have hl:=(vm mF).1
 simp only[List.nil_append,List.length_nil,Nat.add_zero,List.map_id']at this
 rw[List.length_map]at hl
 rw[←hl]at this
 simpa using this
end
def vq (kg:List (List Nat)) (l:List Nat):Prop:=
 l.Nodup∧(∀i,i∈l↔i<kg.length)∧∀u i v,l=u++i::v→∀e∈(kg[i]?).getD [],e∈u
def jF (ops:Array Oper):List (List Nat):=ops.toList.map fun o=>(o.after.toList.filter fun e=>Region.binds .any e).map (·.on)
def qT (kg:List (List Nat)):Bool:=kg.zipIdx.all fun p=>p.1.all fun e=>decide (e<p.2)
theorem Fb {kg:List (List Nat)} (h:qT kg=true) {i:Nat} {l:List Nat} (az:kg[i]? =some l):∀e∈l,e<i:=by
 intro e he
 simp only[qT,List.all_eq_true]at h
 have:=h (l,i) (by rw[List.mem_zipIdx_iff_getElem?];exact az) e he
 simpa using this
theorem Fe {ops:Array Oper} (I:qT (jF ops)=true):∀(fuel t:Nat) (dT:Array Bool),dT.size=ops.size→((List.range ops.size).filter fun i=> !dT.getD i true).length≤fuel→
  (Region.linearise.go .any ops fuel t dT []).Nodup∧(∀i,i∈Region.linearise.go .any ops fuel t dT []↔(i<ops.size∧dT.getD i true=false))∧
   ∀u i v,Region.linearise.go .any ops fuel t dT []=u++i::v→∀e∈((jF ops)[i]?).getD [],dT.getD e false=true∨e∈u:=by
 intro fuel
 induction fuel with
 |zero=>
  intro t dT R hl
  have mu:((List.range ops.size).filter fun i=> !dT.getD i true)=[]:=List.length_eq_zero_iff.1 (Nat.le_zero.1 hl)
  refine⟨by simp[Region.linearise.go],fun i=> ?_,fun u i v h=>by simp[Region.linearise.go]at h⟩
  simp only[Region.linearise.go,List.reverse_nil,List.not_mem_nil,false_iff,not_and]
  intro az bk
  have:i∈((List.range ops.size).filter fun i=> !dT.getD i true):=List.mem_filter.2 ⟨List.mem_range.2 az,by rw[bk];rfl⟩
  rw[mu]at this;cases this
 |succ fuel ih=>
  intro t dT R hl
  have yZ:∀i,i∈Region.ready .any ops dT↔(i<ops.size∧dT.getD i true=false∧∀e∈((jF ops)[i]?).getD [],dT.getD e false=true):=by
   intro i
   simp only[Region.ready,List.mem_filter,List.mem_range,Bool.and_eq_true,Bool.not_eq_true']
   constructor
   ·rintro⟨U,aa,aw⟩
    refine⟨U,aa,?_⟩
    rw[Array.getElem?_eq_getElem U]at aw
    simp only[Option.map_some,Option.getD_some,Array.all_eq_true_iff_forall_mem]at aw
    simp only[jF,List.getElem?_map,Array.getElem?_toList,Array.getElem?_eq_getElem U,Option.map_some,Option.getD_some,List.mem_map,List.mem_filter]
    rintro e ⟨x,⟨ao,nB⟩,rfl⟩
    have:=aw x (by simpa using ao)
    simpa [nB]using this
   ·rintro⟨U,aa,aw⟩
    refine⟨U,aa,?_⟩
    rw[Array.getElem?_eq_getElem U]
    simp only[Option.map_some,Option.getD_some,Array.all_eq_true_iff_forall_mem]
    simp only[jF,List.getElem?_map,Array.getElem?_toList,Array.getElem?_eq_getElem U,Option.map_some,Option.getD_some,List.mem_map,List.mem_filter]at aw
    intro x ao
    cases nB:Region.binds .any x with
    |false=>simp
    |true=>simpa using aw x.on ⟨x,⟨by simpa using ao,nB⟩,rfl⟩
  have hex:(∃i,i<ops.size∧dT.getD i true=false)→Region.ready .any ops dT≠[]:=by
   rintro⟨i,U,aa⟩
   have:∃i,(i<ops.size∧dT.getD i true=false)∧∀ad,ad<i→¬(ad<ops.size∧dT.getD ad true=false):=by
    induction i using Nat.strongRecOn with
    |_ i Ff=>
     by_cases aS:∃ad,ad<i∧(ad<ops.size∧dT.getD ad true=false)
     ·obtain⟨ad,jG,k6,Fg⟩:=aS
      exact Ff ad jG k6 Fg
     ·exact⟨i,⟨U,aa⟩,fun ad Fh ae=>aS ⟨ad,Fh,ae⟩⟩
   obtain⟨k,⟨bn,bp⟩,cy⟩:=this
   have:k∈Region.ready .any ops dT:=(yZ k).2 ⟨bn,bp,fun e he=>by
    cases bU:(jF ops)[k]? with
    |none=>rw[bU]at he;simp at he
    |some l=>
     rw[bU]at he
     have cv:=Fb I bU e he
     have:=cy e cv
     rw[not_and]at this
     have:=this (by omega)
     have vr:e<dT.size:=by omega
     simp only[Array.getD_eq_getD_getElem?,Array.getElem?_eq_getElem vr,Option.getD_some]at this⊢
     simpa using this⟩
   intro e;rw[e]at this;cases this
  have y0:Region.linearise.go .any ops (fuel+1) t dT []=(match(Region.ready .any ops dT)[t%(Region.ready .any ops dT).length]? with
   |some i=>Region.linearise.go .any ops fuel (t/(Region.ready .any ops dT).length) (dT.setIfInBounds i true) [i]
   |none=>[]):=rfl
  cases qU:(Region.ready .any ops dT)[t%(Region.ready .any ops dT).length]? with
  |none=>
   have mu:Region.ready .any ops dT=[]:=by
    cases aA:Region.ready .any ops dT with
    |nil=>rfl
    |cons a l=>
     rw[aA]at qU
     have:=List.getElem?_eq_none_iff.1 qU
     have aa:=Nat.mod_lt t (show 0<(a::l).length by simp)
     omega
   rw[y0,qU]
   refine⟨by simp,fun i=> ?_,fun u i v h=>by simp at h⟩
   simp only[List.not_mem_nil,false_iff]
   intro az
   exact hex ⟨i,az⟩ mu
  |some i=>
   have az:=(yZ i).1 (List.mem_of_getElem? qU)
   obtain⟨vt,y1,Fi⟩:=az
   rw[y0,qU]
   simp only
   rw[linearise_go_acc]
   simp only[List.reverse_singleton,List.singleton_append]
   have mo:∀ad d,(dT.setIfInBounds i true).getD ad d=if ad=i then true else dT.getD ad d:=by
    intro ad d
    split
    ·rename_i e;subst e
     simp[Array.getD_eq_getD_getElem?,Array.getElem?_setIfInBounds_self_of_lt (show ad<dT.size by omega)]
    ·rename_i e
     simp[Array.getD_eq_getD_getElem?,Array.getElem?_setIfInBounds_ne (fun h=>e h.symm)]
   obtain⟨aD,aO,bg⟩:=ih (t/(Region.ready .any ops dT).length) (dT.setIfInBounds i true) (by simpa using R) (by
    have c3:((List.range ops.size).filter fun ad=> !(dT.setIfInBounds i true).getD ad true)=((List.range ops.size).filter fun i=> !dT.getD i true).filter fun ad=>decide (ad≠i):=by
     rw[List.filter_filter]
     apply List.filter_congr
     intro ad _
     rw[mo]
     by_cases e:ad=i<;>simp[e]
    rw[c3]
    have cv:(((List.range ops.size).filter fun i=> !dT.getD i true).filter fun ad=>decide (ad≠i)).length<((List.range ops.size).filter fun i=> !dT.getD i true).length:=by
     rw[List.length_filter_lt_length_iff_exists]
     exact⟨i,List.mem_filter.2 ⟨List.mem_range.2 vt,by rw[y1];rfl⟩,by simp⟩
    omega)
   refine⟨?_,fun ad=> ?_,?_⟩
   ·rw[List.nodup_cons]
    refine⟨fun hm=> ?_,aD⟩
    have:=((aO i).1 hm).2
    rw[mo,if_pos rfl]at this;cases this
   ·rw[List.mem_cons,aO,mo]
    by_cases e:ad=i
    ·subst e;simp[vt,y1]
    ·simp[e]
   ·intro u ad v h e he
    cases u with
    |nil=>
     simp only[List.nil_append,List.cons.injEq]at h
     obtain⟨rfl,rfl⟩:=h
     exact .inl (Fi e he)
    |cons vu u=>
     simp only[List.cons_append,List.cons.injEq]at h
     obtain⟨rfl,h⟩:=h
     rcases bg u ad v h e he with a5|a5
     ·rw[mo]at a5
      split at a5
      ·rename_i ej;subst ej;exact .inr (by simp)
      ·exact .inl a5
     ·exact .inr (by simp[a5])
theorem Fj {ops:Array Oper} (I:qT (jF ops)=true) (t:Nat):vq (jF ops) (Region.linearise .any ops t):=by
 have y2:∀i d,i<ops.size→(Array.replicate ops.size false).getD i d=false:=by
  intro i d az
  simp[Array.getD_eq_getD_getElem?,az]
 obtain⟨aD,aO,bg⟩:=Fe I ops.size t (Array.replicate ops.size false) (by simp) (by
  have:=List.length_filter_le (fun i=> !(Array.replicate ops.size false).getD i true) (List.range ops.size)
  simpa using this)
 have hlen:(jF ops).length=ops.size:=by simp[jF]
 refine⟨aD,fun i=> ?_,fun u i v h e he=> ?_⟩
 ·rw[hlen]
  rw[show Region.linearise .any ops t=Region.linearise.go .any ops ops.size t (Array.replicate ops.size false) []from rfl,aO]
  exact⟨fun h=>h.1,fun h=>⟨h,y2 i true h⟩⟩
 ·rcases bg u i v h e he with a5|a5
  ·exfalso
   by_cases y3:e<ops.size
   ·rw[y2 e false y3]at a5;cases a5
   ·simp[Array.getD_eq_getD_getElem?,y3]at a5
  ·exact a5
def J:List (Nat×j)→af
 |[],_=>.hole
 |(u,d)::l,t=>if t=u then d else J l t
mutual
inductive dh:j→j→Prop
 |refl (d:j):dh d d
 |lO (sz:Nat):dh .bG (.aK sz [])
 |oJ:dh .bG (.slice [])
 |any (b:Bool):dh (.bool b) .c1
 |share (d:j):d.tree=true→(∀vs,d≠.tuple vs)→(∀o,d≠.cr o)→dh d d.share
 |agg {ds es:List j}:gT ds es→dh (.agg ds) (.agg es)
 |bc {d e:j}:dh d e→dh (.bc d) (.bc e)
 |aK {sz:Nat} {ds es:List j}:gT ds es→dh (.aK sz ds) (.aK sz es)
 |tuple {ds es:List j}:gT ds es→dh (.tuple ds) (.tuple es)
 |ref {d e:j}:dh d e→dh (.ref d) (.ref e)
 |trans {d e f:j}:dh d e→dh e f→dh d f
inductive gT:List j→List j→Prop
 |nil:gT [] []
 |cons {d e:j} {ds es:List j}:dh d e→gT ds es→gT (d::ds) (e::es)
end
mutual
theorem dh.wd:∀{d e:j},dh d e→e.wd=d.wd
 |_,_,.refl _=>rfl
 |_,_,.lO _=>rfl
 |_,_,.oJ=>rfl
 |_,_,.any _=>rfl
 |_,_,.share d _ _ _=>j.rZ d
 |_,_,.agg h=>by simp only[j.wd];exact gT.wd h
 |_,_,.bc _=>rfl
 |_,_,.aK _=>rfl
 |_,_,.tuple h=>by simp only[j.wd];exact gT.wd h
 |_,_,.ref _=>rfl
 |_,_,.trans h k=>(dh.wd k).trans (dh.wd h)
theorem gT.wd:∀{ds es:List j},gT ds es→j.cz es=j.cz ds
 |_,_,.nil=>rfl
 |_,_,.cons h R=>by simp only[j.cz];rw[dh.wd h,gT.wd R]
end
theorem gT.len {ds es:List j} (h:gT ds es):es.length=ds.length:=by
 induction ds generalizing es with
 |nil=>cases h;rfl
 |cons d ds ih=>cases h with|cons h R=>simp[ih R]
theorem gT.all {sz:Nat} {ds es:List j} (h:gT ds es) (ab:∀d∈ds,d.wd=sz):∀d∈es,d.wd=sz:=by
 induction ds generalizing es with
 |nil=>cases h;intro d ab;cases ab
 |cons d ds ih=>
  cases h with
  |cons h R=>
   intro x ao
   rcases List.mem_cons.1 ao with rfl|ao
   ·rw[h.wd];exact ab d (by simp)
   ·exact ih R (fun d hm=>ab d (by simp[hm])) x ao
section
variable {w0 w:World} {F0 X F:Nat→Prop} {S:Nat→Nat→Prop} {s aj:af} {ak:Nat→Value}
def Fk (w:World) (F:Nat→Prop) (_d e:j) (cs:List Value) (S:Nat→Prop):Prop:=
 ∃ff fg:Nat→Prop,(∀b,ff b→S b)∧(∀b,fg b→S b)∧(∀b,fg b→¬ff b)∧∀a_,(∀b,F b∨ff b→a_ b)→al w a_ e cs fg
mutual
theorem al.kh:∀{d e:j},dh d e→∀{F:Nat→Prop} {cs:List Value} {S:Nat→Prop},al w F d cs S→Fk w F d e cs S
 |_,_,.refl _,F,cs,S,h=>⟨fun _=>False,S,fun _ h=>h.elim,fun _ h=>h,fun _ _ h=>h,fun a_ aR=>al.mono (fun b I=>aR b (.inl I)) _ _ _ _ (fun _ h=>h) h⟩
 | .bG,_,.lO sz,F,cs,S,h=>⟨fun _=>False,S,fun _ h=>h.elim,fun _ h=>h,fun _ _ h=>h,fun a_ aR=>by simp only[al]at h⊢;exact .inl ⟨trivial,_,h⟩⟩
 | .bG,_,.oJ,F,cs,S,h=>⟨fun _=>False,S,fun _ h=>h.elim,fun _ h=>h,fun _ _ h=>h,fun a_ aR=>by simp only[al]at h⊢;exact .inl ⟨trivial,none,0,h,Nat.zero_le _,fun _=>rfl⟩⟩
 | .bool _,_,.any b,F,cs,S,h=>⟨fun _=>False,S,fun _ h=>h.elim,fun _ h=>h,fun _ _ h=>h,fun a_ aR=>by simp only[al]at h⊢;exact⟨b,h⟩⟩
 |_,_,.share d _ _ _,F,cs,S,h=>⟨S,fun _=>False,fun _ h=>h,fun _ h=>h.elim,fun _ h=>h.elim,fun a_ aR=>al.shared (fun b I=>aR b (.inl I)) d cs S (fun b I=>aR b (.inr I)) h⟩
 |_,_,.agg fX,F,cs,S,h=>by
  rw[al]at h
  obtain⟨ff,fg,U,aa,aw,aN⟩:=aH.kh fX h
  exact⟨ff,fg,U,aa,aw,fun a_ aR=>by rw[al];exact aN a_ aR⟩
 |_,_,.bc ab,F,cs,S,h=>by
  rw[al]at h
  obtain⟨b,cur,ty,fr,ay,bn,bp,cy,b_,c4,cZ,eM⟩:=h
  obtain⟨ff,fg,U,aa,aw,aN⟩:=al.kh ab c4
  refine⟨ff,fun c=>c=b∨fg c,fun c ae=>cZ c (U c ae),?_,?_,fun a_ aR=> ?_⟩
  ·rintro c (rfl|ae)
   ·exact bp
   ·exact cZ c (aa c ae)
  ·rintro c (rfl|ae) bk
   ·exact eM (U _ bk)
   ·exact aw c ae bk
  ·rw[al]
   exact⟨b,cur,ty,fr,fg,bn,.inl rfl,cy,b_,aN a_ aR,fun c ae=>.inr ae,fun ae=>eM (aa _ ae)⟩
 | .aK sz ds,.aK _ es,.aK fX,F,cs,S,h=>by
   rw[al]at h
   have hl:=fX.len
   rcases h with⟨U,aa⟩|⟨b,cap,cur,ty,fr,ay,bn,bp,cy,b_,c4,cZ,eM,dr,gl,hp,y4⟩
   ·refine⟨fun _=>False,S,fun _ h=>h.elim,fun _ h=>h,fun _ _ h=>h,fun a_ _=> ?_⟩
    rw[al]
    subst U
    exact .inl ⟨List.length_eq_zero_iff.1 (by simpa using hl),aa⟩
   ·obtain⟨ff,fg,U,aa,aw,aN⟩:=aH.kh fX gl
    refine⟨ff,fun c=>c=b∨fg c,fun c ae=>hp c (U c ae),?_,?_,fun a_ aR=> ?_⟩
    ·rintro c (rfl|ae)
     ·exact bp
     ·exact hp c (aa c ae)
    ·rintro c (rfl|ae) bk
     ·exact y4 (U _ bk)
     ·exact aw c ae bk
    ·rw[al]
     refine .inr ⟨b,cap,cur,ty,fr,fg,by rw[hl];exact bn,.inl rfl,cy,b_,by rw[hl];exact c4,cZ,eM,fX.all dr,by rw[hl];exact aN a_ aR,fun c ae=>.inr ae,fun ae=>y4 (aa _ ae)⟩
 |_,_,.tuple fX,F,cs,S,h=>by
  rw[al]at h
  obtain⟨ff,fg,U,aa,aw,aN⟩:=aH.kh fX h
  exact⟨ff,fg,U,aa,aw,fun a_ aR=>by rw[al];exact aN a_ aR⟩
 |_,_,.ref ab,F,cs,S,h=>by
  rw[al]at h
  obtain⟨b,o,c2,U,aa,aw,aN⟩:=h
  obtain⟨ff,fg,bn,bp,cy,b_⟩:=al.kh ab aN
  refine⟨fun _=>False,S,fun _ h=>h.elim,fun _ h=>h,fun _ _ h=>h,fun a_ aR=> ?_⟩
  rw[al]
  exact⟨b,o,c2,U,aR _ (.inl aa),aw,al.mono (fun _ h=>h) _ _ _ _ (fun b I=>bp b I) (b_ a_ fun b I=>aR b (I.imp id fun h=>(bn b h).elim))⟩
 |_,_,.trans ab he,F,cs,S,h=>by
  obtain⟨ff,fg,U,aa,aw,aN⟩:=al.kh ab h
  obtain⟨vv,sC,bn,bp,cy,b_⟩:=al.kh he (F:=fun b=>F b∨ff b) (aN _ fun _ h=>h)
  refine⟨fun b=>ff b∨vv b,sC,?_,fun b I=>aa b (bp b I),?_,fun a_ aR=>b_ a_ fun b I=> ?_⟩
  ·rintro b (h|h)
   ·exact U b h
   ·exact aa b (bn b h)
  ·rintro b I (h|h)
   ·exact aw b (bp b I) h
   ·exact cy b I h
  ·rcases I with(I|I)|I
   ·exact aR b (.inl I)
   ·exact aR b (.inr (.inl I))
   ·exact aR b (.inr (.inr I))
theorem aH.kh:∀{ds es:List j},gT ds es→∀{F:Nat→Prop} {cs:List Value} {S:Nat→Prop},aH w F ds cs S→
  ∃ff fg:Nat→Prop,(∀b,ff b→S b)∧(∀b,fg b→S b)∧(∀b,fg b→¬ff b)∧∀a_,(∀b,F b∨ff b→a_ b)→aH w a_ es cs fg
 |_,_,.nil,F,cs,S,h=>⟨fun _=>False,fun _=>False,fun _ h=>h.elim,fun _ h=>h.elim,fun _ h=>h.elim,fun a_ aR=>by rw[aH]at h⊢;exact h⟩
 |_,_,.cons ab fX,F,cs,S,h=>by
  rw[aH]at h
  obtain⟨bz,bA,bh,cc,rfl,aO,bg,b6,cJ,ec⟩:=h
  obtain⟨Fl,y5,aF,cj,a3,a4⟩:=al.kh ab aO
  obtain⟨vv,sC,h4,fP,kR,dL⟩:=aH.kh fX bg
  refine⟨fun b=>Fl b∨vv b,fun b=>y5 b∨sC b,?_,?_,?_,fun a_ aR=> ?_⟩
  ·rintro b (h|h)
   ·exact b6 b (aF b h)
   ·exact cJ b (h4 b h)
  ·rintro b (h|h)
   ·exact b6 b (cj b h)
   ·exact cJ b (fP b h)
  ·rintro b (h|h) (a5|a5)
   ·exact a3 b h a5
   ·exact ec b (cj b h) (h4 b a5)
   ·exact ec b (aF b a5) (fP b h)
   ·exact kR b h a5
  ·rw[aH]
   refine⟨bz,bA,y5,sC,rfl,a4 a_ (fun b I=>aR b (I.imp id .inl)),dL a_ (fun b I=>aR b (I.imp id .inr)),fun b I=>.inl I,fun b I=>.inr I,fun b U aa=>ec b (cj b U) (fP b aa)⟩
end
theorem dh.sD:∀{d e:j},dh d e→(∀vs,d≠.tuple vs)→∀vs,e≠.tuple vs
 |_,_,.refl _,h=>h
 |_,_,.lO _,_=>fun _ h=>by cases h
 |_,_,.oJ,_=>fun _ h=>by cases h
 |_,_,.any _,_=>fun _ h=>by cases h
 |_,_,.share d _ _ _,h=>fun vs he=>by cases d<;>first|(cases he;done)|exact h _ rfl
 |_,_,.agg _,_=>fun _ h=>by cases h
 |_,_,.bc _,_=>fun _ h=>by cases h
 |_,_,.aK _,_=>fun _ h=>by cases h
 |_,_,.tuple _,h=>fun _ _=>h _ rfl
 |_,_,.ref _,_=>fun _ h=>by cases h
 |_,_,.trans h k,aV=>dh.sD k (dh.sD h aV)
theorem dh.fh:∀{d e:j} {v:Value},dh d e→(∀vs,d≠.tuple vs)→bV.fh d v→bV.fh e v
 |_,_,_,.refl _,_,h=>h
 |_,_,_,.lO _,_,h=>h
 |_,_,_,.oJ,_,h=>h
 |_,_,_,.any _,_,h=>h
 |_,_,_,.share d _ aV _,_,h=>by cases d<;>first|exact h|exact(aV _ rfl).elim
 |_,_,_,.agg _,_,h=>h
 |_,_,_,.bc _,_,h=>h
 |_,_,_,.aK _,_,h=>h
 |_,_,_,.tuple _,aV,_=>(aV _ rfl).elim
 |_,_,_,.ref _,_,h=>h
 |_,_,_,.trans h k,aV,R=>dh.fh k (dh.sD h aV) (dh.fh h aV R)
theorem gT.get:∀{ds es:List j},gT ds es→∀(k:Nat) (e:j),es[k]? =some e→∃d,ds[k]? =some d∧dh d e
 |_,_,.nil,k,e,h=>by simp at h
 |_,_,.cons ab R,0,e,h=>by simp at h;subst h;exact⟨_,rfl,ab⟩
 |_,_,.cons ab R,k+1,e,h=>gT.get R k e (by simpa using h)
theorem dh.cl:∀{d e:j} {v:Value},dh d e→bV.cl d v→bV.cl e v
 |_,_,_,.refl _,R=>R
 |_,_,_,.lO _,R=>R
 |_,_,_,.oJ,R=>R
 |_,_,_,.any _,R=>R
 |_,_,_,.share _ _ iO _,R=>u5 iO R
 |_,_,_,.agg _,R=>R
 |_,_,_,.bc _,R=>R
 |_,_,_,.aK _,R=>R
 |_,_,_,.ref _,R=>R
 |_,_,_,.tuple ab,R=>by
  obtain⟨arr,U,aa,aw⟩:=R
  refine⟨arr,U,aa.trans ab.len.symm,fun k e x he ao=> ?_⟩
  obtain⟨d,ai,hw⟩:=ab.get k e he
  obtain⟨aF,cj,a3⟩:=aw k d x ai ao
  exact⟨hw.fh cj aF,hw.sD cj,a3.trans hw.wd.symm⟩
 |_,_,_,.trans h k,R=>dh.cl k (dh.cl h R)
theorem dh.tree:∀{d e:j},dh d e→d.tree=true→e.tree=true
 |_,_,.refl _,ab=>ab
 |_,_,.lO _,_=>rfl
 |_,_,.oJ,_=>rfl
 |_,_,.any _,_=>rfl
 |_,_,.share d _ _ hF,ab=>by cases d<;>first|exact ab|rfl|exact(hF _ rfl).elim
 |_,_,.agg _,_=>rfl
 |_,_,.bc _,_=>rfl
 |_,_,.aK _,_=>rfl
 |_,_,.tuple _,_=>rfl
 |_,_,.ref _,_=>rfl
 |_,_,.trans h k,ab=>dh.tree k (dh.tree h ab)
mutual
def j.nL:j→List Nat
 | .h x q=>if q.isEmpty then []else [x]
 | .an x _=>[x]
 | .I x _=>[x]
 | .fn _ cap=>j.qV cap
 |_=>[]
def j.qV:List j→List Nat
 |[]=>[]
 |d::ds=>d.nL++j.qV ds
end
def qW (s aj:af) (x:Nat) (D:List Nat):Prop:=aj x=s x∨aj x= .hole∨((s x).own=true∧(aj x).own=true∧x∉D)
theorem qW.less {s aj:af} {x:Nat} {D E:List Nat} (h:qW s aj x D) (Fm:∀u∈E,u∈D):qW s aj x E:=by
 rcases h with h|h|⟨U,aa,aw⟩
 ·exact .inl h
 ·exact .inr (.inl h)
 ·exact .inr (.inr ⟨U,aa,fun ao=>aw (Fm x ao)⟩)
theorem ar.keep {a_:Nat→Prop} (aR:∀b,F b→a_ b):∀n,(∀(d:j) (v:Value) (cf:Nat→Prop),SizeOf.sizeOf d≤n→(∀x∈d.R,qW s aj x d.nL)→ar w F s ak d v cf→ar w a_ aj ak d v cf)∧
  (∀(ds:List j) (vs:List Value),SizeOf.sizeOf ds≤n→(∀x∈j.cI ds,qW s aj x (j.qV ds))→cx w F s ak ds vs→cx w a_ aj ak ds vs):=by
 intro n
 induction n with
 |zero=>
  refine⟨fun d v cf bj=> ?_,fun ds vs bj=> ?_⟩
  ·cases d<;>simp at bj<;>omega
  ·cases ds<;>simp at bj<;>omega
 |succ n ih=>
  refine⟨fun d v cf bj ai h=> ?_,fun ds vs bj ai h=> ?_⟩
  ·cases d with
   |hole=>rw[ar];trivial
   |h x q=>
    rw[ar]at h⊢
    intro e c3 an
    rcases ai x (by simp[j.R])with he|he|⟨y6,Fo,qX⟩
    ·rw[he]at c3⊢;exact h e c3 an
    ·rw[he]at c3
     cases q with
     |nil=>simp only[j.sub,Option.some.injEq]at c3;subst c3;simp[j.plain]at an
     |cons k q=>simp[j.sub]at c3
    ·cases q with
     |nil=>
      simp only[j.sub,Option.some.injEq]at c3
      subst c3
      obtain⟨bE,a0,dw,dU,eB⟩:=h (s x) (by simp only[j.sub]) (lL y6).1
      simp only[bX,Option.some.injEq,Prod.mk.injEq,true_and]at dw
      exact⟨bd (ak x),none,by simp only[bX],by rw[dU,←dw.1],((lL Fo).2.2.2.2.2 _).2 (((lL y6).2.2.2.2.2 _).1 eB)⟩
     |cons k q=>exact(qX (by simp[j.nL])).elim
   |an x q=>
    rw[ar]at h⊢
    intro e c3 ae
    rcases ai x (by simp[j.R])with he|he|⟨_,_,qX⟩
    ·rw[he]at c3 ae⊢;exact h e c3 ae
    ·rw[he]at ae
     cases q<;>simp[j.di]at ae
    ·exact(qX (by simp[j.nL])).elim
   |I x k=>
    rw[ar]at h⊢
    intro an
    rcases ai x (by simp[j.R])with he|he|⟨_,_,qX⟩
    rotate_left 2
    ·exact(qX (by simp[j.nL])).elim
    ·rw[he]at an
     obtain⟨b,cur,e,fr,U,aa,aw,aN⟩:=h an
     exact⟨b,cur,e,fr,U,aR b aa,aw,aN⟩
    ·rw[he]at an;simp[j.plain]at an
   |fn f cap=>
    rw[ar]at h⊢
    obtain⟨arr,rfl,ae⟩:=h
    exact⟨arr,rfl,ih.2 _ _ (by simp at bj;omega) (by simpa [j.R,j.nL]using ai) ae⟩
   |_=>
    have a5:=(ar.bx rfl).1 h
    exact(ar.bx rfl).2 ⟨a5.1,al.mono aR _ _ _ _ (fun _ h=>h) a5.2⟩
  ·cases ds with
   |nil=>rw[cx]at h⊢;exact h
   |cons d ds=>
    rw[cx]at h⊢
    obtain⟨v,fZ,rfl,U,aa⟩:=h
    simp at bj
    simp only[j.cI,List.mem_append]at ai
    exact⟨v,fZ,rfl,ih.1 _ _ _ (by omega) (fun x ao=>(ai x (.inl ao)).less fun u hu=>by simp[j.qV,hu]) U,ih.2 _ _ (by omega) (fun x ao=>(ai x (.inr ao)).less fun u hu=>by simp[j.qV,hu]) aa⟩
def qY (s:af) (l:List (Nat×j)):Prop:=
 ∀p∈l,p.2=s p.1∨((s p.1).tree=true∧dh (s p.1) p.2∧∀bD∈l,p.1∉bD.2.R∨((s p.1).own=true∧p.2.own=true∧p.1∉bD.2.nL))
theorem y7:∀(l:List (Nat×j)) (t:Nat),J l t= .hole∨∃p∈l,p.1=t∧J l t=p.2:=by
 intro l
 induction l with
 |nil=>intro t;exact .inl rfl
 |cons p l ih=>
  intro t
  obtain⟨u,d⟩:=p
  simp only[J]
  split
  ·rename_i e;exact .inr ⟨(u,d),by simp,e.symm,rfl⟩
  ·rcases ih t with h|⟨p,an,h⟩
   ·exact .inl h
   ·exact .inr ⟨p,by simp[an],h⟩
theorem aY.Fp (h:aY w0 F0 X F S s ak w) {l:List (Nat×j)} (hw:qY s l):∃a_ ay,aY w0 F0 X a_ ay (J l) ak w:=by
 have each:∀t,∃ff fg:Nat→Prop,(∀b,ff b→S t b)∧(∀b,fg b→S t b)∧(∀b,fg b→¬ff b)∧∀a_,(∀b,F b∨ff b→a_ b)→ar w a_ (J l) ak (J l t) (ak t) fg:=by
  intro t
  rcases y7 l t with e|⟨p,an,rfl,e⟩
  ·exact⟨fun _=>False,fun _=>False,fun _ h=>h.elim,fun _ h=>h.elim,fun _ h=>h.elim,fun a_ _=>by rw[e,ar];trivial⟩
  ·rw[e]
   rcases hw p an with ai|⟨aG,gM,_⟩
   ·refine⟨fun _=>False,S p.1,fun _ h=>h.elim,fun _ h=>h,fun _ _ h=>h,fun a_ aR=> ?_⟩
    rw[ai]
    refine(ar.keep (fun b I=>aR b (.inl I)) (SizeOf.sizeOf (s p.1))).1 _ _ _ (Nat.le_refl _) ?_ (h.b0 p.1)
    intro x ao
    rcases y7 l x with ej|⟨bD,cS,rfl,ej⟩
    ·exact .inr (.inl ej)
    ·rcases hw bD cS with hG|⟨_,_,hF⟩
     ·exact .inl (ej.trans hG)
     ·rcases hF p an with hF|⟨i6,kb,sv⟩
      ·exact(hF (by rw[ai];exact ao)).elim
      ·exact .inr (.inr ⟨i6,by rw[ej];exact kb,by rw[ai]at sv;exact sv⟩)
   ·obtain⟨aD,aO⟩:=(ar.bx aG).1 (h.b0 p.1)
    obtain⟨ff,fg,bn,bp,cy,b_⟩:=al.kh gM aO
    exact⟨ff,fg,bn,bp,cy,fun a_ aR=>(ar.bx (gM.tree aG)).2 ⟨gM.cl aD,b_ a_ aR⟩⟩
 have bz:=fun t=>(each t).choose_spec
 let ff:=fun t=>(each t).choose
 have bA:=fun t=>(bz t).choose_spec
 let fg:=fun t=>(bz t).choose
 have fj:∀t b,ff t b→S t b:=fun t=>(bA t).1
 have ek:∀t b,fg t b→S t b:=fun t=>(bA t).2.1
 have gd:∀t b,fg t b→¬ff t b:=fun t=>(bA t).2.2.1
 have fQ:=fun t=>(bA t).2.2.2
 refine⟨fun b=>F b∨∃t,ff t b,fg,fun b I=>.inl (h.ep b I),?_,?_,fun t b I=>h.cP t b (ek t b I),?_,fun t u b cg I hu=>h.c8 t u b cg (ek t b I) (ek u b hu),fun t b I=>h.cf t b (ek t b I),?_,h.old,h.size,h.os,h.tape,h.output,h.er⟩
 ·rintro b (I|⟨t,I⟩)
  ·exact h.eC b I
  ·exact .inr (h.cf t b (fj t b I))
 ·rintro b (I|⟨t,I⟩)
  ·exact h.c_ b I
  ·exact h.cP t b (fj t b I)
 ·rintro t b I (bk|⟨u,hu⟩)
  ·exact h.dj t b (ek t b I) bk
  ·by_cases e:t=u
   ·subst e;exact gd t b I hu
   ·exact h.c8 t u b e (ek t b I) (fj u b hu)
 ·intro t
  exact fQ t _ (fun b I=>I.imp id fun h=>⟨t,h⟩)
end
inductive ah where
 |skip
 |db (ros:List bm) (keep:Option (List Nat))
 |hJ (ros:List bm) (kg:List (List Nat)) (keep:Option (List Nat))
 |seq (a b:ah)
 |cond (c:au) (a b:ah)
 |block (id:Nat) (b:ah)
 |loop (b:ah)
 |exit (id:Nat)
 |ret
 |gq (T:(Exit→af→Prop)→af→Prop) (b:ah)
def cB (n:Fr):Code→Option ah
 | .skip=>some .skip
 | .region _ ops false=>(k3 n ops ops.toList).map fun r=>.db r none
 | .region _ ops true=>if qT (jF ops)=true then(k3 n ops ops.toList).map fun r=>.hJ r (jF ops) none else none
 | .seq a b=>match cB n a,cB n b with
   |some a,some b=>some (.seq a b)
   |_,_=>none
 | .cond c a b=>match cd c,cB n a,cB n b with
   |some c,some a,some b=>some (.cond c a b)
   |_,_,_=>none
 | .block id b=>(cB n b).map (.block id)
 | .loop b=>(cB n b).map .loop
 | .exit id=>some (.exit id)
 | .ret=>some .ret
 |_=>none
def ah.hs:ah→ah
 | .db ros _=>.db ros none
 | .hJ ros dY _=>.hJ ros dY none
 | .seq a b=>.seq a.hs b.hs
 | .cond c a b=>.cond c a.hs b.hs
 | .block id b=>.block id b.hs
 | .loop b=>.loop b.hs
 | .gq T b=>.gq T b.hs
 |c=>c
def ah.strip:ah→ah
 | .db ros _=>.db (ros.map bm.un) none
 | .hJ ros dY _=>.hJ (ros.map bm.un) dY none
 | .seq a b=>.seq a.strip b.strip
 | .cond c a b=>.cond c a.strip b.strip
 | .block id b=>.block id b.strip
 | .loop b=>.loop b.strip
 | .gq _ b=>b.strip
 |c=>c
theorem ah.y8:∀c:ah,c.hs.strip=c.strip:=by
 intro c
 induction c with
 |seq a b gr gu=>simp only[ah.hs,ah.strip,gr,gu]
 |cond c a b gr gu=>simp only[ah.hs,ah.strip,gr,gu]
 |block id b ih=>simp only[ah.hs,ah.strip,ih]
 |loop b ih=>simp only[ah.hs,ah.strip,ih]
 |gq T b ih=>simp only[ah.hs,ah.strip,ih]
 |_=>rfl
def ah.bare (H:((Exit→af→Prop)→af→Prop)→ah→Prop):ah→Prop
 | .db _ k=>k=none
 | .hJ _ _ k=>k=none
 | .seq a b=>a.bare H∧b.bare H
 | .cond _ a b=>a.bare H∧b.bare H
 | .block _ b=>b.bare H
 | .loop b=>b.bare H
 | .gq T b=>H T b
 |_=>True
def ah.k7 (H:((Exit→af→Prop)→af→Prop)→ah→Prop):ah→Prop
 | .seq a b=>a.k7 H∧b.k7 H
 | .cond _ a b=>a.k7 H∧b.k7 H
 | .block _ b=>b.k7 H
 | .loop b=>b.k7 H
 | .gq T b=>H T b.hs
 |_=>True
theorem ah.y9 {H:((Exit→af→Prop)→af→Prop)→ah→Prop}:∀c:ah,c.k7 H→c.hs.bare H:=by
 intro c
 induction c with
 |seq a b gr gu=>intro h;exact⟨gr h.1,gu h.2⟩
 |cond c a b gr gu=>intro h;exact⟨gr h.1,gu h.2⟩
 |block id b ih=>intro h;exact ih h
 |loop b ih=>intro h;exact ih h
 |db=>intro _;rfl
 |hJ=>intro _;rfl
 |gq T b _=>intro h;exact h
 |_=>intro _;trivial
def ah.plain:ah→Bool
 | .seq a b=>a.plain&&b.plain
 | .cond _ a b=>a.plain&&b.plain
 | .block _ b=>b.plain
 | .loop b=>b.plain
 | .gq _ _=>false
 |_=>true
theorem ah.Fq {H:((Exit→af→Prop)→af→Prop)→ah→Prop}:∀c:ah,c.plain=true→c.k7 H:=by
 intro c
 induction c with
 |seq a b gr gu=>intro h;simp only[ah.plain,Bool.and_eq_true]at h;exact⟨gr h.1,gu h.2⟩
 |cond c a b gr gu=>intro h;simp only[ah.plain,Bool.and_eq_true]at h;exact⟨gr h.1,gu h.2⟩
 |block id b ih=>intro h;exact ih h
 |loop b ih=>intro h;exact ih h
 |gq T b _=>intro h;cases h
 |_=>intro _;trivial
def andThen (K:af→Prop) (Q:Exit→af→Prop):Exit→af→Prop
 | .normal,s=>K s
 |e,s=>Q e s
def oK (id:Nat) (Q:Exit→af→Prop):Exit→af→Prop
 | .exit i,s=>if i=id then Q .normal s else Q (.exit i) s
 |e,s=>Q e s
def dZ (K:af→Prop) (s:af):Prop:=K s∨∃l,qY s l∧K (J l)
def qZ:Option (List Nat)→(af→Prop)→af→Prop
 |none,K,s=>dZ K s
 |some k,K,s=>K (J (k.map fun t=>(t,s t)))
def b7 (C:bq):ah→(Exit→af→Prop)→af→Prop
 | .skip,Q,s=>Q .normal s
 | .db ros keep,Q,s=>hr C s ros (qZ keep (Q .normal))
 | .hJ ros kg keep,Q,s=>∀l,vq kg l→gn C ros s l (qZ keep (Q .normal))
 | .seq a b,Q,s=>b7 C a (andThen (dZ (b7 C b Q)) Q) s
 | .cond c a b,Q,s=>match ax s c with
   | .bool dp=>if dp=true then b7 C a Q s else b7 C b Q s
   | .c1=>b7 C a Q s∧b7 C b Q s
   |_=>False
 | .block id b,Q,s=>b7 C b (oK id Q) s
 | .loop b,Q,s=>dZ (fun s=>∀Z:af→Prop,(∀aj,b7 C b (andThen (dZ Z) Q) aj→Z aj)→Z s) s
 | .exit id,Q,s=>Q (.exit id) s
 | .ret,Q,s=>Q .ret s
 | .gq T _,Q,s=>∀cT:Exit→af→Prop,(∀e s,Q e s→cT e s)→T cT s
section
variable {C:bq}
theorem vw {s:af} {o:bm} {K b4:af→Prop} (h:hI C s o K) (ai:∀s,K s→b4 s):hI C s o b4:=by
 unfold hI at h⊢
 split
 ·rename_i aZ;rw[aZ]at h;exact sy h fun av s1=>ai _
 ·rename_i t b aZ
  rw[aZ]at h
  simp only at h
  split
  ·rename_i dp R
   rw[R]at h
   simp only at h
   split
   ·rename_i I;rw[if_pos I]at h;exact sy h fun av s1=>ai _
   ·rename_i I;rw[if_neg I]at h;exact ai _ h
  ·rename_i R;rw[R]at h;exact ai _ h
  ·rename_i U aa
   split at h
   ·exact U _ (by assumption)
   ·exact aa (by assumption)
   ·exact h
theorem y_ {K b4:af→Prop} (ai:∀s,K s→b4 s):∀{ros:List bm} {s:af},hr C s ros K→hr C s ros b4:=by
 intro ros
 induction ros with
 |nil=>intro s h;exact ai s h
 |cons o ros ih=>intro s h;exact vw h fun s h=>ih h
theorem za {ros:List bm} {K b4:af→Prop} (ai:∀s,K s→b4 s):∀{l:List Nat} {s:af},gn C ros s l K→gn C ros s l b4:=by
 intro l
 induction l with
 |nil=>intro s h;exact ai s h
 |cons i l ih=>
  intro s h
  simp only[gn]at h⊢
  split
  ·rename_i bs;rw[bs]at h;exact ih h
  ·rename_i o bs;rw[bs]at h;exact vw h fun s h=>ih h
theorem oL {K b4:af→Prop} (ai:∀s,K s→b4 s) (s:af) (h:dZ K s):dZ b4 s:=
 h.imp (ai s) fun⟨l,U,aa⟩=>⟨l,U,ai _ aa⟩
theorem zb {keep:Option (List Nat)} {K b4:af→Prop} (ai:∀s,K s→b4 s) (s:af) (h:qZ keep K s):qZ keep b4 s:=by
 cases keep with
 |none=>exact oL ai s h
 |some k=>exact ai _ h
theorem zc {keep:Option (List Nat)} {K:af→Prop} {s:af} (h:qZ keep K s):dZ K s:=by
 cases keep with
 |none=>exact h
 |some k=>
  refine .inr ⟨_,?_,h⟩
  intro p an
  obtain⟨t,_,rfl⟩:=List.mem_map.1 an
  exact .inl rfl
theorem vx {K b4:af→Prop} {Q cT:Exit→af→Prop} (ai:∀s,K s→b4 s) (bN:∀e s,Q e s→cT e s):∀e s,andThen K Q e s→andThen b4 cT e s:=by
 intro e s h
 cases e with
 |normal=>exact ai s h
 |_=>exact bN _ s h
theorem zd:∀(c:ah) {Q cT:Exit→af→Prop} {s:af},(∀e s,Q e s→cT e s)→b7 C c Q s→b7 C c cT s:=by
 intro c
 induction c with
 |skip=>intro Q cT s bN h;exact bN _ _ h
 |db ros keep=>intro Q cT s bN h;exact y_ (zb (bN _)) h
 |hJ ros kg keep=>intro Q cT s bN h l hl;exact za (zb (bN _)) (h l hl)
 |seq a b gr gu=>
  intro Q cT s bN h
  exact gr (vx (fun s h=>oL (fun _ h=>gu bN h) s h) bN) h
 |cond c a b gr gu=>
  intro Q cT s bN h
  simp only[b7]at h⊢
  split
  ·rename_i dp I
   rw[I]at h
   simp only at h
   split
   ·rename_i e;rw[if_pos e]at h;exact gr bN h
   ·rename_i e;rw[if_neg e]at h;exact gu bN h
  ·rename_i I;rw[I]at h;exact⟨gr bN h.1,gu bN h.2⟩
  ·rename_i U aa
   split at h
   ·exact U _ (by assumption)
   ·exact aa (by assumption)
   ·exact h
 |block id b ih=>
  intro Q cT s bN h
  refine ih ?_ h
  intro e s h
  cases e with
  |exit i=>
   simp only[oK]at h⊢
   split
   ·rename_i e;rw[if_pos e]at h;exact bN _ _ h
   ·rename_i e;rw[if_neg e]at h;exact bN _ _ h
  |_=>exact bN _ _ h
 |loop b ih=>
  intro Q cT s bN h
  refine oL (fun s h Z oM=> ?_) s h
  exact h Z fun aj ez=>oM aj (ih (vx (fun _ h=>h) bN) ez)
 |exit id=>intro Q cT s bN h;exact bN _ _ h
 |ret=>intro Q cT s bN h;exact bN _ _ h
 |gq T b _=>intro Q cT s bN h iQ aa;exact h iQ fun e s he=>aa e s (bN e s he)
theorem ze:∀(c:ah) {Q:Exit→af→Prop} {s:af},b7 C c Q s→b7 C c.hs Q s:=by
 intro c
 induction c with
 |db ros keep=>intro Q s h;exact y_ (fun s h=>zc h) h
 |hJ ros dY keep=>intro Q s h l hl;exact za (fun s h=>zc h) (h l hl)
 |seq a b gr gu=>intro Q s h;exact gr (zd a (vx (fun s h=>oL (fun _ h=>gu h) s h) (fun _ _ h=>h)) h)
 |cond c a b gr gu=>
  intro Q s h
  simp only[ah.hs,b7]at h⊢
  split
  ·rename_i dp I
   rw[I]at h
   simp only at h
   split
   ·rename_i e;rw[if_pos e]at h;exact gr h
   ·rename_i e;rw[if_neg e]at h;exact gu h
  ·rename_i I;rw[I]at h;exact⟨gr h.1,gu h.2⟩
  ·rename_i U aa
   split at h
   ·exact U _ (by assumption)
   ·exact aa (by assumption)
   ·exact h
 |block id b ih=>intro Q s h;exact ih h
 |loop b ih=>
  intro Q s h
  refine oL (fun s h Z oM=> ?_) s h
  exact h Z fun aj ez=>oM aj (ih ez)
 |gq T b _=>intro Q s h;exact h
 |_=>intro Q s h;exact h
variable {w0 w:World} {F0 X:Nat→Prop} {n:Fr} {ρ:Nat→Value} {s:af} {a:Act}
def oN (w0:World) (F0 X:Nat→Prop) (n:Fr) (ρ:Nat→Value) (Q:Exit→af→Prop):Exit→Act→World→Prop:=fun e a w=>∃s,Q e s∧Rel w0 F0 X n ρ s a w
theorem Rel.dZ {K:af→Prop} {s:af} {a:Act} {w:World} (aA:Rel w0 F0 X n ρ s a w) (h:dZ K s):∃aj,K aj∧Rel w0 F0 X n ρ aj a w:=by
 rcases h with h|⟨l,U,aa⟩
 ·exact⟨s,h,aA⟩
 ·obtain⟨aD,aO,bg,F,S,b6⟩:=aA
  obtain⟨a_,ay,cJ⟩:=b6.Fp U
  exact⟨J l,aa,aD,aO,bg,a_,ay,cJ⟩
theorem ah.Fs {c:ah} (h:c.strip= .skip):c= .skip∨∃T b,c= .gq T b:=by cases c<;>first|exact .inl rfl|exact .inr ⟨_,_,rfl⟩|cases h
theorem ah.Ft {c:ah} (h:c.strip= .ret):c= .ret∨∃T b,c= .gq T b:=by cases c<;>first|exact .inl rfl|exact .inr ⟨_,_,rfl⟩|cases h
theorem ah.Fu {c:ah} {i:Nat} (h:c.strip= .exit i):c= .exit i∨∃T b,c= .gq T b:=by cases c<;>first|exact .inl h|exact .inr ⟨_,_,rfl⟩|cases h
theorem ah.Fv {c:ah} {r:List bm} {k:Option (List Nat)} (h:c.strip= .db r k):(∃ros bY,c= .db ros bY∧ros.map bm.un=r)∨∃T b,c= .gq T b:=by
 cases c<;>first|(cases h;exact .inl ⟨_,_,rfl,rfl⟩)|exact .inr ⟨_,_,rfl⟩|cases h
theorem ah.Fw {c:ah} {r:List bm} {dY:List (List Nat)} {k:Option (List Nat)} (h:c.strip= .hJ r dY k):(∃ros zf bY,c= .hJ ros zf bY∧ros.map bm.un=r∧zf=dY)∨∃T b,c= .gq T b:=by
 cases c<;>first|(cases h;exact .inl ⟨_,_,_,rfl,rfl,rfl⟩)|exact .inr ⟨_,_,rfl⟩|cases h
theorem ah.Fx {c x y:ah} (h:c.strip= .seq x y):(∃a b,c= .seq a b∧a.strip=x∧b.strip=y)∨∃T b,c= .gq T b:=by
 cases c<;>first|(cases h;exact .inl ⟨_,_,rfl,rfl,rfl⟩)|exact .inr ⟨_,_,rfl⟩|cases h
theorem ah.Fy {c x y:ah} {o:au} (h:c.strip= .cond o x y):(∃i5 a b,c= .cond i5 a b∧i5=o∧a.strip=x∧b.strip=y)∨∃T b,c= .gq T b:=by
 cases c<;>first|(cases h;exact .inl ⟨_,_,_,rfl,rfl,rfl,rfl⟩)|exact .inr ⟨_,_,rfl⟩|cases h
theorem ah.Fz {c x:ah} {i:Nat} (h:c.strip= .block i x):(∃a,c= .block i a∧a.strip=x)∨∃T b,c= .gq T b:=by
 cases c<;>first|(cases h;exact .inl ⟨_,rfl,rfl⟩)|exact .inr ⟨_,_,rfl⟩|cases h
theorem ah.FA {c x:ah} (h:c.strip= .loop x):(∃a,c= .loop a∧a.strip=x)∨∃T b,c= .gq T b:=by
 cases c<;>first|(cases h;exact .inl ⟨_,rfl,rfl⟩)|exact .inr ⟨_,_,rfl⟩|cases h
theorem zg (aQ:C.cY) {H:((Exit→af→Prop)→af→Prop)→ah→Prop}
  (i7:∀(c:Code) (T:(Exit→af→Prop)→af→Prop) (b:ah) (Q:Exit→af→Prop) (s:af) (a:Act) (w:World),H T b→cB n c=some b.strip→T Q s→Rel w0 F0 X n ρ s a w→c.wp C.P (oN w0 F0 X n ρ Q) a w):
  ∀(c:Code) {cX:ah} {Q:Exit→af→Prop} {s:af} {a:Act} {w:World},cB n c=some cX.strip→cX.bare H→b7 C cX Q s→Rel w0 F0 X n ρ s a w→c.wp C.P (oN w0 F0 X n ρ Q) a w:=by
 intro c
 induction c with
 |skip=>
  intro cX Q s a w R eL h aA
  have gG:=R
  simp only[cB,Option.some.injEq]at R
  rcases ah.Fs R.symm with rfl|⟨T,b,rfl⟩
  ·exact wp_skip ⟨s,h,aA⟩
  ·exact i7 _ T b Q s a w eL (by simpa only[ah.strip]using gG) (h Q fun _ _ h=>h) aA
 |region id ops draw=>
  intro cX Q s a w R eL h aA
  have gG:=R
  cases draw with
  |false=>
   simp only[cB,Option.map_eq_some_iff]at R
   obtain⟨FB,q0,R⟩:=R
   rcases ah.Fv R.symm with⟨ros,k,rfl,rfl⟩|⟨T,b,rfl⟩
   rotate_left
   ·exact i7 _ T b Q s a w eL (by simpa only[ah.strip]using gG) (h Q fun _ _ h=>h) aA
   cases eL
   exact Fa aQ q0 (fun aj bM aq ai cQ=>cQ.dZ ai) h aA
  |true=>
   simp only[cB]at R
   split at R
   ·rename_i I
    simp only[Option.map_eq_some_iff]at R
    obtain⟨FB,q0,R⟩:=R
    rcases ah.Fw R.symm with⟨ros,dY,k,rfl,rfl,rfl⟩|⟨T,b,rfl⟩
    rotate_left
    ·exact i7 _ T b Q s a w eL (by simpa only[ah.strip]using gG) (h Q fun _ _ h=>h) aA
    cases eL
    refine wp_region_draw fun t=> ?_
    rw[show Region.schedule (C.P.follows .mixedOrders) ops t=Region.linearise .any ops t by simp[Region.schedule,aQ.mixed]]
    exact yY aQ q0 (fun aj bM aq ai cQ=>cQ.dZ ai) _ s a _ (h _ (Fj I t)) (aA.drawn _ (by first|exact Nat.le_succ _|exact Nat.le_add_right _ _|omega))
   ·cases R
 |seq x y FC sE=>
  intro cX Q s a w R eL h aA
  have gG:=R
  simp only[cB]at R
  split at R
  ·rename_i qE FD ao aW
   simp only[Option.some.injEq]at R
   rcases ah.Fx R.symm with⟨b1,gZ,rfl,rfl,rfl⟩|⟨T,b,rfl⟩
   rotate_left
   ·exact i7 _ T b Q s a w eL (by simpa only[ah.strip]using gG) (h Q fun _ _ h=>h) aA
   refine wp_seq (wp_mono (FC ao eL.1 h aA) ?_)
   rintro e bM aq ⟨aj,a5,cQ⟩
   cases e with
   |normal=>
    obtain⟨aj,a5,cQ⟩:=cQ.dZ a5
    exact sE aW eL.2 a5 cQ
   |_=>exact⟨aj,a5,cQ⟩
  ·cases R
 |cond x y z sE zh=>
  intro cX Q s a w R eL h aA
  have gG:=R
  simp only[cB]at R
  split at R
  ·rename_i qE FD sz ao aW bj
   simp only[Option.some.injEq]at R
   rcases ah.Fy R.symm with⟨b1,gZ,lA,rfl,rfl,rfl,rfl⟩|⟨T,b,rfl⟩
   rotate_left
   ·exact i7 _ T b Q s a w eL (by simpa only[ah.strip]using gG) (h Q fun _ _ h=>h) aA
   have cQ:=aA
   obtain⟨ab,cp,bk,F,S,lN⟩:=cQ
   have aC:=(da (a:=a) lN (fun _=>rfl) ao).2
   simp only[b7]at h
   split at h
   ·rename_i dp I
    rw[I]at aC
    have:=mq aC
    refine wp_cond this ?_
    split
    ·rename_i e;rw[if_pos e]at h;exact sE aW eL.1 h aA
    ·rename_i e;rw[if_neg e]at h;exact zh bj eL.2 h aA
   ·rename_i I
    rw[I]at aC
    obtain⟨dp,hY⟩:=xI aC
    refine wp_cond hY ?_
    split
    ·exact sE aW eL.1 h.1 aA
    ·exact zh bj eL.2 h.2 aA
   ·exact h.elim
  ·cases R
 |block id b ih=>
  intro cX Q s a w R eL h aA
  have gG:=R
  simp only[cB,Option.map_eq_some_iff]at R
  obtain⟨si,I,R⟩:=R
  rcases ah.Fz R.symm with⟨dp,rfl,rfl⟩|⟨T,b,rfl⟩
  rotate_left
  ·exact i7 _ T b Q s a w eL (by simpa only[ah.strip]using gG) (h Q fun _ _ h=>h) aA
  refine wp_block (wp_mono (ih I eL h aA) ?_)
  rintro e bM aq ⟨aj,a5,cQ⟩
  cases e with
  |exit i=>
   simp only[oK]at a5
   simp only[Exit.inBlock]
   split
   ·rename_i e;rw[if_pos e]at a5;exact⟨aj,a5,cQ⟩
   ·rename_i e;rw[if_neg e]at a5;exact⟨aj,a5,cQ⟩
  |_=>exact⟨aj,a5,cQ⟩
 |loop b ih=>
  intro cX Q s a w R eL h aA
  have gG:=R
  simp only[cB,Option.map_eq_some_iff]at R
  obtain⟨si,I,R⟩:=R
  rcases ah.FA R.symm with⟨dp,rfl,rfl⟩|⟨T,b,rfl⟩
  rotate_left
  ·exact i7 _ T b Q s a w eL (by simpa only[ah.strip]using gG) (h Q fun _ _ h=>h) aA
  obtain⟨s,h,aA⟩:=aA.dZ h
  have key:=h (fun s=>∀a w,Rel w0 F0 X n ρ s a w→∀(f:Frame) (k:List Item) (cs:List Frame),∃e bM aq,oN w0 F0 X n ρ Q e bM aq∧Arrives C.P (lone (f.at a (.code b:: .inLoop b::k)) cs w) f k cs e bM aq) ?_
  ·intro f k cs
   obtain⟨e,bM,aq,bN,mG⟩:=key a w aA f k cs
   exact⟨e,bM,aq,bN,.of_steps (.one step_loop) mG⟩
  ·intro aj ez a w aA f k cs
   obtain⟨e,a₁,w₁,⟨s1,bN,mH⟩,mG⟩:=ih I eL ez aA f (.inLoop b::k) cs
   cases e with
   |normal=>
    simp only[andThen]at bN
    obtain⟨s1,bN,mH⟩:=mH.dZ bN
    obtain⟨e₂,a₂,w₂,hq₂,harr₂⟩:=bN a₁ w₁ mH f k cs
    exact⟨e₂,a₂,w₂,hq₂,.of_steps (Steps.trans mG (.one step_inLoop)) harr₂⟩
   |exit id=>exact⟨_,a₁,w₁,⟨s1,bN,mH⟩,.pass (x:=.inLoop b) rfl (fun _ _=>.inl (by simp)) mG⟩
   |goto l=>exact⟨_,a₁,w₁,⟨s1,bN,mH⟩,.pass (x:=.inLoop b) rfl (fun _ _=>.inl (by simp)) mG⟩
   |ret=>exact⟨_,a₁,w₁,⟨s1,bN,mH⟩,.pass (x:=.inLoop b) rfl (fun _ _=>.inl (by simp)) mG⟩
   |panic PQ=>exact⟨_,a₁,w₁,⟨s1,bN,mH⟩,.pass (x:=.inLoop b) rfl (fun _ _=>.inl (by simp)) mG⟩
   |outgrown=>exact⟨_,a₁,w₁,⟨s1,bN,mH⟩,.pass (x:=.inLoop b) rfl (fun _ _=>.inl (by simp)) mG⟩
 |exit id=>
  intro cX Q s a w R eL h aA
  have gG:=R
  simp only[cB,Option.some.injEq]at R
  rcases ah.Fu R.symm with rfl|⟨T,b,rfl⟩
  ·exact wp_exit ⟨s,h,aA⟩
  ·exact i7 _ T b Q s a w eL (by simpa only[ah.strip]using gG) (h Q fun _ _ h=>h) aA
 |ret=>
  intro cX Q s a w R eL h aA
  have gG:=R
  simp only[cB,Option.some.injEq]at R
  rcases ah.Ft R.symm with rfl|⟨T,b,rfl⟩
  ·exact wp_ret ⟨s,h,aA⟩
  ·exact i7 _ T b Q s a w eL (by simpa only[ah.strip]using gG) (h Q fun _ _ h=>h) aA
 |_=>intro cX Q s a w R;simp[cB]at R
theorem FE (aQ:C.cY) (c:Code) {cX:ah} {Q:Exit→af→Prop} {s:af} {a:Act} {w:World} (R:cB n c=some cX.strip) (I:cX.bare (fun _ _=>False)) (h:b7 C cX Q s) (aA:Rel w0 F0 X n ρ s a w):c.wp C.P (oN w0 F0 X n ρ Q) a w:=
 zg aQ (fun _ _ _ _ _ _ _ bk=>bk.elim) c R I h aA
end
def gf:ResultVar→Nat
 | .tmp t=>t
 | .cell a _=>a
def lP (C:bq) (s:af):ResultVar→Option j
 | .tmp t=>if(s t).tree=true then(match s t with| .tuple _=>none|d=>some d)else none
 | .cell a T=>match s a with
   | .bc d=>if fits C T d=true∧d.tree=true then some d else none
   |_=>none
def vy (C:bq) (fx:List Nat) (dt:List ResultVar) (r:j) (outs:List j) (s:af):Prop:=
 ∃ds,dt.map (lP C s)=ds.map some∧r=(match ds with|[d]=>d|ds=>.tuple ds)∧(dt.map gf).Nodup∧
  ∀(i:Nat) (o:j),outs[i]? =some o→o= .hole∨(o=s i∧o.dS=true∧i∈fx∧i∉dt.map gf)
def Ends (C:bq) (fx:List Nat) (dt:List ResultVar) (r:j) (outs:List j) (s:af):Prop:=
 vy C fx dt r outs s∨∃t y q d s1,s t= .h y q∧bL s (.h y q)=some (d,s1)∧vy C fx dt r outs (fin s1 (some t) d)
theorem aY.takes {w0 w:World} {F0 X F:Nat→Prop} {S:Nat→Nat→Prop} {s s1:af} {ak:Nat→Value} {t y:Nat} {q:List Nat} {d:j} (aA:aY w0 F0 X F S s ak w) (U:s t= .h y q) (aa:bL s (.h y q)=some (d,s1)):
  ∃ay,aY w0 F0 X F ay (bV.fin s1 (some t) d) ak w:=by
 have R:=aA.b0 t
 rw[U,ar]at R
 obtain⟨bh,k0,bn,bp,Sn,cy,b_,c4,cZ,eM,_⟩:=jZ aA (av:=.h y q) (v:=ak t) rfl (by rw[ar];exact R) aa
 obtain⟨ay,a5⟩:=k0.fin (.inr ⟨bn,bp,Sn,cy,b_,c4,cZ,eM⟩) (some t)
 refine⟨ay,?_⟩
 have e:ly ak (some t) (ak t)=ak:=by
  funext u
  simp only[ly,bZ]
  split
  ·rename_i h;rw[h]
  ·rfl
 rwa [e]at a5
section
variable {C:bq} {w0 w:World} {F0 X F:Nat→Prop} {S:Nat→Nat→Prop} {s:af} {tmps:Array Value}
theorem zi {d:j} {x:Value} (ab:∀vs,d≠.tuple vs) (h:cl d x):bd x=e9 x∧fh d x:=by
 have:fh d x:=by cases d<;>first|exact h|exact(ab _ rfl).elim
 refine⟨?_,this⟩
 cases d<;>first
  |(obtain⟨a,rfl⟩:=this;rfl)
  |(simp only[fh]at this
    rw[el this]
    cases x<;>first|rfl|(simp[Value.ea]at this))
def q1 (tmps:Array Value):ResultVar→Sem Value
 | .tmp t=>pure (tmps.getD t undef)
 | .cell a t=>do loadVar t (←asAddr (tmps.getD a undef))
theorem FF (aQ:C.cY) (h:aY w0 F0 X F S s (fun t=>tmps.getD t undef) w) {v:ResultVar} {d:j} (aC:lP C s v=some d):
  ∃x,(q1 tmps v).run C.P w= .ok x w∧d.tree=true∧(∀vs,d≠.tuple vs)∧cl d x∧al w F d (bd x) (S (gf v)):=by
 cases v with
 |tmp t=>
  simp only[lP]at aC
  split at aC
  ·rename_i aG
   have iO:(∀vs,s t≠.tuple vs)∧d=s t:=by
    cases R:s t<;>rw[R]at aC<;>simp only at aC<;>first
     |(cases aC;done)
     |(simp only[Option.some.injEq]at aC;exact⟨(fun _ h=>by cases h),aC.symm⟩)
   obtain⟨iO,rfl⟩:=iO
   obtain⟨aD,aO⟩:=(ar.bx aG).1 (h.b0 t)
   exact⟨_,by simp[q1],aG,iO,aD,aO⟩
  ·cases aC
 |cell a T=>
  simp only[lP]at aC
  split at aC
  ·rename_i e R
   split at aC
   ·rename_i FG
    obtain⟨fb,FH⟩:=FG
    simp only[Option.some.injEq]at aC;subst aC
    have fR:=h.b0 a
    rw[R]at fR
    obtain⟨aD,aO⟩:=(ar.bx (d:=.bc e) rfl).1 fR
    rw[el aD,al]at aO
    obtain⟨b,cur,ty,fr,ay,bn,bp,cy,b_,c4,cZ,eM⟩:=aO
    simp only[List.cons.injEq,and_true]at bn
    have gj:e8 w b 0 cur.toList:=by
     have:=oh cy cur.size
     rwa [List.take_of_length_le (by simp)]at this
    obtain⟨x,eb,cw,gD⟩:=r8 (C:=C) aQ gj c4 fb
    refine⟨x,?_,FH,?_,gD,?_⟩
    ·simp only[q1]
     rw[bn]
     simpa [asAddr]using eb
    ·intro vs ej;subst ej
     unfold fits at fb
     split at fb<;>simp_all
    ·rw[cw];exact al.mono (fun _ h=>h) _ _ _ _ cZ c4
   ·cases aC
  ·cases aC
theorem FI (aQ:C.cY) (h:aY w0 F0 X F S s (fun t=>tmps.getD t undef) w):∀(dt:List ResultVar) (ds:List j),dt.map (lP C s)=ds.map some→(dt.map gf).Nodup→
  ∃xs,(dt.mapM (q1 tmps)).run C.P w= .ok xs w∧xs.length=ds.length∧aH w F ds (xs.flatMap e9) (fun b=>∃t∈dt.map gf,S t b)∧
   ∀(k:Nat) (d:j) (x:Value),ds[k]? =some d→xs[k]? =some x→cl d x∧(∀vs,d≠.tuple vs)∧(e9 x).length=d.wd∧bd x=e9 x∧d.tree=true:=by
 intro dt
 induction dt with
 |nil=>
  intro ds he _
  have:ds=[]:=by simpa using he.symm
  subst this
  exact⟨[],by simp,rfl,by simp only[List.flatMap_nil];rw[aH],fun k d x ab=>by simp at ab⟩
 |cons v dt ih=>
  intro ds he oO
  cases ds with
  |nil=>simp at he
  |cons d ds=>
   simp only[List.map_cons,List.cons.injEq]at he
   simp only[List.map_cons,List.nodup_cons]at oO
   obtain⟨x,eb,rt,cw,gD,fq⟩:=FF aQ h he.1
   obtain⟨xs,fj,ek,gd,fQ⟩:=ih ds he.2 oO.2
   obtain⟨aE,aL⟩:=zi cw gD
   refine⟨x::xs,by simp[List.mapM_cons,eb,fj],by simp[ek],?_,?_⟩
   ·simp only[List.flatMap_cons]
    rw[aH]
    rw[aE]at fq
    refine⟨e9 x,xs.flatMap e9,S (gf v),fun b=>∃t∈dt.map gf,S t b,rfl,fq,gd,fun b I=>⟨gf v,by simp,I⟩,?_,?_⟩
    ·rintro b ⟨t,aG,I⟩;exact⟨t,by simp[aG],I⟩
    ·rintro b I ⟨t,aG,hY⟩
     have:t≠gf v:=fun e=>oO.1 (e▸aG)
     exact h.c8 t (gf v) b this hY I
   ·intro k aT b1 ab ao
    cases k with
    |zero=>
     simp at ab ao;subst ab ao
     refine⟨gD,cw,?_,aE,rt⟩
     rw[←aE];exact al.length _ _ _ fq
    |succ k=>exact fQ k aT b1 (by simpa using ab) (by simpa using ao)
theorem zj (aQ:C.cY) {f:FuncId} {fn:Func} {c:Code} {fx:List Nat} {as outs:List j} {r:j} (bk:C.P.funcs[f]? =some fn) (I:fn.body=some c)
  (ht:(fn.name== "runtime.NumGoroutine")=false) (aV:as.length≤fn.ntmps)
  {w:World} {F X:Nat→Prop} {S:Nat→Nat→Prop} {vs:List Value} (hl:vs.length=as.length) (aA:aY w F X F S (df as) (dX vs) w)
  (vz:∀a,Rel w F X ⟨fn.ntmps,fx⟩ (dX vs) (df as) a w→(∀t,a.tmps.getD t undef=dX vs t)→c.wp C.P (oN w F X ⟨fn.ntmps,fx⟩ (dX vs) (fun e s=>(e= .normal∨e= .ret)∧dZ (Ends C fx fn.results.toList r outs) s)) a w):
  kc C.P f vs.toArray w fun v aq=>∃a_ ay,aY w F X a_ ay (df (r::outs)) (dX (v::vs)) aq:=by
 have iN:(vs.toArray++Array.replicate (fn.ntmps-vs.toArray.size) undef).size=fn.ntmps:=by simp;omega
 have cE:(fun t=>(vs.toArray++Array.replicate (fn.ntmps-vs.toArray.size) undef).getD t undef)=dX vs:=by
  funext t
  simp only[dX,Array.getD_eq_getD_getElem?,List.getD_eq_getElem?_getD]
  by_cases aG:t<vs.length
  ·rw[Array.getElem?_append_left (by simpa using aG)];simp
  ·rw[Array.getElem?_append_right (by simpa using aG)]
   rw[List.getElem?_eq_none (by omega)]
   simp only[Array.getElem?_replicate]
   split<;>rfl
 have lN:Rel w F X ⟨fn.ntmps,fx⟩ (dX vs) (df as) {tmps:=vs.toArray++Array.replicate (fn.ntmps-vs.toArray.size) undef,defers:=[]} w:=
  ⟨rfl,iN,fun i _=>congrFun cE i,F,S,by rw[cE];exact aA⟩
 have vA:fn.name≠ "runtime.NumGoroutine" :=by simpa using ht
 refine .inl ⟨by simp[callFunc,bk,vA,I],calls_of_wp bk I (wp_mono (vz _ lN (congrFun cE)) ?_)⟩
 rintro e bM aq ⟨aj,⟨he,FJ⟩,FK⟩
 obtain⟨aj,⟨ds,fX,zk,oO,ng⟩,ab,cp,eW,a_,ay,cQ⟩:∃aj,vy C fx fn.results.toList r outs aj∧Rel w F X ⟨fn.ntmps,fx⟩ (dX vs) aj bM aq:=by
  obtain⟨aj,he,zl⟩:=FK.dZ FJ
  rcases he with he|⟨t,y,q,d,s1,U,aa,he⟩
  ·exact⟨aj,he,zl⟩
  ·obtain⟨aD,aO,bg,F,S,b6⟩:=zl
   obtain⟨ay,cJ⟩:=b6.takes U aa
   exact⟨_,he,aD,aO,bg,F,ay,cJ⟩
 obtain⟨xs,fj,ek,gd,fQ⟩:=FI aQ cQ _ ds fX oO
 have FL:(results fn bM.tmps)=(do let vs←fn.results.mapM (q1 bM.tmps);pure (if h:vs.size=1 then vs[0]else .tuple vs)):=by
  unfold results
  congr 1
 have jm:(results fn bM.tmps).run C.P aq= .ok (if h:xs.toArray.size=1 then xs.toArray[0]else .tuple xs.toArray) aq:=by
  rw[FL,Array.mapM_eq_mapM_toList]
  simp[fj]
 have nM:(r.tree=true∧cl r (if h:xs.toArray.size=1 then xs.toArray[0]else .tuple xs.toArray)∧
   al aq a_ r (bd (if h:xs.toArray.size=1 then xs.toArray[0]else .tuple xs.toArray)) (fun b=>∃t∈fn.results.toList.map gf,ay t b)):=by
  by_cases U:∃d,ds=[d]
  ·obtain⟨d,rfl⟩:=U
   obtain⟨x,rfl⟩:∃x,xs=[x]:=by
    cases xs with
    |nil=>simp at ek
    |cons x xs=>cases xs with
     |nil=>exact⟨x,rfl⟩
     |cons y ys=>simp at ek
   obtain⟨bn,bp,cy,b_,c4⟩:=fQ 0 d x rfl rfl
   have FM:d=r:=zk.symm
   subst FM
   simp only[List.flatMap_cons,List.flatMap_nil,List.append_nil]at gd
   rw[aH]at gd
   obtain⟨bz,bA,bh,cc,aE,aL,bb,b2,b9,bl⟩:=gd
   rw[aH]at bb;subst bb
   simp only[List.append_nil]at aE;subst aE
   have ao:(if h:([x]:List Value).toArray.size=1 then([x]:List Value).toArray[0]else .tuple ([x]:List Value).toArray)=x:=by simp
   rw[ao,b_]
   exact⟨c4,bn,al.mono (fun _ h=>h) _ _ _ _ b2 aL⟩
  ·have FN:r= .tuple ds:=by
    rw[zk]
    cases ds with
    |nil=>rfl
    |cons d ds=>cases ds with
     |nil=>exact(U ⟨d,rfl⟩).elim
     |cons e ds=>rfl
   have ao:(if h:xs.toArray.size=1 then xs.toArray[0]else Value.tuple xs.toArray)= .tuple xs.toArray:=by
    rw[dif_neg]
    intro cp
    have:ds.length=1:=by rw[←ek];simpa using cp
    obtain⟨d,ab⟩:=List.length_eq_one_iff.1 this
    exact U ⟨d,ab⟩
   rw[ao,FN]
   refine⟨rfl,⟨xs.toArray,rfl,by simpa using ek,fun k d x ab ao=> ?_⟩,?_⟩
   ·obtain⟨bn,bp,cy,b_,_⟩:=fQ k d x ab (by simpa using ao)
    exact⟨(zi bp bn).2,bp,cy⟩
   ·rw[al]
    simpa [bd]using gd
 have post:∀(v:Value),(r.tree=true∧cl r v∧al aq a_ r (bd v) (fun b=>∃t∈fn.results.toList.map gf,ay t b))→∃oG bh,aY w F X oG bh (df (r::outs)) (dX (v::vs)) aq:=by
  rintro v ⟨v1,v2,v3⟩
  have vB:∀i,(outs.getD i .hole).dS=true→outs.getD i .hole=aj i∧i∈fx∧i∉fn.results.toList.map gf:=by
   intro i az
   cases bs:outs[i]? with
   |none=>simp[List.getD,bs,j.dS]at az
   |some o=>
    have e:outs.getD i .hole=o:=by simp[List.getD,bs]
    rw[e]at az⊢
    rcases ng i o bs with h|h
    ·subst h;simp[j.dS]at az
    ·exact⟨h.1,h.2.2⟩
  refine⟨a_,fun t b=>match t with|0=>∃t∈fn.results.toList.map gf,ay t b|i+1=>(outs.getD i .hole).dS=true∧ay i b,cQ.ep,cQ.eC,cQ.c_,?_,?_,?_,?_,?_,cQ.old,cQ.size,cQ.os,cQ.tape,cQ.output,aA.er⟩
  ·intro t b I
   cases t with
   |zero=>obtain⟨t,_,I⟩:=I;exact cQ.cP t b I
   |succ i=>exact cQ.cP i b I.2
  ·intro t b I
   cases t with
   |zero=>obtain⟨t,_,I⟩:=I;exact cQ.dj t b I
   |succ i=>exact cQ.dj i b I.2
  ·intro t u b cg I hu
   cases t with
   |zero=>
    obtain⟨t,aG,I⟩:=I
    cases u with
    |zero=>exact cg rfl
    |succ ad=>
     refine cQ.c8 t ad b (fun e=> ?_) I hu.2
     subst e;exact(vB t hu.1).2.2 aG
   |succ i=>
    cases u with
    |zero=>
     obtain⟨t,aG,hu⟩:=hu
     refine cQ.c8 t i b (fun e=> ?_) hu I.2
     subst e;exact(vB t I.1).2.2 aG
    |succ ad=>exact cQ.c8 i ad b (by omega) I.2 hu.2
  ·intro t b I
   cases t with
   |zero=>obtain⟨t,_,I⟩:=I;exact cQ.cf t b I
   |succ i=>exact cQ.cf i b I.2
  ·intro t
   cases t with
   |zero=>exact(ar.bx v1).2 ⟨v2,v3⟩
   |succ i=>
    show ar aq a_ (df (r::outs)) (dX (v::vs)) (outs.getD i .hole) (vs.getD i undef) (fun b=>(outs.getD i .hole).dS=true∧ay i b)
    cases az:(outs.getD i .hole).dS with
    |false=>
     have:outs.getD i .hole= .hole:=by
      cases bs:outs[i]? with
      |none=>simp[List.getD,bs]
      |some o=>
       have e:outs.getD i .hole=o:=by simp[List.getD,bs]
       rw[e]at az⊢
       rcases ng i o bs with h|h
       ·exact h
       ·rw[h.2.1]at az;cases az
     rw[this,ar];trivial
    |true=>
     obtain⟨i6,kb,sv⟩:=vB i az
     have aG:=(mA az).2.1
     have fR:=cQ.b0 i
     rw[←i6]at fR
     obtain⟨aD,aO⟩:=(ar.bx aG).1 fR
     have aC:bM.tmps.getD i undef=vs.getD i undef:=eW i kb
     rw[aC]at aD aO
     exact(ar.bx aG).2 ⟨aD,al.mono (fun _ h=>h) _ _ _ _ (fun b I=>⟨rfl,I⟩) aO⟩
 rcases he with rfl|rfl
 ·exact⟨ab,_,jm,_,rfl,post _ nM⟩
 ·exact⟨ab,_,jm,_,rfl,post _ nM⟩
theorem cb.of_wp (aQ:C.cY) {f:FuncId} {fn:Func} {c:Code} {cX:ah} {fx:List Nat} {as outs:List j} {r:j} (bk:C.P.funcs[f]? =some fn) (I:fn.body=some c)
  (ht:(fn.name== "runtime.NumGoroutine")=false) (R:cB ⟨fn.ntmps,fx⟩ c=some cX.strip) (aV:as.length≤fn.ntmps)
  (h:b7 C cX (fun e s=>(e= .normal∨e= .ret)∧dZ (Ends C fx fn.results.toList r outs) s) (df as)) (an:cX.plain=true:=by kernel_rfl):cb C f as r outs:=
 fun w F X S vs hl aA=>zj aQ bk I ht aV hl aA fun a lN _=>FE aQ c (by rw[ah.y8];exact R) (ah.y9 cX (ah.Fq cX an)) (ze cX h) lN
end
def num:Nat→List j→List (Nat×j)
 |_,[]=>[]
 |k,a::as=>(k,a)::num (k+1) as
theorem FO:∀(as:List j) (k t:Nat),J (num k as) (k+t)=as.getD t .hole:=by
 intro as
 induction as with
 |nil=>intro k t;simp[num,J]
 |cons a as ih=>
  intro k t
  cases t with
  |zero=>simp[num,J]
  |succ t=>
   have:=ih (k+1) t
   simp only[num,J]
   rw[if_neg (by omega)]
   rw[show k+(t+1)=k+1+t by omega,this]
   simp
theorem zm (as:List j):df as=J (num 0 as):=by
 funext t
 have:=FO as 0 t
 rw[Nat.zero_add]at this
 rw[this];rfl
theorem g5 (l:List (Nat×j)) (t:Nat) (d:j):bZ (J l) t d=J ((t,d)::l):=by
 funext u;simp only[bZ,J]
def jH (t:Nat):List (Nat×j)→List (Nat×j)
 |[]=>[]
 |(u,d)::l=>(u,bK t d)::jH t l
def nN (t:Nat):List (Nat×j)→List (Nat×j)
 |[]=>[]
 |(u,d)::l=>(u,bo t d)::nN t l
theorem oP (t:Nat):∀l:List (Nat×j),hD t (J l)=J (jH t l):=by
 intro l
 funext u
 induction l with
 |nil=>rfl
 |cons p l ih=>
  obtain⟨v,d⟩:=p
  simp only[hD,J,jH]at ih⊢
  split
  ·rfl
  ·exact ih
theorem FP (t:Nat):∀l:List (Nat×j),e_ t (J l)=J (nN t l):=by
 intro l
 funext u
 induction l with
 |nil=>rfl
 |cons p l ih=>
  obtain⟨v,d⟩:=p
  simp only[e_,J,nN]at ih⊢
  split
  ·rfl
  ·exact ih
def fS (k:List Nat) (s:af):List (Nat×j):=k.map fun t=>(t,s t)
section
variable {C:bq} {l:List (Nat×j)}
def dE.nO:dE→Bool
 | .call _ _=>true
 | .cq _=>false
 | .fk _=>false
 | .pick _ _ _=>false
 | .eK _=>false
 | .dq _ _=>false
 | .cL _ _=>false
 | .c0 _ _ _=>false
 | .cM _ _=>false
 | .dW _ _ _=>false
 | .ed _=>false
 | .bP _ _ _ _=>false
 | .un _ _=>false
 | .dD _ _ _=>false
 | .gR _ _=>false
 | .fe _ _ _=>false
 | .cU _ _ _ _=>false
 | .dC _ _ _=>false
 | .dK _ _ _=>false
 | .idx _ _ _=>false
 | .ex _ _=>false
 | .h5 _ _ _=>false
 | .len _ _=>false
 | .app _ _ _ _=>false
 | .shr _=>true
 | .jw _ _ _ _=>false
 | .cap _ _=>false
 | .kV _ _ _=>false
 | .bad=>false
 | .iL _ _ _ _=>true
 | .iM _ _ _=>true
 | .hi _ _=>false
 | .my _=>false
 | .lJ _=>false
 | .qH=>false
 | .jv _ _ _=>false
 | .iK _ _ _ _=>false
variable {Q:Exit→af→Prop}
def j.zn:j→Bool
 | .tuple _=>true
 |_=>false
theorem Ends.one {fx:List Nat} {t:Nat} {r:j} {s:af} (U:s t=r) (aa:(r.tree&& !r.zn)=true):Ends C fx [.tmp t] r [] s:=by
 simp only[Bool.and_eq_true,Bool.not_eq_true']at aa
 obtain⟨aa,sF⟩:=aa
 have aw:∀vs,r≠.tuple vs:=fun vs e=>by subst e;simp[j.zn]at sF
 refine .inl ⟨[r],?_,rfl,by simp,fun i o h=>by simp at h⟩
 have:lP C s (.tmp t)=some r:=by
  simp only[lP,U,aa,if_true]
  try (cases r<;>first|rfl|exact(aw _ rfl).elim)
 simp only[List.map_cons,List.map_nil,this]
end
section
variable {C:bq} {l:List (Nat×j)} {Q:Exit→af→Prop}
theorem cb.outs {f:FuncId} {as:List j} {r:j} {i6 kb:List j} (h:cb C f as r i6) (he:df i6=df kb):cb C f as r kb:=by
 intro w F X S vs hl aA
 refine kc.mono (h w F X S vs hl aA) ?_
 rintro v aq ⟨a_,ay,a5⟩
 refine⟨a_,ay,?_⟩
 have:df (r::kb)=df (r::i6):=by
  funext t
  cases t with
  |zero=>rfl
  |succ t=>exact(congrFun he t).symm
 rw[this];exact a5
def ie:List j→List j→List bH
 |a::as,d::ds=>⟨a,false,d,.hole⟩::ie as ds
 |_,_=>[]
theorem FQ {s:af}:∀(as ds:List j),views s as=some ds→(ie as ds).map (·.a)=as∧(ie as ds).map (·.d)=ds∧(∀p∈ie as ds,p.ok s∧p.g=false∧p.o= .hole∧p.a∈as)∧fG (ie as ds)=true∧
  df ((ie as ds).map (·.o))=df []∧(∀lQ,dk lQ (ie as ds)=lQ)∧(∀lQ,fB lQ (ie as ds)=lQ):=by
 intro as
 induction as with
 |nil=>
  intro ds h
  simp only[views,Option.some.injEq]at h;subst h
  exact⟨rfl,rfl,(fun p an=>by cases an),rfl,rfl,fun _=>rfl,fun _=>rfl⟩
 |cons a as ih=>
  intro ds h
  simp only[views]at h
  split at h
  ·rename_i d FR U aa
   simp only[Option.some.injEq]at h;subst h
   obtain⟨aE,aL,bb,b2,b9,bl,bf⟩:=ih FR aa
   refine⟨by simp only[ie,List.map_cons,aE],by simp only[ie,List.map_cons,aL],?_,?_,?_,?_,?_⟩
   ·intro p an
    simp only[ie,List.mem_cons]at an
    rcases an with rfl|an
    ·exact⟨by simp only[bH.ok];exact U,rfl,rfl,by simp⟩
    ·obtain⟨aD,aO,bg,b6⟩:=bb p an
     exact⟨aD,aO,bg,by simp[b6]⟩
   ·simp only[ie,fG,b2,Bool.and_true,List.all_eq_true]
    intro p an
    simp[(bb p an).2.1]
   ·funext t
    cases t with
    |zero=>rfl
    |succ t=>exact(congrFun b9 t).trans (by simp[df])
   ·intro lQ;exact bl lQ
   ·intro lQ;exact bf lQ
  ·cases h
end
structure dm where
 a6:List Nat
 H:List Nat
 T:List Nat
 c:Bool
mutual
def j.clean:j→Bool
 | .hole=>false
 | .fn _ cap=>j.oQ cap
 |_=>true
def j.oQ:List j→Bool
 |[]=>true
 |d::ds=>d.clean&&j.oQ ds
end
mutual
theorem zo {x:Nat}:∀a:j,(bo x a).clean=true→bo x a=a
 | .h y q,h=>by
   simp only[bo]at h⊢
   split
   ·rename_i e;rw[if_pos e]at h
    split
    ·rfl
    ·rename_i ej;rw[if_neg ej]at h;simp[j.clean]at h
   ·rfl
 | .an y q,h=>by
   simp only[bo]at h⊢
   split
   ·rename_i e;rw[if_pos e]at h;simp[j.clean]at h
   ·rfl
 | .I y q,h=>rfl
 | .fn f cap,h=>by simp only[bo,j.clean]at h⊢;rw[zp cap h]
 | .hole,_=>rfl
 | .bool _,_=>rfl
 | .c1,_=>rfl
 | .int _ _,_=>rfl
 | .str _,_=>rfl
 | .ck,_=>rfl
 | .bG,_=>rfl
 | .slice _,_=>rfl
 | .aK _ _,_=>rfl
 | .ref _,_=>rfl
 | .bc _,_=>rfl
 | .agg _,_=>rfl
 | .tuple _,_=>rfl
 | .cr _,_=>rfl
theorem zp {x:Nat}:∀ds:List j,j.oQ (fv x ds)=true→fv x ds=ds
 |[],_=>rfl
 |d::ds,h=>by
  simp only[fv,j.oQ,Bool.and_eq_true]at h⊢
  rw[zo d h.1,zp ds h.2]
end
mutual
theorem zq {x:Nat}:∀a:j,(bK x a).clean=true→bK x a=a
 | .h y q,h=>by
   simp only[bK]at h⊢
   split
   ·rename_i e;rw[if_pos e]at h;simp[j.clean]at h
   ·rfl
 | .an y q,h=>by
   simp only[bK]at h⊢
   split
   ·rename_i e;rw[if_pos e]at h;simp[j.clean]at h
   ·rfl
 | .I y q,h=>by
   simp only[bK]at h⊢
   split
   ·rename_i e;rw[if_pos e]at h;simp[j.clean]at h
   ·rfl
 | .fn f cap,h=>by simp only[bK,j.clean]at h⊢;rw[zr cap h]
 | .hole,_=>rfl
 | .bool _,_=>rfl
 | .c1,_=>rfl
 | .int _ _,_=>rfl
 | .str _,_=>rfl
 | .ck,_=>rfl
 | .bG,_=>rfl
 | .slice _,_=>rfl
 | .aK _ _,_=>rfl
 | .ref _,_=>rfl
 | .bc _,_=>rfl
 | .agg _,_=>rfl
 | .tuple _,_=>rfl
 | .cr _,_=>rfl
theorem zr {x:Nat}:∀ds:List j,j.oQ (fM x ds)=true→fM x ds=ds
 |[],_=>rfl
 |d::ds,h=>by
  simp only[fM,j.oQ,Bool.and_eq_true]at h⊢
  rw[zq d h.1,zr ds h.2]
end
theorem FT {k:kX} {x:Nat} {a:j} (h:(k.app x a).clean=true):k.app x a=a:=by
 cases k with
 |no=>rfl
 |bo=>exact zo a h
 |bK=>exact zq a h
theorem FU:∀(ms:List en) (u:Nat) (a:j),(∀m∈ms,m.x≠u)→(gm ms u a).clean=true→gm ms u a=a:=by
 intro ms
 induction ms with
 |nil=>intros;rfl
 |cons m ms ih=>
  intro u a ao ae
  simp only[gm]at ae⊢
  have e:=ih u _ (fun e4 mI=>ao e4 (by simp[mI])) ae
  have hm:m.at u a=m.k.app m.x a:=by
   simp only[en.at];rw[if_neg (fun e=>ao m (by simp) e.symm)]
  rw[e,hm]
  rw[e,hm]at ae
  exact FT ae
theorem FV:∀(ms:List en) (u:Nat) (a:j),(∀m∈ms,m.x≠u∧m.x∉a.R)→gm ms u a=a:=by
 intro ms
 induction ms with
 |nil=>intros;rfl
 |cons m ms ih=>
  intro u a ao
  simp only[gm]
  have hm:m.at u a=a:=by
   simp only[en.at];rw[if_neg (fun e=>(ao m (by simp)).1 e.symm)]
   exact qK (.inr (ao m (by simp)).2)
  rw[hm]
  exact ih u a fun e4 mI=>ao e4 (by simp[mI])
theorem FW (m:en):∀(ms:List en) (u:Nat) (a:j),(∀e4∈ms,e4.x≠m.x∧e4.x∉m.d.R∧m.x∉e4.d.R)→gm ms u (m.at u a)=m.at u (gm ms u a):=by
 intro ms
 induction ms with
 |nil=>intros;rfl
 |cons n ms ih=>
  intro u a ao
  simp only[gm]
  have aV:=ao n (by simp)
  have ae:n.at u (m.at u a)=m.at u (n.at u a):=by
   simp only[en.at]
   by_cases aE:u=n.x
   ·subst aE
    rw[if_pos rfl,if_neg aV.1,if_pos rfl]
    exact(qK (.inr aV.2.2)).symm
   ·rw[if_neg aE]
    by_cases aL:u=m.x
    ·subst aL
     rw[if_pos rfl,if_pos rfl]
     exact qK (.inr aV.2.1)
    ·rw[if_neg aL,if_neg aE,if_neg aL]
     exact Ed _ _ _ _ _
  rw[ae]
  exact ih u _ fun e4 mI=>ao e4 (by simp[mI])
theorem FX:∀(ms g3:List en) (s:af),(∀m∈ms,∀n∈g3,n.x≠m.x∧n.x∉m.d.R∧m.x∉n.d.R)→b5 g3 (b5 ms s)=b5 ms (b5 g3 s):=by
 intro ms
 induction ms with
 |nil=>intros;rfl
 |cons m ms ih=>
  intro g3 s h
  have e:∀s,b5 (m::ms) s=b5 ms (b5 [m] s):=fun s=>hH [m] ms s
  rw[e,e,ih g3 _ (fun e4 mI=>h e4 (by simp[mI]))]
  congr 1
  funext u
  simp only[b5,gm]
  exact FW m g3 u _ (h m (by simp))
def vC (C:bq) (s:af) (f:au) (args:List au) (K:List Nat→j→af→Prop):Prop:=
 ∃(g:FuncId) (caps:List j) (ps:List bH) (r:j),ax s f= .fn g caps∧j.dA caps=true∧ps.map (·.a)=args.map (ax s)++caps∧(∀p∈ps,p.ok s)∧fG ps=true∧
   cb C g (ps.map (·.d)) r (ps.map (·.o))∧r.res=true∧(g4 ps=true→r.c5=true∧∀p∈ps,p.o.c5=true)∧K (j.cI ((ps.filter (·.g)).map (·.a))) r (fB (dk s ps) ps)
def ki (C:bq) (s:af) (a7:dE) (K:List Nat→j→af→Prop):Prop:=
 match a7 with
 | .call f args=>∃(g:FuncId) (caps:List j) (ps:List bH) (r:j),ax s f= .fn g caps∧j.dA caps=true∧ps.map (·.a)=args.map (ax s)++caps∧(∀p∈ps,p.ok s)∧fG ps=true∧
   cb C g (ps.map (·.d)) r (ps.map (·.o))∧r.res=true∧(g4 ps=true→r.c5=true∧∀p∈ps,p.o.c5=true)∧K (j.cI ((ps.filter (·.g)).map (·.a))) r (fB (dk s ps) ps)
 | .shr a7=>∃av s1,aX C s a7=some (av,s1)∧av.tree=true∧(∀vs,av≠.tuple vs)∧K (b3 s a7) av.share s1
 | .iL f args u x=>s u= .h x []∧(s x).own=true∧vC C s f args fun bL av s1=>s1 u= .hole∧(s1 x).own=true∧K (u::bL) av (bZ s1 u (.h x []))
 | .iM f args us=>k4 s (ib s us)=true∧vC C s f args fun bL av s1=>k4 s1 (ib s us)=true∧K (us++bL) av (lM s1 (ib s us))
 |a7=>∃av s1,aX C s a7=some (av,s1)∧K (b3 s a7) av s1
def fI (s:af) (a6:List Nat) (dst:Option Nat) (bL:List Nat) (av:j):dm:=
 ⟨a6,a6.flatMap (fun u=>(s u).R)++av.R,dst.toList++bL,a6.all fun u=>(s u).clean⟩
def jI (C:bq) (s:af) (o:bm) (K:dm→af→Prop):Prop:=
 match o.guard with
 |none=>ki C s o.a7 fun bL av s1=>K (fI s (use s o.a7) o.dst bL av) (fin s1 o.dst av)
 |some (t,b)=>match s t with
  | .bool dp=>if dp=b then ki C s o.a7 (fun bL av s1=>K (fI s (t::use s o.a7) o.dst bL av) (fin s1 o.dst av))else K (fI s [t] o.dst [] (.tuple [])) (fin s o.dst (.tuple []))
  | .tuple []=>K (fI s [t] o.dst [] (.tuple [])) (fin s o.dst (.tuple []))
  |_=>False
def lR:Option (List dm)→dm→Option (List dm)
 |none,_=>none
 |some l,f=>some (f::l)
def bF (C:bq) (s:af):List bm→Option (List dm)→(Option (List dm)→af→Prop)→Prop
 |[],acc,K=>K acc s
 |o::os,acc,K=>jI C s o fun f s1=>bF C s1 os (lR acc f) K
section
variable {C:bq}
theorem zs {s:af} {a7:dE} {K:List Nat→j→af→Prop} {b4:j→af→Prop} (ai:∀bL av s,K bL av s→b4 av s) (h:ki C s a7 K):jD C s a7 b4:=by
 cases a7 with
 |call f args=>
  obtain⟨g,caps,ps,r,U,ef,aa,aw,aN,a2,bJ,bO,dg⟩:=h
  exact⟨g,caps,ps,r,U,ef,aa,aw,aN,a2,bJ,bO,ai _ _ _ dg⟩
 |iL f args u x=>
  obtain⟨bn,bp,g,caps,ps,r,U,ef,aa,aw,aN,a2,bJ,bO,dg,eR,eI⟩:=h
  exact⟨bn,bp,g,caps,ps,r,U,ef,aa,aw,aN,a2,bJ,bO,dg,eR,ai _ _ _ eI⟩
 |iM f args us=>
  obtain⟨bp,g,caps,ps,r,U,ef,aa,aw,aN,a2,bJ,bO,dg,eR⟩:=h
  exact⟨bp,g,caps,ps,r,U,ef,aa,aw,aN,a2,bJ,bO,dg,ai _ _ _ eR⟩
 |shr a7=>
  obtain⟨av,s1,U,aa,aw,aN⟩:=h
  exact⟨av,s1,U,aa,aw,ai _ _ _ aN⟩
 |_=>
  obtain⟨av,s1,U,aa⟩:=h
  exact⟨av,s1,U,ai _ _ _ aa⟩
theorem FY {s:af} {o:bm} {K:dm→af→Prop} {b4:af→Prop} (ai:∀f s,K f s→b4 s) (h:jI C s o K):hI C s o b4:=by
 unfold jI at h
 unfold hI
 split
 ·rename_i aZ;rw[aZ]at h;exact zs (fun _ _ _=>ai _ _) h
 ·rename_i t b aZ
  rw[aZ]at h
  simp only at h
  split
  ·rename_i dp R
   rw[R]at h
   simp only at h
   split
   ·rename_i I;rw[if_pos I]at h;exact zs (fun _ _ _=>ai _ _) h
   ·rename_i I;rw[if_neg I]at h;exact ai _ _ h
  ·rename_i R;rw[R]at h;exact ai _ _ h
  ·rename_i U aa
   split at h
   ·exact U _ (by assumption)
   ·exact aa (by assumption)
   ·exact h
theorem sG {K:af→Prop}:∀{ros:List bm} {s:af} {acc:Option (List dm)} {b4:Option (List dm)→af→Prop},(∀a s,b4 a s→K s)→bF C s ros acc b4→hr C s ros K:=by
 intro ros
 induction ros with
 |nil=>intro s acc b4 ai h;exact ai _ _ h
 |cons o ros ih=>intro s acc b4 ai h;exact FY (fun f s h=>ih ai h) h
theorem zt {q:List Nat} {a d:j} (h:j.sub q a=some d) (bN:q≠[]∨d.R=[]):a.R=[]:=by
 cases q with
 |nil=>
  simp only[j.sub,Option.some.injEq]at h;subst h
  exact bN.resolve_left (fun e=>e rfl)
 |cons k q=>cases a<;>first|rfl|(simp[j.sub]at h)
def sH (s:af) (p:bH) (e:j→Prop):Prop:=p.g=true→∃x q d,p.a= .h x q∧j.sub q (s x)=some d∧e d∧(p.o= .hole∨p.o.dS=true)
theorem zu {d:j} (h:d.dS=true):d.R=[]:=yO (mA h).2.1
theorem zv {d:j} (h:d.dS=true):d.bT.R=[]:=by cases d<;>first|rfl|(simp[j.dS]at h)
theorem zw {p:bH} {ps:List bH} (h:fG (p::ps)=true):fG ps=true∧∀bD∈ps,(p.g=true∨bD.g=true)→∀u∈p.a.R,u∉bD.a.R:=by
 simp only[fG,Bool.and_eq_true,List.all_eq_true,Bool.or_eq_true,Bool.not_eq_true']at h
 refine⟨h.2,fun bD cS aZ u hu=> ?_⟩
 rcases h.1 bD cS with e|e
 ·rcases aZ with aZ|aZ<;>simp[aZ]at e
 ·simpa using e u hu
def mJ (ps:List bH):List Nat:=j.cI ((ps.filter (·.g)).map (·.a))
theorem oR (p:bH) (ps:List bH):(∀u∈mJ ps,u∈mJ (p::ps))∧(p.g=true→∀u∈p.a.R,u∈mJ (p::ps)):=by
 unfold mJ
 by_cases aZ:p.g=true
 ·simp only[List.filter_cons,aZ,if_true,List.map_cons,j.cI,List.mem_append]
  exact⟨fun u h=>.inr h,fun _ u h=>.inl h⟩
 ·simp only[List.filter_cons,aZ]
  exact⟨fun u h=>h,fun h=>by simp at h⟩
theorem FZ {p:bH} {ps:List bH} (h:p∈ps):∀u∈p.a.R,u∈j.cI (ps.map (·.a)):=by
 induction ps with
 |nil=>cases h
 |cons bD ps ih=>
  intro u hu
  simp only[List.map_cons,j.cI,List.mem_append]
  rcases List.mem_cons.1 h with rfl|h
  ·exact .inl hu
  ·exact .inr (ih h u hu)
theorem F1:∀(ps:List bH) (s:af),(∀p∈ps,sH s p (fun d=>d=p.d∧p.d.dS=true))→fG ps=true→
  (∃ms:List en,(∀m∈ms,m.x∈mJ ps∧m.d.R=[])∧∀aj,ca (j.cI (ps.map (·.a))) aj s→dk aj ps=b5 ms aj)∧∀p∈ps,sH (dk s ps) p (fun d=>d=p.d.bT∧p.d.dS=true):=by
 intro ps
 induction ps with
 |nil=>intro s _ _;exact⟨⟨[],by simp,fun aj _=>rfl⟩,fun p an=>by cases an⟩
 |cons p ps ih=>
  intro s aZ g2
  obtain⟨ka,jB⟩:=zw g2
  by_cases ig:p.g=true
  ·obtain⟨x,q,d,bU,R,⟨rfl,ab⟩,bs⟩:=aZ p (by simp) ig
   have gB:(j.put q p.d.bT (s x)).R=[]:=oD q _ _ _ R (.inl (mA ab).1) fun _=>zv ab
   have q2:∀aj:af,aj x=s x→p.take aj=b5 [⟨.bo,x,j.put q p.d.bT (s x)⟩] aj:=by
    intro aj e
    simp only[bH.take,ig,if_true,bU,e,nF]
   have cg:∀bD∈ps,∀b1 fV,bD.a= .h b1 fV→b1≠x:=by
    intro bD cS b1 fV e ej
    have:=jB bD cS (.inl ig) x (by simp[bU,j.R])
    rw[e,ej]at this;simp[j.R]at this
   have mB:∀b1,b1≠x→(s b1).R=[]→b5 [⟨.bo,x,j.put q p.d.bT (s x)⟩] s b1=s b1:=by
    intro b1 oq bI
    simp only[b5,gm,en.at]
    rw[if_neg oq]
    exact qK (.inr (by rw[bI];simp))
   obtain⟨⟨ms,ey,fi⟩,fW⟩:=ih (b5 [⟨.bo,x,j.put q p.d.bT (s x)⟩] s) (fun bD cS vD=>by
    obtain⟨b1,fV,aT,nI,ez,eA,q3⟩:=aZ bD (by simp[cS]) vD
    refine⟨b1,fV,aT,nI,?_,eA,q3⟩
    rw[mB b1 (cg bD cS b1 fV nI) (zt ez (.inr (by rw[eA.1];exact zu eA.2)))];exact ez) ka
   refine⟨⟨[⟨.bo,x,j.put q p.d.bT (s x)⟩]++ms,?_,?_⟩,?_⟩
   ·intro m hm
    rcases List.mem_append.1 hm with hm|hm
    ·simp only[List.mem_singleton]at hm;subst hm
     exact⟨(oR p ps).2 ig x (by simp[bU,j.R]),gB⟩
    ·exact⟨(oR p ps).1 _ (ey m hm).1,(ey m hm).2⟩
   ·intro aj ez
    simp only[List.map_cons,j.cI]at ez
    have e:aj x=s x:=ez x (by simp[bU,j.R])
    rw[hH]
    show dk (p.take aj) ps=_
    rw[q2 aj e]
    exact fi _ (ca.b5 ez.right _)
   ·have aE:dk s (p::ps)=dk (b5 [⟨.bo,x,j.put q p.d.bT (s x)⟩] s) ps:=by
     show dk (p.take s) ps=_
     rw[q2 s rfl]
    rw[aE]
    intro bD cS
    rcases List.mem_cons.1 cS with rfl|cS
    ·intro _
     refine⟨x,q,bD.d.bT,bU,?_,⟨rfl,ab⟩,bs⟩
     have aC:b5 [⟨.bo,x,j.put q bD.d.bT (s x)⟩] s x=j.put q bD.d.bT (s x):=by
      simp only[b5,gm,en.at,if_true]
     rw[u6 (by rw[aC];exact gB) (fun F2 F3 PR=> ?_),aC]
     ·exact yL q _ _ _ R
     ·exact jB F2 F3 (.inl ig) x (by simp[bU,j.R])
    ·exact fW bD cS
  ·have q2:∀aj:af,p.take aj=aj:=by intro aj;simp only[bH.take,ig];rfl
   obtain⟨⟨ms,ey,fi⟩,fW⟩:=ih s (fun bD cS=>aZ bD (by simp[cS])) ka
   refine⟨⟨ms,fun m hm=>⟨(oR p ps).1 _ (ey m hm).1,(ey m hm).2⟩,?_⟩,?_⟩
   ·intro aj ez
    simp only[List.map_cons,j.cI]at ez
    show dk (p.take aj) ps=_
    rw[q2];exact fi aj ez.right
   ·intro bD cS
    have aE:dk s (p::ps)=dk s ps:=by show dk (p.take s) ps=_;rw[q2]
    rw[aE]
    rcases List.mem_cons.1 cS with rfl|cS
    ·intro h;exact(ig h).elim
    ·exact fW bD cS
theorem F4:∀(ps:List bH) (s:af),(∀p∈ps,sH s p (fun d=>d=p.d.bT∧p.d.dS=true))→fG ps=true→
  (∃ms:List en,(∀m∈ms,m.x∈mJ ps∧m.d.R=[])∧∀aj,ca (j.cI (ps.map (·.a))) aj s→fB aj ps=b5 ms aj):=by
 intro ps
 induction ps with
 |nil=>intro s _ _;exact⟨[],by simp,fun aj _=>rfl⟩
 |cons p ps ih=>
  intro s aZ g2
  obtain⟨ka,jB⟩:=zw g2
  by_cases ig:p.g=true∧p.o≠.hole
  ·obtain⟨ig,F5⟩:=ig
   obtain⟨x,q,d,bU,R,⟨rfl,ab⟩,bs⟩:=aZ p (by simp) ig
   have bs:p.o.dS=true:=bs.resolve_left F5
   have gB:(j.put q p.o (s x)).R=[]:=by
    cases q with
    |nil=>simp only[j.put];exact zu bs
    |cons k q=>exact oD _ _ _ _ R (.inr (by simp)) (by simp)
   have vE:∀aj:af,aj x=s x→p.fA aj=b5 [⟨.bK,x,j.put q p.o (s x)⟩] aj:=by
    intro aj e
    simp only[bH.fA,ig,if_true,bU]
    rw[e,yu]
   have cg:∀bD∈ps,∀b1 fV,bD.a= .h b1 fV→b1≠x:=by
    intro bD cS b1 fV e ej
    have:=jB bD cS (.inl ig) x (by simp[bU,j.R])
    rw[e,ej]at this;simp[j.R]at this
   obtain⟨ms,ey,fi⟩:=ih (b5 [⟨.bK,x,j.put q p.o (s x)⟩] s) (fun bD cS vD=>by
    obtain⟨b1,fV,aT,nI,ez,eA,q3⟩:=aZ bD (by simp[cS]) vD
    refine⟨b1,fV,aT,nI,?_,eA,q3⟩
    have bI:=zt ez (.inr (by rw[eA.1];exact zv eA.2))
    have mB:b5 [⟨.bK,x,j.put q p.o (s x)⟩] s b1=s b1:=by
     simp only[b5,gm,en.at]
     rw[if_neg (cg bD cS b1 fV nI)]
     exact qK (.inr (by rw[bI];simp))
    rw[mB];exact ez) ka
   refine⟨[⟨.bK,x,j.put q p.o (s x)⟩]++ms,?_,?_⟩
   ·intro m hm
    rcases List.mem_append.1 hm with hm|hm
    ·simp only[List.mem_singleton]at hm;subst hm
     exact⟨(oR p ps).2 ig x (by simp[bU,j.R]),gB⟩
    ·exact⟨(oR p ps).1 _ (ey m hm).1,(ey m hm).2⟩
   ·intro aj ez
    simp only[List.map_cons,j.cI]at ez
    have e:aj x=s x:=ez x (by simp[bU,j.R])
    rw[hH]
    show fB (p.fA aj) ps=_
    rw[vE aj e]
    exact fi _ (ca.b5 ez.right _)
  ·have vE:∀aj:af,p.fA aj=aj:=by
    intro aj
    unfold bH.fA
    split
    ·rename_i eV
     have:p.o= .hole:=by
      by_cases h:p.o= .hole
      ·exact h
      ·exact(ig ⟨eV,h⟩).elim
     rw[this]
    ·rfl
   obtain⟨ms,ey,fi⟩:=ih s (fun bD cS=>aZ bD (by simp[cS])) ka
   refine⟨ms,fun m hm=>⟨(oR p ps).1 _ (ey m hm).1,(ey m hm).2⟩,?_⟩
   intro aj ez
   simp only[List.map_cons,j.cI]at ez
   show fB (p.fA aj) ps=_
   rw[vE];exact fi aj ez.right
theorem F6 {s aj:af}:∀(a:j) (d:j),ca a.R aj s→view s a=some d→view aj a=some d:=by
 intro a d h
 have:=u_ (s:=s) (aj:=aj) a d
 intro aC
 cases a with
 |h x q=>simp only[view]at aC⊢;rw[h x (by simp[j.R])];exact aC
 |an x q=>simp only[view]at aC⊢;rw[h x (by simp[j.R])];exact aC
 |fn f cap=>
  refine this (fun u hu _=>h u hu) aC
 |_=>exact aC
theorem F7 {p:bH} {s aj:af} (h:ca p.a.R aj s) (eo:p.ok s):p.ok aj:=by
 unfold bH.ok at eo⊢
 split
 ·rename_i aZ
  rw[if_pos aZ]at eo
  cases bU:p.a with
  |h x q=>
   rw[bU]at eo
   simp only at eo⊢
   rw[h x (by simp[bU,j.R])];exact eo
  |_=>rw[bU]at eo;exact eo.elim
 ·rename_i aZ
  rw[if_neg aZ]at eo
  exact F6 _ _ h eo
def sI (C:bq) (o:bm) (s:af) (gU:dm) (ms:List en):Prop:=
 (∀aj,ca gU.a6 aj s→∀K:af→Prop,K (b5 ms aj)→hI C aj o K)∧(∀m∈ms,m.x∈gU.T∧∀u∈m.d.R,u∈gU.H)∧(∀u∈gU.a6,∀x∈(s u).R,x∈gU.H)∧(gU.c=true→∀u∈gU.a6,(s u).clean=true)
theorem zx (dst:Option Nat) (av:j):∃ms:List en,(∀m∈ms,m.x∈dst.toList∧m.d=av)∧∀s1:af,fin s1 dst av=b5 ms s1:=by
 cases dst with
 |none=>exact⟨[],by simp,fun s=>rfl⟩
 |some t=>
  simp only[fin]
  by_cases h:av.plain=true
  ·exact⟨[⟨.no,t,av⟩],by simp,fun s=>by rw[if_pos h,uT]⟩
  ·exact⟨[⟨.bK,t,av⟩],by simp,fun s=>by rw[if_neg h,yu]⟩
theorem sJ {s:af} {a6:List Nat} {dst:Option Nat} {bL:List Nat} {av:j}:(∀u∈(fI s a6 dst bL av).a6,∀x∈(s u).R,x∈(fI s a6 dst bL av).H)∧((fI s a6 dst bL av).c=true→∀u∈(fI s a6 dst bL av).a6,(s u).clean=true):=by
 refine⟨fun u hu x ao=> ?_,fun ae=> ?_⟩
 ·simp only[fI,List.mem_append,List.mem_flatMap];exact .inl ⟨u,hu,ao⟩
 ·simp only[fI,List.all_eq_true]at ae;exact ae
theorem vF {s:af} {f:au} {args:List au} {K:List Nat→j→af→Prop} (h:vC C s f args K):
  ∃bL av ms,K bL av (b5 ms s)∧(∀m∈ms,m.x∈bL∧m.d.R=[])∧∀aj,ca (use s (.call f args)) aj s→∀b4:j→af→Prop,b4 av (b5 ms aj)→sx C aj f args b4:=by
 obtain⟨g,caps,ps,r,U,ef,aa,aw,aN,a2,bJ,bO,dg⟩:=h
 have q4:∀p∈ps,sH s p (fun d=>d=p.d∧p.d.dS=true):=by
  intro p an aZ
  have:=aw p an
  simp only[bH.ok,aZ,if_true]at this
  cases bU:p.a with
  |h x q=>rw[bU]at this;exact⟨x,q,p.d,rfl,this.1,⟨rfl,this.2.1⟩,this.2.2.imp id fun h=>h.1⟩
  |_=>rw[bU]at this;exact this.elim
 obtain⟨⟨j_,aF,cj⟩,a3⟩:=F1 ps s q4 aN
 obtain⟨mx,h4,fP⟩:=F4 ps (dk s ps) a3 aN
 have kQ:∀u∈j.cI (ps.map (·.a)),u∈use s (.call f args):=by
  rw[aa]
  intro u hu
  simp only[use,List.mem_append]
  have key:∀(et l2:List j),u∈j.cI (et++l2)→u∈j.cI et∨u∈j.cI l2:=by
   intro et
   induction et with
   |nil=>intro l2 h;exact .inr h
   |cons a et ih=>
    intro l2 h
    simp only[List.cons_append,j.cI,List.mem_append]at h⊢
    rcases h with h|h
    ·exact .inl (.inl h)
    ·exact(ih l2 h).imp .inr id
  rcases key _ _ hu with hu|hu
  ·exact .inr (au.ss u hu)
  ·refine .inl (au.nG u ?_)
   rw[U];exact hu
 have eD:fB (dk s ps) ps=b5 (j_++mx) s:=by
  rw[hH,←cj s (fun _ _=>rfl),fP _ (fun _ _=>rfl)]
 refine⟨mJ ps,r,j_++mx,by rw[←eD];exact dg,?_,?_⟩
 ·intro m hm
  rcases List.mem_append.1 hm with hm|hm
  ·exact aF m hm
  ·exact h4 m hm
 ·intro aj R b4 ai
  have nH:ca (j.cI (ps.map (·.a))) aj s:=R.sub kQ
  have bk:ca (f.use s) aj s:=by simp only[use]at R;exact R.left
  have ao:ca (au.jA s args) aj s:=by simp only[use]at R;exact R.right
  have aE:fB (dk aj ps) ps=b5 (j_++mx) aj:=by
   rw[hH,←cj aj nH,fP]
   rw[cj aj nH,cj s (fun _ _=>rfl)]
   exact ca.b5 nH _
  exact⟨g,caps,ps,r,by rw[au.de bk];exact U,ef,by rw[au.uX ao];exact aa,fun p an=>F7 (nH.sub (FZ an)) (aw p an),aN,a2,bJ,bO,by rw[aE];exact ai⟩
mutual
theorem zy {s aj:af}:∀(d:j),ca d.R aj s→d.eO aj=d.eO s
 | .h x q,h=>by simp only[j.eO];rw[h x (by simp[j.R])]
 | .I x q,h=>by simp only[j.eO];rw[h x (by simp[j.R])]
 | .fn f cap,h=>by simp only[j.eO];exact zz cap (by simpa only[j.R]using h)
 | .an _ _,_=>by simp only[j.eO]
 | .hole,_=>by simp only[j.eO]
 | .bool _,_=>by simp only[j.eO]
 | .c1,_=>by simp only[j.eO]
 | .int _ _,_=>by simp only[j.eO]
 | .str _,_=>by simp only[j.eO]
 | .ck,_=>by simp only[j.eO]
 | .bG,_=>by simp only[j.eO]
 | .slice _,_=>by simp only[j.eO]
 | .aK _ _,_=>by simp only[j.eO]
 | .ref _,_=>by simp only[j.eO]
 | .bc _,_=>by simp only[j.eO]
 | .agg _,_=>by simp only[j.eO]
 | .tuple _,_=>by simp only[j.eO]
 | .cr _,_=>by simp only[j.eO]
theorem zz {s aj:af}:∀(ds:List j),ca (j.cI ds) aj s→j.mE aj ds=j.mE s ds
 |[],_=>rfl
 |d::ds,h=>by
  simp only[j.cI]at h
  simp only[j.mE];rw[zy d h.left,zz ds h.right]
end
theorem vG {s aj:af} {us:List Nat} (h:ca (us.flatMap fun u=>u::(s u).R) aj s):ib aj us=ib s us:=by
 unfold ib
 refine List.map_congr_left fun u hu=> ?_
 rw[h u (List.mem_flatMap.2 ⟨u,hu,by simp⟩)]
theorem vH {s aj:af}:∀(L:List (Nat×j)),(∀p∈L,ca p.2.R aj s)→k4 aj L=k4 s L
 |[],_=>rfl
 |p::L,h=>by
  simp only[k4];rw[zy p.2 (h p (by simp)),vH L (fun q bN=>h q (by simp[bN]))]
theorem zA:∀(L:List (Nat×j)) (s:af),lM s L=b5 (L.map fun p=>⟨.no,p.1,p.2⟩) s
 |[],s=>rfl
 |p::L,s=>by
  simp only[lM,List.map_cons]
  rw[zA L,uT]
  exact(hH [⟨.no,p.1,p.2⟩] _ s).symm
theorem F8 {s:af} {a7:dE} {K:List Nat→j→af→Prop} (h:ki C s a7 K):
  ∃bL av ms,K bL av (b5 ms s)∧(∀m∈ms,m.x∈bL∧∀v∈m.d.R,∃u∈use s a7,v∈(s u).R)∧∀aj,ca (use s a7) aj s→∀b4:j→af→Prop,b4 av (b5 ms aj)→jD C aj a7 b4:=by
 have plain:(∃av s1,aX C s a7=some (av,s1)∧K (b3 s a7) av s1)→(∀aj (b4:j→af→Prop) av s1,aX C aj a7=some (av,s1)→b4 av s1→jD C aj a7 b4)→
   ∃bL av ms,K bL av (b5 ms s)∧(∀m∈ms,m.x∈bL∧∀v∈m.d.R,∃u∈use s a7,v∈(s u).R)∧∀aj,ca (use s a7) aj s→∀b4:j→af→Prop,b4 av (b5 ms aj)→jD C aj a7 b4:=by
  rintro⟨av,s1,U,aa⟩ hw
  obtain⟨ms,aE,aL,bb⟩:=yJ U
  subst aE
  exact⟨_,av,ms,aa,fun m hm=>⟨(aL m hm).1,fun v aC=>by rw[(aL m hm).2]at aC;cases aC⟩,fun aj R b4 ai=>hw aj b4 av _ (bb aj R) ai⟩
 cases a7 with
 |call f args=>
  obtain⟨bL,av,ms,aF,cj,a3⟩:=vF h
  exact⟨bL,av,ms,aF,fun m hm=>⟨(cj m hm).1,fun v aC=>by rw[(cj m hm).2]at aC;cases aC⟩,fun aj R b4 ai=>a3 aj R b4 ai⟩
 |iL f args u x=>
  obtain⟨bn,bp,ae⟩:=h
  obtain⟨bL,av,ms,⟨aF,vI,F9⟩,cj,a3⟩:=vF ae
  have e:∀s:af,bZ (b5 ms s) u (.h x [])=b5 (ms++[⟨.no,u,.h x []⟩]) s:=fun s=>by rw[hH,←uT]
  refine⟨u::bL,av,ms++[⟨.no,u,.h x []⟩],by rw[←e];exact F9,?_,?_⟩
  ·intro m hm
   rcases List.mem_append.1 hm with hm|hm
   ·exact⟨by simp[(cj m hm).1],fun v aC=>by rw[(cj m hm).2]at aC;cases aC⟩
   ·simp only[List.mem_singleton]at hm;subst hm
    refine⟨by simp,fun v aC=>⟨u,by simp[use],?_⟩⟩
    rw[bn];exact aC
  ·intro aj R b4 ai
   have zB:aj u=s u:=R u (by simp[use])
   have ex:aj x=s x:=R x (by simp[use])
   refine⟨by rw[zB];exact bn,by rw[ex];exact bp,a3 aj (fun y aW=>R y (by simp only[use,List.mem_cons]at aW⊢;exact .inr (.inr aW))) _ ⟨?_,?_,?_⟩⟩
   ·have:=aF;simp only[b5]at this⊢;rw[zB];exact this
   ·have:=vI;simp only[b5]at this⊢;rw[ex];exact this
   ·rw[e];exact ai
 |iM f args us=>
  obtain⟨bp,ae⟩:=h
  obtain⟨bL,av,ms,⟨aF,vI⟩,cj,a3⟩:=vF ae
  have e:∀aj:af,lM (b5 ms aj) (ib s us)=b5 (ms++(ib s us).map fun p=>⟨.no,p.1,p.2⟩) aj:=fun aj=>by rw[hH,zA]
  have iB:∀{aj:af},ca (us.flatMap fun u=>u::(s u).R) aj s→∀p∈ib s us,ca p.2.R aj s:=fun {aj} R p an v aC=>by
   obtain⟨u,hu,rfl⟩:=List.mem_map.1 an
   exact R v (List.mem_flatMap.2 ⟨u,hu,by simp[aC]⟩)
  refine⟨us++bL,av,ms++(ib s us).map fun p=>⟨.no,p.1,p.2⟩,by rw[←e];exact vI,?_,?_⟩
  ·intro m hm
   rcases List.mem_append.1 hm with hm|hm
   ·exact⟨by simp[(cj m hm).1],fun v aC=>by rw[(cj m hm).2]at aC;cases aC⟩
   ·obtain⟨p,an,rfl⟩:=List.mem_map.1 hm
    obtain⟨u,hu,rfl⟩:=List.mem_map.1 an
    exact⟨List.mem_append_left _ hu,fun v aC=>⟨u,by simp only[use,List.mem_append,List.mem_flatMap];exact .inl ⟨u,hu,by simp⟩,aC⟩⟩
  ·intro aj R b4 ai
   simp only[use]at R
   refine⟨by rw[vG R.left,vH _ (iB R.left)];exact bp,a3 aj R.right _ ⟨?_,?_⟩⟩
   ·rw[vG R.left,vH _ (fun p an=>(iB R.left p an).b5 ms)];exact aF
   ·rw[vG R.left,e];exact ai
 |shr a7=>
  obtain⟨av,s1,U,aa,aw,aN⟩:=h
  obtain⟨ms,aE,aL,bb⟩:=yJ U
  subst aE
  exact⟨_,av.share,ms,aN,fun m hm=>⟨(aL m hm).1,fun v aC=>by rw[(aL m hm).2]at aC;cases aC⟩,fun aj R b4 ai=>⟨av,_,bb aj R,aa,aw,ai⟩⟩
 |_=>exact plain h (fun aj b4 av s1 U aa=>⟨av,s1,U,aa⟩)
theorem F_ {s:af} {o:bm} {K:dm→af→Prop} (h:jI C s o K):∃gU ms,K gU (b5 ms s)∧sI C o s gU ms:=by
 have op:∀(a6:List Nat),(∀u∈use s o.a7,u∈a6)→(∀aj,ca a6 aj s→∀b4:af→Prop,jD C aj o.a7 (fun av s1=>b4 (fin s1 o.dst av))→hI C aj o b4)→
   ki C s o.a7 (fun bL av s1=>K (fI s a6 o.dst bL av) (fin s1 o.dst av))→∃gU ms,K gU (b5 ms s)∧sI C o s gU ms:=by
  intro a6 kQ h0 hw
  obtain⟨bL,av,ms,U,aa,aw⟩:=F8 hw
  obtain⟨g3,jJ,eX⟩:=zx o.dst av
  refine⟨fI s a6 o.dst bL av,ms++g3,?_,?_,?_,sJ.1,sJ.2⟩
  ·rw[hH,←eX];exact U
  ·intro aj R b4 ai
   refine h0 aj R b4 (aw aj (R.sub kQ) _ ?_)
   rw[eX,←hH];exact ai
  ·intro m hm
   simp only[fI,List.mem_append]
   rcases List.mem_append.1 hm with hm|hm
   ·refine⟨.inr (aa m hm).1,fun v aC=>.inl ?_⟩
    obtain⟨u,hu,h1⟩:=(aa m hm).2 v aC
    exact List.mem_flatMap.2 ⟨u,kQ u hu,h1⟩
   ·exact⟨.inl (jJ m hm).1,fun u hu=>.inr (by rw[(jJ m hm).2]at hu;exact hu)⟩
 have skip:∀t,(∀aj,ca [t] aj s→∀b4:af→Prop,b4 (fin aj o.dst (.tuple []))→hI C aj o b4)→K (fI s [t] o.dst [] (.tuple [])) (fin s o.dst (.tuple []))→∃gU ms,K gU (b5 ms s)∧sI C o s gU ms:=by
  intro t h0 ai
  obtain⟨g3,jJ,eX⟩:=zx o.dst (.tuple [])
  refine⟨_,g3,by rw[←eX];exact ai,?_,?_,sJ.1,sJ.2⟩
  ·intro aj R b4 hG
   exact h0 aj R b4 (by rw[eX];exact hG)
  ·intro m hm
   simp only[fI,List.mem_append]
   exact⟨.inl (jJ m hm).1,fun u hu=>by rw[(jJ m hm).2]at hu;simp[j.R]at hu⟩
 unfold jI at h
 split at h
 ·rename_i aZ
  exact op _ (fun _ h=>h) (fun aj _ b4 hw=>by unfold hI;rw[aZ];exact hw) h
 ·rename_i t b aZ
  split at h
  ·rename_i dp I
   split at h
   ·rename_i e
    refine op (t::use s o.a7) (fun u hu=>by simp[hu]) (fun aj R b4 hw=> ?_) h
    have:aj t=s t:=R t (by simp)
    unfold hI
    rw[aZ]
    simp only[this,I,if_pos e]
    exact hw
   ·rename_i e
    refine skip t (fun aj R b4 ai=> ?_) h
    have:aj t=s t:=R t (by simp)
    unfold hI
    rw[aZ]
    simp only[this,I,if_neg e]
    exact ai
  ·rename_i I
   refine skip t (fun aj R b4 ai=> ?_) h
   have:aj t=s t:=R t (by simp)
   unfold hI
   rw[aZ]
   simp only[this,I]
   exact ai
  ·exact h.elim
def mK (C:bq) (ros:List bm):af→List (Nat×dm×List en)→Prop
 |_,[]=>True
 |s,e::r=>(∃o,ros[e.1]? =some o∧sI C o s e.2.1 e.2.2)∧mK C ros (b5 e.2.2 s) r
def kj (s:af) (r:List (Nat×dm×List en)):af:=r.foldl (fun s e=>b5 e.2.2 s) s
def ju (a b:List Nat):Bool:=a.all fun x=> !b.contains x
theorem oS {a b:List Nat} (h:ju a b=true):∀x∈a,x∉b:=by
 intro x ao
 simp only[ju,List.all_eq_true]at h
 simpa using h x ao
def nP (a b:dm):Bool:=ju b.T a.a6&&ju b.T a.H&&ju b.T a.T&&ju a.T b.a6&&ju a.T b.H&&b.c
theorem Ga {ros:List bm} {s:af} {a b:Nat×dm×List en} {r:List (Nat×dm×List en)} (h:mK C ros s (a::b::r)) (az:nP a.2.1 b.2.1=true):
  mK C ros s (b::a::r)∧kj s (b::a::r)=kj s (a::b::r):=by
 obtain⟨⟨Gb,bU,aF,cj,a3,a4⟩,⟨cr,I,h4,fP,kR,dL⟩,aA⟩:=h
 simp only[nP,Bool.and_eq_true]at az
 obtain⟨⟨⟨⟨⟨mg,jW⟩,i3⟩,tM⟩,p6⟩,tO⟩:=az
 have vJ:∀u∈b.2.1.a6,b5 a.2.2 s u=s u:=by
  intro u hu
  refine FU _ _ _ (fun m hm e=> ?_) (dL tO u hu)
  exact oS tM m.x (cj m hm).1 (e▸hu)
 have vK:∀u∈a.2.1.a6,b5 b.2.2 s u=s u:=by
  intro u hu
  refine FV _ _ _ fun m hm=>⟨fun e=> ?_,fun ao=> ?_⟩
  ·exact oS mg m.x (fP m hm).1 (e▸hu)
  ·exact oS jW m.x (fP m hm).1 (a3 u hu _ ao)
 have zC:b5 b.2.2 (b5 a.2.2 s)=b5 a.2.2 (b5 b.2.2 s):=by
  refine FX _ _ _ fun m hm n aV=>⟨fun e=> ?_,fun h=> ?_,fun h=> ?_⟩
  ·exact oS i3 n.x (fP n aV).1 (e▸(cj m hm).1)
  ·exact oS jW n.x (fP n aV).1 ((cj m hm).2 _ h)
  ·exact oS p6 m.x (cj m hm).1 ((fP n aV).2 _ h)
 refine⟨⟨⟨cr,I,?_,fP,?_,?_⟩,⟨Gb,bU,?_,cj,?_,?_⟩,?_⟩,?_⟩
 ·intro aj R K ai
  exact h4 aj (fun u hu=>(R u hu).trans (vJ u hu).symm) K ai
 ·intro u hu x ao
  exact kR u hu x (by rw[vJ u hu];exact ao)
 ·intro ae u hu
  have:=dL ae u hu
  rwa [vJ u hu]at this
 ·intro aj R K ai
  exact aF aj (fun u hu=>(R u hu).trans (vK u hu)) K ai
 ·intro u hu x ao
  rw[vK u hu]at ao
  exact a3 u hu x ao
 ·intro ae u hu
  rw[vK u hu]
  exact a4 ae u hu
 ·rw[←zC];exact aA
 ·simp only[kj,List.foldl_cons]
  rw[zC]
theorem Gc {ros:List bm} {e:Nat×dm×List en} {post:List (Nat×dm×List en)}:∀(pre:List (Nat×dm×List en)) (s:af),mK C ros s (pre++e::post)→(∀a∈pre,nP a.2.1 e.2.1=true)→
  mK C ros s (e::(pre++post))∧kj s (e::(pre++post))=kj s (pre++e::post):=by
 intro pre
 induction pre with
 |nil=>intro s h _;exact⟨h,rfl⟩
 |cons a pre ih=>
  intro s h az
  obtain⟨U,aa⟩:=h
  obtain⟨aD,aO⟩:=ih _ aa fun b I=>az b (by simp[I])
  have ae:mK C ros s (a::e::(pre++post)):=⟨U,aD⟩
  obtain⟨bn,bp⟩:=Ga ae (az a (by simp))
  refine⟨bn,bp.trans ?_⟩
  simp only[kj,List.foldl_cons,List.cons_append]at aO⊢
  exact aO
end
def q5:List (List Nat)→List (List Nat)→List (List Nat)
 |done,[]=>done
 |done,a::r=>q5 (done++[a++a.flatMap fun e=>(done[e]?).getD []]) r
def nQ (dY:List (List Nat)):List (List Nat):=q5 [] dY
theorem Gd {dY:List (List Nat)} {l:List Nat} (hl:∀u i v,l=u++i::v→∀e∈(dY[i]?).getD [],e∈u):∀(rest pre done:List (List Nat)),dY=pre++rest→done.length=pre.length→
  (∀u i v,l=u++i::v→∀e∈(done[i]?).getD [],e∈u)→∀u i v,l=u++i::v→∀e∈((q5 done rest)[i]?).getD [],e∈u:=by
 intro rest
 induction rest with
 |nil=>intro pre done _ _ h;exact h
 |cons a rest ih=>
  intro pre done zD hlen h
  simp only[q5]
  refine ih (pre++[a]) _ (by simp[zD]) (by simp[hlen]) ?_
  intro u i v hu e he
  by_cases az:i<done.length
  ·rw[List.getElem?_append_left az]at he
   exact h u i v hu e he
  ·rw[List.getElem?_append_right (by omega)]at he
   by_cases yr:i-done.length=0
   ·rw[yr]at he
    simp only[List.getElem?_cons_zero,Option.getD_some,List.mem_append,List.mem_flatMap]at he
    have zE:(dY[i]?).getD []=a:=by
     have:i=pre.length:=by omega
     rw[zD,this,List.getElem?_append_right (Nat.le_refl _)];simp
    rcases he with he|⟨ej,vr,he⟩
    ·exact hl u i v hu e (by rw[zE];exact he)
    ·have qL:=hl u i v hu ej (by rw[zE];exact vr)
     obtain⟨yd,ye,rfl⟩:=List.append_of_mem qL
     have:=h yd ej (ye++i::v) (by rw[hu];simp) e he
     simp[this]
   ·rw[List.getElem?_eq_none (by simp;omega)]at he
    simp at he
theorem Ge {dY:List (List Nat)} {l:List Nat} (hl:∀u i v,l=u++i::v→∀e∈(dY[i]?).getD [],e∈u):∀u i v,l=u++i::v→∀e∈((nQ dY)[i]?).getD [],e∈u:=
 Gd hl dY [] [] rfl rfl fun u i v _ e he=>by simp at he
def ij (iR:List (List Nat)):Nat→List (Nat×dm)→List dm→Bool
 |_,_,[]=>true
 |ad,es,f::ag=>(es.all fun e=>((iR[ad]?).getD []).contains e.1||nP e.2 f)&&ij iR (ad+1) ((ad,f)::es) ag
def vL (iR:List (List Nat)) (a b:Nat×dm×List en):Prop:=a.1∈(iR[b.1]?).getD []∨nP a.2.1 b.2.1=true
theorem Gf {iR:List (List Nat)}:∀(eE:List (Nat×dm×List en)) (ad:Nat) (es:List (Nat×dm)),eE.map (·.1)=(List.range eE.length).map (·+ad)→ij iR ad es (eE.map (·.2.1))=true→
  eE.Pairwise (vL iR)∧∀e∈es,∀b∈eE,e.1∈(iR[b.1]?).getD []∨nP e.2 b.2.1=true:=by
 intro eE
 induction eE with
 |nil=>intro ad es _ _;exact⟨.nil,fun e _ b I=>by cases I⟩
 |cons a eE ih=>
  intro ad es nR eo
  rw[List.length_cons,List.range_succ_eq_map,List.map_cons,List.map_cons,List.map_map]at nR
  simp only[List.cons.injEq,Nat.zero_add]at nR
  obtain⟨aS,nR⟩:=nR
  simp only[List.map_cons,ij,Bool.and_eq_true,List.all_eq_true,Bool.or_eq_true]at eo
  obtain⟨U,aa⟩:=eo
  obtain⟨aD,aO⟩:=ih (ad+1) _ (by rw[nR];congr 1;funext x;simp;omega) aa
  refine⟨.cons (fun b I=> ?_) aD,fun e he b I=> ?_⟩
  ·have:=aO (ad,a.2.1) (by simp) b I
   simp only[vL,aS];exact this
  ·rcases List.mem_cons.1 I with rfl|I
   ·rw[aS]
    exact(U e he).imp (fun h=>by simpa using h) id
   ·exact aO e (by simp[he]) b I
section
variable {C:bq}
theorem Gg {K:Option (List dm)→af→Prop}:∀(os pre:List bm) (s:af) (acc:List dm),bF C s os (some acc) K→
  ∃eE,mK C (pre++os) s eE∧eE.map (·.1)=(List.range os.length).map (·+pre.length)∧K (some ((eE.map (·.2.1)).reverse++acc)) (kj s eE):=by
 intro os
 induction os with
 |nil=>intro pre s acc h;exact⟨[],trivial,rfl,h⟩
 |cons o os ih=>
  intro pre s acc h
  obtain⟨gU,ms,U,aa⟩:=F_ h
  obtain⟨eE,aD,aO,bg⟩:=ih (pre++[o]) _ (gU::acc) U
  refine⟨(pre.length,gU,ms)::eE,⟨⟨o,?_,aa⟩,?_⟩,?_,?_⟩
  ·rw[List.getElem?_append_right (Nat.le_refl _)];simp
  ·simpa using aD
  ·rw[List.length_cons,List.range_succ_eq_map,List.map_cons,List.map_cons,List.map_map,aO]
   simp only[List.cons.injEq,Nat.zero_add,true_and]
   congr 1;funext x;simp;omega
  ·simpa [kj]using bg
theorem Gh {ros:List bm} {iR:List (List Nat)} {K:af→Prop}:∀(l:List Nat) (eE:List (Nat×dm×List en)) (s:af),mK C ros s eE→eE.Pairwise (vL iR)→l.Nodup→(eE.map (·.1)).Nodup→
  (∀i,i∈l↔i∈eE.map (·.1))→(∀u i v,l=u++i::v→∀e∈(iR[i]?).getD [],e∈eE.map (·.1)→e∈u)→K (kj s eE)→gn C ros s l K:=by
 intro l
 induction l with
 |nil=>
  intro eE s _ _ _ _ hm _ ai
  cases eE with
  |nil=>exact ai
  |cons e eE=>have:=(hm e.1).2 (by simp);cases this
 |cons i l ih=>
  intro eE s ae an aV qG hm bs ai
  obtain⟨e,he,az⟩:=List.mem_map.1 ((hm i).1 (by simp))
  obtain⟨pre,post,rfl⟩:=List.append_of_mem he
  have Gi:∀a∈pre,nP a.2.1 e.2.1=true:=by
   intro a bU
   have aA:=(List.pairwise_append.1 an).2.2 a bU e (by simp)
   rcases aA with aA|aA
   ·rw[az]at aA
    have:=bs [] i l rfl a.1 aA (by simp only[List.map_append,List.mem_append,List.mem_map];exact .inl ⟨a,bU,rfl⟩)
    cases this
   ·exact aA
  obtain⟨aD,aO⟩:=Gc pre s ae Gi
  obtain⟨⟨o,Gj,Gk⟩,bg⟩:=aD
  have zF:i∉(pre++post).map (·.1):=by
   have:(pre.map (·.1)++e.1::post.map (·.1)).Nodup:=by simpa using qG
   have a5:=(List.perm_middle.nodup_iff.1 this)
   rw[List.nodup_cons]at a5
   rw[←az];simpa using a5.1
  simp only[gn]
  rw[←az,Gj]
  refine Gk.1 s (fun _ _=>rfl) _ ?_
  rw[List.nodup_cons]at aV
  refine ih (pre++post) _ bg ?_ aV.2 ?_ ?_ ?_ ?_
  ·exact an.sublist ((List.Sublist.refl pre).append (List.sublist_cons_self e post))
  ·have:(pre.map (·.1)++e.1::post.map (·.1)).Nodup:=by simpa using qG
   have a5:=(List.perm_middle.nodup_iff.1 this)
   rw[List.nodup_cons]at a5
   simpa using a5.2
  ·intro ad
   constructor
   ·intro aS
    have U:=(hm ad).1 (by simp[aS])
    simp only[List.map_append,List.map_cons,List.mem_append,List.mem_cons]at U⊢
    rcases U with U|rfl|U
    ·exact .inl U
    ·exact(aV.1 (az▸aS)).elim
    ·exact .inr U
   ·intro aS
    have U:=(hm ad).2 (by
     simp only[List.map_append,List.map_cons,List.mem_append,List.mem_cons]at aS⊢
     exact aS.imp id .inr)
    rcases List.mem_cons.1 U with rfl|U
    ·exact(zF aS).elim
    ·exact U
  ·intro u ad v hu x ao vM
   have U:=bs (i::u) ad v (by rw[hu];rfl) x ao (by
    simp only[List.map_append,List.map_cons,List.mem_append,List.mem_cons]at vM⊢
    exact vM.imp id .inr)
   rcases List.mem_cons.1 U with rfl|U
   ·exact(zF vM).elim
   ·exact U
  ·have:kj s (e::(pre++post))=kj (b5 e.2.2 s) (pre++post):=rfl
   rw[←this,aO];exact ai
theorem zG {ros:List bm} {dY:List (List Nat)} {s:af} {K:af→Prop} (hlen:dY.length=ros.length)
  (h:bF C s ros (some []) (fun acc s=>ij (nQ dY) 0 [] (acc.getD []).reverse=true∧K s)):∀l,vq dY l→gn C ros s l K:=by
 intro l ⟨et,l2,oH⟩
 obtain⟨eE,aD,aO,bg,b6⟩:=Gg ros [] s [] h
 simp only[List.nil_append,List.append_nil,List.length_nil,Option.getD_some,List.reverse_reverse]at aD aO bg
 have hl:eE.length=ros.length:=by have:=congrArg List.length aO;simpa using this
 have nR:eE.map (·.1)=(List.range eE.length).map (·+0):=by rw[aO,hl]
 have aA:eE.map (·.1)=List.range ros.length:=by rw[aO];simp
 obtain⟨dw,_⟩:=Gf eE 0 [] nR bg
 refine Gh l eE s aD dw et (by rw[aA];exact List.nodup_range) (fun i=> ?_) (fun u i v hu e he _=>Ge oH u i v hu e he) b6
 rw[aA,l2,hlen,List.mem_range]
end
def cm (C:bq) (dst:Option Nat) (os:List bm) (K:Option (List dm)→af→Prop):Option (j×af)→Prop
 |some (av,s1)=>bF C (fin s1 dst av) os none K
 |none=>False
def cn (C:bq) (l:List (Nat×j)) (a6 bL:List Nat) (dst:Option Nat) (os:List bm) (a:List dm) (K:Option (List dm)→af→Prop):Option (j×af)→Prop
 |some (av,s1)=>bF C (fin s1 dst av) os (some (fI (J l) a6 dst bL av::a)) K
 |none=>False
def bB (C:bq) (l:List (Nat×j)) (dst:Option Nat) (a7:dE) (t:Nat) (b:Bool) (os:List bm) (acc:Option (List dm)) (K:Option (List dm)→af→Prop):j→Prop
 | .bool dp=>if dp=b then ki C (J l) a7 (fun bL av s1=>bF C (fin s1 dst av) os (lR acc (fI (J l) (t::use (J l) a7) dst bL av)) K)else bF C (fin (J l) dst (.tuple [])) os (lR acc (fI (J l) [t] dst [] (.tuple []))) K
 | .tuple []=>bF C (fin (J l) dst (.tuple [])) os (lR acc (fI (J l) [t] dst [] (.tuple []))) K
 |_=>False
section
variable {C:bq} {l:List (Nat×j)} {os:List bm} {K:Option (List dm)→af→Prop} {dst:Option Nat} {a:List dm} {acc:Option (List dm)}
theorem sK {s:af} {a7:dE} {K:List Nat→j→af→Prop} (aV:a7.nO=false):ki C s a7 K=(match aX C s a7 with
  |some (av,s1)=>K (b3 s a7) av s1
  |none=>False):=by
 apply propext
 constructor
 ·intro h
  cases a7<;>first
   |(simp[dE.nO]at aV;done)
   |(obtain⟨av,s1,U,aa⟩:=h;rw[U];exact aa)
 ·intro h
  split at h
  ·rename_i av s1 he
   cases a7<;>first
    |(simp[dE.nO]at aV;done)
    |exact⟨av,s1,he,h⟩
  ·exact h.elim
theorem zH:bF C (J l) [] acc K=K acc (J l):=rfl
theorem gg {a7:dE} (aV:a7.nO=false):bF C (J l) (⟨dst,a7,none⟩::os) none K=cm C dst os K (aX C (J l) a7):=by
 simp only[bF,jI,lR]
 rw[sK aV]
 cases aX C (J l) a7 with
 |none=>rfl
 |some p=>rfl
theorem gh {a7:dE} (aV:a7.nO=false):bF C (J l) (⟨dst,a7,none⟩::os) (some a) K=cn C l (use (J l) a7) (b3 (J l) a7) dst os a K (aX C (J l) a7):=by
 simp only[bF,jI,lR]
 rw[sK aV]
 cases aX C (J l) a7 with
 |none=>rfl
 |some p=>rfl
theorem zI {a7:dE} {t:Nat} {b:Bool}:bF C (J l) (⟨dst,a7,some (t,b)⟩::os) acc K=bB C l dst a7 t b os acc K (J l t):=by
 simp only[bF,jI]
 generalize J l t=v
 cases v<;>first|rfl|(rename_i vs;cases vs<;>rfl)
theorem du {a7:dE} {t:Nat} {b:Bool} (aV:a7.nO=false):bB C l dst a7 t b os none K (.bool b)=cm C dst os K (aX C (J l) a7):=by
 simp only[bB,if_true]
 rw[sK aV]
 cases aX C (J l) a7 with
 |none=>rfl
 |some p=>rfl
theorem dv {a7:dE} {t:Nat} {b:Bool} (aV:a7.nO=false):bB C l dst a7 t b os (some a) K (.bool b)=cn C l (t::use (J l) a7) (b3 (J l) a7) dst os a K (aX C (J l) a7):=by
 simp only[bB,if_true]
 rw[sK aV]
 cases aX C (J l) a7 with
 |none=>rfl
 |some p=>rfl
theorem Gl {a7:dE} {t:Nat}:bB C l dst a7 t true os none K (.bool false)=bF C (fin (J l) dst (.tuple [])) os none K∧bB C l dst a7 t false os none K (.bool true)=bF C (fin (J l) dst (.tuple [])) os none K∧
  (∀b,bB C l dst a7 t b os none K (.tuple [])=bF C (fin (J l) dst (.tuple [])) os none K):=⟨rfl,rfl,fun _=>rfl⟩
theorem Gm {a7:dE} {t:Nat}:bB C l dst a7 t true os (some a) K (.bool false)=bF C (fin (J l) dst (.tuple [])) os (some (fI (J l) [t] dst [] (.tuple [])::a)) K∧
  bB C l dst a7 t false os (some a) K (.bool true)=bF C (fin (J l) dst (.tuple [])) os (some (fI (J l) [t] dst [] (.tuple [])::a)) K∧
  (∀b,bB C l dst a7 t b os (some a) K (.tuple [])=bF C (fin (J l) dst (.tuple [])) os (some (fI (J l) [t] dst [] (.tuple [])::a)) K):=⟨rfl,rfl,fun _=>rfl⟩
theorem Gn (av:j) (s1:af):cm C dst os K (some (av,s1))=bF C (fin s1 dst av) os none K:=rfl
theorem Gp (a6 bL:List Nat) (av:j) (s1:af):cn C l a6 bL dst os a K (some (av,s1))=bF C (fin s1 dst av) os (some (fI (J l) a6 dst bL av::a)) K:=rfl
def fY (s:af):j→Option (j×af)
 | .h y q=>bL s (.h y q)
 |d=>some (d,s)
def mL (s:af):j→j→j→Option (j×af)
 | .bool dp,x,y=>some (if dp then x else y,s)
 |_,_,_=>none
def bS (s:af):Option j→Option (j×af)
 |some d=>some (d,s)
 |none=>none
def hK:Option af→Option (j×af)
 |some s1=>some (.hole,s1)
 |none=>none
def fC (s:af):List au→List j
 |[]=>[]
 |x::xs=>ax s x::fC s xs
def gH (s:af):List (Nat×au)→List (Nat×j)
 |[]=>[]
 |(k,x)::xs=>(k,ax s x)::gH s xs
def hv (s:af):Option au→Option j
 |none=>none
 |some x=>some (ax s x)
theorem jK (s:af) (x:Option j):(x.map fun d=>(d,s))=bS s x:=by cases x<;>rfl
theorem Gq (x:Option af):(x.map fun s1=>(j.hole,s1))=hK x:=by cases x<;>rfl
theorem sL (s:af):∀xs:List au,xs.map (ax s)=fC s xs
 |[]=>rfl
 |x::xs=>by simp only[List.map_cons,fC,sL s xs]
theorem vN (s:af):∀xs:List (Nat×au),(xs.map fun p=>(p.1,ax s p.2))=gH s xs
 |[]=>rfl
 |(k,x)::xs=>by simp only[List.map_cons,gH,vN s xs]
theorem Gr (s:af) (x:Option au):x.map (ax s)=hv s x:=by cases x<;>rfl
theorem oT (x:au):aX C (J l) (.cq x)=some (ax (J l) x,J l):=by
 rfl
theorem oU (x:au):aX C (J l) (.fk x)=fY (J l) (ax (J l) x):=by
 simp only[aX];cases ax (J l) x<;>rfl
theorem oV (c x y:au):aX C (J l) (.pick c x y)=mL (J l) (ax (J l) c) (ax (J l) x) (ax (J l) y):=by
 simp only[aX];cases ax (J l) c<;>first|rfl|(rename_i b;cases b<;>rfl)
theorem oW (T:TypeId):aX C (J l) (.eK T)=bS (J l) (eK C T):=by
 simp only[aX,jK]
theorem oX (T:TypeId) (x:au):aX C (J l) (.dq T x)=dq (J l) (ax (J l) x):=by
 rfl
theorem oY (T:TypeId) (ps:List (Nat×au)):aX C (J l) (.cL T ps)=cL C (J l) T (gH (J l) ps):=by
 simp only[aX,vN]
theorem oZ (T:TypeId) (n:Nat) (ps:List (Nat×au)):aX C (J l) (.c0 T n ps)=c0 C (J l) T n (gH (J l) ps):=by
 simp only[aX,vN]
theorem o0 (T:TypeId) (x:au):aX C (J l) (.cM T x)=bS (J l) (cM C (J l) T (ax (J l) x)):=by
 simp only[aX,jK]
theorem o1 (T:TypeId) (x y:au):aX C (J l) (.dW T x y)=hK (dW C (J l) T (ax (J l) x) (ax (J l) y)):=by
 simp only[aX,Gq]
theorem o2 (x:au):aX C (J l) (.ed x)=bS (J l) (ed (J l) (ax (J l) x)):=by
 simp only[aX,jK]
theorem o3 (op:BinOp) (T:TypeId) (x y:au):aX C (J l) (.bP op T x y)=bS (J l) (bP C (J l) op T (ax (J l) x) (ax (J l) y)):=by
 simp only[aX,jK]
theorem o4 (op:UnOp) (x:au):aX C (J l) (.un op x)=bS (J l) (un op (ax (J l) x)):=by
 simp only[aX,jK]
theorem o5 (A B:TypeId) (x:au):aX C (J l) (.dD A B x)=bS (J l) (dD C (J l) A B (ax (J l) x)):=by
 simp only[aX,jK]
theorem o6 (f:FuncId) (cs:List au):aX C (J l) (.gR f cs)=some (.fn f (fC (J l) cs),J l):=by
 simp only[aX,sL]
theorem o7 (T:TypeId) (x y:au):aX C (J l) (.fe T x y)=bS (J l) (fe C T (ax (J l) x) (ax (J l) y)):=by
 simp only[aX,jK]
theorem o8 (T:TypeId) (x:au) (bw az:Option au):aX C (J l) (.cU T x bw az)=cU C (J l) T (ax (J l) x) (hv (J l) bw) (hv (J l) az):=by
 simp only[aX,Gr]
theorem o9 (T:TypeId) (x:au) (k:Nat):aX C (J l) (.dC T x k)=bS (J l) (dC C (J l) T (ax (J l) x) k):=by
 simp only[aX,jK]
theorem o_ (T:TypeId) (x y:au):aX C (J l) (.dK T x y)=bS (J l) (dK C (J l) T (ax (J l) x) (ax (J l) y)):=by
 simp only[aX,jK]
theorem pa (T:TypeId) (x y:au):aX C (J l) (.idx T x y)=bS (J l) (idx C T (ax (J l) x) (ax (J l) y)):=by
 simp only[aX,jK]
theorem pb (x:au) (k:Nat):aX C (J l) (.ex x k)=bS (J l) (ex (J l) (ax (J l) x) k):=by
 simp only[aX,jK]
theorem pc (T:TypeId) (x:au):aX C (J l) (.len T x)=bS (J l) (h6 C (J l) T (ax (J l) x)):=by
 simp only[aX,jK]
theorem pd (T a6:TypeId) (x y:au):aX C (J l) (.app T a6 x y)=h7 C (J l) T a6 (ax (J l) x) (ax (J l) y):=by
 rfl
theorem Gs:
  (∀(x:au),bF C (J l) (⟨dst,.cq x,none⟩::os) none K=cm C dst os K (some (ax (J l) x,J l)))∧
  (∀(x:au),bF C (J l) (⟨dst,.fk x,none⟩::os) none K=cm C dst os K (fY (J l) (ax (J l) x)))∧
  (∀(c x y:au),bF C (J l) (⟨dst,.pick c x y,none⟩::os) none K=cm C dst os K (mL (J l) (ax (J l) c) (ax (J l) x) (ax (J l) y)))∧
  (∀(T:TypeId),bF C (J l) (⟨dst,.eK T,none⟩::os) none K=cm C dst os K (bS (J l) (eK C T)))∧
  (∀(T:TypeId) (x:au),bF C (J l) (⟨dst,.dq T x,none⟩::os) none K=cm C dst os K (dq (J l) (ax (J l) x)))∧
  (∀(T:TypeId) (ps:List (Nat×au)),bF C (J l) (⟨dst,.cL T ps,none⟩::os) none K=cm C dst os K (cL C (J l) T (gH (J l) ps)))∧
  (∀(T:TypeId) (n:Nat) (ps:List (Nat×au)),bF C (J l) (⟨dst,.c0 T n ps,none⟩::os) none K=cm C dst os K (c0 C (J l) T n (gH (J l) ps)))∧
  (∀(T:TypeId) (x:au),bF C (J l) (⟨dst,.cM T x,none⟩::os) none K=cm C dst os K (bS (J l) (cM C (J l) T (ax (J l) x))))∧
  (∀(T:TypeId) (x y:au),bF C (J l) (⟨dst,.dW T x y,none⟩::os) none K=cm C dst os K (hK (dW C (J l) T (ax (J l) x) (ax (J l) y))))∧
  (∀(x:au),bF C (J l) (⟨dst,.ed x,none⟩::os) none K=cm C dst os K (bS (J l) (ed (J l) (ax (J l) x))))∧
  (∀(op:BinOp) (T:TypeId) (x y:au),bF C (J l) (⟨dst,.bP op T x y,none⟩::os) none K=cm C dst os K (bS (J l) (bP C (J l) op T (ax (J l) x) (ax (J l) y))))∧
  (∀(op:UnOp) (x:au),bF C (J l) (⟨dst,.un op x,none⟩::os) none K=cm C dst os K (bS (J l) (un op (ax (J l) x))))∧
  (∀(A B:TypeId) (x:au),bF C (J l) (⟨dst,.dD A B x,none⟩::os) none K=cm C dst os K (bS (J l) (dD C (J l) A B (ax (J l) x))))∧
  (∀(f:FuncId) (cs:List au),bF C (J l) (⟨dst,.gR f cs,none⟩::os) none K=cm C dst os K (some (.fn f (fC (J l) cs),J l)))∧
  (∀(T:TypeId) (x y:au),bF C (J l) (⟨dst,.fe T x y,none⟩::os) none K=cm C dst os K (bS (J l) (fe C T (ax (J l) x) (ax (J l) y))))∧
  (∀(T:TypeId) (x:au) (bw az:Option au),bF C (J l) (⟨dst,.cU T x bw az,none⟩::os) none K=cm C dst os K (cU C (J l) T (ax (J l) x) (hv (J l) bw) (hv (J l) az)))∧
  (∀(T:TypeId) (x:au) (k:Nat),bF C (J l) (⟨dst,.dC T x k,none⟩::os) none K=cm C dst os K (bS (J l) (dC C (J l) T (ax (J l) x) k)))∧
  (∀(T:TypeId) (x y:au),bF C (J l) (⟨dst,.dK T x y,none⟩::os) none K=cm C dst os K (bS (J l) (dK C (J l) T (ax (J l) x) (ax (J l) y))))∧
  (∀(T:TypeId) (x y:au),bF C (J l) (⟨dst,.idx T x y,none⟩::os) none K=cm C dst os K (bS (J l) (idx C T (ax (J l) x) (ax (J l) y))))∧
  (∀(x:au) (k:Nat),bF C (J l) (⟨dst,.ex x k,none⟩::os) none K=cm C dst os K (bS (J l) (ex (J l) (ax (J l) x) k)))∧
  (∀(T:TypeId) (x:au),bF C (J l) (⟨dst,.len T x,none⟩::os) none K=cm C dst os K (bS (J l) (h6 C (J l) T (ax (J l) x))))∧
  (∀(T a6:TypeId) (x y:au),bF C (J l) (⟨dst,.app T a6 x y,none⟩::os) none K=cm C dst os K (h7 C (J l) T a6 (ax (J l) x) (ax (J l) y))):=
 ⟨fun x=>(gg rfl).trans (congrArg _ (oT x)),fun x=>(gg rfl).trans (congrArg _ (oU x)),fun c x y=>(gg rfl).trans (congrArg _ (oV c x y)),fun T=>(gg rfl).trans (congrArg _ (oW T)),fun T x=>(gg rfl).trans (congrArg _ (oX T x)),fun T ps=>(gg rfl).trans (congrArg _ (oY T ps)),fun T n ps=>(gg rfl).trans (congrArg _ (oZ T n ps)),fun T x=>(gg rfl).trans (congrArg _ (o0 T x)),fun T x y=>(gg rfl).trans (congrArg _ (o1 T x y)),fun x=>(gg rfl).trans (congrArg _ (o2 x)),fun op T x y=>(gg rfl).trans (congrArg _ (o3 op T x y)),fun op x=>(gg rfl).trans (congrArg _ (o4 op x)),fun A B x=>(gg rfl).trans (congrArg _ (o5 A B x)),fun f cs=>(gg rfl).trans (congrArg _ (o6 f cs)),fun T x y=>(gg rfl).trans (congrArg _ (o7 T x y)),fun T x bw az=>(gg rfl).trans (congrArg _ (o8 T x bw az)),fun T x k=>(gg rfl).trans (congrArg _ (o9 T x k)),fun T x y=>(gg rfl).trans (congrArg _ (o_ T x y)),fun T x y=>(gg rfl).trans (congrArg _ (pa T x y)),fun x k=>(gg rfl).trans (congrArg _ (pb x k)),fun T x=>(gg rfl).trans (congrArg _ (pc T x)),fun T a6 x y=>(gg rfl).trans (congrArg _ (pd T a6 x y))⟩
theorem Gt:
  (∀(x:au),bF C (J l) (⟨dst,.cq x,none⟩::os) (some a) K=cn C l (use (J l) (.cq x)) (b3 (J l) (.cq x)) dst os a K (some (ax (J l) x,J l)))∧
  (∀(x:au),bF C (J l) (⟨dst,.fk x,none⟩::os) (some a) K=cn C l (use (J l) (.fk x)) (b3 (J l) (.fk x)) dst os a K (fY (J l) (ax (J l) x)))∧
  (∀(c x y:au),bF C (J l) (⟨dst,.pick c x y,none⟩::os) (some a) K=cn C l (use (J l) (.pick c x y)) (b3 (J l) (.pick c x y)) dst os a K (mL (J l) (ax (J l) c) (ax (J l) x) (ax (J l) y)))∧
  (∀(T:TypeId),bF C (J l) (⟨dst,.eK T,none⟩::os) (some a) K=cn C l (use (J l) (.eK T)) (b3 (J l) (.eK T)) dst os a K (bS (J l) (eK C T)))∧
  (∀(T:TypeId) (x:au),bF C (J l) (⟨dst,.dq T x,none⟩::os) (some a) K=cn C l (use (J l) (.dq T x)) (b3 (J l) (.dq T x)) dst os a K (dq (J l) (ax (J l) x)))∧
  (∀(T:TypeId) (ps:List (Nat×au)),bF C (J l) (⟨dst,.cL T ps,none⟩::os) (some a) K=cn C l (use (J l) (.cL T ps)) (b3 (J l) (.cL T ps)) dst os a K (cL C (J l) T (gH (J l) ps)))∧
  (∀(T:TypeId) (n:Nat) (ps:List (Nat×au)),bF C (J l) (⟨dst,.c0 T n ps,none⟩::os) (some a) K=cn C l (use (J l) (.c0 T n ps)) (b3 (J l) (.c0 T n ps)) dst os a K (c0 C (J l) T n (gH (J l) ps)))∧
  (∀(T:TypeId) (x:au),bF C (J l) (⟨dst,.cM T x,none⟩::os) (some a) K=cn C l (use (J l) (.cM T x)) (b3 (J l) (.cM T x)) dst os a K (bS (J l) (cM C (J l) T (ax (J l) x))))∧
  (∀(T:TypeId) (x y:au),bF C (J l) (⟨dst,.dW T x y,none⟩::os) (some a) K=cn C l (use (J l) (.dW T x y)) (b3 (J l) (.dW T x y)) dst os a K (hK (dW C (J l) T (ax (J l) x) (ax (J l) y))))∧
  (∀(x:au),bF C (J l) (⟨dst,.ed x,none⟩::os) (some a) K=cn C l (use (J l) (.ed x)) (b3 (J l) (.ed x)) dst os a K (bS (J l) (ed (J l) (ax (J l) x))))∧
  (∀(op:BinOp) (T:TypeId) (x y:au),bF C (J l) (⟨dst,.bP op T x y,none⟩::os) (some a) K=cn C l (use (J l) (.bP op T x y)) (b3 (J l) (.bP op T x y)) dst os a K (bS (J l) (bP C (J l) op T (ax (J l) x) (ax (J l) y))))∧
  (∀(op:UnOp) (x:au),bF C (J l) (⟨dst,.un op x,none⟩::os) (some a) K=cn C l (use (J l) (.un op x)) (b3 (J l) (.un op x)) dst os a K (bS (J l) (un op (ax (J l) x))))∧
  (∀(A B:TypeId) (x:au),bF C (J l) (⟨dst,.dD A B x,none⟩::os) (some a) K=cn C l (use (J l) (.dD A B x)) (b3 (J l) (.dD A B x)) dst os a K (bS (J l) (dD C (J l) A B (ax (J l) x))))∧
  (∀(f:FuncId) (cs:List au),bF C (J l) (⟨dst,.gR f cs,none⟩::os) (some a) K=cn C l (use (J l) (.gR f cs)) (b3 (J l) (.gR f cs)) dst os a K (some (.fn f (fC (J l) cs),J l)))∧
  (∀(T:TypeId) (x y:au),bF C (J l) (⟨dst,.fe T x y,none⟩::os) (some a) K=cn C l (use (J l) (.fe T x y)) (b3 (J l) (.fe T x y)) dst os a K (bS (J l) (fe C T (ax (J l) x) (ax (J l) y))))∧
  (∀(T:TypeId) (x:au) (bw az:Option au),bF C (J l) (⟨dst,.cU T x bw az,none⟩::os) (some a) K=cn C l (use (J l) (.cU T x bw az)) (b3 (J l) (.cU T x bw az)) dst os a K (cU C (J l) T (ax (J l) x) (hv (J l) bw) (hv (J l) az)))∧
  (∀(T:TypeId) (x:au) (k:Nat),bF C (J l) (⟨dst,.dC T x k,none⟩::os) (some a) K=cn C l (use (J l) (.dC T x k)) (b3 (J l) (.dC T x k)) dst os a K (bS (J l) (dC C (J l) T (ax (J l) x) k)))∧
  (∀(T:TypeId) (x y:au),bF C (J l) (⟨dst,.dK T x y,none⟩::os) (some a) K=cn C l (use (J l) (.dK T x y)) (b3 (J l) (.dK T x y)) dst os a K (bS (J l) (dK C (J l) T (ax (J l) x) (ax (J l) y))))∧
  (∀(T:TypeId) (x y:au),bF C (J l) (⟨dst,.idx T x y,none⟩::os) (some a) K=cn C l (use (J l) (.idx T x y)) (b3 (J l) (.idx T x y)) dst os a K (bS (J l) (idx C T (ax (J l) x) (ax (J l) y))))∧
  (∀(x:au) (k:Nat),bF C (J l) (⟨dst,.ex x k,none⟩::os) (some a) K=cn C l (use (J l) (.ex x k)) (b3 (J l) (.ex x k)) dst os a K (bS (J l) (ex (J l) (ax (J l) x) k)))∧
  (∀(T:TypeId) (x:au),bF C (J l) (⟨dst,.len T x,none⟩::os) (some a) K=cn C l (use (J l) (.len T x)) (b3 (J l) (.len T x)) dst os a K (bS (J l) (h6 C (J l) T (ax (J l) x))))∧
  (∀(T a6:TypeId) (x y:au),bF C (J l) (⟨dst,.app T a6 x y,none⟩::os) (some a) K=cn C l (use (J l) (.app T a6 x y)) (b3 (J l) (.app T a6 x y)) dst os a K (h7 C (J l) T a6 (ax (J l) x) (ax (J l) y))):=
 ⟨fun x=>(gh rfl).trans (congrArg _ (oT x)),fun x=>(gh rfl).trans (congrArg _ (oU x)),fun c x y=>(gh rfl).trans (congrArg _ (oV c x y)),fun T=>(gh rfl).trans (congrArg _ (oW T)),fun T x=>(gh rfl).trans (congrArg _ (oX T x)),fun T ps=>(gh rfl).trans (congrArg _ (oY T ps)),fun T n ps=>(gh rfl).trans (congrArg _ (oZ T n ps)),fun T x=>(gh rfl).trans (congrArg _ (o0 T x)),fun T x y=>(gh rfl).trans (congrArg _ (o1 T x y)),fun x=>(gh rfl).trans (congrArg _ (o2 x)),fun op T x y=>(gh rfl).trans (congrArg _ (o3 op T x y)),fun op x=>(gh rfl).trans (congrArg _ (o4 op x)),fun A B x=>(gh rfl).trans (congrArg _ (o5 A B x)),fun f cs=>(gh rfl).trans (congrArg _ (o6 f cs)),fun T x y=>(gh rfl).trans (congrArg _ (o7 T x y)),fun T x bw az=>(gh rfl).trans (congrArg _ (o8 T x bw az)),fun T x k=>(gh rfl).trans (congrArg _ (o9 T x k)),fun T x y=>(gh rfl).trans (congrArg _ (o_ T x y)),fun T x y=>(gh rfl).trans (congrArg _ (pa T x y)),fun x k=>(gh rfl).trans (congrArg _ (pb x k)),fun T x=>(gh rfl).trans (congrArg _ (pc T x)),fun T a6 x y=>(gh rfl).trans (congrArg _ (pd T a6 x y))⟩
theorem Gu:
  (∀(x:au) (t:Nat),bB C l dst (.cq x) t true os none K (.bool true)=cm C dst os K (some (ax (J l) x,J l)))∧
  (∀(x:au) (t:Nat),bB C l dst (.cq x) t false os none K (.bool false)=cm C dst os K (some (ax (J l) x,J l)))∧
  (∀(x:au) (t:Nat),bB C l dst (.fk x) t true os none K (.bool true)=cm C dst os K (fY (J l) (ax (J l) x)))∧
  (∀(x:au) (t:Nat),bB C l dst (.fk x) t false os none K (.bool false)=cm C dst os K (fY (J l) (ax (J l) x)))∧
  (∀(c x y:au) (t:Nat),bB C l dst (.pick c x y) t true os none K (.bool true)=cm C dst os K (mL (J l) (ax (J l) c) (ax (J l) x) (ax (J l) y)))∧
  (∀(c x y:au) (t:Nat),bB C l dst (.pick c x y) t false os none K (.bool false)=cm C dst os K (mL (J l) (ax (J l) c) (ax (J l) x) (ax (J l) y)))∧
  (∀(T:TypeId) (t:Nat),bB C l dst (.eK T) t true os none K (.bool true)=cm C dst os K (bS (J l) (eK C T)))∧
  (∀(T:TypeId) (t:Nat),bB C l dst (.eK T) t false os none K (.bool false)=cm C dst os K (bS (J l) (eK C T)))∧
  (∀(T:TypeId) (x:au) (t:Nat),bB C l dst (.dq T x) t true os none K (.bool true)=cm C dst os K (dq (J l) (ax (J l) x)))∧
  (∀(T:TypeId) (x:au) (t:Nat),bB C l dst (.dq T x) t false os none K (.bool false)=cm C dst os K (dq (J l) (ax (J l) x)))∧
  (∀(T:TypeId) (ps:List (Nat×au)) (t:Nat),bB C l dst (.cL T ps) t true os none K (.bool true)=cm C dst os K (cL C (J l) T (gH (J l) ps)))∧
  (∀(T:TypeId) (ps:List (Nat×au)) (t:Nat),bB C l dst (.cL T ps) t false os none K (.bool false)=cm C dst os K (cL C (J l) T (gH (J l) ps)))∧
  (∀(T:TypeId) (n:Nat) (ps:List (Nat×au)) (t:Nat),bB C l dst (.c0 T n ps) t true os none K (.bool true)=cm C dst os K (c0 C (J l) T n (gH (J l) ps)))∧
  (∀(T:TypeId) (n:Nat) (ps:List (Nat×au)) (t:Nat),bB C l dst (.c0 T n ps) t false os none K (.bool false)=cm C dst os K (c0 C (J l) T n (gH (J l) ps)))∧
  (∀(T:TypeId) (x:au) (t:Nat),bB C l dst (.cM T x) t true os none K (.bool true)=cm C dst os K (bS (J l) (cM C (J l) T (ax (J l) x))))∧
  (∀(T:TypeId) (x:au) (t:Nat),bB C l dst (.cM T x) t false os none K (.bool false)=cm C dst os K (bS (J l) (cM C (J l) T (ax (J l) x))))∧
  (∀(T:TypeId) (x y:au) (t:Nat),bB C l dst (.dW T x y) t true os none K (.bool true)=cm C dst os K (hK (dW C (J l) T (ax (J l) x) (ax (J l) y))))∧
  (∀(T:TypeId) (x y:au) (t:Nat),bB C l dst (.dW T x y) t false os none K (.bool false)=cm C dst os K (hK (dW C (J l) T (ax (J l) x) (ax (J l) y))))∧
  (∀(x:au) (t:Nat),bB C l dst (.ed x) t true os none K (.bool true)=cm C dst os K (bS (J l) (ed (J l) (ax (J l) x))))∧
  (∀(x:au) (t:Nat),bB C l dst (.ed x) t false os none K (.bool false)=cm C dst os K (bS (J l) (ed (J l) (ax (J l) x))))∧
  (∀(op:BinOp) (T:TypeId) (x y:au) (t:Nat),bB C l dst (.bP op T x y) t true os none K (.bool true)=cm C dst os K (bS (J l) (bP C (J l) op T (ax (J l) x) (ax (J l) y))))∧
  (∀(op:BinOp) (T:TypeId) (x y:au) (t:Nat),bB C l dst (.bP op T x y) t false os none K (.bool false)=cm C dst os K (bS (J l) (bP C (J l) op T (ax (J l) x) (ax (J l) y))))∧
  (∀(op:UnOp) (x:au) (t:Nat),bB C l dst (.un op x) t true os none K (.bool true)=cm C dst os K (bS (J l) (un op (ax (J l) x))))∧
  (∀(op:UnOp) (x:au) (t:Nat),bB C l dst (.un op x) t false os none K (.bool false)=cm C dst os K (bS (J l) (un op (ax (J l) x))))∧
  (∀(A B:TypeId) (x:au) (t:Nat),bB C l dst (.dD A B x) t true os none K (.bool true)=cm C dst os K (bS (J l) (dD C (J l) A B (ax (J l) x))))∧
  (∀(A B:TypeId) (x:au) (t:Nat),bB C l dst (.dD A B x) t false os none K (.bool false)=cm C dst os K (bS (J l) (dD C (J l) A B (ax (J l) x))))∧
  (∀(f:FuncId) (cs:List au) (t:Nat),bB C l dst (.gR f cs) t true os none K (.bool true)=cm C dst os K (some (.fn f (fC (J l) cs),J l)))∧
  (∀(f:FuncId) (cs:List au) (t:Nat),bB C l dst (.gR f cs) t false os none K (.bool false)=cm C dst os K (some (.fn f (fC (J l) cs),J l)))∧
  (∀(T:TypeId) (x y:au) (t:Nat),bB C l dst (.fe T x y) t true os none K (.bool true)=cm C dst os K (bS (J l) (fe C T (ax (J l) x) (ax (J l) y))))∧
  (∀(T:TypeId) (x y:au) (t:Nat),bB C l dst (.fe T x y) t false os none K (.bool false)=cm C dst os K (bS (J l) (fe C T (ax (J l) x) (ax (J l) y))))∧
  (∀(T:TypeId) (x:au) (bw az:Option au) (t:Nat),bB C l dst (.cU T x bw az) t true os none K (.bool true)=cm C dst os K (cU C (J l) T (ax (J l) x) (hv (J l) bw) (hv (J l) az)))∧
  (∀(T:TypeId) (x:au) (bw az:Option au) (t:Nat),bB C l dst (.cU T x bw az) t false os none K (.bool false)=cm C dst os K (cU C (J l) T (ax (J l) x) (hv (J l) bw) (hv (J l) az)))∧
  (∀(T:TypeId) (x:au) (k:Nat) (t:Nat),bB C l dst (.dC T x k) t true os none K (.bool true)=cm C dst os K (bS (J l) (dC C (J l) T (ax (J l) x) k)))∧
  (∀(T:TypeId) (x:au) (k:Nat) (t:Nat),bB C l dst (.dC T x k) t false os none K (.bool false)=cm C dst os K (bS (J l) (dC C (J l) T (ax (J l) x) k)))∧
  (∀(T:TypeId) (x y:au) (t:Nat),bB C l dst (.dK T x y) t true os none K (.bool true)=cm C dst os K (bS (J l) (dK C (J l) T (ax (J l) x) (ax (J l) y))))∧
  (∀(T:TypeId) (x y:au) (t:Nat),bB C l dst (.dK T x y) t false os none K (.bool false)=cm C dst os K (bS (J l) (dK C (J l) T (ax (J l) x) (ax (J l) y))))∧
  (∀(T:TypeId) (x y:au) (t:Nat),bB C l dst (.idx T x y) t true os none K (.bool true)=cm C dst os K (bS (J l) (idx C T (ax (J l) x) (ax (J l) y))))∧
  (∀(T:TypeId) (x y:au) (t:Nat),bB C l dst (.idx T x y) t false os none K (.bool false)=cm C dst os K (bS (J l) (idx C T (ax (J l) x) (ax (J l) y))))∧
  (∀(x:au) (k:Nat) (t:Nat),bB C l dst (.ex x k) t true os none K (.bool true)=cm C dst os K (bS (J l) (ex (J l) (ax (J l) x) k)))∧
  (∀(x:au) (k:Nat) (t:Nat),bB C l dst (.ex x k) t false os none K (.bool false)=cm C dst os K (bS (J l) (ex (J l) (ax (J l) x) k)))∧
  (∀(T:TypeId) (x:au) (t:Nat),bB C l dst (.len T x) t true os none K (.bool true)=cm C dst os K (bS (J l) (h6 C (J l) T (ax (J l) x))))∧
  (∀(T:TypeId) (x:au) (t:Nat),bB C l dst (.len T x) t false os none K (.bool false)=cm C dst os K (bS (J l) (h6 C (J l) T (ax (J l) x))))∧
  (∀(T a6:TypeId) (x y:au) (t:Nat),bB C l dst (.app T a6 x y) t true os none K (.bool true)=cm C dst os K (h7 C (J l) T a6 (ax (J l) x) (ax (J l) y)))∧
  (∀(T a6:TypeId) (x y:au) (t:Nat),bB C l dst (.app T a6 x y) t false os none K (.bool false)=cm C dst os K (h7 C (J l) T a6 (ax (J l) x) (ax (J l) y))):=
 ⟨fun x _=>(du rfl).trans (congrArg _ (oT x)),fun x _=>(du rfl).trans (congrArg _ (oT x)),fun x _=>(du rfl).trans (congrArg _ (oU x)),fun x _=>(du rfl).trans (congrArg _ (oU x)),fun c x y _=>(du rfl).trans (congrArg _ (oV c x y)),fun c x y _=>(du rfl).trans (congrArg _ (oV c x y)),fun T _=>(du rfl).trans (congrArg _ (oW T)),fun T _=>(du rfl).trans (congrArg _ (oW T)),fun T x _=>(du rfl).trans (congrArg _ (oX T x)),fun T x _=>(du rfl).trans (congrArg _ (oX T x)),fun T ps _=>(du rfl).trans (congrArg _ (oY T ps)),fun T ps _=>(du rfl).trans (congrArg _ (oY T ps)),fun T n ps _=>(du rfl).trans (congrArg _ (oZ T n ps)),fun T n ps _=>(du rfl).trans (congrArg _ (oZ T n ps)),fun T x _=>(du rfl).trans (congrArg _ (o0 T x)),fun T x _=>(du rfl).trans (congrArg _ (o0 T x)),fun T x y _=>(du rfl).trans (congrArg _ (o1 T x y)),fun T x y _=>(du rfl).trans (congrArg _ (o1 T x y)),fun x _=>(du rfl).trans (congrArg _ (o2 x)),fun x _=>(du rfl).trans (congrArg _ (o2 x)),fun op T x y _=>(du rfl).trans (congrArg _ (o3 op T x y)),fun op T x y _=>(du rfl).trans (congrArg _ (o3 op T x y)),fun op x _=>(du rfl).trans (congrArg _ (o4 op x)),fun op x _=>(du rfl).trans (congrArg _ (o4 op x)),fun A B x _=>(du rfl).trans (congrArg _ (o5 A B x)),fun A B x _=>(du rfl).trans (congrArg _ (o5 A B x)),fun f cs _=>(du rfl).trans (congrArg _ (o6 f cs)),fun f cs _=>(du rfl).trans (congrArg _ (o6 f cs)),fun T x y _=>(du rfl).trans (congrArg _ (o7 T x y)),fun T x y _=>(du rfl).trans (congrArg _ (o7 T x y)),fun T x bw az _=>(du rfl).trans (congrArg _ (o8 T x bw az)),fun T x bw az _=>(du rfl).trans (congrArg _ (o8 T x bw az)),fun T x k _=>(du rfl).trans (congrArg _ (o9 T x k)),fun T x k _=>(du rfl).trans (congrArg _ (o9 T x k)),fun T x y _=>(du rfl).trans (congrArg _ (o_ T x y)),fun T x y _=>(du rfl).trans (congrArg _ (o_ T x y)),fun T x y _=>(du rfl).trans (congrArg _ (pa T x y)),fun T x y _=>(du rfl).trans (congrArg _ (pa T x y)),fun x k _=>(du rfl).trans (congrArg _ (pb x k)),fun x k _=>(du rfl).trans (congrArg _ (pb x k)),fun T x _=>(du rfl).trans (congrArg _ (pc T x)),fun T x _=>(du rfl).trans (congrArg _ (pc T x)),fun T a6 x y _=>(du rfl).trans (congrArg _ (pd T a6 x y)),fun T a6 x y _=>(du rfl).trans (congrArg _ (pd T a6 x y))⟩
theorem Gv:
  (∀(x:au) (t:Nat),bB C l dst (.cq x) t true os (some a) K (.bool true)=cn C l (t::use (J l) (.cq x)) (b3 (J l) (.cq x)) dst os a K (some (ax (J l) x,J l)))∧
  (∀(x:au) (t:Nat),bB C l dst (.cq x) t false os (some a) K (.bool false)=cn C l (t::use (J l) (.cq x)) (b3 (J l) (.cq x)) dst os a K (some (ax (J l) x,J l)))∧
  (∀(x:au) (t:Nat),bB C l dst (.fk x) t true os (some a) K (.bool true)=cn C l (t::use (J l) (.fk x)) (b3 (J l) (.fk x)) dst os a K (fY (J l) (ax (J l) x)))∧
  (∀(x:au) (t:Nat),bB C l dst (.fk x) t false os (some a) K (.bool false)=cn C l (t::use (J l) (.fk x)) (b3 (J l) (.fk x)) dst os a K (fY (J l) (ax (J l) x)))∧
  (∀(c x y:au) (t:Nat),bB C l dst (.pick c x y) t true os (some a) K (.bool true)=cn C l (t::use (J l) (.pick c x y)) (b3 (J l) (.pick c x y)) dst os a K (mL (J l) (ax (J l) c) (ax (J l) x) (ax (J l) y)))∧
  (∀(c x y:au) (t:Nat),bB C l dst (.pick c x y) t false os (some a) K (.bool false)=cn C l (t::use (J l) (.pick c x y)) (b3 (J l) (.pick c x y)) dst os a K (mL (J l) (ax (J l) c) (ax (J l) x) (ax (J l) y)))∧
  (∀(T:TypeId) (t:Nat),bB C l dst (.eK T) t true os (some a) K (.bool true)=cn C l (t::use (J l) (.eK T)) (b3 (J l) (.eK T)) dst os a K (bS (J l) (eK C T)))∧
  (∀(T:TypeId) (t:Nat),bB C l dst (.eK T) t false os (some a) K (.bool false)=cn C l (t::use (J l) (.eK T)) (b3 (J l) (.eK T)) dst os a K (bS (J l) (eK C T)))∧
  (∀(T:TypeId) (x:au) (t:Nat),bB C l dst (.dq T x) t true os (some a) K (.bool true)=cn C l (t::use (J l) (.dq T x)) (b3 (J l) (.dq T x)) dst os a K (dq (J l) (ax (J l) x)))∧
  (∀(T:TypeId) (x:au) (t:Nat),bB C l dst (.dq T x) t false os (some a) K (.bool false)=cn C l (t::use (J l) (.dq T x)) (b3 (J l) (.dq T x)) dst os a K (dq (J l) (ax (J l) x)))∧
  (∀(T:TypeId) (ps:List (Nat×au)) (t:Nat),bB C l dst (.cL T ps) t true os (some a) K (.bool true)=cn C l (t::use (J l) (.cL T ps)) (b3 (J l) (.cL T ps)) dst os a K (cL C (J l) T (gH (J l) ps)))∧
  (∀(T:TypeId) (ps:List (Nat×au)) (t:Nat),bB C l dst (.cL T ps) t false os (some a) K (.bool false)=cn C l (t::use (J l) (.cL T ps)) (b3 (J l) (.cL T ps)) dst os a K (cL C (J l) T (gH (J l) ps)))∧
  (∀(T:TypeId) (n:Nat) (ps:List (Nat×au)) (t:Nat),bB C l dst (.c0 T n ps) t true os (some a) K (.bool true)=cn C l (t::use (J l) (.c0 T n ps)) (b3 (J l) (.c0 T n ps)) dst os a K (c0 C (J l) T n (gH (J l) ps)))∧
  (∀(T:TypeId) (n:Nat) (ps:List (Nat×au)) (t:Nat),bB C l dst (.c0 T n ps) t false os (some a) K (.bool false)=cn C l (t::use (J l) (.c0 T n ps)) (b3 (J l) (.c0 T n ps)) dst os a K (c0 C (J l) T n (gH (J l) ps)))∧
  (∀(T:TypeId) (x:au) (t:Nat),bB C l dst (.cM T x) t true os (some a) K (.bool true)=cn C l (t::use (J l) (.cM T x)) (b3 (J l) (.cM T x)) dst os a K (bS (J l) (cM C (J l) T (ax (J l) x))))∧
  (∀(T:TypeId) (x:au) (t:Nat),bB C l dst (.cM T x) t false os (some a) K (.bool false)=cn C l (t::use (J l) (.cM T x)) (b3 (J l) (.cM T x)) dst os a K (bS (J l) (cM C (J l) T (ax (J l) x))))∧
  (∀(T:TypeId) (x y:au) (t:Nat),bB C l dst (.dW T x y) t true os (some a) K (.bool true)=cn C l (t::use (J l) (.dW T x y)) (b3 (J l) (.dW T x y)) dst os a K (hK (dW C (J l) T (ax (J l) x) (ax (J l) y))))∧
  (∀(T:TypeId) (x y:au) (t:Nat),bB C l dst (.dW T x y) t false os (some a) K (.bool false)=cn C l (t::use (J l) (.dW T x y)) (b3 (J l) (.dW T x y)) dst os a K (hK (dW C (J l) T (ax (J l) x) (ax (J l) y))))∧
  (∀(x:au) (t:Nat),bB C l dst (.ed x) t true os (some a) K (.bool true)=cn C l (t::use (J l) (.ed x)) (b3 (J l) (.ed x)) dst os a K (bS (J l) (ed (J l) (ax (J l) x))))∧
  (∀(x:au) (t:Nat),bB C l dst (.ed x) t false os (some a) K (.bool false)=cn C l (t::use (J l) (.ed x)) (b3 (J l) (.ed x)) dst os a K (bS (J l) (ed (J l) (ax (J l) x))))∧
  (∀(op:BinOp) (T:TypeId) (x y:au) (t:Nat),bB C l dst (.bP op T x y) t true os (some a) K (.bool true)=cn C l (t::use (J l) (.bP op T x y)) (b3 (J l) (.bP op T x y)) dst os a K (bS (J l) (bP C (J l) op T (ax (J l) x) (ax (J l) y))))∧
  (∀(op:BinOp) (T:TypeId) (x y:au) (t:Nat),bB C l dst (.bP op T x y) t false os (some a) K (.bool false)=cn C l (t::use (J l) (.bP op T x y)) (b3 (J l) (.bP op T x y)) dst os a K (bS (J l) (bP C (J l) op T (ax (J l) x) (ax (J l) y))))∧
  (∀(op:UnOp) (x:au) (t:Nat),bB C l dst (.un op x) t true os (some a) K (.bool true)=cn C l (t::use (J l) (.un op x)) (b3 (J l) (.un op x)) dst os a K (bS (J l) (un op (ax (J l) x))))∧
  (∀(op:UnOp) (x:au) (t:Nat),bB C l dst (.un op x) t false os (some a) K (.bool false)=cn C l (t::use (J l) (.un op x)) (b3 (J l) (.un op x)) dst os a K (bS (J l) (un op (ax (J l) x))))∧
  (∀(A B:TypeId) (x:au) (t:Nat),bB C l dst (.dD A B x) t true os (some a) K (.bool true)=cn C l (t::use (J l) (.dD A B x)) (b3 (J l) (.dD A B x)) dst os a K (bS (J l) (dD C (J l) A B (ax (J l) x))))∧
  (∀(A B:TypeId) (x:au) (t:Nat),bB C l dst (.dD A B x) t false os (some a) K (.bool false)=cn C l (t::use (J l) (.dD A B x)) (b3 (J l) (.dD A B x)) dst os a K (bS (J l) (dD C (J l) A B (ax (J l) x))))∧
  (∀(f:FuncId) (cs:List au) (t:Nat),bB C l dst (.gR f cs) t true os (some a) K (.bool true)=cn C l (t::use (J l) (.gR f cs)) (b3 (J l) (.gR f cs)) dst os a K (some (.fn f (fC (J l) cs),J l)))∧
  (∀(f:FuncId) (cs:List au) (t:Nat),bB C l dst (.gR f cs) t false os (some a) K (.bool false)=cn C l (t::use (J l) (.gR f cs)) (b3 (J l) (.gR f cs)) dst os a K (some (.fn f (fC (J l) cs),J l)))∧
  (∀(T:TypeId) (x y:au) (t:Nat),bB C l dst (.fe T x y) t true os (some a) K (.bool true)=cn C l (t::use (J l) (.fe T x y)) (b3 (J l) (.fe T x y)) dst os a K (bS (J l) (fe C T (ax (J l) x) (ax (J l) y))))∧
  (∀(T:TypeId) (x y:au) (t:Nat),bB C l dst (.fe T x y) t false os (some a) K (.bool false)=cn C l (t::use (J l) (.fe T x y)) (b3 (J l) (.fe T x y)) dst os a K (bS (J l) (fe C T (ax (J l) x) (ax (J l) y))))∧
  (∀(T:TypeId) (x:au) (bw az:Option au) (t:Nat),bB C l dst (.cU T x bw az) t true os (some a) K (.bool true)=cn C l (t::use (J l) (.cU T x bw az)) (b3 (J l) (.cU T x bw az)) dst os a K (cU C (J l) T (ax (J l) x) (hv (J l) bw) (hv (J l) az)))∧
  (∀(T:TypeId) (x:au) (bw az:Option au) (t:Nat),bB C l dst (.cU T x bw az) t false os (some a) K (.bool false)=cn C l (t::use (J l) (.cU T x bw az)) (b3 (J l) (.cU T x bw az)) dst os a K (cU C (J l) T (ax (J l) x) (hv (J l) bw) (hv (J l) az)))∧
  (∀(T:TypeId) (x:au) (k:Nat) (t:Nat),bB C l dst (.dC T x k) t true os (some a) K (.bool true)=cn C l (t::use (J l) (.dC T x k)) (b3 (J l) (.dC T x k)) dst os a K (bS (J l) (dC C (J l) T (ax (J l) x) k)))∧
  (∀(T:TypeId) (x:au) (k:Nat) (t:Nat),bB C l dst (.dC T x k) t false os (some a) K (.bool false)=cn C l (t::use (J l) (.dC T x k)) (b3 (J l) (.dC T x k)) dst os a K (bS (J l) (dC C (J l) T (ax (J l) x) k)))∧
  (∀(T:TypeId) (x y:au) (t:Nat),bB C l dst (.dK T x y) t true os (some a) K (.bool true)=cn C l (t::use (J l) (.dK T x y)) (b3 (J l) (.dK T x y)) dst os a K (bS (J l) (dK C (J l) T (ax (J l) x) (ax (J l) y))))∧
  (∀(T:TypeId) (x y:au) (t:Nat),bB C l dst (.dK T x y) t false os (some a) K (.bool false)=cn C l (t::use (J l) (.dK T x y)) (b3 (J l) (.dK T x y)) dst os a K (bS (J l) (dK C (J l) T (ax (J l) x) (ax (J l) y))))∧
  (∀(T:TypeId) (x y:au) (t:Nat),bB C l dst (.idx T x y) t true os (some a) K (.bool true)=cn C l (t::use (J l) (.idx T x y)) (b3 (J l) (.idx T x y)) dst os a K (bS (J l) (idx C T (ax (J l) x) (ax (J l) y))))∧
  (∀(T:TypeId) (x y:au) (t:Nat),bB C l dst (.idx T x y) t false os (some a) K (.bool false)=cn C l (t::use (J l) (.idx T x y)) (b3 (J l) (.idx T x y)) dst os a K (bS (J l) (idx C T (ax (J l) x) (ax (J l) y))))∧
  (∀(x:au) (k:Nat) (t:Nat),bB C l dst (.ex x k) t true os (some a) K (.bool true)=cn C l (t::use (J l) (.ex x k)) (b3 (J l) (.ex x k)) dst os a K (bS (J l) (ex (J l) (ax (J l) x) k)))∧
  (∀(x:au) (k:Nat) (t:Nat),bB C l dst (.ex x k) t false os (some a) K (.bool false)=cn C l (t::use (J l) (.ex x k)) (b3 (J l) (.ex x k)) dst os a K (bS (J l) (ex (J l) (ax (J l) x) k)))∧
  (∀(T:TypeId) (x:au) (t:Nat),bB C l dst (.len T x) t true os (some a) K (.bool true)=cn C l (t::use (J l) (.len T x)) (b3 (J l) (.len T x)) dst os a K (bS (J l) (h6 C (J l) T (ax (J l) x))))∧
  (∀(T:TypeId) (x:au) (t:Nat),bB C l dst (.len T x) t false os (some a) K (.bool false)=cn C l (t::use (J l) (.len T x)) (b3 (J l) (.len T x)) dst os a K (bS (J l) (h6 C (J l) T (ax (J l) x))))∧
  (∀(T a6:TypeId) (x y:au) (t:Nat),bB C l dst (.app T a6 x y) t true os (some a) K (.bool true)=cn C l (t::use (J l) (.app T a6 x y)) (b3 (J l) (.app T a6 x y)) dst os a K (h7 C (J l) T a6 (ax (J l) x) (ax (J l) y)))∧
  (∀(T a6:TypeId) (x y:au) (t:Nat),bB C l dst (.app T a6 x y) t false os (some a) K (.bool false)=cn C l (t::use (J l) (.app T a6 x y)) (b3 (J l) (.app T a6 x y)) dst os a K (h7 C (J l) T a6 (ax (J l) x) (ax (J l) y))):=
 ⟨fun x _=>(dv rfl).trans (congrArg _ (oT x)),fun x _=>(dv rfl).trans (congrArg _ (oT x)),fun x _=>(dv rfl).trans (congrArg _ (oU x)),fun x _=>(dv rfl).trans (congrArg _ (oU x)),fun c x y _=>(dv rfl).trans (congrArg _ (oV c x y)),fun c x y _=>(dv rfl).trans (congrArg _ (oV c x y)),fun T _=>(dv rfl).trans (congrArg _ (oW T)),fun T _=>(dv rfl).trans (congrArg _ (oW T)),fun T x _=>(dv rfl).trans (congrArg _ (oX T x)),fun T x _=>(dv rfl).trans (congrArg _ (oX T x)),fun T ps _=>(dv rfl).trans (congrArg _ (oY T ps)),fun T ps _=>(dv rfl).trans (congrArg _ (oY T ps)),fun T n ps _=>(dv rfl).trans (congrArg _ (oZ T n ps)),fun T n ps _=>(dv rfl).trans (congrArg _ (oZ T n ps)),fun T x _=>(dv rfl).trans (congrArg _ (o0 T x)),fun T x _=>(dv rfl).trans (congrArg _ (o0 T x)),fun T x y _=>(dv rfl).trans (congrArg _ (o1 T x y)),fun T x y _=>(dv rfl).trans (congrArg _ (o1 T x y)),fun x _=>(dv rfl).trans (congrArg _ (o2 x)),fun x _=>(dv rfl).trans (congrArg _ (o2 x)),fun op T x y _=>(dv rfl).trans (congrArg _ (o3 op T x y)),fun op T x y _=>(dv rfl).trans (congrArg _ (o3 op T x y)),fun op x _=>(dv rfl).trans (congrArg _ (o4 op x)),fun op x _=>(dv rfl).trans (congrArg _ (o4 op x)),fun A B x _=>(dv rfl).trans (congrArg _ (o5 A B x)),fun A B x _=>(dv rfl).trans (congrArg _ (o5 A B x)),fun f cs _=>(dv rfl).trans (congrArg _ (o6 f cs)),fun f cs _=>(dv rfl).trans (congrArg _ (o6 f cs)),fun T x y _=>(dv rfl).trans (congrArg _ (o7 T x y)),fun T x y _=>(dv rfl).trans (congrArg _ (o7 T x y)),fun T x bw az _=>(dv rfl).trans (congrArg _ (o8 T x bw az)),fun T x bw az _=>(dv rfl).trans (congrArg _ (o8 T x bw az)),fun T x k _=>(dv rfl).trans (congrArg _ (o9 T x k)),fun T x k _=>(dv rfl).trans (congrArg _ (o9 T x k)),fun T x y _=>(dv rfl).trans (congrArg _ (o_ T x y)),fun T x y _=>(dv rfl).trans (congrArg _ (o_ T x y)),fun T x y _=>(dv rfl).trans (congrArg _ (pa T x y)),fun T x y _=>(dv rfl).trans (congrArg _ (pa T x y)),fun x k _=>(dv rfl).trans (congrArg _ (pb x k)),fun x k _=>(dv rfl).trans (congrArg _ (pb x k)),fun T x _=>(dv rfl).trans (congrArg _ (pc T x)),fun T x _=>(dv rfl).trans (congrArg _ (pc T x)),fun T a6 x y _=>(dv rfl).trans (congrArg _ (pd T a6 x y)),fun T a6 x y _=>(dv rfl).trans (congrArg _ (pd T a6 x y))⟩
end
theorem zJ:
  (∀(t:Nat) (k:IntKind) (n:Int),fN t (.int k n)=(.int k n))∧
  (∀(t:Nat) (b:Bool),fN t (.bool b)=(.bool b))∧
  (∀(t:Nat) (x:List UInt8),fN t (.str x)=(.str x))∧
  (∀(t:Nat) (xs:List j),fN t (.slice xs)=(.slice xs))∧
  (∀(t:Nat) (d:j),fN t (.ref d)=(.ref d))∧
  (∀(t:Nat) (f:FuncId) (cap:List j),fN t (.fn f cap)=(.fn f cap))∧
  (∀(t:Nat) (x:Nat) (q:List Nat),fN t (.h x q)=(.h x q))∧
  (∀(t:Nat) (x:Nat) (q:List Nat),fN t (.an x q)=(.an x q))∧
  (∀(t:Nat),fN t .ck= .ck)∧
  (∀(t:Nat),fN t .bG= .bG)∧
  (∀(t:Nat),fN t .c1= .c1)∧
  (∀(t:Nat),fN t .hole= .hole)∧
  (∀(t:Nat) (sz:Nat) (xs:List j),fN t (.aK sz xs)= .h t [])∧
  (∀(t:Nat) (d:j),fN t (.bc d)= .h t [])∧
  (∀(t:Nat) (ag:List j),fN t (.agg ag)=if j.dA ag=true then(.agg ag)else .h t [])∧
  (∀(t:Nat) (ag:List j),fN t (.tuple ag)=if j.dA ag=true then(.tuple ag)else .h t []):=
 ⟨fun _ _ _=>rfl,fun _ _=>rfl,fun _ _=>rfl,fun _ _=>rfl,fun _ _=>rfl,fun _ _ _=>rfl,fun _ _ _=>rfl,fun _ _ _=>rfl,fun _=>rfl,fun _=>rfl,fun _=>rfl,fun _=>rfl,fun _ _ _=>rfl,fun _ _=>rfl,fun _ _=>rfl,fun _ _=>rfl⟩
theorem zK:
  (∀(l:List (Nat×j)) (av:j),fin (J l) none av=J l)∧
  (∀(l:List (Nat×j)) (t:Nat) (k:IntKind) (n:Int),fin (J l) (some t) (.int k n)=J ((t,(.int k n))::l))∧
  (∀(l:List (Nat×j)) (t:Nat) (b:Bool),fin (J l) (some t) (.bool b)=J ((t,(.bool b))::l))∧
  (∀(l:List (Nat×j)) (t:Nat) (x:List UInt8),fin (J l) (some t) (.str x)=J ((t,(.str x))::l))∧
  (∀(l:List (Nat×j)) (t:Nat) (xs:List j),fin (J l) (some t) (.slice xs)=J ((t,(.slice xs))::l))∧
  (∀(l:List (Nat×j)) (t:Nat) (d:j),fin (J l) (some t) (.ref d)=J ((t,(.ref d))::l))∧
  (∀(l:List (Nat×j)) (t:Nat) (f:FuncId) (cap:List j),fin (J l) (some t) (.fn f cap)=J ((t,(.fn f cap))::l))∧
  (∀(l:List (Nat×j)) (t:Nat) (x:Nat) (q:List Nat),fin (J l) (some t) (.h x q)=J ((t,(.h x q))::l))∧
  (∀(l:List (Nat×j)) (t:Nat) (x:Nat) (q:List Nat),fin (J l) (some t) (.an x q)=J ((t,(.an x q))::l))∧
  (∀(l:List (Nat×j)) (t:Nat),fin (J l) (some t) .ck=J ((t,.ck)::l))∧
  (∀(l:List (Nat×j)) (t:Nat),fin (J l) (some t) .bG=J ((t,.bG)::l))∧
  (∀(l:List (Nat×j)) (t:Nat),fin (J l) (some t) .c1=J ((t,.c1)::l))∧
  (∀(l:List (Nat×j)) (t:Nat),fin (J l) (some t) .hole=J ((t,.hole)::l))∧
  (∀(l:List (Nat×j)) (t:Nat) (sz:Nat) (xs:List j),fin (J l) (some t) (.aK sz xs)=J ((t,(.aK sz xs))::jH t l))∧
  (∀(l:List (Nat×j)) (t:Nat) (d:j),fin (J l) (some t) (.bc d)=J ((t,(.bc d))::jH t l))∧
  (∀(l:List (Nat×j)) (t:Nat) (ag:List j),fin (J l) (some t) (.agg ag)=J ((t,(.agg ag))::if j.dA ag=true then l else jH t l))∧
  (∀(l:List (Nat×j)) (t:Nat) (ag:List j),fin (J l) (some t) (.tuple ag)=J ((t,(.tuple ag))::if j.dA ag=true then l else jH t l)):=
 ⟨fun _ _=>rfl,fun l t _ _=>by simp only[fin,j.plain,if_true,g5],fun l t _=>by simp only[fin,j.plain,if_true,g5],fun l t _=>by simp only[fin,j.plain,if_true,g5],fun l t _=>by simp only[fin,j.plain,if_true,g5],fun l t _=>by simp only[fin,j.plain,if_true,g5],fun l t _ _=>by simp only[fin,j.plain,if_true,g5],fun l t _ _=>by simp only[fin,j.plain,if_true,g5],fun l t _ _=>by simp only[fin,j.plain,if_true,g5],fun l t=>by simp only[fin,j.plain,if_true,g5],fun l t=>by simp only[fin,j.plain,if_true,g5],fun l t=>by simp only[fin,j.plain,if_true,g5],fun l t=>by simp only[fin,j.plain,if_true,g5],fun l t _ _=>by simp only[fin,j.plain,Bool.false_eq_true,if_false,oP,g5],fun l t _=>by simp only[fin,j.plain,Bool.false_eq_true,if_false,oP,g5],fun l t _=>by simp only[fin,j.plain,oP,g5];split<;>rfl,fun l t _=>by simp only[fin,j.plain,oP,g5];split<;>rfl⟩
theorem zL:
  (∀(k:IntKind) (n:Int),j.plain (.int k n)=true)∧
  (∀(b:Bool),j.plain (.bool b)=true)∧
  (∀(x:List UInt8),j.plain (.str x)=true)∧
  (∀(xs:List j),j.plain (.slice xs)=true)∧
  (∀(d:j),j.plain (.ref d)=true)∧
  (∀(f:FuncId) (cap:List j),j.plain (.fn f cap)=true)∧
  (∀(x:Nat) (q:List Nat),j.plain (.h x q)=true)∧
  (∀(x:Nat) (q:List Nat),j.plain (.an x q)=true)∧
  (j.plain .ck=true)∧
  (j.plain .bG=true)∧
  (j.plain .c1=true)∧
  (j.plain .hole=true)∧
  (∀(sz:Nat) (xs:List j),j.plain (.aK sz xs)=false)∧
  (∀(d:j),j.plain (.bc d)=false)∧
  (∀(ag:List j),j.plain (.agg ag)=j.dA ag)∧
  (∀(ag:List j),j.plain (.tuple ag)=j.dA ag)∧
  (j.dA []=true)∧
  (∀d ds,j.dA (d::ds)=(d.plain&&j.dA ds)):=
 ⟨fun _ _=>rfl,fun _=>rfl,fun _=>rfl,fun _=>rfl,fun _=>rfl,fun _ _=>rfl,fun _ _=>rfl,fun _ _=>rfl,rfl,rfl,rfl,rfl,fun _ _=>rfl,fun _=>rfl,fun _=>rfl,fun _=>rfl,rfl,fun _ _=>rfl⟩
theorem zM:
  (∀(s:af) (k:IntKind) (n:Int),fY s (.int k n)=some ((.int k n),s))∧
  (∀(s:af) (b:Bool),fY s (.bool b)=some ((.bool b),s))∧
  (∀(s:af) (x:List UInt8),fY s (.str x)=some ((.str x),s))∧
  (∀(s:af) (xs:List j),fY s (.slice xs)=some ((.slice xs),s))∧
  (∀(s:af) (d:j),fY s (.ref d)=some ((.ref d),s))∧
  (∀(s:af) (f:FuncId) (cap:List j),fY s (.fn f cap)=some ((.fn f cap),s))∧
  (∀(s:af) (x:Nat) (q:List Nat),fY s (.an x q)=some ((.an x q),s))∧
  (∀(s:af),fY s .ck=some (.ck,s))∧
  (∀(s:af),fY s .bG=some (.bG,s))∧
  (∀(s:af),fY s .c1=some (.c1,s))∧
  (∀(s:af),fY s .hole=some (.hole,s))∧
  (∀(s:af) (sz:Nat) (xs:List j),fY s (.aK sz xs)=some ((.aK sz xs),s))∧
  (∀(s:af) (d:j),fY s (.bc d)=some ((.bc d),s))∧
  (∀(s:af) (ag:List j),fY s (.agg ag)=some ((.agg ag),s))∧
  (∀(s:af) (ag:List j),fY s (.tuple ag)=some ((.tuple ag),s))∧
  (∀(s:af) y q,fY s (.h y q)=bL s (.h y q)):=
 ⟨fun _ _ _=>rfl,fun _ _=>rfl,fun _ _=>rfl,fun _ _=>rfl,fun _ _=>rfl,fun _ _ _=>rfl,fun _ _ _=>rfl,fun _=>rfl,fun _=>rfl,fun _=>rfl,fun _=>rfl,fun _ _ _=>rfl,fun _ _=>rfl,fun _ _=>rfl,fun _ _=>rfl,fun _ _ _=>rfl⟩
theorem zN:
  (∀(t:Nat) (k:IntKind) (n:Int),bK t (.int k n)=(.int k n))∧
  (∀(t:Nat) (b:Bool),bK t (.bool b)=(.bool b))∧
  (∀(t:Nat) (x:List UInt8),bK t (.str x)=(.str x))∧
  (∀(t:Nat) (xs:List j),bK t (.slice xs)=(.slice xs))∧
  (∀(t:Nat) (d:j),bK t (.ref d)=(.ref d))∧
  (∀(t:Nat),bK t .ck= .ck)∧
  (∀(t:Nat),bK t .bG= .bG)∧
  (∀(t:Nat),bK t .c1= .c1)∧
  (∀(t:Nat),bK t .hole= .hole)∧
  (∀(t:Nat) (sz:Nat) (xs:List j),bK t (.aK sz xs)=(.aK sz xs))∧
  (∀(t:Nat) (d:j),bK t (.bc d)=(.bc d))∧
  (∀(t:Nat) (ag:List j),bK t (.agg ag)=(.agg ag))∧
  (∀(t:Nat) (ag:List j),bK t (.tuple ag)=(.tuple ag))∧
  (∀(t y:Nat) q,bK t (.h y q)=if y=t then .hole else .h y q)∧
  (∀(t y:Nat) q,bK t (.an y q)=if y=t then .hole else .an y q)∧
  (∀(t:Nat) f c,bK t (.fn f c)= .fn f (fM t c))∧
  (∀t,fM t []=[])∧
  (∀t d ds,fM t (d::ds)=bK t d::fM t ds)∧
  (∀t,jH t []=[])∧
  (∀t u d l,jH t ((u,d)::l)=(u,bK t d)::jH t l)∧
  (∀t l,hD t (J l)=J (jH t l)):=
 ⟨fun _ _ _=>by unfold bK;rfl,fun _ _=>by unfold bK;rfl,fun _ _=>by unfold bK;rfl,fun _ _=>by unfold bK;rfl,fun _ _=>by unfold bK;rfl,fun _=>by unfold bK;rfl,fun _=>by unfold bK;rfl,fun _=>by unfold bK;rfl,fun _=>by unfold bK;rfl,fun _ _ _=>by unfold bK;rfl,fun _ _=>by unfold bK;rfl,fun _ _=>by unfold bK;rfl,fun _ _=>by unfold bK;rfl,fun _ _ _=>by unfold bK;rfl,fun _ _ _=>by unfold bK;rfl,fun _ _ _=>by simp only[bK],fun _=>by simp only[fM],fun _ _ _=>by simp only[fM],fun _=>rfl,fun _ _ _ _=>rfl,fun t l=>oP t l⟩
theorem zO:
  (∀(t:Nat) (k:IntKind) (n:Int),bo t (.int k n)=(.int k n))∧
  (∀(t:Nat) (b:Bool),bo t (.bool b)=(.bool b))∧
  (∀(t:Nat) (x:List UInt8),bo t (.str x)=(.str x))∧
  (∀(t:Nat) (xs:List j),bo t (.slice xs)=(.slice xs))∧
  (∀(t:Nat) (d:j),bo t (.ref d)=(.ref d))∧
  (∀(t:Nat),bo t .ck= .ck)∧
  (∀(t:Nat),bo t .bG= .bG)∧
  (∀(t:Nat),bo t .c1= .c1)∧
  (∀(t:Nat),bo t .hole= .hole)∧
  (∀(t:Nat) (sz:Nat) (xs:List j),bo t (.aK sz xs)=(.aK sz xs))∧
  (∀(t:Nat) (d:j),bo t (.bc d)=(.bc d))∧
  (∀(t:Nat) (ag:List j),bo t (.agg ag)=(.agg ag))∧
  (∀(t:Nat) (ag:List j),bo t (.tuple ag)=(.tuple ag))∧
  (∀(t y:Nat),bo t (.h y [])= .h y [])∧
  (∀(t y k:Nat) q,bo t (.h y (k::q))=if y=t then .hole else .h y (k::q))∧
  (∀(t y:Nat) q,bo t (.an y q)=if y=t then .hole else .an y q)∧
  (∀(t:Nat) f c,bo t (.fn f c)= .fn f (fv t c))∧
  (∀t,fv t []=[])∧
  (∀t d ds,fv t (d::ds)=bo t d::fv t ds)∧
  (∀t,nN t []=[])∧
  (∀t u d l,nN t ((u,d)::l)=(u,bo t d)::nN t l)∧
  (∀t l,e_ t (J l)=J (nN t l)):=
 ⟨fun _ _ _=>by unfold bo;rfl,fun _ _=>by unfold bo;rfl,fun _ _=>by unfold bo;rfl,fun _ _=>by unfold bo;rfl,fun _ _=>by unfold bo;rfl,fun _=>by unfold bo;rfl,fun _=>by unfold bo;rfl,fun _=>by unfold bo;rfl,fun _=>by unfold bo;rfl,fun _ _ _=>by unfold bo;rfl,fun _ _=>by unfold bo;rfl,fun _ _=>by unfold bo;rfl,fun _ _=>by unfold bo;rfl,fun _ _=>by simp[bo],fun _ _ _ _=>by simp[bo],fun _ _ _=>by unfold bo;rfl,fun _ _ _=>by simp only[bo],fun _=>by simp only[fv],fun _ _ _=>by simp only[fv],fun _=>rfl,fun _ _ _ _=>rfl,fun t l=>FP t l⟩
def vO:jk→Bool→Option j
 | .bool,b=>some (.bool b)
 |_,_=>none
def nS (neg:Bool):jk→Option (Option Bool)→Option j
 | .slice _,some r=>some (qn neg r)
 |_,_=>none
def nT (neg:Bool):jk→Option Bool→Option j
 | .ptr _,some b=>some (.bool (b !=neg))
 |_,_=>none
theorem zP (C:bq) (s:af) (T:TypeId):
  (∀op k a bY b,bP C s op T (.int k a) (.int bY b)=eU op k a bY b)∧
  (∀op a b,bP C s op T (.str a) (.str b)=i1 op a b)∧
  (∀a b,bP C s .eql T (.bool a) (.bool b)=vO (C.T T).k (a==b))∧
  (∀a b,bP C s .neq T (.bool a) (.bool b)=vO (C.T T).k (!(a==b)))∧
  (∀xs,bP C s .eql T (.slice xs) .bG=nS false (C.T T).k (hj s (.slice xs)))∧
  (∀xs,bP C s .neq T (.slice xs) .bG=nS true (C.T T).k (hj s (.slice xs)))∧
  (bP C s .eql T .bG .bG=nS false (C.T T).k (hj s .bG))∧
  (bP C s .neq T .bG .bG=nS true (C.T T).k (hj s .bG))∧
  (∀x q,bP C s .eql T (.h x q) .bG=nS false (C.T T).k (hj s (.h x q)))∧
  (∀x q,bP C s .neq T (.h x q) .bG=nS true (C.T T).k (hj s (.h x q)))∧
  (∀x q,bP C s .eql T (.h x q) .ck=nT false (C.T T).k (hk s (.h x q)))∧
  (∀x q,bP C s .neq T (.h x q) .ck=nT true (C.T T).k (hk s (.h x q)))∧
  (∀d,bP C s .eql T (.ref d) .ck=nT false (C.T T).k (hk s (.ref d)))∧
  (∀d,bP C s .neq T (.ref d) .ck=nT true (C.T T).k (hk s (.ref d)))∧
  (bP C s .eql T .ck .ck=nT false (C.T T).k (hk s .ck))∧
  (bP C s .neq T .ck .ck=nT true (C.T T).k (hk s .ck)):=by
 refine⟨?_,?_,?_,?_,?_,?_,?_,?_,?_,?_,?_,?_,?_,?_,?_,?_⟩<;>intros<;>first
  |rfl
  |(simp only[bP]
    generalize (C.T T).k=h2
    cases h2<;>first|rfl|(simp only[nS];generalize hj s _=v;cases v<;>rfl)|(simp only[nT];generalize hk s _=v;cases v<;>(try (rename_i b;cases b))<;>rfl))
theorem zQ (k:IntKind) (a b:Int):
  eU .add k a k b=some (.int k (k.wrap (a+b)))∧eU .sub k a k b=some (.int k (k.wrap (a-b)))∧eU .mul k a k b=some (.int k (k.wrap (a*b)))∧
  eU .eql k a k b=some (.bool (a==b))∧eU .neq k a k b=some (.bool (a !=b))∧eU .lss k a k b=some (.bool (decide (a<b)))∧eU .leq k a k b=some (.bool (decide (a≤b)))∧
  eU .gtr k a k b=some (.bool (decide (b<a)))∧eU .geq k a k b=some (.bool (decide (b≤a)))∧
  eU .and k a k b=some (.int k (bitsOf .and k a b))∧eU .or k a k b=some (.int k (bitsOf .or k a b))∧eU .xor k a k b=some (.int k (bitsOf .xor k a b))∧eU .andNot k a k b=some (.int k (bitsOf .andNot k a b)):=by
 simp[eU]
theorem Gw {k:IntKind} {a b:Int} (h:b≠0):eU .quo k a k b=some (.int k (k.wrap (a.tdiv b))):=by simp[eU,h]
theorem Gx {k:IntKind} {a b:Int} (h:b≠0):eU .rem k a k b=some (.int k (a.tmod b)):=by simp[eU,h]
theorem Gy {k bY:IntKind} {a b:Int} (h:¬b<0):eU .shl k a bY b=some (.int k (k.wrap (a*2^(min b.toNat k.bits)))):=by simp[eU,h]
theorem Gz {k bY:IntKind} {a b:Int} (h:¬b<0):eU .shr k a bY b=some (.int k (a.fdiv (2^(min b.toNat k.bits)))):=by simp[eU,h]
theorem zR (a b:List UInt8):
  i1 .eql a b=some (.bool (a==b))∧i1 .neq a b=some (.bool !(a==b))∧i1 .lss a b=some (.bool (Op.bytesLess a b))∧
  i1 .leq a b=some (.bool (Op.bytesLess a b||a==b))∧i1 .gtr a b=some (.bool !(Op.bytesLess a b||a==b))∧i1 .geq a b=some (.bool !(Op.bytesLess a b)):=by
 refine⟨rfl,rfl,rfl,rfl,rfl,rfl⟩
theorem zS:(∀b,un .not (.bool b)=some (.bool !b))∧(un .not .c1=some .c1)∧(∀k n,un .neg (.int k n)=some (.int k (k.wrap (0-n)))):=⟨fun _=>rfl,rfl,fun _ _=>rfl⟩
def vP:jk→Option UInt8→Option j
 | .str,some c=>some (.int .u8 c.toNat)
 |_,_=>none
theorem zT (C:bq) (T:TypeId) (l:List UInt8) (k:IntKind) (n:Int):idx C T (.str l) (.int k n)=vP (C.T T).k (c7 l n):=by
 simp only[idx,c7]
 generalize (C.T T).k=h2
 cases h2<;>first|rfl|(simp only[vP];split<;>first|rfl|(cases l[n.toNat]? <;>rfl))
def vQ (C:bq):jk→Option j→Option j
 | .slice e,some d=>if(C.T e).ok=true∧d.wd=(C.T e).sz then some (.ref d)else none
 |_,_=>none
theorem zU (C:bq) (s:af) (T:TypeId) (xs:List j) (k:IntKind) (n:Int):dK C s T (.slice xs) (.int k n)=vQ C (C.T T).k (c7 xs n):=by
 simp only[dK,c7]
 generalize (C.T T).k=h2
 cases h2<;>first|rfl|skip
 simp only[vQ]
 by_cases bI:0≤n
 ·simp only[bI,true_and,if_true]
  split
  ·cases xs[n.toNat]? <;>simp[*]
  ·cases xs[n.toNat]? <;>simp[*]
 ·simp only[bI,false_and,if_false]
def q6 (C:bq) (y:Nat) (q:List Nat) (n:Int):jk→Option j→Option j
 | .slice e,some (.aK sz xs)=>if(c7 xs n).isSome=true∧(C.T e).ok=true∧sz=(C.T e).sz then some (.an y (q++[n.toNat]))else none
 |_,_=>none
theorem zV (C:bq) (s:af) (T:TypeId) (y:Nat) (q:List Nat) (k:IntKind) (n:Int):dK C s T (.h y q) (.int k n)=q6 C y q n (C.T T).k (j.sub q (s y)):=by
 simp only[dK]
 generalize (C.T T).k=h2
 cases h2<;>first|rfl|skip
 rename_i e
 cases R:j.sub q (s y)with
 |none=>simp[q6]
 |some d=>
  cases d<;>first
   |(simp[q6];done)
   |skip
  rename_i sz xs
  have aZ:(c7 xs n).isSome=true↔0≤n∧n.toNat<xs.length:=by
   unfold c7;split<;>simp_all<;>omega
  simp only[q6,aZ]
  by_cases bI:0≤n<;>by_cases U:(C.T e).ok=true<;>simp[bI,U]
def pe:jk→af→Option (List UInt8)→Option (j×af)
 | .str,s,some t=>some (.str t,s)
 |_,_,_=>none
def pf (C:bq):jk→af→List j→Option (List j)→Option (j×af)
 | .slice e,s,xs,some t=>if(C.T e).ok=true∧∀d∈xs,d.wd=(C.T e).sz then some (.slice t,s)else none
 |_,_,_,_=>none
theorem zW (C:bq) (s:af) (T:TypeId) (l:List UInt8):
  (∀k a bY b,cU C s T (.str l) (some (.int k a)) (some (.int bY b))=pe (C.T T).k s (eQ l a b))∧
  (∀bY b,cU C s T (.str l) none (some (.int bY b))=pe (C.T T).k s (eQ l 0 b))∧
  (∀k a,cU C s T (.str l) (some (.int k a)) none=pe (C.T T).k s (eQ l a l.length)):=by
 have e:∀(bw az:Option j) (a b:Int),(fu 0 bw=if 0≤a then some a.toNat else none)→(fu l.length az=if 0≤b then some b.toNat else none)→cU C s T (.str l) bw az=pe (C.T T).k s (eQ l a b):=by
  intro bw az a b U aa
  simp only[cU]
  generalize (C.T T).k=h2
  cases h2<;>first|rfl|skip
  simp only[U,aa,eQ]
  by_cases bU:0≤a<;>by_cases I:0≤b<;>simp only[bU,I,if_true,if_false,pe,true_and,false_and]
  ·by_cases ae:a≤b∧b≤l.length
   ·rw[if_pos ⟨by omega,by omega⟩,if_pos ae]
   ·rw[if_neg (fun h=>ae ⟨by omega,by omega⟩),if_neg ae]
  ·rw[if_neg (by omega)]
 exact⟨fun k a bY b=>e _ _ a b rfl rfl,fun bY b=>e _ _ 0 b rfl rfl,fun k a=>e _ _ a l.length rfl (by simp[fu])⟩
theorem zX (C:bq) (s:af) (T:TypeId) (xs:List j):
  (∀k a bY b,cU C s T (.slice xs) (some (.int k a)) (some (.int bY b))=pf C (C.T T).k s xs (eQ xs a b))∧
  (∀bY b,cU C s T (.slice xs) none (some (.int bY b))=pf C (C.T T).k s xs (eQ xs 0 b))∧
  (∀k a,cU C s T (.slice xs) (some (.int k a)) none=pf C (C.T T).k s xs (eQ xs a xs.length)):=by
 have e:∀(bw az:Option j) (a b:Int),(fu 0 bw=if 0≤a then some a.toNat else none)→(fu xs.length az=if 0≤b then some b.toNat else none)→cU C s T (.slice xs) bw az=pf C (C.T T).k s xs (eQ xs a b):=by
  intro bw az a b U aa
  simp only[cU]
  generalize (C.T T).k=h2
  cases h2<;>first|rfl|skip
  simp only[U,aa,eQ]
  by_cases bU:0≤a<;>by_cases I:0≤b<;>simp only[bU,I,if_true,if_false,pf,true_and,false_and]
  ·by_cases ae:a≤b∧b≤xs.length
   ·rw[if_pos ae]
    have U:a.toNat≤b.toNat:=by omega
    have aa:b.toNat≤xs.length:=by omega
    simp only[U,aa,true_and]
   ·rw[if_neg (fun h=>ae ⟨by omega,by omega⟩),if_neg ae]
  ·rw[if_neg (by omega)]
 exact⟨fun k a bY b=>e _ _ a b rfl rfl,fun bY b=>e _ _ 0 b rfl rfl,fun k a=>e _ _ a xs.length rfl (by simp[fu])⟩
def q7 (q:List Nat):Option j→Option j
 |some d=>j.sub q d
 |none=>none
theorem zY:(∀d,j.sub [] d=some d)∧(∀k q ag,j.sub (k::q) (.agg ag)=q7 q ag[k]?)∧(∀k q ag,j.sub (k::q) (.tuple ag)=q7 q ag[k]?)∧(∀k q sz xs,j.sub (k::q) (.aK sz xs)=q7 q xs[k]?)∧
  (∀q d,j.sub (0::q) (.bc d)=j.sub q d)∧(∀q d,q7 q (some d)=j.sub q d)∧
  (∀k q a b,j.sub (k::q) (.int a b)=none):=by
 refine⟨fun d=>by simp[j.sub],?_,?_,?_,fun q d=>by simp[j.sub],fun _ _=>rfl,fun _ _ _ _=>by simp[j.sub]⟩
 ·intro k q ag;simp only[j.sub];cases ag[k]? <;>rfl
 ·intro k q ag;simp only[j.sub];cases ag[k]? <;>rfl
 ·intro k q sz ag;simp only[j.sub];cases ag[k]? <;>rfl
def zZ (k:Nat) (q:List Nat) (n:j) (ag:List j):Option j→j
 |some d=>.agg (ag.set k (j.put q n d))
 |none=>.agg ag
def z1 (k:Nat) (q:List Nat) (n:j) (ag:List j):Option j→j
 |some d=>.tuple (ag.set k (j.put q n d))
 |none=>.tuple ag
def z2 (k:Nat) (q:List Nat) (n:j) (sz:Nat) (xs:List j):Option j→j
 |some d=>.aK sz (xs.set k (j.put q n d))
 |none=>.aK sz xs
theorem z5:(∀n d,j.put [] n d=n)∧(∀k q n ag,j.put (k::q) n (.agg ag)=zZ k q n ag ag[k]?)∧(∀k q n ag,j.put (k::q) n (.tuple ag)=z1 k q n ag ag[k]?)∧
  (∀k q n sz xs,j.put (k::q) n (.aK sz xs)=z2 k q n sz xs xs[k]?)∧(∀q n d,j.put (0::q) n (.bc d)= .bc (j.put q n d))∧
  (∀k q n ag d,zZ k q n ag (some d)= .agg (ag.set k (j.put q n d)))∧(∀k q n ag d,z1 k q n ag (some d)= .tuple (ag.set k (j.put q n d)))∧
  (∀k q n sz xs d,z2 k q n sz xs (some d)= .aK sz (xs.set k (j.put q n d))):=by
 refine⟨fun n d=>by simp[j.put],?_,?_,?_,fun q n d=>by simp[j.put],fun _ _ _ _ _=>rfl,fun _ _ _ _ _=>rfl,fun _ _ _ _ _ _=>rfl⟩
 ·intro k q n ag;simp only[j.put];cases ag[k]? <;>rfl
 ·intro k q n ag;simp only[j.put];cases ag[k]? <;>rfl
 ·intro k q n sz ag;simp only[j.put];cases ag[k]? <;>rfl
theorem vR:(∀k n,j.wd (.int k n)=1)∧(∀b,j.wd (.bool b)=1)∧(∀x,j.wd (.str x)=1)∧(∀x,j.wd (.slice x)=1)∧(∀n x,j.wd (.aK n x)=1)∧(∀x,j.wd (.ref x)=1)∧(∀x,j.wd (.bc x)=1)∧
  j.wd .bG=1∧j.wd .ck=1∧j.wd .hole=1∧j.wd .c1=1∧(∀x y,j.wd (.h x y)=1)∧(∀x y,j.wd (.an x y)=1)∧(∀x y,j.wd (.fn x y)=1)∧(∀ag,j.wd (.agg ag)=j.cz ag)∧(∀ag,j.wd (.tuple ag)=j.cz ag)∧j.cz []=0∧(∀d ds,j.cz (d::ds)=d.wd+j.cz ds):=by
 simp[j.wd,j.cz]
theorem GA {α:Type} {e:α→j} {n:Nat} (h:∀x,(e x).wd=n) (xs:List α):(∀d∈xs.map e,d.wd=n)=True:=by
 simp only[List.mem_map,eq_iff_iff,iff_true]
 rintro d ⟨x,_,rfl⟩;exact h x
theorem GB (C:bq) (s:af) (A B:TypeId) (k bY:IntKind) (n:Int) (fF:(C.T A).ok=true) (ev:(C.T B).k= .int bY):dD C s A B (.int k n)=some (.int bY (bY.wrap n)):=by
 simp only[dD,fF,ev,if_true]
theorem z6 (m:Int):gP (lu m)= .int .u8 (IntKind.u8.wrap m):=by
 have h:0≤IntKind.u8.wrap m∧IntKind.u8.wrap m<256:=by rw[IntKind.wrap_u8];omega
 simp only[gP,lu,UInt8.toNat_ofNat']
 congr 1
 omega
theorem vS (m:Int):((lu m).toNat:Int)=IntKind.u8.wrap m:=by
 have h:=z6 m
 simpa [gP]using h
section
variable {C:bq} {l:List (Nat×j)} {Q:Exit→af→Prop} {s:af}
theorem mM {ros:List bm} {k:List Nat} (h:bF C (J l) ros none (fun _ s=>Q .normal (J (fS k s)))):b7 C (.db ros (some k)) Q (J l):=sG (fun _ _ h=>h) h
theorem z7 {ros:List bm} {dY:List (List Nat)} {k:List Nat} (hlen:dY.length=ros.length) (h:bF C (J l) ros (some []) (fun acc s=>ij (nQ dY) 0 [] (acc.getD []).reverse=true∧Q .normal (J (fS k s)))):
  b7 C (.hJ ros dY (some k)) Q (J l):=zG hlen h
theorem GC {a b:ah} (h:∀cT:Exit→af→Prop,(∀s,dZ (b7 C b Q) s→cT .normal s)→(∀s,Q .ret s→cT .ret s)→(∀i s,Q (.exit i) s→cT (.exit i) s)→b7 C a cT s):b7 C (.seq a b) Q s:=
 h _ (fun _ h=>h) (fun _ h=>h) (fun _ _ h=>h)
theorem eg {ros:List bm} {k:List Nat} {b:ah} (h:bF C (J l) ros none (fun _ s=>b7 C b Q (J (fS k s)))):b7 C (.seq (.db ros (some k)) b) Q (J l):=sG (fun _ _ h=>.inl h) h
theorem kk {ros:List bm} {dY:List (List Nat)} {k:List Nat} {b:ah} (hlen:dY.length=ros.length) (h:bF C (J l) ros (some []) (fun acc s=>ij (nQ dY) 0 [] (acc.getD []).reverse=true∧b7 C b Q (J (fS k s)))):
  b7 C (.seq (.hJ ros dY (some k)) b) Q (J l):=zG (K:=fun s=>dZ (b7 C b Q) (J (fS k s))) hlen (by
   have key:∀(os:List bm) (s:af) (acc:Option (List dm)),bF C s os acc (fun acc s=>ij (nQ dY) 0 [] (acc.getD []).reverse=true∧b7 C b Q (J (fS k s)))→
     bF C s os acc (fun acc s=>ij (nQ dY) 0 [] (acc.getD []).reverse=true∧dZ (b7 C b Q) (J (fS k s))):=by
    intro os
    induction os with
    |nil=>intro s acc h;exact⟨h.1,.inl h.2⟩
    |cons o os ih=>
     intro s acc h
     have mono:∀{s:af} {a7:dE} {K b4:List Nat→j→af→Prop},(∀a b c,K a b c→b4 a b c)→ki C s a7 K→ki C s a7 b4:=by
      intro s a7 K b4 ai h
      cases a7 with
      |call f args=>
       obtain⟨g,caps,ps,r,U,ef,aa,aw,aN,a2,bJ,bO,dg⟩:=h
       exact⟨g,caps,ps,r,U,ef,aa,aw,aN,a2,bJ,bO,ai _ _ _ dg⟩
      |shr a7=>obtain⟨av,s1,U,aa,aw,aN⟩:=h;exact⟨av,s1,U,aa,aw,ai _ _ _ aN⟩
      |iL f args u x=>
       obtain⟨bn,bp,g,caps,ps,r,U,ef,aa,aw,aN,a2,bJ,bO,dg,eR,eI⟩:=h
       exact⟨bn,bp,g,caps,ps,r,U,ef,aa,aw,aN,a2,bJ,bO,dg,eR,ai _ _ _ eI⟩
      |iM f args us=>
       obtain⟨bp,g,caps,ps,r,U,ef,aa,aw,aN,a2,bJ,bO,dg,eR⟩:=h
       exact⟨bp,g,caps,ps,r,U,ef,aa,aw,aN,a2,bJ,bO,dg,ai _ _ _ eR⟩
      |_=>obtain⟨av,s1,U,aa⟩:=h;exact⟨av,s1,U,ai _ _ _ aa⟩
     simp only[bF,jI]at h⊢
     split
     ·rename_i aZ;rw[aZ]at h;exact mono (fun _ _ _=>ih _ _) h
     ·rename_i t dp aZ
      rw[aZ]at h
      simp only at h
      split
      ·rename_i PS R
       rw[R]at h
       simp only at h
       split
       ·rename_i I;rw[if_pos I]at h;exact mono (fun _ _ _=>ih _ _) h
       ·rename_i I;rw[if_neg I]at h;exact ih _ _ h
      ·rename_i R;rw[R]at h;exact ih _ _ h
      ·rename_i U aa
       split at h
       ·exact U _ (by assumption)
       ·exact aa (by assumption)
       ·exact h
   exact key _ _ _ h)
theorem q8 {c:au} {a b:ah} (ae:ax s c= .bool true) (h:b7 C a Q s):b7 C (.cond c a b) Q s:=by simp only[b7,ae,if_true];exact h
theorem sM {c:au} {a b:ah} (ae:ax s c= .bool false) (h:b7 C b Q s):b7 C (.cond c a b) Q s:=by simp only[b7,ae];exact h
theorem GD {id:Nat} {b:ah} (h:∀cT:Exit→af→Prop,(∀s,Q .normal s→cT .normal s)→(∀s,Q .ret s→cT .ret s)→(∀s,Q .normal s→cT (.exit id) s)→(∀i s,i≠id→Q (.exit i) s→cT (.exit i) s)→b7 C b cT s):b7 C (.block id b) Q s:=
 h (oK id Q) (fun _ h=>h) (fun _ h=>h) (fun s h=>by simp only[oK,if_true];exact h) (fun i s az h=>by simp only[oK,if_neg az];exact h)
theorem hx {id:Nat} (h:Q (.exit id) s):b7 C (.exit id) Q s:=h
theorem ct (h:Q .ret s):b7 C .ret Q s:=h
theorem cK (h:Q .normal s):b7 C .skip Q s:=h
def gv (C:bq) (b:ah) (Q:Exit→af→Prop) (s:af):Prop:=∀Z:af→Prop,(∀aj,b7 C b (andThen (dZ Z) Q) aj→Z aj)→Z s
theorem ik {b:ah} (h:dZ (gv C b Q) s):b7 C (.loop b) Q s:=h
theorem GF {b:ah} (h:∀cT:Exit→af→Prop,(∀s,dZ (gv C b Q) s→cT .normal s)→(∀s,Q .ret s→cT .ret s)→(∀i s,Q (.exit i) s→cT (.exit i) s)→b7 C b cT s):gv C b Q s:=by
 intro Z oM
 refine oM s (zd b ?_ (h (andThen (dZ (gv C b Q)) Q) (fun _ h=>h) (fun _ h=>h) (fun _ _ h=>h)))
 intro e aj a5
 cases e with
 |normal=>exact oL (fun s h=>h Z oM) aj a5
 |_=>exact a5
theorem dc {cR:List (Nat×j)} (h:cR.map (·.2)=cR.map fun p=>s p.1):qY s cR:=by
 intro p an
 left
 induction cR with
 |nil=>cases an
 |cons a cR ih=>
  simp only[List.map_cons,List.cons.injEq]at h
  rcases List.mem_cons.1 an with rfl|an
  ·exact h.1
  ·exact ih h.2 an
end
section
variable {C:bq} {l:List (Nat×j)} {Q:Exit→af→Prop} {s:af} {os ros:List bm} {K:Option (List dm)→af→Prop} {dst:Option Nat}
theorem z8 (l:List (Nat×j)):(∀n,ax (J l) (.t n)=fN n (J l n))∧(∀av,ax (J l) (.c av)=av)∧(∀g,ax (J l) (.f g)= .fn g []):=⟨fun _=>rfl,fun _=>rfl,fun _=>rfl⟩
theorem z_:(∀t,J [] t= .hole)∧(∀u d (l:List (Nat×j)) t,J ((u,d)::l) t=if t=u then d else J l t):=⟨fun _=>rfl,fun _ _ _ _=>rfl⟩
theorem Aa (s:af):fS [] s=[]∧(∀t k,fS (t::k) s=(t,s t)::fS k s):=⟨rfl,fun _ _=>rfl⟩
theorem Ab (s:af):(∀d,bS s (some d)=some (d,s))∧(∀s1,hK (some s1)=some (.hole,s1))∧fC s []=[]∧(∀x xs,fC s (x::xs)=ax s x::fC s xs)∧gH s []=[]∧(∀k x xs,gH s ((k,x)::xs)=(k,ax s x)::gH s xs)∧
  hv s none=none∧(∀x,hv s (some x)=some (ax s x))∧(∀b x y,mL s (.bool b) x y=some (if b=true then x else y,s)):=
 ⟨fun _=>rfl,fun _=>rfl,rfl,fun _ _=>rfl,rfl,fun _ _ _=>rfl,rfl,fun _=>rfl,fun b _ _=>by cases b<;>rfl⟩
theorem Ac (C:bq):(∀e d,vQ C (.slice e) (some d)=if(C.T e).ok=true∧d.wd=(C.T e).sz then some (.ref d)else none)∧
  (∀y q n e sz xs,q6 C y q n (.slice e) (some (.aK sz xs))=if(c7 xs n).isSome=true∧(C.T e).ok=true∧sz=(C.T e).sz then some (.an y (q++[n.toNat]))else none)∧
  (∀e s xs t,pf C (.slice e) s xs (some t)=if(C.T e).ok=true∧∀d∈xs,d.wd=(C.T e).sz then some (.slice t,s)else none):=
 ⟨fun _ _=>rfl,fun _ _ _ _ _ _=>rfl,fun _ _ _ _=>rfl⟩
theorem Ad:(∀b,vO .bool b=some (.bool b))∧(∀c,vP .str (some c)=some (.int .u8 c.toNat))∧(∀s t,pe .str s (some t)=some (.str t,s))∧(∀q d,q7 q (some d)=j.sub q d):=
 ⟨fun _=>rfl,fun _=>rfl,fun _ _=>rfl,fun _ _=>rfl⟩
theorem Ae (sz bytes:Nat) (z:j):(∀k,dR.ok ⟨.int k,sz,bytes,z⟩=true)∧dR.ok ⟨.bool,sz,bytes,z⟩=true∧dR.ok ⟨.str,sz,bytes,z⟩=true∧(∀e,dR.ok ⟨.ptr e,sz,bytes,z⟩=true)∧(∀e,dR.ok ⟨.slice e,sz,bytes,z⟩=true)∧(∀e,dR.ok ⟨.struct e,sz,bytes,z⟩=true)∧dR.ok ⟨.fn,sz,bytes,z⟩=true:=by
 simp[dR.ok]
theorem Af (sz bytes:Nat) (z:j):(∀k,dR.flat ⟨.int k,sz,bytes,z⟩=true)∧dR.flat ⟨.bool,sz,bytes,z⟩=true∧dR.flat ⟨.str,sz,bytes,z⟩=true∧(∀e,dR.flat ⟨.ptr e,sz,bytes,z⟩=true)∧(∀e,dR.flat ⟨.slice e,sz,bytes,z⟩=true)∧(∀e,dR.flat ⟨.struct e,sz,bytes,z⟩=false)∧dR.flat ⟨.fn,sz,bytes,z⟩=true:=by
 simp[dR.flat]
theorem q9 (c:UInt8) (k:IntKind) (ai:k≠.i8):k.wrap (c.toNat:Int)=(c.toNat:Int):=by
 have:=c.toNat_lt
 cases k<;>first|(exact(ai rfl).elim)|(simp[IntKind.wrap,IntKind.bits,IntKind.signed];try omega)
theorem vT (c:UInt8):IntKind.i64.wrap (c.toNat:Int)=(c.toNat:Int)∧IntKind.u64.wrap (c.toNat:Int)=(c.toNat:Int)∧IntKind.u8.wrap (c.toNat:Int)=(c.toNat:Int)∧IntKind.i32.wrap (c.toNat:Int)=(c.toNat:Int)∧IntKind.u32.wrap (c.toNat:Int)=(c.toNat:Int):=
 ⟨q9 c _ (by simp),q9 c _ (by simp),q9 c _ (by simp),q9 c _ (by simp),q9 c _ (by simp)⟩
theorem dn {k:List Nat} {K:af→Prop} (cR:List (Nat×j)) (h:∀P:List (Nat×j)→Prop,P cR→bF C (J l) ros none (fun _ s=>P (fS k s))) (ai:K (J cR)):bF C (J l) ros none (fun _ s=>K (J (fS k s))):=
 h (fun l=>K (J l)) ai
theorem i_ {k:List Nat} {iR:List (List Nat)} {K:af→Prop} (cR:List (Nat×j)) (h:∀P:List (Nat×j)→Prop,P cR→bF C (J l) ros (some []) (fun acc s=>ij iR 0 [] (acc.getD []).reverse=true∧P (fS k s))) (ai:K (J cR)):
  bF C (J l) ros (some []) (fun acc s=>ij iR 0 [] (acc.getD []).reverse=true∧K (J (fS k s))):=
 h (fun l=>K (J l)) ai
theorem cb.GG (aQ:C.cY) {f:FuncId} {fn:Func} {c:Code} {cX:ah} {fx:List Nat} {as outs:List j} {r:j} (bk:C.P.funcs[f]? =some fn) (I:fn.body=some c)
  (ht:(fn.name== "runtime.NumGoroutine")=false) (R:cB ⟨fn.ntmps,fx⟩ c=some cX.strip) (aV:as.length≤fn.ntmps)
  (h:∀Q:Exit→af→Prop,(∀s,dZ (Ends C fx fn.results.toList r outs) s→Q .ret s)→(∀s,dZ (Ends C fx fn.results.toList r outs) s→Q .normal s)→b7 C cX Q (J (num 0 as))) (an:cX.plain=true:=by kernel_rfl):cb C f as r outs:=by
 refine cb.of_wp aQ bk I ht R aV ?_ an
 rw[zm]
 exact h _ (fun s h=>⟨.inr rfl,h⟩) (fun s h=>⟨.inl rfl,h⟩)
def Ag:List j→j
 |[d]=>d
 |ds=>.tuple ds
theorem sN {fx:List Nat} {dt:List ResultVar} {r:j} {outs:List j} (ds:List j) (U:dt.map (lP C s)=ds.map some) (aa:r=Ag ds) (aw:(dt.map gf).Nodup)
  (aN:∀(i:Nat) (o:j),outs[i]? =some o→o= .hole∨(o=s i∧o.dS=true∧i∈fx∧i∉dt.map gf)):Ends C fx dt r outs s:=.inl ⟨ds,U,by subst aa;cases ds with|nil=>rfl|cons a t=>cases t<;>rfl,aw,aN⟩
theorem GH {fx:List Nat} {dt:List ResultVar}:∀(i:Nat) (o:j),([]:List j)[i]? =some o→o= .hole∨(o=s i∧o.dS=true∧i∈fx∧i∉dt.map gf):=fun i o h=>by simp at h
theorem Ah:∀(as ds:List j),(ie as ds).filter (·.g)=[]
 |[],_=>rfl
 |_::_,[]=>rfl
 |a::as,d::ds=>by simp only[ie,List.filter_cons];exact Ah as ds
theorem sO {f:au} {args:List au} {g:FuncId} {caps:List j} {K:List Nat→j→af→Prop} (ds:List j) (r:j)
  (U:ax (J l) f= .fn g caps) (ef:j.dA caps=true) (fX:views (J l) (fC (J l) args++caps)=some ds)
  (a2:cb C g ds r []) (bJ:r.res=true) (bO:j.cI (fC (J l) args++caps)=[]∨r.c5=true) (ic:K [] r (J l)):ki C (J l) (.call f args) K:=by
 obtain⟨aE,aL,bb,b2,b9,bl,bf⟩:=FQ _ _ fX
 refine⟨g,caps,ie (fC (J l) args++caps) ds,r,U,ef,by rw[aE,sL],fun p an=>(bb p an).1,b2,by rw[aL];exact a2.outs b9.symm,bJ,?_,by rw[bl,bf,Ah];exact ic⟩
 intro hl
 refine⟨?_,fun p an=>by rw[(bb p an).2.2.1];rfl⟩
 rcases bO with bO|bO
 ·exfalso
  simp only[g4,List.any_eq_true]at hl
  obtain⟨p,an,eJ⟩:=hl
  have hm:=(bb p an).2.2.2
  have:p.a.R=[]:=by
   have key:∀(as:List j) (a:j),a∈as→j.cI as=[]→a.R=[]:=by
    intro as
    induction as with
    |nil=>intro a h;cases h
    |cons b as ih=>
     intro a h he
     simp only[j.cI,List.append_eq_nil_iff]at he
     rcases List.mem_cons.1 h with rfl|h
     ·exact he.1
     ·exact ih a h he.2
   exact key _ _ hm bO
  rw[this]at eJ;simp at eJ
 ·exact bO
theorem gw {f:au} {args:List au} {g:FuncId} {caps:List j} {ds:List j} {r:j} (a2:cb C g ds r [])
  (U:ax (J l) f= .fn g caps) (ef:j.dA caps=true) (fX:views (J l) (fC (J l) args++caps)=some ds)
  (bJ:r.res=true) (bO:j.cI (fC (J l) args++caps)=[]∨r.c5=true)
  (ic:bF C (fin (J l) dst r) os none K):bF C (J l) (⟨dst,.call f args,none⟩::os) none K:=by
 simp only[bF,jI,lR]
 exact sO ds r U ef fX a2 bJ bO ic
theorem pg {a:List dm} {f:au} {args:List au} {g:FuncId} {caps:List j} {ds:List j} {r:j} (a2:cb C g ds r [])
  (U:ax (J l) f= .fn g caps) (ef:j.dA caps=true) (fX:views (J l) (fC (J l) args++caps)=some ds)
  (bJ:r.res=true) (bO:j.cI (fC (J l) args++caps)=[]∨r.c5=true)
  (ic:bF C (fin (J l) dst r) os (some (fI (J l) (use (J l) (.call f args)) dst [] r::a)) K):bF C (J l) (⟨dst,.call f args,none⟩::os) (some a) K:=by
 simp only[bF,jI,lR]
 exact sO ds r U ef fX a2 bJ bO ic
theorem sP {t:Nat} {b:Bool} {f:au} {args:List au} {g:FuncId} {caps:List j} {ds:List j} {r:j} (a2:cb C g ds r [])
  (U:ax (J l) f= .fn g caps) (ef:j.dA caps=true) (fX:views (J l) (fC (J l) args++caps)=some ds)
  (bJ:r.res=true) (bO:j.cI (fC (J l) args++caps)=[]∨r.c5=true)
  (ic:bF C (fin (J l) dst r) os none K):bB C l dst (.call f args) t b os none K (.bool b):=by
 simp only[bB,if_true]
 exact sO ds r U ef fX a2 bJ bO ic
theorem GI {a:List dm} {t:Nat} {b:Bool} {f:au} {args:List au} {g:FuncId} {caps:List j} {ds:List j} {r:j} (a2:cb C g ds r [])
  (U:ax (J l) f= .fn g caps) (ef:j.dA caps=true) (fX:views (J l) (fC (J l) args++caps)=some ds)
  (bJ:r.res=true) (bO:j.cI (fC (J l) args++caps)=[]∨r.c5=true)
  (ic:bF C (fin (J l) dst r) os (some (fI (J l) (t::use (J l) (.call f args)) dst [] r::a)) K):bB C l dst (.call f args) t b os (some a) K (.bool b):=by
 simp only[bB,if_true]
 exact sO ds r U ef fX a2 bJ bO ic
theorem iS (s:af):views s []=some []∧(∀d ds,views s (d::ds)=(match view s d,views s ds with|some a,some b=>some (a::b)|_,_=>none))∧
  (∀k n,view s (.int k n)=some (.int k n))∧(∀b,view s (.bool b)=some (.bool b))∧(∀x,view s (.str x)=some (.str x))∧(∀x,view s (.slice x)=some (.slice x))∧(∀x,view s (.ref x)=some (.ref x))∧
  view s .bG=some .bG∧view s .ck=some .ck∧(∀ag,view s (.agg ag)=some (.agg ag))∧(∀f cap,view s (.fn f cap)=(views s cap).map (.fn f)):=by
 refine⟨rfl,fun d ds=> ?_,fun _ _=>rfl,fun _=>rfl,fun _=>rfl,fun _=>rfl,fun _=>rfl,rfl,rfl,fun _=>rfl,fun _ _=>by simp only[view]⟩
 simp only[views];rfl
theorem il {α:Type} {u e:α→j} (h:∀x,(u x).share=e x) (xs:List α):j.shares (xs.map u)=xs.map e:=by
 rw[j.na];simp[h]
theorem GJ {α:Type} {u:α→j} (h:∀x,(u x).c5=true) (xs:List α):j.kZ (xs.map u)=true:=by
 induction xs with
 |nil=>rfl
 |cons x xs ih=>simp only[List.map_cons,j.kZ,h,ih,Bool.and_self]
def mN (s:af) (H:List Nat):List (Nat×j)→Prop
 |[]=>True
 |p::l=>(p.2=s p.1∨((s p.1).tree=true∧dh (s p.1) p.2∧p.1∉H))∧mN s H l
theorem vU {cR:List (Nat×j)} (H:List Nat) (i7:j.cI (cR.map (·.2))=H) (h:mN s H cR):qY s cR:=by
 have key:∀(et:List (Nat×j)),mN s H et→∀p∈et,p.2=s p.1∨((s p.1).tree=true∧dh (s p.1) p.2∧p.1∉H):=by
  intro et
  induction et with
  |nil=>intro _ p an;cases an
  |cons a et ih=>
   intro h p an
   rcases List.mem_cons.1 an with rfl|an
   ·exact h.1
   ·exact ih h.2 p an
 have R:∀(et:List (Nat×j)),∀bD∈et,∀u∈bD.2.R,u∈j.cI (et.map (·.2)):=by
  intro et
  induction et with
  |nil=>intro p an;cases an
  |cons a et ih=>
   intro p an u hu
   simp only[List.map_cons,j.cI,List.mem_append]
   rcases List.mem_cons.1 an with rfl|an
   ·exact .inl hu
   ·exact .inr (ih p an u hu)
 intro p an
 rcases key _ h p an with U|⟨U,aa,aw⟩
 ·exact .inl U
 ·refine .inr ⟨U,aa,fun bD cS=>.inl fun hm=>aw ?_⟩
  rw[←i7];exact R cR bD cS _ hm
theorem vV {H:List Nat}:mN s H []:=trivial
theorem sQ {H:List Nat} {t:Nat} {d:j} {cR:List (Nat×j)} (h:d=s t) (hl:mN s H cR):mN s H ((t,d)::cR):=⟨.inl h,hl⟩
theorem vW {H:List Nat} {t:Nat} {d aT:j} {cR:List (Nat×j)} (e:s t=d) (aG:d.tree=true) (ab:dh d aT) (i7:t∉H) (hl:mN s H cR):mN s H ((t,aT)::cR):=⟨.inr ⟨by rw[e];exact aG,by rw[e];exact ab,i7⟩,hl⟩
end
theorem hy {C:bq} {A B:TypeId} {bY:IntKind} (fF:(C.T A).ok=true) (ev:(C.T B).k= .int bY):∀s k n,dD C s A B (.int k n)=some (.int bY (bY.wrap n)):=fun s k n=>GB C s A B k bY n fF ev
def Ai:Option j→Option j
 |some (.aK 1 xs)=>(bytesOf xs).map .str
 |_=>none
theorem Aj {C:bq} {A B e:TypeId} (fF:(C.T A).k= .slice e) (ev:(C.T B).k= .str) (he:(C.T e).k= .int .u8):
  (∀s xs,dD C s A B (.slice xs)=(bytesOf xs).map .str)∧(∀s,dD C s A B .bG=some (.str []))∧(∀s x q,dD C s A B (.h x q)=Ai (j.sub q (s x))):=by
 have qF:(C.T A).ok=true:=by simp[dR.ok,fF]
 refine⟨fun s xs=> ?_,fun s=> ?_,fun s x q=> ?_⟩
 ·simp only[dD,qF,fF,ev,he,if_true]
 ·simp only[dD,qF,fF,ev,he,if_true]
 ·simp only[dD,qF,fF,ev,he,if_true]
  rfl
theorem Ak (xs:List j):Ai (some (.aK 1 xs))=(bytesOf xs).map .str:=rfl
theorem Al (c:UInt8) (r:List j):bytesOf (gP c::r)=(bytesOf r).map (c::·):=by
 have:=c.toNat_lt
 simp only[gP,bytesOf]
 rw[if_pos (by omega)]
 simp
theorem Am:bytesOf []=some []∧(∀l:List UInt8,bytesOf (l.map gP)=some l)∧(∀(c:UInt8) r,bytesOf (.int .u8 (c.toNat:Int)::r)=(bytesOf r).map (c::·))∧
  (∀m r,bytesOf (.int .u8 (IntKind.u8.wrap m)::r)=(bytesOf r).map (lu m::·)):=
 ⟨rfl,Dn,fun c r=>Al c r,fun m r=>by rw[←z6];exact Al _ r⟩
theorem GK {k:IntKind} {b:Int} (h:b≠0):∀a,eU .quo k a k b=some (.int k (k.wrap (a.tdiv b))):=fun _=>Gw h
theorem An {k:IntKind} {b:Int} (h:b≠0):∀a,eU .rem k a k b=some (.int k (a.tmod b)):=fun _=>Gx h
theorem ph {α:Type} {e:α→j} {n:Nat} (h:∀x,(e x).wd=n):∀xs:List α,(∀d∈xs.map e,d.wd=n)=True:=GA h
theorem all_cons {P:j→Prop} (d:j) (ds:List j):(∀x∈d::ds,P x)=(P d∧∀x∈ds,P x):=by simp
theorem all_nil {P:j→Prop}:(∀x∈([]:List j),P x)=True:=by simp
def Ao (a b:List UInt8):Option Unit→Option j
 |some _=>some (.str (a++b))
 |none=>none
theorem sR (a b:List UInt8):i1 .add a b=Ao a b (kD (a.length+b.length)):=by
 simp only[i1,kD];split<;>rfl
theorem sS (a b:List UInt8) (u:Unit):Ao a b (some u)=some (.str (a++b)):=rfl
theorem Ap:(∀l:List Nat,[]++l=l)∧(∀a (l m:List Nat),(a::l)++m=a::(l++m)):=⟨fun _=>rfl,fun _ _ _=>rfl⟩
def Aq (C:bq) (e a6:TypeId):Bool:=(C.T e).ok&&((C.T e).zero.wd==(C.T e).sz)&&(flat (C.T e).zero).isSome&&sg C e a6
def sT (C:bq) (e:TypeId) (xs:List j):Option (List j×af)→Option (j×af)
 |some (ys,s2)=>if(∀d∈ys,d.wd=(C.T e).sz)∧(room (C.T e).bytes (xs.length+ys.length)).isSome=true then some (.aK (C.T e).sz (xs++ys),s2)else none
 |none=>none
def vX (C:bq) (e:TypeId) (y:j) (o:Option Nat):Option (j×af)→Option (j×af)
 |some (.aK sz xs,s1)=>if sz=(C.T e).sz then sT C e xs (hq s1 (g0 o y))else none
 |_=>none
theorem GL (b n:Nat):(room b n).isSome=true↔n*b≤140737488355328∧n≤9223372036854775807:=by unfold room;split<;>simp_all
theorem pj {C:bq} {T a6 e:TypeId} (hE:(C.T T).k= .slice e) (eo:Aq C e a6=true):∀s x y,h7 C s T a6 x y=vX C e y x.owner (kY C e s x):=by
 intro s x y
 simp only[Aq,Bool.and_eq_true,beq_iff_eq]at eo
 rw[u2,hE]
 simp only
 rw[if_pos ⟨eo.1.1.1,eo.1.1.2,eo.1.2,eo.2⟩]
 generalize x.owner=o
 cases kY C e s x with
 |none=>rfl
 |some p=>
  obtain⟨d,s1⟩:=p
  cases d<;>first
   |rfl
   |(simp only[vX]
     split
     ·rename_i h;subst h
      generalize hq s1 (g0 o y)=z
      cases z with
      |none=>rfl
      |some p=>simp only[sT,GL]
     ·rfl)
def Ar:Option (j×af)→Option (List j×af)
 |some (.aK _ ys,s2)=>some (ys,s2)
 |_=>none
theorem pk (s:af):hq s .bG=some ([],s)∧(∀ys,hq s (.slice ys)=some (ys,s))∧(∀l,hq s (.str l)=some (l.map gP,s))∧
  (∀a q,hq s (.h a q)=Ar (bL s (.h a q)))∧(∀n ys,Ar (some (.aK n ys,s))=some (ys,s)):=
 ⟨rfl,fun _=>rfl,fun _=>rfl,fun _ _=>by simp only[hq];rfl,fun _ _=>rfl⟩
theorem pn (C:bq) (e:TypeId):(∀s,kY C e s .bG=some (.aK (C.T e).sz [],s))∧(∀s a q,kY C e s (.h a q)=bL s (.h a q))∧
  (∀y o sz xs s1,vX C e y o (some (.aK sz xs,s1))=if sz=(C.T e).sz then sT C e xs (hq s1 (g0 o y))else none)∧
  (∀xs ys s2,sT C e xs (some (ys,s2))=if(∀d∈ys,d.wd=(C.T e).sz)∧(room (C.T e).bytes (xs.length+ys.length)).isSome=true then some (.aK (C.T e).sz (xs++ys),s2)else none):=
 ⟨fun _=>rfl,fun _ _ _=>rfl,fun _ _ _ _ _=>rfl,fun _ _ _=>rfl⟩
theorem po:(∀d,g0 none d=d)∧(∀x d,g0 (some x) d=bo x d)∧(∀x q,j.owner (.h x q)=some x)∧j.owner .bG=none:=
 ⟨fun _=>rfl,fun _ _=>rfl,fun _ _=>rfl,rfl⟩
def As (s:af) (x:Nat) (q:List Nat):Option j→Option (j×af)
 |some d=>if d.plain=true then none else some (d,bZ (e_ x s) x (j.put q d.bT (s x)))
 |none=>none
theorem At (s:af) (x:Nat) (q:List Nat):bL s (.h x q)=As s x q (j.sub q (s x)):=by
 simp only[bL];cases j.sub q (s x)<;>rfl
theorem Au (s:af):(∀x q d,As s x q (some d)=if d.plain=true then none else some (d,bZ (e_ x s) x (j.put q d.bT (s x))))∧(∀k n,bL s (.int k n)=some (.int k n,s))∧(∀b,bL s (.bool b)=some (.bool b,s))∧(∀x,bL s (.str x)=some (.str x,s))∧
  (∀x,bL s (.slice x)=some (.slice x,s))∧(∀x,bL s (.ref x)=some (.ref x,s))∧(∀x,bL s (.agg x)=some (.agg x,s))∧bL s .bG=some (.bG,s)∧bL s .ck=some (.ck,s):=
 ⟨fun _ _ _=>rfl,fun _ _=>rfl,fun _=>rfl,fun _=>rfl,fun _=>rfl,fun _=>rfl,fun _=>rfl,rfl,rfl⟩
theorem Av (l:List (Nat×j)) (t:Nat) (d:j):bZ (J l) t d=J ((t,d)::l):=g5 l t d
theorem Aw:(∀n x,j.bT (.aK n x)= .hole)∧(∀x,j.bT (.bc x)= .hole)∧(∀ag,j.bT (.agg ag)= .agg (j.hd ag))∧(∀ag,j.bT (.tuple ag)= .tuple (j.hd ag))∧j.hd []=[]∧(∀d ds,j.hd (d::ds)=d.bT::j.hd ds)∧
  (∀k n,j.bT (.int k n)= .int k n)∧(∀b,j.bT (.bool b)= .bool b)∧(∀x,j.bT (.str x)= .str x)∧(∀x,j.bT (.slice x)= .slice x)∧(∀x,j.bT (.ref x)= .ref x)∧j.bT .bG= .bG∧j.bT .ck= .ck∧j.bT .hole= .hole:=by
 simp[j.bT,j.hd]
def nU:Option j→Option j
 |some d=>(match d with| .tuple _=>none| .cr _=>none|d=>if d.plain=true then none else some d.share)
 |none=>none
def nV:Option j→Option j
 |some d=>(match d with| .tuple _=>none|d=>some (.ref d.share))
 |none=>none
theorem iT (s:af) (x:Nat) (q:List Nat):view s (.h x q)=nU (j.sub q (s x))∧view s (.an x q)=(if j.di q (s x)=true then nV (j.sub q (s x))else none):=by
 constructor
 ·simp only[view];rfl
 ·simp only[view];rfl
theorem iU:(∀n xs,nU (some (.aK n xs))=some (.slice (j.shares xs)))∧(∀d,nU (some (.bc d))=some (.ref d.share))∧(∀ag,nU (some (.agg ag))=if j.dA ag=true then none else some (.agg (j.shares ag)))∧
  (∀ag,nV (some (.agg ag))=some (.ref (.agg (j.shares ag))))∧(∀k n,nV (some (.int k n))=some (.ref (.int k n)))∧(∀x,nV (some (.str x))=some (.ref (.str x))):=
 ⟨fun _ _=>by simp[nU,j.plain,j.share],fun _=>by simp[nU,j.plain,j.share],fun ag=>by cases h:j.dA ag<;>simp[nU,j.plain,j.share,h],fun _=>by simp[nV,j.share],fun _ _=>by simp[nV,j.share],fun _=>by simp[nV,j.share]⟩
theorem hL:(∀n xs,j.share (.aK n xs)= .slice (j.shares xs))∧(∀d,j.share (.bc d)= .ref d.share)∧(∀xs,j.share (.slice xs)= .slice (j.shares xs))∧(∀d,j.share (.ref d)= .ref d.share)∧(∀ag,j.share (.agg ag)= .agg (j.shares ag))∧(∀ag,j.share (.tuple ag)= .tuple (j.shares ag))∧
  (∀k n,j.share (.int k n)= .int k n)∧(∀b,j.share (.bool b)= .bool b)∧(∀x,j.share (.str x)= .str x)∧j.share .bG= .bG∧j.share .ck= .ck∧j.shares []=[]∧(∀d ds,j.shares (d::ds)=d.share::j.shares ds):=by
 simp[j.share,j.shares]
theorem pq:(∀k n,j.owner (.int k n)=none)∧(∀b,j.owner (.bool b)=none)∧(∀x,j.owner (.str x)=none)∧(∀x,j.owner (.slice x)=none)∧(∀x,j.owner (.ref x)=none)∧(∀x,j.owner (.agg x)=none)∧j.owner .ck=none∧j.owner .bG=none∧(∀x q,j.owner (.h x q)=some x):=
 ⟨fun _ _=>rfl,fun _=>rfl,fun _=>rfl,fun _=>rfl,fun _=>rfl,fun _=>rfl,rfl,rfl,fun _ _=>rfl⟩
end Go.bV
