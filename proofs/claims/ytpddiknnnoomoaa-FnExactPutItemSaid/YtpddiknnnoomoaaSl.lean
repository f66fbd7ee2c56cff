/- Part of a proof that a law returns true for every input. No condition. -/
import Derived.Shelf.Spec.SlicesInsertGrow
import Derived.Lib.AppendZerosOnto
import Derived.Laws.NewBlocks
import Derived.WalkKit
import Derived.BigCall
import Derived.Test.YtpddiknnnoomoaaFwS
import Derived.Test.YtpddiknnnoomoaaFwM
import Derived.Test.YtpddiknnnoomoaaC4
namespace Go.Proofs.Ytpddiknnnoomoaa
open Go Go.bZ Go.fm Go.Shelf
set_option maxRecDepth 100000
section
open Go.Lib Go.RowKit
theorem uh (w:World) (Cr O3 ty elem:TypeId) (sz b o xm O4:Nat) (a:Addr) (xn O5:Nat) (cs:List Value) {P:Program}
  (hu:P.underlying Cr=some (.slice elem)) (R:(P.info? elem).map (·.size)=some sz) (aR:cs.length=Nat.min xn xm*sz)
  (lC:∀ad v,cs[ad]? =some v→w.cell? (a.add ad)=some v) (ae:∀ad,ad<cs.length→(w.cell? ⟨b,o+ad,none⟩).isSome=true) (bc:∀ad,ad<cs.length→w.frozen? ⟨b,o+ad,none⟩=false) (U:∀v∈cs,v.oneCell'=true):
  (Builtin.copy_ #[Cr,O3] ty #[.slice (some ⟨b,o,none⟩) xm O4,.slice (some a) xn O5]).run P w= .ok (goInt (Nat.min xn xm)) (w.setCells b o cs):=by
 have hl:=run_loadCells_list (P:=P) w a cs lC
 have O6:=run_storeCells_cells (P:=P) b o cs 0 w (by simpa using ae) (by simpa using bc) U
 cases bX:P.info? elem with
 |none=>simp[bX]at R
 |some i=>
  have ay:i.size=sz:=by simpa [bX]using R
  simp[Builtin.copy_,run_underlying hu,Builtin.lenOf,Builtin.firstCells,sizeOf,typeInfo,bX,ay,←aR,hl,O6]
section
variable (b n c i eg ba:Nat) (cs vs:List Value) (w:World)
theorem l4:Try.prog.underlying 22=some (.slice 35):=by kernel_rfl
theorem ui:(Try.prog.info? 35).map (fun i=>(i.zero,i.size,i.bytes))=some (some (.agg #[.string ⟨#[]⟩,.string ⟨#[]⟩]),2,32):=by kernel_rfl
set_option maxHeartbeats 4000000 in
theorem O7 (hb:n+1≤c) (O8:c≤9223372036854775807)
  (jL:vs.length=2) (nG:∀ad,ad<2→(w.cell? ⟨b,n*2+ad,none⟩).isSome=true) (ss:∀ad,ad<2→w.frozen? ⟨b,n*2+ad,none⟩=false)
  (iv:∀ad v,vs[ad]? =some v→w.cell? ⟨eg,0+ad,none⟩=some v) (jT:∀v∈vs,v.oneCell'=true):
  Calls Try.prog 35 #[.slice (some ⟨b,0,none⟩) n c,.int .i64 n,.slice (some ⟨eg,0,none⟩) 1 ba] w fun e aq=>
   e= .returned (.slice (some ⟨b,0,none⟩) (n+1) c)∧aq=w.setCells b (n*2) vs:=by
 obtain⟨jW,l5,n9,l6,n_⟩:=info_parts ui
 have lC:Src Try.prog jW.size 22 (.slice (some ⟨eg,0,none⟩) 1 ba) 1 vs w:=by
  rw[l6]
  exact Src.ofSlice w l4 ⟨eg,0,none⟩ 1 ba vs (by omega) (fun ad u aU=>by rw[Addr.add_lit];exact iv ad u aU) jT
 have j0:∀ty,(Builtin.append_ #[22,22] ty #[.slice (some ⟨b,0,none⟩) n c,.slice (some ⟨eg,0,none⟩) 1 ba]).run Try.prog w= .ok (.slice (some ⟨b,0,none⟩) (n+1) c) (w.setCells b (n*2) vs):=fun ty=>by
  have:=run_append_room_src w 22 22 ty 35 jW l4 l5 b 0 n c _ 1 vs lC hb (fun ad aU=>by rw[l6,Nat.zero_add];exact nG ad (by omega)) (fun ad aU=>by rw[l6,Nat.zero_add];exact ss ad (by omega))
  rw[this,l6,Nat.zero_add]
 go_enter Try.func35,Try.ntmps35
 go_wp2_with (at_builtin;refine Lib.wpList_append_run _ rfl _ _ _ _ rfl _ _ rfl rfl _ _ (j0 _) ?_)
 go_ret
 exact⟨rfl,rfl⟩
set_option maxHeartbeats 4000000 in
theorem Cs (base:Option Addr) (O9:n≤c) (hb:c<n+1) (xo:(n+1)*32≤140737488355328)
  (gT:cs.length=n*2) (jL:vs.length=2) (nf:base=none→n=0)
  (eQ:∀a,base=some a→∀ad v,cs[ad]? =some v→w.cell? (a.add ad)=some v)
  (iv:∀ad v,vs[ad]? =some v→w.cell? ⟨eg,0+ad,none⟩=some v) (jT:∀v∈vs,v.oneCell'=true):
  Calls Try.prog 35 #[.slice base n c,.int .i64 n,.slice (some ⟨eg,0,none⟩) 1 ba] w fun e aq=>
   e= .returned (.slice (some ⟨w.heap.size,0,none⟩) (n+1) (grownCap w (n+1) c 35))∧
   aq=w.drew.alloc (.cells ((cs++vs).toArray++Builtin.zeroCells (Value.agg #[.string ⟨#[]⟩,.string ⟨#[]⟩]).cells (grownCap w (n+1) c 35-(n+1))) 35):=by
 obtain⟨jW,l5,n9,l6,n_⟩:=info_parts ui
 have lC:Src Try.prog jW.size 22 (.slice (some ⟨eg,0,none⟩) 1 ba) 1 vs w:=by
  rw[l6]
  exact Src.ofSlice w l4 ⟨eg,0,none⟩ 1 ba vs (by omega) (fun ad u aU=>by rw[Addr.add_lit];exact iv ad u aU) jT
 have hold:(Builtin.firstCells jW.size n (.slice base n c)).run Try.prog w.drew= .ok cs.toArray w.drew:=by
  rw[l6]
  cases base with
  |none=>
   have bu:=nf rfl
   subst bu
   rw[List.length_eq_zero_iff.1 (by omega:cs.length=0)]
   exact run_firstCells_none w.drew 2 0 0 c
  |some a=>exact run_firstCells_some w.drew 2 n a n c cs gT (fun ad v aU=>eQ a rfl ad v aU)
 have j0:∀ty,(Builtin.append_ #[22,22] ty #[.slice base n c,.slice (some ⟨eg,0,none⟩) 1 ba]).run Try.prog w=_:=fun ty=>
  run_append_grow_src w 22 22 ty 35 jW _ l4 l5 n9 base n c cs hold _ 1 vs lC hb (by omega) (by rw[n_];exact growslice_fits hb xo)
 go_enter Try.func35,Try.ntmps35
 cases base with
 |none=>
  have bu:=nf rfl
  subst bu
  go_wp2_with (at_builtin;refine Lib.wpList_append_run _ rfl _ _ _ _ rfl _ _ rfl rfl _ _ (j0 _) ?_)
  go_ret
  exact⟨rfl,rfl⟩
 |some a=>
  obtain⟨rn,R2,R3⟩:=a
  go_wp2_with (at_builtin;refine Lib.wpList_append_run _ rfl _ _ _ _ rfl _ _ rfl rfl _ _ (j0 _) ?_)
  all_goals (go_ret;exact⟨rfl,rfl⟩)
set_option maxHeartbeats 4000000 in
theorem O_ (ay:i<n) (hb:n+1≤c) (O8:c≤9223372036854775807) (Ct:eg≠b)
  (gT:cs.length=n*2) (jL:vs.length=2)
  (eQ:∀ad v,cs[ad]? =some v→w.cell? ⟨b,0+ad,none⟩=some v) (nG:∀ad,ad<(n+1)*2→(w.cell? ⟨b,0+ad,none⟩).isSome=true) (ss:∀ad,ad<(n+1)*2→w.frozen? ⟨b,0+ad,none⟩=false)
  (iv:∀ad v,vs[ad]? =some v→w.cell? ⟨eg,0+ad,none⟩=some v) (qH:∀v∈cs,v.oneCell'=true) (jT:∀v∈vs,v.oneCell'=true)
  (Cu Cv:TypeId) (xp xq:Nat) (Pb:w.shape? eg=some (Cu,xp)) (Pc:w.shape? b=some (Cv,xq)) (Pd:xq≠0) (Pe:w.frozen? ⟨eg,0,none⟩=false) (Pf:w.frozen? ⟨eg,xp,none⟩=false):
  Calls Try.prog 35 #[.slice (some ⟨b,0,none⟩) n c,.int .i64 i,.slice (some ⟨eg,0,none⟩) 1 ba] w fun e aq=>
   e= .returned (.slice (some ⟨b,0,none⟩) (n+1) c)∧aq=(w.drew.setCells b ((i+1)*2) (cs.drop (i*2))).setCells b (i*2) vs:=by
 have mixed:Try.prog.follows Departure.mixedOrders=true:=by kernel_rfl
 have Pg:¬((i:Int)=(n:Int)):=by omega
 have cm:(Try.prog.info? 35).map (·.size)=some 2:=by
  obtain⟨jW,l5,bu,U,aa⟩:=info_parts ui
  rw[l5];simp[U]
 have Ph:∀xr rl,(callFunc 73 #[.slice (some ⟨eg,0,none⟩) 1 ba,.slice (some ⟨b,(i+1)*2,none⟩) xr rl]).run Try.prog w= .ok (.value (.bool false)) w:=fun xr rl=>by
  rw[run_callFunc_extern Try.func73 (by kernel_rfl) (by kernel_rfl) (by kernel_rfl) (e:=Extern.SlicesOverlaps.overlaps #[22,22] #[4]) (by kernel_rfl),
   Lib.run_overlaps_apart w 22 4 35 l4 2 (fun w=>by kernel_rfl) ⟨eg,0,none⟩ ⟨b,(i+1)*2,none⟩ 1 ba xr rl Ct Cu Cv xp xq Pb Pc Pd Pe Pf]
  rfl
 have jG:(cs.drop (i*2)).length=(n-i)*2:=by rw[List.length_drop,gT];omega
 have Pj:IntKind.i64.wrap ((i:Int)+1)=(i:Int)+1:=by rw[IntKind.wrap_i64];omega
 have Pk:(0:Int)≤(i:Int)+1:=by omega
 have qm:i≤n:=by omega
 have Pl:((i:Int)+1).toNat=i+1:=by omega
 have su:¬(c=i+1):=by omega
 have Pm:(i:Int)≤(n:Int)+1:=by omega
 have R4:¬(c=i):=by omega
 have Cw:∀ty i4 c3,(Builtin.copy_ #[22,22] ty #[.slice (some ⟨b,(i+1)*2,none⟩) (n-i) i4,.slice (some ⟨b,i*2,none⟩) (n+1-i) c3]).run Try.prog w.drew= .ok (goInt (Nat.min (n+1-i) (n-i))) (w.drew.setCells b ((i+1)*2) (cs.drop (i*2))):=fun ty i4 c3=>
  uh w.drew _ _ ty 35 2 b ((i+1)*2) (n-i) i4 ⟨b,i*2,none⟩ (n+1-i) c3 (cs.drop (i*2)) l4 cm (by rw[jG];simp only[Nat.min_def];split<;>omega)
   (fun ad v aU=>by rw[Addr.add_lit];have:=eQ (i*2+ad) v (by rwa [List.getElem?_drop]at aU);rwa [Nat.zero_add]at this)
   (fun ad aU=>by have:=nG ((i+1)*2+ad) (by omega);rwa [Nat.zero_add]at this) (fun ad aU=>by have:=ss ((i+1)*2+ad) (by omega);rwa [Nat.zero_add]at this) (fun v aC=>qH v (List.mem_of_mem_drop aC))
 obtain⟨hG,ks⟩:∃hG,hG=w.drew.setCells b ((i+1)*2) (cs.drop (i*2)):=⟨_,rfl⟩
 have Pn:∀k,k<(n+1)*2→(hG.cell? ⟨b,k,none⟩).isSome=true:=fun k al=>by
  rw[ks]
  exact isSome_setCells b _ _ _ (fun ad aU=>by have:=nG ((i+1)*2+ad) (by omega);rwa [Nat.zero_add]at this) _ (by have:=nG k al;rwa [Nat.zero_add]at this)
 have Po:∀(W:World),(∀x,W.cell? x=hG.cell? x)→(∀x,W.frozen? x=hG.frozen? x)→∀ty i4,(Builtin.copy_ #[22,22] ty #[.slice (some ⟨b,i*2,none⟩) (n+1-i) i4,.slice (some ⟨eg,0,none⟩) 1 ba]).run Try.prog W= .ok (goInt (Nat.min 1 (n+1-i))) (W.setCells b (i*2) vs):=fun W nR sv ty i4=>
  uh W _ _ ty 35 2 b (i*2) (n+1-i) i4 ⟨eg,0,none⟩ 1 ba vs l4 cm (by rw[jL];simp only[Nat.min_def];split<;>omega)
   (fun ad v aU=>by
    rw[Addr.add_lit,nR,ks,World.cell?_setCells_out b _ _ _ _ (fun h _=>absurd h Ct)]
    exact iv ad v aU)
   (fun ad aU=>by rw[nR];exact Pn _ (by omega)) (fun ad aU=>by rw[sv,ks,World.frozen?_setCells];have:=ss (i*2+ad) (by omega);rwa [Nat.zero_add]at this) jT
 rw[←ks]at Cw
 go_enter Try.func35,Try.ntmps35
 go_wp2_with (simp only[Ph])
 go_region_law_o (refine step_copy_runI rfl _ _ 22 22 rfl _ _ (by simp[Act.eval,Act.put]) (by simp[Act.eval,Act.put]) (Cw _ _ _) ?_)
 go_wp2_with (at_builtin;refine wpList_copy_runI _ rfl _ _ 22 22 rfl _ _ rfl rfl (Po _ (fun _=>rfl) (fun _=>rfl) _ _) ?_)
 go_ret
 first|exact⟨rfl,rfl⟩|exact⟨rfl,by rw[ks]⟩
set_option maxHeartbeats 4000000 in
theorem Pp (ay:i<n) (O9:n≤c) (hb:c<n+1) (xo:(n+1)*32≤140737488355328)
  (gT:cs.length=n*2) (jL:vs.length=2)
  (eQ:∀ad v,cs[ad]? =some v→w.cell? ⟨b,0+ad,none⟩=some v)
  (iv:∀ad v,vs[ad]? =some v→w.cell? ⟨eg,0+ad,none⟩=some v) (qH:∀v∈cs,v.oneCell'=true) (jT:∀v∈vs,v.oneCell'=true):
  Calls Try.prog 35 #[.slice (some ⟨b,0,none⟩) n c,.int .i64 i,.slice (some ⟨eg,0,none⟩) 1 ba] w fun e aq=>
   e= .returned (.slice (some ⟨w.heap.size,0,none⟩) (n+1) (grownCap w (n+1) c 35))∧
   aq=(((w.alloc (.cells ((cs.take (i*2)).toArray++Builtin.zeroCells (Value.agg #[.string ⟨#[]⟩,.string ⟨#[]⟩]).cells (n+1-i)++Builtin.zeroCells (Value.agg #[.string ⟨#[]⟩,.string ⟨#[]⟩]).cells (grownCap w (n+1) c 35-(n+1))) 35)).drew.setCells w.heap.size (i*2) vs).drew).setCells w.heap.size ((i+1)*2) (cs.drop (i*2)):=by
 have mixed:Try.prog.follows Departure.mixedOrders=true:=by kernel_rfl
 obtain⟨jW,l5,n9,l6,n_⟩:=info_parts ui
 have Pg:¬((i:Int)=(n:Int)):=by omega
 have R5:(c:Int)<(n:Int)+1:=by omega
 have cm:(Try.prog.info? 35).map (·.size)=some 2:=by rw[l5];simp[l6]
 have Pq:b<w.heap.size:=block_lt_of_cell (eQ 0 _ (List.getElem?_eq_getElem (by omega)))
 have Pr:eg<w.heap.size:=block_lt_of_cell (iv 0 _ (List.getElem?_eq_getElem (by omega)))
 have sZ:(n:Int)+1-(i:Int)=((n+1-i:Nat):Int):=by omega
 have xt:i+(n+1-i)=n+1:=by omega
 have hold:(Builtin.firstCells jW.size i (.slice (some ⟨b,0,none⟩) i c)).run Try.prog w.drew= .ok (cs.take (i*2)).toArray w.drew:=by
  rw[l6]
  exact run_firstCells_some w.drew 2 i ⟨b,0,none⟩ i c (cs.take (i*2)) (by rw[List.length_take];omega) (fun ad v aU=>by
   rw[Addr.add_lit]
   rw[List.getElem?_take]at aU
   split at aU
   ·exact eQ ad v aU
   ·cases aU)
 have uj:∀ty,(Builtin.append_ #[22,3] ty #[.slice (some ⟨b,0,none⟩) i c,.int .i64 ((n:Int)+1-(i:Int))]).run Try.prog w=
   .ok (.slice (some ⟨w.heap.size,0,none⟩) (n+1) (grownCap w (n+1) c 35)) (w.drew.alloc (.cells ((cs.take (i*2)).toArray++Builtin.zeroCells (Value.agg #[.string ⟨#[]⟩,.string ⟨#[]⟩]).cells (n+1-i)++Builtin.zeroCells (Value.agg #[.string ⟨#[]⟩,.string ⟨#[]⟩]).cells (grownCap w (n+1) c 35-(n+1))) 35)):=fun ty=>by
  have h:=Lib.run_append_grow_zeros w 22 3 ty 35 jW _ .i64 .i64 l4 (by kernel_rfl) l5 n9 (some ⟨b,0,none⟩) i c (cs.take (i*2)) hold (n+1-i) (by omega) (by omega) (by omega) (by omega) (by rw[n_];omega) (by rw[n_,xt];exact growslice_fits hb xo)
  rw[xt]at h
  rw[sZ]
  exact h
 obtain⟨G,mT⟩:∃G,G=grownCap w (n+1) c 35:=⟨_,rfl⟩
 obtain⟨gj,o2⟩:∃gj:Array Value,gj=(cs.take (i*2)).toArray++Builtin.zeroCells (Value.agg #[.string ⟨#[]⟩,.string ⟨#[]⟩]).cells (n+1-i)++Builtin.zeroCells (Value.agg #[.string ⟨#[]⟩,.string ⟨#[]⟩]).cells (G-(n+1)):=⟨_,rfl⟩
 rw[←mT]at uj⊢
 rw[←o2]at uj⊢
 have xu:(n+1)*2≤gj.size:=by
  rw[o2]
  simp[Builtin.zeroCells,Value.cells]
  omega
 obtain⟨hG,ks⟩:∃hG,hG=w.drew.alloc (.cells gj 35):=⟨_,rfl⟩
 rw[←ks]at uj
 have xv:∀ad,ad<(n+1)*2→(hG.cell? ⟨w.heap.size,ad,none⟩).isSome=true:=fun ad aU=>by
  rw[ks,World.cell?_alloc_at (w:=w.drew) gj _ w.heap.size ad rfl,Array.getElem?_eq_getElem (by omega)];rfl
 have Cx:∀ad,hG.frozen? ⟨w.heap.size,ad,none⟩=false:=fun ad=>by rw[ks];exact World.frozen?_alloc_at (w:=w.drew) gj _ w.heap.size ad rfl
 have Ps:∀ad v,w.cell? ⟨b,ad,none⟩=some v→hG.cell? ⟨b,ad,none⟩=some v:=fun ad v h=>by rw[ks,World.cell?_alloc_past (w:=w.drew) _ b ad Pq];exact h
 have Pt:∀ad v,w.cell? ⟨eg,ad,none⟩=some v→hG.cell? ⟨eg,ad,none⟩=some v:=fun ad v h=>by rw[ks,World.cell?_alloc_past (w:=w.drew) _ eg ad Pr];exact h
 have Pu:∀(W:World),(∀x,W.cell? x=hG.cell? x)→(∀x,W.frozen? x=hG.frozen? x)→∀ty i4,(Builtin.copy_ #[22,22] ty #[.slice (some ⟨w.heap.size,i*2,none⟩) (n+1-i) i4,.slice (some ⟨eg,0,none⟩) 1 ba]).run Try.prog W= .ok (goInt (Nat.min 1 (n+1-i))) (W.setCells w.heap.size (i*2) vs):=fun W nR sv ty i4=>
  uh W _ _ ty 35 2 w.heap.size (i*2) (n+1-i) i4 ⟨eg,0,none⟩ 1 ba vs l4 cm (by rw[jL];simp only[Nat.min_def];split<;>omega)
   (fun ad v aU=>by rw[Addr.add_lit,nR];exact Pt _ v (iv ad v aU))
   (fun ad aU=>by rw[nR];exact xv _ (by omega)) (fun ad aU=>by rw[sv];exact Cx _) jT
 have R6:n+1≤G:=by rw[mT];exact grownCap_ge w _ _ _
 have R7:G≤9223372036854775807:=by
  have:=grownCap_le_maxLen w (n+1) c 35 (by unfold maxLen;omega)
  rw[←mT]at this
  unfold maxLen at this
  omega
 have R8:¬(G=i):=by omega
 have R9:¬(G=i+1):=by omega
 have R_:¬(c=i):=by omega
 have Pv:b≠w.heap.size:=by omega
 have jG:(cs.drop (i*2)).length=(n-i)*2:=by rw[List.length_drop,gT];omega
 have Cy:∀(W:World),(∀x,W.cell? x=(hG.setCells w.heap.size (i*2) vs).cell? x)→(∀x,W.frozen? x=(hG.setCells w.heap.size (i*2) vs).frozen? x)→∀ty i4 c3,(Builtin.copy_ #[22,22] ty #[.slice (some ⟨w.heap.size,(i+1)*2,none⟩) (n-i) i4,.slice (some ⟨b,i*2,none⟩) (n-i) c3]).run Try.prog W= .ok (goInt (Nat.min (n-i) (n-i))) (W.setCells w.heap.size ((i+1)*2) (cs.drop (i*2))):=fun W nR sv ty i4 c3=>
  uh W _ _ ty 35 2 w.heap.size ((i+1)*2) (n-i) i4 ⟨b,i*2,none⟩ (n-i) c3 (cs.drop (i*2)) l4 cm (by rw[jG];simp only[Nat.min_def];split<;>omega)
   (fun ad v aU=>by
    rw[Addr.add_lit,nR,World.cell?_setCells_out _ _ _ _ _ (fun h _=>absurd h Pv)]
    have:=eQ (i*2+ad) v (by rwa [List.getElem?_drop]at aU)
    rw[Nat.zero_add]at this
    exact Ps _ v this)
   (fun ad aU=>by rw[nR];exact isSome_setCells _ _ _ _ (fun t aM=>xv _ (by omega)) _ (xv _ (by omega)))
   (fun ad aU=>by rw[sv,World.frozen?_setCells];exact Cx _) (fun v aC=>qH v (List.mem_of_mem_drop aC))
 subst ks
 have Pw:∀x,((w.alloc (.cells gj 35)).drew).cell? x=(w.drew.alloc (.cells gj 35)).cell? x:=fun x=>rfl
 have Px:∀x,((w.alloc (.cells gj 35)).drew).frozen? x=(w.drew.alloc (.cells gj 35)).frozen? x:=fun x=>rfl
 have Py:∀x,(((w.alloc (.cells gj 35)).drew.setCells w.heap.size (i*2) vs).drew).cell? x=((w.drew.alloc (.cells gj 35)).setCells w.heap.size (i*2) vs).cell? x:=fun x=>rfl
 have tD:∀x,(((w.alloc (.cells gj 35)).drew.setCells w.heap.size (i*2) vs).drew).frozen? x=((w.drew.alloc (.cells gj 35)).setCells w.heap.size (i*2) vs).frozen? x:=fun x=>rfl
 have Pj:IntKind.i64.wrap ((i:Int)+1)=(i:Int)+1:=by rw[IntKind.wrap_i64];omega
 have Pk:(0:Int)≤(i:Int)+1:=by omega
 have qm:i≤n:=by omega
 have Pl:((i:Int)+1).toNat=i+1:=by omega
 have Pm:(i:Int)≤(n:Int):=by omega
 clear sZ xt hold o2 mT xu
 go_enter Try.func35,Try.ntmps35
 go_wp2_with (first
  |(at_builtin;refine Lib.wpList_append_run _ rfl _ _ _ _ rfl _ _ rfl rfl _ _ (uj _) ?_)
  |(at_builtin;refine wpList_copy_runI _ rfl _ _ 22 22 rfl _ _ rfl rfl (Pu _ Pw Px _ _) ?_)
  |(at_builtin;refine wpList_copy_runI _ rfl _ _ 22 22 rfl _ _ rfl rfl (Cy _ (fun _=>rfl) (fun _=>rfl) _ _ _) ?_))
 go_region_law_o (refine step_copy_runI rfl _ _ 22 22 rfl (.slice (some ⟨w.heap.size,(i+1)*2,none⟩) (n-i) (G-(i+1))) (.slice (some ⟨b,i*2,none⟩) (n-i) (c-i)) (by simp[Act.eval,Act.put]) (by simp[Act.eval,Act.put]) (Cy _ Py tD 3 (G-(i+1)) (c-i)) ?_)
 go_wp2
 go_ret
 exact⟨rfl,rfl⟩
end
def iD (x:aP):List Value:=[.string ⟨⟨x.Name⟩⟩,.string ⟨⟨x.ck⟩⟩]
theorem ld:nM aF iD:=by
 refine⟨fun _=>rfl,fun _=>rfl,fun x v aC=> ?_,fun w F x cs S=> ?_⟩
 ·simp only[iD,List.mem_cons,List.not_mem_nil,or_false]at aC
  rcases aC with rfl|rfl<;>rfl
 ·simp only[aF,iD,ai,aJ]
  constructor
  ·rintro⟨bB,bF,bj,ch,rfl,rfl,⟨zu,po,Ex,vj,rfl,rfl,rfl,_⟩,_⟩
   rfl
  ·rintro rfl
   exact⟨_,_,fun _=>False,fun _=>False,rfl,rfl,⟨_,_,fun _=>False,fun _=>False,rfl,rfl,rfl,fun _ h=>h,fun _ h=>h,fun _ h=>h.elim⟩,fun _ h=>h.elim,fun _ h=>h.elim,fun _ h=>h.elim⟩
theorem cell_of {w:World} {b:Nat} {cur:Array Value} {eU:TypeId} {fr:Nat×Nat} (I:w.heap[b]? =some (.cells cur eU fr)) (ad:Nat):w.cell? ⟨b,ad,none⟩=cur[ad]? :=by
 simp[World.cell?,I]
theorem uk {w:World} {b:Nat} {cur:Array Value} {eU:TypeId} {fr:Nat×Nat} (I:w.heap[b]? =some (.cells cur eU fr)) (bc:hM fr (cur.size+1)) (ad:Nat) (aU:ad≤cur.size):w.frozen? ⟨b,ad,none⟩=false:=by
 have:=bc ad (by omega)
 simp only[World.frozen?,I]
 simpa using this
set_option maxHeartbeats 1000000 in
theorem Pz (a0:List aP) (aA:Int) (cn r:List aP) (h:qC a0 aA cn=some r):b8 aZ 35 [.aH 2 (a0.map aF),.int .i64 aA,.aH 2 (cn.map aF)] (.aH 2 (r.map aF)) [.hole,.hole,.hole]:=by
 unfold qC at h
 split at h
 case isFalse=>cases h
 rename_i ae
 cases h
 obtain⟨bu,ay,aa,hb⟩:=ae
 obtain⟨i,rfl⟩:∃i:Nat,aA=i:=⟨aA.toNat,by omega⟩
 obtain⟨x,rfl⟩:=List.length_eq_one_iff.1 aa
 simp only[Int.toNat_natCast,List.singleton_append]
 have ay:i≤a0.length:=by omega
 have oQ:∀args w,(callFunc 35 args).run aZ.P w= .ok (.enter 35 args) w:=enters_of Try.func35 (by kernel_rfl) rfl
 intro w F X S vs jL aB
 obtain⟨v0,v1,v2,rfl⟩:∃v0 v1 v2,vs=[v0,v1,v2]:=by
  match vs,jL with
  |[x,y,z],_=>exact⟨x,y,z,rfl⟩
 have PA:v1= .int .i64 i:=j1 (aB.b5 1)
 subst PA
 rcases B0 (aB.b5 2)with⟨ao,_⟩|⟨eg,o3,Cz,PB,Sa,_,xw,PC,su,CA,PD,_,Sb,PE⟩
 ·cases ao
 have xw:v2= .slice (some ⟨eg,0,none⟩) 1 o3:=xw
 subst xw
 have PF:Cz.toList.take 2=iD x:=by
  have:=BU ld [x] _ _ PE
  simpa using this
 have Sc:1≤o3:=PD
 have iv:∀ad v,(iD x)[ad]? =some v→w.cell? ⟨eg,0+ad,none⟩=some v:=fun ad v aU=>by
  rw[Nat.zero_add,cell_of su,←Array.getElem?_toList]
  rw[←PF,List.getElem?_take]at aU
  split at aU
  ·exact aU
  ·cases aU
 have jT:∀v∈iD x,Value.oneCell' v=true:=ld.2.2.1 x
 have yK:∀{n:Nat},(a0.take i++x::a0.drop i).length=n→n=a0.length+1:=fun {n} e=>by
  rw[←e];simp;omega
 have hlen:(a0.take i++x::a0.drop i).length=a0.length+1:=by simp;omega
 have sw:=I1 ld a0 x i ay
 rcases B0 (aB.b5 0)with⟨ao,a,fG⟩|⟨b,cap,cur,eU,fr,az,fG,a_,I,bc,hle,hm,cm,dP⟩
 ·have ao:a0=[]:=by simpa using ao
  subst ao
  have fG:v0= .slice a 0 0:=fG
  subst fG
  have l5:i=0:=by simpa using ay
  subst l5
  refine .inl ⟨oQ _ _,(Cs 0 0 eg o3 [] (iD x) w a (Nat.le_refl _) (by omega) (by decide) rfl rfl (fun _=>rfl) (fun _ _ ad v aU=>by simp at aU) iv jT).mono ?_⟩
  rintro ex aq ⟨rfl,hw⟩
  have mT:=grownCap_ge w (0+1) 0 35
  have qI:=grownCap_le_maxLen w (0+1) 0 35 (by unfold maxLen;omega)
  exact⟨_,rfl,F,_,BZ ld aB (ys:=[x]) hw (by
   rw[Array.toList_append,List.toList_toArray,List.nil_append,List.take_left' (by rfl)]
   simp) (by rw[Array.size_append,size_zeroCells];show 2+(grownCap w (0+1) 0 35-(0+1))*2=_;omega) mT qI rfl⟩
 ·have fG:v0= .slice (some ⟨b,0,none⟩) a0.length cap:=by rw[List.length_map]at fG;exact fG
  subst fG
  simp only[List.length_map]at hle dP
  have CB:cap≤9223372036854775807:=by simpa [maxLen]using hm
  have CC:=BU ld a0 _ _ dP
  obtain⟨cs,eQ⟩:∃cs,cs=a0.flatMap iD:=⟨_,rfl⟩
  rw[←eQ]at CC sw
  have gT:cs.length=a0.length*2:=by rw[eQ];exact BV ld a0
  have qH:∀v∈cs,Value.oneCell' v=true:=by rw[eQ];exact I2 ld a0
  have kf:∀ad,ad<a0.length*2→cs[ad]? =cur[ad]? :=fun ad aU=>by
   rw[←CC,List.getElem?_take,if_pos aU,Array.getElem?_toList]
  have na:∀ad v,cs[ad]? =some v→w.cell? ⟨b,0+ad,none⟩=some v:=fun ad v aU=>by
   have cC:ad<a0.length*2:=by
    rcases Nat.lt_or_ge ad cs.length with h|h
    ·omega
    ·rw[List.getElem?_eq_none h]at aU;cases aU
   rw[Nat.zero_add,cell_of I,←kf ad cC];exact aU
  have PG:=aB.cT 0 b a_
  have cr:eg≠b:=fun e=>aB.c8 2 0 b (by decide) (e▸PC) a_
  by_cases qm:i=a0.length
  ·subst qm
   by_cases nh:a0.length+1≤cap
   ·refine .inl ⟨oQ _ _,(O7 b a0.length cap eg o3 (iD x) w nh CB rfl (fun ad aU=>by rw[cell_of I,Array.getElem?_eq_getElem (by omega)];rfl) (fun ad aU=>uk I bc _ (by omega)) iv jT).mono ?_⟩
    rintro ex aq ⟨rfl,hw⟩
    obtain⟨iI,aE,aO,bg,cd,cQ,d_,eF,fQ,ji⟩:=r7 b (iD x) (a0.length*2) w cur eU fr I
    rw[←hw]at aE cd cQ d_ eF fQ ji
    refine⟨_,rfl,F,_,tH ld aB (ys:=a0.take a0.length++x::a0.drop a0.length) (.inl a_) (by omega) (by omega) aE (by rw[aO];exact bc) (by omega) (by omega) hm (by
     rw[hlen,Nat.add_mul,sw]
     refine xe (Nat.le_refl _) (by omega) gT rfl fun ad aU=> ?_
     rw[bg ad (by omega)]
     by_cases kh:ad<a0.length*2
     ·rw[if_neg (by omega),if_pos kh,kf ad kh]
     ·rw[if_pos ⟨by omega,by show ad<a0.length*2+2;omega⟩,if_neg kh,if_pos (by omega)]) (fun c _ ae=>cd c ae) d_ eF ⟨fQ,fun _=>Nat.le_of_eq ji.symm⟩ hlen.symm⟩
   ·refine .inl ⟨oQ _ _,(Cs a0.length cap eg o3 cs (iD x) w (some ⟨b,0,none⟩) hle (by omega) (by omega) gT rfl (fun h=>by cases h) (fun a bN ad v aU=>by cases bN;rw[Addr.add_lit];exact na ad v aU) iv jT).mono ?_⟩
    rintro ex aq ⟨rfl,hw⟩
    have mT:=grownCap_ge w (a0.length+1) cap 35
    have qI:=grownCap_le_maxLen w (a0.length+1) cap 35 (by unfold maxLen;omega)
    refine⟨_,rfl,F,_,BZ ld aB (ys:=a0.take a0.length++x::a0.drop a0.length) hw (by
     rw[hlen,sw,show cs.take (a0.length*2)=cs from List.take_of_length_le (by omega),show cs.drop (a0.length*2)=[]from List.drop_of_length_le (by omega),List.append_nil,Array.toList_append,List.toList_toArray]
     exact List.take_left' (by rw[List.length_append,gT];show a0.length*2+2=_;omega)) (by rw[Array.size_append,size_zeroCells,List.size_toArray,List.length_append,gT];show a0.length*2+2+(grownCap w (a0.length+1) cap 35-(a0.length+1))*2=_;omega) (by omega) qI hlen.symm⟩
  ·by_cases nh:a0.length+1≤cap
   ·refine .inl ⟨oQ _ _,(O_ b a0.length cap i eg o3 cs (iD x) w (by omega) nh CB cr gT rfl na (fun ad aU=>by rw[Nat.zero_add,cell_of I,Array.getElem?_eq_getElem (by omega)];rfl) (fun ad aU=>by rw[Nat.zero_add];exact uk I bc _ (by omega)) iv qH jT PB eU Cz.size cur.size (by simp[World.shape?,su]) (by simp[World.shape?,I]) (by omega) (uk su CA _ (by omega)) (uk su CA _ (Nat.le_refl _))).mono ?_⟩
    rintro ex aq ⟨rfl,hw⟩
    obtain⟨xx,aE,aO,bg,cd,cQ,d_,eF,fQ,ji⟩:=r7 b (cs.drop (i*2)) ((i+1)*2) w.drew cur eU fr I
    obtain⟨PH,bb,bq,cD,b1,cZ,cY,eT,fH,gM⟩:=r7 b (iD x) (i*2) _ xx eU fr aE
    rw[←hw]at bb b1 cZ cY eT fH gM
    have jG:(cs.drop (i*2)).length=a0.length*2-i*2:=by rw[List.length_drop,gT]
    refine⟨_,rfl,F,_,tH ld aB (ys:=a0.take i++x::a0.drop i) (.inl a_) (by rw[cZ,cQ];exact PG) (by rw[cZ,cQ];exact Nat.le_refl _) bb (by rw[bq,aO];exact bc) (by omega) (by omega) hm (by
     rw[hlen,Nat.add_mul,sw]
     refine xe (by omega) (by omega) gT rfl fun ad aU=> ?_
     rw[cD ad (by omega)]
     by_cases kh:ad<i*2
     ·rw[if_neg (by omega),if_pos kh,bg ad (by omega),if_neg (by omega),kf ad (by omega)]
     ·rw[if_neg kh]
      by_cases oB:ad<i*2+2
      ·rw[if_pos ⟨by omega,by show ad<i*2+2;omega⟩,if_pos oB]
      ·rw[if_neg (by show¬(i*2≤ad∧ad<i*2+2);omega),if_neg oB,bg ad (by omega),if_pos ⟨by omega,by rw[jG];omega⟩,List.getElem?_drop,show i*2+(ad-(i+1)*2)=ad-2 by omega]) (fun c _ ae=>(b1 c ae).trans (cd c ae)) (cY.trans d_) (eT.trans eF) ⟨fH.trans fQ,fun _=>by rw[gM,ji];exact Nat.le_succ _⟩ hlen.symm⟩
   ·refine .inl ⟨oQ _ _,(Pp b a0.length cap i eg o3 cs (iD x) w (by omega) hle (by omega) (by omega) gT rfl na iv qH jT).mono ?_⟩
    rintro ex aq ⟨rfl,hw⟩
    have mT:=grownCap_ge w (a0.length+1) cap 35
    have qI:=grownCap_le_maxLen w (a0.length+1) cap 35 (by unfold maxLen;omega)
    obtain⟨G,PI⟩:∃G,G=grownCap w (a0.length+1) cap 35:=⟨_,rfl⟩
    rw[←PI]at hw mT qI⊢
    obtain⟨gj,o2⟩:∃gj:Array Value,gj=(cs.take (i*2)).toArray++Builtin.zeroCells (Value.agg #[.string ⟨#[]⟩,.string ⟨#[]⟩]).cells (a0.length+1-i)++Builtin.zeroCells (Value.agg #[.string ⟨#[]⟩,.string ⟨#[]⟩]).cells (G-(a0.length+1)):=⟨_,rfl⟩
    rw[←o2]at hw
    have Sd:gj.size=G*2:=by
     rw[o2,Array.size_append,Array.size_append,size_zeroCells,size_zeroCells,List.size_toArray,List.length_take,gT]
     show min (i*2) (a0.length*2)+(a0.length+1-i)*2+(G-(a0.length+1))*2=_
     omega
    have xu:∀ad,ad<i*2→gj[ad]? =cs[ad]? :=fun ad aU=>by
     rw[o2,Array.append_assoc,Array.getElem?_append_left (by rw[List.size_toArray,List.length_take,gT];omega),List.getElem?_toArray,List.getElem?_take,if_pos aU]
    have eS:((w.alloc (.cells gj 35)).drew).heap[w.heap.size]? =some (.cells gj 35 (0,0)):=BW w _
    obtain⟨xx,aE,aO,bg,cd,cQ,d_,eF,fQ,ji⟩:=r7 w.heap.size (iD x) (i*2) _ gj 35 (0,0) eS
    obtain⟨PH,bb,bq,cD,b1,cZ,cY,eT,fH,gM⟩:=r7 w.heap.size (cs.drop (i*2)) ((i+1)*2) (((w.alloc (.cells gj 35)).drew.setCells w.heap.size (i*2) (iD x)).drew) xx 35 (0,0) aE
    rw[←hw]at bb b1 cZ cY eT fH gM
    have jG:(cs.drop (i*2)).length=a0.length*2-i*2:=by rw[List.length_drop,gT]
    have g2:((w.alloc (.cells gj 35)).drew).heap.size=w.heap.size+1:=xd w _
    have lJ:aq.heap.size=w.heap.size+1:=cZ.trans (cQ.trans g2)
    refine⟨_,rfl,F,_,tH ld aB (ys:=a0.take i++x::a0.drop i) (cap:=G) (.inr (Nat.le_refl _)) (by omega) (by omega) bb (fun o _ h=>Nat.lt_irrefl _ (Nat.lt_of_le_of_lt (Nat.zero_le _) h.2)) (by omega) (by omega) qI (by
     rw[hlen,Nat.add_mul,sw]
     refine xe (by omega) (by omega) gT rfl fun ad aU=> ?_
     rw[cD ad (by omega)]
     by_cases kh:ad<i*2
     ·rw[if_neg (by omega),if_pos kh,bg ad (by omega),if_neg (by omega),xu ad kh]
     ·rw[if_neg kh]
      by_cases oB:ad<i*2+2
      ·rw[if_neg (by omega),if_pos oB,bg ad (by omega),if_pos ⟨by omega,by show ad<i*2+2;omega⟩]
      ·rw[if_neg oB,if_pos ⟨by omega,by rw[jG];omega⟩,List.getElem?_drop,show i*2+(ad-(i+1)*2)=ad-2 by omega]) (fun c ae cr=>(b1 c cr).trans ((cd c cr).trans (BX w _ ae))) (cY.trans d_) (eT.trans eF) ⟨fH.trans fQ,fun _=>by rw[gM];show w.drawn≤(World.setCells _ _ _ _).drawn+1;rw[ji];show w.drawn≤w.drawn+1+1;omega⟩ hlen.symm⟩
end
end Go.Proofs.Ytpddiknnnoomoaa
