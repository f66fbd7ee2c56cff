/- Part of a proof that a law returns true for every input. No condition. -/
import Derived.Shelf.Spec.SlicesInsertGrow
import Derived.Lib.AppendZerosOnto
import Derived.Laws.NewBlocks
import Derived.WalkKit
import Derived.BigCall
import Derived.Test.YtpddiknnnoomoaaFwS
import Derived.Test.YtpddiknnnoomoaaFwM
import Derived.Test.YtpddiknnnoomoaaC3
namespace Go.Proofs.Ytpddiknnnoomoaa
open Go Go.bV Go.eF Go.Shelf
set_option maxRecDepth 100000
section
open Go.Lib Go.RowKit
theorem tn (w:World) (Bu MY ty elem:TypeId) (sz b o wK MZ:Nat) (a:Addr) (wL M0:Nat) (cs:List Value) {P:Program}
  (hu:P.underlying Bu=some (.slice elem)) (R:(P.info? elem).map (·.size)=some sz) (aV:cs.length=Nat.min wL wK*sz)
  (kO:∀ad v,cs[ad]? =some v→w.cell? (a.add ad)=some v) (ae:∀ad,ad<cs.length→(w.cell? ⟨b,o+ad,none⟩).isSome=true) (bk:∀ad,ad<cs.length→w.frozen? ⟨b,o+ad,none⟩=false) (U:∀v∈cs,v.oneCell'=true):
  (Builtin.copy_ #[Bu,MY] ty #[.slice (some ⟨b,o,none⟩) wK MZ,.slice (some a) wL M0]).run P w= .ok (goInt (Nat.min wL wK)) (w.setCells b o cs):=by
 have hl:=run_loadCells_list (P:=P) w a cs kO
 have tp:=run_storeCells_cells (P:=P) b o cs 0 w (by simpa using ae) (by simpa using bk) U
 cases bN:P.info? elem with
 |none=>simp[bN]at R
 |some i=>
  have az:i.size=sz:=by simpa [bN]using R
  simp[Builtin.copy_,run_underlying hu,Builtin.lenOf,Builtin.firstCells,sizeOf,typeInfo,bN,az,←aV,hl,tp]
section
variable (b n c i eh bd:Nat) (cs vs:List Value) (w:World)
theorem lg:Try.prog.underlying 22=some (.slice 35):=by kernel_rfl
theorem tq:(Try.prog.info? 35).map (fun i=>(i.zero,i.size,i.bytes))=some (some (.agg #[.string ⟨#[]⟩,.string ⟨#[]⟩]),2,32):=by kernel_rfl
set_option maxHeartbeats 4000000 in
theorem M1 (gQ:n+1≤c) (M3:c≤9223372036854775807)
  (i4:vs.length=2) (rv:∀ad,ad<2→(w.cell? ⟨b,n*2+ad,none⟩).isSome=true) (ry:∀ad,ad<2→w.frozen? ⟨b,n*2+ad,none⟩=false)
  (hM:∀ad v,vs[ad]? =some v→w.cell? ⟨eh,0+ad,none⟩=some v) (jd:∀v∈vs,v.oneCell'=true):
  Calls Try.prog 35 #[.slice (some ⟨b,0,none⟩) n c,.int .i64 n,.slice (some ⟨eh,0,none⟩) 1 bd] w fun e aq=>
   e= .returned (.slice (some ⟨b,0,none⟩) (n+1) c)∧aq=w.setCells b (n*2) vs:=by
 obtain⟨ji,lh,nq,lj,nr⟩:=info_parts tq
 have kO:Src Try.prog ji.size 22 (.slice (some ⟨eh,0,none⟩) 1 bd) 1 vs w:=by
  rw[lj]
  exact Src.ofSlice w lg ⟨eh,0,none⟩ 1 bd vs (by omega) (fun ad u aS=>by rw[Addr.add_lit];exact hM ad u aS) jd
 have jm:∀ty,(Builtin.append_ #[22,22] ty #[.slice (some ⟨b,0,none⟩) n c,.slice (some ⟨eh,0,none⟩) 1 bd]).run Try.prog w= .ok (.slice (some ⟨b,0,none⟩) (n+1) c) (w.setCells b (n*2) vs):=fun ty=>by
  have:=run_append_room_src w 22 22 ty 35 ji lg lh b 0 n c _ 1 vs kO gQ (fun ad aS=>by rw[lj,Nat.zero_add];exact rv ad (by omega)) (fun ad aS=>by rw[lj,Nat.zero_add];exact ry ad (by omega))
  rw[this,lj,Nat.zero_add]
 go_enter Try.func35,Try.ntmps35
 go_wp2_with (at_builtin;refine Lib.wpList_append_run _ rfl _ _ _ _ rfl _ _ rfl rfl _ _ (jm _) ?_)
 go_ret
 exact⟨rfl,rfl⟩
set_option maxHeartbeats 4000000 in
theorem Bv (base:Option Addr) (M4:n≤c) (gQ:c<n+1) (wM:(n+1)*32≤140737488355328)
  (gx:cs.length=n*2) (i4:vs.length=2) (mu:base=none→n=0)
  (e3:∀a,base=some a→∀ad v,cs[ad]? =some v→w.cell? (a.add ad)=some v)
  (hM:∀ad v,vs[ad]? =some v→w.cell? ⟨eh,0+ad,none⟩=some v) (jd:∀v∈vs,v.oneCell'=true):
  Calls Try.prog 35 #[.slice base n c,.int .i64 n,.slice (some ⟨eh,0,none⟩) 1 bd] w fun e aq=>
   e= .returned (.slice (some ⟨w.heap.size,0,none⟩) (n+1) (grownCap w (n+1) c 35))∧
   aq=w.drew.alloc (.cells ((cs++vs).toArray++Builtin.zeroCells (Value.agg #[.string ⟨#[]⟩,.string ⟨#[]⟩]).cells (grownCap w (n+1) c 35-(n+1))) 35):=by
 obtain⟨ji,lh,nq,lj,nr⟩:=info_parts tq
 have kO:Src Try.prog ji.size 22 (.slice (some ⟨eh,0,none⟩) 1 bd) 1 vs w:=by
  rw[lj]
  exact Src.ofSlice w lg ⟨eh,0,none⟩ 1 bd vs (by omega) (fun ad u aS=>by rw[Addr.add_lit];exact hM ad u aS) jd
 have hold:(Builtin.firstCells ji.size n (.slice base n c)).run Try.prog w.drew= .ok cs.toArray w.drew:=by
  rw[lj]
  cases base with
  |none=>
   have bI:=mu rfl
   subst bI
   rw[List.length_eq_zero_iff.1 (by omega:cs.length=0)]
   exact run_firstCells_none w.drew 2 0 0 c
  |some a=>exact run_firstCells_some w.drew 2 n a n c cs gx (fun ad v aS=>e3 a rfl ad v aS)
 have jm:∀ty,(Builtin.append_ #[22,22] ty #[.slice base n c,.slice (some ⟨eh,0,none⟩) 1 bd]).run Try.prog w=_:=fun ty=>
  run_append_grow_src w 22 22 ty 35 ji _ lg lh nq base n c cs hold _ 1 vs kO gQ (by omega) (by rw[nr];exact growslice_fits gQ wM)
 go_enter Try.func35,Try.ntmps35
 cases base with
 |none=>
  have bI:=mu rfl
  subst bI
  go_wp2_with (at_builtin;refine Lib.wpList_append_run _ rfl _ _ _ _ rfl _ _ rfl rfl _ _ (jm _) ?_)
  go_ret
  exact⟨rfl,rfl⟩
 |some a=>
  obtain⟨qC,P4,P5⟩:=a
  go_wp2_with (at_builtin;refine Lib.wpList_append_run _ rfl _ _ _ _ rfl _ _ rfl rfl _ _ (jm _) ?_)
  all_goals (go_ret;exact⟨rfl,rfl⟩)
set_option maxHeartbeats 4000000 in
theorem M5 (az:i<n) (gQ:n+1≤c) (M3:c≤9223372036854775807) (Bw:eh≠b)
  (gx:cs.length=n*2) (i4:vs.length=2)
  (e3:∀ad v,cs[ad]? =some v→w.cell? ⟨b,0+ad,none⟩=some v) (rv:∀ad,ad<(n+1)*2→(w.cell? ⟨b,0+ad,none⟩).isSome=true) (ry:∀ad,ad<(n+1)*2→w.frozen? ⟨b,0+ad,none⟩=false)
  (hM:∀ad v,vs[ad]? =some v→w.cell? ⟨eh,0+ad,none⟩=some v) (pU:∀v∈cs,v.oneCell'=true) (jd:∀v∈vs,v.oneCell'=true)
  (Bx Bz:TypeId) (wN wO:Nat) (M6:w.shape? eh=some (Bx,wN)) (M7:w.shape? b=some (Bz,wO)) (M8:wO≠0) (M9:w.frozen? ⟨eh,0,none⟩=false) (M_:w.frozen? ⟨eh,wN,none⟩=false):
  Calls Try.prog 35 #[.slice (some ⟨b,0,none⟩) n c,.int .i64 i,.slice (some ⟨eh,0,none⟩) 1 bd] w fun e aq=>
   e= .returned (.slice (some ⟨b,0,none⟩) (n+1) c)∧aq=(w.drew.setCells b ((i+1)*2) (cs.drop (i*2))).setCells b (i*2) vs:=by
 have mixed:Try.prog.follows Departure.mixedOrders=true:=by kernel_rfl
 have Na:¬((i:Int)=(n:Int)):=by omega
 have cp:(Try.prog.info? 35).map (·.size)=some 2:=by
  obtain⟨ji,lh,bI,U,aa⟩:=info_parts tq
  rw[lh];simp[U]
 have Nb:∀wP qA,(callFunc 73 #[.slice (some ⟨eh,0,none⟩) 1 bd,.slice (some ⟨b,(i+1)*2,none⟩) wP qA]).run Try.prog w= .ok (.value (.bool false)) w:=fun wP qA=>by
  rw[run_callFunc_extern Try.func73 (by kernel_rfl) (by kernel_rfl) (by kernel_rfl) (e:=Extern.SlicesOverlaps.overlaps #[22,22] #[4]) (by kernel_rfl),
   Lib.run_overlaps_apart w 22 4 35 lg 2 (fun w=>by kernel_rfl) ⟨eh,0,none⟩ ⟨b,(i+1)*2,none⟩ 1 bd wP qA Bw Bx Bz wN wO M6 M7 M8 M9 M_]
  rfl
 have iZ:(cs.drop (i*2)).length=(n-i)*2:=by rw[List.length_drop,gx];omega
 have Nc:IntKind.i64.wrap ((i:Int)+1)=(i:Int)+1:=by rw[IntKind.wrap_i64];omega
 have Nd:(0:Int)≤(i:Int)+1:=by omega
 have pC:i≤n:=by omega
 have Nf:((i:Int)+1).toNat=i+1:=by omega
 have rz:¬(c=i+1):=by omega
 have Ng:(i:Int)≤(n:Int)+1:=by omega
 have P6:¬(c=i):=by omega
 have BA:∀ty iv cX,(Builtin.copy_ #[22,22] ty #[.slice (some ⟨b,(i+1)*2,none⟩) (n-i) iv,.slice (some ⟨b,i*2,none⟩) (n+1-i) cX]).run Try.prog w.drew= .ok (goInt (Nat.min (n+1-i) (n-i))) (w.drew.setCells b ((i+1)*2) (cs.drop (i*2))):=fun ty iv cX=>
  tn w.drew _ _ ty 35 2 b ((i+1)*2) (n-i) iv ⟨b,i*2,none⟩ (n+1-i) cX (cs.drop (i*2)) lg cp (by rw[iZ];simp only[Nat.min_def];split<;>omega)
   (fun ad v aS=>by rw[Addr.add_lit];have:=e3 (i*2+ad) v (by rwa [List.getElem?_drop]at aS);rwa [Nat.zero_add]at this)
   (fun ad aS=>by have:=rv ((i+1)*2+ad) (by omega);rwa [Nat.zero_add]at this) (fun ad aS=>by have:=ry ((i+1)*2+ad) (by omega);rwa [Nat.zero_add]at this) (fun v aC=>pU v (List.mem_of_mem_drop aC))
 obtain⟨g6,jP⟩:∃g6,g6=w.drew.setCells b ((i+1)*2) (cs.drop (i*2)):=⟨_,rfl⟩
 have Nh:∀k,k<(n+1)*2→(g6.cell? ⟨b,k,none⟩).isSome=true:=fun k ai=>by
  rw[jP]
  exact isSome_setCells b _ _ _ (fun ad aS=>by have:=rv ((i+1)*2+ad) (by omega);rwa [Nat.zero_add]at this) _ (by have:=rv k ai;rwa [Nat.zero_add]at this)
 have Ni:∀(W:World),(∀x,W.cell? x=g6.cell? x)→(∀x,W.frozen? x=g6.frozen? x)→∀ty iv,(Builtin.copy_ #[22,22] ty #[.slice (some ⟨b,i*2,none⟩) (n+1-i) iv,.slice (some ⟨eh,0,none⟩) 1 bd]).run Try.prog W= .ok (goInt (Nat.min 1 (n+1-i))) (W.setCells b (i*2) vs):=fun W mV rA ty iv=>
  tn W _ _ ty 35 2 b (i*2) (n+1-i) iv ⟨eh,0,none⟩ 1 bd vs lg cp (by rw[i4];simp only[Nat.min_def];split<;>omega)
   (fun ad v aS=>by
    rw[Addr.add_lit,mV,jP,World.cell?_setCells_out b _ _ _ _ (fun h _=>absurd h Bw)]
    exact hM ad v aS)
   (fun ad aS=>by rw[mV];exact Nh _ (by omega)) (fun ad aS=>by rw[rA,jP,World.frozen?_setCells];have:=ry (i*2+ad) (by omega);rwa [Nat.zero_add]at this) jd
 rw[←jP]at BA
 go_enter Try.func35,Try.ntmps35
 go_wp2_with (simp only[Nb])
 go_region_law_o (refine step_copy_runI rfl _ _ 22 22 rfl _ _ (by simp[Act.eval,Act.put]) (by simp[Act.eval,Act.put]) (BA _ _ _) ?_)
 go_wp2_with (at_builtin;refine wpList_copy_runI _ rfl _ _ 22 22 rfl _ _ rfl rfl (Ni _ (fun _=>rfl) (fun _=>rfl) _ _) ?_)
 go_ret
 first|exact⟨rfl,rfl⟩|exact⟨rfl,by rw[jP]⟩
set_option maxHeartbeats 4000000 in
theorem Nj (az:i<n) (M4:n≤c) (gQ:c<n+1) (wM:(n+1)*32≤140737488355328)
  (gx:cs.length=n*2) (i4:vs.length=2)
  (e3:∀ad v,cs[ad]? =some v→w.cell? ⟨b,0+ad,none⟩=some v)
  (hM:∀ad v,vs[ad]? =some v→w.cell? ⟨eh,0+ad,none⟩=some v) (pU:∀v∈cs,v.oneCell'=true) (jd:∀v∈vs,v.oneCell'=true):
  Calls Try.prog 35 #[.slice (some ⟨b,0,none⟩) n c,.int .i64 i,.slice (some ⟨eh,0,none⟩) 1 bd] w fun e aq=>
   e= .returned (.slice (some ⟨w.heap.size,0,none⟩) (n+1) (grownCap w (n+1) c 35))∧
   aq=(((w.alloc (.cells ((cs.take (i*2)).toArray++Builtin.zeroCells (Value.agg #[.string ⟨#[]⟩,.string ⟨#[]⟩]).cells (n+1-i)++Builtin.zeroCells (Value.agg #[.string ⟨#[]⟩,.string ⟨#[]⟩]).cells (grownCap w (n+1) c 35-(n+1))) 35)).drew.setCells w.heap.size (i*2) vs).drew).setCells w.heap.size ((i+1)*2) (cs.drop (i*2)):=by
 have mixed:Try.prog.follows Departure.mixedOrders=true:=by kernel_rfl
 obtain⟨ji,lh,nq,lj,nr⟩:=info_parts tq
 have Na:¬((i:Int)=(n:Int)):=by omega
 have P7:(c:Int)<(n:Int)+1:=by omega
 have cp:(Try.prog.info? 35).map (·.size)=some 2:=by rw[lh];simp[lj]
 have Nk:b<w.heap.size:=block_lt_of_cell (e3 0 _ (List.getElem?_eq_getElem (by omega)))
 have Nl:eh<w.heap.size:=block_lt_of_cell (hM 0 _ (List.getElem?_eq_getElem (by omega)))
 have sc:(n:Int)+1-(i:Int)=((n+1-i:Nat):Int):=by omega
 have wQ:i+(n+1-i)=n+1:=by omega
 have hold:(Builtin.firstCells ji.size i (.slice (some ⟨b,0,none⟩) i c)).run Try.prog w.drew= .ok (cs.take (i*2)).toArray w.drew:=by
  rw[lj]
  exact run_firstCells_some w.drew 2 i ⟨b,0,none⟩ i c (cs.take (i*2)) (by rw[List.length_take];omega) (fun ad v aS=>by
   rw[Addr.add_lit]
   rw[List.getElem?_take]at aS
   split at aS
   ·exact e3 ad v aS
   ·cases aS)
 have tr:∀ty,(Builtin.append_ #[22,3] ty #[.slice (some ⟨b,0,none⟩) i c,.int .i64 ((n:Int)+1-(i:Int))]).run Try.prog w=
   .ok (.slice (some ⟨w.heap.size,0,none⟩) (n+1) (grownCap w (n+1) c 35)) (w.drew.alloc (.cells ((cs.take (i*2)).toArray++Builtin.zeroCells (Value.agg #[.string ⟨#[]⟩,.string ⟨#[]⟩]).cells (n+1-i)++Builtin.zeroCells (Value.agg #[.string ⟨#[]⟩,.string ⟨#[]⟩]).cells (grownCap w (n+1) c 35-(n+1))) 35)):=fun ty=>by
  have h:=Lib.run_append_grow_zeros w 22 3 ty 35 ji _ .i64 .i64 lg (by kernel_rfl) lh nq (some ⟨b,0,none⟩) i c (cs.take (i*2)) hold (n+1-i) (by omega) (by omega) (by omega) (by omega) (by rw[nr];omega) (by rw[nr,wQ];exact growslice_fits gQ wM)
  rw[wQ]at h
  rw[sc]
  exact h
 obtain⟨G,l1⟩:∃G,G=grownCap w (n+1) c 35:=⟨_,rfl⟩
 obtain⟨fT,n6⟩:∃fT:Array Value,fT=(cs.take (i*2)).toArray++Builtin.zeroCells (Value.agg #[.string ⟨#[]⟩,.string ⟨#[]⟩]).cells (n+1-i)++Builtin.zeroCells (Value.agg #[.string ⟨#[]⟩,.string ⟨#[]⟩]).cells (G-(n+1)):=⟨_,rfl⟩
 rw[←l1]at tr⊢
 rw[←n6]at tr⊢
 have wR:(n+1)*2≤fT.size:=by
  rw[n6]
  simp[Builtin.zeroCells,Value.cells]
  omega
 obtain⟨g6,jP⟩:∃g6,g6=w.drew.alloc (.cells fT 35):=⟨_,rfl⟩
 rw[←jP]at tr
 have wS:∀ad,ad<(n+1)*2→(g6.cell? ⟨w.heap.size,ad,none⟩).isSome=true:=fun ad aS=>by
  rw[jP,World.cell?_alloc_at (w:=w.drew) fT _ w.heap.size ad rfl,Array.getElem?_eq_getElem (by omega)];rfl
 have BB:∀ad,g6.frozen? ⟨w.heap.size,ad,none⟩=false:=fun ad=>by rw[jP];exact World.frozen?_alloc_at (w:=w.drew) fT _ w.heap.size ad rfl
 have Nm:∀ad v,w.cell? ⟨b,ad,none⟩=some v→g6.cell? ⟨b,ad,none⟩=some v:=fun ad v h=>by rw[jP,World.cell?_alloc_past (w:=w.drew) _ b ad Nk];exact h
 have Nn:∀ad v,w.cell? ⟨eh,ad,none⟩=some v→g6.cell? ⟨eh,ad,none⟩=some v:=fun ad v h=>by rw[jP,World.cell?_alloc_past (w:=w.drew) _ eh ad Nl];exact h
 have Np:∀(W:World),(∀x,W.cell? x=g6.cell? x)→(∀x,W.frozen? x=g6.frozen? x)→∀ty iv,(Builtin.copy_ #[22,22] ty #[.slice (some ⟨w.heap.size,i*2,none⟩) (n+1-i) iv,.slice (some ⟨eh,0,none⟩) 1 bd]).run Try.prog W= .ok (goInt (Nat.min 1 (n+1-i))) (W.setCells w.heap.size (i*2) vs):=fun W mV rA ty iv=>
  tn W _ _ ty 35 2 w.heap.size (i*2) (n+1-i) iv ⟨eh,0,none⟩ 1 bd vs lg cp (by rw[i4];simp only[Nat.min_def];split<;>omega)
   (fun ad v aS=>by rw[Addr.add_lit,mV];exact Nn _ v (hM ad v aS))
   (fun ad aS=>by rw[mV];exact wS _ (by omega)) (fun ad aS=>by rw[rA];exact BB _) jd
 have P8:n+1≤G:=by rw[l1];exact grownCap_ge w _ _ _
 have P9:G≤9223372036854775807:=by
  have:=grownCap_le_maxLen w (n+1) c 35 (by unfold maxLen;omega)
  rw[←l1]at this
  unfold maxLen at this
  omega
 have P_:¬(G=i):=by omega
 have Qa:¬(G=i+1):=by omega
 have Qb:¬(c=i):=by omega
 have Nq:b≠w.heap.size:=by omega
 have iZ:(cs.drop (i*2)).length=(n-i)*2:=by rw[List.length_drop,gx];omega
 have BC:∀(W:World),(∀x,W.cell? x=(g6.setCells w.heap.size (i*2) vs).cell? x)→(∀x,W.frozen? x=(g6.setCells w.heap.size (i*2) vs).frozen? x)→∀ty iv cX,(Builtin.copy_ #[22,22] ty #[.slice (some ⟨w.heap.size,(i+1)*2,none⟩) (n-i) iv,.slice (some ⟨b,i*2,none⟩) (n-i) cX]).run Try.prog W= .ok (goInt (Nat.min (n-i) (n-i))) (W.setCells w.heap.size ((i+1)*2) (cs.drop (i*2))):=fun W mV rA ty iv cX=>
  tn W _ _ ty 35 2 w.heap.size ((i+1)*2) (n-i) iv ⟨b,i*2,none⟩ (n-i) cX (cs.drop (i*2)) lg cp (by rw[iZ];simp only[Nat.min_def];split<;>omega)
   (fun ad v aS=>by
    rw[Addr.add_lit,mV,World.cell?_setCells_out _ _ _ _ _ (fun h _=>absurd h Nq)]
    have:=e3 (i*2+ad) v (by rwa [List.getElem?_drop]at aS)
    rw[Nat.zero_add]at this
    exact Nm _ v this)
   (fun ad aS=>by rw[mV];exact isSome_setCells _ _ _ _ (fun t aG=>wS _ (by omega)) _ (wS _ (by omega)))
   (fun ad aS=>by rw[rA,World.frozen?_setCells];exact BB _) (fun v aC=>pU v (List.mem_of_mem_drop aC))
 subst jP
 have Nr:∀x,((w.alloc (.cells fT 35)).drew).cell? x=(w.drew.alloc (.cells fT 35)).cell? x:=fun x=>rfl
 have Ns:∀x,((w.alloc (.cells fT 35)).drew).frozen? x=(w.drew.alloc (.cells fT 35)).frozen? x:=fun x=>rfl
 have Nt:∀x,(((w.alloc (.cells fT 35)).drew.setCells w.heap.size (i*2) vs).drew).cell? x=((w.drew.alloc (.cells fT 35)).setCells w.heap.size (i*2) vs).cell? x:=fun x=>rfl
 have sU:∀x,(((w.alloc (.cells fT 35)).drew.setCells w.heap.size (i*2) vs).drew).frozen? x=((w.drew.alloc (.cells fT 35)).setCells w.heap.size (i*2) vs).frozen? x:=fun x=>rfl
 have Nc:IntKind.i64.wrap ((i:Int)+1)=(i:Int)+1:=by rw[IntKind.wrap_i64];omega
 have Nd:(0:Int)≤(i:Int)+1:=by omega
 have pC:i≤n:=by omega
 have Nf:((i:Int)+1).toNat=i+1:=by omega
 have Ng:(i:Int)≤(n:Int):=by omega
 clear sc wQ hold n6 l1 wR
 go_enter Try.func35,Try.ntmps35
 go_wp2_with (first
  |(at_builtin;refine Lib.wpList_append_run _ rfl _ _ _ _ rfl _ _ rfl rfl _ _ (tr _) ?_)
  |(at_builtin;refine wpList_copy_runI _ rfl _ _ 22 22 rfl _ _ rfl rfl (Np _ Nr Ns _ _) ?_)
  |(at_builtin;refine wpList_copy_runI _ rfl _ _ 22 22 rfl _ _ rfl rfl (BC _ (fun _=>rfl) (fun _=>rfl) _ _ _) ?_))
 go_region_law_o (refine step_copy_runI rfl _ _ 22 22 rfl (.slice (some ⟨w.heap.size,(i+1)*2,none⟩) (n-i) (G-(i+1))) (.slice (some ⟨b,i*2,none⟩) (n-i) (c-i)) (by simp[Act.eval,Act.put]) (by simp[Act.eval,Act.put]) (BC _ Nt sU 3 (G-(i+1)) (c-i)) ?_)
 go_wp2
 go_ret
 exact⟨rfl,rfl⟩
end
def hS (x:aP):List Value:=[.string ⟨⟨x.Name⟩⟩,.string ⟨⟨x.dP⟩⟩]
theorem kq:mQ aM hS:=by
 refine⟨fun _=>rfl,fun _=>rfl,fun x v aC=> ?_,fun w F x cs S=> ?_⟩
 ·simp only[hS,List.mem_cons,List.not_mem_nil,or_false]at aC
  rcases aC with rfl|rfl<;>rfl
 ·simp only[aM,hS,al,aH]
  constructor
  ·rintro⟨bz,bA,bh,cc,rfl,rfl,⟨mC,r_,Dw,uw,rfl,rfl,rfl,_⟩,_⟩
   rfl
  ·rintro rfl
   exact⟨_,_,fun _=>False,fun _=>False,rfl,rfl,⟨_,_,fun _=>False,fun _=>False,rfl,rfl,rfl,fun _ h=>h,fun _ h=>h,fun _ h=>h.elim⟩,fun _ h=>h.elim,fun _ h=>h.elim,fun _ h=>h.elim⟩
theorem cell_of {w:World} {b:Nat} {cur:Array Value} {eN:TypeId} {fr:Nat×Nat} (I:w.heap[b]? =some (.cells cur eN fr)) (ad:Nat):w.cell? ⟨b,ad,none⟩=cur[ad]? :=by
 simp[World.cell?,I]
theorem ts {w:World} {b:Nat} {cur:Array Value} {eN:TypeId} {fr:Nat×Nat} (I:w.heap[b]? =some (.cells cur eN fr)) (bk:hb fr (cur.size+1)) (ad:Nat) (aS:ad≤cur.size):w.frozen? ⟨b,ad,none⟩=false:=by
 have:=bk ad (by omega)
 simp only[World.frozen?,I]
 simpa using this
set_option maxHeartbeats 1000000 in
theorem Nu (a0:List aP) (aF:Int) (cj r:List aP) (h:pQ a0 aF cj=some r):cb a1 35 [.aK 2 (a0.map aM),.int .i64 aF,.aK 2 (cj.map aM)] (.aK 2 (r.map aM)) [.hole,.hole,.hole]:=by
 unfold pQ at h
 split at h
 case isFalse=>cases h
 rename_i ae
 cases h
 obtain⟨bI,az,aa,gQ⟩:=ae
 obtain⟨i,rfl⟩:∃i:Nat,aF=i:=⟨aF.toNat,by omega⟩
 obtain⟨x,rfl⟩:=List.length_eq_one_iff.1 aa
 simp only[Int.toNat_natCast,List.singleton_append]
 have az:i≤a0.length:=by omega
 have n0:∀args w,(callFunc 35 args).run a1.P w= .ok (.enter 35 args) w:=enters_of Try.func35 (by kernel_rfl) rfl
 intro w F X S vs i4 aA
 obtain⟨v0,v1,v2,rfl⟩:∃v0 v1 v2,vs=[v0,v1,v2]:=by
  match vs,i4 with
  |[x,y,z],_=>exact⟨x,y,z,rfl⟩
 have Nv:v1= .int .i64 i:=jn (aA.b0 1)
 subst Nv
 rcases A5 (aA.b0 2)with⟨ao,_⟩|⟨eh,n7,BD,Nw,Qc,_,wT,Nx,rz,BE,Ny,_,Qd,Nz⟩
 ·cases ao
 have wT:v2= .slice (some ⟨eh,0,none⟩) 1 n7:=wT
 subst wT
 have NA:BD.toList.take 2=hS x:=by
  have:=A0 kq [x] _ _ Nz
  simpa using this
 have Qe:1≤n7:=Ny
 have hM:∀ad v,(hS x)[ad]? =some v→w.cell? ⟨eh,0+ad,none⟩=some v:=fun ad v aS=>by
  rw[Nat.zero_add,cell_of rz,←Array.getElem?_toList]
  rw[←NA,List.getElem?_take]at aS
  split at aS
  ·exact aS
  ·cases aS
 have jd:∀v∈hS x,Value.oneCell' v=true:=kq.2.2.1 x
 have x1:∀{n:Nat},(a0.take i++x::a0.drop i).length=n→n=a0.length+1:=fun {n} e=>by
  rw[←e];simp;omega
 have hlen:(a0.take i++x::a0.drop i).length=a0.length+1:=by simp;omega
 have rB:=Hy kq a0 x i az
 rcases A5 (aA.b0 0)with⟨ao,a,fz⟩|⟨b,cap,cur,eN,fr,ay,fz,ba,I,bk,hle,hm,cp,dN⟩
 ·have ao:a0=[]:=by simpa using ao
  subst ao
  have fz:v0= .slice a 0 0:=fz
  subst fz
  have lh:i=0:=by simpa using az
  subst lh
  refine .inl ⟨n0 _ _,(Bv 0 0 eh n7 [] (hS x) w a (Nat.le_refl _) (by omega) (by decide) rfl rfl (fun _=>rfl) (fun _ _ ad v aS=>by simp at aS) hM jd).mono ?_⟩
  rintro ex aq ⟨rfl,hw⟩
  have l1:=grownCap_ge w (0+1) 0 35
  have pV:=grownCap_le_maxLen w (0+1) 0 35 (by unfold maxLen;omega)
  exact⟨_,rfl,F,_,A4 kq aA (ys:=[x]) hw (by
   rw[Array.toList_append,List.toList_toArray,List.nil_append,List.take_left' (by rfl)]
   simp) (by rw[Array.size_append,size_zeroCells];show 2+(grownCap w (0+1) 0 35-(0+1))*2=_;omega) l1 pV rfl⟩
 ·have fz:v0= .slice (some ⟨b,0,none⟩) a0.length cap:=by rw[List.length_map]at fz;exact fz
  subst fz
  simp only[List.length_map]at hle dN
  have BF:cap≤9223372036854775807:=by simpa [maxLen]using hm
  have BG:=A0 kq a0 _ _ dN
  obtain⟨cs,e3⟩:∃cs,cs=a0.flatMap hS:=⟨_,rfl⟩
  rw[←e3]at BG rB
  have gx:cs.length=a0.length*2:=by rw[e3];exact A1 kq a0
  have pU:∀v∈cs,Value.oneCell' v=true:=by rw[e3];exact Hz kq a0
  have jE:∀ad,ad<a0.length*2→cs[ad]? =cur[ad]? :=fun ad aS=>by
   rw[←BG,List.getElem?_take,if_pos aS,Array.getElem?_toList]
  have mn:∀ad v,cs[ad]? =some v→w.cell? ⟨b,0+ad,none⟩=some v:=fun ad v aS=>by
   have cv:ad<a0.length*2:=by
    rcases Nat.lt_or_ge ad cs.length with h|h
    ·omega
    ·rw[List.getElem?_eq_none h]at aS;cases aS
   rw[Nat.zero_add,cell_of I,←jE ad cv];exact aS
  have NB:=aA.cP 0 b ba
  have cg:eh≠b:=fun e=>aA.c8 2 0 b (by decide) (e▸Nx) ba
  by_cases pC:i=a0.length
  ·subst pC
   by_cases mv:a0.length+1≤cap
   ·refine .inl ⟨n0 _ _,(M1 b a0.length cap eh n7 (hS x) w mv BF rfl (fun ad aS=>by rw[cell_of I,Array.getElem?_eq_getElem (by omega)];rfl) (fun ad aS=>ts I bk _ (by omega)) hM jd).mono ?_⟩
    rintro ex aq ⟨rfl,hw⟩
    obtain⟨hZ,aD,aO,bg,b6,cJ,ec,ew,fE,iJ⟩:=re b (hS x) (a0.length*2) w cur eN fr I
    rw[←hw]at aD b6 cJ ec ew fE iJ
    refine⟨_,rfl,F,_,sW kq aA (ys:=a0.take a0.length++x::a0.drop a0.length) (.inl ba) (by omega) (by omega) aD (by rw[aO];exact bk) (by omega) (by omega) hm (by
     rw[hlen,Nat.add_mul,rB]
     refine wA (Nat.le_refl _) (by omega) gx rfl fun ad aS=> ?_
     rw[bg ad (by omega)]
     by_cases jG:ad<a0.length*2
     ·rw[if_neg (by omega),if_pos jG,jE ad jG]
     ·rw[if_pos ⟨by omega,by show ad<a0.length*2+2;omega⟩,if_neg jG,if_pos (by omega)]) (fun c _ ae=>b6 c ae) ec ew ⟨fE,fun _=>Nat.le_of_eq iJ.symm⟩ hlen.symm⟩
   ·refine .inl ⟨n0 _ _,(Bv a0.length cap eh n7 cs (hS x) w (some ⟨b,0,none⟩) hle (by omega) (by omega) gx rfl (fun h=>by cases h) (fun a bU ad v aS=>by cases bU;rw[Addr.add_lit];exact mn ad v aS) hM jd).mono ?_⟩
    rintro ex aq ⟨rfl,hw⟩
    have l1:=grownCap_ge w (a0.length+1) cap 35
    have pV:=grownCap_le_maxLen w (a0.length+1) cap 35 (by unfold maxLen;omega)
    refine⟨_,rfl,F,_,A4 kq aA (ys:=a0.take a0.length++x::a0.drop a0.length) hw (by
     rw[hlen,rB,show cs.take (a0.length*2)=cs from List.take_of_length_le (by omega),show cs.drop (a0.length*2)=[]from List.drop_of_length_le (by omega),List.append_nil,Array.toList_append,List.toList_toArray]
     exact List.take_left' (by rw[List.length_append,gx];show a0.length*2+2=_;omega)) (by rw[Array.size_append,size_zeroCells,List.size_toArray,List.length_append,gx];show a0.length*2+2+(grownCap w (a0.length+1) cap 35-(a0.length+1))*2=_;omega) (by omega) pV hlen.symm⟩
  ·by_cases mv:a0.length+1≤cap
   ·refine .inl ⟨n0 _ _,(M5 b a0.length cap i eh n7 cs (hS x) w (by omega) mv BF cg gx rfl mn (fun ad aS=>by rw[Nat.zero_add,cell_of I,Array.getElem?_eq_getElem (by omega)];rfl) (fun ad aS=>by rw[Nat.zero_add];exact ts I bk _ (by omega)) hM pU jd Nw eN BD.size cur.size (by simp[World.shape?,rz]) (by simp[World.shape?,I]) (by omega) (ts rz BE _ (by omega)) (ts rz BE _ (Nat.le_refl _))).mono ?_⟩
    rintro ex aq ⟨rfl,hw⟩
    obtain⟨wU,aD,aO,bg,b6,cJ,ec,ew,fE,iJ⟩:=re b (cs.drop (i*2)) ((i+1)*2) w.drew cur eN fr I
    obtain⟨NC,bn,bp,cy,b_,c4,cZ,eM,dr,gl⟩:=re b (hS x) (i*2) _ wU eN fr aD
    rw[←hw]at bn b_ c4 cZ eM dr gl
    have iZ:(cs.drop (i*2)).length=a0.length*2-i*2:=by rw[List.length_drop,gx]
    refine⟨_,rfl,F,_,sW kq aA (ys:=a0.take i++x::a0.drop i) (.inl ba) (by rw[c4,cJ];exact NB) (by rw[c4,cJ];exact Nat.le_refl _) bn (by rw[bp,aO];exact bk) (by omega) (by omega) hm (by
     rw[hlen,Nat.add_mul,rB]
     refine wA (by omega) (by omega) gx rfl fun ad aS=> ?_
     rw[cy ad (by omega)]
     by_cases jG:ad<i*2
     ·rw[if_neg (by omega),if_pos jG,bg ad (by omega),if_neg (by omega),jE ad (by omega)]
     ·rw[if_neg jG]
      by_cases k6:ad<i*2+2
      ·rw[if_pos ⟨by omega,by show ad<i*2+2;omega⟩,if_pos k6]
      ·rw[if_neg (by show¬(i*2≤ad∧ad<i*2+2);omega),if_neg k6,bg ad (by omega),if_pos ⟨by omega,by rw[iZ];omega⟩,List.getElem?_drop,show i*2+(ad-(i+1)*2)=ad-2 by omega]) (fun c _ ae=>(b_ c ae).trans (b6 c ae)) (cZ.trans ec) (eM.trans ew) ⟨dr.trans fE,fun _=>by rw[gl,iJ];exact Nat.le_succ _⟩ hlen.symm⟩
   ·refine .inl ⟨n0 _ _,(Nj b a0.length cap i eh n7 cs (hS x) w (by omega) hle (by omega) (by omega) gx rfl mn hM pU jd).mono ?_⟩
    rintro ex aq ⟨rfl,hw⟩
    have l1:=grownCap_ge w (a0.length+1) cap 35
    have pV:=grownCap_le_maxLen w (a0.length+1) cap 35 (by unfold maxLen;omega)
    obtain⟨G,ND⟩:∃G,G=grownCap w (a0.length+1) cap 35:=⟨_,rfl⟩
    rw[←ND]at hw l1 pV⊢
    obtain⟨fT,n6⟩:∃fT:Array Value,fT=(cs.take (i*2)).toArray++Builtin.zeroCells (Value.agg #[.string ⟨#[]⟩,.string ⟨#[]⟩]).cells (a0.length+1-i)++Builtin.zeroCells (Value.agg #[.string ⟨#[]⟩,.string ⟨#[]⟩]).cells (G-(a0.length+1)):=⟨_,rfl⟩
    rw[←n6]at hw
    have Qf:fT.size=G*2:=by
     rw[n6,Array.size_append,Array.size_append,size_zeroCells,size_zeroCells,List.size_toArray,List.length_take,gx]
     show min (i*2) (a0.length*2)+(a0.length+1-i)*2+(G-(a0.length+1))*2=_
     omega
    have wR:∀ad,ad<i*2→fT[ad]? =cs[ad]? :=fun ad aS=>by
     rw[n6,Array.append_assoc,Array.getElem?_append_left (by rw[List.size_toArray,List.length_take,gx];omega),List.getElem?_toArray,List.getElem?_take,if_pos aS]
    have eL:((w.alloc (.cells fT 35)).drew).heap[w.heap.size]? =some (.cells fT 35 (0,0)):=A2 w _
    obtain⟨wU,aD,aO,bg,b6,cJ,ec,ew,fE,iJ⟩:=re w.heap.size (hS x) (i*2) _ fT 35 (0,0) eL
    obtain⟨NC,bn,bp,cy,b_,c4,cZ,eM,dr,gl⟩:=re w.heap.size (cs.drop (i*2)) ((i+1)*2) (((w.alloc (.cells fT 35)).drew.setCells w.heap.size (i*2) (hS x)).drew) wU 35 (0,0) aD
    rw[←hw]at bn b_ c4 cZ eM dr gl
    have iZ:(cs.drop (i*2)).length=a0.length*2-i*2:=by rw[List.length_drop,gx]
    have gG:((w.alloc (.cells fT 35)).drew).heap.size=w.heap.size+1:=wz w _
    have nH:aq.heap.size=w.heap.size+1:=c4.trans (cJ.trans gG)
    refine⟨_,rfl,F,_,sW kq aA (ys:=a0.take i++x::a0.drop i) (cap:=G) (.inr (Nat.le_refl _)) (by omega) (by omega) bn (fun o _ h=>Nat.lt_irrefl _ (Nat.lt_of_le_of_lt (Nat.zero_le _) h.2)) (by omega) (by omega) pV (by
     rw[hlen,Nat.add_mul,rB]
     refine wA (by omega) (by omega) gx rfl fun ad aS=> ?_
     rw[cy ad (by omega)]
     by_cases jG:ad<i*2
     ·rw[if_neg (by omega),if_pos jG,bg ad (by omega),if_neg (by omega),wR ad jG]
     ·rw[if_neg jG]
      by_cases k6:ad<i*2+2
      ·rw[if_neg (by omega),if_pos k6,bg ad (by omega),if_pos ⟨by omega,by show ad<i*2+2;omega⟩]
      ·rw[if_neg k6,if_pos ⟨by omega,by rw[iZ];omega⟩,List.getElem?_drop,show i*2+(ad-(i+1)*2)=ad-2 by omega]) (fun c ae cg=>(b_ c cg).trans ((b6 c cg).trans (A3 w _ ae))) (cZ.trans ec) (eM.trans ew) ⟨dr.trans fE,fun _=>by rw[gl];show w.drawn≤(World.setCells _ _ _ _).drawn+1;rw[iJ];show w.drawn≤w.drawn+1+1;omega⟩ hlen.symm⟩
end
end Go.Proofs.Ytpddiknnnoomoaa
