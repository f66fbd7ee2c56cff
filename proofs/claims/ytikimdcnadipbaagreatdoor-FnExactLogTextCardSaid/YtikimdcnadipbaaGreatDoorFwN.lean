/- Part of a proof that a law returns true for every input. No condition. -/
import Derived.Test.YtikimdcnadipbaaGreatDoorFwM
import Derived.Shelf.Strings.Builder1
namespace Go.bZ
open Go.Shelf Go.RowKit Go.Proofs
section
variable {P:Program} {w:World}
theorem Lv (t u ty e:TypeId) (i:TypeInfo) (aK:P.underlying t=some (.slice e)) (hu:P.underlying u=some .string) (ay:P.info? e=some i) (bd:i.zero=some (.int .u8 0))
  (om:i.size=1) (n1:i.bytes=1) (v:Value) (n:Nat) (xs:List Value) (g_:w.ownsRow 0 e 1 v n xs) (s:ByteArray) (nV:n+s.size≤140737488355328):
  ∃ct ar,(Builtin.append_ #[t,u] ty #[v,.string s]).run P w= .ok ct ar∧ar.ownsRow 0 e 1 ct (n+s.size) (xs++Lib.strCells s)∧w.grownBy ar v.ownBlock∧
   (ct.ownBlock=none∨ct.ownBlock=v.ownBlock∨∃g,ct.ownBlock=some g∧w.heap.size≤g):=by
 obtain⟨ct,ar,aa,ab,aB,aP⟩:=Lib.run_append_own_string (P:=P) w 0 t u ty e i aK hu ay bd om n1 v n xs g_ s (by unfold maxLen;omega) nV (Nat.zero_le _)
 refine⟨ct,ar,aa,ab,aB,?_⟩
 rcases g_ with⟨aI,⟨rfl,aQ⟩|⟨g,cap,cur,rfl,_,hg,D2,mX,fO,kY⟩⟩
 ·obtain⟨v2,jy,bg,bw,cM,cc⟩:=Lib.run_append_own_string (P:=P) w w.heap.size t u ty e i aK hu ay bd om n1 (.slice none 0 0) n xs ⟨aI,.inl ⟨rfl,aQ⟩⟩ s (by unfold maxLen;omega) nV (Nat.le_refl _)
  rw[bg]at aa
  cases aa
  rcases bw with⟨_,⟨rfl,_⟩|⟨qZ,Yu,tW,rfl,J,_⟩⟩
  ·exact .inl rfl
  ·exact .inr (.inr ⟨qZ,rfl,J⟩)
 ·by_cases kO:n+s.size≤cap
  ·rw[Lib.run_append_room_string (P:=P) w t u ty e i aK hu ay om g n cap cur hg s kO (by omega)]at aa
   cases aa
   exact .inr (.inl rfl)
  ·rw[Lib.run_append_grow_string (P:=P) w t u ty e i (.int .u8 0) aK hu ay bd ⟨g,0,none⟩ n cap xs (by rw[om];exact aI) (fun j x bE=>by
    rw[←kY,List.getElem?_take]at bE
    split at bE
    ·simpa [World.cell?,hg,Addr.add_lit]using bE
    ·cases bE) s (by omega) (by omega) (by
     rw[n1]
     exact growslice_fits (by omega) (by omega))]at aa
   cases aa
   exact .inr (.inr ⟨_,rfl,Nat.le_refl _⟩)
theorem Lw {ops:Array Oper} {rest:List Oper} {o:Oper} {a:Act} {Q:Exit→Act→World→Prop} (Lx:o.guard=none) (gk x:Operand) (t u:TypeId)
  (bH:o.op= .call {callee:=.builtin .append,args:= #[gk,x],argTypes:= #[t,u]}) (e:TypeId) (i:TypeInfo) (aK:P.underlying t=some (.slice e)) (hu:P.underlying u=some .string) (ay:P.info? e=some i) (bd:i.zero=some (.int .u8 0))
  (om:i.size=1) (n1:i.bytes=1) (v:Value) (n:Nat) (xs:List Value) (U:a.eval gk=v) (g_:w.ownsRow 0 e 1 v n xs) (s:ByteArray) (ai:a.eval x= .string s) (nV:n+s.size≤140737488355328)
  (h:∀ct ar,ar.ownsRow 0 e 1 ct (n+s.size) (xs++Lib.strCells s)→w.grownBy ar v.ownBlock→(ct.ownBlock=none∨ct.ownBlock=v.ownBlock∨∃g,ct.ownBlock=some g∧w.heap.size≤g)→wpList P ops Q rest (a.put o.dst ct) ar):wpList P ops Q (o::rest) a w:=by
 refine wpList_plain Lx fun K jv=> ?_
 obtain⟨ct,ar,aC,ab,aB,aP⟩:=Lv (P:=P) (w:=w) t u o.type e i aK hu ay bd om n1 v n xs g_ s nV
 unfold Oper.wp execOp
 simp only[bH,resolve,invoke,builtin,Sem.run_bind,Sem.run_pure,Result.andThen_ok,List.map_toArray,List.map_cons,List.map_nil,U,ai,aC]
 exact jv _ _ (h ct ar ab aB aP)
end
section
variable {P:Program} {ρ:Ren}
def nt (w:World) (T e:TypeId) (b:Nat) (a v:Value) (dh:List Value):Prop:=
 w.heap[b]? =some (.cells #[a,v] T (0,0))∧w.ownsRow 0 e 1 v dh.length dh∧v.ownBlock≠some b
theorem Ly {w:World} {e:TypeId} {n g:Nat} {v:Value} {dh:List Value} (h:w.ownsRow 0 e 1 v n dh) (hg:v.ownBlock=some g):g<w.heap.size:=by
 rcases h with⟨_,⟨rfl,_⟩|⟨qZ,cap,cur,rfl,_,J,_⟩⟩
 ·cases hg
 ·cases hg
  exact(Array.getElem?_eq_some_iff.1 J).1
theorem D3 {w ar:World} {e:TypeId} {n:Nat} {v:Value} {dh:List Value} (h:w.ownsRow 0 e 1 v n dh) (bc:∀g,v.ownBlock=some g→ar.heap[g]? =w.heap[g]?):ar.ownsRow 0 e 1 v n dh:=by
 rcases h with⟨aa,ab|⟨g,cap,cur,rfl,aB,J,aP⟩⟩
 ·exact⟨aa,.inl ab⟩
 ·exact⟨aa,.inr ⟨g,cap,cur,rfl,aB,(bc g rfl).trans J,aP⟩⟩
theorem D4 {w:World} {b i:Nat} {cs:Array Value} {T:TypeId} (v:Value) (J:w.heap[b]? =some (.cells cs T (0,0))):(w.setCell ⟨b,i,none⟩ v).heap[b]? =some (.cells (cs.setIfInBounds i v) T (0,0)):=by
 simp[World.setCell,Array.getElem?_modify,J]
theorem u5 {w:World} {b i k:Nat} (v:Value) (al:k≠b):(w.setCell ⟨b,i,none⟩ v).heap[k]? =w.heap[k]? :=by
 simp[World.setCell,Array.getElem?_modify,Ne.symm al]
set_option maxHeartbeats 2000000 in
set_option maxRecDepth 100000 in
theorem Lz (L:Lays.n166 P ρ) (X:Builder.Extra P ρ) (b:Nat) (a v:Value) (dh:List Value) (s:ByteArray) (w:World) (h:nt w (ρ.t 72) (ρ.t 5) b a v dh) (br:a= .pointer none∨a= .pointer (some ⟨b,0,none⟩)) (hlen:dh.length+s.size≤140737488355328):
  Calls P (ρ.f 166) #[.pointer (some ⟨b,0,none⟩),.string s] w fun e ar=>(∃r,e= .returned r)∧∃ct,nt ar (ρ.t 72) (ρ.t 5) b (.pointer (some ⟨b,0,none⟩)) ct (dh++Lib.strCells s)∧
   (ct.ownBlock=none∨ct.ownBlock=v.ownBlock∨∃g,ct.ownBlock=some g∧w.heap.size≤g)∧(∀k,k<w.heap.size→k≠b→some k≠v.ownBlock→ar.heap[k]? =w.heap[k]?)∧
   w.heap.size≤ar.heap.size∧ar.os=w.os∧ar.tape=w.tape∧ar.output=w.output:=by
 obtain⟨iS,g_,cj⟩:=h
 have cJ:b<w.heap.size:=(Array.getElem?_eq_some_iff.1 iS).1
 obtain⟨i0,ay,ui,LA,LB⟩:=info_parts X.infoByte
 have mixed:=L.mixed
 have t72:=L.t72;have a72:=L.a72;have z72:=L.z72;have v72:=L.v72;have LC:=run_underlying L.t72
 have t70:=L.t70;have a70:=L.a70;have z70:=L.z70;have v70:=L.v70;have LD:=run_underlying L.t70
 have t37:=L.t37;have a37:=L.a37;have z37:=L.z37;have v37:=L.v37;have D5:=run_underlying L.t37
 have t3:=L.t3;have a3:=L.a3;have z3:=L.z3;have v3:=L.v3;have Bf:=run_underlying L.t3
 have t9:=L.t9;have a9:=L.a9;have z9:=L.z9;have v9:=L.v9;have LF:=run_underlying L.t9
 have t4:=L.t4;have a4:=L.a4;have z4:=L.z4;have v4:=L.v4;have HK:=run_underlying L.t4
 have t164:=L.t164;have a164:=L.a164;have z164:=L.z164;have v164:=L.v164;have Yv:=run_underlying L.t164
 have t5:=X.t5;have a5:=X.a5;have z5:=X.z5;have v5:=X.v5;have Bg:=run_underlying X.t5
 have Yw:∀args w,(callFunc (ρ.f 240) args).run P w= .ok (.enter (ρ.f 240) args) w:=enters_of L.f240 (by kernel_rfl) rfl
 have A2:Calls P (ρ.f 240) #[.pointer (some ⟨b,0,none⟩)] w fun e ar=>e= .returned (.tuple #[])∧(nt ar (ρ.t 72) (ρ.t 5) b (.pointer (some ⟨b,0,none⟩)) v dh∧(∀k,k≠b→ar.heap[k]? =w.heap[k]?)∧ar.heap.size=w.heap.size∧ar.os=w.os∧ar.tape=w.tape∧ar.output=w.output):=by
  rcases br with rfl|rfl
  ·refine(Any.Builder_copyCheck_fresh {L with} X.toX72 b w (by rw[Lib.cell_of_heap iS];rfl) (by simp[World.shape?,iS]) (Lib.frozen_of_heap iS 0)).mono ?_
   rintro e ar ⟨rfl,rfl⟩
   refine⟨rfl,⟨?_,?_,cj⟩,fun k al=> ?_,by simp,rfl,rfl,rfl⟩
   ·rw[D4 _ iS];rfl
   ·refine D3 g_ fun g hg=> ?_
    exact u5 _ fun e=>cj (by rw[hg,e])
   ·exact u5 _ al
  ·refine(Any.Builder_copyCheck_used {L with} X.toX72 b w (by rw[Lib.cell_of_heap iS];rfl)).mono ?_
   rintro e ar ⟨rfl,rfl⟩
   exact⟨rfl,⟨iS,g_,cj⟩,fun _ _=>rfl,rfl,rfl,rfl,rfl⟩
 go_enter L.f166,Body.n166_ntmps ρ
 go_wp2_with (go_at_fn (ρ.f 240);refine A2.mono ?_)
 rintro e j3 ⟨rfl,⟨yR,LG,D6⟩,q0,lC,yq,LH,LI⟩
 have c0:j3.cell? ⟨b,0,none⟩=some (.pointer (some ⟨b,0,none⟩)):=by rw[Lib.cell_of_heap yR];rfl
 have bD:j3.cell? ⟨b,1,none⟩=some v:=by rw[Lib.cell_of_heap yR];rfl
 go_wp2_with (at_builtin;refine Lw rfl _ _ (ρ.t 37) (ρ.t 9) rfl (ρ.t 5) i0 L.t37 L.t9 ay ui LA LB _ _ _ rfl LG s rfl ?c4 ?_)
 case c4=>exact hlen
 intro ct jy D7 o3 D8
 have u6:jy.heap[b]? =some (.cells #[.pointer (some ⟨b,0,none⟩),v] (ρ.t 72) (0,0)):=by
  rw[o3.block b (by omega) (fun e=>D6 e.symm)]
  exact yR
 have d0:jy.cell? ⟨b,0,none⟩=some (.pointer (some ⟨b,0,none⟩)):=by rw[Lib.cell_of_heap u6];rfl
 have d1:jy.cell? ⟨b,1,none⟩=some v:=by rw[Lib.cell_of_heap u6];rfl
 have f1:jy.frozen? ⟨b,1,none⟩=false:=Lib.frozen_of_heap u6 1
 have D9:ct.ownBlock≠some b:=by
  rcases D8 with aa|aa|⟨g,aa,ab⟩<;>rw[aa]
  ·simp
  ·exact D6
  ·simp only[ne_eq,Option.some.injEq];omega
 obtain⟨yS,sk,cap,rfl⟩:∃yS sk cap,ct= .slice yS sk cap:=by
  rcases D7.2 with⟨aD,_⟩|⟨g,cap,cur,aD,_⟩
  ·exact⟨_,_,_,aD⟩
  ·exact⟨_,_,_,aD⟩
 go_wp2
 go_ret2
 refine⟨⟨_,rfl⟩,.slice yS sk cap,⟨?_,?_,D9⟩,?_,?_,?_,?_,?_,?_⟩
 ·rw[D4 _ u6];rfl
 ·rw[List.length_append,Lib.strCells_length]
  refine D3 D7 fun g hg=> ?_
  exact u5 _ fun e=>D9 (by rw[hg,e])
 ·simpa only[lC]using D8
 ·intro k al xe LJ
  rw[u5 _ xe,o3.block k (by omega) LJ,q0 k xe]
 ·have:=o3.size
  simp;omega
 ·exact o3.os.trans yq
 ·exact o3.tape.trans LH
 ·exact o3.output.trans LI
theorem yT (w:World) (row:Option Nat):w.grownBy w.drew row:=⟨rfl,rfl,rfl,Nat.le_refl _,fun _ _ _=>rfl⟩
theorem LK (w:World) (g n:Nat):w.grownBy (w.drew.freeze ⟨g,0,none⟩ n) (some g):=by
 unfold World.freeze
 split
 ·exact yT w _
 ·refine⟨rfl,rfl,rfl,?_,fun k _ al=> ?_⟩
  ·show w.heap.size≤(w.heap.modify _ _).size
   simp
  ·show(w.heap.modify g _)[k]? =_
   rw[Array.getElem?_modify,if_neg (fun e=>al (by rw[e]))]
set_option maxHeartbeats 2000000 in
set_option maxRecDepth 100000 in
theorem u7 (L:Lays.n169 P ρ) (X:Builder.Extra P ρ) (b:Nat) (a gk q:Value) (n:Nat) (o:Option Addr) (cap:Nat) (r:ByteArray) (w j3 jy:World) (row:Option Nat) (sX:gk= .slice o n cap)
  (iS:w.heap[b]? =some (.cells #[a,gk] (ρ.t 72) (0,0)))
  (D_:(Builtin.unsafeSliceData_ #[(ρ.t 37)] (ρ.t 127) #[gk]).run P w.drew= .ok q j3) (al:j3.cell? ⟨b,1,none⟩=some gk)
  (Yx:(Builtin.unsafeString_ #[(ρ.t 127),(ρ.t 3)] (ρ.t 9) #[q,.int .i64 n]).run P j3= .ok (.string r) jy) (hg:w.grownBy jy row):
  Calls P (ρ.f 169) #[.pointer (some ⟨b,0,none⟩)] w fun e ar=>e= .returned (.string r)∧w.grownBy ar row:=by
 subst sX
 have bD:w.drew.cell? ⟨b,1,none⟩=some (.slice o n cap):=by
  have:w.drew.heap[b]? =some (.cells #[a,.slice o n cap] (ρ.t 72) (0,0)):=iS
  rw[Lib.cell_of_heap this];rfl
 have mixed:=L.mixed
 have t72:=L.t72;have a72:=L.a72;have z72:=L.z72;have v72:=L.v72;have LC:=run_underlying L.t72
 have t70:=L.t70;have a70:=L.a70;have z70:=L.z70;have v70:=L.v70;have LD:=run_underlying L.t70
 have t37:=L.t37;have a37:=L.a37;have z37:=L.z37;have v37:=L.v37;have D5:=run_underlying L.t37
 have t127:=L.t127;have a127:=L.a127;have z127:=L.z127;have v127:=L.v127;have Yy:=run_underlying L.t127
 have t3:=L.t3;have a3:=L.a3;have z3:=L.z3;have v3:=L.v3;have Bf:=run_underlying L.t3
 have t9:=L.t9;have a9:=L.a9;have z9:=L.z9;have v9:=L.v9;have LF:=run_underlying L.t9
 have t5:=X.t5;have a5:=X.a5;have z5:=X.z5;have v5:=X.v5;have Bg:=run_underlying X.t5
 go_enter L.f169,Body.n169_ntmps ρ
 go_wp2
 go_region_o
 all_goals (go_wp2;go_ret;exact⟨rfl,hg⟩)
theorem LL (L:Lays.n169 P ρ) (X:Builder.Extra P ρ) (b:Nat) (a v:Value) (l:List UInt8) (w:World) (h:nt w (ρ.t 72) (ρ.t 5) b a v (Lib.byteCells l)):
  Calls P (ρ.f 169) #[.pointer (some ⟨b,0,none⟩)] w fun e ar=>e= .returned (.string ⟨⟨l⟩⟩)∧w.grownBy ar v.ownBlock:=by
 obtain⟨iS,g_,cj⟩:=h
 have cJ:b<w.heap.size:=(Array.getElem?_eq_some_iff.1 iS).1
 have cell:∀j3:World,j3.heap[b]? =w.heap[b]?→j3.cell? ⟨b,1,none⟩=some v:=fun j3 h=>by rw[Lib.cell_of_heap (h.trans iS)];rfl
 rw[Lib.byteCells_length]at g_
 have yU:∀(W:World) (q:Option Addr),(Builtin.unsafeString_ #[(ρ.t 127),(ρ.t 3)] (ρ.t 9) #[.pointer q,.int .i64 0]).run P W= .ok (.string .empty) W:=fun W q=>Lib.run_unsafeString_none W _ _ _ q
 by_cases bl:l=[]
 ·subst bl
  rcases g_ with⟨_,⟨rfl,_⟩|⟨g,cap,cur,rfl,_,hg,D2,mX,fO,xR⟩⟩
  ·exact u7 L X b a _ (.pointer none) 0 none 0 _ w w.drew w.drew _ rfl iS rfl (cell _ rfl) (yU _ _) (yT w _)
  ·by_cases qY:cap=0
   ·subst qY
    have D_:=Lib.run_unsafeSliceData_zero (P:=P) w.drew #[ρ.t 37] (ρ.t 127) (ρ.t 5) L.t127 ⟨g,0,none⟩ 0 ((ρ.t 5),cur.size) (by have ev:w.drew.heap[g]? =some (.cells cur (ρ.t 5) (0,0)):=hg;simp[World.shape?,ev])
    refine u7 L X b a _ _ 0 (some ⟨g,0,none⟩) 0 _ w _ _ _ rfl iS D_ (cell _ ((Lib.alloc_old w.drew _ b cJ).trans rfl)) (yU _ _) ?_
    refine⟨rfl,rfl,rfl,?_,fun k al _=>(Lib.alloc_old w.drew _ k al).trans rfl⟩
    show w.heap.size≤(w.heap.push _).size
    simp
   ·exact u7 L X b a _ (.pointer (some ⟨g,0,none⟩)) 0 (some ⟨g,0,none⟩) cap _ w w.drew w.drew _ rfl iS (Lib.run_unsafeSliceData_row _ _ _ _ _ _ qY) (cell _ rfl) (yU _ _) (yT w _)
 ·have q3:l.length≠0:=by simpa using bl
  have af:=g_
  rcases g_ with⟨_,⟨_,bd⟩|⟨g,cap,cur,rfl,_,hg,D2,mX,fO,xR⟩⟩
  ·exact absurd bd q3
  ·refine u7 L X b a _ (.pointer (some ⟨g,0,none⟩)) l.length (some ⟨g,0,none⟩) cap _ w w.drew (w.drew.freeze ⟨g,0,none⟩ l.length) _ rfl iS (Lib.run_unsafeSliceData_row _ _ _ _ _ _ (by omega)) (cell _ rfl) ?_ (LK w g _)
   have Yz:cur.size=cap:=by simpa using fO
   refine Lib.run_unsafeString_row w.drew (ρ.t 127) (ρ.t 3) (ρ.t 9) (ρ.t 5) L.t127 X.cellsByte g cur.size (by have ev:w.drew.heap[g]? =some (.cells cur (ρ.t 5) (0,0)):=hg;simp[World.shape?,ev]) l bl (by omega) (by unfold maxLen at mX;omega) ?_
   intro j x ai
   have:=af.cells (g:=g) rfl j (.int .u8 x.toNat) (by simp[Lib.byteCells,ai])
   exact this
end
theorem Ea {w:World} {F:Nat→Prop} {s:ag} {an:Nat→Value} {T e:TypeId} {dh:List UInt8} {v:Value} {S:Nat→Prop} (h:au w F s an (.b9 (.dM T e dh)) v S):
  ∃b a gk,v= .pointer (some ⟨b,0,none⟩)∧S b∧nt w T e b a gk (Lib.byteCells dh)∧(a= .pointer none∨a= .pointer (some ⟨b,0,none⟩))∧∀g,gk.ownBlock=some g→S g:=by
 obtain⟨aa,ab⟩:=(au.bB rfl).1 h
 have aD:bs v=[v]:=by cases v<;>first|rfl|(cases aa)
 rw[aD,ak]at ab
 obtain⟨b,a,gk,aF,aJ,aN,bt,bN⟩:=ab
 refine⟨b,a,gk,by simpa using aF,aJ,⟨aN,?_,?_⟩,bt,?_⟩
 ·rw[Lib.byteCells_length]
  refine⟨by simp[Lib.byteCells_length],?_⟩
  rcases bN with⟨rfl,rfl⟩|⟨g,cap,cur,rfl,_,_,bg,bw,cM,cc,c8⟩
  ·exact .inl ⟨rfl,rfl⟩
  ·exact .inr ⟨g,cap,cur,rfl,Nat.zero_le _,bg,bw,cM,by simpa using cc,by rw[Nat.mul_one,c8];rfl⟩
 ·rcases bN with⟨rfl,rfl⟩|⟨g,cap,cur,rfl,_,cj,_⟩
  ·simp[Value.ownBlock]
  ·simpa [Value.ownBlock]using cj
 ·rcases bN with⟨rfl,rfl⟩|⟨g,cap,cur,rfl,a_,_⟩
  ·intro g hg;cases hg
  ·intro qZ hg;cases hg;exact a_
theorem LM {w:World} {F:Nat→Prop} {T e:TypeId} {b:Nat} {a v:Value} {dh:List UInt8} {S:Nat→Prop} (h:nt w T e b a v (Lib.byteCells dh)) (br:a= .pointer none∨a= .pointer (some ⟨b,0,none⟩)) (J:S b) (aD:∀g,v.ownBlock=some g→S g):
  ak w F (.b9 (.dM T e dh)) [.pointer (some ⟨b,0,none⟩)] S:=by
 rw[ak]
 obtain⟨aa,ab,aB⟩:=h
 refine⟨b,a,v,rfl,J,aa,br,?_⟩
 rw[Lib.byteCells_length]at ab
 rcases ab with⟨_,⟨rfl,aQ⟩|⟨g,cap,cur,rfl,_,bg,bw,cM,cc,c8⟩⟩
 ·exact .inl ⟨List.length_eq_zero_iff.1 aQ,rfl⟩
 ·exact .inr ⟨g,cap,cur,rfl,aD g rfl,fun e=>aB (by rw[e];rfl),bg,bw,cM,by simpa using cc,by rw[Nat.mul_one]at c8;rw[c8];rfl⟩
theorem bj.LN {C:bm} {f:FuncId} {T e:TypeId} {dh s:List UInt8} (hR:rO=false) (pD:∀args w,(callFunc f args).run C.P w= .ok (.enter f args) w)
  (h:∀(w:World) (b:Nat) (a v:Value),nt w T e b a v (Lib.byteCells dh)→(a= .pointer none∨a= .pointer (some ⟨b,0,none⟩))→Calls C.P f #[.pointer (some ⟨b,0,none⟩),.string ⟨⟨s⟩⟩] w fun ex ar=>(∃r,ex= .returned r)∧∃ct,
   nt ar T e b (.pointer (some ⟨b,0,none⟩)) ct (Lib.byteCells dh++Lib.strCells ⟨⟨s⟩⟩)∧
   (ct.ownBlock=none∨ct.ownBlock=v.ownBlock∨∃g,ct.ownBlock=some g∧w.heap.size≤g)∧(∀k,k<w.heap.size→k≠b→some k≠v.ownBlock→ar.heap[k]? =w.heap[k]?)∧
   w.heap.size≤ar.heap.size∧ar.os=w.os∧ar.tape=w.tape∧ar.output=w.output):
  bj C f [.b9 (.dM T e dh),.str s] .hole [.b9 (.dM T e (dh++s)),.hole]:=by
 intro w F X S vs iv aC
 obtain⟨v0,v1,rfl⟩:∃v0 v1,vs=[v0,v1]:=by
  match vs,iv with
  |[x,y],_=>exact⟨x,y,rfl⟩
 have g1:v1= .string ⟨⟨s⟩⟩:=iM (aC.b2 1)
 subst g1
 obtain⟨b,a,gk,aD,a_,yV,br,g_⟩:=Ea (aC.b2 0)
 have aD:v0=_:=aD
 subst aD
 refine .inl ⟨pD _ _,(h w b a gk yV br).mono ?_⟩
 rintro ex ar ⟨⟨r,rfl⟩,ct,bg,bw,cM,cc,c8,dj,fD⟩
 refine⟨_,rfl,F,fun u c=>u=1∧(c=b∨ct.ownBlock=some c),?_⟩
 have YA:=aC.cV 0 b a_
 have keys:∀c,ct.ownBlock=some c→S 0 c∨w.heap.size≤c:=by
  intro c af
  rcases bw with aa|aa|⟨g,aa,ab⟩<;>rw[af]at aa
  ·cases aa
  ·exact .inl (g_ c aa.symm)
  ·cases aa;exact .inr ab
 have hold:∀c,c<w.heap.size→¬S 0 c→ar.heap[c]? =w.heap[c]? :=fun c af aQ=>cM c af (fun e=>aQ (e▸a_)) (fun e=>aQ (g_ c e.symm))
 exact {
  eB:=fun _ h=>h
  eQ:=fun _ aW=>.inl aW
  de:=fun c af=>Nat.lt_of_lt_of_le (aC.de c af) cc
  cV:=fun u c af=>by
   rcases af.2 with rfl|aa
   ·omega
   ·exact Ly bg.2.1 aa
  dy:=fun u c af aW=>by
   rcases af.2 with rfl|aa
   ·exact aC.dy 0 _ a_ aW
   ·rcases keys c aa with ab|ab
    ·exact aC.dy 0 c ab aW
    ·have:=aC.de c aW;omega
  dm:=fun u x c cj hu ai=>cj (hu.1.trans ai.1.symm)
  cp:=fun u c af=>by
   rcases af.2 with rfl|aa
   ·exact aC.cp 0 _ a_
   ·rcases keys c aa with ab|ab
    ·exact aC.cp 0 c ab
    ·exact .inr ab
  b2:=fun u=>by
   rcases u with _|_|u
   ·show au _ _ _ _ .hole _ _
    rw[au];trivial
   ·refine(au.bB rfl).2 ⟨rfl,?_⟩
    have aF:Lib.byteCells dh++Lib.strCells ⟨⟨s⟩⟩=Lib.byteCells (dh++s):=by simp[Lib.byteCells,Lib.strCells]
    rw[aF]at bg
    exact LM bg (.inr rfl) ⟨rfl,.inl rfl⟩ fun g hg=>⟨rfl,.inr hg⟩
   ·rcases u with _|u<;>
    ·show au _ _ _ _ .hole _ _
     rw[au];trivial
  old:=fun c af gn=>hold c af (fun LO=>by
   rcases aC.cp 0 c LO with aa|aa
   ·exact gn aa
   ·omega)
  size:=cc
  os:=c8
  tape:=dj
  output:=⟨fD,fun d=>by rw[hR]at d;cases d⟩
  dW:=aC.dW}
theorem bj.LP {C:bm} {f:FuncId} {T e:TypeId} {dh:List UInt8} (hR:rO=false) (pD:∀args w,(callFunc f args).run C.P w= .ok (.enter f args) w)
  (h:∀(w:World) (b:Nat) (a v:Value),nt w T e b a v (Lib.byteCells dh)→Calls C.P f #[.pointer (some ⟨b,0,none⟩)] w fun ex ar=>ex= .returned (.string ⟨⟨dh⟩⟩)∧w.grownBy ar v.ownBlock):
  bj C f [.b9 (.dM T e dh)] (.str dh) [.hole]:=by
 intro w F X S vs iv aC
 obtain⟨v0,rfl⟩:∃v0,vs=[v0]:=by
  match vs,iv with
  |[x],_=>exact⟨x,rfl⟩
 obtain⟨b,a,gk,aD,a_,yV,br,g_⟩:=Ea (aC.b2 0)
 have aD:v0=_:=aD
 subst aD
 refine .inl ⟨pD _ _,(h w b a gk yV).mono ?_⟩
 rintro ex ar ⟨rfl,J⟩
 refine⟨_,rfl,F,fun _ _=>False,?_⟩
 exact {
  eB:=fun _ h=>h
  eQ:=fun _ aW=>.inl aW
  de:=fun c af=>Nat.lt_of_lt_of_le (aC.de c af) J.size
  cV:=fun _ _ h=>h.elim
  dy:=fun _ _ h=>h.elim
  dm:=fun _ _ _ _ h=>h.elim
  cp:=fun _ _ h=>h.elim
  b2:=fun u=>by
   rcases u with _|u
   ·exact kJ dh
   ·rcases u with _|u<;>
    ·show au _ _ _ _ .hole _ _
     rw[au];trivial
  old:=fun c af gn=>J.block c af (fun e=>by
   rcases aC.cp 0 c (g_ c e.symm)with aa|aa
   ·exact gn aa
   ·omega)
  size:=J.size
  os:=J.os
  tape:=J.tape
  output:=⟨J.output,fun d=>by rw[hR]at d;cases d⟩
  dW:=aC.dW}
end Go.bZ
