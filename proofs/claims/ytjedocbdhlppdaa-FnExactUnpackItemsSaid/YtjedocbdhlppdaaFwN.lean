/- Part of a proof that a law returns true for every input. No condition. -/
import Derived.Test.YtjedocbdhlppdaaFwM
import Derived.Shelf.Strings.Builder1
namespace Go.b7
open Go.Shelf Go.RowKit Go.Proofs
section
variable {P : Program} {w : World}
theorem Gy (t u ty e : TypeId) (i : TypeInfo) (aG : P.underlying t = some (.slice e)) (hu : P.underlying u = some .string) (ax : P.info? e = some i) (bd : i.zero = some (.int .u8 0))
  (mD : i.size = 1) (l5 : i.bytes = 1) (v : Value) (n : Nat) (xs : List Value) (gm : w.ownsRow 0 e 1 v n xs) (s : ByteArray) (l0 : n + s.size ≤ 140737488355328) :
  ∃ cc ao, (Builtin.append_ #[t, u] ty #[v, .string s]).run P w = .ok cc ao ∧ ao.ownsRow 0 e 1 cc (n + s.size) (xs ++ Lib.strCells s) ∧ w.grownBy ao v.ownBlock ∧
    (cc.ownBlock = none ∨ cc.ownBlock = v.ownBlock ∨ ∃ g, cc.ownBlock = some g ∧ w.heap.size ≤ g) := by
 obtain ⟨cc, ao, U, aa, au, aK⟩ := Lib.run_append_own_string (P := P) w 0 t u ty e i aG hu ax bd mD l5 v n xs gm s (by unfold maxLen; omega) l0 (Nat.zero_le _)
 refine ⟨cc, ao, U, aa, au, ?_⟩
 rcases gm with ⟨hl, ⟨rfl, aO⟩ | ⟨g, cap, cur, rfl, _, aT, z8, ld, fY, jL⟩⟩
 ·obtain ⟨v2, il, bn, bs, cT, cm⟩ := Lib.run_append_own_string (P := P) w w.heap.size t u ty e i aG hu ax bd mD l5 (.slice none 0 0) n xs ⟨hl, .inl ⟨rfl, aO⟩⟩ s (by unfold maxLen; omega) l0 (Nat.le_refl _)
  rw [bn] at U
  cases U
  rcases bs with ⟨_, ⟨rfl, _⟩ | ⟨qG, Ow, rv, rfl, J, _⟩⟩
  ·exact .inl rfl
  ·exact .inr (.inr ⟨qG, rfl, J⟩)
 ·by_cases jC : n + s.size ≤ cap
  ·rw [Lib.run_append_room_string (P := P) w t u ty e i aG hu ax mD g n cap cur aT s jC (by omega)] at U
   cases U
   exact .inr (.inl rfl)
  ·rw [Lib.run_append_grow_string (P := P) w t u ty e i (.int .u8 0) aG hu ax bd ⟨g, 0, none⟩ n cap xs (by rw [mD]; exact hl) (fun ay x bP => by
    rw [← jL, List.getElem?_take] at bP
    split at bP
    ·simpa [World.cell?, aT, Addr.add_lit] using bP
    ·cases bP) s (by omega) (by omega) (by
     rw [l5]
     exact growslice_fits (by omega) (by omega))] at U
   cases U
   exact .inr (.inr ⟨_, rfl, Nat.le_refl _⟩)
theorem Gz {ops : Array Oper} {rest : List Oper} {o : Oper} {a : Act} {Q : Exit → Act → World → Prop} (GA : o.guard = none) (fE x : Operand) (t u : TypeId)
  (bq : o.op = .call { callee := .builtin .append, args := #[fE, x], argTypes := #[t, u] }) (e : TypeId) (i : TypeInfo) (aG : P.underlying t = some (.slice e)) (hu : P.underlying u = some .string) (ax : P.info? e = some i) (bd : i.zero = some (.int .u8 0))
  (mD : i.size = 1) (l5 : i.bytes = 1) (v : Value) (n : Nat) (xs : List Value) (R : a.eval fE = v) (gm : w.ownsRow 0 e 1 v n xs) (s : ByteArray) (an : a.eval x = .string s) (l0 : n + s.size ≤ 140737488355328)
  (h : ∀ cc ao, ao.ownsRow 0 e 1 cc (n + s.size) (xs ++ Lib.strCells s) → w.grownBy ao v.ownBlock → (cc.ownBlock = none ∨ cc.ownBlock = v.ownBlock ∨ ∃ g, cc.ownBlock = some g ∧ w.heap.size ≤ g) → wpList P ops Q rest (a.put o.dst cc) ao) : wpList P ops Q (o :: rest) a w := by
 refine wpList_plain GA fun K hv => ?_
 obtain ⟨cc, ao, aD, aa, au, aK⟩ := Gy (P := P) (w := w) t u o.type e i aG hu ax bd mD l5 v n xs gm s l0
 unfold Oper.wp execOp
 simp only [bq, resolve, invoke, builtin, Sem.run_bind, Sem.run_pure, Result.andThen_ok, List.map_toArray, List.map_cons, List.map_nil, R, an, aD]
 exact hv _ _ (h cc ao aa au aK)
end
section
variable {P : Program} {ρ : Ren}
def lC (w : World) (T e : TypeId) (b : Nat) (a v : Value) (dQ : List Value) : Prop :=
 w.heap[b]? = some (.cells #[a, v] T (0, 0)) ∧ w.ownsRow 0 e 1 v dQ.length dQ ∧ v.ownBlock ≠ some b
theorem GB {w : World} {e : TypeId} {n g : Nat} {v : Value} {dQ : List Value} (h : w.ownsRow 0 e 1 v n dQ) (aT : v.ownBlock = some g) : g < w.heap.size := by
 rcases h with ⟨_, ⟨rfl, _⟩ | ⟨qG, cap, cur, rfl, _, J, _⟩⟩
 ·cases aT
 ·cases aT
  exact (Array.getElem?_eq_some_iff.1 J).1
theorem z_ {w ao : World} {e : TypeId} {n : Nat} {v : Value} {dQ : List Value} (h : w.ownsRow 0 e 1 v n dQ) (bo : ∀ g, v.ownBlock = some g → ao.heap[g]? = w.heap[g]?) : ao.ownsRow 0 e 1 v n dQ := by
 rcases h with ⟨U, aa | ⟨g, cap, cur, rfl, au, J, aK⟩⟩
 ·exact ⟨U, .inl aa⟩
 ·exact ⟨U, .inr ⟨g, cap, cur, rfl, au, (bo g rfl).trans J, aK⟩⟩
theorem Aa {w : World} {b i : Nat} {cs : Array Value} {T : TypeId} (v : Value) (J : w.heap[b]? = some (.cells cs T (0, 0))) : (w.setCell ⟨b, i, none⟩ v).heap[b]? = some (.cells (cs.setIfInBounds i v) T (0, 0)) := by
 simp [World.setCell, Array.getElem?_modify, J]
theorem sv {w : World} {b i k : Nat} (v : Value) (ah : k ≠ b) : (w.setCell ⟨b, i, none⟩ v).heap[k]? = w.heap[k]? := by
 simp [World.setCell, Array.getElem?_modify, Ne.symm ah]
set_option maxHeartbeats 2000000 in
set_option maxRecDepth 100000 in
theorem GC (L : Lays.n166 P ρ) (X : Builder.Extra P ρ) (b : Nat) (a v : Value) (dQ : List Value) (s : ByteArray) (w : World) (h : lC w (ρ.t 72) (ρ.t 5) b a v dQ) (bB : a = .pointer none ∨ a = .pointer (some ⟨b, 0, none⟩)) (hlen : dQ.length + s.size ≤ 140737488355328) :
  Calls P (ρ.f 166) #[.pointer (some ⟨b, 0, none⟩), .string s] w fun e ao => (∃ r, e = .returned r) ∧ ∃ cc, lC ao (ρ.t 72) (ρ.t 5) b (.pointer (some ⟨b, 0, none⟩)) cc (dQ ++ Lib.strCells s) ∧
   (cc.ownBlock = none ∨ cc.ownBlock = v.ownBlock ∨ ∃ g, cc.ownBlock = some g ∧ w.heap.size ≤ g) ∧ (∀ k, k < w.heap.size → k ≠ b → some k ≠ v.ownBlock → ao.heap[k]? = w.heap[k]?) ∧
   w.heap.size ≤ ao.heap.size ∧ ao.os = w.os ∧ ao.tape = w.tape ∧ ao.output = w.output := by
 obtain ⟨hU, gm, cu⟩ := h
 have cK : b < w.heap.size := (Array.getElem?_eq_some_iff.1 hU).1
 obtain ⟨ti, ax, rK, GD, GF⟩ := info_parts X.infoByte
 have mixed := L.mixed
 have t72 := L.t72; have a72 := L.a72; have z72 := L.z72; have v72 := L.v72; have GG := run_underlying L.t72
 have t70 := L.t70; have a70 := L.a70; have z70 := L.z70; have v70 := L.v70; have GH := run_underlying L.t70
 have t37 := L.t37; have a37 := L.a37; have z37 := L.z37; have v37 := L.v37; have GI := run_underlying L.t37
 have t3 := L.t3; have a3 := L.a3; have z3 := L.z3; have v3 := L.v3; have xv := run_underlying L.t3
 have t9 := L.t9; have a9 := L.a9; have z9 := L.z9; have v9 := L.v9; have GJ := run_underlying L.t9
 have t4 := L.t4; have a4 := L.a4; have z4 := L.z4; have v4 := L.v4; have CZ := run_underlying L.t4
 have t164 := L.t164; have a164 := L.a164; have z164 := L.z164; have v164 := L.v164; have Ox := run_underlying L.t164
 have t5 := X.t5; have a5 := X.a5; have z5 := X.z5; have v5 := X.v5; have xw := run_underlying X.t5
 have Oy : ∀ args w, (callFunc (ρ.f 240) args).run P w = .ok (.enter (ρ.f 240) args) w := enters_of L.f240 (by kernel_rfl) rfl
 have xk : Calls P (ρ.f 240) #[.pointer (some ⟨b, 0, none⟩)] w fun e ao => e = .returned (.tuple #[]) ∧ (lC ao (ρ.t 72) (ρ.t 5) b (.pointer (some ⟨b, 0, none⟩)) v dQ ∧ (∀ k, k ≠ b → ao.heap[k]? = w.heap[k]?) ∧ ao.heap.size = w.heap.size ∧ ao.os = w.os ∧ ao.tape = w.tape ∧ ao.output = w.output) := by
  rcases bB with rfl | rfl
  ·refine (Any.Builder_copyCheck_fresh { L with } X.toX72 b w (by rw [Lib.cell_of_heap hU]; rfl) (by simp [World.shape?, hU]) (Lib.frozen_of_heap hU 0)).mono ?_
   rintro e ao ⟨rfl, rfl⟩
   refine ⟨rfl, ⟨?_, ?_, cu⟩, fun k ah => ?_, by simp, rfl, rfl, rfl⟩
   ·rw [Aa _ hU]; rfl
   ·refine z_ gm fun g aT => ?_
    exact sv _ fun e => cu (by rw [aT, e])
   ·exact sv _ ah
  ·refine (Any.Builder_copyCheck_used { L with } X.toX72 b w (by rw [Lib.cell_of_heap hU]; rfl)).mono ?_
   rintro e ao ⟨rfl, rfl⟩
   exact ⟨rfl, ⟨hU, gm, cu⟩, fun _ _ => rfl, rfl, rfl, rfl, rfl⟩
 go_enter L.f166, Body.n166_ntmps ρ
 go_wp2_with (go_at_fn (ρ.f 240); refine xk.mono ?_)
 rintro e iS ⟨rfl, ⟨vD, GK, Ab⟩, ss, l8, vb, GL, GM⟩
 have k4 : iS.cell? ⟨b, 0, none⟩ = some (.pointer (some ⟨b, 0, none⟩)) := by rw [Lib.cell_of_heap vD]; rfl
 have bA : iS.cell? ⟨b, 1, none⟩ = some v := by rw [Lib.cell_of_heap vD]; rfl
 go_wp2_with (at_builtin; refine Gz rfl _ _ (ρ.t 37) (ρ.t 9) rfl (ρ.t 5) ti L.t37 L.t9 ax rK GD GF _ _ _ rfl GK s rfl ?m3 ?_)
 case m3 => exact hlen
 intro cc il Ac m9 Ad
 have sw : il.heap[b]? = some (.cells #[.pointer (some ⟨b, 0, none⟩), v] (ρ.t 72) (0, 0)) := by
  rw [m9.block b (by omega) (fun e => Ab e.symm)]
  exact vD
 have d0 : il.cell? ⟨b, 0, none⟩ = some (.pointer (some ⟨b, 0, none⟩)) := by rw [Lib.cell_of_heap sw]; rfl
 have d1 : il.cell? ⟨b, 1, none⟩ = some v := by rw [Lib.cell_of_heap sw]; rfl
 have f1 : il.frozen? ⟨b, 1, none⟩ = false := Lib.frozen_of_heap sw 1
 have Ae : cc.ownBlock ≠ some b := by
  rcases Ad with U | U | ⟨g, U, aa⟩ <;> rw [U]
  ·simp
  ·exact Ab
  ·simp only [ne_eq, Option.some.injEq]; omega
 obtain ⟨vE, p_, cap, rfl⟩ : ∃ vE p_ cap, cc = .slice vE p_ cap := by
  rcases Ac.2 with ⟨aC, _⟩ | ⟨g, cap, cur, aC, _⟩
  ·exact ⟨_, _, _, aC⟩
  ·exact ⟨_, _, _, aC⟩
 go_wp2
 go_ret2
 refine ⟨⟨_, rfl⟩, .slice vE p_ cap, ⟨?_, ?_, Ae⟩, ?_, ?_, ?_, ?_, ?_, ?_⟩
 ·rw [Aa _ sw]; rfl
 ·rw [List.length_append, Lib.strCells_length]
  refine z_ Ac fun g aT => ?_
  exact sv _ fun e => Ae (by rw [aT, e])
 ·simpa only [l8] using Ad
 ·intro k ah tM GN
  rw [sv _ tM, m9.block k (by omega) GN, ss k tM]
 ·have := m9.size
  simp; omega
 ·exact m9.os.trans vb
 ·exact m9.tape.trans GL
 ·exact m9.output.trans GM
theorem vF (w : World) (row : Option Nat) : w.grownBy w.drew row := ⟨rfl, rfl, rfl, Nat.le_refl _, fun _ _ _ => rfl⟩
theorem GO (w : World) (g n : Nat) : w.grownBy (w.drew.freeze ⟨g, 0, none⟩ n) (some g) := by
 unfold World.freeze
 split
 ·exact vF w _
 ·refine ⟨rfl, rfl, rfl, ?_, fun k _ ah => ?_⟩
  ·show w.heap.size ≤ (w.heap.modify _ _).size
   simp
  ·show (w.heap.modify g _)[k]? = _
   rw [Array.getElem?_modify, if_neg (fun e => ah (by rw [e]))]
set_option maxHeartbeats 2000000 in
set_option maxRecDepth 100000 in
theorem sx (L : Lays.n169 P ρ) (X : Builder.Extra P ρ) (b : Nat) (a fE q : Value) (n : Nat) (o : Option Addr) (cap : Nat) (r : ByteArray) (w iS il : World) (row : Option Nat) (qH : fE = .slice o n cap)
  (hU : w.heap[b]? = some (.cells #[a, fE] (ρ.t 72) (0, 0)))
  (Af : (Builtin.unsafeSliceData_ #[(ρ.t 37)] (ρ.t 127) #[fE]).run P w.drew = .ok q iS) (ah : iS.cell? ⟨b, 1, none⟩ = some fE)
  (Oz : (Builtin.unsafeString_ #[(ρ.t 127), (ρ.t 3)] (ρ.t 9) #[q, .int .i64 n]).run P iS = .ok (.string r) il) (aT : w.grownBy il row) :
  Calls P (ρ.f 169) #[.pointer (some ⟨b, 0, none⟩)] w fun e ao => e = .returned (.string r) ∧ w.grownBy ao row := by
 subst qH
 have bA : w.drew.cell? ⟨b, 1, none⟩ = some (.slice o n cap) := by
  have : w.drew.heap[b]? = some (.cells #[a, .slice o n cap] (ρ.t 72) (0, 0)) := hU
  rw [Lib.cell_of_heap this]; rfl
 have mixed := L.mixed
 have t72 := L.t72; have a72 := L.a72; have z72 := L.z72; have v72 := L.v72; have GG := run_underlying L.t72
 have t70 := L.t70; have a70 := L.a70; have z70 := L.z70; have v70 := L.v70; have GH := run_underlying L.t70
 have t37 := L.t37; have a37 := L.a37; have z37 := L.z37; have v37 := L.v37; have GI := run_underlying L.t37
 have t127 := L.t127; have a127 := L.a127; have z127 := L.z127; have v127 := L.v127; have OA := run_underlying L.t127
 have t3 := L.t3; have a3 := L.a3; have z3 := L.z3; have v3 := L.v3; have xv := run_underlying L.t3
 have t9 := L.t9; have a9 := L.a9; have z9 := L.z9; have v9 := L.v9; have GJ := run_underlying L.t9
 have t5 := X.t5; have a5 := X.a5; have z5 := X.z5; have v5 := X.v5; have xw := run_underlying X.t5
 go_enter L.f169, Body.n169_ntmps ρ
 go_wp2
 go_region_o
 all_goals (go_wp2; go_ret; exact ⟨rfl, aT⟩)
theorem GP (L : Lays.n169 P ρ) (X : Builder.Extra P ρ) (b : Nat) (a v : Value) (l : List UInt8) (w : World) (h : lC w (ρ.t 72) (ρ.t 5) b a v (Lib.byteCells l)) :
  Calls P (ρ.f 169) #[.pointer (some ⟨b, 0, none⟩)] w fun e ao => e = .returned (.string ⟨⟨l⟩⟩) ∧ w.grownBy ao v.ownBlock := by
 obtain ⟨hU, gm, cu⟩ := h
 have cK : b < w.heap.size := (Array.getElem?_eq_some_iff.1 hU).1
 have cell : ∀ iS : World, iS.heap[b]? = w.heap[b]? → iS.cell? ⟨b, 1, none⟩ = some v := fun iS h => by rw [Lib.cell_of_heap (h.trans hU)]; rfl
 rw [Lib.byteCells_length] at gm
 have vG : ∀ (W : World) (q : Option Addr), (Builtin.unsafeString_ #[(ρ.t 127), (ρ.t 3)] (ρ.t 9) #[.pointer q, .int .i64 0]).run P W = .ok (.string .empty) W := fun W q => Lib.run_unsafeString_none W _ _ _ q
 by_cases bz : l = []
 ·subst bz
  rcases gm with ⟨_, ⟨rfl, _⟩ | ⟨g, cap, cur, rfl, _, aT, z8, ld, fY, uB⟩⟩
  ·exact sx L X b a _ (.pointer none) 0 none 0 _ w w.drew w.drew _ rfl hU rfl (cell _ rfl) (vG _ _) (vF w _)
  ·by_cases Ag : cap = 0
   ·subst Ag
    have Af := Lib.run_unsafeSliceData_zero (P := P) w.drew #[ρ.t 37] (ρ.t 127) (ρ.t 5) L.t127 ⟨g, 0, none⟩ 0 ((ρ.t 5), cur.size) (by have ed : w.drew.heap[g]? = some (.cells cur (ρ.t 5) (0, 0)) := aT; simp [World.shape?, ed])
    refine sx L X b a _ _ 0 (some ⟨g, 0, none⟩) 0 _ w _ _ _ rfl hU Af (cell _ ((Lib.alloc_old w.drew _ b cK).trans rfl)) (vG _ _) ?_
    refine ⟨rfl, rfl, rfl, ?_, fun k ah _ => (Lib.alloc_old w.drew _ k ah).trans rfl⟩
    show w.heap.size ≤ (w.heap.push _).size
    simp
   ·exact sx L X b a _ (.pointer (some ⟨g, 0, none⟩)) 0 (some ⟨g, 0, none⟩) cap _ w w.drew w.drew _ rfl hU (Lib.run_unsafeSliceData_row _ _ _ _ _ _ Ag) (cell _ rfl) (vG _ _) (vF w _)
 ·have GQ : l.length ≠ 0 := by simpa using bz
  have ag := gm
  rcases gm with ⟨_, ⟨_, bd⟩ | ⟨g, cap, cur, rfl, _, aT, z8, ld, fY, uB⟩⟩
  ·exact absurd bd GQ
  ·refine sx L X b a _ (.pointer (some ⟨g, 0, none⟩)) l.length (some ⟨g, 0, none⟩) cap _ w w.drew (w.drew.freeze ⟨g, 0, none⟩ l.length) _ rfl hU (Lib.run_unsafeSliceData_row _ _ _ _ _ _ (by omega)) (cell _ rfl) ?_ (GO w g _)
   have OB : cur.size = cap := by simpa using fY
   refine Lib.run_unsafeString_row w.drew (ρ.t 127) (ρ.t 3) (ρ.t 9) (ρ.t 5) L.t127 X.cellsByte g cur.size (by have ed : w.drew.heap[g]? = some (.cells cur (ρ.t 5) (0, 0)) := aT; simp [World.shape?, ed]) l bz (by omega) (by unfold maxLen at ld; omega) ?_
   intro ay x an
   have := ag.cells (g := g) rfl ay (.int .u8 x.toNat) (by simp [Lib.byteCells, an])
   exact this
end
theorem Ah {w : World} {F : Nat → Prop} {s : ad} {al : Nat → Value} {T e : TypeId} {dQ : List UInt8} {v : Value} {S : Nat → Prop} (h : ar w F s al (.ch (.dE T e dQ)) v S) :
  ∃ b a fE, v = .pointer (some ⟨b, 0, none⟩) ∧ S b ∧ lC w T e b a fE (Lib.byteCells dQ) ∧ (a = .pointer none ∨ a = .pointer (some ⟨b, 0, none⟩)) ∧ ∀ g, fE.ownBlock = some g → S g := by
 obtain ⟨U, aa⟩ := (ar.bE rfl).1 h
 have aC : br v = [v] := by cases v <;> first | rfl | (cases U)
 rw [aC, ai] at aa
 obtain ⟨b, a, fE, aE, aI, bg, bX, b0⟩ := aa
 refine ⟨b, a, fE, by simpa using aE, aI, ⟨bg, ?_, ?_⟩, bX, ?_⟩
 ·rw [Lib.byteCells_length]
  refine ⟨by simp [Lib.byteCells_length], ?_⟩
  rcases b0 with ⟨rfl, rfl⟩ | ⟨g, cap, cur, rfl, _, _, bn, bs, cT, cm, c8⟩
  ·exact .inl ⟨rfl, rfl⟩
  ·exact .inr ⟨g, cap, cur, rfl, Nat.zero_le _, bn, bs, cT, by simpa using cm, by rw [Nat.mul_one, c8]; rfl⟩
 ·rcases b0 with ⟨rfl, rfl⟩ | ⟨g, cap, cur, rfl, _, cu, _⟩
  ·simp [Value.ownBlock]
  ·simpa [Value.ownBlock] using cu
 ·rcases b0 with ⟨rfl, rfl⟩ | ⟨g, cap, cur, rfl, aZ, _⟩
  ·intro g aT; cases aT
  ·intro qG aT; cases aT; exact aZ
theorem GR {w : World} {F : Nat → Prop} {T e : TypeId} {b : Nat} {a v : Value} {dQ : List UInt8} {S : Nat → Prop} (h : lC w T e b a v (Lib.byteCells dQ)) (bB : a = .pointer none ∨ a = .pointer (some ⟨b, 0, none⟩)) (J : S b) (aC : ∀ g, v.ownBlock = some g → S g) :
  ai w F (.ch (.dE T e dQ)) [.pointer (some ⟨b, 0, none⟩)] S := by
 rw [ai]
 obtain ⟨U, aa, au⟩ := h
 refine ⟨b, a, v, rfl, J, U, bB, ?_⟩
 rw [Lib.byteCells_length] at aa
 rcases aa with ⟨_, ⟨rfl, aO⟩ | ⟨g, cap, cur, rfl, _, bn, bs, cT, cm, c8⟩⟩
 ·exact .inl ⟨List.length_eq_zero_iff.1 aO, rfl⟩
 ·exact .inr ⟨g, cap, cur, rfl, aC g rfl, fun e => au (by rw [e]; rfl), bn, bs, cT, by simpa using cm, by rw [Nat.mul_one] at c8; rw [c8]; rfl⟩
theorem b5.GS {C : bp} {f : FuncId} {T e : TypeId} {dQ s : List UInt8} (vH : ∀ args w, (callFunc f args).run C.P w = .ok (.enter f args) w)
  (h : ∀ (w : World) (b : Nat) (a v : Value), lC w T e b a v (Lib.byteCells dQ) → (a = .pointer none ∨ a = .pointer (some ⟨b, 0, none⟩)) → Calls C.P f #[.pointer (some ⟨b, 0, none⟩), .string ⟨⟨s⟩⟩] w fun ex ao => (∃ r, ex = .returned r) ∧ ∃ cc,
   lC ao T e b (.pointer (some ⟨b, 0, none⟩)) cc (Lib.byteCells dQ ++ Lib.strCells ⟨⟨s⟩⟩) ∧
   (cc.ownBlock = none ∨ cc.ownBlock = v.ownBlock ∨ ∃ g, cc.ownBlock = some g ∧ w.heap.size ≤ g) ∧ (∀ k, k < w.heap.size → k ≠ b → some k ≠ v.ownBlock → ao.heap[k]? = w.heap[k]?) ∧
   w.heap.size ≤ ao.heap.size ∧ ao.os = w.os ∧ ao.tape = w.tape ∧ ao.output = w.output) :
  b5 C f [.ch (.dE T e dQ), .str s] .hole [.ch (.dE T e (dQ ++ s)), .hole] := by
 intro w F X S vs om aD
 obtain ⟨v0, v1, rfl⟩ : ∃ v0 v1, vs = [v0, v1] := by
  match vs, om with
  | [x, y], _ => exact ⟨x, y, rfl⟩
 have g1 : v1 = .string ⟨⟨s⟩⟩ := j8 (aD.cl 1)
 subst g1
 obtain ⟨b, a, fE, aC, aZ, vI, bB, gm⟩ := Ah (aD.cl 0)
 have aC : v0 = _ := aC
 subst aC
 refine .inl ⟨vH _ _, (h w b a fE vI bB).mono ?_⟩
 rintro ex ao ⟨⟨r, rfl⟩, cc, bn, bs, cT, cm, c8, c4, fq⟩
 refine ⟨_, rfl, F, fun u c => u = 1 ∧ (c = b ∨ cc.ownBlock = some c), ?_⟩
 have OC := aD.cZ 0 b aZ
 have keys : ∀ c, cc.ownBlock = some c → S 0 c ∨ w.heap.size ≤ c := by
  intro c ag
  rcases bs with U | U | ⟨g, U, aa⟩ <;> rw [ag] at U
  ·cases U
  ·exact .inl (gm c U.symm)
  ·cases U; exact .inr aa
 have hold : ∀ c, c < w.heap.size → ¬ S 0 c → ao.heap[c]? = w.heap[c]? := fun c ag aO => cT c ag (fun e => aO (e ▸ aZ)) (fun e => aO (gm c e.symm))
 exact {
  eF := fun _ h => h
  eW := fun _ aN => .inl aN
  dg := fun c ag => Nat.lt_of_lt_of_le (aD.dg c ag) cm
  cZ := fun u c ag => by
   rcases ag.2 with rfl | U
   ·omega
   ·exact GB bn.2.1 U
  dz := fun u c ag aN => by
   rcases ag.2 with rfl | U
   ·exact aD.dz 0 _ aZ aN
   ·rcases keys c U with aa | aa
    ·exact aD.dz 0 c aa aN
    ·have := aD.dg c aN; omega
  dt := fun u x c cu hu an => cu (hu.1.trans an.1.symm)
  cq := fun u c ag => by
   rcases ag.2 with rfl | U
   ·exact aD.cq 0 _ aZ
   ·rcases keys c U with aa | aa
    ·exact aD.cq 0 c aa
    ·exact .inr aa
  cl := fun u => by
   rcases u with _ | _ | u
   ·show ar _ _ _ _ .hole _ _
    rw [ar]; trivial
   ·refine (ar.bE rfl).2 ⟨rfl, ?_⟩
    have aE : Lib.byteCells dQ ++ Lib.strCells ⟨⟨s⟩⟩ = Lib.byteCells (dQ ++ s) := by simp [Lib.byteCells, Lib.strCells]
    rw [aE] at bn
    exact GR bn (.inr rfl) ⟨rfl, .inl rfl⟩ fun g aT => ⟨rfl, .inr aT⟩
   ·rcases u with _ | u <;>
    ·show ar _ _ _ _ .hole _ _
     rw [ar]; trivial
  old := fun c ag gj => hold c ag (fun GU => by
   rcases aD.cq 0 c GU with U | U
   ·exact gj U
   ·omega)
  size := cm
  os := c8
  tape := c4
  output := fq }
theorem b5.GV {C : bp} {f : FuncId} {T e : TypeId} {dQ : List UInt8} (vH : ∀ args w, (callFunc f args).run C.P w = .ok (.enter f args) w)
  (h : ∀ (w : World) (b : Nat) (a v : Value), lC w T e b a v (Lib.byteCells dQ) → Calls C.P f #[.pointer (some ⟨b, 0, none⟩)] w fun ex ao => ex = .returned (.string ⟨⟨dQ⟩⟩) ∧ w.grownBy ao v.ownBlock) :
  b5 C f [.ch (.dE T e dQ)] (.str dQ) [.hole] := by
 intro w F X S vs om aD
 obtain ⟨v0, rfl⟩ : ∃ v0, vs = [v0] := by
  match vs, om with
  | [x], _ => exact ⟨x, rfl⟩
 obtain ⟨b, a, fE, aC, aZ, vI, bB, gm⟩ := Ah (aD.cl 0)
 have aC : v0 = _ := aC
 subst aC
 refine .inl ⟨vH _ _, (h w b a fE vI).mono ?_⟩
 rintro ex ao ⟨rfl, J⟩
 refine ⟨_, rfl, F, fun _ _ => False, ?_⟩
 exact {
  eF := fun _ h => h
  eW := fun _ aN => .inl aN
  dg := fun c ag => Nat.lt_of_lt_of_le (aD.dg c ag) J.size
  cZ := fun _ _ h => h.elim
  dz := fun _ _ h => h.elim
  dt := fun _ _ _ _ h => h.elim
  cq := fun _ _ h => h.elim
  cl := fun u => by
   rcases u with _ | u
   ·exact jx dQ
   ·rcases u with _ | u <;>
    ·show ar _ _ _ _ .hole _ _
     rw [ar]; trivial
  old := fun c ag gj => J.block c ag (fun e => by
   rcases aD.cq 0 c (gm c e.symm) with U | U
   ·exact gj U
   ·omega)
  size := J.size
  os := J.os
  tape := J.tape
  output := J.output }
end Go.b7
