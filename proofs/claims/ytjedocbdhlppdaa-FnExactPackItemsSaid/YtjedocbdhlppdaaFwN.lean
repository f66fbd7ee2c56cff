/- Part of a proof that a law returns true for every input. No condition. -/
import Derived.Test.YtjedocbdhlppdaaFwM
import Derived.Shelf.Strings.Builder1
namespace Go.b1
open Go.Shelf Go.RowKit Go.Proofs
section
variable {P : Program} {w : World}
theorem Fp (t u ty e : TypeId) (i : TypeInfo) (aG : P.underlying t = some (.slice e)) (hu : P.underlying u = some .string) (ax : P.info? e = some i) (a1 : i.zero = some (.int .u8 0))
  (lI : i.size = 1) (lp : i.bytes = 1) (v : Value) (n : Nat) (xs : List Value) (fU : w.ownsRow 0 e 1 v n xs) (s : ByteArray) (ll : n + s.size ≤ 140737488355328) :
  ∃ b6 an, (Builtin.append_ #[t, u] ty #[v, .string s]).run P w = .ok b6 an ∧ an.ownsRow 0 e 1 b6 (n + s.size) (xs ++ Lib.strCells s) ∧ w.grownBy an v.ownBlock ∧
    (b6.ownBlock = none ∨ b6.ownBlock = v.ownBlock ∨ ∃ g, b6.ownBlock = some g ∧ w.heap.size ≤ g) := by
 obtain ⟨b6, an, U, aa, aw, aH⟩ := Lib.run_append_own_string (P := P) w 0 t u ty e i aG hu ax a1 lI lp v n xs fU s (by unfold maxLen; omega) ll (Nat.zero_le _)
 refine ⟨b6, an, U, aa, aw, ?_⟩
 rcases fU with ⟨aI, ⟨rfl, aL⟩ | ⟨g, cap, cur, rfl, _, aN, zn, kG, fp, iZ⟩⟩
 ·obtain ⟨v2, i9, ba, bg, cy, b2⟩ := Lib.run_append_own_string (P := P) w w.heap.size t u ty e i aG hu ax a1 lI lp (.slice none 0 0) n xs ⟨aI, .inl ⟨rfl, aL⟩⟩ s (by unfold maxLen; omega) ll (Nat.le_refl _)
  rw [ba] at U
  cases U
  rcases bg with ⟨_, ⟨rfl, _⟩ | ⟨p8, LU, qK, rfl, J, _⟩⟩
  ·exact .inl rfl
  ·exact .inr (.inr ⟨p8, rfl, J⟩)
 ·by_cases iP : n + s.size ≤ cap
  ·rw [Lib.run_append_room_string (P := P) w t u ty e i aG hu ax lI g n cap cur aN s iP (by omega)] at U
   cases U
   exact .inr (.inl rfl)
  ·rw [Lib.run_append_grow_string (P := P) w t u ty e i (.int .u8 0) aG hu ax a1 ⟨g, 0, none⟩ n cap xs (by rw [lI]; exact aI) (fun ay x bx => by
    rw [← iZ, List.getElem?_take] at bx
    split at bx
    ·simpa [World.cell?, aN, Addr.add_lit] using bx
    ·cases bx) s (by omega) (by omega) (by
     rw [lp]
     exact growslice_fits (by omega) (by omega))] at U
   cases U
   exact .inr (.inr ⟨_, rfl, Nat.le_refl _⟩)
theorem Fq {ops : Array Oper} {rest : List Oper} {o : Oper} {a : Act} {Q : Exit → Act → World → Prop} (Fs : o.guard = none) (fj x : Operand) (t u : TypeId)
  (bo : o.op = .call { callee := .builtin .append, args := #[fj, x], argTypes := #[t, u] }) (e : TypeId) (i : TypeInfo) (aG : P.underlying t = some (.slice e)) (hu : P.underlying u = some .string) (ax : P.info? e = some i) (a1 : i.zero = some (.int .u8 0))
  (lI : i.size = 1) (lp : i.bytes = 1) (v : Value) (n : Nat) (xs : List Value) (R : a.eval fj = v) (fU : w.ownsRow 0 e 1 v n xs) (s : ByteArray) (aj : a.eval x = .string s) (ll : n + s.size ≤ 140737488355328)
  (h : ∀ b6 an, an.ownsRow 0 e 1 b6 (n + s.size) (xs ++ Lib.strCells s) → w.grownBy an v.ownBlock → (b6.ownBlock = none ∨ b6.ownBlock = v.ownBlock ∨ ∃ g, b6.ownBlock = some g ∧ w.heap.size ≤ g) → wpList P ops Q rest (a.put o.dst b6) an) : wpList P ops Q (o :: rest) a w := by
 refine wpList_plain Fs fun K gV => ?_
 obtain ⟨b6, an, aB, aa, aw, aH⟩ := Fp (P := P) (w := w) t u o.type e i aG hu ax a1 lI lp v n xs fU s ll
 unfold Oper.wp execOp
 simp only [bo, resolve, invoke, builtin, Sem.run_bind, Sem.run_pure, Result.andThen_ok, List.map_toArray, List.map_cons, List.map_nil, R, aj, aB]
 exact gV _ _ (h b6 an aa aw aH)
end
section
variable {P : Program} {ρ : Ren}
def k2 (w : World) (T e : TypeId) (b : Nat) (a v : Value) (dz : List Value) : Prop :=
 w.heap[b]? = some (.cells #[a, v] T (0, 0)) ∧ w.ownsRow 0 e 1 v dz.length dz ∧ v.ownBlock ≠ some b
theorem Ft {w : World} {e : TypeId} {n g : Nat} {v : Value} {dz : List Value} (h : w.ownsRow 0 e 1 v n dz) (aN : v.ownBlock = some g) : g < w.heap.size := by
 rcases h with ⟨_, ⟨rfl, _⟩ | ⟨p8, cap, cur, rfl, _, J, _⟩⟩
 ·cases aN
 ·cases aN
  exact (Array.getElem?_eq_some_iff.1 J).1
theorem zo {w an : World} {e : TypeId} {n : Nat} {v : Value} {dz : List Value} (h : w.ownsRow 0 e 1 v n dz) (bb : ∀ g, v.ownBlock = some g → an.heap[g]? = w.heap[g]?) : an.ownsRow 0 e 1 v n dz := by
 rcases h with ⟨U, aa | ⟨g, cap, cur, rfl, aw, J, aH⟩⟩
 ·exact ⟨U, .inl aa⟩
 ·exact ⟨U, .inr ⟨g, cap, cur, rfl, aw, (bb g rfl).trans J, aH⟩⟩
theorem zp {w : World} {b i : Nat} {cs : Array Value} {T : TypeId} (v : Value) (J : w.heap[b]? = some (.cells cs T (0, 0))) : (w.setCell ⟨b, i, none⟩ v).heap[b]? = some (.cells (cs.setIfInBounds i v) T (0, 0)) := by
 simp [World.setCell, Array.getElem?_modify, J]
theorem rJ {w : World} {b i k : Nat} (v : Value) (ai : k ≠ b) : (w.setCell ⟨b, i, none⟩ v).heap[k]? = w.heap[k]? := by
 simp [World.setCell, Array.getElem?_modify, Ne.symm ai]
set_option maxHeartbeats 2000000 in
set_option maxRecDepth 100000 in
theorem Fu (L : Lays.n166 P ρ) (X : Builder.Extra P ρ) (b : Nat) (a v : Value) (dz : List Value) (s : ByteArray) (w : World) (h : k2 w (ρ.t 72) (ρ.t 5) b a v dz) (bs : a = .pointer none ∨ a = .pointer (some ⟨b, 0, none⟩)) (hlen : dz.length + s.size ≤ 140737488355328) :
  Calls P (ρ.f 166) #[.pointer (some ⟨b, 0, none⟩), .string s] w fun e an => (∃ r, e = .returned r) ∧ ∃ b6, k2 an (ρ.t 72) (ρ.t 5) b (.pointer (some ⟨b, 0, none⟩)) b6 (dz ++ Lib.strCells s) ∧
   (b6.ownBlock = none ∨ b6.ownBlock = v.ownBlock ∨ ∃ g, b6.ownBlock = some g ∧ w.heap.size ≤ g) ∧ (∀ k, k < w.heap.size → k ≠ b → some k ≠ v.ownBlock → an.heap[k]? = w.heap[k]?) ∧
   w.heap.size ≤ an.heap.size ∧ an.os = w.os ∧ an.tape = w.tape ∧ an.output = w.output := by
 obtain ⟨hl, fU, cj⟩ := h
 have cx : b < w.heap.size := (Array.getElem?_eq_some_iff.1 hl).1
 obtain ⟨sw, ax, qX, Fv, Fw⟩ := info_parts X.infoByte
 have mixed := L.mixed
 have t72 := L.t72; have a72 := L.a72; have z72 := L.z72; have v72 := L.v72; have Fx := run_underlying L.t72
 have t70 := L.t70; have a70 := L.a70; have z70 := L.z70; have v70 := L.v70; have Fy := run_underlying L.t70
 have t37 := L.t37; have a37 := L.a37; have z37 := L.z37; have v37 := L.v37; have Fz := run_underlying L.t37
 have t3 := L.t3; have a3 := L.a3; have z3 := L.z3; have v3 := L.v3; have wL := run_underlying L.t3
 have t9 := L.t9; have a9 := L.a9; have z9 := L.z9; have v9 := L.v9; have FA := run_underlying L.t9
 have t4 := L.t4; have a4 := L.a4; have z4 := L.z4; have v4 := L.v4; have BN := run_underlying L.t4
 have t164 := L.t164; have a164 := L.a164; have z164 := L.z164; have v164 := L.v164; have LV := run_underlying L.t164
 have t5 := X.t5; have a5 := X.a5; have z5 := X.z5; have v5 := X.v5; have wM := run_underlying X.t5
 have LW : ∀ args w, (callFunc (ρ.f 240) args).run P w = .ok (.enter (ρ.f 240) args) w := enters_of L.f240 (by kernel_rfl) rfl
 have wB : Calls P (ρ.f 240) #[.pointer (some ⟨b, 0, none⟩)] w fun e an => e = .returned (.tuple #[]) ∧ (k2 an (ρ.t 72) (ρ.t 5) b (.pointer (some ⟨b, 0, none⟩)) v dz ∧ (∀ k, k ≠ b → an.heap[k]? = w.heap[k]?) ∧ an.heap.size = w.heap.size ∧ an.os = w.os ∧ an.tape = w.tape ∧ an.output = w.output) := by
  rcases bs with rfl | rfl
  ·refine (Any.Builder_copyCheck_fresh { L with } X.toX72 b w (by rw [Lib.cell_of_heap hl]; rfl) (by simp [World.shape?, hl]) (Lib.frozen_of_heap hl 0)).mono ?_
   rintro e an ⟨rfl, rfl⟩
   refine ⟨rfl, ⟨?_, ?_, cj⟩, fun k ai => ?_, by simp, rfl, rfl, rfl⟩
   ·rw [zp _ hl]; rfl
   ·refine zo fU fun g aN => ?_
    exact rJ _ fun e => cj (by rw [aN, e])
   ·exact rJ _ ai
  ·refine (Any.Builder_copyCheck_used { L with } X.toX72 b w (by rw [Lib.cell_of_heap hl]; rfl)).mono ?_
   rintro e an ⟨rfl, rfl⟩
   exact ⟨rfl, ⟨hl, fU, cj⟩, fun _ _ => rfl, rfl, rfl, rfl, rfl⟩
 go_enter L.f166, Body.n166_ntmps ρ
 go_wp2_with (go_at_fn (ρ.f 240); refine wB.mono ?_)
 rintro e hL ⟨rfl, ⟨uT, FB, zq⟩, rF, jx, uk, FC, FD⟩
 have iF : hL.cell? ⟨b, 0, none⟩ = some (.pointer (some ⟨b, 0, none⟩)) := by rw [Lib.cell_of_heap uT]; rfl
 have br : hL.cell? ⟨b, 1, none⟩ = some v := by rw [Lib.cell_of_heap uT]; rfl
 go_wp2_with (at_builtin; refine Fq rfl _ _ (ρ.t 37) (ρ.t 9) rfl (ρ.t 5) sw L.t37 L.t9 ax qX Fv Fw _ _ _ rfl FB s rfl ?pg ?_)
 case pg => exact hlen
 intro b6 i9 zr mj zs
 have rK : i9.heap[b]? = some (.cells #[.pointer (some ⟨b, 0, none⟩), v] (ρ.t 72) (0, 0)) := by
  rw [mj.block b (by omega) (fun e => zq e.symm)]
  exact uT
 have d0 : i9.cell? ⟨b, 0, none⟩ = some (.pointer (some ⟨b, 0, none⟩)) := by rw [Lib.cell_of_heap rK]; rfl
 have d1 : i9.cell? ⟨b, 1, none⟩ = some v := by rw [Lib.cell_of_heap rK]; rfl
 have f1 : i9.frozen? ⟨b, 1, none⟩ = false := Lib.frozen_of_heap rK 1
 have zt : b6.ownBlock ≠ some b := by
  rcases zs with U | U | ⟨g, U, aa⟩ <;> rw [U]
  ·simp
  ·exact zq
  ·simp only [ne_eq, Option.some.injEq]; omega
 obtain ⟨uU, pD, cap, rfl⟩ : ∃ uU pD cap, b6 = .slice uU pD cap := by
  rcases zr.2 with ⟨aA, _⟩ | ⟨g, cap, cur, aA, _⟩
  ·exact ⟨_, _, _, aA⟩
  ·exact ⟨_, _, _, aA⟩
 go_wp2
 go_ret2
 refine ⟨⟨_, rfl⟩, .slice uU pD cap, ⟨?_, ?_, zt⟩, ?_, ?_, ?_, ?_, ?_, ?_⟩
 ·rw [zp _ rK]; rfl
 ·rw [List.length_append, Lib.strCells_length]
  refine zo zr fun g aN => ?_
  exact rJ _ fun e => zt (by rw [aN, e])
 ·simpa only [jx] using zs
 ·intro k ai sZ FE
  rw [rJ _ sZ, mj.block k (by omega) FE, rF k sZ]
 ·have := mj.size
  simp; omega
 ·exact mj.os.trans uk
 ·exact mj.tape.trans FC
 ·exact mj.output.trans FD
theorem uV (w : World) (row : Option Nat) : w.grownBy w.drew row := ⟨rfl, rfl, rfl, Nat.le_refl _, fun _ _ _ => rfl⟩
theorem FF (w : World) (g n : Nat) : w.grownBy (w.drew.freeze ⟨g, 0, none⟩ n) (some g) := by
 unfold World.freeze
 split
 ·exact uV w _
 ·refine ⟨rfl, rfl, rfl, ?_, fun k _ ai => ?_⟩
  ·show w.heap.size ≤ (w.heap.modify _ _).size
   simp
  ·show (w.heap.modify g _)[k]? = _
   rw [Array.getElem?_modify, if_neg (fun e => ai (by rw [e]))]
set_option maxHeartbeats 2000000 in
set_option maxRecDepth 100000 in
theorem rL (L : Lays.n169 P ρ) (X : Builder.Extra P ρ) (b : Nat) (a fj q : Value) (n : Nat) (o : Option Addr) (cap : Nat) (r : ByteArray) (w hL i9 : World) (row : Option Nat) (p9 : fj = .slice o n cap)
  (hl : w.heap[b]? = some (.cells #[a, fj] (ρ.t 72) (0, 0)))
  (zu : (Builtin.unsafeSliceData_ #[(ρ.t 37)] (ρ.t 127) #[fj]).run P w.drew = .ok q hL) (ai : hL.cell? ⟨b, 1, none⟩ = some fj)
  (LX : (Builtin.unsafeString_ #[(ρ.t 127), (ρ.t 3)] (ρ.t 9) #[q, .int .i64 n]).run P hL = .ok (.string r) i9) (aN : w.grownBy i9 row) :
  Calls P (ρ.f 169) #[.pointer (some ⟨b, 0, none⟩)] w fun e an => e = .returned (.string r) ∧ w.grownBy an row := by
 subst p9
 have br : w.drew.cell? ⟨b, 1, none⟩ = some (.slice o n cap) := by
  have : w.drew.heap[b]? = some (.cells #[a, .slice o n cap] (ρ.t 72) (0, 0)) := hl
  rw [Lib.cell_of_heap this]; rfl
 have mixed := L.mixed
 have t72 := L.t72; have a72 := L.a72; have z72 := L.z72; have v72 := L.v72; have Fx := run_underlying L.t72
 have t70 := L.t70; have a70 := L.a70; have z70 := L.z70; have v70 := L.v70; have Fy := run_underlying L.t70
 have t37 := L.t37; have a37 := L.a37; have z37 := L.z37; have v37 := L.v37; have Fz := run_underlying L.t37
 have t127 := L.t127; have a127 := L.a127; have z127 := L.z127; have v127 := L.v127; have LY := run_underlying L.t127
 have t3 := L.t3; have a3 := L.a3; have z3 := L.z3; have v3 := L.v3; have wL := run_underlying L.t3
 have t9 := L.t9; have a9 := L.a9; have z9 := L.z9; have v9 := L.v9; have FA := run_underlying L.t9
 have t5 := X.t5; have a5 := X.a5; have z5 := X.z5; have v5 := X.v5; have wM := run_underlying X.t5
 go_enter L.f169, Body.n169_ntmps ρ
 go_wp2
 go_region_o
 all_goals (go_wp2; go_ret; exact ⟨rfl, aN⟩)
theorem FG (L : Lays.n169 P ρ) (X : Builder.Extra P ρ) (b : Nat) (a v : Value) (l : List UInt8) (w : World) (h : k2 w (ρ.t 72) (ρ.t 5) b a v (Lib.byteCells l)) :
  Calls P (ρ.f 169) #[.pointer (some ⟨b, 0, none⟩)] w fun e an => e = .returned (.string ⟨⟨l⟩⟩) ∧ w.grownBy an v.ownBlock := by
 obtain ⟨hl, fU, cj⟩ := h
 have cx : b < w.heap.size := (Array.getElem?_eq_some_iff.1 hl).1
 have cell : ∀ hL : World, hL.heap[b]? = w.heap[b]? → hL.cell? ⟨b, 1, none⟩ = some v := fun hL h => by rw [Lib.cell_of_heap (h.trans hl)]; rfl
 rw [Lib.byteCells_length] at fU
 have uW : ∀ (W : World) (q : Option Addr), (Builtin.unsafeString_ #[(ρ.t 127), (ρ.t 3)] (ρ.t 9) #[.pointer q, .int .i64 0]).run P W = .ok (.string .empty) W := fun W q => Lib.run_unsafeString_none W _ _ _ q
 by_cases bk : l = []
 ·subst bk
  rcases fU with ⟨_, ⟨rfl, _⟩ | ⟨g, cap, cur, rfl, _, aN, zn, kG, fp, tB⟩⟩
  ·exact rL L X b a _ (.pointer none) 0 none 0 _ w w.drew w.drew _ rfl hl rfl (cell _ rfl) (uW _ _) (uV w _)
  ·by_cases ov : cap = 0
   ·subst ov
    have zu := Lib.run_unsafeSliceData_zero (P := P) w.drew #[ρ.t 37] (ρ.t 127) (ρ.t 5) L.t127 ⟨g, 0, none⟩ 0 ((ρ.t 5), cur.size) (by have dP : w.drew.heap[g]? = some (.cells cur (ρ.t 5) (0, 0)) := aN; simp [World.shape?, dP])
    refine rL L X b a _ _ 0 (some ⟨g, 0, none⟩) 0 _ w _ _ _ rfl hl zu (cell _ ((Lib.alloc_old w.drew _ b cx).trans rfl)) (uW _ _) ?_
    refine ⟨rfl, rfl, rfl, ?_, fun k ai _ => (Lib.alloc_old w.drew _ k ai).trans rfl⟩
    show w.heap.size ≤ (w.heap.push _).size
    simp
   ·exact rL L X b a _ (.pointer (some ⟨g, 0, none⟩)) 0 (some ⟨g, 0, none⟩) cap _ w w.drew w.drew _ rfl hl (Lib.run_unsafeSliceData_row _ _ _ _ _ _ ov) (cell _ rfl) (uW _ _) (uV w _)
 ·have FH : l.length ≠ 0 := by simpa using bk
  have af := fU
  rcases fU with ⟨_, ⟨_, a1⟩ | ⟨g, cap, cur, rfl, _, aN, zn, kG, fp, tB⟩⟩
  ·exact absurd a1 FH
  ·refine rL L X b a _ (.pointer (some ⟨g, 0, none⟩)) l.length (some ⟨g, 0, none⟩) cap _ w w.drew (w.drew.freeze ⟨g, 0, none⟩ l.length) _ rfl hl (Lib.run_unsafeSliceData_row _ _ _ _ _ _ (by omega)) (cell _ rfl) ?_ (FF w g _)
   have LZ : cur.size = cap := by simpa using fp
   refine Lib.run_unsafeString_row w.drew (ρ.t 127) (ρ.t 3) (ρ.t 9) (ρ.t 5) L.t127 X.cellsByte g cur.size (by have dP : w.drew.heap[g]? = some (.cells cur (ρ.t 5) (0, 0)) := aN; simp [World.shape?, dP]) l bk (by omega) (by unfold maxLen at kG; omega) ?_
   intro ay x aj
   have := af.cells (g := g) rfl ay (.int .u8 x.toNat) (by simp [Lib.byteCells, aj])
   exact this
end
theorem zv {w : World} {F : Nat → Prop} {s : ae} {ak : Nat → Value} {T e : TypeId} {dz : List UInt8} {v : Value} {S : Nat → Prop} (h : ar w F s ak (.b_ (.dp T e dz)) v S) :
  ∃ b a fj, v = .pointer (some ⟨b, 0, none⟩) ∧ S b ∧ k2 w T e b a fj (Lib.byteCells dz) ∧ (a = .pointer none ∨ a = .pointer (some ⟨b, 0, none⟩)) ∧ ∀ g, fj.ownBlock = some g → S g := by
 obtain ⟨U, aa⟩ := (ar.bt rfl).1 h
 have aA : bj v = [v] := by cases v <;> first | rfl | (cases U)
 rw [aA, ag] at aa
 obtain ⟨b, a, fj, aC, aF, a6, bQ, bT⟩ := aa
 refine ⟨b, a, fj, by simpa using aC, aF, ⟨a6, ?_, ?_⟩, bQ, ?_⟩
 ·rw [Lib.byteCells_length]
  refine ⟨by simp [Lib.byteCells_length], ?_⟩
  rcases bT with ⟨rfl, rfl⟩ | ⟨g, cap, cur, rfl, _, _, ba, bg, cy, b2, cM⟩
  ·exact .inl ⟨rfl, rfl⟩
  ·exact .inr ⟨g, cap, cur, rfl, Nat.zero_le _, ba, bg, cy, by simpa using b2, by rw [Nat.mul_one, cM]; rfl⟩
 ·rcases bT with ⟨rfl, rfl⟩ | ⟨g, cap, cur, rfl, _, cj, _⟩
  ·simp [Value.ownBlock]
  ·simpa [Value.ownBlock] using cj
 ·rcases bT with ⟨rfl, rfl⟩ | ⟨g, cap, cur, rfl, aU, _⟩
  ·intro g aN; cases aN
  ·intro p8 aN; cases aN; exact aU
theorem FI {w : World} {F : Nat → Prop} {T e : TypeId} {b : Nat} {a v : Value} {dz : List UInt8} {S : Nat → Prop} (h : k2 w T e b a v (Lib.byteCells dz)) (bs : a = .pointer none ∨ a = .pointer (some ⟨b, 0, none⟩)) (J : S b) (aA : ∀ g, v.ownBlock = some g → S g) :
  ag w F (.b_ (.dp T e dz)) [.pointer (some ⟨b, 0, none⟩)] S := by
 rw [ag]
 obtain ⟨U, aa, aw⟩ := h
 refine ⟨b, a, v, rfl, J, U, bs, ?_⟩
 rw [Lib.byteCells_length] at aa
 rcases aa with ⟨_, ⟨rfl, aL⟩ | ⟨g, cap, cur, rfl, _, ba, bg, cy, b2, cM⟩⟩
 ·exact .inl ⟨List.length_eq_zero_iff.1 aL, rfl⟩
 ·exact .inr ⟨g, cap, cur, rfl, aA g rfl, fun e => aw (by rw [e]; rfl), ba, bg, cy, by simpa using b2, by rw [Nat.mul_one] at cM; rw [cM]; rfl⟩
theorem b3.FJ {C : bl} {f : FuncId} {T e : TypeId} {dz s : List UInt8} (uX : ∀ args w, (callFunc f args).run C.P w = .ok (.enter f args) w)
  (h : ∀ (w : World) (b : Nat) (a v : Value), k2 w T e b a v (Lib.byteCells dz) → (a = .pointer none ∨ a = .pointer (some ⟨b, 0, none⟩)) → Calls C.P f #[.pointer (some ⟨b, 0, none⟩), .string ⟨⟨s⟩⟩] w fun ex an => (∃ r, ex = .returned r) ∧ ∃ b6,
   k2 an T e b (.pointer (some ⟨b, 0, none⟩)) b6 (Lib.byteCells dz ++ Lib.strCells ⟨⟨s⟩⟩) ∧
   (b6.ownBlock = none ∨ b6.ownBlock = v.ownBlock ∨ ∃ g, b6.ownBlock = some g ∧ w.heap.size ≤ g) ∧ (∀ k, k < w.heap.size → k ≠ b → some k ≠ v.ownBlock → an.heap[k]? = w.heap[k]?) ∧
   w.heap.size ≤ an.heap.size ∧ an.os = w.os ∧ an.tape = w.tape ∧ an.output = w.output) :
  b3 C f [.b_ (.dp T e dz), .str s] .hole [.b_ (.dp T e (dz ++ s)), .hole] := by
 intro w F X S vs ny aB
 obtain ⟨v0, v1, rfl⟩ : ∃ v0 v1, vs = [v0, v1] := by
  match vs, ny with
  | [x, y], _ => exact ⟨x, y, rfl⟩
 have g1 : v1 = .string ⟨⟨s⟩⟩ := js (aB.cb 1)
 subst g1
 obtain ⟨b, a, fj, aA, aU, uY, bs, fU⟩ := zv (aB.cb 0)
 have aA : v0 = _ := aA
 subst aA
 refine .inl ⟨uX _ _, (h w b a fj uY bs).mono ?_⟩
 rintro ex an ⟨⟨r, rfl⟩, b6, ba, bg, cy, b2, cM, c0, e4⟩
 refine ⟨_, rfl, F, fun u c => u = 1 ∧ (c = b ∨ b6.ownBlock = some c), ?_⟩
 have L0 := aB.cL 0 b aU
 have keys : ∀ c, b6.ownBlock = some c → S 0 c ∨ w.heap.size ≤ c := by
  intro c af
  rcases bg with U | U | ⟨g, U, aa⟩ <;> rw [af] at U
  ·cases U
  ·exact .inl (fU c U.symm)
  ·cases U; exact .inr aa
 have hold : ∀ c, c < w.heap.size → ¬ S 0 c → an.heap[c]? = w.heap[c]? := fun c af aL => cy c af (fun e => aL (e ▸ aU)) (fun e => aL (fU c e.symm))
 exact {
  ei := fun _ h => h
  eD := fun _ aK => .inl aK
  c6 := fun c af => Nat.lt_of_lt_of_le (aB.c6 c af) b2
  cL := fun u c af => by
   rcases af.2 with rfl | U
   ·omega
   ·exact Ft ba.2.1 U
  dk := fun u c af aK => by
   rcases af.2 with rfl | U
   ·exact aB.dk 0 _ aU aK
   ·rcases keys c U with aa | aa
    ·exact aB.dk 0 c aa aK
    ·have := aB.c6 c aK; omega
  de := fun u x c cj hu aj => cj (hu.1.trans aj.1.symm)
  cf := fun u c af => by
   rcases af.2 with rfl | U
   ·exact aB.cf 0 _ aU
   ·rcases keys c U with aa | aa
    ·exact aB.cf 0 c aa
    ·exact .inr aa
  cb := fun u => by
   rcases u with _ | _ | u
   ·show ar _ _ _ _ .hole _ _
    rw [ar]; trivial
   ·refine (ar.bt rfl).2 ⟨rfl, ?_⟩
    have aC : Lib.byteCells dz ++ Lib.strCells ⟨⟨s⟩⟩ = Lib.byteCells (dz ++ s) := by simp [Lib.byteCells, Lib.strCells]
    rw [aC] at ba
    exact FI ba (.inr rfl) ⟨rfl, .inl rfl⟩ fun g aN => ⟨rfl, .inr aN⟩
   ·rcases u with _ | u <;>
    ·show ar _ _ _ _ .hole _ _
     rw [ar]; trivial
  old := fun c af fO => hold c af (fun FK => by
   rcases aB.cf 0 c FK with U | U
   ·exact fO U
   ·omega)
  size := b2
  os := cM
  tape := c0
  output := e4 }
theorem b3.FL {C : bl} {f : FuncId} {T e : TypeId} {dz : List UInt8} (uX : ∀ args w, (callFunc f args).run C.P w = .ok (.enter f args) w)
  (h : ∀ (w : World) (b : Nat) (a v : Value), k2 w T e b a v (Lib.byteCells dz) → Calls C.P f #[.pointer (some ⟨b, 0, none⟩)] w fun ex an => ex = .returned (.string ⟨⟨dz⟩⟩) ∧ w.grownBy an v.ownBlock) :
  b3 C f [.b_ (.dp T e dz)] (.str dz) [.hole] := by
 intro w F X S vs ny aB
 obtain ⟨v0, rfl⟩ : ∃ v0, vs = [v0] := by
  match vs, ny with
  | [x], _ => exact ⟨x, rfl⟩
 obtain ⟨b, a, fj, aA, aU, uY, bs, fU⟩ := zv (aB.cb 0)
 have aA : v0 = _ := aA
 subst aA
 refine .inl ⟨uX _ _, (h w b a fj uY).mono ?_⟩
 rintro ex an ⟨rfl, J⟩
 refine ⟨_, rfl, F, fun _ _ => False, ?_⟩
 exact {
  ei := fun _ h => h
  eD := fun _ aK => .inl aK
  c6 := fun c af => Nat.lt_of_lt_of_le (aB.c6 c af) J.size
  cL := fun _ _ h => h.elim
  dk := fun _ _ h => h.elim
  de := fun _ _ _ _ h => h.elim
  cf := fun _ _ h => h.elim
  cb := fun u => by
   rcases u with _ | u
   ·exact iK dz
   ·rcases u with _ | u <;>
    ·show ar _ _ _ _ .hole _ _
     rw [ar]; trivial
  old := fun c af fO => J.block c af (fun e => by
   rcases aB.cf 0 c (fU c e.symm) with U | U
   ·exact fO U
   ·omega)
  size := J.size
  os := J.os
  tape := J.tape
  output := J.output }
end Go.b1
