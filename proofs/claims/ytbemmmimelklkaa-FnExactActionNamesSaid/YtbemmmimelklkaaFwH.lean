/- Part of a proof that a law returns true for every input. No condition. -/
import Derived.Test.YtbemmmimelklkaaFwG
import Derived.ChangeArms
import Derived.WideShapes
namespace Go.cB
section
variable {H : Type} {enc : TypeId × Value → H} {P : Program} {w : World} {base : Nat} {sp : Nat → Bool} {held : Bool}
def j5 {τ : Type} (enc : TypeId × Value → H) (P : Program) (w : World) (base : Nat) (sp : Nat → Bool) (held : Bool) (T : TypeId) (e : τ → I) (W : τ → Prop) : Prop :=
 ∀ (fuel : Nat) (cs : List Value) (x : DataW H × List MemPlace), DataW.trod enc P w base sp held fuel T cs = some x → ∃ y, W y ∧ ax w (F0 w) (e y) cs (fun _ => False)
theorem M0 {T : TypeId} {k : IntKind} (aZ : P.underlying T = some (.int k)) : j5 enc P w base sp held T (fun n => .int k n) (fun n => (Lit.int k n).wf = true) := by
 intro fuel cs x h
 obtain ⟨n, rfl, _, hw⟩ := DataW.trod_int aZ h
 exact ⟨n, hw, by rw [ax]⟩
theorem M1 {T : TypeId} (aZ : P.underlying T = some (.int .i64)) : j5 enc P w base sp held T (fun n => .int .i64 n) (fun n => -9223372036854775808 ≤ n ∧ n ≤ 9223372036854775807) := by
 intro fuel cs x h
 obtain ⟨n, hw, aO⟩ := M0 aZ fuel cs x h
 exact ⟨n, wf_i64 hw, aO⟩
theorem M3 {T : TypeId} (aZ : P.underlying T = some .string) : j5 enc P w base sp held T (fun s => .str s) (fun s => s.length ≤ 9223372036854775807) := by
 intro fuel cs x h
 obtain ⟨s, rfl, _, aa⟩ := DataW.trod_string aZ h
 exact ⟨s.data.toList, aa, by rw [ax]⟩
theorem M4 {α β : Type} {f : α → Option β} : ∀ {l : List α} {r : List β}, l.mapM f = some r → r.length = l.length ∧ ∀ (i : Nat) (a : α), l[i]? = some a → f a = r[i]? := by
 intro l
 induction l with
 | nil => intro r h; simp at h; subst h; exact ⟨rfl, fun i a h => by simp at h⟩
 | cons a l ih =>
   intro r h
   simp only [List.mapM_cons, Option.bind_eq_bind, Option.bind_eq_some_iff] at h
   obtain ⟨b, U, hf, aO, he⟩ := h
   have he : b :: hf = r := by simpa using he
   subst he
   obtain ⟨ab, af⟩ := ih aO
   refine ⟨by simp [ab], fun i x au => ?_⟩
   cases i with
   | zero => simp at au; subst au; simpa using U
   | succ i => simpa using af i x (by simpa using au)
theorem FL {a : Addr} {n : Nat} {cs : List Value} (h : w.cells? base a n = some cs) : cs.length = n ∧ ∀ j c, cs[j]? = some c → w.cell? (a.add j) = some c := by
 unfold World.cells? at h
 split at h
 ·obtain ⟨ab, af⟩ := M4 h
  refine ⟨by simpa using ab, fun j c al => ?_⟩
  have bS : j < n := by
   have := (List.getElem?_eq_some_iff.1 al).1
   rw [ab] at this; simpa using this
  rw [af j j (by simp [bS]), al]
 ·cases h
theorem M5 {a : Addr} {c : Value} (h : w.cell? a = some c) : a.spot = none ∧ a.block < w.heap.size := by
 unfold World.cell? at h
 split at h
 ·rename_i cs e fr U
  split at h
  ·cases h
  ·rename_i aa
   refine ⟨by simpa using aa, ?_⟩
   exact (Array.getElem?_eq_some_iff.1 U).1
 ·cases h
theorem wX {τ : Type} {T e : TypeId} {sz : Nat} {ec : τ → I} {W : τ → Prop} (aZ : P.underlying T = some (.slice e)) (dB : P.cellsOf e = sz) (ahd : 0 < sz) (hw : ∀ y, (ec y).wd = sz) (h : j5 enc P w base sp held e ec W) :
  j5 enc P w base sp held T (fun bT : List τ => .slice (bT.map ec)) (fun bT : List τ => bT.length ≤ 9223372036854775807 ∧ ∀ y ∈ bT, W y) := by
 intro fuel cs x au
 rcases DataW.trod_slice aZ au with ⟨rfl, _⟩ | ⟨a, len, cap, elems, rest, n, _, rfl, _, _, ab, af, aF, bb, _⟩
 ·exact ⟨[], ⟨by simp, by simp⟩, by simp only [List.map_nil]; rw [ax]; exact .inl ⟨rfl, none, 0, rfl, Nat.zero_le _, fun _ => rfl⟩⟩
 ·by_cases bh : len = 0
  ·subst bh
   exact ⟨[], ⟨by simp, by simp⟩, by simp only [List.map_nil]; rw [ax]; exact .inl ⟨rfl, some a, cap, rfl, af, fun h => by cases h⟩⟩
  ·rw [dB] at bb
   have get : ∀ i, i < len → ∃ lQ y, w.cells? base (a.add (i * sz)) sz = some lQ ∧ W y ∧ ax w (F0 w) (ec y) lQ (fun _ => False) := by
    intro i ak
    have := bb i ak
    rw [List.getElem?_eq_getElem (by omega), Option.bind_eq_some_iff] at this
    obtain ⟨lQ, aJ, aP⟩ := this
    obtain ⟨y, fZ, jF⟩ := h _ _ _ aP
    exact ⟨lQ, y, aJ, fZ, jF⟩
   obtain ⟨M6, hX, aY, _, bs⟩ := get 0 (by omega)
   obtain ⟨ahe, gE⟩ := FL aY
   have A6 : ∃ c, M6[0]? = some c := ⟨_, List.getElem?_eq_getElem (by omega)⟩
   obtain ⟨mi, A6⟩ := A6
   have FM := M5 (gE 0 mi A6)
   have b7 : (a.add (0 * sz)).add 0 = a := by simp [Addr.add]
   rw [b7] at FM
   obtain ⟨b, o, spot⟩ := a
   obtain ⟨nN, lZ⟩ := FM
   simp only at nN lZ; subst nN
   have all : ∀ m, m ≤ len → ∃ (bT : List τ) (dt : List Value), bT.length = m ∧ (∀ y ∈ bT, W y) ∧ dt.length = m * sz ∧ Rd w b o dt ∧ a6 w (F0 w) (bT.map ec) dt (fun _ => False) := by
    intro m
    induction m with
    | zero => intro _; exact ⟨[], [], rfl, by simp, by simp, fun j c al => by simp at al, by rw [List.map_nil, a6]⟩
    | succ m ih =>
      intro hm
      obtain ⟨bT, dt, bN, b6, et, dy, fk⟩ := ih (by omega)
      obtain ⟨lQ, y, aJ, aP, a_⟩ := get m (by omega)
      obtain ⟨eV, fY⟩ := FL aJ
      refine ⟨bT ++ [y], dt ++ lQ, by simp [bN], ?_, by simp [et, eV, Nat.add_mul], ?_, ?_⟩
      ·intro z bG
       rcases List.mem_append.1 bG with bG | bG
       ·exact b6 z bG
       ·simp at bG; subst bG; exact aP
      ·intro j c al
       by_cases bS : j < dt.length
       ·rw [List.getElem?_append_left bS] at al
        exact dy j c al
       ·rw [List.getElem?_append_right (by omega)] at al
        have := fY _ c al
        rw [Addr.add_lit, Addr.add_lit] at this
        rw [← this]
        congr 2
        omega
      ·rw [List.map_append]
       refine a6.append fk ?_ (fun _ h => h) (fun _ h => h) (fun _ h => h.elim)
       simp only [List.map_cons, List.map_nil]
       rw [a6]
       exact ⟨lQ, [], fun _ => False, fun _ => False, by simp, a_, by rw [a6], fun _ h => h.elim, fun _ h => h.elim, fun _ h => h.elim⟩
   obtain ⟨bT, dt, bN, b6, et, dy, fk⟩ := all len (Nat.le_refl _)
   refine ⟨bT, ⟨by rw [bN]; exact Nat.le_trans ab af, b6⟩, ?_⟩
   rw [ax]
   refine .inr ⟨b, o, cap, dt, sz, by simp [bN], lZ, by simp [bN, ab], af, ?_, dy, fk⟩
   intro d ah
   obtain ⟨y, _, rfl⟩ := List.mem_map.1 ah
   exact hw y
def ends : Nat → List (Nat × Nat) → Option Nat
 | o, [] => some o
 | o, (ld, sz) :: r => if o = ld then ends (o + sz) r else none
def FN (w : World) (F : Nat → Prop) (cs : List Value) : List (I × Nat × Nat) → Prop
 | [] => True
 | (d, off, sz) :: r => ax w F d ((cs.drop off).take sz) (fun _ => False) ∧ FN w F cs r
theorem A7 {F : Nat → Prop} {cs : List Value} : ∀ (l : List (I × Nat × Nat)) (o : Nat), ends o (l.map (·.2)) = some cs.length → FN w F cs l → a6 w F (l.map (·.1)) (cs.drop o) (fun _ => False) := by
 intro l
 induction l with
 | nil => intro o he _; simp [ends] at he; subst he; simp only [List.map_nil]; rw [a6]; simp
 | cons p l ih =>
   intro o he bB
   obtain ⟨d, off, sz⟩ := p
   simp only [List.map_cons, ends] at he
   split at he
   ·rename_i e; subst e
    obtain ⟨f1, f2⟩ := bB
    simp only [List.map_cons]
    rw [a6]
    refine ⟨(cs.drop o).take sz, cs.drop (o + sz), fun _ => False, fun _ => False, ?_, f1, ih _ he f2, fun _ h => h.elim, fun _ h => h.elim, fun _ h => h.elim⟩
    rw [← List.drop_drop, List.take_append_drop]
   ·cases he
theorem nT {n T : Nat} {cs : List Value} {o : Option (DataW H × List MemPlace)} {τ : Type} {e : τ → I} {W : τ → Prop} (aO : j5 enc P w base sp held T e W) (h : DataW.trod enc P w base sp held n T cs = o) (bU : o.isSome = true) :
  ∃ y, W y ∧ ax w (F0 w) (e y) cs (fun _ => False) := by
 obtain ⟨x, rfl⟩ := Option.isSome_iff_exists.1 bU
 exact aO _ _ _ h
theorem M7 {τ : Type} {T e : TypeId} {ec : τ → I} {W : List τ → Prop} {r : Reach} {iZ : Nat} {v : Value} {d : DataW H} {ps : List MemPlace} (aZ : P.underlying T = some (.slice e)) (aO : j5 enc P w base sp held T (fun bT : List τ => .slice (bT.map ec)) W)
  (nm : Value.okWide P w r iZ T v) (ah : DataW.Trod enc P w base sp held T v d ps) : ∃ bT, Arg w (.slice (bT.map ec)) v ∧ W bT := by
 obtain ⟨a, len, cap, rfl⟩ := WideShapes.okWide_slice aZ nm
 obtain ⟨fuel, bB⟩ := ah
 obtain ⟨bT, ab, af⟩ := aO _ _ _ bB
 refine ⟨bT, ⟨rfl, rfl, ?_⟩, ab⟩
 simpa [Value.cells, cm, gJ] using af
end
theorem A8 : (∀ {α β : Type} (f : α → β) (l : List α), (l.map f).length = l.length) ∧ (∀ {α : Type} (n : Nat) (a : α), (List.replicate n a).length = n) ∧ (∀ {α : Type} (a : α) (l : List α), (a :: l).length = l.length + 1) ∧ (∀ {α : Type}, ([] : List α).length = 0) ∧ (∀ {α : Type} (a b : List α), (a ++ b).length = a.length + b.length) :=
 ⟨fun _ _ => List.length_map _, fun _ _ => List.length_replicate, fun _ _ => rfl, rfl, fun _ _ => List.length_append⟩
theorem FO : (∀ {α β : Type} (f : α → β) (l : List α) (i : Nat), (l.map f)[i]? = l[i]?.map f) ∧ (∀ {α : Type} (a : α) (l : List α), (a :: l)[0]? = some a) ∧ (∀ {α : Type} (a : α) (l : List α) (i : Nat), (a :: l)[i + 1]? = l[i]?) ∧
  (∀ {α : Type} (a b : α) (l : List α), (a :: l).set 0 b = b :: l) ∧ (∀ {α : Type} (a b : α) (l : List α) (n : Nat), (a :: l).set (n + 1) b = a :: l.set n b) ∧ (∀ {α : Type} (a : α) (l : List α) (n : Nat), (a :: l).take (n + 1) = a :: l.take n) ∧ (∀ {α : Type} (l : List α), l.take 0 = []) :=
 ⟨fun _ _ _ => List.getElem?_map, fun _ _ => rfl, fun _ _ _ => rfl, fun _ _ _ => rfl, fun _ _ _ _ => rfl, fun _ _ _ => rfl, fun _ => rfl⟩
theorem FP : (∀ {α β : Type} (f : α → β) (a : α), (some a).map f = some (f a)) ∧ (∀ {α β : Type} (f : α → β), (none : Option α).map f = none) ∧ (∀ {α : Type} (a : α), (some a).isSome = true) := ⟨fun _ _ => rfl, fun _ => rfl, fun _ => rfl⟩
theorem A9 : (∀ {α β γ : Type} (g : β → γ) (f : α → β) (l : List α), (l.map f).map g = l.map (g ∘ f)) ∧ (∀ {α : Type} (l : List α), l ++ [] = l) := ⟨fun _ _ _ => List.map_map, fun l => List.append_nil l⟩
theorem p9 : (∀ {α β : Type} (f : α → β) (a : α) (l : List α), (a :: l).map f = f a :: l.map f) ∧ (∀ {α β : Type} (f : α → β), ([] : List α).map f = []) ∧ (∀ {α β : Type} (f : α → β) (a b : List α), (a ++ b).map f = a.map f ++ b.map f) ∧
  (∀ {α β : Type} (f : α → β) (l : List α) (i : Nat) (a : α), (l.set i a).map f = (l.map f).set i (f a)) ∧ (∀ {α β : Type} (f : α → β) (l : List α) (i : Nat), (l.take i).map f = (l.map f).take i) ∧ (∀ {α β : Type} (f : α → β) (l : List α) (i : Nat), (l.drop i).map f = (l.map f).drop i) :=
 ⟨fun _ _ _ => rfl, fun _ => rfl, fun _ _ _ => List.map_append, fun _ _ _ _ => List.map_set, fun _ _ _ => List.map_take, fun _ _ _ => List.map_drop⟩
def M8 := PLift.up (And.intro @MM (And.intro @EV (And.intro @MO (And.intro @MG (And.intro @EU (And.intro @MI (And.intro @Fi (And.intro @Fj (And.intro @EW (And.intro @EX (And.intro @EY (And.intro @EZ (And.intro @E0 (And.intro @E1 (And.intro @Fk (And.intro @Fl (And.intro @Fm (And.intro @Fo (And.intro @Fp (And.intro @Fq (And.intro @E2 (And.intro @E3 (And.intro @E4 (And.intro @E5 (And.intro @E6 (And.intro @E7 (And.intro @E8 (And.intro @E9 (And.intro @E_ (And.intro @Fa (And.intro @Fg (And.intro @A1 (And.intro @A3 (And.intro @A2 (And.intro @FH (And.intro @FI (And.intro @FJ (And.intro @FK (And.intro @aM.eq_def (And.intro @loc.eq_def (And.intro @bc.eq_def (And.intro @dz.eq_def (And.intro @ex.eq_def (And.intro @kl.eq_def (And.intro @fits.eq_def (And.intro @I.ez.eq_1 (And.intro @I.ez.eq_2 (And.intro @I.ez.eq_3 (And.intro @I.ez.eq_4 (And.intro @I.ez.eq_5 (And.intro @I.ez.eq_6 (And.intro @CQ (And.intro @CR (And.intro @Bool.not_true (And.intro @Bool.not_false (And.intro @Bool.true_and (And.intro @Bool.and_true (And.intro @Bool.false_and (And.intro @Bool.true_or (And.intro @Bool.false_or (And.intro @Bool.and_self (And.intro @Bool.false_eq_true (And.intro @Bool.true_eq_false (And.intro @Bool.not_not (And.intro @true_and (And.intro @and_true (And.intro @and_self (And.intro @decide_true (And.intro @decide_false (And.intro @not_false_eq_true (And.intro @not_true_eq_false (And.intro @FD (And.intro @Nat.zero_add (And.intro @Nat.add_zero (And.intro @Nat.mul_one (And.intro @Nat.lt_add_one (And.intro @Nat.zero_lt_succ (And.intro @di.eq_def (And.intro @dS.eq_def (And.intro @flat.eq_1 (And.intro @flat.eq_2 (And.intro @flat.eq_3 (And.intro @flat.eq_4 (And.intro @flat.eq_5 (And.intro @flat.eq_6 (And.intro @flat.eq_7 (And.intro @nD.eq_1 (And.intro @nD.eq_2 (And.intro @cP.eq_def (And.intro @A8 (And.intro @FO (And.intro @FP (@A9)))))))))))))))))))))))))))))))))))))))))))))))))))))))))))))))))))))))))))))))))))))))))))))
def M9 := PLift.up (And.intro @MN (And.intro @EV (And.intro @MP (And.intro @MH (And.intro @EU (And.intro @MJ (And.intro @Fi (And.intro @Fj (And.intro @EW (And.intro @EX (And.intro @EY (And.intro @EZ (And.intro @E0 (And.intro @E1 (And.intro @Fk (And.intro @Fl (And.intro @Fm (And.intro @Fo (And.intro @Fp (And.intro @Fq (And.intro @E2 (And.intro @E3 (And.intro @E4 (And.intro @E5 (And.intro @E6 (And.intro @E7 (And.intro @E8 (And.intro @E9 (And.intro @E_ (And.intro @Fa (And.intro @Fg (And.intro @A1 (And.intro @A3 (And.intro @A2 (And.intro @FH (And.intro @FI (And.intro @FJ (And.intro @FK (And.intro @aM.eq_def (And.intro @loc.eq_def (And.intro @bc.eq_def (And.intro @dz.eq_def (And.intro @ex.eq_def (And.intro @kl.eq_def (And.intro @fits.eq_def (And.intro @I.ez.eq_1 (And.intro @I.ez.eq_2 (And.intro @I.ez.eq_3 (And.intro @I.ez.eq_4 (And.intro @I.ez.eq_5 (And.intro @I.ez.eq_6 (And.intro @CQ (And.intro @CR (And.intro @Bool.not_true (And.intro @Bool.not_false (And.intro @Bool.true_and (And.intro @Bool.and_true (And.intro @Bool.false_and (And.intro @Bool.true_or (And.intro @Bool.false_or (And.intro @Bool.and_self (And.intro @Bool.false_eq_true (And.intro @Bool.true_eq_false (And.intro @Bool.not_not (And.intro @true_and (And.intro @and_true (And.intro @and_self (And.intro @decide_true (And.intro @decide_false (And.intro @not_false_eq_true (And.intro @not_true_eq_false (And.intro @FD (And.intro @Nat.zero_add (And.intro @Nat.add_zero (And.intro @Nat.mul_one (And.intro @Nat.lt_add_one (And.intro @Nat.zero_lt_succ (And.intro @di.eq_def (And.intro @dS.eq_def (And.intro @flat.eq_1 (And.intro @flat.eq_2 (And.intro @flat.eq_3 (And.intro @flat.eq_4 (And.intro @flat.eq_5 (And.intro @flat.eq_6 (And.intro @flat.eq_7 (And.intro @nD.eq_1 (And.intro @nD.eq_2 (And.intro @cP.eq_def (And.intro @A8 (And.intro @FO (And.intro @FP (@A9)))))))))))))))))))))))))))))))))))))))))))))))))))))))))))))))))))))))))))))))))))))))))))))
def M_ := PLift.up (And.intro @A1 (And.intro @A3 (And.intro @A2 (And.intro @iY.eq_1 (And.intro @Nat.zero_add (And.intro @Bool.not_true (And.intro @Bool.not_false (And.intro @Bool.true_and (And.intro @Bool.and_true (And.intro @Bool.false_and (And.intro @Bool.true_or (And.intro @Bool.false_or (And.intro @Bool.and_self (And.intro @Bool.false_eq_true (And.intro @Bool.true_eq_false (And.intro @Bool.not_not (And.intro @A8 (And.intro @A9 (@p9)))))))))))))))))))
end Go.cB
