/- Part of a proof that a law returns true for every input. No condition. -/
import Derived.Test.YtjedocbdhlppdaaFwG
import Derived.ChangeArms
import Derived.WideShapes
namespace Go.dp
section
variable {H : Type} {enc : TypeId × Value → H} {P : Program} {w : World} {base : Nat} {sp : Nat → Bool} {held : Bool}
def kT {τ : Type} (enc : TypeId × Value → H) (P : Program) (w : World) (base : Nat) (sp : Nat → Bool) (held : Bool) (T : TypeId) (e : τ → j) (W : τ → Prop) : Prop :=
 ∀ (fuel : Nat) (cs : List Value) (x : DataW H × List MemPlace), DataW.trod enc P w base sp held fuel T cs = some x → ∃ y, W y ∧ ax w (F0 w) (e y) cs (fun _ => False)
theorem OX {T : TypeId} {k : IntKind} (a3 : P.underlying T = some (.int k)) : kT enc P w base sp held T (fun n => .int k n) (fun n => (Lit.int k n).wf = true) := by
 intro fuel cs x h
 obtain ⟨n, rfl, _, hw⟩ := DataW.trod_int a3 h
 exact ⟨n, hw, by rw [ax]⟩
theorem OY {T : TypeId} (a3 : P.underlying T = some (.int .i64)) : kT enc P w base sp held T (fun n => .int .i64 n) (fun n => -9223372036854775808 ≤ n ∧ n ≤ 9223372036854775807) := by
 intro fuel cs x h
 obtain ⟨n, hw, a2⟩ := OX a3 fuel cs x h
 exact ⟨n, wf_i64 hw, a2⟩
theorem OZ {T : TypeId} (a3 : P.underlying T = some .string) : kT enc P w base sp held T (fun s => .str s) (fun s => s.length ≤ 9223372036854775807) := by
 intro fuel cs x h
 obtain ⟨s, rfl, _, ab⟩ := DataW.trod_string a3 h
 exact ⟨s.data.toList, ab, by rw [ax]⟩
theorem O0 {α β : Type} {f : α → Option β} : ∀ {l : List α} {r : List β}, l.mapM f = some r → r.length = l.length ∧ ∀ (i : Nat) (a : α), l[i]? = some a → f a = r[i]? := by
 intro l
 induction l with
 | nil => intro r h; simp at h; subst h; exact ⟨rfl, fun i a h => by simp at h⟩
 | cons a l ih =>
   intro r h
   simp only [List.mapM_cons, Option.bind_eq_bind, Option.bind_eq_some_iff] at h
   obtain ⟨b, U, g8, a2, he⟩ := h
   have he : b :: g8 = r := by simpa using he
   subst he
   obtain ⟨ag, ah⟩ := ih a2
   refine ⟨by simp [ag], fun i x aw => ?_⟩
   cases i with
   | zero => simp at aw; subst aw; simpa using U
   | succ i => simpa using ah i x (by simpa using aw)
theorem GR {a : Addr} {n : Nat} {cs : List Value} (h : w.cells? base a n = some cs) : cs.length = n ∧ ∀ aK c, cs[aK]? = some c → w.cell? (a.add aK) = some c := by
 unfold World.cells? at h
 split at h
 ·obtain ⟨ag, ah⟩ := O0 h
  refine ⟨by simpa using ag, fun aK c az => ?_⟩
  have cS : aK < n := by
   have := (List.getElem?_eq_some_iff.1 az).1
   rw [ag] at this; simpa using this
  rw [ah aK aK (by simp [cS]), az]
 ·cases h
theorem O1 {a : Addr} {c : Value} (h : w.cell? a = some c) : a.spot = none ∧ a.block < w.heap.size := by
 unfold World.cell? at h
 split at h
 ·rename_i cs e fr U
  split at h
  ·cases h
  ·rename_i ab
   refine ⟨by simpa using ab, ?_⟩
   exact (Array.getElem?_eq_some_iff.1 U).1
 ·cases h
theorem xF {τ : Type} {T e : TypeId} {sz : Nat} {ec : τ → j} {W : τ → Prop} (a3 : P.underlying T = some (.slice e)) (ef : P.cellsOf e = sz) (aju : 0 < sz) (hw : ∀ y, (ec y).wd = sz) (h : kT enc P w base sp held e ec W) :
  kT enc P w base sp held T (fun cz : List τ => .slice (cz.map ec)) (fun cz : List τ => cz.length ≤ 9223372036854775807 ∧ ∀ y ∈ cz, W y) := by
 intro fuel cs x aw
 rcases DataW.trod_slice a3 aw with ⟨rfl, _⟩ | ⟨a, len, cap, elems, rest, n, _, rfl, _, _, ag, ah, aM, bd, _⟩
 ·exact ⟨[], ⟨by simp, by simp⟩, by simp only [List.map_nil]; rw [ax]; exact .inl ⟨rfl, none, 0, rfl, Nat.zero_le _, fun _ => rfl⟩⟩
 ·by_cases bM : len = 0
  ·subst bM
   exact ⟨[], ⟨by simp, by simp⟩, by simp only [List.map_nil]; rw [ax]; exact .inl ⟨rfl, some a, cap, rfl, ah, fun h => by cases h⟩⟩
  ·rw [ef] at bd
   have get : ∀ i, i < len → ∃ pq y, w.cells? base (a.add (i * sz)) sz = some pq ∧ W y ∧ ax w (F0 w) (ec y) pq (fun _ => False) := by
    intro i au
    have := bd i au
    rw [List.getElem?_eq_getElem (by omega), Option.bind_eq_some_iff] at this
    obtain ⟨pq, a1, bg⟩ := this
    obtain ⟨y, fO, iZ⟩ := h _ _ _ bg
    exact ⟨pq, y, a1, fO, iZ⟩
   obtain ⟨O2, hP, a8, _, bA⟩ := get 0 (by omega)
   obtain ⟨ajv, eY⟩ := GR a8
   have BQ : ∃ c, O2[0]? = some c := ⟨_, List.getElem?_eq_getElem (by omega)⟩
   obtain ⟨m7, BQ⟩ := BQ
   have GS := O1 (eY 0 m7 BQ)
   have bX : (a.add (0 * sz)).add 0 = a := by simp [Addr.add]
   rw [bX] at GS
   obtain ⟨b, o, spot⟩ := a
   obtain ⟨oK, GU⟩ := GS
   simp only at oK GU; subst oK
   have all : ∀ m, m ≤ len → ∃ (cz : List τ) (ea : List Value), cz.length = m ∧ (∀ y ∈ cz, W y) ∧ ea.length = m * sz ∧ hj w b o ea ∧ ba w (F0 w) (cz.map ec) ea (fun _ => False) := by
    intro m
    induction m with
    | zero => intro _; exact ⟨[], [], rfl, by simp, by simp, fun aK c az => by simp at az, by rw [List.map_nil, ba]⟩
    | succ m ih =>
      intro hm
      obtain ⟨cz, ea, ch, cu, eF, dG, ff⟩ := ih (by omega)
      obtain ⟨pq, y, a1, bg, bf⟩ := get m (by omega)
      obtain ⟨fg, gy⟩ := GR a1
      refine ⟨cz ++ [y], ea ++ pq, by simp [ch], ?_, by simp [eF, fg, Nat.add_mul], ?_, ?_⟩
      ·intro z b2
       rcases List.mem_append.1 b2 with b2 | b2
       ·exact cu z b2
       ·simp at b2; subst b2; exact bg
      ·intro aK c az
       by_cases cS : aK < ea.length
       ·rw [List.getElem?_append_left cS] at az
        exact dG aK c az
       ·rw [List.getElem?_append_right (by omega)] at az
        have := gy _ c az
        rw [Addr.add_lit, Addr.add_lit] at this
        rw [← this]
        congr 2
        omega
      ·rw [List.map_append]
       refine ba.append ff ?_ (fun _ h => h) (fun _ h => h) (fun _ h => h.elim)
       simp only [List.map_cons, List.map_nil]
       rw [ba]
       exact ⟨pq, [], fun _ => False, fun _ => False, by simp, bf, by rw [ba], fun _ h => h.elim, fun _ h => h.elim, fun _ h => h.elim⟩
   obtain ⟨cz, ea, ch, cu, eF, dG, ff⟩ := all len (Nat.le_refl _)
   refine ⟨cz, ⟨by rw [ch]; exact Nat.le_trans ag ah, cu⟩, ?_⟩
   rw [ax]
   refine .inr ⟨b, o, cap, ea, sz, by simp [ch], GU, by simp [ch, ag], ah, ?_, dG, ff⟩
   intro d ak
   obtain ⟨y, _, rfl⟩ := List.mem_map.1 ak
   exact hw y
def ends : Nat → List (Nat × Nat) → Option Nat
 | o, [] => some o
 | o, (mf, sz) :: r => if o = mf then ends (o + sz) r else none
def GV (w : World) (F : Nat → Prop) (cs : List Value) : List (j × Nat × Nat) → Prop
 | [] => True
 | (d, off, sz) :: r => ax w F d ((cs.drop off).take sz) (fun _ => False) ∧ GV w F cs r
theorem BR {F : Nat → Prop} {cs : List Value} : ∀ (l : List (j × Nat × Nat)) (o : Nat), ends o (l.map (·.2)) = some cs.length → GV w F cs l → ba w F (l.map (·.1)) (cs.drop o) (fun _ => False) := by
 intro l
 induction l with
 | nil => intro o he _; simp [ends] at he; subst he; simp only [List.map_nil]; rw [ba]; simp
 | cons p l ih =>
   intro o he bY
   obtain ⟨d, off, sz⟩ := p
   simp only [List.map_cons, ends] at he
   split at he
   ·rename_i e; subst e
    obtain ⟨f1, f2⟩ := bY
    simp only [List.map_cons]
    rw [ba]
    refine ⟨(cs.drop o).take sz, cs.drop (o + sz), fun _ => False, fun _ => False, ?_, f1, ih _ he f2, fun _ h => h.elim, fun _ h => h.elim, fun _ h => h.elim⟩
    rw [← List.drop_drop, List.take_append_drop]
   ·cases he
theorem ob {n T : Nat} {cs : List Value} {o : Option (DataW H × List MemPlace)} {τ : Type} {e : τ → j} {W : τ → Prop} (a2 : kT enc P w base sp held T e W) (h : DataW.trod enc P w base sp held n T cs = o) (cr : o.isSome = true) :
  ∃ y, W y ∧ ax w (F0 w) (e y) cs (fun _ => False) := by
 obtain ⟨x, rfl⟩ := Option.isSome_iff_exists.1 cr
 exact a2 _ _ _ h
theorem GW {τ : Type} {T : TypeId} {ar : Array Field} {es : τ → List j} {W : τ → Prop} {r : Reach} {j7 : Nat} {v : Value} {d : DataW H} {ps : List MemPlace} (a3 : P.underlying T = some (.struct ar)) (a2 : kT enc P w base sp held T (fun y => .agg (es y)) W)
  (pE : Value.okWide P w r j7 T v) (ak : DataW.Trod enc P w base sp held T v d ps) : ∃ y, Arg w (.agg (es y)) v ∧ W y := by
 obtain ⟨cs, rfl, _⟩ := WideShapes.okWide_struct a3 pE
 obtain ⟨fuel, bY⟩ := ak
 obtain ⟨y, ag, ah⟩ := a2 _ _ _ bY
 refine ⟨y, ⟨rfl, ⟨cs, rfl⟩, ?_⟩, ag⟩
 simpa [Value.cells, cp, hW] using ah
end
theorem BS : (∀ {α β : Type} (f : α → β) (l : List α), (l.map f).length = l.length) ∧ (∀ {α : Type} (n : Nat) (a : α), (List.replicate n a).length = n) ∧ (∀ {α : Type} (a : α) (l : List α), (a :: l).length = l.length + 1) ∧ (∀ {α : Type}, ([] : List α).length = 0) ∧ (∀ {α : Type} (a b : List α), (a ++ b).length = a.length + b.length) :=
 ⟨fun _ _ => List.length_map _, fun _ _ => List.length_replicate, fun _ _ => rfl, rfl, fun _ _ => List.length_append⟩
theorem GX : (∀ {α β : Type} (f : α → β) (l : List α) (i : Nat), (l.map f)[i]? = l[i]?.map f) ∧ (∀ {α : Type} (a : α) (l : List α), (a :: l)[0]? = some a) ∧ (∀ {α : Type} (a : α) (l : List α) (i : Nat), (a :: l)[i + 1]? = l[i]?) ∧
  (∀ {α : Type} (a b : α) (l : List α), (a :: l).set 0 b = b :: l) ∧ (∀ {α : Type} (a b : α) (l : List α) (n : Nat), (a :: l).set (n + 1) b = a :: l.set n b) ∧ (∀ {α : Type} (a : α) (l : List α) (n : Nat), (a :: l).take (n + 1) = a :: l.take n) ∧ (∀ {α : Type} (l : List α), l.take 0 = []) :=
 ⟨fun _ _ _ => List.getElem?_map, fun _ _ => rfl, fun _ _ _ => rfl, fun _ _ _ => rfl, fun _ _ _ _ => rfl, fun _ _ _ => rfl, fun _ => rfl⟩
theorem GY : (∀ {α β : Type} (f : α → β) (a : α), (some a).map f = some (f a)) ∧ (∀ {α β : Type} (f : α → β), (none : Option α).map f = none) ∧ (∀ {α : Type} (a : α), (some a).isSome = true) := ⟨fun _ _ => rfl, fun _ => rfl, fun _ => rfl⟩
theorem BT : (∀ {α β γ : Type} (g : β → γ) (f : α → β) (l : List α), (l.map f).map g = l.map (g ∘ f)) ∧ (∀ {α : Type} (l : List α), l ++ [] = l) := ⟨fun _ _ _ => List.map_map, fun l => List.append_nil l⟩
theorem pK : (∀ {α β : Type} (f : α → β) (a : α) (l : List α), (a :: l).map f = f a :: l.map f) ∧ (∀ {α β : Type} (f : α → β), ([] : List α).map f = []) ∧ (∀ {α β : Type} (f : α → β) (a b : List α), (a ++ b).map f = a.map f ++ b.map f) ∧
  (∀ {α β : Type} (f : α → β) (l : List α) (i : Nat) (a : α), (l.set i a).map f = (l.map f).set i (f a)) ∧ (∀ {α β : Type} (f : α → β) (l : List α) (i : Nat), (l.take i).map f = (l.map f).take i) ∧ (∀ {α β : Type} (f : α → β) (l : List α) (i : Nat), (l.drop i).map f = (l.map f).drop i) :=
 ⟨fun _ _ _ => rfl, fun _ => rfl, fun _ _ _ => List.map_append, fun _ _ _ _ => List.map_set, fun _ _ _ => List.map_take, fun _ _ _ => List.map_drop⟩
def O3 := PLift.up (And.intro @OH (And.intro @F3 (And.intro @OJ (And.intro @OA (And.intro @F2 (And.intro @OC (And.intro @Gn (And.intro @Gp (And.intro @F4 (And.intro @F5 (And.intro @BG (And.intro @F6 (And.intro @F7 (And.intro @F8 (And.intro @Gq (And.intro @Gr (And.intro @Gs (And.intro @Gt (And.intro @Gu (And.intro @Gv (And.intro @F9 (And.intro @F_ (And.intro @Ga (And.intro @Gb (And.intro @Gc (And.intro @Gd (And.intro @Ge (And.intro @Gf (And.intro @Gg (And.intro @Gh (And.intro @Gl (And.intro @BK (And.intro @BN (And.intro @BL (And.intro @GN (And.intro @GO (And.intro @GP (And.intro @GQ (And.intro @aN.eq_def (And.intro @loc.eq_def (And.intro @a5.eq_def (And.intro @c1.eq_def (And.intro @ex.eq_def (And.intro @ld.eq_def (And.intro @fits.eq_def (And.intro @j.e_.eq_1 (And.intro @j.e_.eq_2 (And.intro @j.e_.eq_3 (And.intro @j.e_.eq_4 (And.intro @j.e_.eq_5 (And.intro @j.e_.eq_6 (And.intro @DD (And.intro @DE (And.intro @Bool.not_true (And.intro @Bool.not_false (And.intro @Bool.true_and (And.intro @Bool.and_true (And.intro @Bool.false_and (And.intro @Bool.true_or (And.intro @Bool.false_or (And.intro @Bool.and_self (And.intro @Bool.false_eq_true (And.intro @Bool.true_eq_false (And.intro @Bool.not_not (And.intro @true_and (And.intro @and_true (And.intro @and_self (And.intro @decide_true (And.intro @decide_false (And.intro @not_false_eq_true (And.intro @not_true_eq_false (And.intro @GJ (And.intro @Nat.zero_add (And.intro @Nat.add_zero (And.intro @Nat.mul_one (And.intro @Nat.lt_add_one (And.intro @Nat.zero_lt_succ (And.intro @dk.eq_def (And.intro @dH.eq_def (And.intro @flat.eq_1 (And.intro @flat.eq_2 (And.intro @flat.eq_3 (And.intro @flat.eq_4 (And.intro @flat.eq_5 (And.intro @flat.eq_6 (And.intro @flat.eq_7 (And.intro @ox.eq_1 (And.intro @ox.eq_2 (And.intro @ck.eq_def (And.intro @BS (And.intro @GX (And.intro @GY (@BT)))))))))))))))))))))))))))))))))))))))))))))))))))))))))))))))))))))))))))))))))))))))))))))
def O4 := PLift.up (And.intro @OI (And.intro @F3 (And.intro @OK (And.intro @OB (And.intro @F2 (And.intro @OD (And.intro @Gn (And.intro @Gp (And.intro @F4 (And.intro @F5 (And.intro @BG (And.intro @F6 (And.intro @F7 (And.intro @F8 (And.intro @Gq (And.intro @Gr (And.intro @Gs (And.intro @Gt (And.intro @Gu (And.intro @Gv (And.intro @F9 (And.intro @F_ (And.intro @Ga (And.intro @Gb (And.intro @Gc (And.intro @Gd (And.intro @Ge (And.intro @Gf (And.intro @Gg (And.intro @Gh (And.intro @Gl (And.intro @BK (And.intro @BN (And.intro @BL (And.intro @GN (And.intro @GO (And.intro @GP (And.intro @GQ (And.intro @aN.eq_def (And.intro @loc.eq_def (And.intro @a5.eq_def (And.intro @c1.eq_def (And.intro @ex.eq_def (And.intro @ld.eq_def (And.intro @fits.eq_def (And.intro @j.e_.eq_1 (And.intro @j.e_.eq_2 (And.intro @j.e_.eq_3 (And.intro @j.e_.eq_4 (And.intro @j.e_.eq_5 (And.intro @j.e_.eq_6 (And.intro @DD (And.intro @DE (And.intro @Bool.not_true (And.intro @Bool.not_false (And.intro @Bool.true_and (And.intro @Bool.and_true (And.intro @Bool.false_and (And.intro @Bool.true_or (And.intro @Bool.false_or (And.intro @Bool.and_self (And.intro @Bool.false_eq_true (And.intro @Bool.true_eq_false (And.intro @Bool.not_not (And.intro @true_and (And.intro @and_true (And.intro @and_self (And.intro @decide_true (And.intro @decide_false (And.intro @not_false_eq_true (And.intro @not_true_eq_false (And.intro @GJ (And.intro @Nat.zero_add (And.intro @Nat.add_zero (And.intro @Nat.mul_one (And.intro @Nat.lt_add_one (And.intro @Nat.zero_lt_succ (And.intro @dk.eq_def (And.intro @dH.eq_def (And.intro @flat.eq_1 (And.intro @flat.eq_2 (And.intro @flat.eq_3 (And.intro @flat.eq_4 (And.intro @flat.eq_5 (And.intro @flat.eq_6 (And.intro @flat.eq_7 (And.intro @ox.eq_1 (And.intro @ox.eq_2 (And.intro @ck.eq_def (And.intro @BS (And.intro @GX (And.intro @GY (@BT)))))))))))))))))))))))))))))))))))))))))))))))))))))))))))))))))))))))))))))))))))))))))))))
def O5 := PLift.up (And.intro @BK (And.intro @BN (And.intro @BL (And.intro @jS.eq_1 (And.intro @Nat.zero_add (And.intro @Bool.not_true (And.intro @Bool.not_false (And.intro @Bool.true_and (And.intro @Bool.and_true (And.intro @Bool.false_and (And.intro @Bool.true_or (And.intro @Bool.false_or (And.intro @Bool.and_self (And.intro @Bool.false_eq_true (And.intro @Bool.true_eq_false (And.intro @Bool.not_not (And.intro @BS (And.intro @BT (@pK)))))))))))))))))))
end Go.dp
