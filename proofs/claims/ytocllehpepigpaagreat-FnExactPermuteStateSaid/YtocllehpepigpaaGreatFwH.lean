/- Part of a proof that a law returns true for every input. No condition. -/
import Derived.Test.YtocllehpepigpaaGreatFwG
import Derived.ChangeArms
import Derived.WideShapes
namespace Go.dg
section
variable {H : Type} {enc : TypeId × Value → H} {P : Program} {w : World} {base : Nat} {sp : Nat → Bool} {held : Bool}
def i_ {τ : Type} (enc : TypeId × Value → H) (P : Program) (w : World) (base : Nat) (sp : Nat → Bool) (held : Bool) (T : TypeId) (e : τ → I) (W : τ → Prop) : Prop :=
 ∀ (fuel : Nat) (cs : List Value) (x : DataW H × List MemPlace), DataW.trod enc P w base sp held fuel T cs = some x → ∃ y, W y ∧ aw w (F0 w) (e y) cs (fun _ => False)
theorem Ut {T : TypeId} {k : IntKind} (bo : P.underlying T = some (.int k)) : i_ enc P w base sp held T (fun n => .int k n) (fun n => (Lit.int k n).wf = true) := by
 intro fuel cs x h
 obtain ⟨n, rfl, _, hw⟩ := DataW.trod_int bo h
 exact ⟨n, hw, by rw [aw]⟩
theorem Uu {T : TypeId} (bo : P.underlying T = some (.int .i64)) : i_ enc P w base sp held T (fun n => .int .i64 n) (fun n => -9223372036854775808 ≤ n ∧ n ≤ 9223372036854775807) := by
 intro fuel cs x h
 obtain ⟨n, hw, aZ⟩ := Ut bo fuel cs x h
 exact ⟨n, wf_i64 hw, aZ⟩
theorem Uv {T : TypeId} (bo : P.underlying T = some .string) : i_ enc P w base sp held T (fun s => .str s) (fun s => s.length ≤ 9223372036854775807) := by
 intro fuel cs x h
 obtain ⟨s, rfl, _, af⟩ := DataW.trod_string bo h
 exact ⟨s.data.toList, af, by rw [aw]⟩
theorem Uw {α β : Type} {f : α → Option β} : ∀ {l : List α} {r : List β}, l.mapM f = some r → r.length = l.length ∧ ∀ (i : Nat) (a : α), l[i]? = some a → f a = r[i]? := by
 intro l
 induction l with
 | nil => intro r h; simp at h; subst h; exact ⟨rfl, fun i a h => by simp at h⟩
 | cons a l ih =>
   intro r h
   simp only [List.mapM_cons, Option.bind_eq_bind, Option.bind_eq_some_iff] at h
   obtain ⟨b, ad, h9, aZ, he⟩ := h
   have he : b :: h9 = r := by simpa using he
   subst he
   obtain ⟨ae, ah⟩ := ih aZ
   refine ⟨by simp [ae], fun i x aq => ?_⟩
   cases i with
   | zero => simp at aq; subst aq; simpa using ad
   | succ i => simpa using ah i x (by simpa using aq)
theorem Ly {a : Addr} {n : Nat} {cs : List Value} (h : w.cells? base a n = some cs) : cs.length = n ∧ ∀ j c, cs[j]? = some c → w.cell? (a.add j) = some c := by
 unfold World.cells? at h
 split at h
 ·obtain ⟨ae, ah⟩ := Uw h
  refine ⟨by simpa using ae, fun j c ax => ?_⟩
  have cH : j < n := by
   have := (List.getElem?_eq_some_iff.1 ax).1
   rw [ae] at this; simpa using this
  rw [ah j j (by simp [cH]), ax]
 ·cases h
theorem Ux {a : Addr} {c : Value} (h : w.cell? a = some c) : a.spot = none ∧ a.block < w.heap.size := by
 unfold World.cell? at h
 split at h
 ·rename_i cs e fr ad
  split at h
  ·cases h
  ·rename_i af
   refine ⟨by simpa using af, ?_⟩
   exact (Array.getElem?_eq_some_iff.1 ad).1
 ·cases h
theorem qy {τ : Type} {T e : TypeId} {sz : Nat} {ec : τ → I} {W : τ → Prop} (bo : P.underlying T = some (.slice e)) (eM : P.cellsOf e = sz) (aBr : 0 < sz) (hw : ∀ y, (ec y).wd = sz) (h : i_ enc P w base sp held e ec W) :
  i_ enc P w base sp held T (fun cd : List τ => .slice (cd.map ec)) (fun cd : List τ => cd.length ≤ 9223372036854775807 ∧ ∀ y ∈ cd, W y) := by
 intro fuel cs x aq
 rcases DataW.trod_slice bo aq with ⟨rfl, _⟩ | ⟨a, len, cap, elems, rest, n, _, rfl, _, _, ae, ah, aH, a6, _⟩
 ·exact ⟨[], ⟨by simp, by simp⟩, by simp only [List.map_nil]; rw [aw]; exact .inl ⟨rfl, none, 0, rfl, Nat.zero_le _, fun _ => rfl⟩⟩
 ·by_cases bf : len = 0
  ·subst bf
   exact ⟨[], ⟨by simp, by simp⟩, by simp only [List.map_nil]; rw [aw]; exact .inl ⟨rfl, some a, cap, rfl, ah, fun h => by cases h⟩⟩
  ·rw [eM] at a6
   have get : ∀ i, i < len → ∃ n3 y, w.cells? base (a.add (i * sz)) sz = some n3 ∧ W y ∧ aw w (F0 w) (ec y) n3 (fun _ => False) := by
    intro i au
    have := a6 i au
    rw [List.getElem?_eq_getElem (by omega), Option.bind_eq_some_iff] at this
    obtain ⟨n3, aU, ba⟩ := this
    obtain ⟨y, e4, fT⟩ := h _ _ _ ba
    exact ⟨n3, y, aU, e4, fT⟩
   obtain ⟨Uy, fF, bc, _, bA⟩ := get 0 (by omega)
   obtain ⟨aBs, hx⟩ := Ly bc
   have F6 : ∃ c, Uy[0]? = some c := ⟨_, List.getElem?_eq_getElem (by omega)⟩
   obtain ⟨nh, F6⟩ := F6
   have Lz := Ux (hx 0 nh F6)
   have cJ : (a.add (0 * sz)).add 0 = a := by simp [Addr.add]
   rw [cJ] at Lz
   obtain ⟨b, o, spot⟩ := a
   obtain ⟨qs, ny⟩ := Lz
   simp only at qs ny; subst qs
   have all : ∀ m, m ≤ len → ∃ (cd : List τ) (e3 : List Value), cd.length = m ∧ (∀ y ∈ cd, W y) ∧ e3.length = m * sz ∧ Rd w b o e3 ∧ bg w (F0 w) (cd.map ec) e3 (fun _ => False) := by
    intro m
    induction m with
    | zero => intro _; exact ⟨[], [], rfl, by simp, by simp, fun j c ax => by simp at ax, by rw [List.map_nil, bg]⟩
    | succ m ih =>
      intro hm
      obtain ⟨cd, e3, ca, cy, fy, eB, gr⟩ := ih (by omega)
      obtain ⟨n3, y, aU, ba, aW⟩ := get m (by omega)
      obtain ⟨fR, gW⟩ := Ly aU
      refine ⟨cd ++ [y], e3 ++ n3, by simp [ca], ?_, by simp [fy, fR, Nat.add_mul], ?_, ?_⟩
      ·intro z b8
       rcases List.mem_append.1 b8 with b8 | b8
       ·exact cy z b8
       ·simp at b8; subst b8; exact ba
      ·intro j c ax
       by_cases cH : j < e3.length
       ·rw [List.getElem?_append_left cH] at ax
        exact eB j c ax
       ·rw [List.getElem?_append_right (by omega)] at ax
        have := gW _ c ax
        rw [Addr.add_lit, Addr.add_lit] at this
        rw [← this]
        congr 2
        omega
      ·rw [List.map_append]
       refine bg.append gr ?_ (fun _ h => h) (fun _ h => h) (fun _ h => h.elim)
       simp only [List.map_cons, List.map_nil]
       rw [bg]
       exact ⟨n3, [], fun _ => False, fun _ => False, by simp, aW, by rw [bg], fun _ h => h.elim, fun _ h => h.elim, fun _ h => h.elim⟩
   obtain ⟨cd, e3, ca, cy, fy, eB, gr⟩ := all len (Nat.le_refl _)
   refine ⟨cd, ⟨by rw [ca]; exact Nat.le_trans ae ah, cy⟩, ?_⟩
   rw [aw]
   refine .inr ⟨b, o, cap, e3, sz, by simp [ca], ny, by simp [ca, ae], ah, ?_, eB, gr⟩
   intro d aj
   obtain ⟨y, _, rfl⟩ := List.mem_map.1 aj
   exact hw y
def ends : Nat → List (Nat × Nat) → Option Nat
 | o, [] => some o
 | o, (mN, sz) :: r => if o = mN then ends (o + sz) r else none
def LA (w : World) (F : Nat → Prop) (cs : List Value) : List (I × Nat × Nat) → Prop
 | [] => True
 | (d, off, sz) :: r => aw w F d ((cs.drop off).take sz) (fun _ => False) ∧ LA w F cs r
theorem s0 {F : Nat → Prop} {cs : List Value} : ∀ (l : List (I × Nat × Nat)) (o : Nat), ends o (l.map (·.2)) = some cs.length → LA w F cs l → bg w F (l.map (·.1)) (cs.drop o) (fun _ => False) := by
 intro l
 induction l with
 | nil => intro o he _; simp [ends] at he; subst he; simp only [List.map_nil]; rw [bg]; simp
 | cons p l ih =>
   intro o he bF
   obtain ⟨d, off, sz⟩ := p
   simp only [List.map_cons, ends] at he
   split at he
   ·rename_i e; subst e
    obtain ⟨f1, f2⟩ := bF
    simp only [List.map_cons]
    rw [bg]
    refine ⟨(cs.drop o).take sz, cs.drop (o + sz), fun _ => False, fun _ => False, ?_, f1, ih _ he f2, fun _ h => h.elim, fun _ h => h.elim, fun _ h => h.elim⟩
    rw [← List.drop_drop, List.take_append_drop]
   ·cases he
theorem j3 {n T : Nat} {cs : List Value} {o : Option (DataW H × List MemPlace)} {τ : Type} {e : τ → I} {W : τ → Prop} (aZ : i_ enc P w base sp held T e W) (h : DataW.trod enc P w base sp held n T cs = o) (b_ : o.isSome = true) :
  ∃ y, W y ∧ aw w (F0 w) (e y) cs (fun _ => False) := by
 obtain ⟨x, rfl⟩ := Option.isSome_iff_exists.1 b_
 exact aZ _ _ _ h
theorem LB {τ : Type} {T e : TypeId} {ec : τ → I} {W : List τ → Prop} {r : Reach} {ky : Nat} {v : Value} {d : DataW H} {ps : List MemPlace} (bo : P.underlying T = some (.slice e)) (aZ : i_ enc P w base sp held T (fun cd : List τ => .slice (cd.map ec)) W)
  (o1 : Value.okWide P w r ky T v) (aj : DataW.Trod enc P w base sp held T v d ps) : ∃ cd, Arg w (.slice (cd.map ec)) v ∧ W cd := by
 obtain ⟨a, len, cap, rfl⟩ := WideShapes.okWide_slice bo o1
 obtain ⟨fuel, bF⟩ := aj
 obtain ⟨cd, ae, ah⟩ := aZ _ _ _ bF
 refine ⟨cd, ⟨rfl, rfl, ?_⟩, ae⟩
 simpa [Value.cells, cL, il] using ah
theorem Uz {τ : Type} {T : TypeId} {ay : Array Field} {es : τ → List I} {W : τ → Prop} {r : Reach} {ky : Nat} {v : Value} {d : DataW H} {ps : List MemPlace} (bo : P.underlying T = some (.struct ay)) (aZ : i_ enc P w base sp held T (fun y => .agg (es y)) W)
  (o1 : Value.okWide P w r ky T v) (aj : DataW.Trod enc P w base sp held T v d ps) : ∃ y, Arg w (.agg (es y)) v ∧ W y := by
 obtain ⟨cs, rfl, _⟩ := WideShapes.okWide_struct bo o1
 obtain ⟨fuel, bF⟩ := aj
 obtain ⟨y, ae, ah⟩ := aZ _ _ _ bF
 refine ⟨y, ⟨rfl, ⟨cs, rfl⟩, ?_⟩, ae⟩
 simpa [Value.cells, cL, il] using ah
end
theorem F7 : (∀ {α β : Type} (f : α → β) (l : List α), (l.map f).length = l.length) ∧ (∀ {α : Type} (n : Nat) (a : α), (List.replicate n a).length = n) ∧ (∀ {α : Type} (a : α) (l : List α), (a :: l).length = l.length + 1) ∧ (∀ {α : Type}, ([] : List α).length = 0) ∧ (∀ {α : Type} (a b : List α), (a ++ b).length = a.length + b.length) :=
 ⟨fun _ _ => List.length_map _, fun _ _ => List.length_replicate, fun _ _ => rfl, rfl, fun _ _ => List.length_append⟩
theorem LC : (∀ {α β : Type} (f : α → β) (l : List α) (i : Nat), (l.map f)[i]? = l[i]?.map f) ∧ (∀ {α : Type} (a : α) (l : List α), (a :: l)[0]? = some a) ∧ (∀ {α : Type} (a : α) (l : List α) (i : Nat), (a :: l)[i + 1]? = l[i]?) ∧
  (∀ {α : Type} (a b : α) (l : List α), (a :: l).set 0 b = b :: l) ∧ (∀ {α : Type} (a b : α) (l : List α) (n : Nat), (a :: l).set (n + 1) b = a :: l.set n b) ∧ (∀ {α : Type} (a : α) (l : List α) (n : Nat), (a :: l).take (n + 1) = a :: l.take n) ∧ (∀ {α : Type} (l : List α), l.take 0 = []) :=
 ⟨fun _ _ _ => List.getElem?_map, fun _ _ => rfl, fun _ _ _ => rfl, fun _ _ _ => rfl, fun _ _ _ _ => rfl, fun _ _ _ => rfl, fun _ => rfl⟩
theorem LD : (∀ {α β : Type} (f : α → β) (a : α), (some a).map f = some (f a)) ∧ (∀ {α β : Type} (f : α → β), (none : Option α).map f = none) ∧ (∀ {α : Type} (a : α), (some a).isSome = true) := ⟨fun _ _ => rfl, fun _ => rfl, fun _ => rfl⟩
theorem F8 : (∀ {α β γ : Type} (g : β → γ) (f : α → β) (l : List α), (l.map f).map g = l.map (g ∘ f)) ∧ (∀ {α : Type} (l : List α), l ++ [] = l) := ⟨fun _ _ _ => List.map_map, fun l => List.append_nil l⟩
theorem mZ : (∀ {α β : Type} (f : α → β) (a : α) (l : List α), (a :: l).map f = f a :: l.map f) ∧ (∀ {α β : Type} (f : α → β), ([] : List α).map f = []) ∧ (∀ {α β : Type} (f : α → β) (a b : List α), (a ++ b).map f = a.map f ++ b.map f) ∧
  (∀ {α β : Type} (f : α → β) (l : List α) (i : Nat) (a : α), (l.set i a).map f = (l.map f).set i (f a)) ∧ (∀ {α β : Type} (f : α → β) (l : List α) (i : Nat), (l.take i).map f = (l.map f).take i) ∧ (∀ {α β : Type} (f : α → β) (l : List α) (i : Nat), (l.drop i).map f = (l.map f).drop i) :=
 ⟨fun _ _ _ => rfl, fun _ => rfl, fun _ _ _ => List.map_append, fun _ _ _ _ => List.map_set, fun _ _ _ => List.map_take, fun _ _ _ => List.map_drop⟩
def UA := PLift.up (And.intro @Ub (And.intro @KN (And.intro @Ud (And.intro @T6 (And.intro @KM (And.intro @T8 (And.intro @K8 (And.intro @K9 (And.intro @KO (And.intro @KP (And.intro @vx (And.intro @KQ (And.intro @KR (And.intro @KS (And.intro @K_ (And.intro @La (And.intro @Lb (And.intro @Lc (And.intro @Ld (And.intro @Le (And.intro @KT (And.intro @KU (And.intro @KV (And.intro @KW (And.intro @KX (And.intro @KY (And.intro @KZ (And.intro @K0 (And.intro @K1 (And.intro @K2 (And.intro @K6 (And.intro @F1 (And.intro @F3 (And.intro @F2 (And.intro @Lu (And.intro @Lv (And.intro @Lw (And.intro @Lx (And.intro @cl.eq_def (And.intro @loc.eq_def (And.intro @c1.eq_def (And.intro @gu.eq_def (And.intro @ex.eq_def (And.intro @mn.eq_def (And.intro @fits.eq_def (And.intro @I.gh.eq_1 (And.intro @I.gh.eq_2 (And.intro @I.gh.eq_3 (And.intro @I.gh.eq_4 (And.intro @I.gh.eq_5 (And.intro @I.gh.eq_6 (And.intro @Iy (And.intro @Iz (And.intro @Bool.not_true (And.intro @Bool.not_false (And.intro @Bool.true_and (And.intro @Bool.and_true (And.intro @Bool.false_and (And.intro @Bool.true_or (And.intro @Bool.false_or (And.intro @Bool.and_self (And.intro @Bool.false_eq_true (And.intro @Bool.true_eq_false (And.intro @Bool.not_not (And.intro @true_and (And.intro @and_true (And.intro @and_self (And.intro @decide_true (And.intro @decide_false (And.intro @not_false_eq_true (And.intro @not_true_eq_false (And.intro @Lq (And.intro @Nat.zero_add (And.intro @Nat.add_zero (And.intro @Nat.mul_one (And.intro @Nat.lt_add_one (And.intro @Nat.zero_lt_succ (And.intro @dh.eq_def (And.intro @ho.eq_def (And.intro @flat.eq_1 (And.intro @flat.eq_2 (And.intro @flat.eq_3 (And.intro @flat.eq_4 (And.intro @flat.eq_5 (And.intro @flat.eq_6 (And.intro @flat.eq_7 (And.intro @qg.eq_1 (And.intro @qg.eq_2 (And.intro @gC.eq_def (And.intro @F7 (And.intro @LC (And.intro @LD (@F8)))))))))))))))))))))))))))))))))))))))))))))))))))))))))))))))))))))))))))))))))))))))))))))
def UB := PLift.up (And.intro @Uc (And.intro @KN (And.intro @Ue (And.intro @T7 (And.intro @KM (And.intro @T9 (And.intro @K8 (And.intro @K9 (And.intro @KO (And.intro @KP (And.intro @vx (And.intro @KQ (And.intro @KR (And.intro @KS (And.intro @K_ (And.intro @La (And.intro @Lb (And.intro @Lc (And.intro @Ld (And.intro @Le (And.intro @KT (And.intro @KU (And.intro @KV (And.intro @KW (And.intro @KX (And.intro @KY (And.intro @KZ (And.intro @K0 (And.intro @K1 (And.intro @K2 (And.intro @K6 (And.intro @F1 (And.intro @F3 (And.intro @F2 (And.intro @Lu (And.intro @Lv (And.intro @Lw (And.intro @Lx (And.intro @cl.eq_def (And.intro @loc.eq_def (And.intro @c1.eq_def (And.intro @gu.eq_def (And.intro @ex.eq_def (And.intro @mn.eq_def (And.intro @fits.eq_def (And.intro @I.gh.eq_1 (And.intro @I.gh.eq_2 (And.intro @I.gh.eq_3 (And.intro @I.gh.eq_4 (And.intro @I.gh.eq_5 (And.intro @I.gh.eq_6 (And.intro @Iy (And.intro @Iz (And.intro @Bool.not_true (And.intro @Bool.not_false (And.intro @Bool.true_and (And.intro @Bool.and_true (And.intro @Bool.false_and (And.intro @Bool.true_or (And.intro @Bool.false_or (And.intro @Bool.and_self (And.intro @Bool.false_eq_true (And.intro @Bool.true_eq_false (And.intro @Bool.not_not (And.intro @true_and (And.intro @and_true (And.intro @and_self (And.intro @decide_true (And.intro @decide_false (And.intro @not_false_eq_true (And.intro @not_true_eq_false (And.intro @Lq (And.intro @Nat.zero_add (And.intro @Nat.add_zero (And.intro @Nat.mul_one (And.intro @Nat.lt_add_one (And.intro @Nat.zero_lt_succ (And.intro @dh.eq_def (And.intro @ho.eq_def (And.intro @flat.eq_1 (And.intro @flat.eq_2 (And.intro @flat.eq_3 (And.intro @flat.eq_4 (And.intro @flat.eq_5 (And.intro @flat.eq_6 (And.intro @flat.eq_7 (And.intro @qg.eq_1 (And.intro @qg.eq_2 (And.intro @gC.eq_def (And.intro @F7 (And.intro @LC (And.intro @LD (@F8)))))))))))))))))))))))))))))))))))))))))))))))))))))))))))))))))))))))))))))))))))))))))))))
def UC := PLift.up (And.intro @F1 (And.intro @F3 (And.intro @F2 (And.intro @kX.eq_1 (And.intro @Nat.zero_add (And.intro @Bool.not_true (And.intro @Bool.not_false (And.intro @Bool.true_and (And.intro @Bool.and_true (And.intro @Bool.false_and (And.intro @Bool.true_or (And.intro @Bool.false_or (And.intro @Bool.and_self (And.intro @Bool.false_eq_true (And.intro @Bool.true_eq_false (And.intro @Bool.not_not (And.intro @F7 (And.intro @F8 (@mZ)))))))))))))))))))
end Go.dg
