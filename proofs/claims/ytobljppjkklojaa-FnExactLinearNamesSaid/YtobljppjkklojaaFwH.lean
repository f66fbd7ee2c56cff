/- Part of a proof that a law returns true for every input. No condition. -/
import Derived.Test.YtobljppjkklojaaFwG
import Derived.ChangeArms
import Derived.WideShapes
namespace Go.cM
section
variable {H : Type} {enc : TypeId × Value → H} {P : Program} {w : World} {base : Nat} {sp : Nat → Bool} {held : Bool}
def jC {τ : Type} (enc : TypeId × Value → H) (P : Program) (w : World) (base : Nat) (sp : Nat → Bool) (held : Bool) (T : TypeId) (e : τ → j) (W : τ → Prop) : Prop :=
 ∀ (fuel : Nat) (cs : List Value) (x : DataW H × List MemPlace), DataW.trod enc P w base sp held fuel T cs = some x → ∃ y, W y ∧ aq w (F0 w) (e y) cs (fun _ => False)
theorem J_ {T : TypeId} {k : IntKind} (aP : P.underlying T = some (.int k)) : jC enc P w base sp held T (fun n => .int k n) (fun n => (Lit.int k n).wf = true) := by
 intro fuel cs x h
 obtain ⟨n, rfl, _, hw⟩ := DataW.trod_int aP h
 exact ⟨n, hw, by rw [aq]⟩
theorem Ka {T : TypeId} (aP : P.underlying T = some (.int .i64)) : jC enc P w base sp held T (fun n => .int .i64 n) (fun n => -9223372036854775808 ≤ n ∧ n ≤ 9223372036854775807) := by
 intro fuel cs x h
 obtain ⟨n, hw, aO⟩ := J_ aP fuel cs x h
 exact ⟨n, wf_i64 hw, aO⟩
theorem Kb {T : TypeId} (aP : P.underlying T = some .string) : jC enc P w base sp held T (fun s => .str s) (fun s => s.length ≤ 9223372036854775807) := by
 intro fuel cs x h
 obtain ⟨s, rfl, _, U⟩ := DataW.trod_string aP h
 exact ⟨s.data.toList, U, by rw [aq]⟩
theorem Kc {α β : Type} {f : α → Option β} : ∀ {l : List α} {r : List β}, l.mapM f = some r → r.length = l.length ∧ ∀ (i : Nat) (a : α), l[i]? = some a → f a = r[i]? := by
 intro l
 induction l with
 | nil => intro r h; simp at h; subst h; exact ⟨rfl, fun i a h => by simp at h⟩
 | cons a l ih =>
   intro r h
   simp only [List.mapM_cons, Option.bind_eq_bind, Option.bind_eq_some_iff] at h
   obtain ⟨b, J, g0, aO, he⟩ := h
   have he : b :: g0 = r := by simpa using he
   subst he
   obtain ⟨aa, ab⟩ := ih aO
   refine ⟨by simp [aa], fun i x ai => ?_⟩
   cases i with
   | zero => simp at ai; subst ai; simpa using J
   | succ i => simpa using ab i x (by simpa using ai)
theorem CV {a : Addr} {n : Nat} {cs : List Value} (h : w.cells? base a n = some cs) : cs.length = n ∧ ∀ ar c, cs[ar]? = some c → w.cell? (a.add ar) = some c := by
 unfold World.cells? at h
 split at h
 ·obtain ⟨aa, ab⟩ := Kc h
  refine ⟨by simpa using aa, fun ar c aj => ?_⟩
  have cc : ar < n := by
   have := (List.getElem?_eq_some_iff.1 aj).1
   rw [aa] at this; simpa using this
  rw [ab ar ar (by simp [cc]), aj]
 ·cases h
theorem Kd {a : Addr} {c : Value} (h : w.cell? a = some c) : a.spot = none ∧ a.block < w.heap.size := by
 unfold World.cell? at h
 split at h
 ·rename_i cs e fr J
  split at h
  ·cases h
  ·rename_i U
   refine ⟨by simpa using U, ?_⟩
   exact (Array.getElem?_eq_some_iff.1 J).1
 ·cases h
theorem uK {τ : Type} {T e : TypeId} {sz : Nat} {ec : τ → j} {W : τ → Prop} (aP : P.underlying T = some (.slice e)) (dI : P.cellsOf e = sz) (aah : 0 < sz) (hw : ∀ y, (ec y).wd = sz) (h : jC enc P w base sp held e ec W) :
  jC enc P w base sp held T (fun bM : List τ => .slice (bM.map ec)) (fun bM : List τ => bM.length ≤ 9223372036854775807 ∧ ∀ y ∈ bM, W y) := by
 intro fuel cs x ai
 rcases DataW.trod_slice aP ai with ⟨rfl, _⟩ | ⟨a, len, cap, elems, rest, n, _, rfl, _, _, aa, ab, aE, aZ, _⟩
 ·exact ⟨[], ⟨by simp, by simp⟩, by simp only [List.map_nil]; rw [aq]; exact .inl ⟨rfl, none, 0, rfl, Nat.zero_le _, fun _ => rfl⟩⟩
 ·by_cases bp : len = 0
  ·subst bp
   exact ⟨[], ⟨by simp, by simp⟩, by simp only [List.map_nil]; rw [aq]; exact .inl ⟨rfl, some a, cap, rfl, ab, fun h => by cases h⟩⟩
  ·rw [dI] at aZ
   have get : ∀ i, i < len → ∃ nE y, w.cells? base (a.add (i * sz)) sz = some nE ∧ W y ∧ aq w (F0 w) (ec y) nE (fun _ => False) := by
    intro i az
    have := aZ i az
    rw [List.getElem?_eq_getElem (by omega), Option.bind_eq_some_iff] at this
    obtain ⟨nE, aJ, aT⟩ := this
    obtain ⟨y, gk, hT⟩ := h _ _ _ aT
    exact ⟨nE, y, aJ, gk, hT⟩
   obtain ⟨Ke, gM, aV, _, bo⟩ := get 0 (by omega)
   obtain ⟨aai, gB⟩ := CV aV
   have yw : ∃ c, Ke[0]? = some c := ⟨_, List.getElem?_eq_getElem (by omega)⟩
   obtain ⟨lS, yw⟩ := yw
   have CW := Kd (gB 0 lS yw)
   have b1 : (a.add (0 * sz)).add 0 = a := by simp [Addr.add]
   rw [b1] at CW
   obtain ⟨b, o, spot⟩ := a
   obtain ⟨m7, CX⟩ := CW
   simp only at m7 CX; subst m7
   have all : ∀ m, m ≤ len → ∃ (bM : List τ) (dr : List Value), bM.length = m ∧ (∀ y ∈ bM, W y) ∧ dr.length = m * sz ∧ Rd w b o dr ∧ aU w (F0 w) (bM.map ec) dr (fun _ => False) := by
    intro m
    induction m with
    | zero => intro _; exact ⟨[], [], rfl, by simp, by simp, fun ar c aj => by simp at aj, by rw [List.map_nil, aU]⟩
    | succ m ih =>
      intro hm
      obtain ⟨bM, dr, b9, cj, d_, dv, e1⟩ := ih (by omega)
      obtain ⟨nE, y, aJ, aT, bb⟩ := get m (by omega)
      obtain ⟨en, fl⟩ := CV aJ
      refine ⟨bM ++ [y], dr ++ nE, by simp [b9], ?_, by simp [d_, en, Nat.add_mul], ?_, ?_⟩
      ·intro z bw
       rcases List.mem_append.1 bw with bw | bw
       ·exact cj z bw
       ·simp at bw; subst bw; exact aT
      ·intro ar c aj
       by_cases cc : ar < dr.length
       ·rw [List.getElem?_append_left cc] at aj
        exact dv ar c aj
       ·rw [List.getElem?_append_right (by omega)] at aj
        have := fl _ c aj
        rw [Addr.add_lit, Addr.add_lit] at this
        rw [← this]
        congr 2
        omega
      ·rw [List.map_append]
       refine aU.append e1 ?_ (fun _ h => h) (fun _ h => h) (fun _ h => h.elim)
       simp only [List.map_cons, List.map_nil]
       rw [aU]
       exact ⟨nE, [], fun _ => False, fun _ => False, by simp, bb, by rw [aU], fun _ h => h.elim, fun _ h => h.elim, fun _ h => h.elim⟩
   obtain ⟨bM, dr, b9, cj, d_, dv, e1⟩ := all len (Nat.le_refl _)
   refine ⟨bM, ⟨by rw [b9]; exact Nat.le_trans aa ab, cj⟩, ?_⟩
   rw [aq]
   refine .inr ⟨b, o, cap, dr, sz, by simp [b9], CX, by simp [b9, aa], ab, ?_, dv, e1⟩
   intro d af
   obtain ⟨y, _, rfl⟩ := List.mem_map.1 af
   exact hw y
def ends : Nat → List (Nat × Nat) → Option Nat
 | o, [] => some o
 | o, (kG, sz) :: r => if o = kG then ends (o + sz) r else none
def CY (w : World) (F : Nat → Prop) (cs : List Value) : List (j × Nat × Nat) → Prop
 | [] => True
 | (d, off, sz) :: r => aq w F d ((cs.drop off).take sz) (fun _ => False) ∧ CY w F cs r
theorem yx {F : Nat → Prop} {cs : List Value} : ∀ (l : List (j × Nat × Nat)) (o : Nat), ends o (l.map (·.2)) = some cs.length → CY w F cs l → aU w F (l.map (·.1)) (cs.drop o) (fun _ => False) := by
 intro l
 induction l with
 | nil => intro o he _; simp [ends] at he; subst he; simp only [List.map_nil]; rw [aU]; simp
 | cons p l ih =>
   intro o he bL
   obtain ⟨d, off, sz⟩ := p
   simp only [List.map_cons, ends] at he
   split at he
   ·rename_i e; subst e
    obtain ⟨f1, f2⟩ := bL
    simp only [List.map_cons]
    rw [aU]
    refine ⟨(cs.drop o).take sz, cs.drop (o + sz), fun _ => False, fun _ => False, ?_, f1, ih _ he f2, fun _ h => h.elim, fun _ h => h.elim, fun _ h => h.elim⟩
    rw [← List.drop_drop, List.take_append_drop]
   ·cases he
theorem mJ {n T : Nat} {cs : List Value} {o : Option (DataW H × List MemPlace)} {τ : Type} {e : τ → j} {W : τ → Prop} (aO : jC enc P w base sp held T e W) (h : DataW.trod enc P w base sp held n T cs = o) (bP : o.isSome = true) :
  ∃ y, W y ∧ aq w (F0 w) (e y) cs (fun _ => False) := by
 obtain ⟨x, rfl⟩ := Option.isSome_iff_exists.1 bP
 exact aO _ _ _ h
theorem Kf {τ : Type} {T : TypeId} {al : Array Field} {es : τ → List j} {W : τ → Prop} {r : Reach} {iW : Nat} {v : Value} {d : DataW H} {ps : List MemPlace} (aP : P.underlying T = some (.struct al)) (aO : jC enc P w base sp held T (fun y => .agg (es y)) W)
  (oV : Value.okWide P w r iW T v) (af : DataW.Trod enc P w base sp held T v d ps) : ∃ y, Arg w (.agg (es y)) v ∧ W y := by
 obtain ⟨cs, rfl, _⟩ := WideShapes.okWide_struct aP oV
 obtain ⟨fuel, bL⟩ := af
 obtain ⟨y, aa, ab⟩ := aO _ _ _ bL
 refine ⟨y, ⟨rfl, ⟨cs, rfl⟩, ?_⟩, aa⟩
 simpa [Value.cells, ch, gx] using ab
end
theorem yy : (∀ {α β : Type} (f : α → β) (l : List α), (l.map f).length = l.length) ∧ (∀ {α : Type} (n : Nat) (a : α), (List.replicate n a).length = n) ∧ (∀ {α : Type} (a : α) (l : List α), (a :: l).length = l.length + 1) ∧ (∀ {α : Type}, ([] : List α).length = 0) ∧ (∀ {α : Type} (a b : List α), (a ++ b).length = a.length + b.length) :=
 ⟨fun _ _ => List.length_map _, fun _ _ => List.length_replicate, fun _ _ => rfl, rfl, fun _ _ => List.length_append⟩
theorem CZ : (∀ {α β : Type} (f : α → β) (l : List α) (i : Nat), (l.map f)[i]? = l[i]?.map f) ∧ (∀ {α : Type} (a : α) (l : List α), (a :: l)[0]? = some a) ∧ (∀ {α : Type} (a : α) (l : List α) (i : Nat), (a :: l)[i + 1]? = l[i]?) ∧
  (∀ {α : Type} (a b : α) (l : List α), (a :: l).set 0 b = b :: l) ∧ (∀ {α : Type} (a b : α) (l : List α) (n : Nat), (a :: l).set (n + 1) b = a :: l.set n b) ∧ (∀ {α : Type} (a : α) (l : List α) (n : Nat), (a :: l).take (n + 1) = a :: l.take n) ∧ (∀ {α : Type} (l : List α), l.take 0 = []) :=
 ⟨fun _ _ _ => List.getElem?_map, fun _ _ => rfl, fun _ _ _ => rfl, fun _ _ _ => rfl, fun _ _ _ _ => rfl, fun _ _ _ => rfl, fun _ => rfl⟩
theorem C0 : (∀ {α β : Type} (f : α → β) (a : α), (some a).map f = some (f a)) ∧ (∀ {α β : Type} (f : α → β), (none : Option α).map f = none) ∧ (∀ {α : Type} (a : α), (some a).isSome = true) := ⟨fun _ _ => rfl, fun _ => rfl, fun _ => rfl⟩
theorem yz : (∀ {α β γ : Type} (g : β → γ) (f : α → β) (l : List α), (l.map f).map g = l.map (g ∘ f)) ∧ (∀ {α : Type} (l : List α), l ++ [] = l) := ⟨fun _ _ _ => List.map_map, fun l => List.append_nil l⟩
theorem o8 : (∀ {α β : Type} (f : α → β) (a : α) (l : List α), (a :: l).map f = f a :: l.map f) ∧ (∀ {α β : Type} (f : α → β), ([] : List α).map f = []) ∧ (∀ {α β : Type} (f : α → β) (a b : List α), (a ++ b).map f = a.map f ++ b.map f) ∧
  (∀ {α β : Type} (f : α → β) (l : List α) (i : Nat) (a : α), (l.set i a).map f = (l.map f).set i (f a)) ∧ (∀ {α β : Type} (f : α → β) (l : List α) (i : Nat), (l.take i).map f = (l.map f).take i) ∧ (∀ {α β : Type} (f : α → β) (l : List α) (i : Nat), (l.drop i).map f = (l.map f).drop i) :=
 ⟨fun _ _ _ => rfl, fun _ => rfl, fun _ _ _ => List.map_append, fun _ _ _ _ => List.map_set, fun _ _ _ => List.map_take, fun _ _ _ => List.map_drop⟩
def Kg := PLift.up (And.intro @JX (And.intro @B9 (And.intro @JZ (And.intro @JR (And.intro @B8 (And.intro @JT (And.intro @Ct (And.intro @Cu (And.intro @B_ (And.intro @Ca (And.intro @yo (And.intro @Cb (And.intro @Cc (And.intro @Cd (And.intro @Cv (And.intro @Cw (And.intro @Cx (And.intro @Cy (And.intro @Cz (And.intro @CA (And.intro @Ce (And.intro @Cf (And.intro @Cg (And.intro @Ch (And.intro @Ci (And.intro @Cj (And.intro @Ck (And.intro @Cl (And.intro @Cm (And.intro @Cn (And.intro @Cr (And.intro @ys (And.intro @yu (And.intro @yt (And.intro @CR (And.intro @CS (And.intro @CT (And.intro @CU (And.intro @aW.eq_def (And.intro @loc.eq_def (And.intro @bs.eq_def (And.intro @dw.eq_def (And.intro @ex.eq_def (And.intro @jV.eq_def (And.intro @fits.eq_def (And.intro @j.ei.eq_1 (And.intro @j.ei.eq_2 (And.intro @j.ei.eq_3 (And.intro @j.ei.eq_4 (And.intro @j.ei.eq_5 (And.intro @j.ei.eq_6 (And.intro @zP (And.intro @zQ (And.intro @Bool.not_true (And.intro @Bool.not_false (And.intro @Bool.true_and (And.intro @Bool.and_true (And.intro @Bool.false_and (And.intro @Bool.true_or (And.intro @Bool.false_or (And.intro @Bool.and_self (And.intro @Bool.false_eq_true (And.intro @Bool.true_eq_false (And.intro @Bool.not_not (And.intro @true_and (And.intro @and_true (And.intro @and_self (And.intro @decide_true (And.intro @decide_false (And.intro @not_false_eq_true (And.intro @not_true_eq_false (And.intro @CN (And.intro @Nat.zero_add (And.intro @Nat.add_zero (And.intro @Nat.mul_one (And.intro @Nat.lt_add_one (And.intro @Nat.zero_lt_succ (And.intro @di.eq_def (And.intro @eV.eq_def (And.intro @flat.eq_1 (And.intro @flat.eq_2 (And.intro @flat.eq_3 (And.intro @flat.eq_4 (And.intro @flat.eq_5 (And.intro @flat.eq_6 (And.intro @flat.eq_7 (And.intro @mW.eq_1 (And.intro @mW.eq_2 (And.intro @de.eq_def (And.intro @yy (And.intro @CZ (And.intro @C0 (@yz)))))))))))))))))))))))))))))))))))))))))))))))))))))))))))))))))))))))))))))))))))))))))))))
def Kh := PLift.up (And.intro @JY (And.intro @B9 (And.intro @J0 (And.intro @JS (And.intro @B8 (And.intro @JU (And.intro @Ct (And.intro @Cu (And.intro @B_ (And.intro @Ca (And.intro @yo (And.intro @Cb (And.intro @Cc (And.intro @Cd (And.intro @Cv (And.intro @Cw (And.intro @Cx (And.intro @Cy (And.intro @Cz (And.intro @CA (And.intro @Ce (And.intro @Cf (And.intro @Cg (And.intro @Ch (And.intro @Ci (And.intro @Cj (And.intro @Ck (And.intro @Cl (And.intro @Cm (And.intro @Cn (And.intro @Cr (And.intro @ys (And.intro @yu (And.intro @yt (And.intro @CR (And.intro @CS (And.intro @CT (And.intro @CU (And.intro @aW.eq_def (And.intro @loc.eq_def (And.intro @bs.eq_def (And.intro @dw.eq_def (And.intro @ex.eq_def (And.intro @jV.eq_def (And.intro @fits.eq_def (And.intro @j.ei.eq_1 (And.intro @j.ei.eq_2 (And.intro @j.ei.eq_3 (And.intro @j.ei.eq_4 (And.intro @j.ei.eq_5 (And.intro @j.ei.eq_6 (And.intro @zP (And.intro @zQ (And.intro @Bool.not_true (And.intro @Bool.not_false (And.intro @Bool.true_and (And.intro @Bool.and_true (And.intro @Bool.false_and (And.intro @Bool.true_or (And.intro @Bool.false_or (And.intro @Bool.and_self (And.intro @Bool.false_eq_true (And.intro @Bool.true_eq_false (And.intro @Bool.not_not (And.intro @true_and (And.intro @and_true (And.intro @and_self (And.intro @decide_true (And.intro @decide_false (And.intro @not_false_eq_true (And.intro @not_true_eq_false (And.intro @CN (And.intro @Nat.zero_add (And.intro @Nat.add_zero (And.intro @Nat.mul_one (And.intro @Nat.lt_add_one (And.intro @Nat.zero_lt_succ (And.intro @di.eq_def (And.intro @eV.eq_def (And.intro @flat.eq_1 (And.intro @flat.eq_2 (And.intro @flat.eq_3 (And.intro @flat.eq_4 (And.intro @flat.eq_5 (And.intro @flat.eq_6 (And.intro @flat.eq_7 (And.intro @mW.eq_1 (And.intro @mW.eq_2 (And.intro @de.eq_def (And.intro @yy (And.intro @CZ (And.intro @C0 (@yz)))))))))))))))))))))))))))))))))))))))))))))))))))))))))))))))))))))))))))))))))))))))))))))
def Ki := PLift.up (And.intro @ys (And.intro @yu (And.intro @yt (And.intro @iK.eq_1 (And.intro @Nat.zero_add (And.intro @Bool.not_true (And.intro @Bool.not_false (And.intro @Bool.true_and (And.intro @Bool.and_true (And.intro @Bool.false_and (And.intro @Bool.true_or (And.intro @Bool.false_or (And.intro @Bool.and_self (And.intro @Bool.false_eq_true (And.intro @Bool.true_eq_false (And.intro @Bool.not_not (And.intro @yy (And.intro @yz (@o8)))))))))))))))))))
end Go.cM
