/- Part of a proof that a law returns true for every input. No condition. -/
import Derived.Test.YtbemmmimelklkaaGreatFwG
import Derived.ChangeArms
import Derived.WideShapes
namespace Go.c5
section
variable {H : Type} {enc : TypeId × Value → H} {P : Program} {w : World} {base : Nat} {sp : Nat → Bool} {held : Bool}
def js {τ : Type} (enc : TypeId × Value → H) (P : Program) (w : World) (base : Nat) (sp : Nat → Bool) (held : Bool) (T : TypeId) (e : τ → I) (W : τ → Prop) : Prop :=
 ∀ (fuel : Nat) (cs : List Value) (x : DataW H × List MemPlace), DataW.trod enc P w base sp held fuel T cs = some x → ∃ y, W y ∧ aB w (F0 w) (e y) cs (fun _ => False)
theorem Te {T : TypeId} {k : IntKind} (bs : P.underlying T = some (.int k)) : js enc P w base sp held T (fun n => .int k n) (fun n => (Lit.int k n).wf = true) := by
 intro fuel cs x h
 obtain ⟨n, rfl, _, hw⟩ := DataW.trod_int bs h
 exact ⟨n, hw, by rw [aB]⟩
theorem Tf {T : TypeId} (bs : P.underlying T = some (.int .i64)) : js enc P w base sp held T (fun n => .int .i64 n) (fun n => -9223372036854775808 ≤ n ∧ n ≤ 9223372036854775807) := by
 intro fuel cs x h
 obtain ⟨n, hw, bb⟩ := Te bs fuel cs x h
 exact ⟨n, wf_i64 hw, bb⟩
theorem Tg {T : TypeId} (bs : P.underlying T = some .string) : js enc P w base sp held T (fun s => .str s) (fun s => s.length ≤ 9223372036854775807) := by
 intro fuel cs x h
 obtain ⟨s, rfl, _, ah⟩ := DataW.trod_string bs h
 exact ⟨s.data.toList, ah, by rw [aB]⟩
theorem Th {α β : Type} {f : α → Option β} : ∀ {l : List α} {r : List β}, l.mapM f = some r → r.length = l.length ∧ ∀ (i : Nat) (a : α), l[i]? = some a → f a = r[i]? := by
 intro l
 induction l with
 | nil => intro r h; simp at h; subst h; exact ⟨rfl, fun i a h => by simp at h⟩
 | cons a l ih =>
   intro r h
   simp only [List.mapM_cons, Option.bind_eq_bind, Option.bind_eq_some_iff] at h
   obtain ⟨b, ad, j5, bb, he⟩ := h
   have he : b :: j5 = r := by simpa using he
   subst he
   obtain ⟨af, ai⟩ := ih bb
   refine ⟨by simp [af], fun i x aq => ?_⟩
   cases i with
   | zero => simp at aq; subst aq; simpa using ad
   | succ i => simpa using ai i x (by simpa using aq)
theorem KN {a : Addr} {n : Nat} {cs : List Value} (h : w.cells? base a n = some cs) : cs.length = n ∧ ∀ j c, cs[j]? = some c → w.cell? (a.add j) = some c := by
 unfold World.cells? at h
 split at h
 ·obtain ⟨af, ai⟩ := Th h
  refine ⟨by simpa using af, fun j c ay => ?_⟩
  have b_ : j < n := by
   have := (List.getElem?_eq_some_iff.1 ay).1
   rw [af] at this; simpa using this
  rw [ai j j (by simp [b_]), ay]
 ·cases h
theorem Ti {a : Addr} {c : Value} (h : w.cell? a = some c) : a.spot = none ∧ a.block < w.heap.size := by
 unfold World.cell? at h
 split at h
 ·rename_i cs e fr ad
  split at h
  ·cases h
  ·rename_i ah
   refine ⟨by simpa using ah, ?_⟩
   exact (Array.getElem?_eq_some_iff.1 ad).1
 ·cases h
theorem q4 {τ : Type} {T e : TypeId} {sz : Nat} {ec : τ → I} {W : τ → Prop} (bs : P.underlying T = some (.slice e)) (eV : P.cellsOf e = sz) (axI : 0 < sz) (hw : ∀ y, (ec y).wd = sz) (h : js enc P w base sp held e ec W) :
  js enc P w base sp held T (fun cp : List τ => .slice (cp.map ec)) (fun cp : List τ => cp.length ≤ 9223372036854775807 ∧ ∀ y ∈ cp, W y) := by
 intro fuel cs x aq
 rcases DataW.trod_slice bs aq with ⟨rfl, _⟩ | ⟨a, len, cap, elems, rest, n, _, rfl, _, _, af, ai, aN, bk, _⟩
 ·exact ⟨[], ⟨by simp, by simp⟩, by simp only [List.map_nil]; rw [aB]; exact .inl ⟨rfl, none, 0, rfl, Nat.zero_le _, fun _ => rfl⟩⟩
 ·by_cases bc : len = 0
  ·subst bc
   exact ⟨[], ⟨by simp, by simp⟩, by simp only [List.map_nil]; rw [aB]; exact .inl ⟨rfl, some a, cap, rfl, ai, fun h => by cases h⟩⟩
  ·rw [eV] at bk
   have get : ∀ i, i < len → ∃ nF y, w.cells? base (a.add (i * sz)) sz = some nF ∧ W y ∧ aB w (F0 w) (ec y) nF (fun _ => False) := by
    intro i ao
    have := bk i ao
    rw [List.getElem?_eq_getElem (by omega), Option.bind_eq_some_iff] at this
    obtain ⟨nF, a1, bh⟩ := this
    obtain ⟨y, fE, hb⟩ := h _ _ _ bh
    exact ⟨nF, y, a1, fE, hb⟩
   obtain ⟨Tj, fQ, bo, _, bR⟩ := get 0 (by omega)
   obtain ⟨axJ, hS⟩ := KN bo
   have FK : ∃ c, Tj[0]? = some c := ⟨_, List.getElem?_eq_getElem (by omega)⟩
   obtain ⟨mR, FK⟩ := FK
   have KO := Ti (hS 0 mR FK)
   have cz : (a.add (0 * sz)).add 0 = a := by simp [Addr.add]
   rw [cz] at KO
   obtain ⟨b, o, spot⟩ := a
   obtain ⟨p2, pk⟩ := KO
   simp only at p2 pk; subst p2
   have all : ∀ m, m ≤ len → ∃ (cp : List τ) (eH : List Value), cp.length = m ∧ (∀ y ∈ cp, W y) ∧ eH.length = m * sz ∧ Rd w b o eH ∧ bm w (F0 w) (cp.map ec) eH (fun _ => False) := by
    intro m
    induction m with
    | zero => intro _; exact ⟨[], [], rfl, by simp, by simp, fun j c ay => by simp at ay, by rw [List.map_nil, bm]⟩
    | succ m ih =>
      intro hm
      obtain ⟨cp, eH, cf, cB, fD, eQ, gA⟩ := ih (by omega)
      obtain ⟨nF, y, a1, bh, a8⟩ := get m (by omega)
      obtain ⟨fM, gN⟩ := KN a1
      refine ⟨cp ++ [y], eH ++ nF, by simp [cf], ?_, by simp [fD, fM, Nat.add_mul], ?_, ?_⟩
      ·intro z bY
       rcases List.mem_append.1 bY with bY | bY
       ·exact cB z bY
       ·simp at bY; subst bY; exact bh
      ·intro j c ay
       by_cases b_ : j < eH.length
       ·rw [List.getElem?_append_left b_] at ay
        exact eQ j c ay
       ·rw [List.getElem?_append_right (by omega)] at ay
        have := gN _ c ay
        rw [Addr.add_lit, Addr.add_lit] at this
        rw [← this]
        congr 2
        omega
      ·rw [List.map_append]
       refine bm.append gA ?_ (fun _ h => h) (fun _ h => h) (fun _ h => h.elim)
       simp only [List.map_cons, List.map_nil]
       rw [bm]
       exact ⟨nF, [], fun _ => False, fun _ => False, by simp, a8, by rw [bm], fun _ h => h.elim, fun _ h => h.elim, fun _ h => h.elim⟩
   obtain ⟨cp, eH, cf, cB, fD, eQ, gA⟩ := all len (Nat.le_refl _)
   refine ⟨cp, ⟨by rw [cf]; exact Nat.le_trans af ai, cB⟩, ?_⟩
   rw [aB]
   refine .inr ⟨b, o, cap, eH, sz, by simp [cf], pk, by simp [cf, af], ai, ?_, eQ, gA⟩
   intro d ak
   obtain ⟨y, _, rfl⟩ := List.mem_map.1 ak
   exact hw y
def ends : Nat → List (Nat × Nat) → Option Nat
 | o, [] => some o
 | o, (mW, sz) :: r => if o = mW then ends (o + sz) r else none
def KP (w : World) (F : Nat → Prop) (cs : List Value) : List (I × Nat × Nat) → Prop
 | [] => True
 | (d, off, sz) :: r => aB w F d ((cs.drop off).take sz) (fun _ => False) ∧ KP w F cs r
theorem u1 {F : Nat → Prop} {cs : List Value} : ∀ (l : List (I × Nat × Nat)) (o : Nat), ends o (l.map (·.2)) = some cs.length → KP w F cs l → bm w F (l.map (·.1)) (cs.drop o) (fun _ => False) := by
 intro l
 induction l with
 | nil => intro o he _; simp [ends] at he; subst he; simp only [List.map_nil]; rw [bm]; simp
 | cons p l ih =>
   intro o he bJ
   obtain ⟨d, off, sz⟩ := p
   simp only [List.map_cons, ends] at he
   split at he
   ·rename_i e; subst e
    obtain ⟨f1, f2⟩ := bJ
    simp only [List.map_cons]
    rw [bm]
    refine ⟨(cs.drop o).take sz, cs.drop (o + sz), fun _ => False, fun _ => False, ?_, f1, ih _ he f2, fun _ h => h.elim, fun _ h => h.elim, fun _ h => h.elim⟩
    rw [← List.drop_drop, List.take_append_drop]
   ·cases he
theorem km {n T : Nat} {cs : List Value} {o : Option (DataW H × List MemPlace)} {τ : Type} {e : τ → I} {W : τ → Prop} (bb : js enc P w base sp held T e W) (h : DataW.trod enc P w base sp held n T cs = o) (cl : o.isSome = true) :
  ∃ y, W y ∧ aB w (F0 w) (e y) cs (fun _ => False) := by
 obtain ⟨x, rfl⟩ := Option.isSome_iff_exists.1 cl
 exact bb _ _ _ h
theorem Tk {τ : Type} {T : TypeId} {aC : Array Field} {es : τ → List I} {W : τ → Prop} {r : Reach} {kH : Nat} {v : Value} {d : DataW H} {ps : List MemPlace} (bs : P.underlying T = some (.struct aC)) (bb : js enc P w base sp held T (fun y => .agg (es y)) W)
  (sq : Value.okWide P w r kH T v) (ak : DataW.Trod enc P w base sp held T v d ps) : ∃ y, Arg w (.agg (es y)) v ∧ W y := by
 obtain ⟨cs, rfl, _⟩ := WideShapes.okWide_struct bs sq
 obtain ⟨fuel, bJ⟩ := ak
 obtain ⟨y, af, ai⟩ := bb _ _ _ bJ
 refine ⟨y, ⟨rfl, ⟨cs, rfl⟩, ?_⟩, af⟩
 simpa [Value.cells, c1, h_] using ai
end
theorem FL : (∀ {α β : Type} (f : α → β) (l : List α), (l.map f).length = l.length) ∧ (∀ {α : Type} (n : Nat) (a : α), (List.replicate n a).length = n) ∧ (∀ {α : Type} (a : α) (l : List α), (a :: l).length = l.length + 1) ∧ (∀ {α : Type}, ([] : List α).length = 0) ∧ (∀ {α : Type} (a b : List α), (a ++ b).length = a.length + b.length) :=
 ⟨fun _ _ => List.length_map _, fun _ _ => List.length_replicate, fun _ _ => rfl, rfl, fun _ _ => List.length_append⟩
theorem KQ : (∀ {α β : Type} (f : α → β) (l : List α) (i : Nat), (l.map f)[i]? = l[i]?.map f) ∧ (∀ {α : Type} (a : α) (l : List α), (a :: l)[0]? = some a) ∧ (∀ {α : Type} (a : α) (l : List α) (i : Nat), (a :: l)[i + 1]? = l[i]?) ∧
  (∀ {α : Type} (a b : α) (l : List α), (a :: l).set 0 b = b :: l) ∧ (∀ {α : Type} (a b : α) (l : List α) (n : Nat), (a :: l).set (n + 1) b = a :: l.set n b) ∧ (∀ {α : Type} (a : α) (l : List α) (n : Nat), (a :: l).take (n + 1) = a :: l.take n) ∧ (∀ {α : Type} (l : List α), l.take 0 = []) :=
 ⟨fun _ _ _ => List.getElem?_map, fun _ _ => rfl, fun _ _ _ => rfl, fun _ _ _ => rfl, fun _ _ _ _ => rfl, fun _ _ _ => rfl, fun _ => rfl⟩
theorem KR : (∀ {α β : Type} (f : α → β) (a : α), (some a).map f = some (f a)) ∧ (∀ {α β : Type} (f : α → β), (none : Option α).map f = none) ∧ (∀ {α : Type} (a : α), (some a).isSome = true) := ⟨fun _ _ => rfl, fun _ => rfl, fun _ => rfl⟩
theorem FM : (∀ {α β γ : Type} (g : β → γ) (f : α → β) (l : List α), (l.map f).map g = l.map (g ∘ f)) ∧ (∀ {α : Type} (l : List α), l ++ [] = l) := ⟨fun _ _ _ => List.map_map, fun l => List.append_nil l⟩
theorem mA : (∀ {α β : Type} (f : α → β) (a : α) (l : List α), (a :: l).map f = f a :: l.map f) ∧ (∀ {α β : Type} (f : α → β), ([] : List α).map f = []) ∧ (∀ {α β : Type} (f : α → β) (a b : List α), (a ++ b).map f = a.map f ++ b.map f) ∧
  (∀ {α β : Type} (f : α → β) (l : List α) (i : Nat) (a : α), (l.set i a).map f = (l.map f).set i (f a)) ∧ (∀ {α β : Type} (f : α → β) (l : List α) (i : Nat), (l.take i).map f = (l.map f).take i) ∧ (∀ {α β : Type} (f : α → β) (l : List α) (i : Nat), (l.drop i).map f = (l.map f).drop i) :=
 ⟨fun _ _ _ => rfl, fun _ => rfl, fun _ _ _ => List.map_append, fun _ _ _ _ => List.map_set, fun _ _ _ => List.map_take, fun _ _ _ => List.map_drop⟩
def Tl := PLift.up (And.intro @S2 (And.intro @J3 (And.intro @S4 (And.intro @SW (And.intro @J2 (And.intro @SY (And.intro @Kn (And.intro @Ko (And.intro @J4 (And.intro @J5 (And.intro @uY (And.intro @J6 (And.intro @J7 (And.intro @J8 (And.intro @Kp (And.intro @Kq (And.intro @Kr (And.intro @Ks (And.intro @Kt (And.intro @Ku (And.intro @J9 (And.intro @J_ (And.intro @Ka (And.intro @Kb (And.intro @Kc (And.intro @Kd (And.intro @Ke (And.intro @Kf (And.intro @Kg (And.intro @Kh (And.intro @Kl (And.intro @FG (And.intro @FI (And.intro @FH (And.intro @KJ (And.intro @KK (And.intro @KL (And.intro @KM (And.intro @aE.eq_def (And.intro @loc.eq_def (And.intro @aW.eq_def (And.intro @dT.eq_def (And.intro @ex.eq_def (And.intro @lN.eq_def (And.intro @fits.eq_def (And.intro @I.fL.eq_1 (And.intro @I.fL.eq_2 (And.intro @I.fL.eq_3 (And.intro @I.fL.eq_4 (And.intro @I.fL.eq_5 (And.intro @I.fL.eq_6 (And.intro @HS (And.intro @HT (And.intro @Bool.not_true (And.intro @Bool.not_false (And.intro @Bool.true_and (And.intro @Bool.and_true (And.intro @Bool.false_and (And.intro @Bool.true_or (And.intro @Bool.false_or (And.intro @Bool.and_self (And.intro @Bool.false_eq_true (And.intro @Bool.true_eq_false (And.intro @Bool.not_not (And.intro @true_and (And.intro @and_true (And.intro @and_self (And.intro @decide_true (And.intro @decide_false (And.intro @not_false_eq_true (And.intro @not_true_eq_false (And.intro @KF (And.intro @Nat.zero_add (And.intro @Nat.add_zero (And.intro @Nat.mul_one (And.intro @Nat.lt_add_one (And.intro @Nat.zero_lt_succ (And.intro @dd.eq_def (And.intro @eA.eq_def (And.intro @flat.eq_1 (And.intro @flat.eq_2 (And.intro @flat.eq_3 (And.intro @flat.eq_4 (And.intro @flat.eq_5 (And.intro @flat.eq_6 (And.intro @flat.eq_7 (And.intro @pQ.eq_1 (And.intro @pQ.eq_2 (And.intro @cK.eq_def (And.intro @FL (And.intro @KQ (And.intro @KR (@FM)))))))))))))))))))))))))))))))))))))))))))))))))))))))))))))))))))))))))))))))))))))))))))))
def Tm := PLift.up (And.intro @S3 (And.intro @J3 (And.intro @S5 (And.intro @SX (And.intro @J2 (And.intro @SZ (And.intro @Kn (And.intro @Ko (And.intro @J4 (And.intro @J5 (And.intro @uY (And.intro @J6 (And.intro @J7 (And.intro @J8 (And.intro @Kp (And.intro @Kq (And.intro @Kr (And.intro @Ks (And.intro @Kt (And.intro @Ku (And.intro @J9 (And.intro @J_ (And.intro @Ka (And.intro @Kb (And.intro @Kc (And.intro @Kd (And.intro @Ke (And.intro @Kf (And.intro @Kg (And.intro @Kh (And.intro @Kl (And.intro @FG (And.intro @FI (And.intro @FH (And.intro @KJ (And.intro @KK (And.intro @KL (And.intro @KM (And.intro @aE.eq_def (And.intro @loc.eq_def (And.intro @aW.eq_def (And.intro @dT.eq_def (And.intro @ex.eq_def (And.intro @lN.eq_def (And.intro @fits.eq_def (And.intro @I.fL.eq_1 (And.intro @I.fL.eq_2 (And.intro @I.fL.eq_3 (And.intro @I.fL.eq_4 (And.intro @I.fL.eq_5 (And.intro @I.fL.eq_6 (And.intro @HS (And.intro @HT (And.intro @Bool.not_true (And.intro @Bool.not_false (And.intro @Bool.true_and (And.intro @Bool.and_true (And.intro @Bool.false_and (And.intro @Bool.true_or (And.intro @Bool.false_or (And.intro @Bool.and_self (And.intro @Bool.false_eq_true (And.intro @Bool.true_eq_false (And.intro @Bool.not_not (And.intro @true_and (And.intro @and_true (And.intro @and_self (And.intro @decide_true (And.intro @decide_false (And.intro @not_false_eq_true (And.intro @not_true_eq_false (And.intro @KF (And.intro @Nat.zero_add (And.intro @Nat.add_zero (And.intro @Nat.mul_one (And.intro @Nat.lt_add_one (And.intro @Nat.zero_lt_succ (And.intro @dd.eq_def (And.intro @eA.eq_def (And.intro @flat.eq_1 (And.intro @flat.eq_2 (And.intro @flat.eq_3 (And.intro @flat.eq_4 (And.intro @flat.eq_5 (And.intro @flat.eq_6 (And.intro @flat.eq_7 (And.intro @pQ.eq_1 (And.intro @pQ.eq_2 (And.intro @cK.eq_def (And.intro @FL (And.intro @KQ (And.intro @KR (@FM)))))))))))))))))))))))))))))))))))))))))))))))))))))))))))))))))))))))))))))))))))))))))))))
def Tn := PLift.up (And.intro @FG (And.intro @FI (And.intro @FH (And.intro @kj.eq_1 (And.intro @Nat.zero_add (And.intro @Bool.not_true (And.intro @Bool.not_false (And.intro @Bool.true_and (And.intro @Bool.and_true (And.intro @Bool.false_and (And.intro @Bool.true_or (And.intro @Bool.false_or (And.intro @Bool.and_self (And.intro @Bool.false_eq_true (And.intro @Bool.true_eq_false (And.intro @Bool.not_not (And.intro @FL (And.intro @FM (@mA)))))))))))))))))))
end Go.c5
