/- Part of a proof that a law returns true for every input. No condition. -/
import Derived.Test.YtjedocbdhlppdaaFwG
import Derived.ChangeArms
import Derived.WideShapes
namespace Go.b1
section
variable {H : Type} {enc : TypeId × Value → H} {P : Program} {w : World} {base : Nat} {sp : Nat → Bool} {held : Bool}
def lH {τ : Type} (enc : TypeId × Value → H) (P : Program) (w : World) (base : Nat) (sp : Nat → Bool) (held : Bool) (T : TypeId) (e : τ → j) (W : τ → Prop) : Prop :=
 ∀ (fuel : Nat) (cs : List Value) (x : DataW H × List MemPlace), DataW.trod enc P w base sp held fuel T cs = some x → ∃ y, W y ∧ ag w (F0 w) (e y) cs (fun _ => False)
theorem EB {T : TypeId} (aG : P.underlying T = some .string) : lH enc P w base sp held T (fun s => .str s) (fun s => s.length ≤ 9223372036854775807) := by
 intro fuel cs x h
 obtain ⟨s, rfl, _, R⟩ := DataW.trod_string aG h
 exact ⟨s.data.toList, R, by rw [ag]⟩
theorem EC {α β : Type} {f : α → Option β} : ∀ {l : List α} {r : List β}, l.mapM f = some r → r.length = l.length ∧ ∀ (i : Nat) (a : α), l[i]? = some a → f a = r[i]? := by
 intro l
 induction l with
 | nil => intro r h; simp at h; subst h; exact ⟨rfl, fun i a h => by simp at h⟩
 | cons a l ih =>
   intro r h
   simp only [List.mapM_cons, Option.bind_eq_bind, Option.bind_eq_some_iff] at h
   obtain ⟨b, J, gi, aB, he⟩ := h
   have he : b :: gi = r := by simpa using he
   subst he
   obtain ⟨U, aa⟩ := ih aB
   refine ⟨by simp [U], fun i x aj => ?_⟩
   cases i with
   | zero => simp at aj; subst aj; simpa using J
   | succ i => simpa using aa i x (by simpa using aj)
theorem yS {a : Addr} {n : Nat} {cs : List Value} (h : w.cells? base a n = some cs) : cs.length = n ∧ ∀ ay c, cs[ay]? = some c → w.cell? (a.add ay) = some c := by
 unfold World.cells? at h
 split at h
 ·obtain ⟨U, aa⟩ := EC h
  refine ⟨by simpa using U, fun ay c af => ?_⟩
  have bx : ay < n := by
   have := (List.getElem?_eq_some_iff.1 af).1
   rw [U] at this; simpa using this
  rw [aa ay ay (by simp [bx]), af]
 ·cases h
theorem ED {a : Addr} {c : Value} (h : w.cell? a = some c) : a.spot = none ∧ a.block < w.heap.size := by
 unfold World.cell? at h
 split at h
 ·rename_i cs e fr J
  split at h
  ·cases h
  ·rename_i R
   refine ⟨by simpa using R, ?_⟩
   exact (Array.getElem?_eq_some_iff.1 J).1
 ·cases h
theorem EE {τ : Type} {T e : TypeId} {sz : Nat} {ec : τ → j} {W : τ → Prop} (aG : P.underlying T = some (.slice e)) (cB : P.cellsOf e = sz) (LQ : 0 < sz) (hw : ∀ y, (ec y).wd = sz) (h : lH enc P w base sp held e ec W) :
  lH enc P w base sp held T (fun bF : List τ => .slice (bF.map ec)) (fun bF : List τ => bF.length ≤ 9223372036854775807 ∧ ∀ y ∈ bF, W y) := by
 intro fuel cs x aj
 rcases DataW.trod_slice aG aj with ⟨rfl, _⟩ | ⟨a, len, cap, elems, rest, n, _, rfl, _, _, U, aa, aw, aH, _⟩
 ·exact ⟨[], ⟨by simp, by simp⟩, by simp only [List.map_nil]; rw [ag]; exact .inl ⟨rfl, none, 0, rfl, Nat.zero_le _, fun _ => rfl⟩⟩
 ·by_cases bk : len = 0
  ·subst bk
   exact ⟨[], ⟨by simp, by simp⟩, by simp only [List.map_nil]; rw [ag]; exact .inl ⟨rfl, some a, cap, rfl, aa, fun h => by cases h⟩⟩
  ·rw [cB] at aH
   have get : ∀ i, i < len → ∃ lr y, w.cells? base (a.add (i * sz)) sz = some lr ∧ W y ∧ ag w (F0 w) (ec y) lr (fun _ => False) := by
    intro i ax
    have := aH i ax
    rw [List.getElem?_eq_getElem (by omega), Option.bind_eq_some_iff] at this
    obtain ⟨lr, aC, aF⟩ := this
    obtain ⟨y, j9, pG⟩ := h _ _ _ aF
    exact ⟨lr, y, aC, j9, pG⟩
   obtain ⟨EF, ir, g1, _, g2⟩ := get 0 (by omega)
   obtain ⟨LR, fy⟩ := yS g1
   have ov : ∃ c, EF[0]? = some c := ⟨_, List.getElem?_eq_getElem (by omega)⟩
   obtain ⟨iF, ov⟩ := ov
   have yT := ED (fy 0 iF ov)
   have bs : (a.add (0 * sz)).add 0 = a := by simp [Addr.add]
   rw [bs] at yT
   obtain ⟨b, o, spot⟩ := a
   obtain ⟨jx, yU⟩ := yT
   simp only at jx yU; subst jx
   have all : ∀ m, m ≤ len → ∃ (bF : List τ) (cu : List Value), bF.length = m ∧ (∀ y ∈ bF, W y) ∧ cu.length = m * sz ∧ eA w b o cu ∧ aD w (F0 w) (bF.map ec) cu (fun _ => False) := by
    intro m
    induction m with
    | zero => intro _; exact ⟨[], [], rfl, by simp, by simp, fun ay c af => by simp at af, by rw [List.map_nil, aD]⟩
    | succ m ih =>
      intro hm
      obtain ⟨bF, cu, ba, bg, cy, b2, cM⟩ := ih (by omega)
      obtain ⟨lr, y, aC, aF, a6⟩ := get m (by omega)
      obtain ⟨dH, eI⟩ := yS aC
      refine ⟨bF ++ [y], cu ++ lr, by simp [ba], ?_, by simp [cy, dH, Nat.add_mul], ?_, ?_⟩
      ·intro z a1
       rcases List.mem_append.1 a1 with a1 | a1
       ·exact bg z a1
       ·simp at a1; subst a1; exact aF
      ·intro ay c af
       by_cases bx : ay < cu.length
       ·rw [List.getElem?_append_left bx] at af
        exact b2 ay c af
       ·rw [List.getElem?_append_right (by omega)] at af
        have := eI _ c af
        rw [Addr.add_lit, Addr.add_lit] at this
        rw [← this]
        congr 2
        omega
      ·rw [List.map_append]
       refine aD.append cM ?_ (fun _ h => h) (fun _ h => h) (fun _ h => h.elim)
       simp only [List.map_cons, List.map_nil]
       rw [aD]
       exact ⟨lr, [], fun _ => False, fun _ => False, by simp, a6, by rw [aD], fun _ h => h.elim, fun _ h => h.elim, fun _ h => h.elim⟩
   obtain ⟨bF, cu, ba, bg, cy, b2, cM⟩ := all len (Nat.le_refl _)
   refine ⟨bF, ⟨by rw [ba]; exact Nat.le_trans U aa, bg⟩, ?_⟩
   rw [ag]
   refine .inr ⟨b, o, cap, cu, sz, by simp [ba], yU, by simp [ba, U], aa, ?_, b2, cM⟩
   intro d ab
   obtain ⟨y, _, rfl⟩ := List.mem_map.1 ab
   exact hw y
def ends : Nat → List (Nat × Nat) → Option Nat
 | o, [] => some o
 | o, (ij, sz) :: r => if o = ij then ends (o + sz) r else none
def yV (w : World) (F : Nat → Prop) (cs : List Value) : List (j × Nat × Nat) → Prop
 | [] => True
 | (d, off, sz) :: r => ag w F d ((cs.drop off).take sz) (fun _ => False) ∧ yV w F cs r
theorem EG {F : Nat → Prop} {cs : List Value} : ∀ (l : List (j × Nat × Nat)) (o : Nat), ends o (l.map (·.2)) = some cs.length → yV w F cs l → aD w F (l.map (·.1)) (cs.drop o) (fun _ => False) := by
 intro l
 induction l with
 | nil => intro o he _; simp [ends] at he; subst he; simp only [List.map_nil]; rw [aD]; simp
 | cons p l ih =>
   intro o he bb
   obtain ⟨d, off, sz⟩ := p
   simp only [List.map_cons, ends] at he
   split at he
   ·rename_i e; subst e
    obtain ⟨f1, f2⟩ := bb
    simp only [List.map_cons]
    rw [aD]
    refine ⟨(cs.drop o).take sz, cs.drop (o + sz), fun _ => False, fun _ => False, ?_, f1, ih _ he f2, fun _ h => h.elim, fun _ h => h.elim, fun _ h => h.elim⟩
    rw [← List.drop_drop, List.take_append_drop]
   ·cases he
theorem yW {n T : Nat} {cs : List Value} {o : Option (DataW H × List MemPlace)} {τ : Type} {e : τ → j} {W : τ → Prop} (aB : lH enc P w base sp held T e W) (h : DataW.trod enc P w base sp held n T cs = o) (bo : o.isSome = true) :
  ∃ y, W y ∧ ag w (F0 w) (e y) cs (fun _ => False) := by
 obtain ⟨x, rfl⟩ := Option.isSome_iff_exists.1 bo
 exact aB _ _ _ h
theorem EH {τ : Type} {T e : TypeId} {ec : τ → j} {W : List τ → Prop} {r : Reach} {gA : Nat} {v : Value} {d : DataW H} {ps : List MemPlace} (aG : P.underlying T = some (.slice e)) (aB : lH enc P w base sp held T (fun bF : List τ => .slice (bF.map ec)) W)
  (mE : Value.okWide P w r gA T v) (ab : DataW.Trod enc P w base sp held T v d ps) : ∃ bF, Arg w (.slice (bF.map ec)) v ∧ W bF := by
 obtain ⟨a, len, cap, rfl⟩ := WideShapes.okWide_slice aG mE
 obtain ⟨fuel, bb⟩ := ab
 obtain ⟨bF, U, aa⟩ := aB _ _ _ bb
 refine ⟨bF, ⟨rfl, rfl, ?_⟩, U⟩
 simpa [Value.cells, bj, eS] using aa
end
theorem uB : (∀ {α β : Type} (f : α → β) (l : List α), (l.map f).length = l.length) ∧ (∀ {α : Type} (n : Nat) (a : α), (List.replicate n a).length = n) ∧ (∀ {α : Type} (a : α) (l : List α), (a :: l).length = l.length + 1) ∧ (∀ {α : Type}, ([] : List α).length = 0) ∧ (∀ {α : Type} (a b : List α), (a ++ b).length = a.length + b.length) :=
 ⟨fun _ _ => List.length_map _, fun _ _ => List.length_replicate, fun _ _ => rfl, rfl, fun _ _ => List.length_append⟩
theorem yX : (∀ {α β : Type} (f : α → β) (l : List α) (i : Nat), (l.map f)[i]? = l[i]?.map f) ∧ (∀ {α : Type} (a : α) (l : List α), (a :: l)[0]? = some a) ∧ (∀ {α : Type} (a : α) (l : List α) (i : Nat), (a :: l)[i + 1]? = l[i]?) ∧
  (∀ {α : Type} (a b : α) (l : List α), (a :: l).set 0 b = b :: l) ∧ (∀ {α : Type} (a b : α) (l : List α) (n : Nat), (a :: l).set (n + 1) b = a :: l.set n b) ∧ (∀ {α : Type} (a : α) (l : List α) (n : Nat), (a :: l).take (n + 1) = a :: l.take n) ∧ (∀ {α : Type} (l : List α), l.take 0 = []) :=
 ⟨fun _ _ _ => List.getElem?_map, fun _ _ => rfl, fun _ _ _ => rfl, fun _ _ _ => rfl, fun _ _ _ _ => rfl, fun _ _ _ => rfl, fun _ => rfl⟩
theorem yY : (∀ {α β : Type} (f : α → β) (a : α), (some a).map f = some (f a)) ∧ (∀ {α β : Type} (f : α → β), (none : Option α).map f = none) ∧ (∀ {α : Type} (a : α), (some a).isSome = true) := ⟨fun _ _ => rfl, fun _ => rfl, fun _ => rfl⟩
theorem uC : (∀ {α β γ : Type} (g : β → γ) (f : α → β) (l : List α), (l.map f).map g = l.map (g ∘ f)) ∧ (∀ {α : Type} (l : List α), l ++ [] = l) := ⟨fun _ _ _ => List.map_map, fun l => List.append_nil l⟩
theorem rE : (∀ {α β : Type} (f : α → β) (a : α) (l : List α), (a :: l).map f = f a :: l.map f) ∧ (∀ {α β : Type} (f : α → β), ([] : List α).map f = []) ∧ (∀ {α β : Type} (f : α → β) (a b : List α), (a ++ b).map f = a.map f ++ b.map f) ∧
  (∀ {α β : Type} (f : α → β) (l : List α) (i : Nat) (a : α), (l.set i a).map f = (l.map f).set i (f a)) ∧ (∀ {α β : Type} (f : α → β) (l : List α) (i : Nat), (l.take i).map f = (l.map f).take i) ∧ (∀ {α β : Type} (f : α → β) (l : List α) (i : Nat), (l.drop i).map f = (l.map f).drop i) :=
 ⟨fun _ _ _ => rfl, fun _ => rfl, fun _ _ _ => List.map_append, fun _ _ _ _ => List.map_set, fun _ _ _ => List.map_take, fun _ _ _ => List.map_drop⟩
def EI := PLift.up (And.intro @El (And.intro @yd (And.intro @En (And.intro @Ef (And.intro @yc (And.intro @Eh (And.intro @yz (And.intro @yA (And.intro @ye (And.intro @yf (And.intro @yg (And.intro @yh (And.intro @yi (And.intro @yj (And.intro @yB (And.intro @yC (And.intro @yD (And.intro @yE (And.intro @yF (And.intro @yG (And.intro @yk (And.intro @yl (And.intro @ym (And.intro @yn (And.intro @yo (And.intro @yp (And.intro @yq (And.intro @yr (And.intro @ys (And.intro @yt (And.intro @yx (And.intro @uv (And.intro @ux (And.intro @uw (And.intro @yO (And.intro @yP (And.intro @yQ (And.intro @yR (And.intro @cH.eq_def (And.intro @loc.eq_def (And.intro @dt.eq_def (And.intro @dN.eq_def (And.intro @ex.eq_def (And.intro @hB.eq_def (And.intro @fits.eq_def (And.intro @j.cY.eq_1 (And.intro @j.cY.eq_2 (And.intro @j.cY.eq_3 (And.intro @j.cY.eq_4 (And.intro @j.cY.eq_5 (And.intro @j.cY.eq_6 (And.intro @vC (And.intro @vD (And.intro @Bool.not_true (And.intro @Bool.not_false (And.intro @Bool.true_and (And.intro @Bool.and_true (And.intro @Bool.false_and (And.intro @Bool.true_or (And.intro @Bool.false_or (And.intro @Bool.and_self (And.intro @Bool.false_eq_true (And.intro @Bool.true_eq_false (And.intro @Bool.not_not (And.intro @true_and (And.intro @and_true (And.intro @and_self (And.intro @decide_true (And.intro @decide_false (And.intro @not_false_eq_true (And.intro @not_true_eq_false (And.intro @yM (And.intro @Nat.zero_add (And.intro @Nat.add_zero (And.intro @Nat.mul_one (And.intro @Nat.lt_add_one (And.intro @Nat.zero_lt_succ (And.intro @da.eq_def (And.intro @ek.eq_def (And.intro @flat.eq_1 (And.intro @flat.eq_2 (And.intro @flat.eq_3 (And.intro @flat.eq_4 (And.intro @flat.eq_5 (And.intro @flat.eq_6 (And.intro @flat.eq_7 (And.intro @kv.eq_1 (And.intro @kv.eq_2 (And.intro @dC.eq_def (And.intro @uB (And.intro @yX (And.intro @yY (@uC)))))))))))))))))))))))))))))))))))))))))))))))))))))))))))))))))))))))))))))))))))))))))))))
def EJ := PLift.up (And.intro @Em (And.intro @yd (And.intro @Eo (And.intro @Eg (And.intro @yc (And.intro @Ei (And.intro @yz (And.intro @yA (And.intro @ye (And.intro @yf (And.intro @yg (And.intro @yh (And.intro @yi (And.intro @yj (And.intro @yB (And.intro @yC (And.intro @yD (And.intro @yE (And.intro @yF (And.intro @yG (And.intro @yk (And.intro @yl (And.intro @ym (And.intro @yn (And.intro @yo (And.intro @yp (And.intro @yq (And.intro @yr (And.intro @ys (And.intro @yt (And.intro @yx (And.intro @uv (And.intro @ux (And.intro @uw (And.intro @yO (And.intro @yP (And.intro @yQ (And.intro @yR (And.intro @cH.eq_def (And.intro @loc.eq_def (And.intro @dt.eq_def (And.intro @dN.eq_def (And.intro @ex.eq_def (And.intro @hB.eq_def (And.intro @fits.eq_def (And.intro @j.cY.eq_1 (And.intro @j.cY.eq_2 (And.intro @j.cY.eq_3 (And.intro @j.cY.eq_4 (And.intro @j.cY.eq_5 (And.intro @j.cY.eq_6 (And.intro @vC (And.intro @vD (And.intro @Bool.not_true (And.intro @Bool.not_false (And.intro @Bool.true_and (And.intro @Bool.and_true (And.intro @Bool.false_and (And.intro @Bool.true_or (And.intro @Bool.false_or (And.intro @Bool.and_self (And.intro @Bool.false_eq_true (And.intro @Bool.true_eq_false (And.intro @Bool.not_not (And.intro @true_and (And.intro @and_true (And.intro @and_self (And.intro @decide_true (And.intro @decide_false (And.intro @not_false_eq_true (And.intro @not_true_eq_false (And.intro @yM (And.intro @Nat.zero_add (And.intro @Nat.add_zero (And.intro @Nat.mul_one (And.intro @Nat.lt_add_one (And.intro @Nat.zero_lt_succ (And.intro @da.eq_def (And.intro @ek.eq_def (And.intro @flat.eq_1 (And.intro @flat.eq_2 (And.intro @flat.eq_3 (And.intro @flat.eq_4 (And.intro @flat.eq_5 (And.intro @flat.eq_6 (And.intro @flat.eq_7 (And.intro @kv.eq_1 (And.intro @kv.eq_2 (And.intro @dC.eq_def (And.intro @uB (And.intro @yX (And.intro @yY (@uC)))))))))))))))))))))))))))))))))))))))))))))))))))))))))))))))))))))))))))))))))))))))))))))
def EK := PLift.up (And.intro @uv (And.intro @ux (And.intro @uw (And.intro @fH.eq_1 (And.intro @Nat.zero_add (And.intro @Bool.not_true (And.intro @Bool.not_false (And.intro @Bool.true_and (And.intro @Bool.and_true (And.intro @Bool.false_and (And.intro @Bool.true_or (And.intro @Bool.false_or (And.intro @Bool.and_self (And.intro @Bool.false_eq_true (And.intro @Bool.true_eq_false (And.intro @Bool.not_not (And.intro @uB (And.intro @uC (@rE)))))))))))))))))))
end Go.b1
