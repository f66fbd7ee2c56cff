/- Part of a proof that a law returns true for every input. No condition. -/
import Derived.Test.YtgpmnlkgmadglaaGreatDoorFwG
import Derived.ChangeArms
import Derived.WideShapes
namespace Go.cY
section
variable {H : Type} {enc : TypeId × Value → H} {P : Program} {w : World} {base : Nat} {sp : Nat → Bool} {held : Bool}
def k9 {τ : Type} (enc : TypeId × Value → H) (P : Program) (w : World) (base : Nat) (sp : Nat → Bool) (held : Bool) (T : TypeId) (e : τ → I) (W : τ → Prop) : Prop :=
 ∀ (fuel : Nat) (cs : List Value) (x : DataW H × List MemPlace), DataW.trod enc P w base sp held fuel T cs = some x → ∃ y, W y ∧ ay w (F0 w) (e y) cs (fun _ => False)
theorem Vx {T : TypeId} {k : IntKind} (a1 : P.underlying T = some (.int k)) : k9 enc P w base sp held T (fun n => .int k n) (fun n => (Lit.int k n).wf = true) := by
 intro fuel cs x h
 obtain ⟨n, rfl, _, hw⟩ := DataW.trod_int a1 h
 exact ⟨n, hw, by rw [ay]⟩
theorem Vy {T : TypeId} (a1 : P.underlying T = some (.int .i64)) : k9 enc P w base sp held T (fun n => .int .i64 n) (fun n => -9223372036854775808 ≤ n ∧ n ≤ 9223372036854775807) := by
 intro fuel cs x h
 obtain ⟨n, hw, aW⟩ := Vx a1 fuel cs x h
 exact ⟨n, wf_i64 hw, aW⟩
theorem Vz {T : TypeId} (a1 : P.underlying T = some .string) : k9 enc P w base sp held T (fun s => .str s) (fun s => s.length ≤ 9223372036854775807) := by
 intro fuel cs x h
 obtain ⟨s, rfl, _, ab⟩ := DataW.trod_string a1 h
 exact ⟨s.data.toList, ab, by rw [ay]⟩
theorem VA {α β : Type} {f : α → Option β} : ∀ {l : List α} {r : List β}, l.mapM f = some r → r.length = l.length ∧ ∀ (i : Nat) (a : α), l[i]? = some a → f a = r[i]? := by
 intro l
 induction l with
 | nil => intro r h; simp at h; subst h; exact ⟨rfl, fun i a h => by simp at h⟩
 | cons a l ih =>
   intro r h
   simp only [List.mapM_cons, Option.bind_eq_bind, Option.bind_eq_some_iff] at h
   obtain ⟨b, aa, gU, aW, he⟩ := h
   have he : b :: gU = r := by simpa using he
   subst he
   obtain ⟨af, ag⟩ := ih aW
   refine ⟨by simp [af], fun i x aq => ?_⟩
   cases i with
   | zero => simp at aq; subst aq; simpa using aa
   | succ i => simpa using ag i x (by simpa using aq)
theorem My {a : Addr} {n : Nat} {cs : List Value} (h : w.cells? base a n = some cs) : cs.length = n ∧ ∀ j c, cs[j]? = some c → w.cell? (a.add j) = some c := by
 unfold World.cells? at h
 split at h
 ·obtain ⟨af, ag⟩ := VA h
  refine ⟨by simpa using af, fun j c ao => ?_⟩
  have bw : j < n := by
   have := (List.getElem?_eq_some_iff.1 ao).1
   rw [af] at this; simpa using this
  rw [ag j j (by simp [bw]), ao]
 ·cases h
theorem VB {a : Addr} {c : Value} (h : w.cell? a = some c) : a.spot = none ∧ a.block < w.heap.size := by
 unfold World.cell? at h
 split at h
 ·rename_i cs e fr aa
  split at h
  ·cases h
  ·rename_i ab
   refine ⟨by simpa using ab, ?_⟩
   exact (Array.getElem?_eq_some_iff.1 aa).1
 ·cases h
theorem yS {τ : Type} {T e : TypeId} {sz : Nat} {ec : τ → I} {W : τ → Prop} (a1 : P.underlying T = some (.slice e)) (d_ : P.cellsOf e = sz) (ay5 : 0 < sz) (hw : ∀ y, (ec y).wd = sz) (h : k9 enc P w base sp held e ec W) :
  k9 enc P w base sp held T (fun ck : List τ => .slice (ck.map ec)) (fun ck : List τ => ck.length ≤ 9223372036854775807 ∧ ∀ y ∈ ck, W y) := by
 intro fuel cs x aq
 rcases DataW.trod_slice a1 aq with ⟨rfl, _⟩ | ⟨a, len, cap, elems, rest, n, _, rfl, _, _, af, ag, aF, a_, _⟩
 ·exact ⟨[], ⟨by simp, by simp⟩, by simp only [List.map_nil]; rw [ay]; exact .inl ⟨rfl, none, 0, rfl, Nat.zero_le _, fun _ => rfl⟩⟩
 ·by_cases bn : len = 0
  ·subst bn
   exact ⟨[], ⟨by simp, by simp⟩, by simp only [List.map_nil]; rw [ay]; exact .inl ⟨rfl, some a, cap, rfl, ag, fun h => by cases h⟩⟩
  ·rw [d_] at a_
   have get : ∀ i, i < len → ∃ om y, w.cells? base (a.add (i * sz)) sz = some om ∧ W y ∧ ay w (F0 w) (ec y) om (fun _ => False) := by
    intro i an
    have := a_ i an
    rw [List.getElem?_eq_getElem (by omega), Option.bind_eq_some_iff] at this
    obtain ⟨om, aN, aZ⟩ := this
    obtain ⟨y, fM, iT⟩ := h _ _ _ aZ
    exact ⟨om, y, aN, fM, iT⟩
   obtain ⟨VC, h2, g1, _, g2⟩ := get 0 (by omega)
   obtain ⟨ay6, hk⟩ := My g1
   have GR : ∃ c, VC[0]? = some c := ⟨_, List.getElem?_eq_getElem (by omega)⟩
   obtain ⟨pa, GR⟩ := GR
   have yT := VB (hk 0 pa GR)
   have bF : (a.add (0 * sz)).add 0 = a := by simp [Addr.add]
   rw [bF] at yT
   obtain ⟨b, o, spot⟩ := a
   obtain ⟨re, qt⟩ := yT
   simp only at re qt; subst re
   have all : ∀ m, m ≤ len → ∃ (ck : List τ) (eu : List Value), ck.length = m ∧ (∀ y ∈ ck, W y) ∧ eu.length = m * sz ∧ h5 w b o eu ∧ bf w (F0 w) (ck.map ec) eu (fun _ => False) := by
    intro m
    induction m with
    | zero => intro _; exact ⟨[], [], rfl, by simp, by simp, fun j c ao => by simp at ao, by rw [List.map_nil, bf]⟩
    | succ m ih =>
      intro hm
      obtain ⟨ck, eu, bt, b0, dK, de, dI⟩ := ih (by omega)
      obtain ⟨om, y, aN, aZ, aT⟩ := get m (by omega)
      obtain ⟨m1, m2⟩ := My aN
      refine ⟨ck ++ [y], eu ++ om, by simp [bt], ?_, by simp [dK, m1, Nat.add_mul], ?_, ?_⟩
      ·intro z bS
       rcases List.mem_append.1 bS with bS | bS
       ·exact b0 z bS
       ·simp at bS; subst bS; exact aZ
      ·intro j c ao
       by_cases bw : j < eu.length
       ·rw [List.getElem?_append_left bw] at ao
        exact de j c ao
       ·rw [List.getElem?_append_right (by omega)] at ao
        have := m2 _ c ao
        rw [Addr.add_lit, Addr.add_lit] at this
        rw [← this]
        congr 2
        omega
      ·rw [List.map_append]
       refine bf.append dI ?_ (fun _ h => h) (fun _ h => h) (fun _ h => h.elim)
       simp only [List.map_cons, List.map_nil]
       rw [bf]
       exact ⟨om, [], fun _ => False, fun _ => False, by simp, aT, by rw [bf], fun _ h => h.elim, fun _ h => h.elim, fun _ h => h.elim⟩
   obtain ⟨ck, eu, bt, b0, dK, de, dI⟩ := all len (Nat.le_refl _)
   refine ⟨ck, ⟨by rw [bt]; exact Nat.le_trans af ag, b0⟩, ?_⟩
   rw [ay]
   refine .inr ⟨b, o, cap, eu, sz, by simp [bt], qt, by simp [bt, af], ag, ?_, de, dI⟩
   intro d ai
   obtain ⟨y, _, rfl⟩ := List.mem_map.1 ai
   exact hw y
def ends : Nat → List (Nat × Nat) → Option Nat
 | o, [] => some o
 | o, (nJ, sz) :: r => if o = nJ then ends (o + sz) r else none
def Mz (w : World) (F : Nat → Prop) (cs : List Value) : List (I × Nat × Nat) → Prop
 | [] => True
 | (d, off, sz) :: r => ay w F d ((cs.drop off).take sz) (fun _ => False) ∧ Mz w F cs r
theorem BM {F : Nat → Prop} {cs : List Value} : ∀ (l : List (I × Nat × Nat)) (o : Nat), ends o (l.map (·.2)) = some cs.length → Mz w F cs l → bf w F (l.map (·.1)) (cs.drop o) (fun _ => False) := by
 intro l
 induction l with
 | nil => intro o he _; simp [ends] at he; subst he; simp only [List.map_nil]; rw [bf]; simp
 | cons p l ih =>
   intro o he bz
   obtain ⟨d, off, sz⟩ := p
   simp only [List.map_cons, ends] at he
   split at he
   ·rename_i e; subst e
    obtain ⟨f1, f2⟩ := bz
    simp only [List.map_cons]
    rw [bf]
    refine ⟨(cs.drop o).take sz, cs.drop (o + sz), fun _ => False, fun _ => False, ?_, f1, ih _ he f2, fun _ h => h.elim, fun _ h => h.elim, fun _ h => h.elim⟩
    rw [← List.drop_drop, List.take_append_drop]
   ·cases he
theorem oB {n T : Nat} {cs : List Value} {o : Option (DataW H × List MemPlace)} {τ : Type} {e : τ → I} {W : τ → Prop} (aW : k9 enc P w base sp held T e W) (h : DataW.trod enc P w base sp held n T cs = o) (bJ : o.isSome = true) :
  ∃ y, W y ∧ ay w (F0 w) (e y) cs (fun _ => False) := by
 obtain ⟨x, rfl⟩ := Option.isSome_iff_exists.1 bJ
 exact aW _ _ _ h
theorem VD {τ : Type} {T e : TypeId} {ec : τ → I} {W : List τ → Prop} {r : Reach} {jU : Nat} {v : Value} {d : DataW H} {ps : List MemPlace} (a1 : P.underlying T = some (.slice e)) (aW : k9 enc P w base sp held T (fun ck : List τ => .slice (ck.map ec)) W)
  (qq : Value.okWide P w r jU T v) (ai : DataW.Trod enc P w base sp held T v d ps) : ∃ ck, Arg w (.slice (ck.map ec)) v ∧ W ck := by
 obtain ⟨a, len, cap, rfl⟩ := WideShapes.okWide_slice a1 qq
 obtain ⟨fuel, bz⟩ := ai
 obtain ⟨ck, af, ag⟩ := aW _ _ _ bz
 refine ⟨ck, ⟨rfl, rfl, ?_⟩, af⟩
 simpa [Value.cells, cp, iG] using ag
theorem VE {τ : Type} {T : TypeId} {ax : Array Field} {es : τ → List I} {W : τ → Prop} {r : Reach} {jU : Nat} {v : Value} {d : DataW H} {ps : List MemPlace} (a1 : P.underlying T = some (.struct ax)) (aW : k9 enc P w base sp held T (fun y => .agg (es y)) W)
  (qq : Value.okWide P w r jU T v) (ai : DataW.Trod enc P w base sp held T v d ps) : ∃ y, Arg w (.agg (es y)) v ∧ W y := by
 obtain ⟨cs, rfl, _⟩ := WideShapes.okWide_struct a1 qq
 obtain ⟨fuel, bz⟩ := ai
 obtain ⟨y, af, ag⟩ := aW _ _ _ bz
 refine ⟨y, ⟨rfl, ⟨cs, rfl⟩, ?_⟩, af⟩
 simpa [Value.cells, cp, iG] using ag
end
theorem GS : (∀ {α β : Type} (f : α → β) (l : List α), (l.map f).length = l.length) ∧ (∀ {α : Type} (n : Nat) (a : α), (List.replicate n a).length = n) ∧ (∀ {α : Type} (a : α) (l : List α), (a :: l).length = l.length + 1) ∧ (∀ {α : Type}, ([] : List α).length = 0) ∧ (∀ {α : Type} (a b : List α), (a ++ b).length = a.length + b.length) :=
 ⟨fun _ _ => List.length_map _, fun _ _ => List.length_replicate, fun _ _ => rfl, rfl, fun _ _ => List.length_append⟩
theorem MA : (∀ {α β : Type} (f : α → β) (l : List α) (i : Nat), (l.map f)[i]? = l[i]?.map f) ∧ (∀ {α : Type} (a : α) (l : List α), (a :: l)[0]? = some a) ∧ (∀ {α : Type} (a : α) (l : List α) (i : Nat), (a :: l)[i + 1]? = l[i]?) ∧
  (∀ {α : Type} (a b : α) (l : List α), (a :: l).set 0 b = b :: l) ∧ (∀ {α : Type} (a b : α) (l : List α) (n : Nat), (a :: l).set (n + 1) b = a :: l.set n b) ∧ (∀ {α : Type} (a : α) (l : List α) (n : Nat), (a :: l).take (n + 1) = a :: l.take n) ∧ (∀ {α : Type} (l : List α), l.take 0 = []) :=
 ⟨fun _ _ _ => List.getElem?_map, fun _ _ => rfl, fun _ _ _ => rfl, fun _ _ _ => rfl, fun _ _ _ _ => rfl, fun _ _ _ => rfl, fun _ => rfl⟩
theorem MB : (∀ {α β : Type} (f : α → β) (a : α), (some a).map f = some (f a)) ∧ (∀ {α β : Type} (f : α → β), (none : Option α).map f = none) ∧ (∀ {α : Type} (a : α), (some a).isSome = true) := ⟨fun _ _ => rfl, fun _ => rfl, fun _ => rfl⟩
theorem GU : (∀ {α β γ : Type} (g : β → γ) (f : α → β) (l : List α), (l.map f).map g = l.map (g ∘ f)) ∧ (∀ {α : Type} (l : List α), l ++ [] = l) := ⟨fun _ _ _ => List.map_map, fun l => List.append_nil l⟩
theorem kO : (∀ {α β : Type} (f : α → β) (a : α) (l : List α), (a :: l).map f = f a :: l.map f) ∧ (∀ {α β : Type} (f : α → β), ([] : List α).map f = []) ∧ (∀ {α β : Type} (f : α → β) (a b : List α), (a ++ b).map f = a.map f ++ b.map f) ∧
  (∀ {α β : Type} (f : α → β) (l : List α) (i : Nat) (a : α), (l.set i a).map f = (l.map f).set i (f a)) ∧ (∀ {α β : Type} (f : α → β) (l : List α) (i : Nat), (l.take i).map f = (l.map f).take i) ∧ (∀ {α β : Type} (f : α → β) (l : List α) (i : Nat), (l.drop i).map f = (l.map f).drop i) :=
 ⟨fun _ _ _ => rfl, fun _ => rfl, fun _ _ _ => List.map_append, fun _ _ _ _ => List.map_set, fun _ _ _ => List.map_take, fun _ _ _ => List.map_drop⟩
def VF := PLift.up (And.intro @Vg (And.intro @LO (And.intro @Vi (And.intro @Vb (And.intro @LN (And.intro @Vd (And.intro @Mc (And.intro @Md (And.intro @LQ (And.intro @LR (And.intro @LS (And.intro @LU (And.intro @LV (And.intro @LW (And.intro @Me (And.intro @Mf (And.intro @Mg (And.intro @Mh (And.intro @Mi (And.intro @Mj (And.intro @LX (And.intro @LY (And.intro @LZ (And.intro @L0 (And.intro @L1 (And.intro @L2 (And.intro @L3 (And.intro @L4 (And.intro @L5 (And.intro @L6 (And.intro @L_ (And.intro @GL (And.intro @GN (And.intro @GM (And.intro @Mu (And.intro @Mv (And.intro @Mw (And.intro @Mx (And.intro @cS.eq_def (And.intro @loc.eq_def (And.intro @di.eq_def (And.intro @fs.eq_def (And.intro @ex.eq_def (And.intro @mF.eq_def (And.intro @fits.eq_def (And.intro @I.fL.eq_1 (And.intro @I.fL.eq_2 (And.intro @I.fL.eq_3 (And.intro @I.fL.eq_4 (And.intro @I.fL.eq_5 (And.intro @I.fL.eq_6 (And.intro @JG (And.intro @JH (And.intro @Bool.not_true (And.intro @Bool.not_false (And.intro @Bool.true_and (And.intro @Bool.and_true (And.intro @Bool.false_and (And.intro @Bool.true_or (And.intro @Bool.false_or (And.intro @Bool.and_self (And.intro @Bool.false_eq_true (And.intro @Bool.true_eq_false (And.intro @Bool.not_not (And.intro @true_and (And.intro @and_true (And.intro @and_self (And.intro @decide_true (And.intro @decide_false (And.intro @not_false_eq_true (And.intro @not_true_eq_false (And.intro @Mq (And.intro @Nat.zero_add (And.intro @Nat.add_zero (And.intro @Nat.mul_one (And.intro @Nat.lt_add_one (And.intro @Nat.zero_lt_succ (And.intro @dj.eq_def (And.intro @g_.eq_def (And.intro @flat.eq_1 (And.intro @flat.eq_2 (And.intro @flat.eq_3 (And.intro @flat.eq_4 (And.intro @flat.eq_5 (And.intro @flat.eq_6 (And.intro @flat.eq_7 (And.intro @q1.eq_1 (And.intro @q1.eq_2 (And.intro @gr.eq_def (And.intro @GS (And.intro @MA (And.intro @MB (@GU)))))))))))))))))))))))))))))))))))))))))))))))))))))))))))))))))))))))))))))))))))))))))))))
def VG := PLift.up (And.intro @Vh (And.intro @LO (And.intro @Vj (And.intro @Vc (And.intro @LN (And.intro @Ve (And.intro @Mc (And.intro @Md (And.intro @LQ (And.intro @LR (And.intro @LS (And.intro @LU (And.intro @LV (And.intro @LW (And.intro @Me (And.intro @Mf (And.intro @Mg (And.intro @Mh (And.intro @Mi (And.intro @Mj (And.intro @LX (And.intro @LY (And.intro @LZ (And.intro @L0 (And.intro @L1 (And.intro @L2 (And.intro @L3 (And.intro @L4 (And.intro @L5 (And.intro @L6 (And.intro @L_ (And.intro @GL (And.intro @GN (And.intro @GM (And.intro @Mu (And.intro @Mv (And.intro @Mw (And.intro @Mx (And.intro @cS.eq_def (And.intro @loc.eq_def (And.intro @di.eq_def (And.intro @fs.eq_def (And.intro @ex.eq_def (And.intro @mF.eq_def (And.intro @fits.eq_def (And.intro @I.fL.eq_1 (And.intro @I.fL.eq_2 (And.intro @I.fL.eq_3 (And.intro @I.fL.eq_4 (And.intro @I.fL.eq_5 (And.intro @I.fL.eq_6 (And.intro @JG (And.intro @JH (And.intro @Bool.not_true (And.intro @Bool.not_false (And.intro @Bool.true_and (And.intro @Bool.and_true (And.intro @Bool.false_and (And.intro @Bool.true_or (And.intro @Bool.false_or (And.intro @Bool.and_self (And.intro @Bool.false_eq_true (And.intro @Bool.true_eq_false (And.intro @Bool.not_not (And.intro @true_and (And.intro @and_true (And.intro @and_self (And.intro @decide_true (And.intro @decide_false (And.intro @not_false_eq_true (And.intro @not_true_eq_false (And.intro @Mq (And.intro @Nat.zero_add (And.intro @Nat.add_zero (And.intro @Nat.mul_one (And.intro @Nat.lt_add_one (And.intro @Nat.zero_lt_succ (And.intro @dj.eq_def (And.intro @g_.eq_def (And.intro @flat.eq_1 (And.intro @flat.eq_2 (And.intro @flat.eq_3 (And.intro @flat.eq_4 (And.intro @flat.eq_5 (And.intro @flat.eq_6 (And.intro @flat.eq_7 (And.intro @q1.eq_1 (And.intro @q1.eq_2 (And.intro @gr.eq_def (And.intro @GS (And.intro @MA (And.intro @MB (@GU)))))))))))))))))))))))))))))))))))))))))))))))))))))))))))))))))))))))))))))))))))))))))))))
def VH := PLift.up (And.intro @GL (And.intro @GN (And.intro @GM (And.intro @gu.eq_1 (And.intro @Nat.zero_add (And.intro @Bool.not_true (And.intro @Bool.not_false (And.intro @Bool.true_and (And.intro @Bool.and_true (And.intro @Bool.false_and (And.intro @Bool.true_or (And.intro @Bool.false_or (And.intro @Bool.and_self (And.intro @Bool.false_eq_true (And.intro @Bool.true_eq_false (And.intro @Bool.not_not (And.intro @GS (And.intro @GU (@kO)))))))))))))))))))
end Go.cY
