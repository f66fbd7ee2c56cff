/- Part of a proof that a law returns true for every input. No condition. -/
import Derived.Test.YtgpmnlkgmadglaaGreatDoorFwG
import Derived.ChangeArms
import Derived.WideShapes
namespace Go.c0
section
variable {H : Type} {enc : TypeId × Value → H} {P : Program} {w : World} {base : Nat} {sp : Nat → Bool} {held : Bool}
def iU {τ : Type} (enc : TypeId × Value → H) (P : Program) (w : World) (base : Nat) (sp : Nat → Bool) (held : Bool) (T : TypeId) (e : τ → I) (W : τ → Prop) : Prop :=
 ∀ (fuel : Nat) (cs : List Value) (x : DataW H × List MemPlace), DataW.trod enc P w base sp held fuel T cs = some x → ∃ y, W y ∧ au w (F0 w) (e y) cs (fun _ => False)
theorem Sw {T : TypeId} {k : IntKind} (bb : P.underlying T = some (.int k)) : iU enc P w base sp held T (fun n => .int k n) (fun n => (Lit.int k n).wf = true) := by
 intro fuel cs x h
 obtain ⟨n, rfl, _, hw⟩ := DataW.trod_int bb h
 exact ⟨n, hw, by rw [au]⟩
theorem Sy {T : TypeId} (bb : P.underlying T = some (.int .i64)) : iU enc P w base sp held T (fun n => .int .i64 n) (fun n => -9223372036854775808 ≤ n ∧ n ≤ 9223372036854775807) := by
 intro fuel cs x h
 obtain ⟨n, hw, aV⟩ := Sw bb fuel cs x h
 exact ⟨n, wf_i64 hw, aV⟩
theorem Sz {T : TypeId} (bb : P.underlying T = some .string) : iU enc P w base sp held T (fun s => .str s) (fun s => s.length ≤ 9223372036854775807) := by
 intro fuel cs x h
 obtain ⟨s, rfl, _, ad⟩ := DataW.trod_string bb h
 exact ⟨s.data.toList, ad, by rw [au]⟩
theorem SA {α β : Type} {f : α → Option β} : ∀ {l : List α} {r : List β}, l.mapM f = some r → r.length = l.length ∧ ∀ (i : Nat) (a : α), l[i]? = some a → f a = r[i]? := by
 intro l
 induction l with
 | nil => intro r h; simp at h; subst h; exact ⟨rfl, fun i a h => by simp at h⟩
 | cons a l ih =>
   intro r h
   simp only [List.mapM_cons, Option.bind_eq_bind, Option.bind_eq_some_iff] at h
   obtain ⟨b, ab, hN, aV, he⟩ := h
   have he : b :: hN = r := by simpa using he
   subst he
   obtain ⟨ag, ah⟩ := ih aV
   refine ⟨by simp [ag], fun i x aq => ?_⟩
   cases i with
   | zero => simp at aq; subst aq; simpa using ab
   | succ i => simpa using ah i x (by simpa using aq)
theorem JW {a : Addr} {n : Nat} {cs : List Value} (h : w.cells? base a n = some cs) : cs.length = n ∧ ∀ j c, cs[j]? = some c → w.cell? (a.add j) = some c := by
 unfold World.cells? at h
 split at h
 ·obtain ⟨ag, ah⟩ := SA h
  refine ⟨by simpa using ag, fun j c aw => ?_⟩
  have b3 : j < n := by
   have := (List.getElem?_eq_some_iff.1 aw).1
   rw [ag] at this; simpa using this
  rw [ah j j (by simp [b3]), aw]
 ·cases h
theorem SB {a : Addr} {c : Value} (h : w.cell? a = some c) : a.spot = none ∧ a.block < w.heap.size := by
 unfold World.cell? at h
 split at h
 ·rename_i cs e fr ab
  split at h
  ·cases h
  ·rename_i ad
   refine ⟨by simpa using ad, ?_⟩
   exact (Array.getElem?_eq_some_iff.1 ab).1
 ·cases h
theorem pQ {τ : Type} {T e : TypeId} {sz : Nat} {ec : τ → I} {W : τ → Prop} (bb : P.underlying T = some (.slice e)) (eH : P.cellsOf e = sz) (awQ : 0 < sz) (hw : ∀ y, (ec y).wd = sz) (h : iU enc P w base sp held e ec W) :
  iU enc P w base sp held T (fun cn : List τ => .slice (cn.map ec)) (fun cn : List τ => cn.length ≤ 9223372036854775807 ∧ ∀ y ∈ cn, W y) := by
 intro fuel cs x aq
 rcases DataW.trod_slice bb aq with ⟨rfl, _⟩ | ⟨a, len, cap, elems, rest, n, _, rfl, _, _, ag, ah, aI, a_, _⟩
 ·exact ⟨[], ⟨by simp, by simp⟩, by simp only [List.map_nil]; rw [au]; exact .inl ⟨rfl, none, 0, rfl, Nat.zero_le _, fun _ => rfl⟩⟩
 ·by_cases bc : len = 0
  ·subst bc
   exact ⟨[], ⟨by simp, by simp⟩, by simp only [List.map_nil]; rw [au]; exact .inl ⟨rfl, some a, cap, rfl, ah, fun h => by cases h⟩⟩
  ·rw [eH] at a_
   have get : ∀ i, i < len → ∃ nm y, w.cells? base (a.add (i * sz)) sz = some nm ∧ W y ∧ au w (F0 w) (ec y) nm (fun _ => False) := by
    intro i al
    have := a_ i al
    rw [List.getElem?_eq_getElem (by omega), Option.bind_eq_some_iff] at this
    obtain ⟨nm, aS, aX⟩ := this
    obtain ⟨y, e1, hD⟩ := h _ _ _ aX
    exact ⟨nm, y, aS, e1, hD⟩
   obtain ⟨SC, fs, g1, _, g2⟩ := get 0 (by omega)
   obtain ⟨awR, gQ⟩ := JW g1
   have Ee : ∃ c, SC[0]? = some c := ⟨_, List.getElem?_eq_getElem (by omega)⟩
   obtain ⟨my, Ee⟩ := Ee
   have JX := SB (gQ 0 my Ee)
   have b_ : (a.add (0 * sz)).add 0 = a := by simp [Addr.add]
   rw [b_] at JX
   obtain ⟨b, o, spot⟩ := a
   obtain ⟨pI, mJ⟩ := JX
   simp only at pI mJ; subst pI
   have all : ∀ m, m ≤ len → ∃ (cn : List τ) (ew : List Value), cn.length = m ∧ (∀ y ∈ cn, W y) ∧ ew.length = m * sz ∧ h0 w b o ew ∧ a8 w (F0 w) (cn.map ec) ew (fun _ => False) := by
    intro m
    induction m with
    | zero => intro _; exact ⟨[], [], rfl, by simp, by simp, fun j c aw => by simp at aw, by rw [List.map_nil, a8]⟩
    | succ m ih =>
      intro hm
      obtain ⟨cn, ew, bU, cb, e5, dX, fB⟩ := ih (by omega)
      obtain ⟨nm, y, aS, aX, aQ⟩ := get m (by omega)
      obtain ⟨m1, m2⟩ := JW aS
      refine ⟨cn ++ [y], ew ++ nm, by simp [bU], ?_, by simp [e5, m1, Nat.add_mul], ?_, ?_⟩
      ·intro z b6
       rcases List.mem_append.1 b6 with b6 | b6
       ·exact cb z b6
       ·simp at b6; subst b6; exact aX
      ·intro j c aw
       by_cases b3 : j < ew.length
       ·rw [List.getElem?_append_left b3] at aw
        exact dX j c aw
       ·rw [List.getElem?_append_right (by omega)] at aw
        have := m2 _ c aw
        rw [Addr.add_lit, Addr.add_lit] at this
        rw [← this]
        congr 2
        omega
      ·rw [List.map_append]
       refine a8.append fB ?_ (fun _ h => h) (fun _ h => h) (fun _ h => h.elim)
       simp only [List.map_cons, List.map_nil]
       rw [a8]
       exact ⟨nm, [], fun _ => False, fun _ => False, by simp, aQ, by rw [a8], fun _ h => h.elim, fun _ h => h.elim, fun _ h => h.elim⟩
   obtain ⟨cn, ew, bU, cb, e5, dX, fB⟩ := all len (Nat.le_refl _)
   refine ⟨cn, ⟨by rw [bU]; exact Nat.le_trans ag ah, cb⟩, ?_⟩
   rw [au]
   refine .inr ⟨b, o, cap, ew, sz, by simp [bU], mJ, by simp [bU, ag], ah, ?_, dX, fB⟩
   intro d ai
   obtain ⟨y, _, rfl⟩ := List.mem_map.1 ai
   exact hw y
def ends : Nat → List (Nat × Nat) → Option Nat
 | o, [] => some o
 | o, (mE, sz) :: r => if o = mE then ends (o + sz) r else none
def JY (w : World) (F : Nat → Prop) (cs : List Value) : List (I × Nat × Nat) → Prop
 | [] => True
 | (d, off, sz) :: r => au w F d ((cs.drop off).take sz) (fun _ => False) ∧ JY w F cs r
theorem r5 {F : Nat → Prop} {cs : List Value} : ∀ (l : List (I × Nat × Nat)) (o : Nat), ends o (l.map (·.2)) = some cs.length → JY w F cs l → a8 w F (l.map (·.1)) (cs.drop o) (fun _ => False) := by
 intro l
 induction l with
 | nil => intro o he _; simp [ends] at he; subst he; simp only [List.map_nil]; rw [a8]; simp
 | cons p l ih =>
   intro o he br
   obtain ⟨d, off, sz⟩ := p
   simp only [List.map_cons, ends] at he
   split at he
   ·rename_i e; subst e
    obtain ⟨f1, f2⟩ := br
    simp only [List.map_cons]
    rw [a8]
    refine ⟨(cs.drop o).take sz, cs.drop (o + sz), fun _ => False, fun _ => False, ?_, f1, ih _ he f2, fun _ h => h.elim, fun _ h => h.elim, fun _ h => h.elim⟩
    rw [← List.drop_drop, List.take_append_drop]
   ·cases he
theorem jM {n T : Nat} {cs : List Value} {o : Option (DataW H × List MemPlace)} {τ : Type} {e : τ → I} {W : τ → Prop} (aV : iU enc P w base sp held T e W) (h : DataW.trod enc P w base sp held n T cs = o) (cg : o.isSome = true) :
  ∃ y, W y ∧ au w (F0 w) (e y) cs (fun _ => False) := by
 obtain ⟨x, rfl⟩ := Option.isSome_iff_exists.1 cg
 exact aV _ _ _ h
theorem SD {τ : Type} {T e : TypeId} {ec : τ → I} {W : List τ → Prop} {r : Reach} {kc : Nat} {v : Value} {d : DataW H} {ps : List MemPlace} (bb : P.underlying T = some (.slice e)) (aV : iU enc P w base sp held T (fun cn : List τ => .slice (cn.map ec)) W)
  (o8 : Value.okWide P w r kc T v) (ai : DataW.Trod enc P w base sp held T v d ps) : ∃ cn, Arg w (.slice (cn.map ec)) v ∧ W cn := by
 obtain ⟨a, len, cap, rfl⟩ := WideShapes.okWide_slice bb o8
 obtain ⟨fuel, br⟩ := ai
 obtain ⟨cn, ag, ah⟩ := aV _ _ _ br
 refine ⟨cn, ⟨rfl, rfl, ?_⟩, ag⟩
 simpa [Value.cells, cr, iy] using ah
theorem SE {τ : Type} {T : TypeId} {ax : Array Field} {es : τ → List I} {W : τ → Prop} {r : Reach} {kc : Nat} {v : Value} {d : DataW H} {ps : List MemPlace} (bb : P.underlying T = some (.struct ax)) (aV : iU enc P w base sp held T (fun y => .agg (es y)) W)
  (o8 : Value.okWide P w r kc T v) (ai : DataW.Trod enc P w base sp held T v d ps) : ∃ y, Arg w (.agg (es y)) v ∧ W y := by
 obtain ⟨cs, rfl, _⟩ := WideShapes.okWide_struct bb o8
 obtain ⟨fuel, br⟩ := ai
 obtain ⟨y, ag, ah⟩ := aV _ _ _ br
 refine ⟨y, ⟨rfl, ⟨cs, rfl⟩, ?_⟩, ag⟩
 simpa [Value.cells, cr, iy] using ah
end
theorem Ef : (∀ {α β : Type} (f : α → β) (l : List α), (l.map f).length = l.length) ∧ (∀ {α : Type} (n : Nat) (a : α), (List.replicate n a).length = n) ∧ (∀ {α : Type} (a : α) (l : List α), (a :: l).length = l.length + 1) ∧ (∀ {α : Type}, ([] : List α).length = 0) ∧ (∀ {α : Type} (a b : List α), (a ++ b).length = a.length + b.length) :=
 ⟨fun _ _ => List.length_map _, fun _ _ => List.length_replicate, fun _ _ => rfl, rfl, fun _ _ => List.length_append⟩
theorem JZ : (∀ {α β : Type} (f : α → β) (l : List α) (i : Nat), (l.map f)[i]? = l[i]?.map f) ∧ (∀ {α : Type} (a : α) (l : List α), (a :: l)[0]? = some a) ∧ (∀ {α : Type} (a : α) (l : List α) (i : Nat), (a :: l)[i + 1]? = l[i]?) ∧
  (∀ {α : Type} (a b : α) (l : List α), (a :: l).set 0 b = b :: l) ∧ (∀ {α : Type} (a b : α) (l : List α) (n : Nat), (a :: l).set (n + 1) b = a :: l.set n b) ∧ (∀ {α : Type} (a : α) (l : List α) (n : Nat), (a :: l).take (n + 1) = a :: l.take n) ∧ (∀ {α : Type} (l : List α), l.take 0 = []) :=
 ⟨fun _ _ _ => List.getElem?_map, fun _ _ => rfl, fun _ _ _ => rfl, fun _ _ _ => rfl, fun _ _ _ _ => rfl, fun _ _ _ => rfl, fun _ => rfl⟩
theorem J0 : (∀ {α β : Type} (f : α → β) (a : α), (some a).map f = some (f a)) ∧ (∀ {α β : Type} (f : α → β), (none : Option α).map f = none) ∧ (∀ {α : Type} (a : α), (some a).isSome = true) := ⟨fun _ _ => rfl, fun _ => rfl, fun _ => rfl⟩
theorem Eg : (∀ {α β γ : Type} (g : β → γ) (f : α → β) (l : List α), (l.map f).map g = l.map (g ∘ f)) ∧ (∀ {α : Type} (l : List α), l ++ [] = l) := ⟨fun _ _ _ => List.map_map, fun l => List.append_nil l⟩
theorem Eh : (∀ {α β : Type} (f : α → β) (a : α) (l : List α), (a :: l).map f = f a :: l.map f) ∧ (∀ {α β : Type} (f : α → β), ([] : List α).map f = []) ∧ (∀ {α β : Type} (f : α → β) (a b : List α), (a ++ b).map f = a.map f ++ b.map f) ∧
  (∀ {α β : Type} (f : α → β) (l : List α) (i : Nat) (a : α), (l.set i a).map f = (l.map f).set i (f a)) ∧ (∀ {α β : Type} (f : α → β) (l : List α) (i : Nat), (l.take i).map f = (l.map f).take i) ∧ (∀ {α β : Type} (f : α → β) (l : List α) (i : Nat), (l.drop i).map f = (l.map f).drop i) :=
 ⟨fun _ _ _ => rfl, fun _ => rfl, fun _ _ _ => List.map_append, fun _ _ _ _ => List.map_set, fun _ _ _ => List.map_take, fun _ _ _ => List.map_drop⟩
def SF := PLift.up (And.intro @Se (And.intro @I9 (And.intro @Sg (And.intro @R9 (And.intro @I8 (And.intro @Sa (And.intro @Jv (And.intro @Jw (And.intro @I_ (And.intro @Ja (And.intro @Jb (And.intro @Jc (And.intro @Jd (And.intro @Je (And.intro @Jx (And.intro @Jy (And.intro @Jz (And.intro @JA (And.intro @JB (And.intro @JC (And.intro @Jf (And.intro @Jg (And.intro @Jh (And.intro @Ji (And.intro @Jj (And.intro @Jk (And.intro @Jl (And.intro @Jm (And.intro @Jn (And.intro @Jo (And.intro @Js (And.intro @Ea (And.intro @Ec (And.intro @Eb (And.intro @JS (And.intro @JT (And.intro @JU (And.intro @JV (And.intro @b4.eq_def (And.intro @loc.eq_def (And.intro @cB.eq_def (And.intro @fC.eq_def (And.intro @ex.eq_def (And.intro @lJ.eq_def (And.intro @fits.eq_def (And.intro @I.ft.eq_1 (And.intro @I.ft.eq_2 (And.intro @I.ft.eq_3 (And.intro @I.ft.eq_4 (And.intro @I.ft.eq_5 (And.intro @I.ft.eq_6 (And.intro @GM (And.intro @GN (And.intro @Bool.not_true (And.intro @Bool.not_false (And.intro @Bool.true_and (And.intro @Bool.and_true (And.intro @Bool.false_and (And.intro @Bool.true_or (And.intro @Bool.false_or (And.intro @Bool.and_self (And.intro @Bool.false_eq_true (And.intro @Bool.true_eq_false (And.intro @Bool.not_not (And.intro @true_and (And.intro @and_true (And.intro @and_self (And.intro @decide_true (And.intro @decide_false (And.intro @not_false_eq_true (And.intro @not_true_eq_false (And.intro @JO (And.intro @Nat.zero_add (And.intro @Nat.add_zero (And.intro @Nat.mul_one (And.intro @Nat.lt_add_one (And.intro @Nat.zero_lt_succ (And.intro @cU.eq_def (And.intro @gL.eq_def (And.intro @flat.eq_1 (And.intro @flat.eq_2 (And.intro @flat.eq_3 (And.intro @flat.eq_4 (And.intro @flat.eq_5 (And.intro @flat.eq_6 (And.intro @flat.eq_7 (And.intro @px.eq_1 (And.intro @px.eq_2 (And.intro @fU.eq_def (And.intro @Ef (And.intro @JZ (And.intro @J0 (@Eg)))))))))))))))))))))))))))))))))))))))))))))))))))))))))))))))))))))))))))))))))))))))))))))
def SG := PLift.up (And.intro @Sf (And.intro @I9 (And.intro @Sh (And.intro @R_ (And.intro @I8 (And.intro @Sb (And.intro @Jv (And.intro @Jw (And.intro @I_ (And.intro @Ja (And.intro @Jb (And.intro @Jc (And.intro @Jd (And.intro @Je (And.intro @Jx (And.intro @Jy (And.intro @Jz (And.intro @JA (And.intro @JB (And.intro @JC (And.intro @Jf (And.intro @Jg (And.intro @Jh (And.intro @Ji (And.intro @Jj (And.intro @Jk (And.intro @Jl (And.intro @Jm (And.intro @Jn (And.intro @Jo (And.intro @Js (And.intro @Ea (And.intro @Ec (And.intro @Eb (And.intro @JS (And.intro @JT (And.intro @JU (And.intro @JV (And.intro @b4.eq_def (And.intro @loc.eq_def (And.intro @cB.eq_def (And.intro @fC.eq_def (And.intro @ex.eq_def (And.intro @lJ.eq_def (And.intro @fits.eq_def (And.intro @I.ft.eq_1 (And.intro @I.ft.eq_2 (And.intro @I.ft.eq_3 (And.intro @I.ft.eq_4 (And.intro @I.ft.eq_5 (And.intro @I.ft.eq_6 (And.intro @GM (And.intro @GN (And.intro @Bool.not_true (And.intro @Bool.not_false (And.intro @Bool.true_and (And.intro @Bool.and_true (And.intro @Bool.false_and (And.intro @Bool.true_or (And.intro @Bool.false_or (And.intro @Bool.and_self (And.intro @Bool.false_eq_true (And.intro @Bool.true_eq_false (And.intro @Bool.not_not (And.intro @true_and (And.intro @and_true (And.intro @and_self (And.intro @decide_true (And.intro @decide_false (And.intro @not_false_eq_true (And.intro @not_true_eq_false (And.intro @JO (And.intro @Nat.zero_add (And.intro @Nat.add_zero (And.intro @Nat.mul_one (And.intro @Nat.lt_add_one (And.intro @Nat.zero_lt_succ (And.intro @cU.eq_def (And.intro @gL.eq_def (And.intro @flat.eq_1 (And.intro @flat.eq_2 (And.intro @flat.eq_3 (And.intro @flat.eq_4 (And.intro @flat.eq_5 (And.intro @flat.eq_6 (And.intro @flat.eq_7 (And.intro @px.eq_1 (And.intro @px.eq_2 (And.intro @fU.eq_def (And.intro @Ef (And.intro @JZ (And.intro @J0 (@Eg)))))))))))))))))))))))))))))))))))))))))))))))))))))))))))))))))))))))))))))))))))))))))))))
def SH := PLift.up (And.intro @Ea (And.intro @Ec (And.intro @Eb (And.intro @gl.eq_1 (And.intro @Nat.zero_add (And.intro @Bool.not_true (And.intro @Bool.not_false (And.intro @Bool.true_and (And.intro @Bool.and_true (And.intro @Bool.false_and (And.intro @Bool.true_or (And.intro @Bool.false_or (And.intro @Bool.and_self (And.intro @Bool.false_eq_true (And.intro @Bool.true_eq_false (And.intro @Bool.not_not (And.intro @Ef (And.intro @Eg (@Eh)))))))))))))))))))
end Go.c0
