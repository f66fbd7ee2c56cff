/- Part of a proof that a law returns true for every input. No condition. -/
import Derived.Test.YtbemmmimelklkaaGreatFwG
import Derived.ChangeArms
import Derived.WideShapes
namespace Go.dg
section
variable {H : Type} {enc : TypeId × Value → H} {P : Program} {w : World} {base : Nat} {sp : Nat → Bool} {held : Bool}
def je {τ : Type} (enc : TypeId × Value → H) (P : Program) (w : World) (base : Nat) (sp : Nat → Bool) (held : Bool) (T : TypeId) (e : τ → I) (W : τ → Prop) : Prop :=
 ∀ (fuel : Nat) (cs : List Value) (x : DataW H × List MemPlace), DataW.trod enc P w base sp held fuel T cs = some x → ∃ y, W y ∧ aC w (F0 w) (e y) cs (fun _ => False)
theorem Rc {T : TypeId} {k : IntKind} (bh : P.underlying T = some (.int k)) : je enc P w base sp held T (fun n => .int k n) (fun n => (Lit.int k n).wf = true) := by
 intro fuel cs x h
 obtain ⟨n, rfl, _, hw⟩ := DataW.trod_int bh h
 exact ⟨n, hw, by rw [aC]⟩
theorem Rd {T : TypeId} (bh : P.underlying T = some (.int .i64)) : je enc P w base sp held T (fun n => .int .i64 n) (fun n => -9223372036854775808 ≤ n ∧ n ≤ 9223372036854775807) := by
 intro fuel cs x h
 obtain ⟨n, hw, a7⟩ := Rc bh fuel cs x h
 exact ⟨n, wf_i64 hw, a7⟩
theorem Re {T : TypeId} (bh : P.underlying T = some .string) : je enc P w base sp held T (fun s => .str s) (fun s => s.length ≤ 9223372036854775807) := by
 intro fuel cs x h
 obtain ⟨s, rfl, _, ah⟩ := DataW.trod_string bh h
 exact ⟨s.data.toList, ah, by rw [aC]⟩
theorem Rf {α β : Type} {f : α → Option β} : ∀ {l : List α} {r : List β}, l.mapM f = some r → r.length = l.length ∧ ∀ (i : Nat) (a : α), l[i]? = some a → f a = r[i]? := by
 intro l
 induction l with
 | nil => intro r h; simp at h; subst h; exact ⟨rfl, fun i a h => by simp at h⟩
 | cons a l ih =>
   intro r h
   simp only [List.mapM_cons, Option.bind_eq_bind, Option.bind_eq_some_iff] at h
   obtain ⟨b, ae, iz, a7, he⟩ := h
   have he : b :: iz = r := by simpa using he
   subst he
   obtain ⟨ai, aj⟩ := ih a7
   refine ⟨by simp [ai], fun i x aA => ?_⟩
   cases i with
   | zero => simp at aA; subst aA; simpa using ae
   | succ i => simpa using aj i x (by simpa using aA)
theorem Jl {a : Addr} {n : Nat} {cs : List Value} (h : w.cells? base a n = some cs) : cs.length = n ∧ ∀ j c, cs[j]? = some c → w.cell? (a.add j) = some c := by
 unfold World.cells? at h
 split at h
 ·obtain ⟨ai, aj⟩ := Rf h
  refine ⟨by simpa using ai, fun j c ay => ?_⟩
  have cx : j < n := by
   have := (List.getElem?_eq_some_iff.1 ay).1
   rw [ai] at this; simpa using this
  rw [aj j j (by simp [cx]), ay]
 ·cases h
theorem Rg {a : Addr} {c : Value} (h : w.cell? a = some c) : a.spot = none ∧ a.block < w.heap.size := by
 unfold World.cell? at h
 split at h
 ·rename_i cs e fr ae
  split at h
  ·cases h
  ·rename_i ah
   refine ⟨by simpa using ah, ?_⟩
   exact (Array.getElem?_eq_some_iff.1 ae).1
 ·cases h
theorem qC {τ : Type} {T e : TypeId} {sz : Nat} {ec : τ → I} {W : τ → Prop} (bh : P.underlying T = some (.slice e)) (e3 : P.cellsOf e = sz) (auY : 0 < sz) (hw : ∀ y, (ec y).wd = sz) (h : je enc P w base sp held e ec W) :
  je enc P w base sp held T (fun c4 : List τ => .slice (c4.map ec)) (fun c4 : List τ => c4.length ≤ 9223372036854775807 ∧ ∀ y ∈ c4, W y) := by
 intro fuel cs x aA
 rcases DataW.trod_slice bh aA with ⟨rfl, _⟩ | ⟨a, len, cap, elems, rest, n, _, rfl, _, _, ai, aj, aP, bb, _⟩
 ·exact ⟨[], ⟨by simp, by simp⟩, by simp only [List.map_nil]; rw [aC]; exact .inl ⟨rfl, none, 0, rfl, Nat.zero_le _, fun _ => rfl⟩⟩
 ·by_cases ba : len = 0
  ·subst ba
   exact ⟨[], ⟨by simp, by simp⟩, by simp only [List.map_nil]; rw [aC]; exact .inl ⟨rfl, some a, cap, rfl, aj, fun h => by cases h⟩⟩
  ·rw [e3] at bb
   have get : ∀ i, i < len → ∃ nb y, w.cells? base (a.add (i * sz)) sz = some nb ∧ W y ∧ aC w (F0 w) (ec y) nb (fun _ => False) := by
    intro i ar
    have := bb i ar
    rw [List.getElem?_eq_getElem (by omega), Option.bind_eq_some_iff] at this
    obtain ⟨nb, a4, a_⟩ := this
    obtain ⟨y, fp, g6⟩ := h _ _ _ a_
    exact ⟨nb, y, a4, fp, g6⟩
   obtain ⟨Rh, fS, bc, _, bG⟩ := get 0 (by omega)
   obtain ⟨auZ, hR⟩ := Jl bc
   have Eu : ∃ c, Rh[0]? = some c := ⟨_, List.getElem?_eq_getElem (by omega)⟩
   obtain ⟨mz, Eu⟩ := Eu
   have Jm := Rg (hR 0 mz Eu)
   have cw : (a.add (0 * sz)).add 0 = a := by simp [Addr.add]
   rw [cw] at Jm
   obtain ⟨b, o, spot⟩ := a
   obtain ⟨pD, o0⟩ := Jm
   simp only at pD o0; subst pD
   have all : ∀ m, m ≤ len → ∃ (c4 : List τ) (eK : List Value), c4.length = m ∧ (∀ y ∈ c4, W y) ∧ eK.length = m * sz ∧ hN w b o eK ∧ bl w (F0 w) (c4.map ec) eK (fun _ => False) := by
    intro m
    induction m with
    | zero => intro _; exact ⟨[], [], rfl, by simp, by simp, fun j c ay => by simp at ay, by rw [List.map_nil, bl]⟩
    | succ m ih =>
      intro hm
      obtain ⟨c4, eK, b8, cu, fB, eP, gr⟩ := ih (by omega)
      obtain ⟨nb, y, a4, a_, a3⟩ := get m (by omega)
      obtain ⟨fC, gI⟩ := Jl a4
      refine ⟨c4 ++ [y], eK ++ nb, by simp [b8], ?_, by simp [fB, fC, Nat.add_mul], ?_, ?_⟩
      ·intro z ca
       rcases List.mem_append.1 ca with ca | ca
       ·exact cu z ca
       ·simp at ca; subst ca; exact a_
      ·intro j c ay
       by_cases cx : j < eK.length
       ·rw [List.getElem?_append_left cx] at ay
        exact eP j c ay
       ·rw [List.getElem?_append_right (by omega)] at ay
        have := gI _ c ay
        rw [Addr.add_lit, Addr.add_lit] at this
        rw [← this]
        congr 2
        omega
      ·rw [List.map_append]
       refine bl.append gr ?_ (fun _ h => h) (fun _ h => h) (fun _ h => h.elim)
       simp only [List.map_cons, List.map_nil]
       rw [bl]
       exact ⟨nb, [], fun _ => False, fun _ => False, by simp, a3, by rw [bl], fun _ h => h.elim, fun _ h => h.elim, fun _ h => h.elim⟩
   obtain ⟨c4, eK, b8, cu, fB, eP, gr⟩ := all len (Nat.le_refl _)
   refine ⟨c4, ⟨by rw [b8]; exact Nat.le_trans ai aj, cu⟩, ?_⟩
   rw [aC]
   refine .inr ⟨b, o, cap, eK, sz, by simp [b8], o0, by simp [b8, ai], aj, ?_, eP, gr⟩
   intro d al
   obtain ⟨y, _, rfl⟩ := List.mem_map.1 al
   exact hw y
def ends : Nat → List (Nat × Nat) → Option Nat
 | o, [] => some o
 | o, (mE, sz) :: r => if o = mE then ends (o + sz) r else none
def Jn (w : World) (F : Nat → Prop) (cs : List Value) : List (I × Nat × Nat) → Prop
 | [] => True
 | (d, off, sz) :: r => aC w F d ((cs.drop off).take sz) (fun _ => False) ∧ Jn w F cs r
theorem ux {F : Nat → Prop} {cs : List Value} : ∀ (l : List (I × Nat × Nat)) (o : Nat), ends o (l.map (·.2)) = some cs.length → Jn w F cs l → bl w F (l.map (·.1)) (cs.drop o) (fun _ => False) := by
 intro l
 induction l with
 | nil => intro o he _; simp [ends] at he; subst he; simp only [List.map_nil]; rw [bl]; simp
 | cons p l ih =>
   intro o he bF
   obtain ⟨d, off, sz⟩ := p
   simp only [List.map_cons, ends] at he
   split at he
   ·rename_i e; subst e
    obtain ⟨f1, f2⟩ := bF
    simp only [List.map_cons]
    rw [bl]
    refine ⟨(cs.drop o).take sz, cs.drop (o + sz), fun _ => False, fun _ => False, ?_, f1, ih _ he f2, fun _ h => h.elim, fun _ h => h.elim, fun _ h => h.elim⟩
    rw [← List.drop_drop, List.take_append_drop]
   ·cases he
theorem kk {n T : Nat} {cs : List Value} {o : Option (DataW H × List MemPlace)} {τ : Type} {e : τ → I} {W : τ → Prop} (a7 : je enc P w base sp held T e W) (h : DataW.trod enc P w base sp held n T cs = o) (cm : o.isSome = true) :
  ∃ y, W y ∧ aC w (F0 w) (e y) cs (fun _ => False) := by
 obtain ⟨x, rfl⟩ := Option.isSome_iff_exists.1 cm
 exact a7 _ _ _ h
theorem Ri {τ : Type} {T : TypeId} {aB : Array Field} {es : τ → List I} {W : τ → Prop} {r : Reach} {kA : Nat} {v : Value} {d : DataW H} {ps : List MemPlace} (bh : P.underlying T = some (.struct aB)) (a7 : je enc P w base sp held T (fun y => .agg (es y)) W)
  (rO : Value.okWide P w r kA T v) (al : DataW.Trod enc P w base sp held T v d ps) : ∃ y, Arg w (.agg (es y)) v ∧ W y := by
 obtain ⟨cs, rfl, _⟩ := WideShapes.okWide_struct bh rO
 obtain ⟨fuel, bF⟩ := al
 obtain ⟨y, ai, aj⟩ := a7 _ _ _ bF
 refine ⟨y, ⟨rfl, ⟨cs, rfl⟩, ?_⟩, ai⟩
 simpa [Value.cells, cV, iu] using aj
end
theorem Ev : (∀ {α β : Type} (f : α → β) (l : List α), (l.map f).length = l.length) ∧ (∀ {α : Type} (n : Nat) (a : α), (List.replicate n a).length = n) ∧ (∀ {α : Type} (a : α) (l : List α), (a :: l).length = l.length + 1) ∧ (∀ {α : Type}, ([] : List α).length = 0) ∧ (∀ {α : Type} (a b : List α), (a ++ b).length = a.length + b.length) :=
 ⟨fun _ _ => List.length_map _, fun _ _ => List.length_replicate, fun _ _ => rfl, rfl, fun _ _ => List.length_append⟩
theorem Jo : (∀ {α β : Type} (f : α → β) (l : List α) (i : Nat), (l.map f)[i]? = l[i]?.map f) ∧ (∀ {α : Type} (a : α) (l : List α), (a :: l)[0]? = some a) ∧ (∀ {α : Type} (a : α) (l : List α) (i : Nat), (a :: l)[i + 1]? = l[i]?) ∧
  (∀ {α : Type} (a b : α) (l : List α), (a :: l).set 0 b = b :: l) ∧ (∀ {α : Type} (a b : α) (l : List α) (n : Nat), (a :: l).set (n + 1) b = a :: l.set n b) ∧ (∀ {α : Type} (a : α) (l : List α) (n : Nat), (a :: l).take (n + 1) = a :: l.take n) ∧ (∀ {α : Type} (l : List α), l.take 0 = []) :=
 ⟨fun _ _ _ => List.getElem?_map, fun _ _ => rfl, fun _ _ _ => rfl, fun _ _ _ => rfl, fun _ _ _ _ => rfl, fun _ _ _ => rfl, fun _ => rfl⟩
theorem Jp : (∀ {α β : Type} (f : α → β) (a : α), (some a).map f = some (f a)) ∧ (∀ {α β : Type} (f : α → β), (none : Option α).map f = none) ∧ (∀ {α : Type} (a : α), (some a).isSome = true) := ⟨fun _ _ => rfl, fun _ => rfl, fun _ => rfl⟩
theorem Ew : (∀ {α β γ : Type} (g : β → γ) (f : α → β) (l : List α), (l.map f).map g = l.map (g ∘ f)) ∧ (∀ {α : Type} (l : List α), l ++ [] = l) := ⟨fun _ _ _ => List.map_map, fun l => List.append_nil l⟩
theorem o1 : (∀ {α β : Type} (f : α → β) (a : α) (l : List α), (a :: l).map f = f a :: l.map f) ∧ (∀ {α β : Type} (f : α → β), ([] : List α).map f = []) ∧ (∀ {α β : Type} (f : α → β) (a b : List α), (a ++ b).map f = a.map f ++ b.map f) ∧
  (∀ {α β : Type} (f : α → β) (l : List α) (i : Nat) (a : α), (l.set i a).map f = (l.map f).set i (f a)) ∧ (∀ {α β : Type} (f : α → β) (l : List α) (i : Nat), (l.take i).map f = (l.map f).take i) ∧ (∀ {α β : Type} (f : α → β) (l : List α) (i : Nat), (l.drop i).map f = (l.map f).drop i) :=
 ⟨fun _ _ _ => rfl, fun _ => rfl, fun _ _ _ => List.map_append, fun _ _ _ _ => List.map_set, fun _ _ _ => List.map_take, fun _ _ _ => List.map_drop⟩
def Rj := PLift.up (And.intro @Q0 (And.intro @Iw (And.intro @Q2 (And.intro @QU (And.intro @Iv (And.intro @QW (And.intro @IW (And.intro @IX (And.intro @Ix (And.intro @Iy (And.intro @uu (And.intro @Iz (And.intro @IA (And.intro @IB (And.intro @IY (And.intro @IZ (And.intro @I0 (And.intro @I1 (And.intro @I2 (And.intro @I3 (And.intro @IC (And.intro @ID (And.intro @IE (And.intro @IF (And.intro @IG (And.intro @IH (And.intro @II (And.intro @IJ (And.intro @IK (And.intro @IL (And.intro @IU (And.intro @Ep (And.intro @Es (And.intro @Er (And.intro @Jh (And.intro @Ji (And.intro @Jj (And.intro @Jk (And.intro @aD.eq_def (And.intro @loc.eq_def (And.intro @aU.eq_def (And.intro @dP.eq_def (And.intro @ex.eq_def (And.intro @lB.eq_def (And.intro @fits.eq_def (And.intro @I.fI.eq_1 (And.intro @I.fI.eq_2 (And.intro @I.fI.eq_3 (And.intro @I.fI.eq_4 (And.intro @I.fI.eq_5 (And.intro @I.fI.eq_6 (And.intro @Gn (And.intro @Gp (And.intro @Bool.not_true (And.intro @Bool.not_false (And.intro @Bool.true_and (And.intro @Bool.and_true (And.intro @Bool.false_and (And.intro @Bool.true_or (And.intro @Bool.false_or (And.intro @Bool.and_self (And.intro @Bool.false_eq_true (And.intro @Bool.true_eq_false (And.intro @Bool.not_not (And.intro @true_and (And.intro @and_true (And.intro @and_self (And.intro @decide_true (And.intro @decide_false (And.intro @not_false_eq_true (And.intro @not_true_eq_false (And.intro @Jd (And.intro @Nat.zero_add (And.intro @Nat.add_zero (And.intro @Nat.mul_one (And.intro @Nat.lt_add_one (And.intro @Nat.zero_lt_succ (And.intro @c7.eq_def (And.intro @ey.eq_def (And.intro @flat.eq_1 (And.intro @flat.eq_2 (And.intro @flat.eq_3 (And.intro @flat.eq_4 (And.intro @flat.eq_5 (And.intro @flat.eq_6 (And.intro @flat.eq_7 (And.intro @pt.eq_1 (And.intro @pt.eq_2 (And.intro @cC.eq_def (And.intro @Ev (And.intro @Jo (And.intro @Jp (@Ew)))))))))))))))))))))))))))))))))))))))))))))))))))))))))))))))))))))))))))))))))))))))))))))
def Rk := PLift.up (And.intro @Q1 (And.intro @Iw (And.intro @Q3 (And.intro @QV (And.intro @Iv (And.intro @QX (And.intro @IW (And.intro @IX (And.intro @Ix (And.intro @Iy (And.intro @uu (And.intro @Iz (And.intro @IA (And.intro @IB (And.intro @IY (And.intro @IZ (And.intro @I0 (And.intro @I1 (And.intro @I2 (And.intro @I3 (And.intro @IC (And.intro @ID (And.intro @IE (And.intro @IF (And.intro @IG (And.intro @IH (And.intro @II (And.intro @IJ (And.intro @IK (And.intro @IL (And.intro @IU (And.intro @Ep (And.intro @Es (And.intro @Er (And.intro @Jh (And.intro @Ji (And.intro @Jj (And.intro @Jk (And.intro @aD.eq_def (And.intro @loc.eq_def (And.intro @aU.eq_def (And.intro @dP.eq_def (And.intro @ex.eq_def (And.intro @lB.eq_def (And.intro @fits.eq_def (And.intro @I.fI.eq_1 (And.intro @I.fI.eq_2 (And.intro @I.fI.eq_3 (And.intro @I.fI.eq_4 (And.intro @I.fI.eq_5 (And.intro @I.fI.eq_6 (And.intro @Gn (And.intro @Gp (And.intro @Bool.not_true (And.intro @Bool.not_false (And.intro @Bool.true_and (And.intro @Bool.and_true (And.intro @Bool.false_and (And.intro @Bool.true_or (And.intro @Bool.false_or (And.intro @Bool.and_self (And.intro @Bool.false_eq_true (And.intro @Bool.true_eq_false (And.intro @Bool.not_not (And.intro @true_and (And.intro @and_true (And.intro @and_self (And.intro @decide_true (And.intro @decide_false (And.intro @not_false_eq_true (And.intro @not_true_eq_false (And.intro @Jd (And.intro @Nat.zero_add (And.intro @Nat.add_zero (And.intro @Nat.mul_one (And.intro @Nat.lt_add_one (And.intro @Nat.zero_lt_succ (And.intro @c7.eq_def (And.intro @ey.eq_def (And.intro @flat.eq_1 (And.intro @flat.eq_2 (And.intro @flat.eq_3 (And.intro @flat.eq_4 (And.intro @flat.eq_5 (And.intro @flat.eq_6 (And.intro @flat.eq_7 (And.intro @pt.eq_1 (And.intro @pt.eq_2 (And.intro @cC.eq_def (And.intro @Ev (And.intro @Jo (And.intro @Jp (@Ew)))))))))))))))))))))))))))))))))))))))))))))))))))))))))))))))))))))))))))))))))))))))))))))
def Rl := PLift.up (And.intro @Ep (And.intro @Es (And.intro @Er (And.intro @kh.eq_1 (And.intro @Nat.zero_add (And.intro @Bool.not_true (And.intro @Bool.not_false (And.intro @Bool.true_and (And.intro @Bool.and_true (And.intro @Bool.false_and (And.intro @Bool.true_or (And.intro @Bool.false_or (And.intro @Bool.and_self (And.intro @Bool.false_eq_true (And.intro @Bool.true_eq_false (And.intro @Bool.not_not (And.intro @Ev (And.intro @Ew (@o1)))))))))))))))))))
end Go.dg
