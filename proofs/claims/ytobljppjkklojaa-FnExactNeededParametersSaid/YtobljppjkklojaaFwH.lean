/- Part of a proof that a law returns true for every input. No condition. -/
import Derived.Test.YtobljppjkklojaaFwG
import Derived.ChangeArms
import Derived.WideShapes
namespace Go.Fw
section
variable {H : Type} {enc : TypeId × Value → H} {P : Program} {w : World} {base : Nat} {sp : Nat → Bool} {held : Bool}
def Rds {τ : Type} (enc : TypeId × Value → H) (P : Program) (w : World) (base : Nat) (sp : Nat → Bool) (held : Bool) (T : TypeId) (e : τ → AV) (W : τ → Prop) : Prop :=
 ∀ (fuel : Nat) (cs : List Value) (x : DataW H × List MemPlace), DataW.trod enc P w base sp held fuel T cs = some x → ∃ y, W y ∧ RV w (F0 w) (e y) cs (fun _ => False)
theorem rds_int {T : TypeId} {k : IntKind} (ht : P.underlying T = some (.int k)) : Rds enc P w base sp held T (fun n => .int k n) (fun n => (Lit.int k n).wf = true) := by
 intro fuel cs x h
 obtain ⟨n, rfl, _, hw⟩ := DataW.trod_int ht h
 exact ⟨n, hw, by rw [RV]⟩
theorem rds_i64 {T : TypeId} (ht : P.underlying T = some (.int .i64)) : Rds enc P w base sp held T (fun n => .int .i64 n) (fun n => -9223372036854775808 ≤ n ∧ n ≤ 9223372036854775807) := by
 intro fuel cs x h
 obtain ⟨n, hw, hr⟩ := rds_int ht fuel cs x h
 exact ⟨n, wf_i64 hw, hr⟩
theorem rds_str {T : TypeId} (ht : P.underlying T = some .string) : Rds enc P w base sp held T (fun s => .str s) (fun s => s.length ≤ 9223372036854775807) := by
 intro fuel cs x h
 obtain ⟨s, rfl, _, hs⟩ := DataW.trod_string ht h
 exact ⟨s.data.toList, hs, by rw [RV]⟩
theorem mapM_get {α β : Type} {f : α → Option β} : ∀ {l : List α} {r : List β}, l.mapM f = some r → r.length = l.length ∧ ∀ (i : Nat) (a : α), l[i]? = some a → f a = r[i]? := by
 intro l
 induction l with
 | nil => intro r h; simp at h; subst h; exact ⟨rfl, fun i a h => by simp at h⟩
 | cons a l ih =>
   intro r h
   simp only [List.mapM_cons, Option.bind_eq_bind, Option.bind_eq_some_iff] at h
   obtain ⟨b, hb, r', hr, he⟩ := h
   have he : b :: r' = r := by simpa using he
   subst he
   obtain ⟨h1, h2⟩ := ih hr
   refine ⟨by simp [h1], fun i x hx => ?_⟩
   cases i with
   | zero => simp at hx; subst hx; simpa using hb
   | succ i => simpa using h2 i x (by simpa using hx)
theorem cells_get {a : Addr} {n : Nat} {cs : List Value} (h : w.cells? base a n = some cs) : cs.length = n ∧ ∀ j c, cs[j]? = some c → w.cell? (a.add j) = some c := by
 unfold World.cells? at h
 split at h
 ·obtain ⟨h1, h2⟩ := mapM_get h
  refine ⟨by simpa using h1, fun j c hc => ?_⟩
  have hj : j < n := by
   have := (List.getElem?_eq_some_iff.1 hc).1
   rw [h1] at this; simpa using this
  rw [h2 j j (by simp [hj]), hc]
 ·cases h
theorem cell_spot {a : Addr} {c : Value} (h : w.cell? a = some c) : a.spot = none ∧ a.block < w.heap.size := by
 unfold World.cell? at h
 split at h
 ·rename_i cs e fr hb
  split at h
  ·cases h
  ·rename_i hs
   refine ⟨by simpa using hs, ?_⟩
   exact (Array.getElem?_eq_some_iff.1 hb).1
 ·cases h
theorem rds_slice {τ : Type} {T e : TypeId} {sz : Nat} {ec : τ → AV} {W : τ → Prop} (ht : P.underlying T = some (.slice e)) (hsz : P.cellsOf e = sz) (hpos : 0 < sz) (hw : ∀ y, (ec y).wd = sz) (h : Rds enc P w base sp held e ec W) :
  Rds enc P w base sp held T (fun ys : List τ => .slice (ys.map ec)) (fun ys : List τ => ys.length ≤ 9223372036854775807 ∧ ∀ y ∈ ys, W y) := by
 intro fuel cs x hx
 rcases DataW.trod_slice ht hx with ⟨rfl, _⟩ | ⟨a, len, cap, elems, rest, n, _, rfl, _, _, h1, h2, h3, h4, _⟩
 ·exact ⟨[], ⟨by simp, by simp⟩, by simp only [List.map_nil]; rw [RV]; exact .inl ⟨rfl, none, 0, rfl, Nat.zero_le _, fun _ => rfl⟩⟩
 ·by_cases h0 : len = 0
  ·subst h0
   exact ⟨[], ⟨by simp, by simp⟩, by simp only [List.map_nil]; rw [RV]; exact .inl ⟨rfl, some a, cap, rfl, h2, fun h => by cases h⟩⟩
  ·rw [hsz] at h4
   have get : ∀ i, i < len → ∃ cs' y, w.cells? base (a.add (i * sz)) sz = some cs' ∧ W y ∧ RV w (F0 w) (ec y) cs' (fun _ => False) := by
    intro i hi
    have := h4 i hi
    rw [List.getElem?_eq_getElem (by omega), Option.bind_eq_some_iff] at this
    obtain ⟨cs', e1, e2⟩ := this
    obtain ⟨y, y1, y2⟩ := h _ _ _ e2
    exact ⟨cs', y, e1, y1, y2⟩
   obtain ⟨cs0, y0, g1, _, g2⟩ := get 0 (by omega)
   obtain ⟨l0, l1⟩ := cells_get g1
   have hc0 : ∃ c, cs0[0]? = some c := ⟨_, List.getElem?_eq_getElem (by omega)⟩
   obtain ⟨c0, hc0⟩ := hc0
   have hsp := cell_spot (l1 0 c0 hc0)
   have ha : (a.add (0 * sz)).add 0 = a := by simp [Addr.add]
   rw [ha] at hsp
   obtain ⟨b, o, spot⟩ := a
   obtain ⟨hs1, hs2⟩ := hsp
   simp only at hs1 hs2; subst hs1
   have all : ∀ m, m ≤ len → ∃ (ys : List τ) (ecs : List Value), ys.length = m ∧ (∀ y ∈ ys, W y) ∧ ecs.length = m * sz ∧ Rd w b o ecs ∧ RVs w (F0 w) (ys.map ec) ecs (fun _ => False) := by
    intro m
    induction m with
    | zero => intro _; exact ⟨[], [], rfl, by simp, by simp, fun j c hc => by simp at hc, by rw [List.map_nil, RVs]⟩
    | succ m ih =>
      intro hm
      obtain ⟨ys, ecs, k1, k2, k3, k4, k5⟩ := ih (by omega)
      obtain ⟨cs', y, e1, e2, e3⟩ := get m (by omega)
      obtain ⟨m1, m2⟩ := cells_get e1
      refine ⟨ys ++ [y], ecs ++ cs', by simp [k1], ?_, by simp [k3, m1, Nat.add_mul], ?_, ?_⟩
      ·intro z hz
       rcases List.mem_append.1 hz with hz | hz
       ·exact k2 z hz
       ·simp at hz; subst hz; exact e2
      ·intro j c hc
       by_cases hj : j < ecs.length
       ·rw [List.getElem?_append_left hj] at hc
        exact k4 j c hc
       ·rw [List.getElem?_append_right (by omega)] at hc
        have := m2 _ c hc
        rw [Addr.add_lit, Addr.add_lit] at this
        rw [← this]
        congr 2
        omega
      ·rw [List.map_append]
       refine RVs.append k5 ?_ (fun _ h => h) (fun _ h => h) (fun _ h => h.elim)
       simp only [List.map_cons, List.map_nil]
       rw [RVs]
       exact ⟨cs', [], fun _ => False, fun _ => False, by simp, e3, by rw [RVs], fun _ h => h.elim, fun _ h => h.elim, fun _ h => h.elim⟩
   obtain ⟨ys, ecs, k1, k2, k3, k4, k5⟩ := all len (Nat.le_refl _)
   refine ⟨ys, ⟨by rw [k1]; exact Nat.le_trans h1 h2, k2⟩, ?_⟩
   rw [RV]
   refine .inr ⟨b, o, cap, ecs, sz, by simp [k1], hs2, by simp [k1, h1], h2, ?_, k4, k5⟩
   intro d hd
   obtain ⟨y, _, rfl⟩ := List.mem_map.1 hd
   exact hw y
def ends : Nat → List (Nat × Nat) → Option Nat
 | o, [] => some o
 | o, (o', sz) :: r => if o = o' then ends (o + sz) r else none
def Flds (w : World) (F : Nat → Prop) (cs : List Value) : List (AV × Nat × Nat) → Prop
 | [] => True
 | (d, off, sz) :: r => RV w F d ((cs.drop off).take sz) (fun _ => False) ∧ Flds w F cs r
theorem flds_rvs {F : Nat → Prop} {cs : List Value} : ∀ (l : List (AV × Nat × Nat)) (o : Nat), ends o (l.map (·.2)) = some cs.length → Flds w F cs l → RVs w F (l.map (·.1)) (cs.drop o) (fun _ => False) := by
 intro l
 induction l with
 | nil => intro o he _; simp [ends] at he; subst he; simp only [List.map_nil]; rw [RVs]; simp
 | cons p l ih =>
   intro o he hf
   obtain ⟨d, off, sz⟩ := p
   simp only [List.map_cons, ends] at he
   split at he
   ·rename_i e; subst e
    obtain ⟨f1, f2⟩ := hf
    simp only [List.map_cons]
    rw [RVs]
    refine ⟨(cs.drop o).take sz, cs.drop (o + sz), fun _ => False, fun _ => False, ?_, f1, ih _ he f2, fun _ h => h.elim, fun _ h => h.elim, fun _ h => h.elim⟩
    rw [← List.drop_drop, List.take_append_drop]
   ·cases he
theorem fld_get {n T : Nat} {cs : List Value} {o : Option (DataW H × List MemPlace)} {τ : Type} {e : τ → AV} {W : τ → Prop} (hr : Rds enc P w base sp held T e W) (h : DataW.trod enc P w base sp held n T cs = o) (ho : o.isSome = true) :
  ∃ y, W y ∧ RV w (F0 w) (e y) cs (fun _ => False) := by
 obtain ⟨x, rfl⟩ := Option.isSome_iff_exists.1 ho
 exact hr _ _ _ h
theorem arg_struct {τ : Type} {T : TypeId} {fs : Array Field} {es : τ → List AV} {W : τ → Prop} {r : Reach} {b0 : Nat} {v : Value} {d : DataW H} {ps : List MemPlace} (ht : P.underlying T = some (.struct fs)) (hr : Rds enc P w base sp held T (fun y => .agg (es y)) W)
  (hval : Value.okWide P w r b0 T v) (hd : DataW.Trod enc P w base sp held T v d ps) : ∃ y, Arg w (.agg (es y)) v ∧ W y := by
 obtain ⟨cs, rfl, _⟩ := WideShapes.okWide_struct ht hval
 obtain ⟨fuel, hf⟩ := hd
 obtain ⟨y, h1, h2⟩ := hr _ _ _ hf
 refine ⟨y, ⟨rfl, ⟨cs, rfl⟩, ?_⟩, h1⟩
 simpa [Value.cells, vc, vc1] using h2
end
theorem c_len : (∀ {α β : Type} (f : α → β) (l : List α), (l.map f).length = l.length) ∧ (∀ {α : Type} (n : Nat) (a : α), (List.replicate n a).length = n) ∧ (∀ {α : Type} (a : α) (l : List α), (a :: l).length = l.length + 1) ∧ (∀ {α : Type}, ([] : List α).length = 0) ∧ (∀ {α : Type} (a b : List α), (a ++ b).length = a.length + b.length) :=
 ⟨fun _ _ => List.length_map _, fun _ _ => List.length_replicate, fun _ _ => rfl, rfl, fun _ _ => List.length_append⟩
theorem c_get : (∀ {α β : Type} (f : α → β) (l : List α) (i : Nat), (l.map f)[i]? = l[i]?.map f) ∧ (∀ {α : Type} (a : α) (l : List α), (a :: l)[0]? = some a) ∧ (∀ {α : Type} (a : α) (l : List α) (i : Nat), (a :: l)[i + 1]? = l[i]?) ∧
  (∀ {α : Type} (a b : α) (l : List α), (a :: l).set 0 b = b :: l) ∧ (∀ {α : Type} (a b : α) (l : List α) (n : Nat), (a :: l).set (n + 1) b = a :: l.set n b) ∧ (∀ {α : Type} (a : α) (l : List α) (n : Nat), (a :: l).take (n + 1) = a :: l.take n) ∧ (∀ {α : Type} (l : List α), l.take 0 = []) :=
 ⟨fun _ _ _ => List.getElem?_map, fun _ _ => rfl, fun _ _ _ => rfl, fun _ _ _ => rfl, fun _ _ _ _ => rfl, fun _ _ _ => rfl, fun _ => rfl⟩
theorem c_opt : (∀ {α β : Type} (f : α → β) (a : α), (some a).map f = some (f a)) ∧ (∀ {α β : Type} (f : α → β), (none : Option α).map f = none) ∧ (∀ {α : Type} (a : α), (some a).isSome = true) := ⟨fun _ _ => rfl, fun _ => rfl, fun _ => rfl⟩
theorem c_map : (∀ {α β γ : Type} (g : β → γ) (f : α → β) (l : List α), (l.map f).map g = l.map (g ∘ f)) ∧ (∀ {α : Type} (l : List α), l ++ [] = l) := ⟨fun _ _ _ => List.map_map, fun l => List.append_nil l⟩
theorem c_nrm : (∀ {α β : Type} (f : α → β) (a : α) (l : List α), (a :: l).map f = f a :: l.map f) ∧ (∀ {α β : Type} (f : α → β), ([] : List α).map f = []) ∧ (∀ {α β : Type} (f : α → β) (a b : List α), (a ++ b).map f = a.map f ++ b.map f) ∧
  (∀ {α β : Type} (f : α → β) (l : List α) (i : Nat) (a : α), (l.set i a).map f = (l.map f).set i (f a)) ∧ (∀ {α β : Type} (f : α → β) (l : List α) (i : Nat), (l.take i).map f = (l.map f).take i) ∧ (∀ {α β : Type} (f : α → β) (l : List α) (i : Nat), (l.drop i).map f = (l.map f).drop i) :=
 ⟨fun _ _ _ => rfl, fun _ => rfl, fun _ _ _ => List.map_append, fun _ _ _ _ => List.map_set, fun _ _ _ => List.map_take, fun _ _ _ => List.map_drop⟩
def W0 := PLift.up (And.intro @stp0 (And.intro @wpT_g (And.intro @gds0 (And.intro @gdT_no0 (And.intro @wpT_nil (And.intro @go0_some (And.intro @ev_s (And.intro @st_s (And.intro @al_s (And.intro @fin_s (And.intro @plain_s (And.intro @asg_s (And.intro @pg_s (And.intro @pk_s (And.intro @kp_s (And.intro @mis_s (And.intro @kind_s (And.intro @kin2_s (And.intro @ok_s (And.intro @flat_s (And.intro @bn_s (And.intro @bnI_s (And.intro @bnS_s (And.intro @un_s (And.intro @idx_s (And.intro @ia_s (And.intro @ia_h (And.intro @slc_str (And.intro @slc_sl (And.intro @sub_s (And.intro @put_s (And.intro @wd_s (And.intro @wrapb_s (And.intro @toB_nat (And.intro @tk_h (And.intro @tk_s (And.intro @upd_l (And.intro @hol_s (And.intro @ld.eq_def (And.intro @loc.eq_def (And.intro @fa.eq_def (And.intro @nilc.eq_def (And.intro @ex.eq_def (And.intro @ln.eq_def (And.intro @fits.eq_def (And.intro @AV.cross.eq_1 (And.intro @AV.cross.eq_2 (And.intro @AV.cross.eq_3 (And.intro @AV.cross.eq_4 (And.intro @AV.cross.eq_5 (And.intro @AV.cross.eq_6 (And.intro @getI_map (And.intro @subL_map (And.intro @Bool.not_true (And.intro @Bool.not_false (And.intro @Bool.true_and (And.intro @Bool.and_true (And.intro @Bool.false_and (And.intro @Bool.true_or (And.intro @Bool.false_or (And.intro @Bool.and_self (And.intro @Bool.false_eq_true (And.intro @Bool.true_eq_false (And.intro @Bool.not_not (And.intro @true_and (And.intro @and_true (And.intro @and_self (And.intro @decide_true (And.intro @decide_false (And.intro @not_false_eq_true (And.intro @not_true_eq_false (And.intro @pth_s (And.intro @Nat.zero_add (And.intro @Nat.add_zero (And.intro @Nat.mul_one (And.intro @Nat.lt_add_one (And.intro @Nat.zero_lt_succ (And.intro @bx.eq_def (And.intro @alc.eq_def (And.intro @flat.eq_1 (And.intro @flat.eq_2 (And.intro @flat.eq_3 (And.intro @flat.eq_4 (And.intro @flat.eq_5 (And.intro @flat.eq_6 (And.intro @flat.eq_7 (And.intro @flats.eq_1 (And.intro @flats.eq_2 (And.intro @sto.eq_def (And.intro @c_len (And.intro @c_get (And.intro @c_opt (@c_map)))))))))))))))))))))))))))))))))))))))))))))))))))))))))))))))))))))))))))))))))))))))))))))
def W1 := PLift.up (And.intro @stp1 (And.intro @wpT_g (And.intro @gds1 (And.intro @gdT_no1 (And.intro @wpT_nil (And.intro @go1_some (And.intro @ev_s (And.intro @st_s (And.intro @al_s (And.intro @fin_s (And.intro @plain_s (And.intro @asg_s (And.intro @pg_s (And.intro @pk_s (And.intro @kp_s (And.intro @mis_s (And.intro @kind_s (And.intro @kin2_s (And.intro @ok_s (And.intro @flat_s (And.intro @bn_s (And.intro @bnI_s (And.intro @bnS_s (And.intro @un_s (And.intro @idx_s (And.intro @ia_s (And.intro @ia_h (And.intro @slc_str (And.intro @slc_sl (And.intro @sub_s (And.intro @put_s (And.intro @wd_s (And.intro @wrapb_s (And.intro @toB_nat (And.intro @tk_h (And.intro @tk_s (And.intro @upd_l (And.intro @hol_s (And.intro @ld.eq_def (And.intro @loc.eq_def (And.intro @fa.eq_def (And.intro @nilc.eq_def (And.intro @ex.eq_def (And.intro @ln.eq_def (And.intro @fits.eq_def (And.intro @AV.cross.eq_1 (And.intro @AV.cross.eq_2 (And.intro @AV.cross.eq_3 (And.intro @AV.cross.eq_4 (And.intro @AV.cross.eq_5 (And.intro @AV.cross.eq_6 (And.intro @getI_map (And.intro @subL_map (And.intro @Bool.not_true (And.intro @Bool.not_false (And.intro @Bool.true_and (And.intro @Bool.and_true (And.intro @Bool.false_and (And.intro @Bool.true_or (And.intro @Bool.false_or (And.intro @Bool.and_self (And.intro @Bool.false_eq_true (And.intro @Bool.true_eq_false (And.intro @Bool.not_not (And.intro @true_and (And.intro @and_true (And.intro @and_self (And.intro @decide_true (And.intro @decide_false (And.intro @not_false_eq_true (And.intro @not_true_eq_false (And.intro @pth_s (And.intro @Nat.zero_add (And.intro @Nat.add_zero (And.intro @Nat.mul_one (And.intro @Nat.lt_add_one (And.intro @Nat.zero_lt_succ (And.intro @bx.eq_def (And.intro @alc.eq_def (And.intro @flat.eq_1 (And.intro @flat.eq_2 (And.intro @flat.eq_3 (And.intro @flat.eq_4 (And.intro @flat.eq_5 (And.intro @flat.eq_6 (And.intro @flat.eq_7 (And.intro @flats.eq_1 (And.intro @flats.eq_2 (And.intro @sto.eq_def (And.intro @c_len (And.intro @c_get (And.intro @c_opt (@c_map)))))))))))))))))))))))))))))))))))))))))))))))))))))))))))))))))))))))))))))))))))))))))))))
def WN := PLift.up (And.intro @wd_s (And.intro @wrapb_s (And.intro @toB_nat (And.intro @byteAV.eq_1 (And.intro @Nat.zero_add (And.intro @Bool.not_true (And.intro @Bool.not_false (And.intro @Bool.true_and (And.intro @Bool.and_true (And.intro @Bool.false_and (And.intro @Bool.true_or (And.intro @Bool.false_or (And.intro @Bool.and_self (And.intro @Bool.false_eq_true (And.intro @Bool.true_eq_false (And.intro @Bool.not_not (And.intro @c_len (And.intro @c_map (@c_nrm)))))))))))))))))))
end Go.Fw
