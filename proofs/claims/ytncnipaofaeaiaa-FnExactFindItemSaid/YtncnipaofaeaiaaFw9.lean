/- Part of a proof that a law returns true for every input. No condition. -/
import Derived.Test.YtncnipaofaeaiaaFw8
namespace Go.Fw

section
variable {C : Cx} {w0 w : World} {F0 X F : Nat → Prop} {S : Nat → Nat → Prop} {s s1 : St} {tm : Nat → Value} {av : AV}

/-- A unary operation. -/
def un (op : UnOp) (x : AV) : Option AV :=
  match op, x with
  | .not, .bool b => some (.bool !b)
  | .not, .anyb => some .anyb
  | .neg, .int k n => some (.int k (k.wrap (0 - n)))
  | _, _ => none

theorem un_good (h : RelX w0 F0 X F S s tm w) {op : UnOp} {x : AV} {v : Value} (hv : SV w F s tm x v (fun _ => False)) (he : un op x = some av) : Good C w0 F0 X tm w (Op.unary op v) av s := by
  unfold un at he
  split at he <;> first | (cases he; done) | (simp only [Option.some.injEq] at he; subst he)
  · have := sv_bool hv; subst this
    exact Good.same h rfl rfl (of_bool _)
  · obtain ⟨b, rfl⟩ := sv_anyb hv
    exact Good.same h rfl rfl (of_anyb _)
  · have := sv_int hv; subst this
    exact Good.same h rfl rfl (of_int _ _)

/-- A pointer that is not nil. -/
def nilc (s : St) (x : AV) : Option AV :=
  match x with
  | .ref d => some (.ref d)
  | .fn f c => some (.fn f c)
  | .h y q => match AV.sub q (s y) with
    | some (.ubox _) => some (.h y q)
    | _ => none
  | _ => none

theorem sv_ref {d : AV} {v : Value} {S' : Nat → Prop} (h : SV w F s tm (.ref d) v S') : ∃ b o ecs, v = .pointer (some ⟨b, o, none⟩) ∧ F b ∧ Rd w b o ecs ∧ RV w F d ecs (fun _ => False) := by
  have h' := (SV.of_tree rfl).1 h
  rw [RV, vc_one h'.1] at h'
  obtain ⟨_, b, o, ecs, h1, h2, h3, h4⟩ := h'
  simp at h1; subst h1
  exact ⟨b, o, ecs, rfl, h2, h3, h4⟩

theorem nilc_val (h : RelX w0 F0 X F S s tm w) {x : AV} {v : Value} (hv : SV w F s tm x v (fun _ => False)) (he : nilc s x = some av) :
    av = x ∧ x.plain = true ∧ ((∃ a, v = .pointer (some a)) ∨ ∃ f c, v = .func (.func f) #[] c) := by
  unfold nilc at he
  split at he
  · simp only [Option.some.injEq] at he; subst he
    obtain ⟨b, o, ecs, rfl, _⟩ := sv_ref hv
    exact ⟨rfl, rfl, .inl ⟨_, rfl⟩⟩
  · simp only [Option.some.injEq] at he; subst he
    rw [SV] at hv
    obtain ⟨arr, rfl, _⟩ := hv
    exact ⟨rfl, rfl, .inr ⟨_, _, rfl⟩⟩
  · split at he
    · rename_i d hd
      simp only [Option.some.injEq] at he; subst he
      obtain ⟨b, cur, e, fr, rfl, _⟩ := h_box h hv hd
      exact ⟨rfl, rfl, .inl ⟨_, rfl⟩⟩
    · cases he
  · cases he

/-- A part of a result. -/
def ex (s : St) (x : AV) (k : Nat) : Option AV :=
  match x with
  | .tuple ds => match ds[k]? with
    | some d => if d.plain = true then some d else none
    | none => none
  | .h y q => match AV.sub q (s y) with
    | some (.tuple ds) => match ds[k]? with
      | some d => if AV.plains ds = true then none else some (if d.plain then d else .h y (q ++ [k]))
      | none => none
    | _ => none
  | _ => none

theorem flat_get : ∀ (vs : List Value) (k : Nat) (x : Value) (ds : List AV), vs[k]? = some x → vs.length = ds.length → (∀ (j : Nat) (d : AV) (y : Value), ds[j]? = some d → vs[j]? = some y → (vc1 y).length = d.wd) →
    ∃ l r, vs.flatMap vc1 = l ++ (vc1 x ++ r) ∧ l.length = AV.wds (ds.take k)
  | [], k, x, ds, h, _, _ => by simp at h
  | v :: vs, 0, x, ds, h, hl, hw => by
    simp at h; subst h
    exact ⟨[], vs.flatMap vc1, by simp, by simp [AV.wds]⟩
  | v :: vs, k + 1, x, d :: ds, h, hl, hw => by
    obtain ⟨l, r, e1, e2⟩ := flat_get vs k x ds (by simpa using h) (by simpa using hl) (fun j d y h1 h2 => hw (j + 1) d y (by simpa using h1) (by simpa using h2))
    refine ⟨vc1 v ++ l, r, by simp [e1], ?_⟩
    have := hw 0 d v (by simp) (by simp)
    simp [AV.wds, e2, this]
  | v :: vs, k + 1, x, [], h, hl, hw => by simp at hl

theorem vc1_vc {d : AV} {v : Value} (h : shp1 d v) (_hd : ∀ vs, d ≠ .tuple vs) : vc v = vc1 v := by
  cases d with
  | agg fs => obtain ⟨arr, rfl⟩ := h; rfl
  | _ =>
    have h1 : Value.isOne v = true := h
    cases v <;> first | rfl | (simp [Value.isOne] at h1)

theorem shp_of1 {d : AV} {v : Value} (h : shp1 d v) (hd : ∀ vs, d ≠ .tuple vs) : shp d v := by
  cases d with
  | tuple vs => exact (hd _ rfl).elim
  | _ => exact h

theorem ex_good (h : RelX w0 F0 X F S s tm w) {x : AV} {v : Value} {k : Nat} (hv : SV w F s tm x v (fun _ => False)) (he : ex s x k = some av) : Good C w0 F0 X tm w (Instr.extract v k) av s := by
  have pick : ∀ (ds : List AV) (d : AV) (arr : Array Value), ds[k]? = some d → (arr.size = ds.length ∧ ∀ (k : Nat) (d : AV) (x : Value), ds[k]? = some d → arr[k]? = some x → shp1 d x ∧ (∀ vs, d ≠ .tuple vs) ∧ (vc1 x).length = d.wd) →
      ∃ x, arr[k]? = some x ∧ shp d x ∧ ((vc (.tuple arr)).drop (AV.wds (ds.take k))).take d.wd = vc x := by
    intro ds d arr hd ⟨hz, hall⟩
    have hlt : k < arr.size := by rw [hz]; exact (List.getElem?_eq_some_iff.1 hd).1
    have hx : arr[k]? = some arr[k] := Array.getElem?_eq_getElem hlt
    obtain ⟨g1, g2, g3⟩ := hall k d _ hd hx
    obtain ⟨l, r, e1, e2⟩ := flat_get arr.toList k arr[k] ds (by simp [hlt]) (by simpa using hz) (fun j d y h1 h2 => (hall j d y h1 (by simpa using h2)).2.2)
    refine ⟨_, hx, shp_of1 g1 g2, ?_⟩
    rw [vc1_vc g1 g2]
    simp only [vc]
    rw [e1]
    exact seg_eq l _ r _ _ e2 g3
  unfold ex at he
  split at he
  · rename_i ds
    split at he
    · rename_i d hd
      split at he
      · rename_i hp
        simp only [Option.some.injEq] at he; subst he
        have h' := (SV.of_tree rfl).1 hv
        obtain ⟨⟨arr, rfl, hz⟩, hrv⟩ := h'
        obtain ⟨x, hx, hs, hc⟩ := pick ds d arr hd hz
        have hr : (Instr.extract (.tuple arr) k).run C.P w = .ok x w := by simp [Instr.extract, hx]
        rw [RV] at hrv
        obtain ⟨c1, ck, c2, S1, Sk, e, p0, p1, p2, p3, p5, p6⟩ := RVs.pick ds _ _ k d hrv hd
        rw [e, seg_eq c1 ck c2 _ _ p0 (RV.length _ _ _ p5)] at hc
        by_cases ht : d.tree = true
        · exact Good.same h hr hp ((SV.of_tree ht).2 ⟨hs, by rw [← hc]; exact RV.plain _ _ _ _ hp p5⟩)
        · cases d <;> first | exact (ht rfl).elim | (rw [RV] at p5; exact p5.elim) | exact Good.same h hr rfl (by rw [SV]; trivial)
      · cases he
    · cases he
  · rename_i y q
    split at he
    · rename_i ds hd
      split at he
      · rename_i d hk
        split at he
        · cases he
        · rename_i hpl
          simp only [Option.some.injEq] at he
          have hpl : (AV.tuple ds).plain = false := by simpa [AV.plain] using hpl
          rw [SV] at hv
          obtain ⟨dcs, a, g1, g2, g3⟩ := hv _ hd hpl
          obtain ⟨arr, rfl, hz⟩ := g3
          obtain ⟨x, hx, hs, hc⟩ := pick ds d arr hk hz
          have hr : (Instr.extract (.tuple arr) k).run C.P w = .ok x w := by simp [Instr.extract, hx]
          have hy := h.sv y
          rw [SV.of_tree (tree_of_sub hd (.inl hpl))] at hy
          obtain ⟨dcs', a', Sc, Sd, k0, k1, k2, k3, k4, k5⟩ := ctx q (s y) (vc (tm y)) (S y) none _ hy.2 hd
          rw [k0] at g1
          simp only [Option.some.injEq, Prod.mk.injEq, true_and] at g1
          obtain ⟨rfl, rfl⟩ := g1
          rw [g2] at hc
          split at he
          · rename_i hp
            subst he
            rw [RV] at k4
            obtain ⟨c1, ck, c2, S1, Sk, e, p0, p1, p2, p3, p5, p6⟩ := RVs.pick ds _ _ k d k4 hk
            rw [e, seg_eq c1 ck c2 _ _ p0 (RV.length _ _ _ p5)] at hc
            by_cases ht : d.tree = true
            · exact Good.same h hr hp ((SV.of_tree ht).2 ⟨hs, by rw [← hc]; exact RV.plain _ _ _ _ hp p5⟩)
            · cases d <;> first | exact (ht rfl).elim | (rw [RV] at p5; exact p5.elim) | exact Good.same h hr rfl (by rw [SV]; trivial)
          · subst he
            refine Good.same h hr rfl ?_
            rw [SV]
            intro d2 hd2 hp2
            rw [fol_append w q _ _ _ _ _ _ [k] k0]
            rw [sub_append _ _ _ _ hd] at hd2
            simp only [AV.sub, hk, Option.some.injEq] at hd2
            subst hd2
            simp only [fol, hk]
            exact ⟨_, _, rfl, hc.symm, hs⟩
      · cases he
    · cases he
  · cases he

end
end Go.Fw
