/- Part of a proof that a law returns true for every input. No condition. -/
import Derived.Test.YtncnipaofaeaiaaFw5
namespace Go.Fw

def TI.ok (x : TI) : Bool := match x.k with
  | .other => false
  | _ => true

theorem Cx.Ok.info {C : Cx} (hC : C.Ok) {t : TypeId} (h : (C.T t).ok = true) :
    ∃ i d z, C.P.info? t = some i ∧ i.size = (C.T t).sz ∧ i.bytes = (C.T t).bytes ∧ i.zero = some z ∧ (∀ cs, flat (C.T t).zero = some cs → z.cells = cs.toArray) ∧ C.P.underlying t = some d ∧ okDesc (C.T t).k d := by
  rcases hC.ty t with ⟨e, n, b, z, hx, _⟩ | h'
  · rw [hx] at h; simp [TI.ok] at h
  · exact h'

theorem ok_of_k {x : TI} {k : TK} (h : x.k = k) (hk : k ≠ .other) : x.ok = true := by
  unfold TI.ok; rw [h]; cases k <;> first | rfl | exact (hk rfl).elim

theorem desc_struct {d : TypeDesc} {fs : List (TypeId × Nat)} (h : okDesc (.struct fs) d) : ∃ gs, d = .struct gs ∧ gs.toList.map (fun g => (g.type, g.offset)) = fs := by
  cases d <;> simp [okDesc] at h
  exact ⟨_, rfl, h⟩
theorem desc_slice {d : TypeDesc} {e : TypeId} (h : okDesc (.slice e) d) : d = .slice e := by
  cases d <;> simp [okDesc] at h
  rw [h]
theorem desc_int {d : TypeDesc} {k : IntKind} (h : okDesc (.int k) d) : d = .int k := by
  cases d <;> simp [okDesc] at h
  rw [h]
theorem desc_str {d : TypeDesc} (h : okDesc .str d) : d = .string := by
  cases d <;> simp [okDesc] at h
  rfl
theorem desc_bool {d : TypeDesc} (h : okDesc .bool d) : d = .bool := by
  cases d <;> simp [okDesc] at h
  rfl
theorem desc_ptr {d : TypeDesc} {e : TypeId} (h : okDesc (.ptr e) d) : d = .pointer e := by
  cases d <;> simp [okDesc] at h
  rw [h]

theorem vc_one {v : Value} (h : Value.isOne v = true) : vc v = [v] := by
  cases v <;> first | rfl | (simp [Value.isOne] at h)

theorem run_typeInfo' {P : Program} {t : TypeId} {i : TypeInfo} (h : P.info? t = some i) (w : World) : (typeInfo t).run P w = .ok i w := by simp [typeInfo, h]
theorem run_sizeOf' {P : Program} {t : TypeId} {i : TypeInfo} (h : P.info? t = some i) (w : World) : (Go.sizeOf t).run P w = .ok i.size w := by simp [Go.sizeOf, run_typeInfo' h]
theorem run_zeroValue' {P : Program} {t : TypeId} {i : TypeInfo} {z : Value} (h : P.info? t = some i) (hz : i.zero = some z) (w : World) : (zeroValue t).run P w = .ok z w := by simp [zeroValue, run_typeInfo' h, hz]

section
variable {C : Cx} {w0 w : World} {F0 X F : Nat → Prop} {S : Nat → Nat → Prop} {s s1 : St} {tm : Nat → Value} {av : AV}

/-- What an operation comes to. -/
def Good (C : Cx) (w0 : World) (F0 X : Nat → Prop) (tm : Nat → Value) (w : World) (m : Sem Value) (av : AV) (s1 : St) : Prop :=
  ∃ v w' F' S', m.run C.P w = .ok v w' ∧ RelX w0 F0 X F' S' s1 tm w' ∧ Val w0 X F' S' s1 tm w' av v

theorem Good.same (h : RelX w0 F0 X F S s tm w) {m : Sem Value} {v : Value} (hr : m.run C.P w = .ok v w) (hp : av.plain = true) (hv : SV w F s tm av v (fun _ => False)) : Good C w0 F0 X tm w m av s :=
  ⟨v, w, F, S, hr, h, .inl ⟨hp, hv⟩⟩

theorem loc_sv (_h : RelX w0 F0 X F S s tm w) {x : AV} {v : Value} (hv : SV w F s tm x v (fun _ => False)) {y : Nat} {q : List Nat} (hl : loc s x = some (y, q)) {d : AV} (hd : AV.sub q (s y) = some d) :
    AV.cross q (s y) = true ∧ ∃ dcs b o, v = .pointer (some ⟨b, o, none⟩) ∧ fol w q (s y) (vc (tm y)) none = some (d, dcs, some (b, o)) := by
  cases x with
  | h z q0 =>
    simp only [loc] at hl
    split at hl
    · rename_i e he
      simp only [Option.some.injEq, Prod.mk.injEq] at hl
      obtain ⟨rfl, rfl⟩ := hl
      rw [SV] at hv
      obtain ⟨dcs, a, g1, g2, g3⟩ := hv _ he rfl
      have hd' : e = d := by
        rw [sub_append _ _ _ _ he] at hd
        simpa [AV.sub] using hd
      subst hd'
      refine ⟨by rw [cross_append _ _ _ _ he]; simp [AV.cross], ?_⟩
      have h1 : Value.isOne v = true := g3
      rw [vc_one h1] at g2
      subst g2
      have hfol := fol_append w q0 (s z) _ _ _ none a [0] g1
      -- the pointer's own form
      have hx := _h.sv z
      rw [SV.of_tree (tree_of_sub he (.inl rfl))] at hx
      obtain ⟨dcs', a', Sc, Sd, k0, k1, k2, k3, k4, k5⟩ := ctx q0 (s z) (vc (tm z)) (S z) none _ hx.2 he
      rw [k0] at g1
      simp only [Option.some.injEq, Prod.mk.injEq, true_and] at g1
      obtain ⟨rfl, rfl⟩ := g1
      rw [RV] at k4
      obtain ⟨b, cur, e2, fr, S2, e3, _⟩ := k4
      simp only [List.cons.injEq, and_true] at e3
      subst e3
      exact ⟨_, b, 0, rfl, by rw [hfol]; rfl⟩
    · cases hl
  | hp z q0 =>
    simp only [loc] at hl
    split at hl
    · rename_i hc
      simp only [Option.some.injEq, Prod.mk.injEq] at hl
      obtain ⟨rfl, rfl⟩ := hl
      rw [SV] at hv
      obtain ⟨dcs, b, o, g1, g2⟩ := hv _ hd hc
      exact ⟨hc, dcs, b, o, g2, g1⟩
    · cases hl
  | _ => simp [loc] at hl

/-- The address of a field. -/
def fa (C : Cx) (s : St) (T : TypeId) (x : AV) (k : Nat) : Option AV :=
  match (C.T T).k with
  | .struct fs => match fs[k]? with
    | some (ft, off) => if (C.T ft).ok = true ∧ (C.T ft).sz ≠ 0 then
        match x with
        | .ref (.agg ds) => match ds[k]? with
          | some d => if AV.wds (ds.take k) = off then some (.ref d) else none
          | none => none
        | x => match loc s x with
          | some (y, q) => match AV.sub q (s y) with
            | some (.agg ds) => if k < ds.length ∧ AV.wds (ds.take k) = off then some (.hp y (q ++ [k])) else none
            | _ => none
          | none => none
      else none
    | none => none
  | _ => none

theorem Rd.seg {w : World} {b o : Nat} {c1 ck c2 : List Value} (h : Rd w b o (c1 ++ (ck ++ c2))) : Rd w b (o + c1.length) ck := by
  intro j c hj
  have hlt : j < ck.length := (List.getElem?_eq_some_iff.1 hj).1
  have := h (c1.length + j) c (by rw [List.getElem?_append_right (by omega), List.getElem?_append_left (by omega), ← hj]; congr 1; omega)
  rw [Nat.add_assoc]; exact this

theorem run_fieldAt (hC : C.Ok) {T ft : TypeId} {fs : List (TypeId × Nat)} {k off : Nat} (hk : (C.T T).k = .struct fs) (hf : fs[k]? = some (ft, off)) (h1 : (C.T ft).ok = true) (h2 : (C.T ft).sz ≠ 0) (b o : Nat) (w : World) :
    (Instr.fieldAt T (.pointer (some ⟨b, o, none⟩)) k).run C.P w = .ok (.pointer (some ⟨b, o + off, none⟩)) w := by
  obtain ⟨i, d, z, e1, e2, e3, e4, e5, e6, e7⟩ := hC.info (ok_of_k hk (by simp))
  rw [hk] at e7
  obtain ⟨gs, rfl, e8⟩ := desc_struct e7
  obtain ⟨i', d', z', f1, f2, f3, f4, f5, f6, f7⟩ := hC.info h1
  have hg : ∃ g, gs[k]? = some g ∧ g.type = ft ∧ g.offset = off := by
    rw [← e8, List.getElem?_map] at hf
    simp only [Option.map_eq_some_iff, Prod.mk.injEq] at hf
    obtain ⟨g, h1, h2, h3⟩ := hf
    exact ⟨g, by simpa using h1, h2, h3⟩
  obtain ⟨g, g1, rfl, rfl⟩ := hg
  simp [Instr.fieldAt, run_underlying e6, g1, Instr.sureAddr, fieldPlace, run_sizeOf' f1, f2, h2, Addr.add_lit]

theorem fa_good (hC : C.Ok) (h : RelX w0 F0 X F S s tm w) {T : TypeId} {x : AV} {v : Value} {k : Nat} (hx : x.plain = true) (hv : SV w F s tm x v (fun _ => False)) (he : fa C s T x k = some av) :
    Good C w0 F0 X tm w (Instr.fieldAt T v k) av s := by
  unfold fa at he
  split at he
  · rename_i fs hk
    split at he
    · rename_i ft off hf
      split at he
      · rename_i hft
        split at he
        · rename_i ds
          split at he
          · rename_i d hd
            split at he
            · rename_i hoff
              simp only [Option.some.injEq] at he; subst he
              have hv' := (SV.of_tree rfl).1 hv
              rw [RV] at hv'
              obtain ⟨hs, b, o, ecs, h1, h2, h3, h4⟩ := hv'
              rw [vc_one hs] at h1
              simp only [List.cons.injEq, and_true] at h1; subst h1
              rw [RV] at h4
              obtain ⟨c1, ck, c2, S1, Sk, rfl, p0, p1, p2, p3, p5, p6⟩ := RVs.pick ds _ _ k d h4 hd
              refine Good.same h (run_fieldAt hC hk hf hft.1 hft.2 b o w) rfl ((SV.of_tree rfl).2 ⟨rfl, ?_⟩)
              rw [RV]
              refine ⟨b, o + off, ck, rfl, h2, ?_, RV.mono (fun _ h => h) _ _ _ _ (fun b hb => p2 b hb) p5⟩
              rw [← hoff, ← p0]; exact h3.seg
            · cases he
          · cases he
        · rename_i x _
          split at he
          · rename_i y q hl
            split at he
            · rename_i ds hd
              split at he
              · rename_i hoff
                simp only [Option.some.injEq] at he; subst he
                obtain ⟨hc, dcs, b, o, rfl, hfol⟩ := loc_sv h hv hl hd
                refine Good.same h (run_fieldAt hC hk hf hft.1 hft.2 b o w) rfl ?_
                rw [SV]
                intro d2 hd2 hc2
                rw [fol_append w q _ _ _ _ _ _ [k] hfol]
                rw [sub_append _ _ _ _ hd] at hd2
                have hk2 : ∃ d3, ds[k]? = some d3 := ⟨_, List.getElem?_eq_getElem hoff.1⟩
                obtain ⟨d3, hk3⟩ := hk2
                simp only [AV.sub, hk3, Option.some.injEq] at hd2
                subst hd2
                simp only [fol, hk3]
                refine ⟨(dcs.drop off).take d3.wd, b, o + off, ?_, rfl⟩
                rw [hoff.2]; rfl
              · cases he
            · cases he
          · cases he
      · cases he
    · cases he
  · cases he

/-- The address of an element. -/
def ia (C : Cx) (s : St) (T : TypeId) (x i : AV) : Option AV :=
  match (C.T T).k, i with
  | .slice e, .int _ n => if 0 ≤ n ∧ (C.T e).ok = true then
      match x with
      | .slice xs => match xs[n.toNat]? with
        | some d => if d.wd = (C.T e).sz then some (.ref d) else none
        | none => none
      | .h y q => match AV.sub q (s y) with
        | some (.uslice sz xs) => if n.toNat < xs.length ∧ sz = (C.T e).sz then some (.hp y (q ++ [n.toNat])) else none
        | _ => none
      | _ => none
    else none
  | _, _ => none

theorem run_indexAt' (hC : C.Ok) {T e : TypeId} (hk : (C.T T).k = .slice e) (he : (C.T e).ok = true) (b o len cap : Nat) (k : IntKind) (n : Nat) (hn : n < len) (w : World) :
    (Instr.indexAt T (.slice (some ⟨b, o, none⟩) len cap) (.int k n)).run C.P w = .ok (.pointer (some ⟨b, o + n * (C.T e).sz, none⟩)) w := by
  obtain ⟨i, d, z, e1, e2, e3, e4, e5, e6, e7⟩ := hC.info (ok_of_k hk (by simp))
  rw [hk] at e7
  have := desc_slice e7; subst this
  obtain ⟨i', d', z', f1, f2, f3, f4, f5, f6, f7⟩ := hC.info he
  simp [Instr.indexAt, run_underlying e6, asIntOf, hn, run_sizeOf' f1, f2, Addr.add_lit]

theorem ia_good (hC : C.Ok) (h : RelX w0 F0 X F S s tm w) {T : TypeId} {x i : AV} {v vi : Value} (hv : SV w F s tm x v (fun _ => False)) (hvi : SV w F s tm i vi (fun _ => False))
    (he : ia C s T x i = some av) : Good C w0 F0 X tm w (Instr.indexAt T v vi) av s := by
  unfold ia at he
  split at he
  · rename_i e k n hk
    have hvi' := (SV.of_tree rfl).1 hvi
    rw [RV, vc_one hvi'.1] at hvi'
    have : vi = .int k n := by simpa using hvi'.2
    subst this
    split at he
    · rename_i hn
      obtain ⟨n, rfl⟩ := Int.eq_ofNat_of_zero_le hn.1
      simp only [Int.toNat_natCast] at he
      split at he
      · rename_i xs
        split at he
        · rename_i d hd
          split at he
          · rename_i hw
            simp only [Option.some.injEq] at he; subst he
            have hv' := (SV.of_tree rfl).1 hv
            rw [RV, vc_one hv'.1] at hv'
            obtain ⟨hs, ⟨rfl, _⟩ | ⟨b, o, cap, ecs, sz, h1, h2, h3, h4, h5, h6, h7⟩⟩ := hv'
            · simp at hd
            · simp only [List.cons.injEq, and_true] at h1; subst h1
              have hlt : n < xs.length := (List.getElem?_eq_some_iff.1 hd).1
              obtain ⟨c1, ck, c2, S1, Sk, rfl, p0, p1, p2, p3, p5, p6⟩ := RVs.pick xs _ _ n d h7 hd
              refine Good.same h (run_indexAt' hC hk hn.2 b o _ _ k n hlt w) rfl ((SV.of_tree rfl).2 ⟨rfl, ?_⟩)
              rw [RV]
              refine ⟨b, _, ck, rfl, h2, ?_, RV.mono (fun _ h => h) _ _ _ _ (fun b hb => p2 b hb) p5⟩
              have hdsz := h5 d (List.mem_of_getElem? hd)
              have : n * (C.T e).sz = c1.length := by
                rw [p0, wds_uniform _ (fun d hd => h5 d (List.mem_of_mem_take hd)), List.length_take, Nat.min_eq_left (by omega), ← hw, hdsz]
              rw [this]; exact h6.seg
          · cases he
        · cases he
      · rename_i y q
        split at he
        · rename_i sz xs hd
          split at he
          · rename_i hw
            simp only [Option.some.injEq] at he; subst he
            rw [SV] at hv
            obtain ⟨dcs, a, g1, g2, g3⟩ := hv _ hd rfl
            have hs : Value.isOne v = true := g3
            rw [vc_one hs] at g2; subst g2
            -- the slice's own form
            have hx := h.sv y
            rw [SV.of_tree (tree_of_sub hd (.inl rfl))] at hx
            obtain ⟨dcs', a', Sc, Sd, k0, k1, k2, k3, k4, k5⟩ := ctx q (s y) (vc (tm y)) (S y) none _ hx.2 hd
            rw [k0] at g1
            simp only [Option.some.injEq, Prod.mk.injEq, true_and] at g1
            obtain ⟨rfl, rfl⟩ := g1
            rw [RV] at k4
            rcases k4 with ⟨rfl, _⟩ | ⟨b, cap, cur, e2, fr, S2, e3, _⟩
            · simp at hw
            · simp only [List.cons.injEq, and_true] at e3; subst e3
              refine Good.same h (run_indexAt' hC hk hn.2 b 0 _ _ k n hw.1 w) rfl ?_
              rw [SV]
              intro d2 hd2 _
              rw [fol_append w q _ _ _ _ _ _ [n] k0]
              rw [sub_append _ _ _ _ hd] at hd2
              obtain ⟨d3, hk3⟩ : ∃ d3, xs[n]? = some d3 := ⟨_, List.getElem?_eq_getElem hw.1⟩
              simp only [AV.sub, hk3, Option.some.injEq] at hd2
              subst hd2
              simp only [fol, hk3]
              exact ⟨_, b, n * sz, rfl, by simp [hw.2]⟩
          · cases he
        · cases he
      · cases he
    · cases he
  · cases he

end
end Go.Fw
