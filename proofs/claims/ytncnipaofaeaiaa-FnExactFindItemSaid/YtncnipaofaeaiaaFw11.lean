/- Part of a proof that a law returns true for every input. No condition. -/
import Derived.Test.YtncnipaofaeaiaaFw10
namespace Go.Fw

section
variable {C : Cx} {w0 w : World} {F0 X F : Nat → Prop} {S : Nat → Nat → Prop} {s s1 : St} {tm : Nat → Value} {av : AV}

/-- A bound of a slice expression. -/
def bd (d : Nat) : Option AV → Option Nat
  | none => some d
  | some (.int _ n) => if 0 ≤ n then some n.toNat else none
  | some _ => none

/-- x[lo:hi]. -/
def slc (C : Cx) (s : St) (T : TypeId) (x : AV) (lo hi : Option AV) : Option (AV × St) :=
  match (C.T T).k, x with
  | .str, .str l => match bd 0 lo, bd l.length hi with
    | some a, some b => if a ≤ b ∧ b ≤ l.length then some (.str ((l.take b).drop a), s) else none
    | _, _ => none
  | .slice e, .nils => match bd 0 lo, bd 0 hi with
    | some 0, some 0 => if (C.T e).ok = true then some (.nils, s) else none
    | _, _ => none
  | .slice e, .slice xs => match bd 0 lo, bd xs.length hi with
    | some a, some b => if a ≤ b ∧ b ≤ xs.length ∧ (C.T e).ok = true ∧ (∀ d ∈ xs, d.wd = (C.T e).sz) then some (.slice ((xs.take b).drop a), s) else none
    | _, _ => none
  | .slice e, .h y q => match AV.sub q (s y) with
    | some (.uslice sz xs) => match bd 0 lo, bd xs.length hi with
      | some 0, some b => if b ≤ xs.length ∧ (C.T e).ok = true then (match tk s (.h y q) with | some (_, s1) => some (.uslice sz (xs.take b), s1) | none => none) else none
      | _, _ => none
    | _ => none
  | _, _ => none


/-- The bounds of a slice expression, as the operation sees them. -/
def OptSV (w : World) (F : Nat → Prop) (s : St) (tm : Nat → Value) : Option AV → Option Value → Prop
  | none, none => True
  | some d, some v => SV w F s tm d v (fun _ => False)
  | _, _ => False

theorem bd_some {d : Nat} {o : Option AV} {v : Option Value} (ho : OptSV w F s tm o v) {a : Nat} (h : bd d o = some a) : (o = none ∧ v = none ∧ a = d) ∨ ∃ k, v = some (.int k a) := by
  cases o with
  | none =>
    cases v with
    | none => simp [bd] at h; exact .inl ⟨rfl, rfl, h.symm⟩
    | some v => simp [OptSV] at ho
  | some x =>
    cases v with
    | none => simp [OptSV] at ho
    | some v =>
      simp only [OptSV] at ho
      cases x with
      | int k n =>
        have := sv_int ho; subst this
        simp only [bd] at h
        split at h
        · rename_i hn
          simp only [Option.some.injEq] at h; subst h
          obtain ⟨m, rfl⟩ := Int.eq_ofNat_of_zero_le hn
          exact .inr ⟨k, rfl⟩
        · cases h
      | _ => simp [bd] at h

theorem run_bounds {P : Program} {isS : Bool} {len cap a b : Nat} {lo hi : Option AV} {vlo vhi : Option Value} (hlo : OptSV w F s tm lo vlo) (hhi : OptSV w F s tm hi vhi) (ha : bd 0 lo = some a) (hb : bd len hi = some b) (hab : a ≤ b) (hbc : b ≤ cap) (_hlc : len ≤ cap) :
    (Instr.sliceBounds isS len cap vlo vhi none).run P w = .ok (a, b, cap) w := by
  rcases bd_some hlo ha with ⟨_, rfl, rfl⟩ | ⟨k, rfl⟩ <;> rcases bd_some hhi hb with ⟨_, rfl, rfl⟩ | ⟨k', rfl⟩ <;>
    simp [Instr.sliceBounds, Instr.sliceBound, asIntOf, hab, hbc]

theorem sliceAt_flat (hC : C.Ok) {T : TypeId} (hk : (C.T T).flat = true) (v : Value) (lo hi mx : Option Value) (w : World) : (Instr.sliceAt T v lo hi mx).run C.P w = (Instr.slice T v lo hi mx).run C.P w := by
  obtain ⟨i, d, z, e1, e2, e3, e4, e5, e6, e7⟩ := hC.info (ok_of_flat hk)
  have hne : ∀ n e, d ≠ .array n e := by
    clear e6
    unfold TI.flat at hk
    generalize (C.T T).k = kk at *
    cases kk <;> cases d <;> simp [okDesc] at e7 hk ⊢
  cases d <;> first | exact (hne _ _ rfl).elim | simp [Instr.sliceAt, run_underlying e6]

theorem flat_of_k {x : TI} {k : TK} (h : x.k = k) (hk : k ≠ .other) (hs : ∀ fs, k ≠ .struct fs) : x.flat = true := by
  unfold TI.flat; rw [h]; cases k <;> first | rfl | exact (hk rfl).elim | exact (hs _ rfl).elim

theorem RVs.split : ∀ (n : Nat) (xs : List AV) (cs : List Value) (S' : Nat → Prop), RVs w F xs cs S' → ∃ c1 c2 S1 S2, cs = c1 ++ c2 ∧ RVs w F (xs.take n) c1 S1 ∧ RVs w F (xs.drop n) c2 S2 ∧ (∀ b, S1 b → S' b) ∧ (∀ b, S2 b → S' b) ∧ (∀ b, S1 b → ¬ S2 b)
  | 0, xs, cs, S', h => ⟨[], cs, fun _ => False, S', rfl, by rw [List.take_zero, RVs], h, fun _ h => h.elim, fun _ h => h, fun _ h => h.elim⟩
  | n + 1, [], cs, S', h => by rw [RVs] at h; subst h; exact ⟨[], [], fun _ => False, fun _ => False, rfl, by rw [List.take_nil, RVs], by rw [List.drop_nil, RVs], fun _ h => h.elim, fun _ h => h.elim, fun _ h => h.elim⟩
  | n + 1, x :: xs, cs, S', h => by
    rw [RVs] at h
    obtain ⟨c1, c2, Sa, Sb, rfl, h1, h2, h3, h4, h5⟩ := h
    obtain ⟨d1, d2, S1, S2, rfl, g1, g2, g3, g4, g5⟩ := RVs.split n xs c2 Sb h2
    refine ⟨c1 ++ d1, d2, fun b => Sa b ∨ S1 b, S2, by simp, ?_, g2, ?_, fun b hb => h4 _ (g4 _ hb), ?_⟩
    · rw [List.take_succ_cons, RVs]
      exact ⟨c1, d1, Sa, S1, rfl, h1, g1, fun _ h => .inl h, fun _ h => .inr h, fun b hb hc => h5 b hb (g3 b hc)⟩
    · rintro b (hb | hb)
      · exact h3 b hb
      · exact h4 b (g3 b hb)
    · rintro b (hb | hb) hc
      · exact h5 b hb (g4 b hc)
      · exact g5 b hb hc

theorem slc_good (hC : C.Ok) (h : RelX w0 F0 X F S s tm w) {T : TypeId} {x : AV} {v : Value} {lo hi : Option AV} {vlo vhi : Option Value} (hx : x.plain = true) (hv : SV w F s tm x v (fun _ => False)) (hlo : OptSV w F s tm lo vlo) (hhi : OptSV w F s tm hi vhi)
    (he : slc C s T x lo hi = some (av, s1)) : Good C w0 F0 X tm w (Instr.sliceAt T v vlo vhi none) av s1 := by
  unfold slc at he
  split at he
  · rename_i l hk
    have := sv_str hv; subst this
    obtain ⟨i, d, z, e1, e2, e3, e4, e5, e6, e7⟩ := hC.info (ok_of_k hk (by simp))
    rw [hk] at e7
    have := desc_str e7; subst this
    split at he
    · rename_i a b ha hb
      split at he
      · rename_i hab
        simp only [Option.some.injEq, Prod.mk.injEq] at he
        obtain ⟨rfl, rfl⟩ := he
        refine Good.same h ?_ rfl (of_str _)
        rw [sliceAt_flat hC (flat_of_k hk (by simp) (by simp))]
        have hsz : (⟨⟨l⟩⟩ : ByteArray).size = l.length := rfl
        have hbounds := run_bounds (P := C.P) (isS := false) (len := l.length) (cap := l.length) hlo hhi ha hb hab.1 hab.2 (Nat.le_refl _)
        have hext : (⟨⟨l⟩⟩ : ByteArray).extract a b = ⟨⟨(l.take b).drop a⟩⟩ := by
          apply ByteArray.ext
          simp [ByteArray.data_extract, List.drop_take]
        simp [Instr.slice, run_underlying e6, hsz, hbounds, hext]
      · cases he
    · cases he
  · rename_i e hk
    have := sv_nils hv; subst this
    obtain ⟨i, d, z, e1, e2, e3, e4, e5, e6, e7⟩ := hC.info (ok_of_k hk (by simp))
    rw [hk] at e7
    have := desc_slice e7; subst this
    split at he
    · rename_i ha hb
      split at he
      · rename_i hek
        obtain ⟨i', d', z', f1, f2, f3, f4, f5, f6, f7⟩ := hC.info hek
        simp only [Option.some.injEq, Prod.mk.injEq] at he
        obtain ⟨rfl, rfl⟩ := he
        have hbounds := run_bounds (P := C.P) (isS := true) (len := 0) (cap := 0) hlo hhi ha hb (Nat.le_refl _) (Nat.le_refl _) (Nat.le_refl _)
        refine Good.same h (v := .slice none 0 0) ?_ rfl hv
        rw [sliceAt_flat hC (flat_of_k hk (by simp) (by simp))]
        simp [Instr.slice, run_underlying e6, hbounds, run_sizeOf' f1, f2]
      · cases he
    · cases he
  · rename_i e xs hk
    obtain ⟨i, d, z, e1, e2, e3, e4, e5, e6, e7⟩ := hC.info (ok_of_k hk (by simp))
    rw [hk] at e7
    have := desc_slice e7; subst this
    split at he
    · rename_i a b ha hb
      split at he
      · rename_i hab
        obtain ⟨hab1, hab2, hek, hwd⟩ := hab
        obtain ⟨i', d', z', f1, f2, f3, f4, f5, f6, f7⟩ := hC.info hek
        simp only [Option.some.injEq, Prod.mk.injEq] at he
        obtain ⟨rfl, rfl⟩ := he
        rcases sv_slice hv with ⟨rfl, ad, c, rfl, hcm, hac⟩ | ⟨b0, o, cap, ecs, sz, rfl, h1, h2, h3, h4, h5, h6⟩
        · have hb0 : b = 0 := by simpa using hab2
          subst hb0
          have ha0 : a = 0 := by omega
          subst ha0
          have hbounds := run_bounds (P := C.P) (isS := true) (len := 0) (cap := c) hlo hhi ha hb (Nat.le_refl _) (Nat.zero_le _) (Nat.zero_le _)
          refine Good.same h (v := .slice ad 0 c) ?_ rfl ((SV.of_tree rfl).2 ⟨rfl, by rw [RV]; exact .inl ⟨rfl, ad, c, rfl, hcm, hac⟩⟩)
          rw [sliceAt_flat hC (flat_of_k hk (by simp) (by simp))]
          cases ad with
          | none =>
            have := hac rfl; subst this
            simp [Instr.slice, run_underlying e6, hbounds, run_sizeOf' f1, f2]
          | some ad => simp [Instr.slice, run_underlying e6, hbounds, run_sizeOf' f1, f2, Addr.add]
        · have hbounds := run_bounds (P := C.P) (isS := true) (len := xs.length) (cap := cap) hlo hhi ha hb hab1 (Nat.le_trans hab2 h2) h2
          obtain ⟨c1, c2, S1, S2, rfl, g1, g2, g3, g4, g5⟩ := RVs.split b xs ecs _ h6
          obtain ⟨d1, d2, S3, S4, rfl, k1, k2, k3, k4, k5⟩ := RVs.split a (xs.take b) c1 _ g1
          have hl1 : d1.length = a * (C.T e).sz := by
            rw [RVs.length _ _ _ k1, wds_uniform _ (fun d hd => hwd d (List.mem_of_mem_take (List.mem_of_mem_take hd))), List.length_take, List.length_take]
            congr 1; omega
          have hlen : ((xs.take b).drop a).length = b - a := by simp; omega
          have hrd : Rd w b0 (o + a * (C.T e).sz) d2 := by
            rw [← hl1]
            have : Rd w b0 o (d1 ++ (d2 ++ c2)) := by simpa using h5
            exact this.seg
          have k2' : RVs w F ((xs.take b).drop a) d2 (fun _ => False) := RVs.mono (fun _ h => h) _ _ _ _ (fun b hb => (g3 _ (k4 _ hb)).elim) k2
          have mem : ∀ d ∈ (xs.take b).drop a, d.wd = sz := fun d hd => h4 d (List.mem_of_mem_take (List.mem_of_mem_drop hd))
          have run : (Instr.sliceAt T (.slice (some ⟨b0, o, none⟩) xs.length cap) vlo vhi none).run C.P w = .ok (.slice (if cap = a then some ⟨b0, o, none⟩ else some ⟨b0, o + a * (C.T e).sz, none⟩) (b - a) (cap - a)) w := by
            rw [sliceAt_flat hC (flat_of_k hk (by simp) (by simp))]
            simp [Instr.slice, run_underlying e6, hbounds, run_sizeOf' f1, f2, Addr.add_lit]
          refine ⟨_, w, F, S, run, h, .inl ⟨rfl, (SV.of_tree rfl).2 ⟨rfl, ?_⟩⟩⟩
          simp only [vc, vc1]
          rw [RV]
          by_cases hca : cap = a
          · have hba : b = a := by omega
            subst hba
            have hnil : (xs.take b).drop b = [] := by simp
            rw [if_pos hca]
            rw [hnil] at k2' ⊢
            rw [RVs] at k2'
            subst k2'
            exact .inr ⟨b0, o, cap - b, [], sz, by simp, h1, Nat.zero_le _, by omega, by simp, fun j c hj => by simp at hj, by rw [RVs]⟩
          · rw [if_neg hca]
            exact .inr ⟨b0, _, cap - a, d2, sz, by rw [hlen], h1, by rw [hlen]; omega, by omega, mem, hrd, k2'⟩
      · cases he
    · cases he
  · rename_i e y q hk
    split at he
    · rename_i sz xs hd
      split at he
      · rename_i b ha hb
        split at he
        · rename_i hbl
          split at he
          · rename_i dd s2 ht
            simp only [Option.some.injEq, Prod.mk.injEq] at he
            obtain ⟨rfl, rfl⟩ := he
            obtain ⟨i, d, z, e1, e2, e3, e4, e5, e6, e7⟩ := hC.info (ok_of_k hk (by simp))
            rw [hk] at e7
            have := desc_slice e7; subst this
            obtain ⟨i', d', z', f1, f2, f3, f4, f5, f6, f7⟩ := hC.info hbl.2
            have hdd : dd = .uslice sz xs := by
              simp only [tk, hd, AV.plain] at ht
              simp at ht
              exact ht.1.symm
            subst hdd
            obtain ⟨S1, g0, g1, g2, Sn, g3, g4, g5, g6, g7, g8⟩ := tk_sv h rfl hv ht
            rw [vc_one g2, RV] at g3
            rcases g3 with ⟨rfl, hv0⟩ | ⟨b0, cap, cur, e0, fr, S', hv0, k1, k2, k3, k4, k5, k6, k7, k8, k9, k10⟩
            · simp at hv0; subst hv0
              have hb0 : b = 0 := by simpa using hbl.1
              subst hb0
              have hbounds := run_bounds (P := C.P) (isS := true) (len := 0) (cap := 0) hlo hhi ha hb (Nat.le_refl _) (Nat.le_refl _) (Nat.le_refl _)
              refine ⟨.slice none 0 0, w, F, S1, ?_, g0, .inr ⟨rfl, rfl, fun _ => False, by simp only [vc, vc1]; rw [RV]; exact .inl ⟨rfl, rfl⟩, fun _ h => h.elim, fun _ h => h.elim, fun _ _ h => h.elim, fun _ h => h.elim⟩⟩
              rw [sliceAt_flat hC (flat_of_k hk (by simp) (by simp))]
              simp [Instr.slice, run_underlying e6, hbounds, run_sizeOf' f1, f2]
            · simp at hv0; subst hv0
              have hbounds := run_bounds (P := C.P) (isS := true) (len := xs.length) (cap := cap) hlo hhi ha hb (Nat.zero_le _) (Nat.le_trans hbl.1 k4) k4
              have hlen : (xs.take b).length = b := by simp; omega
              have run : (Instr.sliceAt T (.slice (some ⟨b0, 0, none⟩) xs.length cap) vlo vhi none).run C.P w = .ok (.slice (some ⟨b0, 0, none⟩) b cap) w := by
                rw [sliceAt_flat hC (flat_of_k hk (by simp) (by simp))]
                simp [Instr.slice, run_underlying e6, hbounds, run_sizeOf' f1, f2, Addr.add_lit]
              refine ⟨_, w, F, S1, run, g0, .inr ⟨rfl, rfl, Sn, ?_, g4, g5, g6, g7⟩⟩
              simp only [vc, vc1]
              rw [RV]
              obtain ⟨c1, c2, Sa, Sb, hc, m1, m2, m3, m4, m5⟩ := RVs.split b xs _ _ k8
              refine .inr ⟨b0, cap, cur, e0, fr, S', by rw [hlen], k1, k2, k3, by omega, k5, k6, fun d hd => k7 d (List.mem_of_mem_take hd), ?_, k9, k10⟩
              have hl1 : c1.length = b * sz := by
                rw [RVs.length _ _ _ m1, wds_uniform _ (fun d hd => k7 d (List.mem_of_mem_take hd)), hlen]
              have : cur.toList.take ((xs.take b).length * sz) = c1 := by
                rw [hlen]
                have h2 : b * sz ≤ xs.length * sz := Nat.mul_le_mul_right _ hbl.1
                have : (cur.toList.take (xs.length * sz)).take (b * sz) = c1 := by rw [hc, List.take_left' hl1]
                rwa [List.take_take, Nat.min_eq_left h2] at this
              rw [this]
              exact RVs.mono (fun _ h => h) _ _ _ _ m3 m1
          · cases he
        · cases he
      · cases he
    · cases he
  · cases he

end
end Go.Fw
