/- Part of a proof that a law returns true for every input. No condition. -/
import Derived.Test.YtncnipaofaeaiaaFw11
namespace Go.Fw

section
variable {C : Cx} {w0 w : World} {F0 X F : Nat → Prop} {S : Nat → Nat → Prop} {s s1 : St} {tm : Nat → Value} {av : AV}

/-- What is appended: so many elements, these cells. -/
def Src (P : Program) (w : World) (size : Nat) (x : Value) (m : Nat) (news : List Value) : Prop :=
  ∀ w' : World, w'.heap = w.heap → (Builtin.lenOf x).run P w' = .ok m w' ∧ (Builtin.firstCells size m x).run P w' = .ok news.toArray w'

def notInt (d : TypeDesc) : Prop := (∃ e, d = .slice e) ∨ d = .string

theorem run_append_room' {P : Program} {T U ty e : TypeId} {du : TypeDesc} {i : TypeInfo} (ht : P.underlying T = some (.slice e)) (hu : P.underlying U = some du) (hdu : notInt du) (hi : P.info? e = some i)
    {x : Value} {m : Nat} {news : List Value} (hsrc : Src P w i.size x m news) {b n cap : Nat} {cur : Array Value} {e0 : TypeId} {fr : Nat × Nat} {l mid r : List Value} (hb : w.heap[b]? = some (.cells cur e0 fr)) (hf : nofrz fr cur.size)
    (hc : cur.toList = l ++ (mid ++ r)) (hl : l.length = n * i.size) (hm : mid.length = news.length) (hone : ∀ v ∈ news, Value.isOne v = true) (hroom : n + m ≤ cap) :
    ∃ w', (Builtin.append_ #[T, U] ty #[.slice (some ⟨b, 0, none⟩) n cap, x]).run P w = .ok (.slice (some ⟨b, 0, none⟩) (n + m) cap) w' ∧ w'.heap[b]? = some (.cells (l ++ (news ++ r)).toArray e0 fr) ∧
      (∀ c, c ≠ b → w'.heap[c]? = w.heap[c]?) ∧ w'.heap.size = w.heap.size ∧ w'.os = w.os ∧ w'.tape = w.tape ∧ w'.output = w.output := by
  obtain ⟨w', m1, m2⟩ := run_storeCells' (P := P) (b := b) (o := n * i.size) (e := e0) (fr := fr) news 0 cur w l mid r hb hf hc (by omega) hm hone
  refine ⟨w', ?_, m2⟩
  obtain ⟨h1, h2⟩ := hsrc w rfl
  rcases hdu with ⟨e', rfl⟩ | rfl <;> simp [Builtin.append_, run_underlying ht, run_underlying hu, run_sizeOf' hi, h1, h2, hroom, Addr.add_lit, m1]

theorem run_append_grow' {P : Program} {T U ty e : TypeId} {du : TypeDesc} {i : TypeInfo} {z : Value} (ht : P.underlying T = some (.slice e)) (hu : P.underlying U = some du) (hdu : notInt du) (hi : P.info? e = some i) (hz : i.zero = some z)
    {x : Value} {m : Nat} {news : List Value} (hsrc : Src P w i.size x m news) {base : Option Addr} {n cap : Nat} {olds : List Value} (hold : Src P w i.size (.slice base n cap) n olds) (hroom : ¬ n + m ≤ cap)
    (hn : n + m ≤ 9223372036854775807) (hbytes : (n + m) * i.bytes ≤ 140737488355328) :
    (Builtin.append_ #[T, U] ty #[.slice base n cap, x]).run P w = .ok (.slice (some ⟨w.heap.size, 0, none⟩) (n + m) (grownCap w (n + m) cap e))
      (w.drew.alloc (.cells (olds.toArray ++ news.toArray ++ Builtin.zeroCells z.cells (grownCap w (n + m) cap e - (n + m))) e)) := by
  have h1 := (hsrc w rfl).1
  have h2 := (hsrc w.drew rfl).2
  have h3 := (hold w.drew rfl).2
  have hcap := growslice_fits (need := n + m) (old := cap) (by omega) hbytes
  have hfit : ¬ (281474976710656 < Builtin.nextslicecap (n + m) cap * i.bytes) := by omega
  have hask : ∀ k (w : World), (askRoom k).run P w = .ok () w := by
    intro k w
    unfold askRoom
    split <;> rfl
  have hif : ¬ (9223372036854775807 < (n : Int) + (m : Int) ∧ i.bytes = 0) := by omega
  rcases hdu with ⟨e', rfl⟩ | rfl <;>
    · simp [Builtin.append_, run_underlying ht, run_underlying hu, run_sizeOf' hi, run_typeInfo' hi, h1, hroom, hfit, Question.forced, hask]
      rw [if_neg hif, h3]
      simp [h2, run_zeroValue' hi hz, newRow, grownCap]
      have e1 : (olds ++ news).toArray = olds.toArray ++ news.toArray := by simp
      rw [e1, Array.append_assoc]

def appOk (C : Cx) (e U : TypeId) : Bool := match (C.T U).k, (C.T e).k with
  | .slice e', _ => e' == e
  | .str, .int .u8 => true
  | _, _ => false

/-- append(x, y...). -/
def apd (C : Cx) (s : St) (T U : TypeId) (x y : AV) : Option (AV × St) :=
  match (C.T T).k with
  | .slice e => if (C.T e).ok = true ∧ (C.T e).zero.wd = (C.T e).sz ∧ (flat (C.T e).zero).isSome = true ∧ appOk C e U = true then
      match (match x with | .nils => some (AV.uslice (C.T e).sz [], s) | .h a q => tk s (.h a q) | _ => none) with
      | some (.uslice sz xs, s1) => if sz = (C.T e).sz then
          match (match pkO x.owner y with
            | .nils => some ([], s1)
            | .slice ys => some (ys, s1)
            | .str l => some (l.map byteAV, s1)
            | .h a q => match tk s1 (.h a q) with
              | some (.uslice _ ys, s2) => some (ys, s2)
              | _ => none
            | _ => none) with
          | some (ys, s2) => if (∀ d ∈ ys, d.wd = (C.T e).sz) ∧ (xs.length + ys.length) * (C.T e).bytes ≤ 140737488355328 ∧ xs.length + ys.length ≤ 9223372036854775807 then some (.uslice sz (xs ++ ys), s2) else none
          | none => none
        else none
      | _ => none
    else none
  | _ => none

theorem RVs.append {xs ys : List AV} {c1 c2 : List Value} {S1 S2 S' : Nat → Prop} (h1 : RVs w F xs c1 S1) (h2 : RVs w F ys c2 S2) (e1 : ∀ b, S1 b → S' b) (e2 : ∀ b, S2 b → S' b) (e3 : ∀ b, S1 b → ¬ S2 b) : RVs w F (xs ++ ys) (c1 ++ c2) S' := by
  induction xs generalizing c1 S1 S' with
  | nil => rw [RVs] at h1; subst h1; exact RVs.mono (fun _ h => h) _ _ _ _ e2 h2
  | cons x xs ih =>
    rw [RVs] at h1
    obtain ⟨ca, cb, Sa, Sb, rfl, g1, g2, g3, g4, g5⟩ := h1
    rw [List.cons_append, RVs]
    refine ⟨ca, cb ++ c2, Sa, fun b => Sb b ∨ S2 b, by simp, g1, ih g2 (fun b h => .inl h) (fun b h => .inr h) (fun b h => e3 b (g4 b h)), fun b h => e1 b (g3 b h), ?_, ?_⟩
    · rintro b (h | h)
      · exact e1 b (g4 b h)
      · exact e2 b h
    · rintro b h (h' | h')
      · exact g5 b h h'
      · exact e3 b (g3 b h) h'

theorem src_row {P : Program} {size m cap : Nat} {b o : Nat} {news : List Value} (hrd : Rd w b o news) (hl : news.length = m * size) : Src P w size (.slice (some ⟨b, o, none⟩) m cap) m news := by
  intro w' hw
  refine ⟨rfl, ?_⟩
  refine run_firstCells_some w' size m ⟨b, o, none⟩ m cap news hl (fun j v hj => ?_)
  rw [Addr.add_lit]
  have := hrd j v hj
  simpa [World.cell?, hw] using this

theorem src_nil {P : Program} {size cap : Nat} : Src P w size (.slice none 0 cap) 0 [] := by
  intro w' _
  exact ⟨rfl, by simp [Builtin.firstCells]⟩

theorem src_empty {P : Program} {size cap : Nat} (a : Option Addr) : Src P w size (.slice a 0 cap) 0 [] := by
  cases a with
  | none => exact src_nil
  | some a =>
    intro w' _
    exact ⟨rfl, run_firstCells_some w' size 0 a 0 cap [] (by simp) (fun j v hj => by simp at hj)⟩

theorem src_str {P : Program} (l : List UInt8) : Src P w 1 (.string ⟨⟨l⟩⟩) l.length (l.map fun b => .int .u8 (b.toNat : Int)) := by
  intro w' _
  refine ⟨rfl, ?_⟩
  have : (⟨⟨l⟩⟩ : ByteArray).extract 0 l.length = ⟨⟨l⟩⟩ := by
    apply ByteArray.ext
    simp [ByteArray.data_extract]
  simp [Builtin.firstCells, this]


theorem RVs.elems_wd {sz : Nat} {xs : List AV} {cs : List Value} {S' : Nat → Prop} (h : RVs w F xs cs S') (hw : ∀ d ∈ xs, d.wd = sz) : cs.length = xs.length * sz := by
  rw [RVs.length _ _ _ h, wds_uniform _ hw]

/-- A block turns that nobody in the state holds. -/
theorem RelX.turn (h : RelX w0 F0 X F S s tm w) {w' : World} {b : Nat} (hb : ∀ c, c ≠ b → w'.heap[c]? = w.heap[c]?) (hs : w'.heap.size = w.heap.size) (h1 : w'.os = w.os) (h2 : w'.tape = w.tape) (h3 : w'.output = w.output)
    (hF : ¬ F b) (hS : ∀ u, ¬ S u b) (h0 : X b ∨ w0.heap.size ≤ b) : RelX w0 F0 X F S s tm w' where
  F0F := h.F0F
  FF0 := h.FF0
  Flt := fun c hc => by rw [hs]; exact h.Flt c hc
  Slt := fun t c hc => by rw [hs]; exact h.Slt t c hc
  SF := h.SF
  SS := h.SS
  S0 := h.S0
  sv := fun t => SV.frame (Sx := S) (fun c hc => hb c (by rintro rfl; exact hF hc)) (fun _ h => h) (fun x c hc => hb c (by rintro rfl; exact hS x hc)) h.sv _ _ _ (fun c hc => hb c (by rintro rfl; exact hS t hc)) (h.sv t)
  old := fun c hlt hX => by
    rw [hb c ?_]
    · exact h.old c hlt hX
    · rintro rfl
      rcases h0 with h0 | h0
      · exact hX h0
      · omega
  size := by rw [hs]; exact h.size
  os := h1.trans h.os
  tape := h2.trans h.tape
  output := h3.trans h.output

theorem apd_good (hC : C.Ok) (h : RelX w0 F0 X F S s tm w) {T U ty : TypeId} {x y : AV} {vx vy : Value} (hx : SV w F s tm x vx (fun _ => False)) (hy : SV w F s tm y vy (fun _ => False))
    (he : apd C s T U x y = some (av, s1)) : Good C w0 F0 X tm w (Builtin.append_ #[T, U] ty #[vx, vy]) av s1 := by
  unfold apd at he
  split at he
  · rename_i e hk
    obtain ⟨iT, d, zT, e1, e2, e3, e4, e5, e6, e7⟩ := hC.info (ok_of_k hk (by simp))
    rw [hk] at e7
    have := desc_slice e7; subst this
    split at he
    · rename_i hcond
      obtain ⟨hek, hzw, hzf, hU⟩ := hcond
      obtain ⟨i, de, z, f1, f2, f3, f4, f5, f6, f7⟩ := hC.info hek
      obtain ⟨zc, hzc⟩ := Option.isSome_iff_exists.1 hzf
      have hzcells := f5 zc hzc
      have hzl : zc.length = (C.T e).sz := by
        have := RV.length _ _ _ ((RV.flat (w := w) (F := F) _).1 (C.T e).zero zc (fun _ => False) (Nat.le_refl _) hzc)
        rw [this, hzw]
      -- the second argument's type
      obtain ⟨du, hu, hdu⟩ : ∃ du, C.P.underlying U = some du ∧ notInt du := by
        unfold appOk at hU
        split at hU
        · rename_i e' hk'
          obtain ⟨_, d', _, _, _, _, _, _, g6, g7⟩ := hC.info (ok_of_k hk' (by simp))
          rw [hk'] at g7
          exact ⟨d', g6, .inl ⟨_, desc_slice g7⟩⟩
        · rename_i hk' _
          obtain ⟨_, d', _, _, _, _, _, _, g6, g7⟩ := hC.info (ok_of_k hk' (by simp))
          rw [hk'] at g7
          exact ⟨d', g6, .inr (desc_str g7)⟩
        · cases hU
      split at he
      · rename_i sz xs sa hbase
        split at he
        · rename_i hsz
          subst hsz
          split at he
          · rename_i ys sb hitems
            split at he
            · rename_i hfin
              obtain ⟨hyw, hbytes, h63⟩ := hfin
              simp only [Option.some.injEq, Prod.mk.injEq] at he
              obtain ⟨rfl, rfl⟩ := he
              -- the base, taken
              obtain ⟨Sa, a0, Sn, a3, a4, a5, a6, a7, a8, a9, a10⟩ : ∃ Sa, RelX w0 F0 X F Sa sa tm w ∧ ∃ Sn, RV w F (.uslice (C.T e).sz xs) [vx] Sn ∧ (∀ b, Sn b → b < w.heap.size) ∧ (∀ b, Sn b → ¬ F b) ∧ (∀ u b, Sn b → ¬ Sa u b) ∧
                  (∀ b, Sn b → X b ∨ w0.heap.size ≤ b) ∧ (∀ u b, Sa u b → S u b) ∧ (∀ b, Sn b → ∃ u, S u b) ∧ SV w F sa tm (pkO x.owner y) vy (fun _ => False) := by
                split at hbase
                · simp only [Option.some.injEq, Prod.mk.injEq, AV.uslice.injEq, true_and] at hbase
                  obtain ⟨rfl, rfl⟩ := hbase
                  have := sv_nils hx; subst this
                  exact ⟨S, h, fun _ => False, by rw [RV]; exact .inl ⟨rfl, rfl⟩, fun _ h => h.elim, fun _ h => h.elim, fun _ _ h => h.elim, fun _ h => h.elim, fun _ _ h => h, fun _ h => h.elim, hy⟩
                · obtain ⟨S1, g0, g1, g2, Sn, g3, g4, g5, g6, g7, g8, g9, g10⟩ := tk_sv h rfl hx hbase
                  rw [vc_one g2] at g3
                  exact ⟨S1, g0, Sn, g3, g4, g5, g6, g7, g8, g9, g10 _ _ _ hy⟩
                · cases hbase
              -- the items
              obtain ⟨Sb, b0, Sm, news, b1, b2, b3, b4, b5, b6, b7, b8⟩ : ∃ Sb, RelX w0 F0 X F Sb sb tm w ∧ ∃ Sm news, RVs w F ys news Sm ∧ Src C.P w i.size vy ys.length news ∧ (∀ b, Sm b → b < w.heap.size) ∧ (∀ b, Sm b → ¬ F b) ∧ (∀ u b, Sm b → ¬ Sb u b) ∧
                  (∀ b, Sm b → X b ∨ w0.heap.size ≤ b) ∧ (∀ u b, Sb u b → Sa u b) ∧ (∀ b, Sm b → ∃ u, Sa u b) := by
                split at hitems
                · rename_i hpk
                  simp only [Option.some.injEq, Prod.mk.injEq] at hitems
                  obtain ⟨rfl, rfl⟩ := hitems
                  rw [hpk] at a10
                  have := sv_nils a10; subst this
                  exact ⟨Sa, a0, fun _ => False, [], by rw [RVs], src_nil, fun _ h => h.elim, fun _ h => h.elim, fun _ _ h => h.elim, fun _ h => h.elim, fun _ _ h => h, fun _ h => h.elim⟩
                · rename_i zs hpk
                  simp only [Option.some.injEq, Prod.mk.injEq] at hitems
                  obtain ⟨rfl, rfl⟩ := hitems
                  rw [hpk] at a10
                  rcases sv_slice a10 with ⟨rfl, ad, cc, rfl, _, hac⟩ | ⟨b, o, cap, ecs, sz', rfl, k1, k2, k3, k4, k5, k6⟩
                  · exact ⟨Sa, a0, fun _ => False, [], by rw [RVs], src_empty ad, fun _ h => h.elim, fun _ h => h.elim, fun _ _ h => h.elim, fun _ h => h.elim, fun _ _ h => h, fun _ h => h.elim⟩
                  · exact ⟨Sa, a0, fun _ => False, ecs, k6, src_row k5 (by rw [f2]; exact RVs.elems_wd k6 hyw), fun _ h => h.elim, fun _ h => h.elim, fun _ _ h => h.elim, fun _ h => h.elim, fun _ _ h => h, fun _ h => h.elim⟩
                · rename_i l hpk
                  simp only [Option.some.injEq, Prod.mk.injEq] at hitems
                  obtain ⟨rfl, rfl⟩ := hitems
                  rw [hpk] at a10
                  have := sv_str a10; subst this
                  have hsz1 : l ≠ [] → i.size = 1 := by
                    intro hl
                    cases l with
                    | nil => exact (hl rfl).elim
                    | cons b l => rw [f2, ← hyw (byteAV b) (by simp)]; rfl
                  by_cases hl : l = []
                  · subst hl
                    refine ⟨Sa, a0, fun _ => False, [], by simp only [List.map_nil]; rw [RVs], ?_, fun _ h => h.elim, fun _ h => h.elim, fun _ _ h => h.elim, fun _ h => h.elim, fun _ _ h => h, fun _ h => h.elim⟩
                    intro w' _
                    exact ⟨rfl, by simp [Builtin.firstCells, ByteArray.extract]; rfl⟩
                  · refine ⟨Sa, a0, fun _ => False, _, rvs_bytes l _, ?_, fun _ h => h.elim, fun _ h => h.elim, fun _ _ h => h.elim, fun _ h => h.elim, fun _ _ h => h, fun _ h => h.elim⟩
                    rw [hsz1 hl, List.length_map]
                    exact src_str l
                · rename_i a q hpk
                  split at hitems
                  · rename_i sz2 zs s2 ht
                    simp only [Option.some.injEq, Prod.mk.injEq] at hitems
                    obtain ⟨rfl, rfl⟩ := hitems
                    rw [hpk] at a10
                    obtain ⟨S2, g0, g1, g2, Sm, g3, g4, g5, g6, g7, g8, g9, g10⟩ := tk_sv a0 rfl a10 ht
                    rw [vc_one g2, RV] at g3
                    rcases g3 with ⟨rfl, hv0⟩ | ⟨b, cap, cur, e0, fr, S', hv0, k1, k2, k3, k4, k5, k6, k7, k8, k9, k10⟩
                    · simp at hv0; subst hv0
                      exact ⟨S2, g0, fun _ => False, [], by rw [RVs], src_nil, fun _ h => h.elim, fun _ h => h.elim, fun _ _ h => h.elim, fun _ h => h.elim, g8, fun _ h => h.elim⟩
                    · simp at hv0; subst hv0
                      refine ⟨S2, g0, S', _, k8, src_row (rd_of_row k2 _) ?_, fun c hc => g4 c (k9 c hc), fun c hc => g5 c (k9 c hc), fun u c hc => g6 u c (k9 c hc), fun c hc => g7 c (k9 c hc), g8, fun c hc => g9 c (k9 c hc)⟩
                      rw [f2]; exact RVs.elems_wd k8 hyw
                  · cases hitems
                · cases hitems
              have hnl : news.length = ys.length * (C.T e).sz := RVs.elems_wd b1 hyw
              have disj : ∀ c, Sn c → ¬ Sm c := fun c h1 h2 => by obtain ⟨u, hu⟩ := b8 c h2; exact a6 u c h1 hu
              have hab : ∀ u c, Sn c → ¬ Sb u c := fun u c h1 h2 => a6 u c h1 (b7 u c h2)
              -- a new row
              have grow : ∀ (base : Option Addr) (cap : Nat) (olds : List Value) (Sx : Nat → Prop), vx = .slice base xs.length cap → Src C.P w i.size (.slice base xs.length cap) xs.length olds → RVs w F xs olds Sx → (∀ d ∈ xs, d.wd = (C.T e).sz) → (∀ c, Sx c → Sn c) → ¬ xs.length + ys.length ≤ cap →
                  Good C w0 F0 X tm w (Builtin.append_ #[T, U] ty #[vx, vy]) (.uslice (C.T e).sz (xs ++ ys)) sb := by
                intro base cap olds Sx hvx hold hox hxw hsub hroom
                subst hvx
                have hr := run_append_grow' (ty := ty) e6 hu hdu f1 f4 b2 hold hroom h63 (by rw [f3]; exact hbytes)
                have hge := grownCap_ge w (xs.length + ys.length) cap e
                have hcm := grownCap_le_maxLen w (xs.length + ys.length) cap e (by unfold maxLen; omega)
                have hol := RVs.elems_wd hox hxw
                have hboth : RVs w F (xs ++ ys) (olds ++ news) (fun c => Sx c ∨ Sm c) := RVs.append hox b1 (fun _ h => .inl h) (fun _ h => .inr h) (fun c h1 h2 => disj c (hsub c h1) h2)
                have hblen : (olds ++ news).length = (xs ++ ys).length * (C.T e).sz := by simp [hol, hnl, Nat.add_mul]
                have hnew := b0.newS (w' := w.drew.alloc (.cells (olds.toArray ++ news.toArray ++ Builtin.zeroCells z.cells (grownCap w (xs.length + ys.length) cap e - (xs.length + ys.length))) e))
                  (sz := (C.T e).sz) (cap := grownCap w (xs.length + ys.length) cap e) (xs := xs ++ ys) (e := e) (fr := (0, 0)) (Sn := fun c => Sx c ∨ Sm c) rfl rfl rfl rfl
                  (fun o _ ⟨_, h2⟩ => absurd h2 (Nat.not_lt_zero _)) (by simpa using hge) hcm
                  (by
                    simp only [Array.size_append, List.size_toArray, size_zeroCells, hzcells, hol, hnl, hzl, ← Nat.add_mul]
                    congr 1; omega)
                  (by
                    intro d hd
                    rcases List.mem_append.1 hd with hd | hd
                    · exact hxw d hd
                    · exact hyw d hd)
                  (by
                    simp only [Array.toList_append]
                    rw [List.take_left' hblen]
                    exact hboth)
                  (by rintro c (hc | hc); exact a4 c (hsub c hc); exact b3 c hc) (by rintro c (hc | hc); exact a5 c (hsub c hc); exact b4 c hc) (by rintro u c (hc | hc); exact hab u c (hsub c hc); exact b5 u c hc) (by rintro c (hc | hc); exact a7 c (hsub c hc); exact b6 c hc)
                refine ⟨_, _, F, Sb, hr, hnew.1, ?_⟩
                have := hnew.2
                simpa using this
              rw [RV] at a3
              rcases a3 with ⟨rfl, hv0⟩ | ⟨b, cap, cur, e0, fr, S', hv0, k1, k2, k3, k4, k5, k6, k7, k8, k9, k10⟩
              · simp at hv0; subst hv0
                by_cases hy0 : ys = []
                · subst hy0
                  have hn0 : news = [] := by simpa using hnl
                  subst hn0
                  refine ⟨.slice none 0 0, w, F, Sb, ?_, b0, .inr ⟨rfl, rfl, fun _ => False, by simp only [vc, vc1]; rw [RV]; exact .inl ⟨rfl, rfl⟩, fun _ h => h.elim, fun _ h => h.elim, fun _ _ h => h.elim, fun _ h => h.elim⟩⟩
                  obtain ⟨h1, h2⟩ := b2 w rfl
                  rcases hdu with ⟨e', rfl⟩ | rfl <;> simp at h1 h2 <;> simp [Builtin.append_, run_underlying e6, run_underlying hu, run_sizeOf' f1, h1, h2]
                · exact grow none 0 [] (fun _ => False) rfl src_nil (by rw [RVs]) (by simp) (fun _ h => h.elim) (by
                    cases ys with
                    | nil => exact (hy0 rfl).elim
                    | cons y ys => simp)
              · simp at hv0; subst hv0
                by_cases hroom : xs.length + ys.length ≤ cap
                · -- room
                  have hol := RVs.elems_wd k8 k7
                  have hlen : cur.toList.length = cap * (C.T e).sz := by simp [k6]
                  have hle : (xs.length + ys.length) * (C.T e).sz ≤ cap * (C.T e).sz := Nat.mul_le_mul_right _ hroom
                  rw [Nat.add_mul] at hle
                  have hcur : cur.toList = cur.toList.take (xs.length * (C.T e).sz) ++ ((cur.toList.drop (xs.length * (C.T e).sz)).take news.length ++ (cur.toList.drop (xs.length * (C.T e).sz)).drop news.length) := by
                    rw [List.take_append_drop, List.take_append_drop]
                  obtain ⟨w', m1, m2, m3, m4, m5, m6, m7⟩ := run_append_room' (ty := ty) (n := xs.length) (m := ys.length) (cap := cap) e6 hu hdu f1 b2 k2 k3 hcur (by rw [f2]; exact hol) (by simp [hlen, hnl]; omega) (RVs.ones _ _ _ b1) hroom
                  have hb0' := b0.turn m3 m4 m5 m6 m7 (a5 b k1) (fun u hu => hab u b k1 hu) (a7 b k1)
                  have hFb : ∀ c, F c → w'.heap[c]? = w.heap[c]? := fun c hc => m3 c (by rintro rfl; exact a5 _ k1 hc)
                  refine ⟨_, w', F, Sb, m1, hb0', .inr ⟨rfl, rfl, fun c => Sn c ∨ Sm c, ?_, ?_, ?_, ?_, ?_⟩⟩
                  · simp only [vc, vc1]
                    rw [RV]
                    have hnewl : (cur.toList.take (xs.length * (C.T e).sz) ++ (news ++ (cur.toList.drop (xs.length * (C.T e).sz)).drop news.length)).toArray.size = cur.size := by
                      have : cur.size = cur.toList.length := by simp
                      rw [this]
                      conv => rhs; rw [hcur]
                      simp [hlen, hnl]; omega
                    refine .inr ⟨b, cap, _, e0, fr, fun c => S' c ∨ Sm c, by simp, .inl k1, m2, by rw [hnewl]; exact k3, by simpa using hroom, k5, by rw [hnewl]; exact k6, ?_, ?_, ?_, ?_⟩
                    · intro d hd
                      rcases List.mem_append.1 hd with hd | hd
                      · exact k7 d hd
                      · exact hyw d hd
                    · have hx' := RVs.frame hFb _ _ _ (fun c hc => m3 c (by rintro rfl; exact k10 hc)) k8
                      have hy' := RVs.frame hFb _ _ _ (fun c hc => m3 c (by rintro rfl; exact disj _ k1 hc)) b1
                      have : ((cur.toList.take (xs.length * (C.T e).sz) ++ (news ++ (cur.toList.drop (xs.length * (C.T e).sz)).drop news.length)).toArray.toList.take ((xs ++ ys).length * (C.T e).sz)) = cur.toList.take (xs.length * (C.T e).sz) ++ news := by
                        simp only []
                        rw [← List.append_assoc]
                        exact List.take_left' (by rw [List.length_append, hol, hnl, List.length_append, Nat.add_mul])
                      rw [this]
                      exact RVs.append hx' hy' (fun _ h => .inl h) (fun _ h => .inr h) (fun c h1 h2 => disj c (k9 c h1) h2)
                    · rintro c (hc | hc)
                      · exact .inl (k9 c hc)
                      · exact .inr hc
                    · rintro (hc | hc)
                      · exact k10 hc
                      · exact disj b k1 hc
                  · rw [m4]; rintro c (hc | hc); exact a4 c hc; exact b3 c hc
                  · rintro c (hc | hc); exact a5 c hc; exact b4 c hc
                  · rintro u c (hc | hc); exact hab u c hc; exact b5 u c hc
                  · rintro c (hc | hc); exact a7 c hc; exact b6 c hc
                · exact grow (some ⟨b, 0, none⟩) cap _ S' rfl (src_row (rd_of_row k2 _) (by rw [f2]; exact RVs.elems_wd k8 k7)) k8 k7 k9 hroom
            · cases he
          · cases he
        · cases he
      · cases he
    · cases he
  · cases he

end
end Go.Fw
