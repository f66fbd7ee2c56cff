/- Part of a proof that a law returns true for every input. No condition. -/
import Derived.Test.YtncnipaofaeaiaaFw9
namespace Go.Fw

section
variable {C : Cx} {w0 w : World} {F0 X F : Nat → Prop} {S : Nat → Nat → Prop} {s s1 : St} {tm : Nat → Value} {av : AV}

/-- A byte of a string. -/
def idx (C : Cx) (T : TypeId) (x i : AV) : Option AV :=
  match (C.T T).k, x, i with
  | .str, .str l, .int _ n => if 0 ≤ n then (match l[n.toNat]? with | some b => some (.int .u8 b.toNat) | none => none) else none
  | _, _, _ => none

theorem ba_get (l : List UInt8) (n : Nat) : (⟨⟨l⟩⟩ : ByteArray)[n]? = l[n]? := by
  by_cases h : n < l.length
  · have h' : n < (⟨⟨l⟩⟩ : ByteArray).size := h
    rw [List.getElem?_eq_getElem h, getElem?_pos (⟨⟨l⟩⟩ : ByteArray) n h']
    rfl
  · have h' : ¬ n < (⟨⟨l⟩⟩ : ByteArray).size := h
    rw [List.getElem?_eq_none (by omega), getElem?_neg (⟨⟨l⟩⟩ : ByteArray) n h']

theorem idx_good (hC : C.Ok) (h : RelX w0 F0 X F S s tm w) {T : TypeId} {x i : AV} {v vi : Value} (hv : SV w F s tm x v (fun _ => False)) (hi : SV w F s tm i vi (fun _ => False)) (he : idx C T x i = some av) :
    Good C w0 F0 X tm w (Instr.index T v vi) av s := by
  unfold idx at he
  split at he
  · rename_i l k n hk
    have := sv_str hv; subst this
    have := sv_int hi; subst this
    obtain ⟨i, d, z, e1, e2, e3, e4, e5, e6, e7⟩ := hC.info (ok_of_k hk (by simp))
    rw [hk] at e7
    have := desc_str e7; subst this
    split at he
    · rename_i hn
      split at he
      · rename_i b hb
        simp only [Option.some.injEq] at he; subst he
        refine Good.same h ?_ rfl (of_int _ _)
        simp [Instr.index, asIntOf, run_underlying e6, hn, ba_get, hb]
      · cases he
    · cases he
  · cases he

/-- The length of a row. -/
def lenOf (s : St) : AV → Option Nat
  | .str l => some l.length
  | .nils => some 0
  | .slice xs => some xs.length
  | .h y q => match AV.sub q (s y) with
    | some (.uslice _ xs) => some xs.length
    | _ => none
  | _ => none

def ln (C : Cx) (s : St) (T : TypeId) (x : AV) : Option AV :=
  match (C.T T).k, x with
  | .str, .str l => some (.int .i64 l.length)
  | .slice _, .nils => some (.int .i64 0)
  | .slice _, .slice xs => some (.int .i64 xs.length)
  | .slice _, .h y q => match AV.sub q (s y) with
    | some (.uslice _ xs) => some (.int .i64 xs.length)
    | _ => none
  | _, _ => none

theorem sv_slice {xs : List AV} {v : Value} {S' : Nat → Prop} (h : SV w F s tm (.slice xs) v S') : (xs = [] ∧ ∃ a c, v = .slice a 0 c ∧ c ≤ maxLen ∧ (a = none → c = 0)) ∨
    ∃ b o cap ecs sz, v = .slice (some ⟨b, o, none⟩) xs.length cap ∧ F b ∧ xs.length ≤ cap ∧ cap ≤ maxLen ∧ (∀ d ∈ xs, d.wd = sz) ∧ Rd w b o ecs ∧ RVs w F xs ecs (fun _ => False) := by
  have h' := (SV.of_tree rfl).1 h
  rw [RV, vc_one h'.1] at h'
  obtain ⟨_, ⟨rfl, a, c, h2, h3⟩ | ⟨b, o, cap, ecs, sz, h2, h3⟩⟩ := h'
  · simp at h2; exact .inl ⟨rfl, a, c, h2, h3⟩
  · simp at h2; exact .inr ⟨b, o, cap, ecs, sz, h2, h3⟩

theorem ln_good (hC : C.Ok) (h : RelX w0 F0 X F S s tm w) {T ty : TypeId} {x : AV} {v : Value} (hv : SV w F s tm x v (fun _ => False)) (he : ln C s T x = some av) :
    Good C w0 F0 X tm w (Builtin.len_ #[T] ty #[v]) av s := by
  unfold ln at he
  split at he
  · rename_i l hk
    have := sv_str hv; subst this
    obtain ⟨i, d, z, e1, e2, e3, e4, e5, e6, e7⟩ := hC.info (ok_of_k hk (by simp))
    rw [hk] at e7
    have := desc_str e7; subst this
    simp only [Option.some.injEq] at he; subst he
    refine Good.same h ?_ rfl (of_int _ _)
    simp [Builtin.len_, run_underlying e6, goInt]
    rfl
  · rename_i e hk
    have := sv_nils hv; subst this
    obtain ⟨i, d, z, e1, e2, e3, e4, e5, e6, e7⟩ := hC.info (ok_of_k hk (by simp))
    rw [hk] at e7
    have := desc_slice e7; subst this
    simp only [Option.some.injEq] at he; subst he
    refine Good.same h ?_ rfl (of_int _ _)
    simp [Builtin.len_, run_underlying e6, goInt]
  · rename_i e xs hk
    obtain ⟨i, d, z, e1, e2, e3, e4, e5, e6, e7⟩ := hC.info (ok_of_k hk (by simp))
    rw [hk] at e7
    have := desc_slice e7; subst this
    simp only [Option.some.injEq] at he; subst he
    refine Good.same h ?_ rfl (of_int _ _)
    rcases sv_slice hv with ⟨rfl, a, c, rfl, _⟩ | ⟨b, o, cap, ecs, sz, rfl, _⟩ <;> simp [Builtin.len_, run_underlying e6, goInt]
  · rename_i e y q hk
    split at he
    · rename_i sz xs hd
      obtain ⟨i, d, z, e1, e2, e3, e4, e5, e6, e7⟩ := hC.info (ok_of_k hk (by simp))
      rw [hk] at e7
      have := desc_slice e7; subst this
      simp only [Option.some.injEq] at he; subst he
      refine Good.same h ?_ rfl (of_int _ _)
      rcases h_slice h hv hd with ⟨rfl, rfl⟩ | ⟨b, cap, cur, e2, fr, rfl, _⟩ <;> simp [Builtin.len_, run_underlying e6, goInt]
    · cases he
  · cases he

/-- The bytes that a row of small numbers holds. -/
def bytesOf : List AV → Option (List UInt8)
  | [] => some []
  | .int .u8 n :: r => if 0 ≤ n ∧ n < 256 then (bytesOf r).map (UInt8.ofNat n.toNat :: ·) else none
  | _ => none

def byteAV (b : UInt8) : AV := .int .u8 b.toNat

theorem bytesOf_map (l : List UInt8) : bytesOf (l.map byteAV) = some l := by
  induction l with
  | nil => rfl
  | cons b l ih =>
    have hb : b.toNat < 256 := b.toNat_lt
    simp only [List.map_cons, byteAV, bytesOf, Int.toNat_natCast]
    rw [if_pos (by omega), ih]
    simp

theorem bytesOf_cells : ∀ (xs : List AV) (l : List UInt8) (cs : List Value) (S' : Nat → Prop), bytesOf xs = some l → RVs w F xs cs S' → cs = l.map (fun b => .int .u8 (b.toNat : Int)) ∧ xs.length = l.length
  | [], l, cs, S', h, hr => by simp [bytesOf] at h; subst h; rw [RVs] at hr; subst hr; exact ⟨rfl, rfl⟩
  | x :: xs, l, cs, S', h, hr => by
    unfold bytesOf at h
    split at h
    · rename_i e; cases e
    · rename_i n r e
      simp only [List.cons.injEq] at e
      obtain ⟨rfl, rfl⟩ := e
      split at h
      · rename_i hn
        simp only [Option.map_eq_some_iff] at h
        obtain ⟨l', h1, rfl⟩ := h
        rw [RVs] at hr
        obtain ⟨c1, c2, S1, S2, rfl, h2, h3, _⟩ := hr
        obtain ⟨rfl, h4⟩ := bytesOf_cells xs l' c2 S2 h1 h3
        rw [RV] at h2; subst h2
        refine ⟨?_, by simp [h4]⟩
        simp only [List.map_cons, List.cons_append, List.nil_append, List.cons.injEq, and_true, Value.int.injEq, true_and]
        simp only [UInt8.toNat_ofNat']
        omega
      · cases h
    · cases h

/-- A new row of one's own. -/
theorem RelX.newS (h : RelX w0 F0 X F S s tm w) {w' : World} {sz cap : Nat} {xs : List AV} {cur : Array Value} {e : TypeId} {fr : Nat × Nat} {Sn : Nat → Prop}
    (hw : w'.heap = w.heap.push (.cells cur e fr)) (h1 : w'.os = w.os) (h2 : w'.tape = w.tape) (h3 : w'.output = w.output)
    (hf : nofrz fr cur.size) (hle : xs.length ≤ cap) (hm : cap ≤ maxLen) (hsz : cur.size = cap * sz) (hwd : ∀ d ∈ xs, d.wd = sz) (hv : RVs w F xs (cur.toList.take (xs.length * sz)) Sn)
    (hlt : ∀ b, Sn b → b < w.heap.size) (hF : ∀ b, Sn b → ¬ F b) (hS : ∀ u b, Sn b → ¬ S u b) (h0 : ∀ b, Sn b → X b ∨ w0.heap.size ≤ b) :
    RelX w0 F0 X F S s tm w' ∧ Val w0 X F S s tm w' (.uslice sz xs) (.slice (some ⟨w.heap.size, 0, none⟩) xs.length cap) := by
  have hold : ∀ b, b < w.heap.size → w'.heap[b]? = w.heap[b]? := by
    intro b hb
    rw [hw, Array.getElem?_push, if_neg (by omega)]
  have hgrow : w'.heap.size = w.heap.size + 1 := by rw [hw]; simp
  refine ⟨h.grow hold (by omega) h1 h2 h3, .inr ⟨rfl, rfl, fun b => b = w.heap.size ∨ Sn b, ?_, ?_, ?_, ?_, ?_⟩⟩
  · simp only [vc, vc1]
    rw [RV]
    refine .inr ⟨w.heap.size, cap, cur, e, fr, Sn, rfl, .inl rfl, ?_, hf, hle, hm, hsz, hwd, ?_, fun c hc => .inr hc, fun hc => Nat.lt_irrefl _ (hlt _ hc)⟩
    · rw [hw]; simp
    · exact RVs.frame (fun b hb => hold b (h.Flt b hb)) _ _ _ (fun b hb => hold b (hlt b hb)) hv
  · rintro b (rfl | hb)
    · omega
    · have := hlt b hb; omega
  · rintro b (rfl | hb) hF'
    · exact Nat.lt_irrefl _ (h.Flt _ hF')
    · exact hF b hb hF'
  · rintro u b (rfl | hb) hu
    · exact Nat.lt_irrefl _ (h.Slt _ _ hu)
    · exact hS u b hb hu
  · rintro b (rfl | hb)
    · exact .inr h.size
    · exact h0 b hb

/-- Conversions. -/
def cvt (C : Cx) (s : St) (A B : TypeId) (x : AV) : Option AV :=
  if (C.T A).ok = true then
  match (C.T B).k, x with
  | .int k, .int _ n => some (.int k (k.wrap n))
  | .str, .str l => match (C.T A).k with
    | .str => some (.str l)
    | _ => none
  | .str, x => match (C.T A).k with
    | .slice e => match (C.T e).k with
      | .int .u8 => match x with
        | .nils => some (.str [])
        | .slice xs => (bytesOf xs).map .str
        | .h y q => match AV.sub q (s y) with
          | some (.uslice 1 xs) => (bytesOf xs).map .str
          | _ => none
        | _ => none
      | _ => none
    | _ => none
  | .slice e, .str l => match (C.T A).k, (C.T e).k with
    | .str, .int .u8 => if l.length ≤ 9223372036854775807 then some (.uslice 1 (l.map byteAV)) else none
    | _, _ => none
  | _, _ => none
  else none

theorem rvs_bytes (l : List UInt8) (S' : Nat → Prop) : RVs w F (l.map byteAV) (l.map fun b => .int .u8 (b.toNat : Int)) S' := by
  induction l generalizing S' with
  | nil => simp only [List.map_nil]; rw [RVs]
  | cons b l ih =>
    simp only [List.map_cons]
    rw [RVs]
    exact ⟨[.int .u8 (b.toNat : Int)], _, fun _ => False, fun _ => False, rfl, by rw [byteAV, RV], ih _, fun _ h => h.elim, fun _ h => h.elim, fun _ h => h.elim⟩

theorem cvt_good (hC : C.Ok) (h : RelX w0 F0 X F S s tm w) {A B : TypeId} {x : AV} {v : Value} (hv : SV w F s tm x v (fun _ => False)) (he : cvt C s A B x = some av) :
    Good C w0 F0 X tm w (convert A B v) av s := by
  unfold cvt at he
  split at he
  · rename_i hA
    obtain ⟨ia, da, za, a1, a2, a3, a4, a5, a6, a7⟩ := hC.info hA
    split at he
    · rename_i k k' n hk
      have := sv_int hv; subst this
      obtain ⟨i, d, z, e1, e2, e3, e4, e5, e6, e7⟩ := hC.info (ok_of_k hk (by simp))
      rw [hk] at e7
      have := desc_int e7; subst this
      simp only [Option.some.injEq] at he; subst he
      refine Good.same h ?_ rfl (of_int _ _)
      simp [convert, run_underlying a6, run_underlying e6, Conv.intToInt]
    · rename_i l hk
      have := sv_str hv; subst this
      obtain ⟨i, d, z, e1, e2, e3, e4, e5, e6, e7⟩ := hC.info (ok_of_k hk (by simp))
      rw [hk] at e7
      have := desc_str e7; subst this
      split at he
      · rename_i hka
        rw [hka] at a7
        have := desc_str a7; subst this
        simp only [Option.some.injEq] at he; subst he
        refine Good.same h ?_ rfl (of_str _)
        simp [convert, run_underlying a6, run_underlying e6]
      · cases he
    · rename_i x hk _
      obtain ⟨i, d, z, e1, e2, e3, e4, e5, e6, e7⟩ := hC.info (ok_of_k hk (by simp))
      rw [hk] at e7
      have := desc_str e7; subst this
      split at he
      · rename_i e hka
        rw [hka] at a7
        have := desc_slice a7; subst this
        split at he
        · rename_i hke
          obtain ⟨i', d', z', f1, f2, f3, f4, f5, f6, f7⟩ := hC.info (ok_of_k hke (by simp))
          rw [hke] at f7
          have := desc_int f7; subst this
          have fin : ∀ (l : List UInt8) (b o cap : Nat), Rd w b o (l.map fun b => .int .u8 (b.toNat : Int)) → (convert A B (.slice (some ⟨b, o, none⟩) l.length cap)).run C.P w = .ok (.string ⟨⟨l⟩⟩) w := by
            intro l b o cap hrd
            refine run_convert_bytes_back w A B e ⟨b, o, none⟩ cap l a6 f6 e6 (fun j hj => ?_)
            rw [Addr.add_lit]
            exact hrd j _ (by simp [hj])
          have nil : (convert A B (.slice none 0 0)).run C.P w = .ok (.string ⟨⟨[]⟩⟩) w := by
            simp [convert, run_underlying a6, run_underlying e6, run_underlying f6, Conv.bytesToString]
            rfl
          split at he
          · have := sv_nils hv; subst this
            simp only [Option.some.injEq] at he; subst he
            exact Good.same h nil rfl (of_str _)
          · rename_i xs _
            simp only [Option.map_eq_some_iff] at he
            obtain ⟨l, hl, rfl⟩ := he
            rcases sv_slice hv with ⟨rfl, a, c, rfl, _, hac⟩ | ⟨b, o, cap, ecs, sz, rfl, h1, h2, h3, h4, h5, h6⟩
            · simp [bytesOf] at hl; subst hl
              cases a with
              | none =>
                have := hac rfl; subst this
                exact Good.same h nil rfl (of_str _)
              | some a =>
                refine Good.same h ?_ rfl (of_str _)
                exact run_convert_bytes_back w A B e a c [] a6 f6 e6 (fun j hj => by simp at hj)
            · obtain ⟨rfl, h7⟩ := bytesOf_cells xs l ecs _ hl h6
              rw [h7]
              exact Good.same h (fin l b o cap h5) rfl (of_str _)
          · rename_i y q
            split at he
            · rename_i xs hd
              simp only [Option.map_eq_some_iff] at he
              obtain ⟨l, hl, rfl⟩ := he
              rcases h_slice h hv hd with ⟨rfl, rfl⟩ | ⟨b, cap, cur, e2, fr, rfl, h1, h2, h3, h4, h5, h6, S', h7, _⟩
              · simp [bytesOf] at hl; subst hl
                exact Good.same h nil rfl (of_str _)
              · obtain ⟨h8, h9⟩ := bytesOf_cells xs l _ _ hl h7
                rw [h9]
                refine Good.same h (fin l b 0 cap ?_) rfl (of_str _)
                rw [← h8]
                exact rd_of_row h1 _
            · cases he
          · cases he
        · cases he
      · cases he
    · rename_i e l hk
      have := sv_str hv; subst this
      obtain ⟨i, d, z, e1, e2, e3, e4, e5, e6, e7⟩ := hC.info (ok_of_k hk (by simp))
      rw [hk] at e7
      have := desc_slice e7; subst this
      split at he
      · rename_i hka hke
        rw [hka] at a7
        have := desc_str a7; subst this
        obtain ⟨i', d', z', f1, f2, f3, f4, f5, f6, f7⟩ := hC.info (ok_of_k hke (by simp))
        rw [hke] at f7
        have := desc_int f7; subst this
        split at he
        · rename_i hl
          simp only [Option.some.injEq] at he; subst he
          have hs : (⟨⟨l⟩⟩ : ByteArray).size = l.length := rfl
          have hge := grownCap_ge w l.length 0 e
          have hlm := grownCap_le_maxLen w l.length 0 e (by unfold maxLen; omega)
          have hrow : (bytesRow ⟨⟨l⟩⟩ (grownCap w l.length 0 e)).toList = l.map (fun b => Value.int .u8 (b.toNat : Int)) ++ List.replicate (grownCap w l.length 0 e - l.length) (.int .u8 0) := by
            simp [bytesRow, hs]
          have hsz : (bytesRow ⟨⟨l⟩⟩ (grownCap w l.length 0 e)).size = grownCap w l.length 0 e * 1 := by
            have : (bytesRow ⟨⟨l⟩⟩ (grownCap w l.length 0 e)).size = (bytesRow ⟨⟨l⟩⟩ (grownCap w l.length 0 e)).toList.length := by simp
            rw [this, hrow]; simp; omega
          have hrun := run_bytes_of_string w A B e ⟨⟨l⟩⟩ a6 e6 f6
          rw [hs] at hrun
          have hnew := h.newS (w' := w.drew.alloc (.cells (bytesRow ⟨⟨l⟩⟩ (grownCap w l.length 0 e)) e ((bytesRow ⟨⟨l⟩⟩ (grownCap w l.length 0 e)).size, (bytesRow ⟨⟨l⟩⟩ (grownCap w l.length 0 e)).size + 1)))
            (sz := 1) (cap := grownCap w l.length 0 e) (xs := l.map byteAV) (cur := bytesRow ⟨⟨l⟩⟩ (grownCap w l.length 0 e)) (e := e) (Sn := fun _ => False) rfl rfl rfl rfl
            (fun o ho ⟨h1, _⟩ => by simp only at h1; omega) (by simpa using hge) hlm hsz (by intro d hd; obtain ⟨b, _, rfl⟩ := List.mem_map.1 hd; rfl)
            (by rw [hrow, List.take_left' (by simp)]; exact rvs_bytes l _) (fun _ h => h.elim) (fun _ h => h.elim) (fun _ _ h => h.elim) (fun _ h => h.elim)
          simp only [List.length_map] at hnew
          exact ⟨_, _, F, S, hrun, hnew.1, hnew.2⟩
        · cases he
      · cases he
    · cases he
  · cases he

end
end Go.Fw
