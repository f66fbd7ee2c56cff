/- Part of a proof that a law returns true for every input. No condition. -/
import Derived.Test.YtncnipaofaeaiaaFw33
namespace Go.Fw

/-! Walking: steps of the printed proofs. -/

section
variable {C : Cx} {l : List (Nat × AV)} {Q : Exit → St → Prop} {s : St} {os ros : List RO} {K : Option (List FP) → St → Prop} {dst : Option Nat}

theorem ev_s (l : List (Nat × AV)) : (∀ n, ev (stA l) (.t n) = al n (stA l n)) ∧ (∀ av, ev (stA l) (.c av) = av) ∧ (∀ g, ev (stA l) (.f g) = .fn g []) := ⟨fun _ => rfl, fun _ => rfl, fun _ => rfl⟩
theorem st_s : (∀ t, stA [] t = .hole) ∧ (∀ u d (l : List (Nat × AV)) t, stA ((u, d) :: l) t = if t = u then d else stA l t) := ⟨fun _ => rfl, fun _ _ _ _ => rfl⟩
theorem kp_s (s : St) : kpA [] s = [] ∧ (∀ t k, kpA (t :: k) s = (t, s t) :: kpA k s) := ⟨rfl, fun _ _ => rfl⟩
theorem mis_s (s : St) : (∀ d, keepS s (some d) = some (d, s)) ∧ (∀ s1, stoS (some s1) = some (.hole, s1)) ∧ evs s [] = [] ∧ (∀ x xs, evs s (x :: xs) = ev s x :: evs s xs) ∧ evPs s [] = [] ∧ (∀ k x xs, evPs s ((k, x) :: xs) = (k, ev s x) :: evPs s xs) ∧
    evO s none = none ∧ (∀ x, evO s (some x) = some (ev s x)) ∧ (∀ b x y, pickV s (.bool b) x y = some (if b = true then x else y, s)) :=
  ⟨fun _ => rfl, fun _ => rfl, rfl, fun _ _ => rfl, rfl, fun _ _ _ => rfl, rfl, fun _ => rfl, fun b _ _ => by cases b <;> rfl⟩
theorem kind_s (C : Cx) : (∀ e d, iaS C (.slice e) (some d) = if (C.T e).ok = true ∧ d.wd = (C.T e).sz then some (.ref d) else none) ∧
    (∀ y q n e sz xs, iaH C y q n (.slice e) (some (.uslice sz xs)) = if (getI xs n).isSome = true ∧ (C.T e).ok = true ∧ sz = (C.T e).sz then some (.hp y (q ++ [n.toNat])) else none) ∧
    (∀ e s xs t, slL C (.slice e) s xs (some t) = if (C.T e).ok = true ∧ ∀ d ∈ xs, d.wd = (C.T e).sz then some (.slice t, s) else none) :=
  ⟨fun _ _ => rfl, fun _ _ _ _ _ _ => rfl, fun _ _ _ _ => rfl⟩
theorem kin2_s : (∀ b, bnB .bool b = some (.bool b)) ∧ (∀ c, idxS .str (some c) = some (.int .u8 c.toNat)) ∧ (∀ s t, slS .str s (some t) = some (.str t, s)) ∧ (∀ q d, subO q (some d) = AV.sub q d) :=
  ⟨fun _ => rfl, fun _ => rfl, fun _ _ => rfl, fun _ _ => rfl⟩
theorem ok_s (sz bytes : Nat) (z : AV) : (∀ k, TI.ok ⟨.int k, sz, bytes, z⟩ = true) ∧ TI.ok ⟨.bool, sz, bytes, z⟩ = true ∧ TI.ok ⟨.str, sz, bytes, z⟩ = true ∧ (∀ e, TI.ok ⟨.ptr e, sz, bytes, z⟩ = true) ∧ (∀ e, TI.ok ⟨.slice e, sz, bytes, z⟩ = true) ∧ (∀ e, TI.ok ⟨.struct e, sz, bytes, z⟩ = true) ∧ TI.ok ⟨.fn, sz, bytes, z⟩ = true := by
  simp [TI.ok]
theorem flat_s (sz bytes : Nat) (z : AV) : (∀ k, TI.flat ⟨.int k, sz, bytes, z⟩ = true) ∧ TI.flat ⟨.bool, sz, bytes, z⟩ = true ∧ TI.flat ⟨.str, sz, bytes, z⟩ = true ∧ (∀ e, TI.flat ⟨.ptr e, sz, bytes, z⟩ = true) ∧ (∀ e, TI.flat ⟨.slice e, sz, bytes, z⟩ = true) ∧ (∀ e, TI.flat ⟨.struct e, sz, bytes, z⟩ = false) ∧ TI.flat ⟨.fn, sz, bytes, z⟩ = true := by
  simp [TI.flat]
theorem wrap_byte (c : UInt8) (k : IntKind) (hk : k ≠ .i8) : k.wrap (c.toNat : Int) = (c.toNat : Int) := by
  have := c.toNat_lt
  cases k <;> first | (exact (hk rfl).elim) | (simp [IntKind.wrap, IntKind.bits, IntKind.signed]; try omega)
theorem wrapb_s (c : UInt8) : IntKind.i64.wrap (c.toNat : Int) = (c.toNat : Int) ∧ IntKind.u64.wrap (c.toNat : Int) = (c.toNat : Int) ∧ IntKind.u8.wrap (c.toNat : Int) = (c.toNat : Int) ∧ IntKind.i32.wrap (c.toNat : Int) = (c.toNat : Int) ∧ IntKind.u32.wrap (c.toNat : Int) = (c.toNat : Int) :=
  ⟨wrap_byte c _ (by simp), wrap_byte c _ (by simp), wrap_byte c _ (by simp), wrap_byte c _ (by simp), wrap_byte c _ (by simp)⟩

theorem w_abs {k : List Nat} {K : St → Prop} (l' : List (Nat × AV)) (h : ∀ P : List (Nat × AV) → Prop, P l' → wpT C (stA l) ros none (fun _ s => P (kpA k s))) (hk : K (stA l')) : wpT C (stA l) ros none (fun _ s => K (stA (kpA k s))) :=
  h (fun l => K (stA l)) hk
theorem w_absd {k : List Nat} {cl : List (List Nat)} {K : St → Prop} (l' : List (Nat × AV)) (h : ∀ P : List (Nat × AV) → Prop, P l' → wpT C (stA l) ros (some []) (fun acc s => okP cl 0 [] (acc.getD []).reverse = true ∧ P (kpA k s))) (hk : K (stA l')) :
    wpT C (stA l) ros (some []) (fun acc s => okP cl 0 [] (acc.getD []).reverse = true ∧ K (stA (kpA k s))) :=
  h (fun l => K (stA l)) hk

theorem seq_ex (C : Cx) (b : SC) (Q : Exit → St → Prop) : ∃ Q' : Exit → St → Prop, (∀ s, onW (wpC C b Q) s → Q' .normal s) ∧ (∀ s, Q .ret s → Q' .ret s) ∧ (∀ i s, Q (.exit i) s → Q' (.exit i) s) ∧ (∀ a s, wpC C a Q' s → wpC C (.seq a b) Q s) :=
  ⟨andThen (onW (wpC C b Q)) Q, fun _ h => h, fun _ h => h, fun _ _ h => h, fun _ _ h => h⟩

theorem OkAt.of_wpQ (hC : C.Ok) {f : FuncId} {fn : Func} {c : Code} {sc : SC} {fx : List Nat} {as outs : List AV} {r : AV} (hf : C.P.funcs[f]? = some fn) (hb : fn.body = some c)
    (hname : (fn.name == "runtime.NumGoroutine") = false) (hs : slimC ⟨fn.ntmps, fx⟩ c = some sc.strip) (hn : as.length ≤ fn.ntmps)
    (h : ∀ Q : Exit → St → Prop, (∀ s, onW (Ends C fx fn.results.toList r outs) s → Q .ret s) → (∀ s, onW (Ends C fx fn.results.toList r outs) s → Q .normal s) → wpC C sc Q (stA (num 0 as))) : OkAt C f as r outs := by
  refine OkAt.of_wp hC hf hb hname hs hn ?_
  rw [stL_num]
  exact h _ (fun s h => ⟨.inr rfl, h⟩) (fun s h => ⟨.inl rfl, h⟩)

def packR : List AV → AV
  | [d] => d
  | ds => .tuple ds
theorem w_fin {fx : List Nat} {rv : List ResultVar} {r : AV} {outs : List AV} (ds : List AV) (h1 : rv.map (resAV C s) = ds.map some) (h2 : r = packR ds) (h3 : (rv.map rvSlot).Nodup)
    (h4 : ∀ (i : Nat) (o : AV), outs[i]? = some o → o = .hole ∨ (o = s i ∧ o.own = true ∧ i ∈ fx ∧ i ∉ rv.map rvSlot)) : Ends C fx rv r outs s := ⟨ds, h1, by subst h2; cases ds with | nil => rfl | cons a t => cases t <;> rfl, h3, h4⟩
theorem outs_nil {fx : List Nat} {rv : List ResultVar} : ∀ (i : Nat) (o : AV), ([] : List AV)[i]? = some o → o = .hole ∨ (o = s i ∧ o.own = true ∧ i ∈ fx ∧ i ∉ rv.map rvSlot) := fun i o h => by simp at h

/-- Calls whose arguments are all lent. -/
theorem lend_filter : ∀ (as ds : List AV), (lend as ds).filter (·.g) = []
  | [], _ => rfl
  | _ :: _, [] => rfl
  | a :: as, d :: ds => by simp only [lend, List.filter_cons]; exact lend_filter as ds

theorem wpOT_call0 {f : SX} {args : List SX} {g : FuncId} {caps : List AV} {K : List Nat → AV → St → Prop} (ds : List AV) (r : AV)
    (h1 : ev (stA l) f = .fn g caps) (hcp : AV.plains caps = true) (hds : views (stA l) (evs (stA l) args ++ caps) = some ds)
    (h5 : OkAt C g ds r []) (h6 : r.res = true) (h7 : AV.hss (evs (stA l) args ++ caps) = [] ∨ r.nosh = true) (hK : K [] r (stA l)) : wpOT C (stA l) (.call f args) K := by
  obtain ⟨e1, e2, e3, e4, e5, e6, e7⟩ := lend_spec _ _ hds
  refine ⟨g, caps, lend (evs (stA l) args ++ caps) ds, r, h1, hcp, by rw [e1, evs_map], fun p hp => (e3 p hp).1, e4, by rw [e2]; exact h5.outs e5.symm, h6, ?_, by rw [e6, e7, lend_filter]; exact hK⟩
  intro hl
  refine ⟨?_, fun p hp => by rw [(e3 p hp).2.2.1]; rfl⟩
  rcases h7 with h7 | h7
  · exfalso
    simp only [lent, List.any_eq_true] at hl
    obtain ⟨p, hp, hpl⟩ := hl
    have hm := (e3 p hp).2.2.2
    have : p.a.hs = [] := by
      have key : ∀ (as : List AV) (a : AV), a ∈ as → AV.hss as = [] → a.hs = [] := by
        intro as
        induction as with
        | nil => intro a h; cases h
        | cons b as ih =>
          intro a h he
          simp only [AV.hss, List.append_eq_nil_iff] at he
          rcases List.mem_cons.1 h with rfl | h
          · exact he.1
          · exact ih a h he.2
      exact key _ _ hm h7
    rw [this] at hpl; simp at hpl
  · exact h7

theorem w_call0 {f : SX} {args : List SX} {g : FuncId} {caps : List AV} {ds : List AV} {r : AV} (h5 : OkAt C g ds r [])
    (h1 : ev (stA l) f = .fn g caps) (hcp : AV.plains caps = true) (hds : views (stA l) (evs (stA l) args ++ caps) = some ds)
    (h6 : r.res = true) (h7 : AV.hss (evs (stA l) args ++ caps) = [] ∨ r.nosh = true)
    (hK : wpT C (fin (stA l) dst r) os none K) : wpT C (stA l) (⟨dst, .call f args, none⟩ :: os) none K := by
  simp only [wpT, wpRT, pushF]
  exact wpOT_call0 ds r h1 hcp hds h5 h6 h7 hK
theorem w_call1 {a : List FP} {f : SX} {args : List SX} {g : FuncId} {caps : List AV} {ds : List AV} {r : AV} (h5 : OkAt C g ds r [])
    (h1 : ev (stA l) f = .fn g caps) (hcp : AV.plains caps = true) (hds : views (stA l) (evs (stA l) args ++ caps) = some ds)
    (h6 : r.res = true) (h7 : AV.hss (evs (stA l) args ++ caps) = [] ∨ r.nosh = true)
    (hK : wpT C (fin (stA l) dst r) os (some (fpO (stA l) (use (stA l) (.call f args)) dst [] r :: a)) K) : wpT C (stA l) (⟨dst, .call f args, none⟩ :: os) (some a) K := by
  simp only [wpT, wpRT, pushF]
  exact wpOT_call0 ds r h1 hcp hds h5 h6 h7 hK
theorem w_callg0 {t : Nat} {b : Bool} {f : SX} {args : List SX} {g : FuncId} {caps : List AV} {ds : List AV} {r : AV} (h5 : OkAt C g ds r [])
    (h1 : ev (stA l) f = .fn g caps) (hcp : AV.plains caps = true) (hds : views (stA l) (evs (stA l) args ++ caps) = some ds)
    (h6 : r.res = true) (h7 : AV.hss (evs (stA l) args ++ caps) = [] ∨ r.nosh = true)
    (hK : wpT C (fin (stA l) dst r) os none K) : gdT C l dst (.call f args) t b os none K (.bool b) := by
  simp only [gdT, if_true]
  exact wpOT_call0 ds r h1 hcp hds h5 h6 h7 hK
theorem w_callg1 {a : List FP} {t : Nat} {b : Bool} {f : SX} {args : List SX} {g : FuncId} {caps : List AV} {ds : List AV} {r : AV} (h5 : OkAt C g ds r [])
    (h1 : ev (stA l) f = .fn g caps) (hcp : AV.plains caps = true) (hds : views (stA l) (evs (stA l) args ++ caps) = some ds)
    (h6 : r.res = true) (h7 : AV.hss (evs (stA l) args ++ caps) = [] ∨ r.nosh = true)
    (hK : wpT C (fin (stA l) dst r) os (some (fpO (stA l) (t :: use (stA l) (.call f args)) dst [] r :: a)) K) : gdT C l dst (.call f args) t b os (some a) K (.bool b) := by
  simp only [gdT, if_true]
  exact wpOT_call0 ds r h1 hcp hds h5 h6 h7 hK

theorem view_s (s : St) : views s [] = some [] ∧ (∀ d ds, views s (d :: ds) = (match view s d, views s ds with | some a, some b => some (a :: b) | _, _ => none)) ∧
    (∀ k n, view s (.int k n) = some (.int k n)) ∧ (∀ b, view s (.bool b) = some (.bool b)) ∧ (∀ x, view s (.str x) = some (.str x)) ∧ (∀ x, view s (.slice x) = some (.slice x)) ∧ (∀ x, view s (.ref x) = some (.ref x)) ∧
    view s .nils = some .nils ∧ view s .nilp = some .nilp ∧ (∀ fs, view s (.agg fs) = some (.agg fs)) ∧ (∀ f cap, view s (.fn f cap) = (views s cap).map (.fn f)) := by
  refine ⟨rfl, fun d ds => ?_, fun _ _ => rfl, fun _ => rfl, fun _ => rfl, fun _ => rfl, fun _ => rfl, rfl, rfl, fun _ => rfl, fun _ _ => by simp only [view]⟩
  simp only [views]; rfl

theorem shares_map {α : Type} {u e : α → AV} (h : ∀ x, (u x).share = e x) (xs : List α) : AV.shares (xs.map u) = xs.map e := by
  rw [AV.shares_eq]; simp [h]
theorem noshs_map {α : Type} {u : α → AV} (h : ∀ x, (u x).nosh = true) (xs : List α) : AV.noshs (xs.map u) = true := by
  induction xs with
  | nil => rfl
  | cons x xs ih => simp only [List.map_cons, AV.noshs, h, ih, Bool.and_self]
theorem byte_share (c : UInt8) : (byteAV c).share = byteAV c := rfl
theorem byte_nosh (c : UInt8) : (byteAV c).nosh = true := rfl

/-- Weaker states: entries kept or made wider. -/
def WeakP (s : St) (H : List Nat) : List (Nat × AV) → Prop
  | [] => True
  | p :: l => (p.2 = s p.1 ∨ ((s p.1).tree = true ∧ Wd (s p.1) p.2 ∧ p.1 ∉ H)) ∧ WeakP s H l
theorem weak_mix {l' : List (Nat × AV)} (H : List Nat) (hH : AV.hss (l'.map (·.2)) = H) (h : WeakP s H l') : WeakL s l' := by
  have key : ∀ (l1 : List (Nat × AV)), WeakP s H l1 → ∀ p ∈ l1, p.2 = s p.1 ∨ ((s p.1).tree = true ∧ Wd (s p.1) p.2 ∧ p.1 ∉ H) := by
    intro l1
    induction l1 with
    | nil => intro _ p hp; cases hp
    | cons a l1 ih =>
      intro h p hp
      rcases List.mem_cons.1 hp with rfl | hp
      · exact h.1
      · exact ih h.2 p hp
  have hs : ∀ (l1 : List (Nat × AV)), ∀ p' ∈ l1, ∀ u ∈ p'.2.hs, u ∈ AV.hss (l1.map (·.2)) := by
    intro l1
    induction l1 with
    | nil => intro p hp; cases hp
    | cons a l1 ih =>
      intro p hp u hu
      simp only [List.map_cons, AV.hss, List.mem_append]
      rcases List.mem_cons.1 hp with rfl | hp
      · exact .inl hu
      · exact .inr (ih p hp u hu)
  intro p hp
  rcases key _ h p hp with h1 | ⟨h1, h2, h3⟩
  · exact .inl h1
  · refine .inr ⟨h1, h2, fun p' hp' hm => h3 ?_⟩
    rw [← hH]; exact hs l' p' hp' _ hm
theorem wk_nil {H : List Nat} : WeakP s H [] := trivial
theorem wk_eq {H : List Nat} {t : Nat} {d : AV} {l' : List (Nat × AV)} (h : d = s t) (hl : WeakP s H l') : WeakP s H ((t, d) :: l') := ⟨.inl h, hl⟩
theorem wk_wd {H : List Nat} {t : Nat} {d d' : AV} {l' : List (Nat × AV)} (e : s t = d) (ht : d.tree = true) (hd : Wd d d') (hH : t ∉ H) (hl : WeakP s H l') : WeakP s H ((t, d') :: l') := ⟨.inr ⟨by rw [e]; exact ht, by rw [e]; exact hd, hH⟩, hl⟩
theorem wd_froz {d e : AV} (ht : d.tree = true) (hn : d.own = true) (h : d.share = e) : Wd d e := by
  subst h
  exact .share d ht (fun vs e => by subst e; simp [AV.own] at hn)

theorem wds_rep {a b : AV} (h : Wd a b) : ∀ n, Wds (List.replicate n a) (List.replicate n b)
  | 0 => .nil
  | n + 1 => by simp only [List.replicate_succ]; exact .cons h (wds_rep h n)
/-- A row of zeros, made wider. -/
theorem wd_rep {α : Type} {sz : Nat} {u : α → AV} {z : α} {a : AV} (h : Wd a (u z)) (n : Nat) : Wd (.uslice sz (List.replicate n a)) (.uslice sz ((List.replicate n z).map u)) := by
  rw [List.map_replicate]; exact .uslice (wds_rep h n)

end
end Go.Fw
