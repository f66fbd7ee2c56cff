/- Part of a proof that a law returns true for every input. No condition. -/
import Derived.Test.YtbemmmimelklkaaGreatFwG
import Derived.ChangeArms
import Derived.WideShapes
namespace Go.dk
section
variable {H : Type} {enc : TypeId × Value → H} {P : Program} {w : World} {base : Nat} {sp : Nat → Bool} {held : Bool}
def jb {τ : Type} (enc : TypeId × Value → H) (P : Program) (w : World) (base : Nat) (sp : Nat → Bool) (held : Bool) (T : TypeId) (e : τ → I) (W : τ → Prop) : Prop :=
 ∀ (fuel : Nat) (cs : List Value) (x : DataW H × List MemPlace), DataW.trod enc P w base sp held fuel T cs = some x → ∃ y, W y ∧ aB w (F0 w) (e y) cs (fun _ => False)
theorem QN {T : TypeId} {k : IntKind} (bh : P.underlying T = some (.int k)) : jb enc P w base sp held T (fun n => .int k n) (fun n => (Lit.int k n).wf = true) := by
 intro fuel cs x h
 obtain ⟨n, rfl, _, hw⟩ := DataW.trod_int bh h
 exact ⟨n, hw, by rw [aB]⟩
theorem QO {T : TypeId} (bh : P.underlying T = some (.int .i64)) : jb enc P w base sp held T (fun n => .int .i64 n) (fun n => -9223372036854775808 ≤ n ∧ n ≤ 9223372036854775807) := by
 intro fuel cs x h
 obtain ⟨n, hw, a7⟩ := QN bh fuel cs x h
 exact ⟨n, wf_i64 hw, a7⟩
theorem QP {T : TypeId} (bh : P.underlying T = some .string) : jb enc P w base sp held T (fun s => .str s) (fun s => s.length ≤ 9223372036854775807) := by
 intro fuel cs x h
 obtain ⟨s, rfl, _, ah⟩ := DataW.trod_string bh h
 exact ⟨s.data.toList, ah, by rw [aB]⟩
theorem QQ {α β : Type} {f : α → Option β} : ∀ {l : List α} {r : List β}, l.mapM f = some r → r.length = l.length ∧ ∀ (i : Nat) (a : α), l[i]? = some a → f a = r[i]? := by
 intro l
 induction l with
 | nil => intro r h; simp at h; subst h; exact ⟨rfl, fun i a h => by simp at h⟩
 | cons a l ih =>
   intro r h
   simp only [List.mapM_cons, Option.bind_eq_bind, Option.bind_eq_some_iff] at h
   obtain ⟨b, ae, iu, a7, he⟩ := h
   have he : b :: iu = r := by simpa using he
   subst he
   obtain ⟨ai, aj⟩ := ih a7
   refine ⟨by simp [ai], fun i x aC => ?_⟩
   cases i with
   | zero => simp at aC; subst aC; simpa using ae
   | succ i => simpa using aj i x (by simpa using aC)
theorem I1 {a : Addr} {n : Nat} {cs : List Value} (h : w.cells? base a n = some cs) : cs.length = n ∧ ∀ j c, cs[j]? = some c → w.cell? (a.add j) = some c := by
 unfold World.cells? at h
 split at h
 ·obtain ⟨ai, aj⟩ := QQ h
  refine ⟨by simpa using ai, fun j c ay => ?_⟩
  have cJ : j < n := by
   have := (List.getElem?_eq_some_iff.1 ay).1
   rw [ai] at this; simpa using this
  rw [aj j j (by simp [cJ]), ay]
 ·cases h
theorem QR {a : Addr} {c : Value} (h : w.cell? a = some c) : a.spot = none ∧ a.block < w.heap.size := by
 unfold World.cell? at h
 split at h
 ·rename_i cs e fr ae
  split at h
  ·cases h
  ·rename_i ah
   refine ⟨by simpa using ah, ?_⟩
   exact (Array.getElem?_eq_some_iff.1 ae).1
 ·cases h
theorem qg {τ : Type} {T e : TypeId} {sz : Nat} {ec : τ → I} {W : τ → Prop} (bh : P.underlying T = some (.slice e)) (e4 : P.cellsOf e = sz) (auW : 0 < sz) (hw : ∀ y, (ec y).wd = sz) (h : jb enc P w base sp held e ec W) :
  jb enc P w base sp held T (fun c7 : List τ => .slice (c7.map ec)) (fun c7 : List τ => c7.length ≤ 9223372036854775807 ∧ ∀ y ∈ c7, W y) := by
 intro fuel cs x aC
 rcases DataW.trod_slice bh aC with ⟨rfl, _⟩ | ⟨a, len, cap, elems, rest, n, _, rfl, _, _, ai, aj, aQ, bd, _⟩
 ·exact ⟨[], ⟨by simp, by simp⟩, by simp only [List.map_nil]; rw [aB]; exact .inl ⟨rfl, none, 0, rfl, Nat.zero_le _, fun _ => rfl⟩⟩
 ·by_cases a9 : len = 0
  ·subst a9
   exact ⟨[], ⟨by simp, by simp⟩, by simp only [List.map_nil]; rw [aB]; exact .inl ⟨rfl, some a, cap, rfl, aj, fun h => by cases h⟩⟩
  ·rw [e4] at bd
   have get : ∀ i, i < len → ∃ m1 y, w.cells? base (a.add (i * sz)) sz = some m1 ∧ W y ∧ aB w (F0 w) (ec y) m1 (fun _ => False) := by
    intro i au
    have := bd i au
    rw [List.getElem?_eq_getElem (by omega), Option.bind_eq_some_iff] at this
    obtain ⟨m1, a4, a_⟩ := this
    obtain ⟨y, fE, g_⟩ := h _ _ _ a_
    exact ⟨m1, y, a4, fE, g_⟩
   obtain ⟨QS, fW, bf, _, bG⟩ := get 0 (by omega)
   obtain ⟨auX, hP⟩ := I1 bf
   have D4 : ∃ c, QS[0]? = some c := ⟨_, List.getElem?_eq_getElem (by omega)⟩
   obtain ⟨mm, D4⟩ := D4
   have I2 := QR (hP 0 mm D4)
   have cw : (a.add (0 * sz)).add 0 = a := by simp [Addr.add]
   rw [cw] at I2
   obtain ⟨b, o, spot⟩ := a
   obtain ⟨pn, oQ⟩ := I2
   simp only at pn oQ; subst pn
   have all : ∀ m, m ≤ len → ∃ (c7 : List τ) (eM : List Value), c7.length = m ∧ (∀ y ∈ c7, W y) ∧ eM.length = m * sz ∧ hK w b o eM ∧ bm w (F0 w) (c7.map ec) eM (fun _ => False) := by
    intro m
    induction m with
    | zero => intro _; exact ⟨[], [], rfl, by simp, by simp, fun j c ay => by simp at ay, by rw [List.map_nil, bm]⟩
    | succ m ih =>
      intro hm
      obtain ⟨c7, eM, b5, cu, fD, eO, gr⟩ := ih (by omega)
      obtain ⟨m1, y, a4, a_, a2⟩ := get m (by omega)
      obtain ⟨fS, gG⟩ := I1 a4
      refine ⟨c7 ++ [y], eM ++ m1, by simp [b5], ?_, by simp [fD, fS, Nat.add_mul], ?_, ?_⟩
      ·intro z b7
       rcases List.mem_append.1 b7 with b7 | b7
       ·exact cu z b7
       ·simp at b7; subst b7; exact a_
      ·intro j c ay
       by_cases cJ : j < eM.length
       ·rw [List.getElem?_append_left cJ] at ay
        exact eO j c ay
       ·rw [List.getElem?_append_right (by omega)] at ay
        have := gG _ c ay
        rw [Addr.add_lit, Addr.add_lit] at this
        rw [← this]
        congr 2
        omega
      ·rw [List.map_append]
       refine bm.append gr ?_ (fun _ h => h) (fun _ h => h) (fun _ h => h.elim)
       simp only [List.map_cons, List.map_nil]
       rw [bm]
       exact ⟨m1, [], fun _ => False, fun _ => False, by simp, a2, by rw [bm], fun _ h => h.elim, fun _ h => h.elim, fun _ h => h.elim⟩
   obtain ⟨c7, eM, b5, cu, fD, eO, gr⟩ := all len (Nat.le_refl _)
   refine ⟨c7, ⟨by rw [b5]; exact Nat.le_trans ai aj, cu⟩, ?_⟩
   rw [aB]
   refine .inr ⟨b, o, cap, eM, sz, by simp [b5], oQ, by simp [b5, ai], aj, ?_, eO, gr⟩
   intro d al
   obtain ⟨y, _, rfl⟩ := List.mem_map.1 al
   exact hw y
def ends : Nat → List (Nat × Nat) → Option Nat
 | o, [] => some o
 | o, (mu, sz) :: r => if o = mu then ends (o + sz) r else none
def I3 (w : World) (F : Nat → Prop) (cs : List Value) : List (I × Nat × Nat) → Prop
 | [] => True
 | (d, off, sz) :: r => aB w F d ((cs.drop off).take sz) (fun _ => False) ∧ I3 w F cs r
theorem ua {F : Nat → Prop} {cs : List Value} : ∀ (l : List (I × Nat × Nat)) (o : Nat), ends o (l.map (·.2)) = some cs.length → I3 w F cs l → bm w F (l.map (·.1)) (cs.drop o) (fun _ => False) := by
 intro l
 induction l with
 | nil => intro o he _; simp [ends] at he; subst he; simp only [List.map_nil]; rw [bm]; simp
 | cons p l ih =>
   intro o he bH
   obtain ⟨d, off, sz⟩ := p
   simp only [List.map_cons, ends] at he
   split at he
   ·rename_i e; subst e
    obtain ⟨f1, f2⟩ := bH
    simp only [List.map_cons]
    rw [bm]
    refine ⟨(cs.drop o).take sz, cs.drop (o + sz), fun _ => False, fun _ => False, ?_, f1, ih _ he f2, fun _ h => h.elim, fun _ h => h.elim, fun _ h => h.elim⟩
    rw [← List.drop_drop, List.take_append_drop]
   ·cases he
theorem ke {n T : Nat} {cs : List Value} {o : Option (DataW H × List MemPlace)} {τ : Type} {e : τ → I} {W : τ → Prop} (a7 : jb enc P w base sp held T e W) (h : DataW.trod enc P w base sp held n T cs = o) (cm : o.isSome = true) :
  ∃ y, W y ∧ aB w (F0 w) (e y) cs (fun _ => False) := by
 obtain ⟨x, rfl⟩ := Option.isSome_iff_exists.1 cm
 exact a7 _ _ _ h
theorem QT {τ : Type} {T : TypeId} {az : Array Field} {es : τ → List I} {W : τ → Prop} {r : Reach} {kv : Nat} {v : Value} {d : DataW H} {ps : List MemPlace} (bh : P.underlying T = some (.struct az)) (a7 : jb enc P w base sp held T (fun y => .agg (es y)) W)
  (rq : Value.okWide P w r kv T v) (al : DataW.Trod enc P w base sp held T v d ps) : ∃ y, Arg w (.agg (es y)) v ∧ W y := by
 obtain ⟨cs, rfl, _⟩ := WideShapes.okWide_struct bh rq
 obtain ⟨fuel, bH⟩ := al
 obtain ⟨y, ai, aj⟩ := a7 _ _ _ bH
 refine ⟨y, ⟨rfl, ⟨cs, rfl⟩, ?_⟩, ai⟩
 simpa [Value.cells, cY, il] using aj
end
theorem D5 : (∀ {α β : Type} (f : α → β) (l : List α), (l.map f).length = l.length) ∧ (∀ {α : Type} (n : Nat) (a : α), (List.replicate n a).length = n) ∧ (∀ {α : Type} (a : α) (l : List α), (a :: l).length = l.length + 1) ∧ (∀ {α : Type}, ([] : List α).length = 0) ∧ (∀ {α : Type} (a b : List α), (a ++ b).length = a.length + b.length) :=
 ⟨fun _ _ => List.length_map _, fun _ _ => List.length_replicate, fun _ _ => rfl, rfl, fun _ _ => List.length_append⟩
theorem I4 : (∀ {α β : Type} (f : α → β) (l : List α) (i : Nat), (l.map f)[i]? = l[i]?.map f) ∧ (∀ {α : Type} (a : α) (l : List α), (a :: l)[0]? = some a) ∧ (∀ {α : Type} (a : α) (l : List α) (i : Nat), (a :: l)[i + 1]? = l[i]?) ∧
  (∀ {α : Type} (a b : α) (l : List α), (a :: l).set 0 b = b :: l) ∧ (∀ {α : Type} (a b : α) (l : List α) (n : Nat), (a :: l).set (n + 1) b = a :: l.set n b) ∧ (∀ {α : Type} (a : α) (l : List α) (n : Nat), (a :: l).take (n + 1) = a :: l.take n) ∧ (∀ {α : Type} (l : List α), l.take 0 = []) :=
 ⟨fun _ _ _ => List.getElem?_map, fun _ _ => rfl, fun _ _ _ => rfl, fun _ _ _ => rfl, fun _ _ _ _ => rfl, fun _ _ _ => rfl, fun _ => rfl⟩
theorem I5 : (∀ {α β : Type} (f : α → β) (a : α), (some a).map f = some (f a)) ∧ (∀ {α β : Type} (f : α → β), (none : Option α).map f = none) ∧ (∀ {α : Type} (a : α), (some a).isSome = true) := ⟨fun _ _ => rfl, fun _ => rfl, fun _ => rfl⟩
theorem D6 : (∀ {α β γ : Type} (g : β → γ) (f : α → β) (l : List α), (l.map f).map g = l.map (g ∘ f)) ∧ (∀ {α : Type} (l : List α), l ++ [] = l) := ⟨fun _ _ _ => List.map_map, fun l => List.append_nil l⟩
theorem oR : (∀ {α β : Type} (f : α → β) (a : α) (l : List α), (a :: l).map f = f a :: l.map f) ∧ (∀ {α β : Type} (f : α → β), ([] : List α).map f = []) ∧ (∀ {α β : Type} (f : α → β) (a b : List α), (a ++ b).map f = a.map f ++ b.map f) ∧
  (∀ {α β : Type} (f : α → β) (l : List α) (i : Nat) (a : α), (l.set i a).map f = (l.map f).set i (f a)) ∧ (∀ {α β : Type} (f : α → β) (l : List α) (i : Nat), (l.take i).map f = (l.map f).take i) ∧ (∀ {α β : Type} (f : α → β) (l : List α) (i : Nat), (l.drop i).map f = (l.map f).drop i) :=
 ⟨fun _ _ _ => rfl, fun _ => rfl, fun _ _ _ => List.map_append, fun _ _ _ _ => List.map_set, fun _ _ _ => List.map_take, fun _ _ _ => List.map_drop⟩
def QU := PLift.up (And.intro @Qz (And.intro @H8 (And.intro @QB (And.intro @Qt (And.intro @H7 (And.intro @Qv (And.intro @Iw (And.intro @Ix (And.intro @H9 (And.intro @H_ (And.intro @tU (And.intro @Ia (And.intro @Ib (And.intro @Ic (And.intro @Iy (And.intro @Iz (And.intro @IA (And.intro @IB (And.intro @IC (And.intro @ID (And.intro @Ie (And.intro @Ig (And.intro @Ih (And.intro @Ii (And.intro @Ij (And.intro @Ik (And.intro @Il (And.intro @Im (And.intro @Io (And.intro @Ip (And.intro @It (And.intro @D0 (And.intro @D2 (And.intro @D1 (And.intro @IX (And.intro @IY (And.intro @IZ (And.intro @I0 (And.intro @aD.eq_def (And.intro @loc.eq_def (And.intro @aP.eq_def (And.intro @dN.eq_def (And.intro @ex.eq_def (And.intro @lu.eq_def (And.intro @fits.eq_def (And.intro @I.fK.eq_1 (And.intro @I.fK.eq_2 (And.intro @I.fK.eq_3 (And.intro @I.fK.eq_4 (And.intro @I.fK.eq_5 (And.intro @I.fK.eq_6 (And.intro @F1 (And.intro @F2 (And.intro @Bool.not_true (And.intro @Bool.not_false (And.intro @Bool.true_and (And.intro @Bool.and_true (And.intro @Bool.false_and (And.intro @Bool.true_or (And.intro @Bool.false_or (And.intro @Bool.and_self (And.intro @Bool.false_eq_true (And.intro @Bool.true_eq_false (And.intro @Bool.not_not (And.intro @true_and (And.intro @and_true (And.intro @and_self (And.intro @decide_true (And.intro @decide_false (And.intro @not_false_eq_true (And.intro @not_true_eq_false (And.intro @IQ (And.intro @Nat.zero_add (And.intro @Nat.add_zero (And.intro @Nat.mul_one (And.intro @Nat.lt_add_one (And.intro @Nat.zero_lt_succ (And.intro @c2.eq_def (And.intro @eB.eq_def (And.intro @flat.eq_1 (And.intro @flat.eq_2 (And.intro @flat.eq_3 (And.intro @flat.eq_4 (And.intro @flat.eq_5 (And.intro @flat.eq_6 (And.intro @flat.eq_7 (And.intro @pb.eq_1 (And.intro @pb.eq_2 (And.intro @cx.eq_def (And.intro @D5 (And.intro @I4 (And.intro @I5 (@D6)))))))))))))))))))))))))))))))))))))))))))))))))))))))))))))))))))))))))))))))))))))))))))))
def QV := PLift.up (And.intro @QA (And.intro @H8 (And.intro @QC (And.intro @Qu (And.intro @H7 (And.intro @Qw (And.intro @Iw (And.intro @Ix (And.intro @H9 (And.intro @H_ (And.intro @tU (And.intro @Ia (And.intro @Ib (And.intro @Ic (And.intro @Iy (And.intro @Iz (And.intro @IA (And.intro @IB (And.intro @IC (And.intro @ID (And.intro @Ie (And.intro @Ig (And.intro @Ih (And.intro @Ii (And.intro @Ij (And.intro @Ik (And.intro @Il (And.intro @Im (And.intro @Io (And.intro @Ip (And.intro @It (And.intro @D0 (And.intro @D2 (And.intro @D1 (And.intro @IX (And.intro @IY (And.intro @IZ (And.intro @I0 (And.intro @aD.eq_def (And.intro @loc.eq_def (And.intro @aP.eq_def (And.intro @dN.eq_def (And.intro @ex.eq_def (And.intro @lu.eq_def (And.intro @fits.eq_def (And.intro @I.fK.eq_1 (And.intro @I.fK.eq_2 (And.intro @I.fK.eq_3 (And.intro @I.fK.eq_4 (And.intro @I.fK.eq_5 (And.intro @I.fK.eq_6 (And.intro @F1 (And.intro @F2 (And.intro @Bool.not_true (And.intro @Bool.not_false (And.intro @Bool.true_and (And.intro @Bool.and_true (And.intro @Bool.false_and (And.intro @Bool.true_or (And.intro @Bool.false_or (And.intro @Bool.and_self (And.intro @Bool.false_eq_true (And.intro @Bool.true_eq_false (And.intro @Bool.not_not (And.intro @true_and (And.intro @and_true (And.intro @and_self (And.intro @decide_true (And.intro @decide_false (And.intro @not_false_eq_true (And.intro @not_true_eq_false (And.intro @IQ (And.intro @Nat.zero_add (And.intro @Nat.add_zero (And.intro @Nat.mul_one (And.intro @Nat.lt_add_one (And.intro @Nat.zero_lt_succ (And.intro @c2.eq_def (And.intro @eB.eq_def (And.intro @flat.eq_1 (And.intro @flat.eq_2 (And.intro @flat.eq_3 (And.intro @flat.eq_4 (And.intro @flat.eq_5 (And.intro @flat.eq_6 (And.intro @flat.eq_7 (And.intro @pb.eq_1 (And.intro @pb.eq_2 (And.intro @cx.eq_def (And.intro @D5 (And.intro @I4 (And.intro @I5 (@D6)))))))))))))))))))))))))))))))))))))))))))))))))))))))))))))))))))))))))))))))))))))))))))))
def QW := PLift.up (And.intro @D0 (And.intro @D2 (And.intro @D1 (And.intro @ka.eq_1 (And.intro @Nat.zero_add (And.intro @Bool.not_true (And.intro @Bool.not_false (And.intro @Bool.true_and (And.intro @Bool.and_true (And.intro @Bool.false_and (And.intro @Bool.true_or (And.intro @Bool.false_or (And.intro @Bool.and_self (And.intro @Bool.false_eq_true (And.intro @Bool.true_eq_false (And.intro @Bool.not_not (And.intro @D5 (And.intro @D6 (@oR)))))))))))))))))))
end Go.dk
