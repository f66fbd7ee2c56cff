/- Part of a proof that a law returns true for every input. No condition. -/
import Derived.Test.YtgpmnlkgmadglaaGreatDoorFwK
namespace Go.c0
theorem Ey {α : Type} {h : Decidable True} (t e : α) : @ite α True h t e = t := if_pos trivial
theorem Ez {α : Type} {h : Decidable False} (t e : α) : @ite α False h t e = e := if_neg id
theorem EA {α : Type} [BEq α] [ReflBEq α] (a : α) : (a == a) = true := BEq.rfl
theorem KA {α : Type} (a b : α) : (a ≠ b) = ¬(a = b) := rfl
theorem KB : I.owner .hole = none ∧ (∀ b, I.owner (.bool b) = none) ∧ I.owner .e_ = none ∧ (∀ k n, I.owner (.int k n) = none) ∧ (∀ x, I.owner (.str x) = none) ∧ I.owner .dv = none ∧ I.owner .bp = none ∧ (∀ x, I.owner (.slice x) = none) ∧ (∀ n x, I.owner (.aP n x) = none) ∧
  (∀ x, I.owner (.ref x) = none) ∧ (∀ x, I.owner (.a7 x) = none) ∧ (∀ x, I.owner (.agg x) = none) ∧ (∀ x, I.owner (.tuple x) = none) ∧ (∀ f c, I.owner (.fn f c) = none) ∧ (∀ x q, I.owner (.h x q) = some x) :=
 ⟨rfl, fun _ => rfl, rfl, fun _ _ => rfl, fun _ => rfl, rfl, rfl, fun _ => rfl, fun _ _ => rfl, fun _ => rfl, fun _ => rfl, fun _ => rfl, fun _ => rfl, fun _ _ => rfl, fun _ _ => rfl⟩
theorem KC : (¬ False) = True := not_false_eq_true
theorem KD : (¬ True) = False := not_true_eq_false
theorem KE : ∀ a b : Nat, (some a = some b) = (a = b) := fun a b => propext ⟨fun h => Option.some.inj h, fun h => congrArg some h⟩
theorem KF : (∀ n, num n [] = []) ∧ (∀ n a as, num n (a :: as) = (n, a) :: num (n + 1) as) := ⟨fun _ => rfl, fun _ _ _ => rfl⟩
theorem KG : ∀ s1 : ao, gn (some s1) = some (.hole, s1) := fun _ => rfl
def aZ := PLift.up (And.intro KF <| And.intro KG <| And.intro KE <| And.intro KB <| And.intro KC <| And.intro KD <| And.intro @Ey (And.intro @Ez (And.intro @EA (And.intro @KA SF.down))))
def ct := PLift.up (And.intro KF <| And.intro KG <| And.intro KE <| And.intro KB <| And.intro KC <| And.intro KD <| And.intro @Ey (And.intro @Ez (And.intro @EA (And.intro @KA SG.down))))
def bn := PLift.up (And.intro @EA <| And.intro @Ey (And.intro @Ez SH.down))
def r6 (l : List Nat) : List Nat := l.foldr (fun x acc => if acc.contains x then acc else x :: acc) []
theorem KH {x : Nat} : ∀ {l : List Nat}, x ∈ r6 l ↔ x ∈ l
 | [] => Iff.rfl
 | y :: l => by
   have ih := KH (x := x) (l := l)
   have e : r6 (y :: l) = if (r6 l).contains y then r6 l else y :: r6 l := rfl
   rw [e]
   split
   ·rename_i h
    have bx : y ∈ r6 l := by simpa using h
    constructor
    ·intro aq; exact List.mem_cons_of_mem _ (ih.1 aq)
    ·intro aq
     rcases List.mem_cons.1 aq with rfl | aq
     ·exact bx
     ·exact ih.2 aq
   ·simp only [List.mem_cons, ih]
def EB : List (List Nat) → List (List Nat) → List (List Nat)
 | done, [] => done
 | done, a :: r => EB (done ++ [r6 (a ++ a.flatMap fun e => (done[e]?).getD [])]) r
def TO (gB : List (List Nat)) : List (List Nat) := EB [] gB
def EC (c d : List (List Nat)) : Prop := c.length = d.length ∧ ∀ (i x : Nat), x ∈ (c[i]?).getD [] ↔ x ∈ (d[i]?).getD []
theorem KI : ∀ (r c d : List (List Nat)), EC c d → EC (EB c r) (wz d r)
 | [], c, d, h => h
 | a :: r, c, d, h => by
   refine KI r _ _ ⟨by simp [h.1], fun i x => ?_⟩
   rcases Nat.lt_trichotomy i c.length with al | al | al
   ·rw [List.getElem?_append_left al, List.getElem?_append_left (by rw [← h.1]; exact al)]
    exact h.2 i x
   ·rw [List.getElem?_append_right (by omega), List.getElem?_append_right (by rw [← h.1]; omega), al, Nat.sub_self, h.1, Nat.sub_self]
    simp only [List.getElem?_cons_zero, Option.getD_some, KH, List.mem_append, List.mem_flatMap]
    constructor
    ·rintro (aq | ⟨e, he, aq⟩)
     ·exact .inl aq
     ·exact .inr ⟨e, he, (h.2 e x).1 aq⟩
    ·rintro (aq | ⟨e, he, aq⟩)
     ·exact .inl aq
     ·exact .inr ⟨e, he, (h.2 e x).2 aq⟩
   ·rw [List.getElem?_eq_none (by simp; omega), List.getElem?_eq_none (by simp [← h.1]; omega)]
theorem KJ {c d : List (List Nat)} (h : EC c d) : ∀ (ax : List fv) (j : Nat) (es : List (Nat × fv)), lS c j es ax = lS d j es ax
 | [], _, _ => rfl
 | f :: ax, j, es => by
   simp only [lS]
   rw [KJ h ax]
   congr 2
   funext e
   congr 1
   rw [Bool.eq_iff_iff]
   simp only [List.contains_iff_mem]
   exact h.2 j e.1
theorem fk {gB : List (List Nat)} {j : Nat} {es : List (Nat × fv)} {ax : List fv} (h : lS (TO gB) j es ax = true) : lS (rW gB) j es ax = true := by
 exact (KJ (KI gB [] [] ⟨rfl, fun _ _ => Iff.rfl⟩) ax j es).symm.trans h
abbrev ro (d : Nat) (bG : fX) : b2 := ⟨some d, bG, none⟩
abbrev ae (d x : Nat) : b2 := ro d (.cj (.t x))
abbrev aM (d x : Nat) : b2 := ro d (.fN (.t x))
abbrev aO (d T x : Nat) : b2 := ro d (.b4 T (.t x))
abbrev a1 (d T x k : Nat) : b2 := ro d (.cB T (.t x) k)
abbrev cM (d T x i : Nat) : b2 := ro d (.e6 T (.t x) (.t i))
abbrev KK (d T x i : Nat) : b2 := ro d (.idx T (.t x) (.t i))
abbrev bV (d T x : Nat) : b2 := ro d (.len T (.t x))
abbrev gZ (d x : Nat) : b2 := ro d (.fC (.t x))
abbrev bX (d : Nat) (o : BinOp) (T x y : Nat) : b2 := ro d (.b1 o T (.t x) (.t y))
abbrev ba (d : Nat) (o : BinOp) (T x : Nat) (n : Int) : b2 := ro d (.b1 o T (.t x) (.c (.int .i64 n)))
abbrev kQ (d : Nat) (n : Int) : b2 := ro d (.cj (.c (.int .i64 n)))
abbrev bf (d : Nat) (n : Int) : b2 := ro d (.fN (.c (.int .i64 n)))
abbrev bk (d : Nat) (b : Bool) : b2 := ro d (.fN (.c (.bool b)))
abbrev oj (d : Nat) : b2 := ro d (.fN (.c .bp))
abbrev iA (d T : Nat) : b2 := ro d (.gL T)
abbrev d_ (d g a : Nat) : b2 := ro d (.call (.f g) [.t a])
abbrev ej (d g a b : Nat) : b2 := ro d (.call (.f g) [.t a, .t b])
abbrev KL (d g a b c : Nat) : b2 := ro d (.call (.f g) [.t a, .t b, .t c])
abbrev zs (d x k : Nat) : b2 := ro d (.ex (.t x) k)
abbrev eu (d x : Nat) : b2 := ro d (.un .not (.t x))
abbrev ED (d T x : Nat) : b2 := ro d (.eD T 1 [(0, .t x)])
abbrev zt (d T bF x y : Nat) : b2 := ro d (.app T bF (.t x) (.t y))
abbrev eN (T x y : Nat) : b2 := ⟨none, .fU T (.t x) (.t y), none⟩
abbrev KM (d A B x : Nat) : b2 := ro d (.fW A B (.t x))
theorem bh.EE {C : ck} (bl : C.e0) {f : FuncId} {fn : Func} {c : Code} {dq : J} {fx : List Nat} {as outs : List I} {r : I} (fu : List ResultVar) (l : List (Nat × I)) (br : C.P.funcs[f]? = some fn) (ab : fn.body = some c)
  (kt : (fn.name == "runtime.NumGoroutine") = false) (ad : bj ⟨fn.ntmps, fx⟩ c = some dq.strip) (aY : as.length ≤ fn.ntmps) (hk : fn.results.toList = fu) (aR : num 0 as = l)
  (h : ∀ Q : Exit → ao → Prop, (∀ s, el (Ends C fx fu r outs) s → Q .ret s) → (∀ s, el (Ends C fx fu r outs) s → Q .normal s) → cW C dq Q (aa l)) (ar : dq.plain = true := by kernel_rfl) : bh C f as r outs := by
 subst hk aR
 exact bh.Sq bl br ab kt ad aY h ar
theorem lT.EE {C : ck} (bl : C.e0) {f : FuncId} {fn : Func} {c : Code} {dq : J} {fx : List Nat} {as outs : List I} {r : I} {k m : Nat} (fu : List ResultVar) (l : List (Nat × I)) (br : C.P.funcs[f]? = some fn) (ab : fn.body = some c)
  (kt : (fn.name == "runtime.NumGoroutine") = false) (ad : bj ⟨fn.ntmps, fx⟩ c = some dq.strip) (aY : as.length ≤ fn.ntmps) (az : dq.mg (zo C f fx as.length m k)) (hk : fn.results.toList = fu) (aR : num 0 as = l)
  (h : ∀ Q : Exit → ao → Prop, (∀ s, el (Ends C fx fu r outs) s → Q .ret s) → (∀ s, el (Ends C fx fu r outs) s → Q .normal s) → cW C dq Q (aa l)) : lT C f m k as r outs := by
 subst hk aR
 exact lT.of_wp bl br ab kt ad aY az h
theorem bh.TP {C : ck} (bl : C.e0) {f : FuncId} {fn : Func} {c : Code} {dq : J} {fx : List Nat} {as outs : List I} {r : I} (fu : List ResultVar) (l : List (Nat × I)) (br : C.P.funcs[f]? = some fn) (ab : fn.body = some c)
  (kt : (fn.name == "runtime.NumGoroutine") = false) (ad : bj ⟨fn.ntmps, fx⟩ c = some dq.strip) (aY : as.length ≤ fn.ntmps) (az : dq.mg (wI C)) (hk : fn.results.toList = fu) (aR : num 0 as = l)
  (h : ∀ Q : Exit → ao → Prop, (∀ s, el (Ends C fx fu r outs) s → Q .ret s) → (∀ s, el (Ends C fx fu r outs) s → Q .normal s) → cW C dq Q (aa l)) : bh C f as r outs := by
 subst hk aR
 exact bh.TM bl br ab kt ad aY az h
theorem cG {b : Bool} (h : (!b) = true) : b = false := by cases b <;> first | rfl | cases h
theorem bd {b : Bool} (h : (!b) = false) : b = true := by cases b <;> first | rfl | cases h
section
variable {C : ck} {s : ao} {l : List (Nat × I)} {Q : Exit → ao → Prop}
theorem aD {fx : List Nat} {fu : List ResultVar} {r : I} (ds : List I) (ah : r = JD ds := by cases Cp (by assumption); rfl) (ag : fu.map (pL C s) = ds.map some := by rfl) (aI : (fu.map jJ).Nodup := by decide) : Ends C fx fu r [] s :=
 JE ds ag ah aI Sr
theorem aJ {me : ao → Prop} {a b : J} (wJ : ∀ s, me s → Q .ret s) (h : ∀ ey : Exit → ao → Prop, (∀ s, el (cW C b Q) s → ey .normal s) → (∀ s, me s → ey .ret s) → (∀ i s, Q (.exit i) s → ey (.exit i) s) → cW C a ey s) : cW C (.seq a b) Q s :=
 Sm fun ey n q x => h ey n (fun s ad => q s (wJ s ad)) x
theorem bJ {me : ao → Prop} {id : Nat} {b : J} (wJ : ∀ s, me s → Q .ret s) (h : ∀ ey : Exit → ao → Prop, (∀ s, Q .normal s → ey .normal s) → (∀ s, me s → ey .ret s) → (∀ s, Q .normal s → ey (.exit id) s) → (∀ i s, i ≠ id → Q (.exit i) s → ey (.exit i) s) → cW C b ey s) : cW C (.block id b) Q s :=
 So fun ey n q b x => h ey n (fun s ad => q s (wJ s ad)) b x
theorem ea {me : ao → Prop} {b : J} (wJ : ∀ s, me s → Q .ret s) (h : ∀ ey : Exit → ao → Prop, (∀ s, el (dE C b Q) s → ey .normal s) → (∀ s, me s → ey .ret s) → (∀ i s, Q (.exit i) s → ey (.exit i) s) → cW C b ey s) : dE C b Q s :=
 Sp fun ey n q x => h ey n (fun s ad => q s (wJ s ad)) x
theorem aU {β : Type} {c : aF} {t e : J} {b : Bool} {x y : Option β} {r : β} (h : cond b x y = some r) (ag : b = true → x = some r → cW C t Q s) (ah : b = false → y = some r → cW C e Q s) (aw : aK s c = .bool b := by rfl) : cW C (.cond c t e) Q s := by
 rcases eZ h with ⟨rfl, h⟩ | ⟨rfl, h⟩
 ·exact jc aw (ag rfl h)
 ·exact r0 aw (ah rfl h)
end
end Go.c0
