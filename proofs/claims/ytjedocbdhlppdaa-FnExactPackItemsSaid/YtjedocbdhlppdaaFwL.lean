/- Part of a proof that a law returns true for every input. No condition. -/
import Derived.Test.YtjedocbdhlppdaaFwK
namespace Go.b1
theorem uN {α : Type} {h : Decidable True} (t e : α) : @ite α True h t e = t := if_pos trivial
theorem uO {α : Type} {h : Decidable False} (t e : α) : @ite α False h t e = e := if_neg id
theorem uP {α : Type} [BEq α] [ReflBEq α] (a : α) : (a == a) = true := BEq.rfl
theorem za {α : Type} (a b : α) : (a ≠ b) = ¬(a = b) := rfl
theorem zb : j.owner .hole = none ∧ (∀ b, j.owner (.bool b) = none) ∧ j.owner .cO = none ∧ (∀ k n, j.owner (.int k n) = none) ∧ (∀ x, j.owner (.str x) = none) ∧ j.owner .b7 = none ∧ j.owner .bB = none ∧ (∀ x, j.owner (.slice x) = none) ∧ (∀ n x, j.owner (.aP n x) = none) ∧
  (∀ x, j.owner (.ref x) = none) ∧ (∀ x, j.owner (.bn x) = none) ∧ (∀ x, j.owner (.agg x) = none) ∧ (∀ x, j.owner (.tuple x) = none) ∧ (∀ f c, j.owner (.fn f c) = none) ∧ (∀ x q, j.owner (.h x q) = some x) :=
 ⟨rfl, fun _ => rfl, rfl, fun _ _ => rfl, fun _ => rfl, rfl, rfl, fun _ => rfl, fun _ _ => rfl, fun _ => rfl, fun _ => rfl, fun _ => rfl, fun _ => rfl, fun _ _ => rfl, fun _ _ => rfl⟩
theorem zc : (¬ False) = True := not_false_eq_true
theorem zd : (¬ True) = False := not_true_eq_false
theorem ze : ∀ a b : Nat, (some a = some b) = (a = b) := fun _ _ => propext ⟨fun h => Option.some.inj h, fun h => congrArg some h⟩
theorem zf : (∀ n, num n [] = []) ∧ (∀ n a as, num n (a :: as) = (n, a) :: num (n + 1) as) := ⟨fun _ => rfl, fun _ _ _ => rfl⟩
theorem zg : ∀ s1 : ae, il (some s1) = some (.hole, s1) := fun _ => rfl
theorem zh {k ct : IntKind} {b m : Int} (h : ¬ b < 0) (hm : 2 ^ (min b.toNat k.bits) = m) : ∀ a, eO .shl k a ct b = some (.int k (k.wrap (a * m))) := fun _ => hm ▸ Es h
theorem uQ : (∀ t o, fm t (.b_ o) = .h t []) ∧ (∀ (l : List (Nat × j)) t o, fin (I l) (some t) (.b_ o) = I ((t, .b_ o) :: i4 t l)) ∧ (∀ o, j.plain (.b_ o) = false) ∧ (∀ t o, bz t (.b_ o) = .b_ o) ∧ (∀ t o, bd t (.b_ o) = .b_ o) ∧
  (∀ o, j.bO (.b_ o) = .hole) ∧ (∀ o, j.wd (.b_ o) = 1) ∧ (∀ o, j.dQ (.b_ o) = true) ∧ (∀ a b, lu (.b_ a) (.b_ b) = true) ∧ (∀ s x q d o, bw.e5 s ⟨.h x q, true, d, .b_ o⟩ = b4 (hb x s) x (j.put q (.b_ o) (s x))) ∧ (∀ o, j.R (.b_ o) = []) ∧ (∀ o, j.tree (.b_ o) = true) :=
 ⟨fun _ _ => rfl, fun l t o => by simp only [fin, j.plain, Bool.false_eq_true, if_false, nO, gG], fun _ => rfl, fun _ _ => by unfold bz; rfl, fun _ _ => by unfold bd; rfl, fun _ => by simp only [j.bO], fun _ => by simp only [j.wd], fun _ => rfl, fun _ _ => rfl, fun _ _ _ _ _ => by simp [bw.e5], fun _ => by simp only [j.R], fun _ => rfl⟩
def cm := PLift.up (And.intro uQ <| And.intro zf <| And.intro zg <| And.intro ze <| And.intro zb <| And.intro zc <| And.intro zd <| And.intro @uN (And.intro @uO (And.intro @uP (And.intro @za EI.down))))
def fC := PLift.up (And.intro uQ <| And.intro zf <| And.intro zg <| And.intro ze <| And.intro zb <| And.intro zc <| And.intro zd <| And.intro @uN (And.intro @uO (And.intro @uP (And.intro @za EJ.down))))
def cS := PLift.up (And.intro uQ <| And.intro @uP <| And.intro @uN (And.intro @uO EK.down))
def mS (l : List Nat) : List Nat := l.foldr (fun x acc => if acc.contains x then acc else x :: acc) []
theorem zi {x : Nat} : ∀ {l : List Nat}, x ∈ mS l ↔ x ∈ l
 | [] => Iff.rfl
 | y :: l => by
   have ih := zi (x := x) (l := l)
   have e : mS (y :: l) = if (mS l).contains y then mS l else y :: mS l := rfl
   rw [e]
   split
   ·rename_i h
    have aS : y ∈ mS l := by simpa using h
    constructor
    ·intro aj; exact List.mem_cons_of_mem _ (ih.1 aj)
    ·intro aj
     rcases List.mem_cons.1 aj with rfl | aj
     ·exact aS
     ·exact ih.2 aj
   ·simp only [List.mem_cons, ih]
def uR : List (List Nat) → List (List Nat) → List (List Nat)
 | done, [] => done
 | done, a :: r => uR (done ++ [mS (a ++ a.flatMap fun e => (done[e]?).getD [])]) r
def Fm (dX : List (List Nat)) : List (List Nat) := uR [] dX
def uS (c d : List (List Nat)) : Prop := c.length = d.length ∧ ∀ (i x : Nat), x ∈ (c[i]?).getD [] ↔ x ∈ (d[i]?).getD []
theorem zj : ∀ (r c d : List (List Nat)), uS c d → uS (uR c r) (p2 d r)
 | [], c, d, h => h
 | a :: r, c, d, h => by
   refine zj r _ _ ⟨by simp [h.1], fun i x => ?_⟩
   rcases Nat.lt_trichotomy i c.length with ax | ax | ax
   ·rw [List.getElem?_append_left ax, List.getElem?_append_left (by rw [← h.1]; exact ax)]
    exact h.2 i x
   ·rw [List.getElem?_append_right (by omega), List.getElem?_append_right (by rw [← h.1]; omega), ax, Nat.sub_self, h.1, Nat.sub_self]
    simp only [List.getElem?_cons_zero, Option.getD_some, zi, List.mem_append, List.mem_flatMap]
    constructor
    ·rintro (aj | ⟨e, he, aj⟩)
     ·exact .inl aj
     ·exact .inr ⟨e, he, (h.2 e x).1 aj⟩
    ·rintro (aj | ⟨e, he, aj⟩)
     ·exact .inl aj
     ·exact .inr ⟨e, he, (h.2 e x).2 aj⟩
   ·rw [List.getElem?_eq_none (by simp; omega), List.getElem?_eq_none (by simp [← h.1]; omega)]
theorem zk {c d : List (List Nat)} (h : uS c d) : ∀ (ad : List c3) (ay : Nat) (es : List (Nat × c3)), h0 c ay es ad = h0 d ay es ad
 | [], _, _ => rfl
 | f :: ad, ay, es => by
   simp only [h0]
   rw [zk h ad]
   congr 2
   funext e
   congr 1
   rw [Bool.eq_iff_iff]
   simp only [List.contains_iff_mem]
   exact h.2 ay e.1
theorem jK {dX : List (List Nat)} {ay : Nat} {es : List (Nat × c3)} {ad : List c3} (h : h0 (Fm dX) ay es ad = true) : h0 (nS dX) ay es ad = true := by
 exact (zk (zj dX [] [] ⟨rfl, fun _ _ => Iff.rfl⟩) ad ay es).symm.trans h
abbrev ro (d : Nat) (aQ : du) : bf := ⟨some d, aQ, none⟩
abbrev aM (d x : Nat) : bf := ro d (.cK (.t x))
abbrev cq (d x : Nat) : bf := ro d (.eo (.t x))
abbrev e8 (d T x : Nat) : bf := ro d (.cH T (.t x))
abbrev fZ (d T x k : Nat) : bf := ro d (.dt T (.t x) k)
abbrev kg (d T x i : Nat) : bf := ro d (.dm T (.t x) (.t i))
abbrev lK (d T x i : Nat) : bf := ro d (.idx T (.t x) (.t i))
abbrev eM (d T x : Nat) : bf := ro d (.len T (.t x))
abbrev rH (d x : Nat) : bf := ro d (.dN (.t x))
abbrev eg (d : Nat) (o : BinOp) (T x y : Nat) : bf := ro d (.bW o T (.t x) (.t y))
abbrev cV (d : Nat) (o : BinOp) (T x : Nat) (n : Int) : bf := ro d (.bW o T (.t x) (.c (.int .i64 n)))
abbrev qb (d : Nat) (n : Int) : bf := ro d (.cK (.c (.int .i64 n)))
abbrev dK (d : Nat) (n : Int) : bf := ro d (.eo (.c (.int .i64 n)))
abbrev er (d : Nat) (b : Bool) : bf := ro d (.eo (.c (.bool b)))
abbrev Fo (d : Nat) : bf := ro d (.eo (.c .bB))
abbrev qc (d T : Nat) : bf := ro d (.ek T)
abbrev hk (d g a : Nat) : bf := ro d (.call (.f g) [.t a])
abbrev qd (d g a b : Nat) : bf := ro d (.call (.f g) [.t a, .t b])
abbrev rI (d x k : Nat) : bf := ro d (.ex (.t x) k)
abbrev jL (d x : Nat) : bf := ro d (.un .not (.t x))
abbrev zl (d T x : Nat) : bf := ro d (.cR T 1 [(0, .t x)])
abbrev ox (T x y : Nat) : bf := ⟨none, .dC T (.t x) (.t y), none⟩
abbrev gH (d A B x : Nat) : bf := ro d (.dg A B (.t x))
theorem b3.zm {C : bl} (aJ : C.cP) {f : FuncId} {fn : Func} {c : Code} {c2 : ao} {fx : List Nat} {as outs : List j} {r : j} (dJ : List ResultVar) (l : List (Nat × j)) (bb : C.P.funcs[f]? = some fn) (J : fn.body = some c)
  (hH : (fn.name == "runtime.NumGoroutine") = false) (R : cz ⟨fn.ntmps, fx⟩ c = some c2.strip) (aL : as.length ≤ fn.ntmps) (el : fn.results.toList = dJ) (aI : num 0 as = l)
  (h : ∀ Q : Exit → ae → Prop, (∀ s, dA (Ends C fx dJ r outs) s → Q .ret s) → (∀ s, dA (Ends C fx dJ r outs) s → Q .normal s) → b9 C c2 Q (I l)) (al : c2.plain = true := by kernel_rfl) : b3 C f as r outs := by
 subst el aI
 exact b3.Ex aJ bb J hH R aL h al
theorem kZ.zm {C : bl} (aJ : C.cP) {f : FuncId} {fn : Func} {c : Code} {c2 : ao} {fx : List Nat} {as outs : List j} {r : j} {k m : Nat} (dJ : List ResultVar) (l : List (Nat × j)) (bb : C.P.funcs[f]? = some fn) (J : fn.body = some c)
  (hH : (fn.name == "runtime.NumGoroutine") = false) (R : cz ⟨fn.ntmps, fx⟩ c = some c2.strip) (aL : as.length ≤ fn.ntmps) (ai : c2.ke (uL C f fx as.length m k)) (el : fn.results.toList = dJ) (aI : num 0 as = l)
  (h : ∀ Q : Exit → ae → Prop, (∀ s, dA (Ends C fx dJ r outs) s → Q .ret s) → (∀ s, dA (Ends C fx dJ r outs) s → Q .normal s) → b9 C c2 Q (I l)) : kZ C f m k as r outs := by
 subst el aI
 exact kZ.of_wp aJ bb J hH R aL ai h
theorem fL {b : Bool} (h : (!b) = true) : b = false := by cases b <;> first | rfl | cases h
theorem dR {b : Bool} (h : (!b) = false) : b = true := by cases b <;> first | rfl | cases h
section
variable {C : bl} {s : ae} {l : List (Nat × j)} {Q : Exit → ae → Prop}
theorem cw {fx : List Nat} {dJ : List ResultVar} {r : j} (ds : List j) (aa : r = yH ds := by cases Aw (by assumption); rfl) (U : dJ.map (kS C s) = ds.map some := by rfl) (aw : (dJ.map gF).Nodup := by decide) : Ends C fx dJ r [] s :=
 Ey ds U aa aw Ez
theorem cA {hZ : ae → Prop} {a b : ao} (qe : ∀ s, hZ s → Q .ret s) (h : ∀ cF : Exit → ae → Prop, (∀ s, dA (b9 C b Q) s → cF .normal s) → (∀ s, hZ s → cF .ret s) → (∀ i s, Q (.exit i) s → cF (.exit i) s) → b9 C a cF s) : b9 C (.seq a b) Q s :=
 Eu fun cF n q x => h cF n (fun s R => q s (qe s R)) x
theorem eV {hZ : ae → Prop} {id : Nat} {b : ao} (qe : ∀ s, hZ s → Q .ret s) (h : ∀ cF : Exit → ae → Prop, (∀ s, Q .normal s → cF .normal s) → (∀ s, hZ s → cF .ret s) → (∀ s, Q .normal s → cF (.exit id) s) → (∀ i s, i ≠ id → Q (.exit i) s → cF (.exit i) s) → b9 C b cF s) : b9 C (.block id b) Q s :=
 Ev fun cF n q b x => h cF n (fun s R => q s (qe s R)) b x
theorem iv {hZ : ae → Prop} {b : ao} (qe : ∀ s, hZ s → Q .ret s) (h : ∀ cF : Exit → ae → Prop, (∀ s, dA (gv C b Q) s → cF .normal s) → (∀ s, hZ s → cF .ret s) → (∀ i s, Q (.exit i) s → cF (.exit i) s) → b9 C b cF s) : gv C b Q s :=
 Ew fun cF n q x => h cF n (fun s R => q s (qe s R)) x
theorem db {β : Type} {c : aq} {t e : ao} {b : Bool} {x y : Option β} {r : β} (h : cond b x y = some r) (U : b = true → x = some r → b9 C t Q s) (aa : b = false → y = some r → b9 C e Q s) (af : au s c = .bool b := by rfl) : b9 C (.cond c t e) Q s := by
 rcases jj h with ⟨rfl, h⟩ | ⟨rfl, h⟩
 ·exact mN af (U rfl h)
 ·exact p5 af (aa rfl h)
end
end Go.b1
