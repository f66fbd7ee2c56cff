/- Part of a proof that a law returns true for every input. No condition. -/
import Derived.Test.YtocllehpepigpaaGreatFwK
namespace Go.dg
theorem Gp {α : Type} {h : Decidable True} (t e : α) : @ite α True h t e = t := if_pos trivial
theorem Gq {α : Type} {h : Decidable False} (t e : α) : @ite α False h t e = e := if_neg id
theorem Gr {α : Type} [BEq α] [ReflBEq α] (a : α) : (a == a) = true := BEq.rfl
theorem Mc {α : Type} (a b : α) : (a ≠ b) = ¬(a = b) := rfl
theorem Md : I.owner .hole = none ∧ (∀ b, I.owner (.bool b) = none) ∧ I.owner .fu = none ∧ (∀ k n, I.owner (.int k n) = none) ∧ (∀ x, I.owner (.str x) = none) ∧ I.owner .dI = none ∧ I.owner .bp = none ∧ (∀ x, I.owner (.slice x) = none) ∧ (∀ n x, I.owner (.ao n x) = none) ∧
  (∀ x, I.owner (.ref x) = none) ∧ (∀ x, I.owner (.bb x) = none) ∧ (∀ x, I.owner (.agg x) = none) ∧ (∀ x, I.owner (.tuple x) = none) ∧ (∀ f c, I.owner (.fn f c) = none) ∧ (∀ x q, I.owner (.h x q) = some x) :=
 ⟨rfl, fun _ => rfl, rfl, fun _ _ => rfl, fun _ => rfl, rfl, rfl, fun _ => rfl, fun _ _ => rfl, fun _ => rfl, fun _ => rfl, fun _ => rfl, fun _ => rfl, fun _ _ => rfl, fun _ _ => rfl⟩
theorem Me : (¬ False) = True := not_false_eq_true
theorem Mf : (¬ True) = False := not_true_eq_false
theorem Mg : ∀ a b : Nat, (some a = some b) = (a = b) := fun _ _ => propext ⟨fun h => Option.some.inj h, fun h => congrArg some h⟩
theorem Mh : (∀ n, num n [] = []) ∧ (∀ n a as, num n (a :: as) = (n, a) :: num (n + 1) as) := ⟨fun _ => rfl, fun _ _ _ => rfl⟩
theorem Mi : ∀ s1 : ar, dZ (some s1) = some (.hole, s1) := fun _ => rfl
theorem Gs : (∀ t o, jj t (.fg o) = .h t []) ∧ (∀ (l : List (Nat × I)) t o, fin (aa l) (some t) (.fg o) = aa ((t, .fg o) :: n9 t l)) ∧ (∀ o, I.plain (.fg o) = false) ∧ (∀ t o, c8 t (.fg o) = .fg o) ∧ (∀ t o, cx t (.fg o) = .fg o) ∧
  (∀ o, I.du (.fg o) = .hole) ∧ (∀ o, I.wd (.fg o) = 1) ∧ (∀ o, I.g5 (.fg o) = true) ∧ (∀ a b, rr (.fg a) (.fg b) = true) ∧ (∀ s x q d o, c5.i7 s ⟨.h x q, true, d, .fg o⟩ = dM (lY x s) x (I.put q (.fg o) (s x))) ∧ (∀ o, I.af (.fg o) = []) ∧ (∀ o, I.tree (.fg o) = true) :=
 ⟨fun _ _ => rfl, fun l t o => by simp only [fin, I.plain, Bool.false_eq_true, if_false, u5, k2], fun _ => rfl, fun _ _ => by unfold c8; rfl, fun _ _ => by unfold cx; rfl, fun _ => by simp only [I.du], fun _ => by simp only [I.wd], fun _ => rfl, fun _ _ => rfl, fun _ _ _ _ _ => by simp [c5.i7], fun _ => by simp only [I.af], fun _ => rfl⟩
def aN := PLift.up (And.intro Gs <| And.intro Mh <| And.intro Mi <| And.intro Mg <| And.intro Md <| And.intro Me <| And.intro Mf <| And.intro @Gp (And.intro @Gq (And.intro @Gr (And.intro @Mc UA.down))))
def c7 := PLift.up (And.intro Gs <| And.intro Mh <| And.intro Mi <| And.intro Mg <| And.intro Md <| And.intro Me <| And.intro Mf <| And.intro @Gp (And.intro @Gq (And.intro @Gr (And.intro @Mc UB.down))))
def bh := PLift.up (And.intro Gs <| And.intro @Gr <| And.intro @Gp (And.intro @Gq UC.down))
def s3 (l : List Nat) : List Nat := l.foldr (fun x acc => if acc.contains x then acc else x :: acc) []
theorem Mj {x : Nat} : ∀ {l : List Nat}, x ∈ s3 l ↔ x ∈ l
 | [] => Iff.rfl
 | y :: l => by
   have ih := Mj (x := x) (l := l)
   have e : s3 (y :: l) = if (s3 l).contains y then s3 l else y :: s3 l := rfl
   rw [e]
   split
   ·rename_i h
    have bP : y ∈ s3 l := by simpa using h
    constructor
    ·intro aq; exact List.mem_cons_of_mem _ (ih.1 aq)
    ·intro aq
     rcases List.mem_cons.1 aq with rfl | aq
     ·exact bP
     ·exact ih.2 aq
   ·simp only [List.mem_cons, ih]
def Gt : List (List Nat) → List (List Nat) → List (List Nat)
 | done, [] => done
 | done, a :: r => Gt (done ++ [s3 (a ++ a.flatMap fun e => (done[e]?).getD [])]) r
def VJ (hi : List (List Nat)) : List (List Nat) := Gt [] hi
def Gu (c d : List (List Nat)) : Prop := c.length = d.length ∧ ∀ (i x : Nat), x ∈ (c[i]?).getD [] ↔ x ∈ (d[i]?).getD []
theorem Mk : ∀ (r c d : List (List Nat)), Gu c d → Gu (Gt c r) (xT d r)
 | [], c, d, h => h
 | a :: r, c, d, h => by
   refine Mk r _ _ ⟨by simp [h.1], fun i x => ?_⟩
   rcases Nat.lt_trichotomy i c.length with au | au | au
   ·rw [List.getElem?_append_left au, List.getElem?_append_left (by rw [← h.1]; exact au)]
    exact h.2 i x
   ·rw [List.getElem?_append_right (by omega), List.getElem?_append_right (by rw [← h.1]; omega), au, Nat.sub_self, h.1, Nat.sub_self]
    simp only [List.getElem?_cons_zero, Option.getD_some, Mj, List.mem_append, List.mem_flatMap]
    constructor
    ·rintro (aq | ⟨e, he, aq⟩)
     ·exact .inl aq
     ·exact .inr ⟨e, he, (h.2 e x).1 aq⟩
    ·rintro (aq | ⟨e, he, aq⟩)
     ·exact .inl aq
     ·exact .inr ⟨e, he, (h.2 e x).2 aq⟩
   ·rw [List.getElem?_eq_none (by simp; omega), List.getElem?_eq_none (by simp [← h.1]; omega)]
theorem Ml {c d : List (List Nat)} (h : Gu c d) : ∀ (ay : List gb) (j : Nat) (es : List (Nat × gb)), mx c j es ay = mx d j es ay
 | [], _, _ => rfl
 | f :: ay, j, es => by
   simp only [mx]
   rw [Ml h ay]
   congr 2
   funext e
   congr 1
   rw [Bool.eq_iff_iff]
   simp only [List.contains_iff_mem]
   exact h.2 j e.1
theorem fY {hi : List (List Nat)} {j : Nat} {es : List (Nat × gb)} {ay : List gb} (h : mx (VJ hi) j es ay = true) : mx (sS hi) j es ay = true := by
 exact (Ml (Mk hi [] [] ⟨rfl, fun _ _ => Iff.rfl⟩) ay j es).symm.trans h
abbrev ro (d : Nat) (b1 : gI) : cm := ⟨some d, b1, none⟩
abbrev ab (d x : Nat) : cm := ro d (.ct (.t x))
abbrev aK (d x : Nat) : cm := ro d (.iO (.t x))
abbrev aR (d T x : Nat) : cm := ro d (.cl T (.t x))
abbrev a2 (d T x k : Nat) : cm := ro d (.c1 T (.t x) k)
abbrev cv (d T x i : Nat) : cm := ro d (.fv T (.t x) (.t i))
abbrev Mm (d T x i : Nat) : cm := ro d (.idx T (.t x) (.t i))
abbrev b5 (d T x : Nat) : cm := ro d (.len T (.t x))
abbrev hO (d x : Nat) : cm := ro d (.gu (.t x))
abbrev b4 (d : Nat) (o : BinOp) (T x y : Nat) : cm := ro d (.ck o T (.t x) (.t y))
abbrev a8 (d : Nat) (o : BinOp) (T x : Nat) (n : Int) : cm := ro d (.ck o T (.t x) (.c (.int .i64 n)))
abbrev lv (d : Nat) (n : Int) : cm := ro d (.ct (.c (.int .i64 n)))
abbrev bd (d : Nat) (n : Int) : cm := ro d (.iO (.c (.int .i64 n)))
abbrev br (d : Nat) (b : Bool) : cm := ro d (.iO (.c (.bool b)))
abbrev jq (d : Nat) : cm := ro d (.iO (.c .bp))
abbrev iD (d T : Nat) : cm := ro d (.ho T)
abbrev dO (d g a : Nat) : cm := ro d (.call (.f g) [.t a])
abbrev dP (d g a b : Nat) : cm := ro d (.call (.f g) [.t a, .t b])
abbrev x6 (d g a b c : Nat) : cm := ro d (.call (.f g) [.t a, .t b, .t c])
abbrev pX (d x k : Nat) : cm := ro d (.ex (.t x) k)
abbrev eF (d x : Nat) : cm := ro d (.un .not (.t x))
abbrev Bd (d T x : Nat) : cm := ro d (.eW T 1 [(0, .t x)])
abbrev x7 (d T b0 x y : Nat) : cm := ro d (.app T b0 (.t x) (.t y))
abbrev eh (T x y : Nat) : cm := ⟨none, .gC T (.t x) (.t y), none⟩
abbrev Mn (d A B x : Nat) : cm := ro d (.gH A B (.t x))
theorem bm.Gv {C : cE} (bz : C.Ok) {f : FuncId} {fn : Func} {c : Code} {dN : J} {fx : List Nat} {as outs : List I} {r : I} (gl : List ResultVar) (l : List (Nat × I)) (bF : C.P.funcs[f]? = some fn) (ad : fn.body = some c)
  (k1 : (fn.name == "runtime.NumGoroutine") = false) (af : bq ⟨fn.ntmps, fx⟩ c = some dN.strip) (a_ : as.length ≤ fn.ntmps) (gX : fn.results.toList = gl) (hl : num 0 as = l)
  (h : ∀ Q : Exit → ar → Prop, (∀ s, eO (Ends C fx gl r outs) s → Q .ret s) → (∀ s, eO (Ends C fx gl r outs) s → Q .normal s) → df C dN Q (aa l)) (az : dN.plain = true := by kernel_rfl) : bm C f as r outs := by
 subst gX hl
 exact bm.Uo bz bF ad k1 af a_ h az
theorem my.Gv {C : cE} (bz : C.Ok) {f : FuncId} {fn : Func} {c : Code} {dN : J} {fx : List Nat} {as outs : List I} {r : I} {k m : Nat} (gl : List ResultVar) (l : List (Nat × I)) (bF : C.P.funcs[f]? = some fn) (ad : fn.body = some c)
  (k1 : (fn.name == "runtime.NumGoroutine") = false) (af : bq ⟨fn.ntmps, fx⟩ c = some dN.strip) (a_ : as.length ≤ fn.ntmps) (aA : dN.mT (Ba C f fx as.length m k)) (gX : fn.results.toList = gl) (hl : num 0 as = l)
  (h : ∀ Q : Exit → ar → Prop, (∀ s, eO (Ends C fx gl r outs) s → Q .ret s) → (∀ s, eO (Ends C fx gl r outs) s → Q .normal s) → df C dN Q (aa l)) : my C f m k as r outs := by
 subst gX hl
 exact my.of_wp bz bF ad k1 af a_ aA h
theorem bm.VK {C : cE} (bz : C.Ok) {f : FuncId} {fn : Func} {c : Code} {dN : J} {fx : List Nat} {as outs : List I} {r : I} (gl : List ResultVar) (l : List (Nat × I)) (bF : C.P.funcs[f]? = some fn) (ad : fn.body = some c)
  (k1 : (fn.name == "runtime.NumGoroutine") = false) (af : bq ⟨fn.ntmps, fx⟩ c = some dN.strip) (a_ : as.length ≤ fn.ntmps) (aA : dN.mT (x4 C)) (gX : fn.results.toList = gl) (hl : num 0 as = l)
  (h : ∀ Q : Exit → ar → Prop, (∀ s, eO (Ends C fx gl r outs) s → Q .ret s) → (∀ s, eO (Ends C fx gl r outs) s → Q .normal s) → df C dN Q (aa l)) : bm C f as r outs := by
 subst gX hl
 exact bm.VH bz bF ad k1 af a_ aA h
theorem cV {b : Bool} (h : (!b) = true) : b = false := by cases b <;> first | rfl | cases h
theorem bn {b : Bool} (h : (!b) = false) : b = true := by cases b <;> first | rfl | cases h
section
variable {C : cE} {s : ar} {l : List (Nat × I)} {Q : Exit → ar → Prop}
theorem aG {fx : List Nat} {gl : List ResultVar} {r : I} (ds : List I) (ah : r = Lf ds := by cases jK (by assumption); rfl) (ae : gl.map (qv C s) = ds.map some := by rfl) (aH : (gl.map j1).Nodup := by decide) : Ends C fx gl r [] s :=
 oc ds ae ah aH Up
theorem aL {mQ : ar → Prop} {a b : J} (x8 : ∀ s, mQ s → Q .ret s) (h : ∀ eZ : Exit → ar → Prop, (∀ s, eO (df C b Q) s → eZ .normal s) → (∀ s, mQ s → eZ .ret s) → (∀ i s, Q (.exit i) s → eZ (.exit i) s) → df C a eZ s) : df C (.seq a b) Q s :=
 Uk fun eZ n q x => h eZ n (fun s af => q s (x8 s af)) x
theorem bL {mQ : ar → Prop} {id : Nat} {b : J} (x8 : ∀ s, mQ s → Q .ret s) (h : ∀ eZ : Exit → ar → Prop, (∀ s, Q .normal s → eZ .normal s) → (∀ s, mQ s → eZ .ret s) → (∀ s, Q .normal s → eZ (.exit id) s) → (∀ i s, i ≠ id → Q (.exit i) s → eZ (.exit i) s) → df C b eZ s) : df C (.block id b) Q s :=
 Um fun eZ n q b x => h eZ n (fun s af => q s (x8 s af)) b x
theorem dX {mQ : ar → Prop} {b : J} (x8 : ∀ s, mQ s → Q .ret s) (h : ∀ eZ : Exit → ar → Prop, (∀ s, eO (dE C b Q) s → eZ .normal s) → (∀ s, mQ s → eZ .ret s) → (∀ i s, Q (.exit i) s → eZ (.exit i) s) → df C b eZ s) : dE C b Q s :=
 Un fun eZ n q x => h eZ n (fun s af => q s (x8 s af)) x
theorem aV {β : Type} {c : aI} {t e : J} {b : Bool} {x y : Option β} {r : β} (h : cond b x y = some r) (ae : b = true → x = some r → df C t Q s) (ah : b = false → y = some r → df C e Q s) (ax : aP s c = .bool b := by rfl) : df C (.cond c t e) Q s := by
 rcases fm h with ⟨rfl, h⟩ | ⟨rfl, h⟩
 ·exact iZ ax (ae rfl h)
 ·exact rF ax (ah rfl h)
end
end Go.dg
