/- Part of a proof that a law returns true for every input. No condition. -/
import Derived.Test.YtjedocbdhlppdaaFwK
namespace Go.b7
theorem vx {α : Type} {h : Decidable True} (t e : α) : @ite α True h t e = t := if_pos trivial
theorem vy {α : Type} {h : Decidable False} (t e : α) : @ite α False h t e = e := if_neg id
theorem vz {α : Type} [BEq α] [ReflBEq α] (a : α) : (a == a) = true := BEq.rfl
theorem zQ {α : Type} (a b : α) : (a ≠ b) = ¬(a = b) := rfl
theorem zR : j.owner .hole = none ∧ (∀ b, j.owner (.bool b) = none) ∧ j.owner .c1 = none ∧ (∀ k n, j.owner (.int k n) = none) ∧ (∀ x, j.owner (.str x) = none) ∧ j.owner .b_ = none ∧ j.owner .bu = none ∧ (∀ x, j.owner (.slice x) = none) ∧ (∀ n x, j.owner (.aJ n x) = none) ∧
  (∀ x, j.owner (.ref x) = none) ∧ (∀ x, j.owner (.bb x) = none) ∧ (∀ x, j.owner (.agg x) = none) ∧ (∀ x, j.owner (.tuple x) = none) ∧ (∀ f c, j.owner (.fn f c) = none) ∧ (∀ x q, j.owner (.h x q) = some x) :=
 ⟨rfl, fun _ => rfl, rfl, fun _ _ => rfl, fun _ => rfl, rfl, rfl, fun _ => rfl, fun _ _ => rfl, fun _ => rfl, fun _ => rfl, fun _ => rfl, fun _ => rfl, fun _ _ => rfl, fun _ _ => rfl⟩
theorem zS : (¬ False) = True := not_false_eq_true
theorem zT : (¬ True) = False := not_true_eq_false
theorem zU : ∀ a b : Nat, (some a = some b) = (a = b) := fun _ _ => propext ⟨fun h => Option.some.inj h, fun h => congrArg some h⟩
theorem zV : (∀ n, num n [] = []) ∧ (∀ n a as, num n (a :: as) = (n, a) :: num (n + 1) as) := ⟨fun _ => rfl, fun _ _ _ => rfl⟩
theorem zW : ∀ s1 : ad, hN (some s1) = some (.hole, s1) := fun _ => rfl
theorem zX {k cF : IntKind} {b m : Int} (h : ¬ b < 0) (hm : 2 ^ (min b.toNat k.bits) = m) : ∀ a, fb .shl k a cF b = some (.int k (k.wrap (a * m))) := fun _ => hm ▸ FI h
theorem vA : (∀ t o, fH t (.ch o) = .h t []) ∧ (∀ (l : List (Nat × j)) t o, fin (I l) (some t) (.ch o) = I ((t, .ch o) :: jP t l)) ∧ (∀ o, j.plain (.ch o) = false) ∧ (∀ t o, bI t (.ch o) = .ch o) ∧ (∀ t o, bk t (.ch o) = .ch o) ∧
  (∀ o, j.bV (.ch o) = .hole) ∧ (∀ o, j.wd (.ch o) = 1) ∧ (∀ o, j.dK (.ch o) = true) ∧ (∀ a b, l_ (.ch a) (.ch b) = true) ∧ (∀ s x q d o, bH.fs s ⟨.h x q, true, d, .ch o⟩ = ca (hE x s) x (j.put q (.ch o) (s x))) ∧ (∀ o, j.R (.ch o) = []) ∧ (∀ o, j.tree (.ch o) = true) :=
 ⟨fun _ _ => rfl, fun l t o => by simp only [fin, j.plain, Bool.false_eq_true, if_false, oE, gU], fun _ => rfl, fun _ _ => by unfold bI; rfl, fun _ _ => by unfold bk; rfl, fun _ => by simp only [j.bV], fun _ => by simp only [j.wd], fun _ => rfl, fun _ _ => rfl, fun _ _ _ _ _ => by simp [bH.fs], fun _ => by simp only [j.R], fun _ => rfl⟩
def bl := PLift.up (And.intro vA <| And.intro zV <| And.intro zW <| And.intro zU <| And.intro zR <| And.intro zS <| And.intro zT <| And.intro @vx (And.intro @vy (And.intro @vz (And.intro @zQ FT.down))))
def ez := PLift.up (And.intro vA <| And.intro zV <| And.intro zW <| And.intro zU <| And.intro zR <| And.intro zS <| And.intro zT <| And.intro @vx (And.intro @vy (And.intro @vz (And.intro @zQ FU.down))))
def bZ := PLift.up (And.intro vA <| And.intro @vz <| And.intro @vx (And.intro @vy FV.down))
def nF (l : List Nat) : List Nat := l.foldr (fun x acc => if acc.contains x then acc else x :: acc) []
theorem zY {x : Nat} : ∀ {l : List Nat}, x ∈ nF l ↔ x ∈ l
 | [] => Iff.rfl
 | y :: l => by
   have ih := zY (x := x) (l := l)
   have e : nF (y :: l) = if (nF l).contains y then nF l else y :: nF l := rfl
   rw [e]
   split
   ·rename_i h
    have aX : y ∈ nF l := by simpa using h
    constructor
    ·intro an; exact List.mem_cons_of_mem _ (ih.1 an)
    ·intro an
     rcases List.mem_cons.1 an with rfl | an
     ·exact aX
     ·exact ih.2 an
   ·simp only [List.mem_cons, ih]
def vB : List (List Nat) → List (List Nat) → List (List Nat)
 | done, [] => done
 | done, a :: r => vB (done ++ [nF (a ++ a.flatMap fun e => (done[e]?).getD [])]) r
def Gx (el : List (List Nat)) : List (List Nat) := vB [] el
def vC (c d : List (List Nat)) : Prop := c.length = d.length ∧ ∀ (i x : Nat), x ∈ (c[i]?).getD [] ↔ x ∈ (d[i]?).getD []
theorem zZ : ∀ (r c d : List (List Nat)), vC c d → vC (vB c r) (qA d r)
 | [], c, d, h => h
 | a :: r, c, d, h => by
   refine zZ r _ _ ⟨by simp [h.1], fun i x => ?_⟩
   rcases Nat.lt_trichotomy i c.length with ax | ax | ax
   ·rw [List.getElem?_append_left ax, List.getElem?_append_left (by rw [← h.1]; exact ax)]
    exact h.2 i x
   ·rw [List.getElem?_append_right (by omega), List.getElem?_append_right (by rw [← h.1]; omega), ax, Nat.sub_self, h.1, Nat.sub_self]
    simp only [List.getElem?_cons_zero, Option.getD_some, zY, List.mem_append, List.mem_flatMap]
    constructor
    ·rintro (an | ⟨e, he, an⟩)
     ·exact .inl an
     ·exact .inr ⟨e, he, (h.2 e x).1 an⟩
    ·rintro (an | ⟨e, he, an⟩)
     ·exact .inl an
     ·exact .inr ⟨e, he, (h.2 e x).2 an⟩
   ·rw [List.getElem?_eq_none (by simp; omega), List.getElem?_eq_none (by simp [← h.1]; omega)]
theorem z1 {c d : List (List Nat)} (h : vC c d) : ∀ (af : List de) (ay : Nat) (es : List (Nat × de)), iQ c ay es af = iQ d ay es af
 | [], _, _ => rfl
 | f :: af, ay, es => by
   simp only [iQ]
   rw [z1 h af]
   congr 2
   funext e
   congr 1
   rw [Bool.eq_iff_iff]
   simp only [List.contains_iff_mem]
   exact h.2 ay e.1
theorem hS {el : List (List Nat)} {ay : Nat} {es : List (Nat × de)} {af : List de} (h : iQ (Gx el) ay es af = true) : iQ (oI el) ay es af = true := by
 exact (z1 (zZ el [] [] ⟨rfl, fun _ _ => Iff.rfl⟩) af ay es).symm.trans h
abbrev ro (d : Nat) (aV : dH) : bm := ⟨some d, aV, none⟩
abbrev aB (d x : Nat) : bm := ro d (.cd (.t x))
abbrev bJ (d x : Nat) : bm := ro d (.ew (.t x))
abbrev ea (d T x : Nat) : bm := ro d (.cL T (.t x))
abbrev ef (d T x k : Nat) : bm := ro d (.dn T (.t x) k)
abbrev kn (d T x i : Nat) : bm := ro d (.dA T (.t x) (.t i))
abbrev ko (d T x i : Nat) : bm := ro d (.idx T (.t x) (.t i))
abbrev eA (d T x : Nat) : bm := ro d (.len T (.t x))
abbrev im (d x : Nat) : bm := ro d (.dU (.t x))
abbrev c_ (d : Nat) (o : BinOp) (T x y : Nat) : bm := ro d (.bO o T (.t x) (.t y))
abbrev cv (d : Nat) (o : BinOp) (T x : Nat) (n : Int) : bm := ro d (.bO o T (.t x) (.c (.int .i64 n)))
abbrev qK (d : Nat) (n : Int) : bm := ro d (.cd (.c (.int .i64 n)))
abbrev cW (d : Nat) (n : Int) : bm := ro d (.ew (.c (.int .i64 n)))
abbrev dp (d : Nat) (b : Bool) : bm := ro d (.ew (.c (.bool b)))
abbrev lA (d : Nat) : bm := ro d (.ew (.c .bu))
abbrev lB (d T : Nat) : bm := ro d (.eH T)
abbrev fD (d g a : Nat) : bm := ro d (.call (.f g) [.t a])
abbrev mF (d g a b : Nat) : bm := ro d (.call (.f g) [.t a, .t b])
abbrev gY (d x k : Nat) : bm := ro d (.ex (.t x) k)
abbrev iq (d x : Nat) : bm := ro d (.un .not (.t x))
abbrev qL (d T x : Nat) : bm := ro d (.cM T 1 [(0, .t x)])
abbrev z6 (d T aU x y : Nat) : bm := ro d (.app T aU (.t x) (.t y))
abbrev gJ (T x y : Nat) : bm := ⟨none, .dR T (.t x) (.t y), none⟩
abbrev fM (d A B x : Nat) : bm := ro d (.dv A B (.t x))
theorem b5.z7 {C : bp} (aM : C.c3) {f : FuncId} {fn : Func} {c : Code} {dd : ae} {fx : List Nat} {as outs : List j} {r : j} (dB : List ResultVar) (l : List (Nat × j)) (bo : C.P.funcs[f]? = some fn) (J : fn.body = some c)
  (ie : (fn.name == "runtime.NumGoroutine") = false) (R : cC ⟨fn.ntmps, fx⟩ c = some dd.strip) (aO : as.length ≤ fn.ntmps) (eI : fn.results.toList = dB) (hl : num 0 as = l)
  (h : ∀ Q : Exit → ad → Prop, (∀ s, dS (Ends C fx dB r outs) s → Q .ret s) → (∀ s, dS (Ends C fx dB r outs) s → Q .normal s) → cg C dd Q (I l)) (ak : dd.plain = true := by kernel_rfl) : b5 C f as r outs := by
 subst eI hl
 exact b5.FO aM bo J ie R aO h ak
theorem ly.z7 {C : bp} (aM : C.c3) {f : FuncId} {fn : Func} {c : Code} {dd : ae} {fx : List Nat} {as outs : List j} {r : j} {k m : Nat} (dB : List ResultVar) (l : List (Nat × j)) (bo : C.P.funcs[f]? = some fn) (J : fn.body = some c)
  (ie : (fn.name == "runtime.NumGoroutine") = false) (R : cC ⟨fn.ntmps, fx⟩ c = some dd.strip) (aO : as.length ≤ fn.ntmps) (ah : dd.kS (vv C f fx as.length m k)) (eI : fn.results.toList = dB) (hl : num 0 as = l)
  (h : ∀ Q : Exit → ad → Prop, (∀ s, dS (Ends C fx dB r outs) s → Q .ret s) → (∀ s, dS (Ends C fx dB r outs) s → Q .normal s) → cg C dd Q (I l)) : ly C f m k as r outs := by
 subst eI hl
 exact ly.of_wp aM bo J ie R aO ah h
theorem fN {b : Bool} (h : (!b) = true) : b = false := by cases b <;> first | rfl | cases h
theorem dO {b : Bool} (h : (!b) = false) : b = true := by cases b <;> first | rfl | cases h
section
variable {C : bp} {s : ad} {l : List (Nat × j)} {Q : Exit → ad → Prop}
theorem b9 {fx : List Nat} {dB : List ResultVar} {r : j} (ds : List j) (aa : r = zp ds := by cases mO (by assumption); rfl) (U : dB.map (lp C s) = ds.map some := by rfl) (au : (dB.map f_).Nodup := by decide) : Ends C fx dB r [] s :=
 sg ds U aa au FP
theorem b3 {iN : ad → Prop} {a b : ae} (hz : ∀ s, iN s → Q .ret s) (h : ∀ cR : Exit → ad → Prop, (∀ s, dS (cg C b Q) s → cR .normal s) → (∀ s, iN s → cR .ret s) → (∀ i s, Q (.exit i) s → cR (.exit i) s) → cg C a cR s) : cg C (.seq a b) Q s :=
 FL fun cR n q x => h cR n (fun s R => q s (hz s R)) x
theorem eB {iN : ad → Prop} {id : Nat} {b : ae} (hz : ∀ s, iN s → Q .ret s) (h : ∀ cR : Exit → ad → Prop, (∀ s, Q .normal s → cR .normal s) → (∀ s, iN s → cR .ret s) → (∀ s, Q .normal s → cR (.exit id) s) → (∀ i s, i ≠ id → Q (.exit i) s → cR (.exit i) s) → cg C b cR s) : cg C (.block id b) Q s :=
 FM fun cR n q b x => h cR n (fun s R => q s (hz s R)) b x
theorem hT {iN : ad → Prop} {b : ae} (hz : ∀ s, iN s → Q .ret s) (h : ∀ cR : Exit → ad → Prop, (∀ s, dS (gd C b Q) s → cR .normal s) → (∀ s, iN s → cR .ret s) → (∀ i s, Q (.exit i) s → cR (.exit i) s) → cg C b cR s) : gd C b Q s :=
 FN fun cR n q x => h cR n (fun s R => q s (hz s R)) x
theorem cG {β : Type} {c : aq} {t e : ae} {b : Bool} {x y : Option β} {r : β} (h : cond b x y = some r) (U : b = true → x = some r → cg C t Q s) (aa : b = false → y = some r → cg C e Q s) (ag : aw s c = .bool b := by rfl) : cg C (.cond c t e) Q s := by
 rcases iD h with ⟨rfl, h⟩ | ⟨rfl, h⟩
 ·exact lu ag (U rfl h)
 ·exact qD ag (aa rfl h)
end
end Go.b7
