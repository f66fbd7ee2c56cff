/- Part of a proof that a law returns true for every input. No condition. -/
import Derived.Test.YtgpmnlkgmadglaaGreatDoorFwC
import Derived.Test.YtgpmnlkgmadglaaGreatDoorFwA
import Derived.Laws.IdiomStrings
import Derived.Laws.Strings
import Derived.LaidEql
import Derived.WideLaws
import Derived.Laws.StructEq
namespace Go.c0
section
variable {C : ck} {w0 w : World} {F0 X F : Nat → Prop} {S : Nat → Nat → Prop} {s s1 : ao} {aB : Nat → Value} {av : I}
theorem nY {k : IntKind} {n : Int} {v : Value} {aT : Nat → Prop} (h : aG w F s aB (.int k n) v aT) : v = .int k n := by
 have bx := (aG.cJ rfl).1 h
 rw [au, gX bx.1] at bx
 simpa using bx.2
theorem rv {b : Bool} {v : Value} {aT : Nat → Prop} (h : aG w F s aB (.bool b) v aT) : v = .bool b := by
 have bx := (aG.cJ rfl).1 h
 rw [au, gX bx.1] at bx
 simpa using bx.2
theorem nZ {b : List UInt8} {v : Value} {aT : Nat → Prop} (h : aG w F s aB (.str b) v aT) : v = .string ⟨⟨b⟩⟩ := by
 have bx := (aG.cJ rfl).1 h
 rw [au, gX bx.1] at bx
 simpa using bx.2
theorem Hc {v : Value} {aT : Nat → Prop} (h : aG w F s aB .dv v aT) : v = .pointer none := by
 have bx := (aG.cJ rfl).1 h
 rw [au, gX bx.1] at bx
 simpa using bx.2
theorem pA {v : Value} {aT : Nat → Prop} (h : aG w F s aB .bp v aT) : v = .slice none 0 0 := by
 have bx := (aG.cJ rfl).1 h
 rw [au, gX bx.1] at bx
 simpa using bx.2
theorem Hd {v : Value} {aT : Nat → Prop} (h : aG w F s aB .e_ v aT) : ∃ b, v = .bool b := by
 have bx := (aG.cJ rfl).1 h
 rw [au, gX bx.1] at bx
 simpa using bx.2
theorem of_int (k : IntKind) (n : Int) : aG w F s aB (.int k n) (.int k n) (fun _ => False) := (aG.cJ rfl).2 ⟨rfl, by rw [au]; rfl⟩
theorem of_bool (b : Bool) : aG w F s aB (.bool b) (.bool b) (fun _ => False) := (aG.cJ rfl).2 ⟨rfl, by rw [au]; rfl⟩
theorem mZ (b : List UInt8) : aG w F s aB (.str b) (.string ⟨⟨b⟩⟩) (fun _ => False) := (aG.cJ rfl).2 ⟨rfl, by rw [au]; rfl⟩
theorem CU (b : Bool) : aG w F s aB .e_ (.bool b) (fun _ => False) := (aG.cJ rfl).2 ⟨rfl, by rw [au]; exact ⟨b, rfl⟩⟩
def i1 (op : BinOp) (k : IntKind) (a : Int) (db : IntKind) (b : Int) : Option I :=
 match op with
 | .shl => if b < 0 then none else some (.int k (k.wrap (a * 2 ^ (min b.toNat k.bits))))
 | .shr => if b < 0 then none else some (.int k (a.fdiv (2 ^ (min b.toNat k.bits))))
 | .add => if k = db then some (.int k (k.wrap (a + b))) else none
 | .sub => if k = db then some (.int k (k.wrap (a - b))) else none
 | .mul => if k = db then some (.int k (k.wrap (a * b))) else none
 | .quo => if k = db ∧ b ≠ 0 then some (.int k (k.wrap (a.tdiv b))) else none
 | .rem => if k = db ∧ b ≠ 0 then some (.int k (a.tmod b)) else none
 | .eql => if k = db then some (.bool (a == b)) else none
 | .neq => if k = db then some (.bool (a != b)) else none
 | .lss => if k = db then some (.bool (decide (a < b))) else none
 | .leq => if k = db then some (.bool (decide (a ≤ b))) else none
 | .gtr => if k = db then some (.bool (decide (b < a))) else none
 | .geq => if k = db then some (.bool (decide (b ≤ a))) else none
 | .and => if k = db then some (.int k (bitsOf .and k a b)) else none
 | .or => if k = db then some (.int k (bitsOf .or k a b)) else none
 | .xor => if k = db then some (.int k (bitsOf .xor k a b)) else none
 | .andNot => if k = db then some (.int k (bitsOf .andNot k a b)) else none
def mB (op : BinOp) (a b : List UInt8) : Option I :=
 match op with
 | .add => if a.length + b.length ≤ 9223372036854775807 then some (.str (a ++ b)) else none
 | .eql => some (.bool (a == b))
 | .neq => some (.bool !(a == b))
 | .lss => some (.bool (Op.bytesLess a b))
 | .leq => some (.bool (Op.bytesLess a b || a == b))
 | .gtr => some (.bool !(Op.bytesLess a b || a == b))
 | .geq => some (.bool !(Op.bytesLess a b))
 | _ => none
def k1 (s : ao) : I → Option (Option Bool)
 | .bp => some (some true)
 | .slice xs => some (if xs = [] then none else some false)
 | .h x q => match I.sub q (s x) with
   | some (.aP _ xs) => some (if xs = [] then none else some false)
   | _ => none
 | _ => none
def k2 (s : ao) : I → Option Bool
 | .dv => some true
 | .ref _ => some false
 | .h x q => match I.sub q (s x) with
   | some (.a7 _) => some false
   | _ => none
 | _ => none
def vy (neg : Bool) : Option Bool → I
 | some b => .bool (b != neg)
 | none => .e_
def structEq (P : Program) (T : TypeId) : Bool := !P.stoodInHeld T && !P.eqGuardType P.depth T && (P.fieldsOf T).toList.all fun f => decide (f.name ≠ "_")
def na (C : ck) : List (TypeId × Nat) → Nat → List I → List I → Option Bool
 | [], _, [], [] => some true
 | (jI, off) :: ax, n, d :: ds, e :: es => if off = n then (match (C.T jI).k, d, e with
   | .int k, .int bU a, .int cb b => if bU = k ∧ cb = k then (na C ax (n + 1) ds es).map fun r => a == b && r else none
   | .bool, .bool a, .bool b => (na C ax (n + 1) ds es).map fun r => a == b && r
   | .str, .str a, .str b => (na C ax (n + 1) ds es).map fun r => a == b && r
   | _, _, _ => none) else none
 | _, _, _, _ => none
def b1 (C : ck) (s : ao) (op : BinOp) (T : TypeId) (x y : I) : Option I :=
 match x, y with
 | .int k a, .int db b => i1 op k a db b
 | .str a, .str b => mB op a b
 | .bool a, .bool b => match op, (C.T T).k with
   | .eql, .bool => some (.bool (a == b))
   | .neq, .bool => some (.bool !(a == b))
   | _, _ => none
 | .agg ds, .agg es => match op, (C.T T).k with
   | .eql, .struct ax => if structEq C.P T = true then (na C ax 0 ds es).map fun b => .bool b else none
   | .neq, .struct ax => if structEq C.P T = true then (na C ax 0 ds es).map fun b => .bool !b else none
   | _, _ => none
 | x, .bp => match op, (C.T T).k with
   | .eql, .slice _ => (k1 s x).map (vy false)
   | .neq, .slice _ => (k1 s x).map (vy true)
   | _, _ => none
 | x, .dv => match op, (C.T T).k with
   | .eql, .ptr _ => (k2 s x).map fun b => .bool b
   | .neq, .ptr _ => (k2 s x).map fun b => .bool !b
   | _, _ => none
 | _, _ => none
theorem O7 {P : Program} {op : BinOp} {T : TypeId} {k db : IntKind} {a b : Int} (he : i1 op k a db b = some av) (w : World) :
  ∃ v, (binOp op T (.int k a) (.int db b)).run P w = .ok v w ∧ aG w F s aB av v (fun _ => False) := by
 unfold i1 at he
 cases op <;> simp only at he <;> split at he <;> first | (cases he; done) | skip
 all_goals
  rename_i aw
  simp only [Option.some.injEq] at he
  subst he
 all_goals first
  | (subst aw; simp only [binOp_add, binOp_sub, binOp_mul, binOp_eql, binOp_neq, binOp_lss, binOp_leq, binOp_gtr, binOp_geq, binOp_and, binOp_or, binOp_xor, binOp_andNot, Op.intArith, Op.intBits, Sem.run_pure, Result.ok.injEq, and_true, exists_eq_left']
     first | exact of_int _ _ | exact of_bool _)
  | (obtain ⟨rfl, bc⟩ := aw
     simp only [binOp_quo, binOp_rem, Op.intDiv, bc, if_false, Sem.run_pure, Result.ok.injEq, and_true, exists_eq_left']
     exact of_int _ _)
  | (simp only [binOp_shl, binOp_shr, Op.shift, aw, if_false, Sem.run_pure, Result.ok.injEq, and_true, exists_eq_left']
     exact of_int _ _)
theorem vz (a : List UInt8) : (⟨⟨a⟩⟩ : ByteArray).toList = a := ByteArray.toList_eq _
theorem O8 (a b : List UInt8) : (⟨⟨a⟩⟩ : ByteArray) ++ (⟨⟨b⟩⟩ : ByteArray) = ⟨⟨a ++ b⟩⟩ := by
 apply ByteArray.ext
 simp [ByteArray.data_append]
theorem O9 {P : Program} {op : BinOp} {T : TypeId} {a b : List UInt8} (he : mB op a b = some av) (w : World) :
  ∃ v, (binOp op T (.string ⟨⟨a⟩⟩) (.string ⟨⟨b⟩⟩)).run P w = .ok v w ∧ aG w F s aB av v (fun _ => False) := by
 have ab : ∀ op, binOp op T (.string ⟨⟨a⟩⟩) (.string ⟨⟨b⟩⟩) = Op.stringOp op ⟨⟨a⟩⟩ ⟨⟨b⟩⟩ := by intro op; cases op <;> rfl
 rw [ab]
 unfold mB at he
 cases op <;> simp only [Option.some.injEq] at he <;> first | (cases he; done) | skip
 case add =>
  split at he
  ·rename_i aR
   simp only [Option.some.injEq] at he; subst he
   have ad : ((ByteArray.size ⟨⟨a⟩⟩ + ByteArray.size ⟨⟨b⟩⟩ : Nat) : Int) ≤ 9223372036854775807 := by
    show ((a.length + b.length : Nat) : Int) ≤ _
    omega
   refine ⟨.string ⟨⟨a ++ b⟩⟩, ?_, mZ _⟩
   simp only [Op.stringOp, IntKind.max_i64]
   rw [if_neg (by omega), O8]
   rfl
  ·cases he
 all_goals
  subst he
  simp only [Op.stringOp, vz, Sem.run_pure, Result.ok.injEq, and_true, exists_eq_left']
  exact of_bool _
theorem CV (h : bP w0 F0 X F S s aB w) {v : Value} {y : Nat} {q : List Nat} (aN : aG w F s aB (.h y q) v (fun _ => False)) {sz : Nat} {xs : List I} (ai : I.sub q (s y) = some (.aP sz xs)) :
  (xs = [] ∧ ∃ a, v = .slice a 0 0) ∨ ∃ b cap cur e fr, v = .slice (some ⟨b, 0, none⟩) xs.length cap ∧ w.heap[b]? = some (.cells cur e fr) ∧ qk fr cur.size ∧ xs.length ≤ cap ∧ cap ≤ maxLen ∧ cur.size = cap * sz ∧ (∀ d ∈ xs, d.wd = sz) ∧
   ∃ aT, a8 w F xs (cur.toList.take (xs.length * sz)) aT ∧ (∀ c, aT c → S y c) ∧ S y b := by
 rw [aG] at aN
 obtain ⟨c6, a, g1, g2, g3⟩ := aN _ ai rfl
 have ad : Value.gH v = true := g3
 rw [gX ad] at g2; subst g2
 have aq := h.dC y
 rw [aG.cJ (iI ai (.inl rfl))] at aq
 obtain ⟨gd, cK, eR, hh, k0, bU, cb, e5, dX, fB⟩ := ctx q (s y) (cr (aB y)) (S y) none _ aq.2 ai
 rw [k0] at g1
 simp only [Option.some.injEq, Prod.mk.injEq, true_and] at g1
 obtain ⟨rfl, rfl⟩ := g1
 rw [au] at dX
 rcases dX with ⟨rfl, a2, ah⟩ | ⟨b, cap, cur, aX, fr, dG, aQ, ca, cR, bZ, bS, hi, ln, n0, oS, iJ, fV⟩
 ·simp at ah; exact .inl ⟨rfl, _, ah⟩
 ·simp at aQ
  exact .inr ⟨b, cap, cur, aX, fr, aQ, cR, bZ, bS, hi, ln, n0, dG, oS, fun c aw => cb _ (iJ c aw), cb _ ca⟩
theorem He (h : bP w0 F0 X F S s aB w) {v : Value} {y : Nat} {q : List Nat} (aN : aG w F s aB (.h y q) v (fun _ => False)) {d : I} (ai : I.sub q (s y) = some (.a7 d)) :
  ∃ b cur e fr, v = .pointer (some ⟨b, 0, none⟩) ∧ w.heap[b]? = some (.cells cur e fr) := by
 rw [aG] at aN
 obtain ⟨c6, a, g1, g2, g3⟩ := aN _ ai rfl
 have ad : Value.gH v = true := g3
 rw [gX ad] at g2; subst g2
 have aq := h.dC y
 rw [aG.cJ (iI ai (.inl rfl))] at aq
 obtain ⟨gd, cK, eR, hh, k0, bU, cb, e5, dX, fB⟩ := ctx q (s y) (cr (aB y)) (S y) none _ aq.2 ai
 rw [k0] at g1
 simp only [Option.some.injEq, Prod.mk.injEq, true_and] at g1
 obtain ⟨rfl, rfl⟩ := g1
 rw [au] at dX
 obtain ⟨b, cur, aX, fr, dG, aQ, ca, cR, _⟩ := dX
 simp at aQ
 exact ⟨b, cur, aX, fr, aQ, cR⟩
theorem Hf {P : Program} {T e : TypeId} (bb : P.underlying T = some (.slice e)) (w : World) : ∀ d, (Op.equalIn (d + 1) T (.slice none 0 0) (.slice none 0 0)).run P w = .ok true w ∧
  ∀ a n c, (Op.equalIn (d + 1) T (.slice (some a) n c) (.slice none 0 0)).run P w = .ok false w := by
 intro d
 refine ⟨by simp [Op.equalIn, run_underlying bb], fun a n c => by simp [Op.equalIn, run_underlying bb]⟩
theorem Hg {P : Program} {T e : TypeId} (bb : P.underlying T = some (.pointer e)) (w : World) : ∀ d, (Op.equalIn (d + 1) T (.pointer none) (.pointer none)).run P w = .ok true w ∧
  ∀ a, (Op.equalIn (d + 1) T (.pointer (some a)) (.pointer none)).run P w = .ok false w := by
 intro d
 refine ⟨by simp [Op.equalIn, run_underlying bb], fun a => by simp [Op.equalIn, run_underlying bb]⟩
theorem Hh {P : Program} {T : TypeId} (bb : P.underlying T = some .bool) (w : World) : ∀ d a b, (Op.equalIn (d + 1) T (.bool a) (.bool b)).run P w = .ok (a == b) w := by
 intro d a b
 simp [Op.equalIn, run_underlying bb]
theorem Hi (h : bP w0 F0 X F S s aB w) {x : I} {v : Value} (aN : aG w F s aB x v (fun _ => False)) {T e : TypeId} {r : Option Bool} (aV : k1 s x = some r) (bb : C.P.underlying T = some (.slice e)) :
  ∃ b, (Op.equal T v (.slice none 0 0)).run C.P w = .ok b w ∧ (∀ fJ, r = some fJ → fJ = b) ∧ Value.gH v = true ∧ ∃ a n c, v = .slice a n c := by
 have aS := fun a n c => (Hf bb w 9999).2 a n c
 have gv := (Hf bb w 9999).1
 cases x with
 | bp =>
   have := pA aN; subst this
   simp [k1] at aV; subst aV
   exact ⟨true, gv, by simp, rfl, _, _, _, rfl⟩
 | slice xs =>
   have bx := (aG.cJ rfl).1 aN
   rw [au, gX bx.1] at bx
   simp only [k1, Option.some.injEq] at aV
   obtain ⟨_, ⟨rfl, a, c, ah, _, ry⟩ | ⟨b, o, cap, ew, sz, ah, aI⟩⟩ := bx
   ·simp at ah aV; subst ah; subst aV
    cases a with
    | none =>
      have := ry rfl; subst this
      exact ⟨true, gv, by simp, rfl, _, _, _, rfl⟩
    | some a => exact ⟨false, aS _ _ _, by simp, rfl, _, _, _, rfl⟩
   ·simp at ah; subst ah
    refine ⟨false, aS _ _ _, ?_, rfl, _, _, _, rfl⟩
    subst aV
    split <;> simp
 | h y q =>
   simp only [k1] at aV
   split at aV
   ·rename_i sz xs ai
    simp only [Option.some.injEq] at aV
    rcases CV h aN ai with ⟨rfl, a, rfl⟩ | ⟨b, cap, cur, aX, fr, rfl, _⟩
    ·simp at aV; subst aV
     cases a with
     | none => exact ⟨true, gv, by simp, rfl, _, _, _, rfl⟩
     | some a => exact ⟨false, aS _ _ _, by simp, rfl, _, _, _, rfl⟩
    ·refine ⟨false, aS _ _ _, ?_, rfl, _, _, _, rfl⟩
     subst aV
     split <;> simp
   ·cases aV
 | _ => simp [k1] at aV
theorem Hj (h : bP w0 F0 X F S s aB w) {x : I} {v : Value} (aN : aG w F s aB x v (fun _ => False)) {T e : TypeId} {r : Bool} (aV : k2 s x = some r) (bb : C.P.underlying T = some (.pointer e)) :
  (Op.equal T v (.pointer none)).run C.P w = .ok r w ∧ ∃ a, v = .pointer a := by
 have aS := fun a => (Hg bb w 9999).2 a
 have gv := (Hg bb w 9999).1
 cases x with
 | dv =>
   have := Hc aN; subst this
   simp [k2] at aV; subst aV
   exact ⟨gv, _, rfl⟩
 | ref d =>
   have bx := (aG.cJ rfl).1 aN
   rw [au, gX bx.1] at bx
   simp [k2] at aV; subst aV
   obtain ⟨_, b, o, ew, ah, _⟩ := bx
   simp at ah; subst ah
   exact ⟨aS _, _, rfl⟩
 | h y q =>
   simp only [k2] at aV
   split at aV
   ·rename_i d ai
    simp only [Option.some.injEq] at aV; subst aV
    obtain ⟨b, cur, e, fr, rfl, _⟩ := He h aN ai
    exact ⟨aS _, _, rfl⟩
   ·cases aV
 | _ => simp [k2] at aV
theorem O_ (bl : C.e0) : ∀ (ax : List (TypeId × Nat)) (gs : List Field) (n : Nat) (ds es : List I) (r : Bool) (gQ l2 cy cu : List Value) (xs cn : Array Value) (b5 dG : Nat → Prop),
  gs.map (fun g => (g.type, g.offset)) = ax → (gs.all fun f => decide (f.name ≠ "_")) = true → na C ax n ds es = some r → a8 w F ds cy b5 → a8 w F es cu dG → xs.toList = gQ ++ cy → gQ.length = n → cn.toList = l2 ++ cu → l2.length = n →
  ∀ m, (Op.eqFields (m + 1) xs cn gs).run C.P w = .ok r w := by
 intro ax
 induction ax with
 | nil =>
   intro gs n ds es r gQ l2 cy cu xs cn b5 dG bT aY he ag ah aq aR bt CW m
   have : gs = [] := by simpa using bT
   subst this
   cases ds <;> cases es <;> simp [na] at he
   subst he
   simp [Op.eqFields]
 | cons p ax ih =>
   obtain ⟨jI, off⟩ := p
   intro gs n ds es r gQ l2 cy cu xs cn b5 dG bT aY he ag ah aq aR bt CW m
   cases gs with
   | nil => simp at bT
   | cons g gs =>
     simp only [List.map_cons, List.cons.injEq, Prod.mk.injEq] at bT
     obtain ⟨⟨rfl, rfl⟩, bT⟩ := bT
     simp only [List.all_cons, Bool.and_eq_true, decide_eq_true_eq] at aY
     cases ds with
     | nil => simp [na] at he
     | cons d ds =>
     cases es with
     | nil => simp [na] at he
     | cons e es =>
     simp only [na] at he
     split at he
     ·rename_i oP
      rw [a8] at ag ah
      obtain ⟨U, a2, yH, Pa, rfl, fp, gW, h3, Hk, gf⟩ := ag
      obtain ⟨k3, iS, awt, Pb, rfl, gM, gJ, iK, ik, nb⟩ := ah
      have step : ∀ (x y : Value) (z : Bool), (C.T g.type).flat = true → U = [x] → k3 = [y] → (∀ m, (Op.equalIn (m + 1) g.type x y).run C.P w = .ok z w) → ∀ hN, na C ax (n + 1) ds es = some hN →
        (Op.eqFields (m + 1) xs cn (g :: gs)).run C.P w = .ok (z && hN) w := by
       intro x y z jn Pc Pd heq hN eI
       subst Pc; subst Pd
       have Pe : xs[g.offset]? = some x := by
        rw [← Array.getElem?_toList, aq, oP, ← aR, List.getElem?_append_right (Nat.le_refl _)]; simp
       have Pf : cn[g.offset]? = some y := by
        rw [← Array.getElem?_toList, bt, oP, ← CW, List.getElem?_append_right (Nat.le_refl _)]; simp
       have al := ih gs (n + 1) ds es hN (gQ ++ [x]) (l2 ++ [y]) a2 iS xs cn Pa Pb bT aY.2 eI gW gJ (by rw [aq]; simp) (by simp [aR]) (by rw [bt]; simp) (by simp [CW]) m
       unfold Op.eqFields
       rw [if_pos aY.1]
       simp only [part, Sem.run_bind, CS bl jn, Result.andThen_ok, Bool.false_eq_true, if_false, Pe, Pf, Sem.run_pure, heq]
       cases z
       ·simp
       ·simpa using al
      split at he
      ·rename_i k bU a cb b az
       split at he
       ·rename_i Pg
        obtain ⟨rfl, rfl⟩ := Pg
        rw [au] at fp gM
        simp only [Option.map_eq_some_iff] at he
        obtain ⟨hN, eI, rfl⟩ := he
        obtain ⟨i, vA, Hl, aS, aX, aQ, ca, cR, bZ, bS⟩ := bl.info (gk az (by simp))
        rw [az] at bS
        have rz := vr bS
        subst rz
        exact step _ _ _ (by simp [gK.flat, az]) fp gM (fun m => run_equalIn_int w m g.type _ _ a b bZ) hN eI
       ·cases he
      ·rename_i a b az
       rw [au] at fp gM
       simp only [Option.map_eq_some_iff] at he
       obtain ⟨hN, eI, rfl⟩ := he
       obtain ⟨i, vA, Hl, aS, aX, aQ, ca, cR, bZ, bS⟩ := bl.info (gk az (by simp))
       rw [az] at bS
       have rz := CN bS
       subst rz
       exact step _ _ _ (by simp [gK.flat, az]) fp gM (fun m => run_equalIn_bool' w m g.type a b bZ) hN eI
      ·rename_i a b az
       rw [au] at fp gM
       simp only [Option.map_eq_some_iff] at he
       obtain ⟨hN, eI, rfl⟩ := he
       obtain ⟨i, vA, Hl, aS, aX, aQ, ca, cR, bZ, bS⟩ := bl.info (gk az (by simp))
       rw [az] at bS
       have rz := py bS
       subst rz
       refine step _ _ (a == b) (by simp [gK.flat, az]) fp gM (fun m => ?_) hN eI
       rw [run_equalIn_string w m g.type _ _ bZ, vz, vz]
      ·cases he
     ·cases he
theorem Hm (bl : C.e0) {T : TypeId} {ax : List (TypeId × Nat)} (az : (C.T T).k = .struct ax) {ds es : List I} {jo iR : Value} {b5 dG : Nat → Prop} {r : Bool} (aq : aG w F s aB (.agg ds) jo b5) (bt : aG w F s aB (.agg es) iR dG)
  (cv : structEq C.P T = true) (he : na C ax 0 ds es = some r) (op : BinOp) (vB vC : Operand) :
  (eqGuard op T vB vC jo iR).run C.P w = .ok () w ∧ (Op.equal T jo iR).run C.P w = .ok r w := by
 obtain ⟨i, d, z, aS, aX, aQ, ca, cR, bZ, bS⟩ := bl.info (gk az (by simp))
 rw [az] at bS
 obtain ⟨gs, rfl, hi⟩ := vq bS
 have vD : C.P.fieldsOf T = gs := by simp [Program.fieldsOf, bZ]
 simp only [structEq, Bool.and_eq_true, Bool.not_eq_true', vD] at cv
 obtain ⟨⟨gM, gJ⟩, iK⟩ := cv
 obtain ⟨⟨xs, rfl⟩, ti⟩ := (aG.cJ rfl).1 aq
 obtain ⟨⟨cn, rfl⟩, rn⟩ := (aG.cJ rfl).1 bt
 rw [au] at ti rn
 constructor
 ·cases op <;> simp [eqGuard, gJ]
 ·show (Op.equalIn (9999 + 1) T _ _).run C.P w = _
  rw [run_equalIn_struct w 9999 T xs cn (by rw [vD]; exact bZ) gM, vD]
  exact O_ bl ax gs.toList 0 ds es r [] [] _ _ xs cn b5 dG hi iK he ti rn rfl rfl rfl rfl 9998
theorem Ph (bl : C.e0) (h : bP w0 F0 X F S s aB w) {op : BinOp} {T : TypeId} {x y : I} {jo iR : Value} (vB vC : Operand) (aq : aG w F s aB x jo (fun _ => False)) (bt : aG w F s aB y iR (fun _ => False))
  (he : b1 C s op T x y = some av) : Good C w0 F0 X aB w (do eqGuard op T vB vC jo iR; binOp op T jo iR) av s := by
 unfold b1 at he
 split at he
 ·have := nY aq; subst this
  have := nY bt; subst this
  obtain ⟨v, ag, ah⟩ := O7 (P := C.P) (T := T) he w
  refine Good.same h (v := v) ?_ ?_ ah
  ·rw [eqGuard_at_int]; exact ag
  ·revert he; unfold i1; cases op <;> simp only <;> split <;> simp <;> (rintro rfl; rfl)
 ·have := nZ aq; subst this
  have := nZ bt; subst this
  obtain ⟨v, ag, ah⟩ := O9 (P := C.P) (T := T) he w
  refine Good.same h (v := v) ?_ ?_ ah
  ·rw [eqGuard_at_string]; exact ag
  ·revert he; unfold mB; cases op <;> simp only <;> (try split) <;> simp <;> (try (rintro rfl; rfl))
 ·have := rv aq; subst this
  have := rv bt; subst this
  split at he
  ·rename_i az
   simp only [Option.some.injEq] at he; subst he
   obtain ⟨i, d, z, aS, aX, aQ, ca, cR, bZ, bS⟩ := bl.info (gk az (by simp))
   rw [az] at bS
   have := CN bS; subst this
   refine Good.same h ?_ rfl (of_bool _)
   rw [eqGuard_at_bool]
   simp [binOp, Op.equal, Op.maxDepth, Hh bZ w 9999]
  ·rename_i az
   simp only [Option.some.injEq] at he; subst he
   obtain ⟨i, d, z, aS, aX, aQ, ca, cR, bZ, bS⟩ := bl.info (gk az (by simp))
   rw [az] at bS
   have := CN bS; subst this
   refine Good.same h ?_ rfl (of_bool _)
   rw [eqGuard_at_bool]
   simp [binOp, Op.equal, Op.maxDepth, Hh bZ w 9999]
  ·cases he
 ·split at he
  ·rename_i ax az
   split at he
   ·rename_i cv
    simp only [Option.map_eq_some_iff] at he
    obtain ⟨r, aV, rfl⟩ := he
    obtain ⟨g1, g2⟩ := Hm bl az aq bt cv aV .eql vB vC
    obtain ⟨⟨xs, rfl⟩, _⟩ := (aG.cJ rfl).1 aq
    obtain ⟨⟨cn, rfl⟩, _⟩ := (aG.cJ rfl).1 bt
    exact Good.same h (by simp [g1, binOp, g2]) rfl (of_bool _)
   ·cases he
  ·rename_i ax az
   split at he
   ·rename_i cv
    simp only [Option.map_eq_some_iff] at he
    obtain ⟨r, aV, rfl⟩ := he
    obtain ⟨g1, g2⟩ := Hm bl az aq bt cv aV .neq vB vC
    obtain ⟨⟨xs, rfl⟩, _⟩ := (aG.cJ rfl).1 aq
    obtain ⟨⟨cn, rfl⟩, _⟩ := (aG.cJ rfl).1 bt
    exact Good.same h (by simp [g1, binOp, g2]) rfl (of_bool _)
   ·cases he
  ·cases he
 ·have := pA bt; subst this
  split at he
  ·rename_i e az
   simp only [Option.map_eq_some_iff] at he
   obtain ⟨r, aV, rfl⟩ := he
   obtain ⟨i, d, z, aS, aX, aQ, ca, cR, bZ, bS⟩ := bl.info (gk az (by simp))
   rw [az] at bS
   have := kY bS; subst this
   obtain ⟨b, ag, ah, aI, a0, bO, my, rfl⟩ := Hi h aq aV bZ
   refine Good.same h (v := .bool b) ?_ ?_ ?_
   ·rw [eqGuard_at_slice]
    simp [binOp, ag]
   ·cases r <;> rfl
   ·cases r with
    | none => exact CU b
    | some fJ => have := ah fJ rfl; subst this; simp only [vy, Bool.bne_false]; exact of_bool _
  ·rename_i e az
   simp only [Option.map_eq_some_iff] at he
   obtain ⟨r, aV, rfl⟩ := he
   obtain ⟨i, d, z, aS, aX, aQ, ca, cR, bZ, bS⟩ := bl.info (gk az (by simp))
   rw [az] at bS
   have := kY bS; subst this
   obtain ⟨b, ag, ah, aI, a0, bO, my, rfl⟩ := Hi h aq aV bZ
   refine Good.same h (v := .bool !b) ?_ ?_ ?_
   ·rw [eqGuard_at_slice]
    simp [binOp, ag]
   ·cases r <;> rfl
   ·cases r with
    | none => exact CU _
    | some fJ => have := ah fJ rfl; subst this; simp only [vy, Bool.bne_true]; exact of_bool _
  ·cases he
 ·have := Hc bt; subst this
  split at he
  ·rename_i e az
   simp only [Option.map_eq_some_iff] at he
   obtain ⟨r, aV, rfl⟩ := he
   obtain ⟨i, d, z, aS, aX, aQ, ca, cR, bZ, bS⟩ := bl.info (gk az (by simp))
   rw [az] at bS
   have := G3 bS; subst this
   obtain ⟨ag, a0, rfl⟩ := Hj h aq aV bZ
   refine Good.same h (v := .bool r) ?_ rfl (of_bool _)
   rw [eqGuard_at_pointer]
   simp [binOp, ag]
  ·rename_i e az
   simp only [Option.map_eq_some_iff] at he
   obtain ⟨r, aV, rfl⟩ := he
   obtain ⟨i, d, z, aS, aX, aQ, ca, cR, bZ, bS⟩ := bl.info (gk az (by simp))
   rw [az] at bS
   have := G3 bS; subst this
   obtain ⟨ag, a0, rfl⟩ := Hj h aq aV bZ
   refine Good.same h (v := .bool !r) ?_ rfl (of_bool _)
   rw [eqGuard_at_pointer]
   simp [binOp, ag]
  ·cases he
 ·cases he
end
section
variable {C : ck} {w0 w : World} {F0 X F : Nat → Prop} {S : Nat → Nat → Prop} {s s1 : ao} {aB : Nat → Value} {av : I}
def un (op : UnOp) (x : I) : Option I :=
 match op, x with
 | .not, .bool b => some (.bool !b)
 | .not, .e_ => some .e_
 | .neg, .int k n => some (.int k (k.wrap (0 - n)))
 | _, _ => none
theorem Pj (h : bP w0 F0 X F S s aB w) {op : UnOp} {x : I} {v : Value} (aN : aG w F s aB x v (fun _ => False)) (he : un op x = some av) : Good C w0 F0 X aB w (Op.unary op v) av s := by
 unfold un at he
 split at he <;> first | (cases he; done) | (simp only [Option.some.injEq] at he; subst he)
 ·have := rv aN; subst this
  exact Good.same h rfl rfl (of_bool _)
 ·obtain ⟨b, rfl⟩ := Hd aN
  exact Good.same h rfl rfl (CU _)
 ·have := nY aN; subst this
  exact Good.same h rfl rfl (of_int _ _)
def fC (s : ao) (x : I) : Option I :=
 match x with
 | .ref d => some (.ref d)
 | .fn f c => some (.fn f c)
 | .h y q => match I.sub q (s y) with
   | some (.a7 _) => some (.h y q)
   | _ => none
 | _ => none
theorem Pk {d : I} {v : Value} {aT : Nat → Prop} (h : aG w F s aB (.ref d) v aT) : ∃ b o ew, v = .pointer (some ⟨b, o, none⟩) ∧ F b ∧ h0 w b o ew ∧ au w F d ew (fun _ => False) := by
 have bx := (aG.cJ rfl).1 h
 rw [au, gX bx.1] at bx
 obtain ⟨_, b, o, ew, ag, ah, aI, a_⟩ := bx
 simp at ag; subst ag
 exact ⟨b, o, ew, rfl, ah, aI, a_⟩
theorem Pl (h : bP w0 F0 X F S s aB w) {x : I} {v : Value} (aN : aG w F s aB x v (fun _ => False)) (he : fC s x = some av) :
  av = x ∧ x.plain = true ∧ ((∃ a, v = .pointer (some a)) ∨ ∃ f c, v = .func (.func f) #[] c) := by
 unfold fC at he
 split at he
 ·simp only [Option.some.injEq] at he; subst he
  obtain ⟨b, o, ew, rfl, _⟩ := Pk aN
  exact ⟨rfl, rfl, .inl ⟨_, rfl⟩⟩
 ·simp only [Option.some.injEq] at he; subst he
  rw [aG] at aN
  obtain ⟨arr, rfl, _⟩ := aN
  exact ⟨rfl, rfl, .inr ⟨_, _, rfl⟩⟩
 ·split at he
  ·rename_i d ai
   simp only [Option.some.injEq] at he; subst he
   obtain ⟨b, cur, e, fr, rfl, _⟩ := He h aN ai
   exact ⟨rfl, rfl, .inl ⟨_, rfl⟩⟩
  ·cases he
 ·cases he
def ex (s : ao) (x : I) (k : Nat) : Option I :=
 match x with
 | .tuple ds => match ds[k]? with
   | some d => if d.plain = true then some d else none
   | none => none
 | .h y q => match I.sub q (s y) with
   | some (.tuple ds) => match ds[k]? with
     | some d => if I.gh ds = true then none else some (if d.plain then d else .h y (q ++ [k]))
     | none => none
   | _ => none
 | _ => none
theorem Hn : ∀ (vs : List Value) (k : Nat) (x : Value) (ds : List I), vs[k]? = some x → vs.length = ds.length → (∀ (j : Nat) (d : I) (y : Value), ds[j]? = some d → vs[j]? = some y → (iy y).length = d.wd) →
  ∃ l r, vs.flatMap iy = l ++ (iy x ++ r) ∧ l.length = I.ek (ds.take k)
 | [], k, x, ds, h, _, _ => by simp at h
 | v :: vs, 0, x, ds, h, aR, hw => by
   simp at h; subst h
   exact ⟨[], vs.flatMap iy, by simp, by simp [I.ek]⟩
 | v :: vs, k + 1, x, d :: ds, h, aR, hw => by
   obtain ⟨l, r, aS, aX⟩ := Hn vs k x ds (by simpa using h) (by simpa using aR) (fun j d y ag ah => hw (j + 1) d y (by simpa using ag) (by simpa using ah))
   refine ⟨iy v ++ l, r, by simp [aS], ?_⟩
   have := hw 0 d v (by simp) (by simp)
   simp [I.ek, aX, this]
 | v :: vs, k + 1, x, [], h, aR, hw => by simp at aR
theorem Pm {d : I} {v : Value} (h : iO d v) (_hd : ∀ vs, d ≠ .tuple vs) : cr v = iy v := by
 cases d with
 | agg ax => obtain ⟨arr, rfl⟩ := h; rfl
 | _ =>
   have ag : Value.gH v = true := h
   cases v <;> first | rfl | (simp [Value.gH] at ag)
theorem Pn {d : I} {v : Value} (h : iO d v) (ai : ∀ vs, d ≠ .tuple vs) : eo d v := by
 cases d with
 | tuple vs => exact (ai _ rfl).elim
 | _ => exact h
theorem Po (h : bP w0 F0 X F S s aB w) {x : I} {v : Value} {k : Nat} (aN : aG w F s aB x v (fun _ => False)) (he : ex s x k = some av) : Good C w0 F0 X aB w (Instr.extract v k) av s := by
 have pick : ∀ (ds : List I) (d : I) (arr : Array Value), ds[k]? = some d → (arr.size = ds.length ∧ ∀ (k : Nat) (d : I) (x : Value), ds[k]? = some d → arr[k]? = some x → iO d x ∧ (∀ vs, d ≠ .tuple vs) ∧ (iy x).length = d.wd) →
   ∃ x, arr[k]? = some x ∧ eo d x ∧ ((cr (.tuple arr)).drop (I.ek (ds.take k))).take d.wd = cr x := by
  intro ds d arr ai ⟨b6, l6⟩
  have fa : k < arr.size := by rw [b6]; exact (List.getElem?_eq_some_iff.1 ai).1
  have aq : arr[k]? = some arr[k] := Array.getElem?_eq_getElem fa
  obtain ⟨g1, g2, g3⟩ := l6 k d _ ai aq
  obtain ⟨l, r, aS, aX⟩ := Hn arr.toList k arr[k] ds (by simp [fa]) (by simpa using b6) (fun j d y ag ah => (l6 j d y ag (by simpa using ah)).2.2)
  refine ⟨_, aq, Pn g1 g2, ?_⟩
  rw [Pm g1 g2]
  simp only [cr]
  rw [aS]
  exact ri l _ r _ _ aX g3
 unfold ex at he
 split at he
 ·rename_i ds
  split at he
  ·rename_i d ai
   split at he
   ·rename_i ar
    simp only [Option.some.injEq] at he; subst he
    have bx := (aG.cJ rfl).1 aN
    obtain ⟨⟨arr, rfl, b6⟩, hk⟩ := bx
    obtain ⟨x, aq, ad, aw⟩ := pick ds d arr ai b6
    have aV : (Instr.extract (.tuple arr) k).run C.P w = .ok x w := by simp [Instr.extract, aq]
    rw [au] at hk
    obtain ⟨cy, fS, cu, b5, h2, e, hL, fp, gW, h3, gf, lC⟩ := a8.pick ds _ _ k d hk ai
    rw [e, ri cy fS cu _ _ hL (au.length _ _ _ gf)] at aw
    by_cases bb : d.tree = true
    ·exact Good.same h aV ar ((aG.cJ bb).2 ⟨ad, by rw [← aw]; exact au.plain _ _ _ _ ar gf⟩)
    ·cases d <;> first | exact (bb rfl).elim | (rw [au] at gf; exact gf.elim) | exact Good.same h aV rfl (by rw [aG]; trivial) | (have bN := au.plain _ _ _ (fun _ => False) ar gf; rw [aw, gX (by exact ad)] at bN; exact Good.same h aV rfl (aG.oR _ _ rfl bN))
   ·cases he
  ·cases he
 ·rename_i y q
  split at he
  ·rename_i ds ai
   split at he
   ·rename_i d az
    split at he
    ·cases he
    ·rename_i fT
     simp only [Option.some.injEq] at he
     have fT : (I.tuple ds).plain = false := by simpa [I.plain] using fT
     rw [aG] at aN
     obtain ⟨c6, a, g1, g2, g3⟩ := aN _ ai fT
     obtain ⟨arr, rfl, b6⟩ := g3
     obtain ⟨x, aq, ad, aw⟩ := pick ds d arr az b6
     have aV : (Instr.extract (.tuple arr) k).run C.P w = .ok x w := by simp [Instr.extract, aq]
     have bt := h.dC y
     rw [aG.cJ (iI ai (.inl fT))] at bt
     obtain ⟨gd, cK, eR, hh, k0, bU, cb, e5, dX, fB⟩ := ctx q (s y) (cr (aB y)) (S y) none _ bt.2 ai
     rw [k0] at g1
     simp only [Option.some.injEq, Prod.mk.injEq, true_and] at g1
     obtain ⟨rfl, rfl⟩ := g1
     rw [g2] at aw
     split at he
     ·rename_i ar
      subst he
      rw [au] at dX
      obtain ⟨cy, fS, cu, b5, h2, e, hL, fp, gW, h3, gf, lC⟩ := a8.pick ds _ _ k d dX az
      rw [e, ri cy fS cu _ _ hL (au.length _ _ _ gf)] at aw
      by_cases bb : d.tree = true
      ·exact Good.same h aV ar ((aG.cJ bb).2 ⟨ad, by rw [← aw]; exact au.plain _ _ _ _ ar gf⟩)
      ·cases d <;> first | exact (bb rfl).elim | (rw [au] at gf; exact gf.elim) | exact Good.same h aV rfl (by rw [aG]; trivial) | (have bN := au.plain _ _ _ (fun _ => False) ar gf; rw [aw, gX (by exact ad)] at bN; exact Good.same h aV rfl (aG.oR _ _ rfl bN))
     ·subst he
      refine Good.same h aV rfl ?_
      rw [aG]
      intro d2 iQ CJ
      rw [vp w q _ _ _ _ _ _ [k] k0]
      rw [vo _ _ _ _ ai] at iQ
      simp only [I.sub, az, Option.some.injEq] at iQ
      subst iQ
      simp only [dp, az]
      exact ⟨_, _, rfl, aw.symm, ad⟩
   ·cases he
  ·cases he
 ·cases he
def lI (C : ck) (s : ao) (T : TypeId) (x : I) (k : Nat) : Option I :=
 match (C.T T).k with
 | .struct ax => match ax[k]? with
   | some (jI, off) => match x with
     | .agg ds => match ds[k]? with
       | some d => if I.ek (ds.take k) = off ∧ fits C jI d = true ∧ d.plain = true ∧ d.tree = true then some d else none
       | none => none
     | .h y q => match I.sub q (s y) with
       | some (.agg ds) => match ds[k]? with
         | some d => if I.ek (ds.take k) = off ∧ fits C jI d = true ∧ I.gh ds = false ∧ d.tree = true then some (if d.plain then d else .h y (q ++ [k])) else none
         | none => none
       | _ => none
     | _ => none
   | none => none
 | _ => none
theorem Pp (bl : C.e0) (h : bP w0 F0 X F S s aB w) {T : TypeId} {x : I} {v : Value} {k : Nat} (aN : aG w F s aB x v (fun _ => False)) (he : lI C s T x k = some av) : Good C w0 F0 X aB w (Instr.field T v k) av s := by
 have key : ∀ (ax : List (TypeId × Nat)) (jI : TypeId) (off : Nat), (C.T T).k = .struct ax → ax[k]? = some (jI, off) → ∀ (ds : List I) (d : I) (arr : Array Value) (aT : Nat → Prop), ds[k]? = some d → I.ek (ds.take k) = off → fits C jI d = true → a8 w F ds arr.toList aT →
   ∃ x h2, (Instr.field T (.agg arr) k).run C.P w = .ok x w ∧ eo d x ∧ au w F d (cr x) h2 ∧ (arr.toList.drop off).take d.wd = cr x := by
  intro ax jI off az br ds d arr aT ai oP ig hk
  obtain ⟨i, vA, z, aS, aX, aQ, ca, cR, bZ, bS⟩ := bl.info (gk az (by simp))
  rw [az] at bS
  obtain ⟨gs, rfl, hi⟩ := vq bS
  obtain ⟨g, g1, rfl, rfl⟩ : ∃ g, gs[k]? = some g ∧ g.type = jI ∧ g.offset = off := by
   rw [← hi, List.getElem?_map] at br
   simp only [Option.map_eq_some_iff, Prod.mk.injEq] at br
   obtain ⟨g, ag, ah, aI⟩ := br
   exact ⟨g, by simpa using ag, ah, aI⟩
  obtain ⟨cy, fS, cu, b5, h2, e, hL, fp, gW, h3, gf, lC⟩ := a8.pick ds _ _ k d hk ai
  obtain ⟨x, aV, Ho, lH⟩ := OX (w := w) bl e (hL.trans oP) gf ig
  refine ⟨x, h2, ?_, lH, by rw [Ho]; exact gf, ?_⟩
  ·simp [Instr.field, run_underlying bZ, g1, asAgg, aV]
  ·rw [e, Ho, ← oP]; exact ri cy fS cu _ _ hL (au.length _ _ _ gf)
 have Hp : ∀ (d : I) (x : Value) (h2 : Nat → Prop), d.plain = true → eo d x → au w F d (cr x) h2 → aG w F s aB d x (fun _ => False) := by
  intro d x h2 ar ad hk
  by_cases bb : d.tree = true
  ·exact (aG.cJ bb).2 ⟨ad, au.plain _ _ _ _ ar hk⟩
  ·cases d <;> first | exact (bb rfl).elim | (rw [au] at hk; exact hk.elim) | (rw [aG]; trivial) | (have bN := au.plain _ _ _ (fun _ => False) ar hk; rw [gX (by exact ad)] at bN; exact aG.oR _ _ rfl bN)
 unfold lI at he
 split at he
 ·rename_i ax az
  split at he
  ·rename_i jI off br
   split at he
   ·rename_i ds
    split at he
    ·rename_i d ai
     split at he
     ·rename_i aw
      simp only [Option.some.injEq] at he; subst he
      obtain ⟨⟨arr, rfl⟩, hk⟩ := (aG.cJ rfl).1 aN
      rw [au] at hk
      obtain ⟨x, h2, aV, ad, qp, _⟩ := key ax jI off az br ds d arr _ ai aw.1 aw.2.1 hk
      exact Good.same h aV aw.2.2.1 (Hp d x h2 aw.2.2.1 ad qp)
     ·cases he
    ·cases he
   ·rename_i y q
    split at he
    ·rename_i ds ai
     split at he
     ·rename_i d nV
      split at he
      ·rename_i aw
       simp only [Option.some.injEq] at he
       have fT : (I.agg ds).plain = false := by simpa [I.plain] using aw.2.2.1
       rw [aG] at aN
       obtain ⟨c6, a, g1, g2, g3⟩ := aN _ ai fT
       obtain ⟨arr, rfl⟩ := g3
       have bt := h.dC y
       rw [aG.cJ (iI ai (.inl fT))] at bt
       obtain ⟨gd, cK, eR, hh, k0, bU, cb, e5, dX, fB⟩ := ctx q (s y) (cr (aB y)) (S y) none _ bt.2 ai
       rw [k0] at g1
       simp only [Option.some.injEq, Prod.mk.injEq, true_and] at g1
       obtain ⟨rfl, rfl⟩ := g1
       rw [au, ← g2] at dX
       obtain ⟨x, h2, aV, ad, qp, hj⟩ := key ax jI off az br ds d arr _ nV aw.1 aw.2.1 dX
       by_cases ar : d.plain = true
       ·rw [if_pos ar] at he; subst he
        exact Good.same h aV ar (Hp d x h2 ar ad qp)
       ·rw [if_neg ar] at he; subst he
        refine Good.same h aV rfl ?_
        rw [aG]
        intro d2 iQ CJ
        rw [vp w q _ _ _ _ _ _ [k] k0]
        rw [vo _ _ _ _ ai] at iQ
        simp only [I.sub, nV, Option.some.injEq] at iQ
        subst iQ
        simp only [dp, nV]
        refine ⟨_, _, rfl, ?_, ad⟩
        rw [aw.1, ← g2]; exact hj.symm
      ·cases he
     ·cases he
    ·cases he
   ·cases he
  ·cases he
 ·cases he
end
section
variable {C : ck} {w0 w : World} {F0 X F : Nat → Prop} {S : Nat → Nat → Prop} {s s1 : ao} {aB : Nat → Value} {av : I}
def idx (C : ck) (T : TypeId) (x i : I) : Option I :=
 match (C.T T).k, x, i with
 | .str, .str l, .int _ n => if 0 ≤ n then (match l[n.toNat]? with | some b => some (.int .u8 b.toNat) | none => none) else none
 | _, _, _ => none
theorem Pq (l : List UInt8) (n : Nat) : (⟨⟨l⟩⟩ : ByteArray)[n]? = l[n]? := by
 by_cases h : n < l.length
 ·have bx : n < (⟨⟨l⟩⟩ : ByteArray).size := h
  rw [List.getElem?_eq_getElem h, getElem?_pos (⟨⟨l⟩⟩ : ByteArray) n bx]
  rfl
 ·have bx : ¬ n < (⟨⟨l⟩⟩ : ByteArray).size := h
  rw [List.getElem?_eq_none (by omega), getElem?_neg (⟨⟨l⟩⟩ : ByteArray) n bx]
theorem Pr (bl : C.e0) (h : bP w0 F0 X F S s aB w) {T : TypeId} {x i : I} {v th : Value} (aN : aG w F s aB x v (fun _ => False)) (al : aG w F s aB i th (fun _ => False)) (he : idx C T x i = some av) :
  Good C w0 F0 X aB w (Instr.index T v th) av s := by
 unfold idx at he
 split at he
 ·rename_i l k n az
  have := nZ aN; subst this
  have := nY al; subst this
  obtain ⟨i, d, z, aS, aX, aQ, ca, cR, bZ, bS⟩ := bl.info (gk az (by simp))
  rw [az] at bS
  have := py bS; subst this
  split at he
  ·rename_i aY
   split at he
   ·rename_i b ab
    simp only [Option.some.injEq] at he; subst he
    refine Good.same h ?_ rfl (of_int _ _)
    simp [Instr.index, asIntOf, run_underlying bZ, aY, Pq, ab]
   ·cases he
  ·cases he
 ·cases he
def lenOf (s : ao) : I → Option Nat
 | .str l => some l.length
 | .bp => some 0
 | .slice xs => some xs.length
 | .h y q => match I.sub q (s y) with
   | some (.aP _ xs) => some xs.length
   | _ => none
 | _ => none
def lJ (C : ck) (s : ao) (T : TypeId) (x : I) : Option I :=
 match (C.T T).k, x with
 | .str, .str l => some (.int .i64 l.length)
 | .slice _, .bp => some (.int .i64 0)
 | .slice _, .slice xs => some (.int .i64 xs.length)
 | .slice _, .h y q => match I.sub q (s y) with
   | some (.aP _ xs) => some (.int .i64 xs.length)
   | _ => none
 | _, _ => none
theorem yI {xs : List I} {v : Value} {aT : Nat → Prop} (h : aG w F s aB (.slice xs) v aT) : (xs = [] ∧ ∃ a c, v = .slice a 0 c ∧ c ≤ maxLen ∧ (a = none → c = 0)) ∨
  ∃ b o cap ew sz, v = .slice (some ⟨b, o, none⟩) xs.length cap ∧ F b ∧ xs.length ≤ cap ∧ cap ≤ maxLen ∧ (∀ d ∈ xs, d.wd = sz) ∧ h0 w b o ew ∧ a8 w F xs ew (fun _ => False) := by
 have bx := (aG.cJ rfl).1 h
 rw [au, gX bx.1] at bx
 obtain ⟨_, ⟨rfl, a, c, ah, aI⟩ | ⟨b, o, cap, ew, sz, ah, aI⟩⟩ := bx
 ·simp at ah; exact .inl ⟨rfl, a, c, ah, aI⟩
 ·simp at ah; exact .inr ⟨b, o, cap, ew, sz, ah, aI⟩
theorem Ps (bl : C.e0) (h : bP w0 F0 X F S s aB w) {T ty : TypeId} {x : I} {v : Value} (aN : aG w F s aB x v (fun _ => False)) (he : lJ C s T x = some av) :
  Good C w0 F0 X aB w (Builtin.len_ #[T] ty #[v]) av s := by
 unfold lJ at he
 split at he
 ·rename_i l az
  have := nZ aN; subst this
  obtain ⟨i, d, z, aS, aX, aQ, ca, cR, bZ, bS⟩ := bl.info (gk az (by simp))
  rw [az] at bS
  have := py bS; subst this
  simp only [Option.some.injEq] at he; subst he
  refine Good.same h ?_ rfl (of_int _ _)
  simp [Builtin.len_, run_underlying bZ, goInt]
  rfl
 ·rename_i e az
  have := pA aN; subst this
  obtain ⟨i, d, z, aS, aX, aQ, ca, cR, bZ, bS⟩ := bl.info (gk az (by simp))
  rw [az] at bS
  have := kY bS; subst this
  simp only [Option.some.injEq] at he; subst he
  refine Good.same h ?_ rfl (of_int _ _)
  simp [Builtin.len_, run_underlying bZ, goInt]
 ·rename_i e xs az
  obtain ⟨i, d, z, aS, aX, aQ, ca, cR, bZ, bS⟩ := bl.info (gk az (by simp))
  rw [az] at bS
  have := kY bS; subst this
  simp only [Option.some.injEq] at he; subst he
  refine Good.same h ?_ rfl (of_int _ _)
  rcases yI aN with ⟨rfl, a, c, rfl, _⟩ | ⟨b, o, cap, ew, sz, rfl, _⟩ <;> simp [Builtin.len_, run_underlying bZ, goInt]
 ·rename_i e y q az
  split at he
  ·rename_i sz xs ai
   obtain ⟨i, d, z, aS, aX, aQ, ca, cR, bZ, bS⟩ := bl.info (gk az (by simp))
   rw [az] at bS
   have := kY bS; subst this
   simp only [Option.some.injEq] at he; subst he
   refine Good.same h ?_ rfl (of_int _ _)
   rcases CV h aN ai with ⟨rfl, _, rfl⟩ | ⟨b, cap, cur, aX, fr, rfl, _⟩ <;> simp [Builtin.len_, run_underlying bZ, goInt]
  ·cases he
 ·cases he
def bytesOf : List I → Option (List UInt8)
 | [] => some []
 | .int .u8 n :: r => if 0 ≤ n ∧ n < 256 then (bytesOf r).map (UInt8.ofNat n.toNat :: ·) else none
 | _ => none
def gl (b : UInt8) : I := .int .u8 b.toNat
theorem Pt (l : List UInt8) : bytesOf (l.map gl) = some l := by
 induction l with
 | nil => rfl
 | cons b l ih =>
   have ab : b.toNat < 256 := b.toNat_lt
   simp only [List.map_cons, gl, bytesOf, Int.toNat_natCast]
   rw [if_pos (by omega), ih]
   simp
theorem CX : ∀ (xs : List I) (l : List UInt8) (cs : List Value) (aT : Nat → Prop), bytesOf xs = some l → a8 w F xs cs aT → cs = l.map (fun b => .int .u8 (b.toNat : Int)) ∧ xs.length = l.length
 | [], l, cs, aT, h, aV => by simp [bytesOf] at h; subst h; rw [a8] at aV; subst aV; exact ⟨rfl, rfl⟩
 | x :: xs, l, cs, aT, h, aV => by
   unfold bytesOf at h
   split at h
   ·rename_i e; cases e
   ·rename_i n r e
    simp only [List.cons.injEq] at e
    obtain ⟨rfl, rfl⟩ := e
    split at h
    ·rename_i aY
     simp only [Option.map_eq_some_iff] at h
     obtain ⟨ep, ag, rfl⟩ := h
     rw [a8] at aV
     obtain ⟨cy, cu, b5, dG, rfl, ah, aI, _⟩ := aV
     obtain ⟨rfl, a_⟩ := CX xs ep cu dG ag aI
     rw [au] at ah; subst ah
     refine ⟨?_, by simp [a_]⟩
     simp only [List.map_cons, List.cons_append, List.nil_append, List.cons.injEq, and_true, Value.int.injEq, true_and]
     simp only [UInt8.toNat_ofNat']
     omega
    ·cases h
   ·cases h
theorem bP.vE (h : bP w0 F0 X F S s aB w) {aL : World} {sz cap : Nat} {xs : List I} {cur : Array Value} {e : TypeId} {fr : Nat × Nat} {Sn : Nat → Prop}
  (hw : aL.heap = w.heap.push (.cells cur e fr)) (ag : aL.os = w.os) (ah : aL.tape = w.tape) (aI : aL.output = w.output)
  (br : qk fr cur.size) (hle : xs.length ≤ cap) (hm : cap ≤ maxLen) (eH : cur.size = cap * sz) (l5 : ∀ d ∈ xs, d.wd = sz) (aN : a8 w F xs (cur.toList.take (xs.length * sz)) Sn)
  (fa : ∀ b, Sn b → b < w.heap.size) (bu : ∀ b, Sn b → ¬ F b) (b8 : ∀ u b, Sn b → ¬ S u b) (bc : ∀ b, Sn b → X b ∨ w0.heap.size ≤ b) :
  bP w0 F0 X F S s aB aL ∧ kX w0 X F S s aB aL (.aP sz xs) (.slice (some ⟨w.heap.size, 0, none⟩) xs.length cap) := by
 have hold : ∀ b, b < w.heap.size → aL.heap[b]? = w.heap[b]? := by
  intro b ab
  rw [hw, Array.getElem?_push, if_neg (by omega)]
 have awu : aL.heap.size = w.heap.size + 1 := by rw [hw]; simp
 refine ⟨h.grow hold (by omega) ag ah aI, .inr ⟨rfl, rfl, fun b => b = w.heap.size ∨ Sn b, ?_, ?_, ?_, ?_, ?_⟩⟩
 ·simp only [cr, iy]
  rw [au]
  refine .inr ⟨w.heap.size, cap, cur, e, fr, Sn, rfl, .inl rfl, ?_, br, hle, hm, eH, l5, ?_, fun c aw => .inr aw, fun aw => Nat.lt_irrefl _ (fa _ aw)⟩
  ·rw [hw]; simp
  ·exact a8.frame (fun b ab => hold b (h.fA b ab)) _ _ _ (fun b ab => hold b (fa b ab)) aN
 ·rintro b (rfl | ab)
  ·omega
  ·have := fa b ab; omega
 ·rintro b (rfl | ab) vx
  ·exact Nat.lt_irrefl _ (h.fA _ vx)
  ·exact bu b ab vx
 ·rintro u b (rfl | ab) hu
  ·exact Nat.lt_irrefl _ (h.e4 _ _ hu)
  ·exact b8 u b ab hu
 ·rintro b (rfl | ab)
  ·exact .inr h.size
  ·exact bc b ab
def fW (C : ck) (s : ao) (A B : TypeId) (x : I) : Option I :=
 if (C.T A).ok = true then
 match (C.T B).k, x with
 | .int k, .int _ n => some (.int k (k.wrap n))
 | .str, .str l => match (C.T A).k with
   | .str => some (.str l)
   | _ => none
 | .str, x => match (C.T A).k with
   | .slice e => match (C.T e).k with
     | .int .u8 => match x with
       | .bp => some (.str [])
       | .slice xs => (bytesOf xs).map .str
       | .h y q => match I.sub q (s y) with
         | some (.aP 1 xs) => (bytesOf xs).map .str
         | _ => none
       | _ => none
     | _ => none
   | _ => none
 | .slice e, .str l => match (C.T A).k, (C.T e).k with
   | .str, .int .u8 => if l.length ≤ 9223372036854775807 then some (.aP 1 (l.map gl)) else none
   | _, _ => none
 | _, _ => none
 else none
theorem Hq (l : List UInt8) (aT : Nat → Prop) : a8 w F (l.map gl) (l.map fun b => .int .u8 (b.toNat : Int)) aT := by
 induction l generalizing aT with
 | nil => simp only [List.map_nil]; rw [a8]
 | cons b l ih =>
   simp only [List.map_cons]
   rw [a8]
   exact ⟨[.int .u8 (b.toNat : Int)], _, fun _ => False, fun _ => False, rfl, by rw [gl, au], ih _, fun _ h => h.elim, fun _ h => h.elim, fun _ h => h.elim⟩
theorem Pu (bl : C.e0) (h : bP w0 F0 X F S s aB w) {A B : TypeId} {x : I} {v : Value} (aN : aG w F s aB x v (fun _ => False)) (he : fW C s A B x = some av) :
  Good C w0 F0 X aB w (convert A B v) av s := by
 unfold fW at he
 split at he
 ·rename_i i6
  obtain ⟨e6, awv, aww, U, a2, a3, a4, a5, oT, oU⟩ := bl.info i6
  split at he
  ·rename_i k db n az
   have := nY aN; subst this
   obtain ⟨i, d, z, aS, aX, aQ, ca, cR, bZ, bS⟩ := bl.info (gk az (by simp))
   rw [az] at bS
   have := vr bS; subst this
   simp only [Option.some.injEq] at he; subst he
   refine Good.same h ?_ rfl (of_int _ _)
   simp [convert, run_underlying oT, run_underlying bZ, Conv.intToInt]
  ·rename_i l az
   have := nZ aN; subst this
   obtain ⟨i, d, z, aS, aX, aQ, ca, cR, bZ, bS⟩ := bl.info (gk az (by simp))
   rw [az] at bS
   have := py bS; subst this
   split at he
   ·rename_i vF
    rw [vF] at oU
    have := py oU; subst this
    simp only [Option.some.injEq] at he; subst he
    refine Good.same h ?_ rfl (mZ _)
    simp [convert, run_underlying oT, run_underlying bZ]
   ·cases he
  ·rename_i x az _
   obtain ⟨i, d, z, aS, aX, aQ, ca, cR, bZ, bS⟩ := bl.info (gk az (by simp))
   rw [az] at bS
   have := py bS; subst this
   split at he
   ·rename_i e vF
    rw [vF] at oU
    have := kY oU; subst this
    split at he
    ·rename_i vG
     obtain ⟨tf, bz, qn, f1, f2, f3, f4, f5, f6, f7⟩ := bl.info (gk vG (by simp))
     rw [vG] at f7
     have := vr f7; subst this
     have fin : ∀ (l : List UInt8) (b o cap : Nat), h0 w b o (l.map fun b => .int .u8 (b.toNat : Int)) → (convert A B (.slice (some ⟨b, o, none⟩) l.length cap)).run C.P w = .ok (.string ⟨⟨l⟩⟩) w := by
      intro l b o cap jV
      refine run_convert_bytes_back w A B e ⟨b, o, none⟩ cap l oT f6 bZ (fun j b3 => ?_)
      rw [Addr.add_lit]
      exact jV j _ (by simp [b3])
     have nil : (convert A B (.slice none 0 0)).run C.P w = .ok (.string ⟨⟨[]⟩⟩) w := by
      simp [convert, run_underlying oT, run_underlying bZ, run_underlying f6, Conv.bytesToString]
      rfl
     split at he
     ·have := pA aN; subst this
      simp only [Option.some.injEq] at he; subst he
      exact Good.same h nil rfl (mZ _)
     ·rename_i xs _
      simp only [Option.map_eq_some_iff] at he
      obtain ⟨l, aR, rfl⟩ := he
      rcases yI aN with ⟨rfl, a, c, rfl, _, ry⟩ | ⟨b, o, cap, ew, sz, rfl, ag, ah, aI, a_, bN, cQ⟩
      ·simp [bytesOf] at aR; subst aR
       cases a with
       | none =>
         have := ry rfl; subst this
         exact Good.same h nil rfl (mZ _)
       | some a =>
         refine Good.same h ?_ rfl (mZ _)
         exact run_convert_bytes_back w A B e a c [] oT f6 bZ (fun j b3 => by simp at b3)
      ·obtain ⟨rfl, c5⟩ := CX xs l ew _ aR cQ
       rw [c5]
       exact Good.same h (fin l b o cap bN) rfl (mZ _)
     ·rename_i y q
      split at he
      ·rename_i xs ai
       simp only [Option.map_eq_some_iff] at he
       obtain ⟨l, aR, rfl⟩ := he
       rcases CV h aN ai with ⟨rfl, a, rfl⟩ | ⟨b, cap, cur, aX, fr, rfl, ag, ah, aI, a_, bN, cQ, aT, c5, _⟩
       ·simp [bytesOf] at aR; subst aR
        cases a with
        | none => exact Good.same h nil rfl (mZ _)
        | some a =>
          refine Good.same h ?_ rfl (mZ _)
          exact run_convert_bytes_back w A B e a 0 [] oT f6 bZ (fun j b3 => by simp at b3)
       ·obtain ⟨fg, ie⟩ := CX xs l _ _ aR c5
        rw [ie]
        refine Good.same h (fin l b 0 cap ?_) rfl (mZ _)
        rw [← fg]
        exact s_ ag _
      ·cases he
     ·cases he
    ·cases he
   ·cases he
  ·rename_i e l az
   have := nZ aN; subst this
   obtain ⟨i, d, z, aS, aX, aQ, ca, cR, bZ, bS⟩ := bl.info (gk az (by simp))
   rw [az] at bS
   have := kY bS; subst this
   split at he
   ·rename_i vF vG
    rw [vF] at oU
    have := py oU; subst this
    obtain ⟨tf, bz, qn, f1, f2, f3, f4, f5, f6, f7⟩ := bl.info (gk vG (by simp))
    rw [vG] at f7
    have := vr f7; subst this
    split at he
    ·rename_i aR
     simp only [Option.some.injEq] at he; subst he
     have ad : (⟨⟨l⟩⟩ : ByteArray).size = l.length := rfl
     have vH := grownCap_ge w l.length 0 e
     have Pv := grownCap_le_maxLen w l.length 0 e (by unfold maxLen; omega)
     have Hr : (bytesRow ⟨⟨l⟩⟩ (grownCap w l.length 0 e)).toList = l.map (fun b => Value.int .u8 (b.toNat : Int)) ++ List.replicate (grownCap w l.length 0 e - l.length) (.int .u8 0) := by
      simp [bytesRow, ad]
     have eH : (bytesRow ⟨⟨l⟩⟩ (grownCap w l.length 0 e)).size = grownCap w l.length 0 e * 1 := by
      have : (bytesRow ⟨⟨l⟩⟩ (grownCap w l.length 0 e)).size = (bytesRow ⟨⟨l⟩⟩ (grownCap w l.length 0 e)).toList.length := by simp
      rw [this, Hr]; simp; omega
     have rr := run_bytes_of_string w A B e ⟨⟨l⟩⟩ oT bZ f6
     rw [ad] at rr
     have ka := h.vE (aL := w.drew.alloc (.cells (bytesRow ⟨⟨l⟩⟩ (grownCap w l.length 0 e)) e ((bytesRow ⟨⟨l⟩⟩ (grownCap w l.length 0 e)).size, (bytesRow ⟨⟨l⟩⟩ (grownCap w l.length 0 e)).size + 1)))
      (sz := 1) (cap := grownCap w l.length 0 e) (xs := l.map gl) (cur := bytesRow ⟨⟨l⟩⟩ (grownCap w l.length 0 e)) (e := e) (Sn := fun _ => False) rfl rfl rfl rfl
      (fun o cg ⟨ag, _⟩ => by simp only at ag; omega) (by simpa using vH) Pv eH (by intro d ai; obtain ⟨b, _, rfl⟩ := List.mem_map.1 ai; rfl)
      (by rw [Hr, List.take_left' (by simp)]; exact Hq l _) (fun _ h => h.elim) (fun _ h => h.elim) (fun _ _ h => h.elim) (fun _ h => h.elim)
     simp only [List.length_map] at ka
     exact ⟨_, _, F, S, rr, ka.1, ka.2⟩
    ·cases he
   ·cases he
  ·cases he
 ·cases he
end
section
variable {C : ck} {w0 w : World} {F0 X F : Nat → Prop} {S : Nat → Nat → Prop} {s s1 : ao} {aB : Nat → Value} {av : I}
def kb (d : Nat) : Option I → Option Nat
 | none => some d
 | some (.int _ n) => if 0 ≤ n then some n.toNat else none
 | some _ => none
def fl (C : ck) (s : ao) (T : TypeId) (x : I) (dc al : Option I) : Option (I × ao) :=
 match (C.T T).k, x with
 | .str, .str l => match kb 0 dc, kb l.length al with
   | some a, some b => if a ≤ b ∧ b ≤ l.length then some (.str ((l.take b).drop a), s) else none
   | _, _ => none
 | .slice e, .bp => match kb 0 dc, kb 0 al with
   | some 0, some 0 => if (C.T e).ok = true then some (.bp, s) else none
   | _, _ => none
 | .slice e, .slice xs => match kb 0 dc, kb xs.length al with
   | some a, some b => if a ≤ b ∧ b ≤ xs.length ∧ (C.T e).ok = true ∧ (∀ d ∈ xs, d.wd = (C.T e).sz) then some (.slice ((xs.take b).drop a), s) else none
   | _, _ => none
 | .slice e, .h y q => match I.sub q (s y) with
   | some (.aP sz xs) => match kb 0 dc, kb xs.length al with
     | some 0, some b => if b ≤ xs.length ∧ (C.T e).ok = true then (match cT s (.h y q) with | some (_, s1) => some (.aP sz (xs.take b), s1) | none => none) else none
     | _, _ => none
   | _ => none
 | _, _ => none
def pB (w : World) (F : Nat → Prop) (s : ao) (aB : Nat → Value) : Option I → Option Value → Prop
 | none, none => True
 | some d, some v => aG w F s aB d v (fun _ => False)
 | _, _ => False
theorem Hs {d : Nat} {o : Option I} {v : Option Value} (cg : pB w F s aB o v) {a : Nat} (h : kb d o = some a) : (o = none ∧ v = none ∧ a = d) ∨ ∃ k, v = some (.int k a) := by
 cases o with
 | none =>
   cases v with
   | none => simp [kb] at h; exact .inl ⟨rfl, rfl, h.symm⟩
   | some v => simp [pB] at cg
 | some x =>
   cases v with
   | none => simp [pB] at cg
   | some v =>
     simp only [pB] at cg
     cases x with
     | int k n =>
       have := nY cg; subst this
       simp only [kb] at h
       split at h
       ·rename_i aY
        simp only [Option.some.injEq] at h; subst h
        obtain ⟨m, rfl⟩ := Int.eq_ofNat_of_zero_le aY
        exact .inr ⟨k, rfl⟩
       ·cases h
     | _ => simp [kb] at h
theorem tj {P : Program} {isS : Bool} {len cap a b : Nat} {dc al : Option I} {rA rB : Option Value} (nc : pB w F s aB dc rA) (nd : pB w F s aB al rB) (b_ : kb 0 dc = some a) (ab : kb len al = some b) (lB : a ≤ b) (Pw : b ≤ cap) (_hlc : len ≤ cap) :
  (Instr.sliceBounds isS len cap rA rB none).run P w = .ok (a, b, cap) w := by
 rcases Hs nc b_ with ⟨_, rfl, rfl⟩ | ⟨k, rfl⟩ <;> rcases Hs nd ab with ⟨_, rfl, rfl⟩ | ⟨db, rfl⟩ <;>
  simp [Instr.sliceBounds, Instr.sliceBound, asIntOf, lB, Pw]
theorem tk (bl : C.e0) {T : TypeId} (az : (C.T T).flat = true) (v : Value) (dc al hJ : Option Value) (w : World) : (Instr.sliceAt T v dc al hJ).run C.P w = (Instr.slice T v dc al hJ).run C.P w := by
 obtain ⟨i, d, z, aS, aX, aQ, ca, cR, bZ, bS⟩ := bl.info (G6 az)
 have dQ : ∀ n e, d ≠ .array n e := by
  clear bZ
  unfold gK.flat at az
  generalize (C.T T).k = lG at *
  cases lG <;> cases d <;> simp [ll] at bS az ⊢
 cases d <;> first | exact (dQ _ _ rfl).elim | simp [Instr.sliceAt, run_underlying bZ]
theorem tl {x : gK} {k : mY} (h : x.k = k) (az : k ≠ .other) (ad : ∀ ax, k ≠ .struct ax) : x.flat = true := by
 unfold gK.flat; rw [h]; cases k <;> first | rfl | exact (az rfl).elim | exact (ad _ rfl).elim
theorem a8.split : ∀ (n : Nat) (xs : List I) (cs : List Value) (aT : Nat → Prop), a8 w F xs cs aT → ∃ cy cu b5 dG, cs = cy ++ cu ∧ a8 w F (xs.take n) cy b5 ∧ a8 w F (xs.drop n) cu dG ∧ (∀ b, b5 b → aT b) ∧ (∀ b, dG b → aT b) ∧ (∀ b, b5 b → ¬ dG b)
 | 0, xs, cs, aT, h => ⟨[], cs, fun _ => False, aT, rfl, by rw [List.take_zero, a8], h, fun _ h => h.elim, fun _ h => h, fun _ h => h.elim⟩
 | n + 1, [], cs, aT, h => by rw [a8] at h; subst h; exact ⟨[], [], fun _ => False, fun _ => False, rfl, by rw [List.take_nil, a8], by rw [List.drop_nil, a8], fun _ h => h.elim, fun _ h => h.elim, fun _ h => h.elim⟩
 | n + 1, x :: xs, cs, aT, h => by
   rw [a8] at h
   obtain ⟨cy, cu, hK, gP, rfl, ag, ah, aI, a_, bN⟩ := h
   obtain ⟨d1, d2, b5, dG, rfl, g1, g2, g3, g4, g5⟩ := a8.split n xs cu gP ah
   refine ⟨cy ++ d1, d2, fun b => hK b ∨ b5 b, dG, by simp, ?_, g2, ?_, fun b ab => a_ _ (g4 _ ab), ?_⟩
   ·rw [List.take_succ_cons, a8]
    exact ⟨cy, d1, hK, b5, rfl, ag, g1, fun _ h => .inl h, fun _ h => .inr h, fun b ab aw => bN b ab (g3 b aw)⟩
   ·rintro b (ab | ab)
    ·exact aI b ab
    ·exact a_ b (g3 b ab)
   ·rintro b (ab | ab) aw
    ·exact bN b ab (g4 b aw)
    ·exact g5 b ab aw
theorem Px (bl : C.e0) (h : bP w0 F0 X F S s aB w) {T : TypeId} {x : I} {v : Value} {dc al : Option I} {rA rB : Option Value} (aq : x.plain = true) (aN : aG w F s aB x v (fun _ => False)) (nc : pB w F s aB dc rA) (nd : pB w F s aB al rB)
  (he : fl C s T x dc al = some (av, s1)) : Good C w0 F0 X aB w (Instr.sliceAt T v rA rB none) av s1 := by
 unfold fl at he
 split at he
 ·rename_i l az
  have := nZ aN; subst this
  obtain ⟨i, d, z, aS, aX, aQ, ca, cR, bZ, bS⟩ := bl.info (gk az (by simp))
  rw [az] at bS
  have := py bS; subst this
  split at he
  ·rename_i a b b_ ab
   split at he
   ·rename_i lB
    simp only [Option.some.injEq, Prod.mk.injEq] at he
    obtain ⟨rfl, rfl⟩ := he
    refine Good.same h ?_ rfl (mZ _)
    rw [tk bl (tl az (by simp) (by simp))]
    have eH : (⟨⟨l⟩⟩ : ByteArray).size = l.length := rfl
    have nf := tj (P := C.P) (isS := false) (len := l.length) (cap := l.length) nc nd b_ ab lB.1 lB.2 (Nat.le_refl _)
    have Py : (⟨⟨l⟩⟩ : ByteArray).extract a b = ⟨⟨(l.take b).drop a⟩⟩ := by
     apply ByteArray.ext
     simp [ByteArray.data_extract, List.drop_take]
    simp [Instr.slice, run_underlying bZ, eH, nf, Py]
   ·cases he
  ·cases he
 ·rename_i e az
  have := pA aN; subst this
  obtain ⟨i, d, z, aS, aX, aQ, ca, cR, bZ, bS⟩ := bl.info (gk az (by simp))
  rw [az] at bS
  have := kY bS; subst this
  split at he
  ·rename_i b_ ab
   split at he
   ·rename_i n1
    obtain ⟨tf, bz, qn, f1, f2, f3, f4, f5, f6, f7⟩ := bl.info n1
    simp only [Option.some.injEq, Prod.mk.injEq] at he
    obtain ⟨rfl, rfl⟩ := he
    have nf := tj (P := C.P) (isS := true) (len := 0) (cap := 0) nc nd b_ ab (Nat.le_refl _) (Nat.le_refl _) (Nat.le_refl _)
    refine Good.same h (v := .slice none 0 0) ?_ rfl aN
    rw [tk bl (tl az (by simp) (by simp))]
    simp [Instr.slice, run_underlying bZ, nf, jX f1, f2]
   ·cases he
  ·cases he
 ·rename_i e xs az
  obtain ⟨i, d, z, aS, aX, aQ, ca, cR, bZ, bS⟩ := bl.info (gk az (by simp))
  rw [az] at bS
  have := kY bS; subst this
  split at he
  ·rename_i a b b_ ab
   split at he
   ·rename_i lB
    obtain ⟨Pz, Ht, n1, l5⟩ := lB
    obtain ⟨tf, bz, qn, f1, f2, f3, f4, f5, f6, f7⟩ := bl.info n1
    simp only [Option.some.injEq, Prod.mk.injEq] at he
    obtain ⟨rfl, rfl⟩ := he
    rcases yI aN with ⟨rfl, tm, c, rfl, vI, ry⟩ | ⟨kc, o, cap, ew, sz, rfl, ag, ah, aI, a_, bN, cQ⟩
    ·have h4 : b = 0 := by simpa using Ht
     subst h4
     have PA : a = 0 := by omega
     subst PA
     have nf := tj (P := C.P) (isS := true) (len := 0) (cap := c) nc nd b_ ab (Nat.le_refl _) (Nat.zero_le _) (Nat.zero_le _)
     refine Good.same h (v := .slice tm 0 c) ?_ rfl ((aG.cJ rfl).2 ⟨rfl, by rw [au]; exact .inl ⟨rfl, tm, c, rfl, vI, ry⟩⟩)
     rw [tk bl (tl az (by simp) (by simp))]
     cases tm with
     | none =>
       have := ry rfl; subst this
       simp [Instr.slice, run_underlying bZ, nf, jX f1, f2]
     | some tm => simp [Instr.slice, run_underlying bZ, nf, jX f1, f2, Addr.add]
    ·have nf := tj (P := C.P) (isS := true) (len := xs.length) (cap := cap) nc nd b_ ab Pz (Nat.le_trans Ht ah) ah
     obtain ⟨cy, cu, b5, dG, rfl, g1, g2, g3, g4, g5⟩ := a8.split b xs ew _ cQ
     obtain ⟨d1, d2, awx, Hu, rfl, bU, cb, e5, dX, fB⟩ := a8.split a (xs.take b) cy _ g1
     have CY : d1.length = a * (C.T e).sz := by
      rw [a8.length _ _ _ bU, rk _ (fun d ai => l5 d (List.mem_of_mem_take (List.mem_of_mem_take ai))), List.length_take, List.length_take]
      congr 1; omega
     have hlen : ((xs.take b).drop a).length = b - a := by simp; omega
     have jV : h0 w kc (o + a * (C.T e).sz) d2 := by
      rw [← CY]
      have : h0 w kc o (d1 ++ (d2 ++ cu)) := by simpa using bN
      exact this.CP
     have yJ : a8 w F ((xs.take b).drop a) d2 (fun _ => False) := a8.mono (fun _ h => h) _ _ _ _ (fun b ab => (g3 _ (dX _ ab)).elim) cb
     have mem : ∀ d ∈ (xs.take b).drop a, d.wd = sz := fun d ai => a_ d (List.mem_of_mem_take (List.mem_of_mem_drop ai))
     have run : (Instr.sliceAt T (.slice (some ⟨kc, o, none⟩) xs.length cap) rA rB none).run C.P w = .ok (.slice (if cap = a then some ⟨kc, o, none⟩ else some ⟨kc, o + a * (C.T e).sz, none⟩) (b - a) (cap - a)) w := by
      rw [tk bl (tl az (by simp) (by simp))]
      simp [Instr.slice, run_underlying bZ, nf, jX f1, f2, Addr.add_lit]
     refine ⟨_, w, F, S, run, h, .inl ⟨rfl, (aG.cJ rfl).2 ⟨rfl, ?_⟩⟩⟩
     simp only [cr, iy]
     rw [au]
     by_cases Hv : cap = a
     ·have PB : b = a := by omega
      subst PB
      have vJ : (xs.take b).drop b = [] := by simp
      rw [if_pos Hv]
      rw [vJ] at yJ ⊢
      rw [a8] at yJ
      subst yJ
      exact .inr ⟨kc, o, cap - b, [], sz, by simp, ag, Nat.zero_le _, by omega, by simp, fun j c b3 => by simp at b3, by rw [a8]⟩
     ·rw [if_neg Hv]
      exact .inr ⟨kc, _, cap - a, d2, sz, by rw [hlen], ag, by rw [hlen]; omega, by omega, mem, jV, yJ⟩
   ·cases he
  ·cases he
 ·rename_i e y q az
  split at he
  ·rename_i sz xs ai
   split at he
   ·rename_i b b_ ab
    split at he
    ·rename_i yK
     split at he
     ·rename_i vA s2 bb
      simp only [Option.some.injEq, Prod.mk.injEq] at he
      obtain ⟨rfl, rfl⟩ := he
      obtain ⟨i, d, z, aS, aX, aQ, ca, cR, bZ, bS⟩ := bl.info (gk az (by simp))
      rw [az] at bS
      have := kY bS; subst this
      obtain ⟨tf, bz, qn, f1, f2, f3, f4, f5, f6, f7⟩ := bl.info yK.2
      have rz : vA = .aP sz xs := by
       simp only [cT, ai, I.plain] at bb
       simp at bb
       exact bb.1.symm
      subst rz
      obtain ⟨b5, g0, g1, g2, Sn, g3, g4, g5, g6, g7, g8⟩ := oO h rfl aN bb
      rw [gX g2, au] at g3
      rcases g3 with ⟨rfl, a0, k4⟩ | ⟨kc, cap, cur, gv, fr, aT, k4, bU, cb, e5, dX, fB, eC, jq, fi, lK, qq⟩
      ·simp at k4; subst k4
       have h4 : b = 0 := by simpa using yK.1
       subst h4
       have nf := tj (P := C.P) (isS := true) (len := 0) (cap := 0) nc nd b_ ab (Nat.le_refl _) (Nat.le_refl _) (Nat.le_refl _)
       refine ⟨.slice a0 0 0, w, F, b5, ?_, g0, .inr ⟨rfl, rfl, fun _ => False, by simp only [cr, iy]; rw [au]; exact .inl ⟨rfl, _, rfl⟩, fun _ h => h.elim, fun _ h => h.elim, fun _ _ h => h.elim, fun _ h => h.elim⟩⟩
       rw [tk bl (tl az (by simp) (by simp))]
       cases a0 <;> simp [Instr.slice, run_underlying bZ, nf, jX f1, f2]
      ·simp at k4; subst k4
       have nf := tj (P := C.P) (isS := true) (len := xs.length) (cap := cap) nc nd b_ ab (Nat.zero_le _) (Nat.le_trans yK.1 dX) dX
       have hlen : (xs.take b).length = b := by simp; omega
       have run : (Instr.sliceAt T (.slice (some ⟨kc, 0, none⟩) xs.length cap) rA rB none).run C.P w = .ok (.slice (some ⟨kc, 0, none⟩) b cap) w := by
        rw [tk bl (tl az (by simp) (by simp))]
        simp [Instr.slice, run_underlying bZ, nf, jX f1, f2, Addr.add_lit]
       refine ⟨_, w, F, b5, run, g0, .inr ⟨rfl, rfl, Sn, ?_, g4, g5, g6, g7⟩⟩
       simp only [cr, iy]
       rw [au]
       obtain ⟨cy, cu, hK, gP, aw, m1, m2, m3, m4, m5⟩ := a8.split b xs _ _ fi
       refine .inr ⟨kc, cap, cur, gv, fr, aT, by rw [hlen], bU, cb, e5, by omega, fB, eC, fun d ai => jq d (List.mem_of_mem_take ai), ?_, lK, qq⟩
       have CY : cy.length = b * sz := by
        rw [a8.length _ _ _ m1, rk _ (fun d ai => jq d (List.mem_of_mem_take ai)), hlen]
       have : cur.toList.take ((xs.take b).length * sz) = cy := by
        rw [hlen]
        have ah : b * sz ≤ xs.length * sz := Nat.mul_le_mul_right _ yK.1
        have : (cur.toList.take (xs.length * sz)).take (b * sz) = cy := by rw [aw, List.take_left' CY]
        rwa [List.take_take, Nat.min_eq_left ah] at this
       rw [this]
       exact a8.mono (fun _ h => h) _ _ _ _ m3 m1
     ·cases he
    ·cases he
   ·cases he
  ·cases he
 ·cases he
end
section
variable {C : ck} {w0 w : World} {F0 X F : Nat → Prop} {S : Nat → Nat → Prop} {s s1 : ao} {aB : Nat → Value} {av : I}
def Src (P : Program) (w : World) (size : Nat) (x : Value) (m : Nat) (news : List Value) : Prop :=
 ∀ aL : World, aL.heap = w.heap → (Builtin.lenOf x).run P aL = .ok m aL ∧ (Builtin.firstCells size m x).run P aL = .ok news.toArray aL
def CZ (d : TypeDesc) : Prop := (∃ e, d = .slice e) ∨ d = .string
theorem PC {P : Program} {T bF ty e : TypeId} {pC : TypeDesc} {i : TypeInfo} (bb : P.underlying T = some (.slice e)) (hu : P.underlying bF = some pC) (rC : CZ pC) (al : P.info? e = some i)
  {x : Value} {m : Nat} {news : List Value} (yL : Src P w i.size x m news) {b n cap : Nat} {cur : Array Value} {gv : TypeId} {fr : Nat × Nat} {l mid r : List Value} (ab : w.heap[b]? = some (.cells cur gv fr)) (br : qk fr cur.size)
  (aw : cur.toList = l ++ (mid ++ r)) (aR : l.length = n * i.size) (hm : mid.length = news.length) (yF : ∀ v ∈ news, Value.gH v = true) (oV : n + m ≤ cap) :
  ∃ aL, (Builtin.append_ #[T, bF] ty #[.slice (some ⟨b, 0, none⟩) n cap, x]).run P w = .ok (.slice (some ⟨b, 0, none⟩) (n + m) cap) aL ∧ aL.heap[b]? = some (.cells (l ++ (news ++ r)).toArray gv fr) ∧
    (∀ c, c ≠ b → aL.heap[c]? = w.heap[c]?) ∧ aL.heap.size = w.heap.size ∧ aL.os = w.os ∧ aL.tape = w.tape ∧ aL.output = w.output := by
 obtain ⟨aL, m1, m2⟩ := yE (P := P) (b := b) (o := n * i.size) (e := gv) (fr := fr) news 0 cur w l mid r ab br aw (by omega) hm yF
 refine ⟨aL, ?_, m2⟩
 obtain ⟨ag, ah⟩ := yL w rfl
 rcases rC with ⟨gI, rfl⟩ | rfl <;> simp [Builtin.append_, run_underlying bb, run_underlying hu, jX al, ag, ah, oV, Addr.add_lit, m1]
theorem PD {P : Program} {T bF ty e : TypeId} {pC : TypeDesc} {i : TypeInfo} {z : Value} (bb : P.underlying T = some (.slice e)) (hu : P.underlying bF = some pC) (rC : CZ pC) (al : P.info? e = some i) (b6 : i.zero = some z)
  {x : Value} {m : Nat} {news : List Value} (yL : Src P w i.size x m news) {base : Option Addr} {n cap : Nat} {n2 : List Value} (hold : Src P w i.size (.slice base n cap) n n2) (oV : ¬ n + m ≤ cap)
  (aY : n + m ≤ 9223372036854775807) (C0 : (n + m) * i.bytes ≤ 140737488355328) :
  (Builtin.append_ #[T, bF] ty #[.slice base n cap, x]).run P w = .ok (.slice (some ⟨w.heap.size, 0, none⟩) (n + m) (grownCap w (n + m) cap e))
   (w.drew.alloc (.cells (n2.toArray ++ news.toArray ++ Builtin.zeroCells z.cells (grownCap w (n + m) cap e - (n + m))) e)) := by
 have ag := (yL w rfl).1
 have ah := (yL w.drew rfl).2
 have aI := (hold w.drew rfl).2
 have awy := growslice_fits (need := n + m) (old := cap) (by omega) C0
 have ig : ¬ (281474976710656 < Builtin.nextslicecap (n + m) cap * i.bytes) := by omega
 have tn : ∀ k (w : World), (askRoom k).run P w = .ok () w := by
  intro k w
  unfold askRoom
  split <;> rfl
 have C1 : ¬ (9223372036854775807 < (n : Int) + (m : Int) ∧ i.bytes = 0) := by omega
 rcases rC with ⟨gI, rfl⟩ | rfl <;>
  ·simp [Builtin.append_, run_underlying bb, run_underlying hu, jX al, rp al, ag, oV, ig, Question.forced, tn]
   rw [if_neg C1, aI]
   simp [ah, te al b6, newRow, grownCap]
   have aS : (n2 ++ news).toArray = n2.toArray ++ news.toArray := by simp
   rw [aS, Array.append_assoc]
def yM (C : ck) (e bF : TypeId) : Bool := match (C.T bF).k, (C.T e).k with
 | .slice gI, _ => gI == e
 | .str, .int .u8 => true
 | _, _ => false
def lL (C : ck) (s : ao) (T bF : TypeId) (x y : I) : Option (I × ao) :=
 match (C.T T).k with
 | .slice e => if (C.T e).ok = true ∧ (C.T e).zero.wd = (C.T e).sz ∧ (flat (C.T e).zero).isSome = true ∧ yM C e bF = true then
   match (match x with | .bp => some (I.aP (C.T e).sz [], s) | .h a q => cT s (.h a q) | _ => none) with
   | some (.aP sz xs, s1) => if sz = (C.T e).sz then
     match (match kG x.owner y with
      | .bp => some ([], s1)
      | .slice cn => some (cn, s1)
      | .str l => some (l.map gl, s1)
      | .h a q => match cT s1 (.h a q) with
        | some (.aP _ cn, s2) => some (cn, s2)
        | _ => none
      | _ => none) with
     | some (cn, s2) => if (∀ d ∈ cn, d.wd = (C.T e).sz) ∧ (xs.length + cn.length) * (C.T e).bytes ≤ 140737488355328 ∧ xs.length + cn.length ≤ 9223372036854775807 then some (.aP sz (xs ++ cn), s2) else none
     | none => none
     else none
   | _ => none
   else none
 | _ => none
theorem a8.append {xs cn : List I} {cy cu : List Value} {b5 dG aT : Nat → Prop} (ag : a8 w F xs cy b5) (ah : a8 w F cn cu dG) (aS : ∀ b, b5 b → aT b) (aX : ∀ b, dG b → aT b) (aQ : ∀ b, b5 b → ¬ dG b) : a8 w F (xs ++ cn) (cy ++ cu) aT := by
 induction xs generalizing cy b5 aT with
 | nil => rw [a8] at ag; subst ag; exact a8.mono (fun _ h => h) _ _ _ _ aX ah
 | cons x xs ih =>
   rw [a8] at ag
   obtain ⟨PE, PF, hK, gP, rfl, g1, g2, g3, g4, g5⟩ := ag
   rw [List.cons_append, a8]
   refine ⟨PE, PF ++ cu, hK, fun b => gP b ∨ dG b, by simp, g1, ih g2 (fun b h => .inl h) (fun b h => .inr h) (fun b h => aQ b (g4 b h)), fun b h => aS b (g3 b h), ?_, ?_⟩
   ·rintro b (h | h)
    ·exact aS b (g4 b h)
    ·exact aX b h
   ·rintro b h (bx | bx)
    ·exact g5 b h bx
    ·exact aQ b (g3 b h) bx
theorem C2 {P : Program} {size m cap : Nat} {b o : Nat} {news : List Value} (jV : h0 w b o news) (aR : news.length = m * size) : Src P w size (.slice (some ⟨b, o, none⟩) m cap) m news := by
 intro aL hw
 refine ⟨rfl, ?_⟩
 refine run_firstCells_some aL size m ⟨b, o, none⟩ m cap news aR (fun j v b3 => ?_)
 rw [Addr.add_lit]
 have := jV j v b3
 simpa [World.cell?, hw] using this
theorem Hw {P : Program} {size cap : Nat} : Src P w size (.slice none 0 cap) 0 [] := by
 intro aL _
 exact ⟨rfl, by simp [Builtin.firstCells]⟩
theorem C3 {P : Program} {size cap : Nat} (a : Option Addr) : Src P w size (.slice a 0 cap) 0 [] := by
 cases a with
 | none => exact Hw
 | some a =>
   intro aL _
   exact ⟨rfl, run_firstCells_some aL size 0 a 0 cap [] (by simp) (fun j v b3 => by simp at b3)⟩
theorem PG {P : Program} (l : List UInt8) : Src P w 1 (.string ⟨⟨l⟩⟩) l.length (l.map fun b => .int .u8 (b.toNat : Int)) := by
 intro aL _
 refine ⟨rfl, ?_⟩
 have : (⟨⟨l⟩⟩ : ByteArray).extract 0 l.length = ⟨⟨l⟩⟩ := by
  apply ByteArray.ext
  simp [ByteArray.data_extract]
 simp [Builtin.firstCells, this]
theorem a8.rD {sz : Nat} {xs : List I} {cs : List Value} {aT : Nat → Prop} (h : a8 w F xs cs aT) (hw : ∀ d ∈ xs, d.wd = sz) : cs.length = xs.length * sz := by
 rw [a8.length _ _ _ h, rk _ hw]
theorem bP.turn (h : bP w0 F0 X F S s aB w) {aL : World} {b : Nat} (ab : ∀ c, c ≠ b → aL.heap[c]? = w.heap[c]?) (ad : aL.heap.size = w.heap.size) (ag : aL.os = w.os) (ah : aL.tape = w.tape) (aI : aL.output = w.output)
  (bu : ¬ F b) (b8 : ∀ u, ¬ S u b) (bc : X b ∨ w0.heap.size ≤ b) : bP w0 F0 X F S s aB aL where
 hq := h.hq
 hM := h.hM
 fA := fun c aw => by rw [ad]; exact h.fA c aw
 e4 := fun t c aw => by rw [ad]; exact h.e4 t c aw
 gi := h.gi
 fK := h.fK
 eh := h.eh
 dC := fun t => aG.frame (Sx := S) (fun c aw => ab c (by rintro rfl; exact bu aw)) (fun _ h => h) (fun x c aw => ab c (by rintro rfl; exact b8 x aw)) h.dC _ _ _ (fun c aw => ab c (by rintro rfl; exact b8 t aw)) (h.dC t)
 old := fun c fa kW => by
  rw [ab c ?_]
  ·exact h.old c fa kW
  ·rintro rfl
   rcases bc with bc | bc
   ·exact kW bc
   ·omega
 size := by rw [ad]; exact h.size
 os := ag.trans h.os
 tape := ah.trans h.tape
 output := aI.trans h.output
theorem PH (bl : C.e0) (h : bP w0 F0 X F S s aB w) {T bF ty : TypeId} {x y : I} {jo iR : Value} (aq : aG w F s aB x jo (fun _ => False)) (bt : aG w F s aB y iR (fun _ => False))
  (he : lL C s T bF x y = some (av, s1)) : Good C w0 F0 X aB w (Builtin.append_ #[T, bF] ty #[jo, iR]) av s1 := by
 unfold lL at he
 split at he
 ·rename_i e az
  obtain ⟨C4, d, C5, aS, aX, aQ, ca, cR, bZ, bS⟩ := bl.info (gk az (by simp))
  rw [az] at bS
  have := kY bS; subst this
  split at he
  ·rename_i ru
   obtain ⟨n1, oW, pD, oX⟩ := ru
   obtain ⟨i, C6, z, f1, f2, f3, f4, f5, f6, f7⟩ := bl.info n1
   obtain ⟨fc, lo⟩ := Option.isSome_iff_exists.1 pD
   have pE := f5 fc lo
   have n3 : fc.length = (C.T e).sz := by
    have := au.length _ _ _ ((au.flat (w := w) (F := F) _).1 (C.T e).zero fc (fun _ => False) (Nat.le_refl _) lo)
    rw [this, oW]
   obtain ⟨pC, hu, rC⟩ : ∃ pC, C.P.underlying bF = some pC ∧ CZ pC := by
    unfold yM at oX
    split at oX
    ·rename_i gI kI
     obtain ⟨_, bz, _, _, _, _, _, _, g6, g7⟩ := bl.info (gk kI (by simp))
     rw [kI] at g7
     exact ⟨bz, g6, .inl ⟨_, kY g7⟩⟩
    ·rename_i kI _
     obtain ⟨_, bz, _, _, _, _, _, _, g6, g7⟩ := bl.info (gk kI (by simp))
     rw [kI] at g7
     exact ⟨bz, g6, .inr (py g7)⟩
    ·cases oX
   split at he
   ·rename_i sz xs C7 oY
    split at he
    ·rename_i eH
     subst eH
     split at he
     ·rename_i cn vK ng
      split at he
      ·rename_i PI
       obtain ⟨tp, C0, C8⟩ := PI
       simp only [Option.some.injEq, Prod.mk.injEq] at he
       obtain ⟨rfl, rfl⟩ := he
       obtain ⟨hK, a0, Sn, a3, a4, a5, oT, oU, awz, a9, qs⟩ : ∃ hK, bP w0 F0 X F hK C7 aB w ∧ ∃ Sn, au w F (.aP (C.T e).sz xs) [jo] Sn ∧ (∀ b, Sn b → b < w.heap.size) ∧ (∀ b, Sn b → ¬ F b) ∧ (∀ u b, Sn b → ¬ hK u b) ∧
         (∀ b, Sn b → X b ∨ w0.heap.size ≤ b) ∧ (∀ u b, hK u b → S u b) ∧ (∀ b, Sn b → ∃ u, S u b) ∧ aG w F C7 aB (kG x.owner y) iR (fun _ => False) := by
        split at oY
        ·simp only [Option.some.injEq, Prod.mk.injEq, I.aP.injEq, true_and] at oY
         obtain ⟨rfl, rfl⟩ := oY
         have := pA aq; subst this
         exact ⟨S, h, fun _ => False, by rw [au]; exact .inl ⟨rfl, _, rfl⟩, fun _ h => h.elim, fun _ h => h.elim, fun _ _ h => h.elim, fun _ h => h.elim, fun _ _ h => h, fun _ h => h.elim, bt⟩
        ·obtain ⟨b5, g0, g1, g2, Sn, g3, g4, g5, g6, g7, g8, g9, g10⟩ := oO h rfl aq oY
         rw [gX g2] at g3
         exact ⟨b5, g0, Sn, g3, g4, g5, g6, g7, g8, g9, g10 _ _ _ bt⟩
        ·cases oY
       obtain ⟨gP, kc, mC, news, k3, iS, kr, bA, bE, cL, k5, bQ⟩ : ∃ gP, bP w0 F0 X F gP vK aB w ∧ ∃ mC news, a8 w F cn news mC ∧ Src C.P w i.size iR cn.length news ∧ (∀ b, mC b → b < w.heap.size) ∧ (∀ b, mC b → ¬ F b) ∧ (∀ u b, mC b → ¬ gP u b) ∧
         (∀ b, mC b → X b ∨ w0.heap.size ≤ b) ∧ (∀ u b, gP u b → hK u b) ∧ (∀ b, mC b → ∃ u, hK u b) := by
        split at ng
        ·rename_i rE
         simp only [Option.some.injEq, Prod.mk.injEq] at ng
         obtain ⟨rfl, rfl⟩ := ng
         rw [rE] at qs
         have := pA qs; subst this
         exact ⟨hK, a0, fun _ => False, [], by rw [a8], Hw, fun _ h => h.elim, fun _ h => h.elim, fun _ _ h => h.elim, fun _ h => h.elim, fun _ _ h => h, fun _ h => h.elim⟩
        ·rename_i gY rE
         simp only [Option.some.injEq, Prod.mk.injEq] at ng
         obtain ⟨rfl, rfl⟩ := ng
         rw [rE] at qs
         rcases yI qs with ⟨rfl, tm, awA, rfl, _, ry⟩ | ⟨b, o, cap, ew, PJ, rfl, bU, cb, e5, dX, fB, eC⟩
         ·exact ⟨hK, a0, fun _ => False, [], by rw [a8], C3 tm, fun _ h => h.elim, fun _ h => h.elim, fun _ _ h => h.elim, fun _ h => h.elim, fun _ _ h => h, fun _ h => h.elim⟩
         ·exact ⟨hK, a0, fun _ => False, ew, eC, C2 fB (by rw [f2]; exact a8.rD eC tp), fun _ h => h.elim, fun _ h => h.elim, fun _ _ h => h.elim, fun _ h => h.elim, fun _ _ h => h, fun _ h => h.elim⟩
        ·rename_i l rE
         simp only [Option.some.injEq, Prod.mk.injEq] at ng
         obtain ⟨rfl, rfl⟩ := ng
         rw [rE] at qs
         have := nZ qs; subst this
         have yN : l ≠ [] → i.size = 1 := by
          intro aR
          cases l with
          | nil => exact (aR rfl).elim
          | cons b l => rw [f2, ← tp (gl b) (by simp)]; rfl
         by_cases aR : l = []
         ·subst aR
          refine ⟨hK, a0, fun _ => False, [], by simp only [List.map_nil]; rw [a8], ?_, fun _ h => h.elim, fun _ h => h.elim, fun _ _ h => h.elim, fun _ h => h.elim, fun _ _ h => h, fun _ h => h.elim⟩
          intro aL _
          exact ⟨rfl, by simp [Builtin.firstCells, ByteArray.extract]; rfl⟩
         ·refine ⟨hK, a0, fun _ => False, _, Hq l _, ?_, fun _ h => h.elim, fun _ h => h.elim, fun _ _ h => h.elim, fun _ h => h.elim, fun _ _ h => h, fun _ h => h.elim⟩
          rw [yN aR, List.length_map]
          exact PG l
        ·rename_i a q rE
         split at ng
         ·rename_i awB gY s2 bb
          simp only [Option.some.injEq, Prod.mk.injEq] at ng
          obtain ⟨rfl, rfl⟩ := ng
          rw [rE] at qs
          obtain ⟨dG, g0, g1, g2, mC, g3, g4, g5, g6, g7, g8, g9, g10⟩ := oO a0 rfl qs bb
          rw [gX g2, au] at g3
          rcases g3 with ⟨rfl, PK, k4⟩ | ⟨b, cap, cur, gv, fr, aT, k4, bU, cb, e5, dX, fB, eC, jq, fi, lK, qq⟩
          ·simp at k4; subst k4
           exact ⟨dG, g0, fun _ => False, [], by rw [a8], (C3 PK), fun _ h => h.elim, fun _ h => h.elim, fun _ _ h => h.elim, fun _ h => h.elim, g8, fun _ h => h.elim⟩
          ·simp at k4; subst k4
           refine ⟨dG, g0, aT, _, fi, C2 (s_ cb _) ?_, fun c aw => g4 c (lK c aw), fun c aw => g5 c (lK c aw), fun u c aw => g6 u c (lK c aw), fun c aw => g7 c (lK c aw), g8, fun c aw => g9 c (lK c aw)⟩
           rw [f2]; exact a8.rD fi tp
         ·cases ng
        ·cases ng
       have qt : news.length = cn.length * (C.T e).sz := a8.rD k3 tp
       have nh : ∀ c, Sn c → ¬ mC c := fun c ag ah => by obtain ⟨u, hu⟩ := bQ c ah; exact oT u c ag hu
       have lB : ∀ u c, Sn c → ¬ gP u c := fun u c ag ah => oT u c ag (k5 u c ah)
       have grow : ∀ (base : Option Addr) (cap : Nat) (n2 : List Value) (Sx : Nat → Prop), jo = .slice base xs.length cap → Src C.P w i.size (.slice base xs.length cap) xs.length n2 → a8 w F xs n2 Sx → (∀ d ∈ xs, d.wd = (C.T e).sz) → (∀ c, Sx c → Sn c) → ¬ xs.length + cn.length ≤ cap →
         Good C w0 F0 X aB w (Builtin.append_ #[T, bF] ty #[jo, iR]) (.aP (C.T e).sz (xs ++ cn)) vK := by
        intro base cap n2 Sx CT hold Hx Hy fh oV
        subst CT
        have aV := PD (ty := ty) bZ hu rC f1 f4 iS hold oV C8 (by rw [f3]; exact C0)
        have vH := grownCap_ge w (xs.length + cn.length) cap e
        have vI := grownCap_le_maxLen w (xs.length + cn.length) cap e (by unfold maxLen; omega)
        have vL := a8.rD Hx Hy
        have PL : a8 w F (xs ++ cn) (n2 ++ news) (fun c => Sx c ∨ mC c) := a8.append Hx k3 (fun _ h => .inl h) (fun _ h => .inr h) (fun c ag ah => nh c (fh c ag) ah)
        have PM : (n2 ++ news).length = (xs ++ cn).length * (C.T e).sz := by simp [vL, qt, Nat.add_mul]
        have ka := kc.vE (aL := w.drew.alloc (.cells (n2.toArray ++ news.toArray ++ Builtin.zeroCells z.cells (grownCap w (xs.length + cn.length) cap e - (xs.length + cn.length))) e))
         (sz := (C.T e).sz) (cap := grownCap w (xs.length + cn.length) cap e) (xs := xs ++ cn) (e := e) (fr := (0, 0)) (Sn := fun c => Sx c ∨ mC c) rfl rfl rfl rfl
         (fun o _ ⟨_, ah⟩ => absurd ah (Nat.not_lt_zero _)) (by simpa using vH) vI
         (by
          simp only [Array.size_append, List.size_toArray, size_zeroCells, pE, vL, qt, n3, ← Nat.add_mul]
          congr 1; omega)
         (by
          intro d ai
          rcases List.mem_append.1 ai with ai | ai
          ·exact Hy d ai
          ·exact tp d ai)
         (by
          simp only [Array.toList_append]
          rw [List.take_left' PM]
          exact PL)
         (by rintro c (aw | aw); exact a4 c (fh c aw); exact kr c aw) (by rintro c (aw | aw); exact a5 c (fh c aw); exact bA c aw) (by rintro u c (aw | aw); exact lB u c (fh c aw); exact bE u c aw) (by rintro c (aw | aw); exact oU c (fh c aw); exact cL c aw)
        refine ⟨_, _, F, gP, aV, ka.1, ?_⟩
        have := ka.2
        simpa using this
       rw [au] at a3
       rcases a3 with ⟨rfl, yO, k4⟩ | ⟨b, cap, cur, gv, fr, aT, k4, bU, cb, e5, dX, fB, eC, jq, fi, lK, qq⟩
       ·simp at k4; subst k4
        by_cases Hz : cn = []
        ·subst Hz
         have C9 : news = [] := by simpa using qt
         subst C9
         refine ⟨.slice yO 0 0, w, F, gP, ?_, kc, .inr ⟨rfl, rfl, fun _ => False, by simp only [cr, iy]; rw [au]; exact .inl ⟨rfl, _, rfl⟩, fun _ h => h.elim, fun _ h => h.elim, fun _ _ h => h.elim, fun _ h => h.elim⟩⟩
         obtain ⟨ag, ah⟩ := iS w rfl
         cases yO <;> rcases rC with ⟨gI, rfl⟩ | rfl <;> simp at ag ah <;> simp [Builtin.append_, run_underlying bZ, run_underlying hu, jX f1, ag, ah, storeCells]
        ·exact grow yO 0 [] (fun _ => False) rfl (C3 yO) (by rw [a8]) (by simp) (fun _ h => h.elim) (by
          cases cn with
          | nil => exact (Hz rfl).elim
          | cons y cn => simp)
       ·simp at k4; subst k4
        by_cases oV : xs.length + cn.length ≤ cap
        ·
         have vL := a8.rD fi jq
         have hlen : cur.toList.length = cap * (C.T e).sz := by simp [eC]
         have hle : (xs.length + cn.length) * (C.T e).sz ≤ cap * (C.T e).sz := Nat.mul_le_mul_right _ oV
         rw [Nat.add_mul] at hle
         have kT : cur.toList = cur.toList.take (xs.length * (C.T e).sz) ++ ((cur.toList.drop (xs.length * (C.T e).sz)).take news.length ++ (cur.toList.drop (xs.length * (C.T e).sz)).drop news.length) := by
          rw [List.take_append_drop, List.take_append_drop]
         obtain ⟨aL, m1, m2, m3, m4, m5, m6, m7⟩ := PC (ty := ty) (n := xs.length) (m := cn.length) (cap := cap) bZ hu rC f1 iS cb e5 kT (by rw [f2]; exact vL) (by simp [hlen, qt]; omega) (a8.rq _ _ _ k3) oV
         have PN := kc.turn m3 m4 m5 m6 m7 (a5 b bU) (fun u hu => lB u b bU hu) (oU b bU)
         have td : ∀ c, F c → aL.heap[c]? = w.heap[c]? := fun c aw => m3 c (by rintro rfl; exact a5 _ bU aw)
         refine ⟨_, aL, F, gP, m1, PN, .inr ⟨rfl, rfl, fun c => Sn c ∨ mC c, ?_, ?_, ?_, ?_, ?_⟩⟩
         ·simp only [cr, iy]
          rw [au]
          have HA : (cur.toList.take (xs.length * (C.T e).sz) ++ (news ++ (cur.toList.drop (xs.length * (C.T e).sz)).drop news.length)).toArray.size = cur.size := by
           have : cur.size = cur.toList.length := by simp
           rw [this]
           conv => rhs; rw [kT]
           simp [hlen, qt]; omega
          refine .inr ⟨b, cap, _, gv, fr, fun c => aT c ∨ mC c, by simp, .inl bU, m2, by rw [HA]; exact e5, by simpa using oV, fB, by rw [HA]; exact eC, ?_, ?_, ?_, ?_⟩
          ·intro d ai
           rcases List.mem_append.1 ai with ai | ai
           ·exact jq d ai
           ·exact tp d ai
          ·have ti := a8.frame td _ _ _ (fun c aw => m3 c (by rintro rfl; exact qq aw)) fi
           have rn := a8.frame td _ _ _ (fun c aw => m3 c (by rintro rfl; exact nh _ bU aw)) k3
           have : ((cur.toList.take (xs.length * (C.T e).sz) ++ (news ++ (cur.toList.drop (xs.length * (C.T e).sz)).drop news.length)).toArray.toList.take ((xs ++ cn).length * (C.T e).sz)) = cur.toList.take (xs.length * (C.T e).sz) ++ news := by
            simp only []
            rw [← List.append_assoc]
            exact List.take_left' (by rw [List.length_append, vL, qt, List.length_append, Nat.add_mul])
           rw [this]
           exact a8.append ti rn (fun _ h => .inl h) (fun _ h => .inr h) (fun c ag ah => nh c (lK c ag) ah)
          ·rintro c (aw | aw)
           ·exact .inl (lK c aw)
           ·exact .inr aw
          ·rintro (aw | aw)
           ·exact qq aw
           ·exact nh b bU aw
         ·rw [m4]; rintro c (aw | aw); exact a4 c aw; exact kr c aw
         ·rintro c (aw | aw); exact a5 c aw; exact bA c aw
         ·rintro u c (aw | aw); exact lB u c aw; exact bE u c aw
         ·rintro c (aw | aw); exact oU c aw; exact cL c aw
        ·exact grow (some ⟨b, 0, none⟩) cap _ aT rfl (C2 (s_ cb _) (by rw [f2]; exact a8.rD fi jq)) fi jq lK oV
      ·cases he
     ·cases he
    ·cases he
   ·cases he
  ·cases he
 ·cases he
end
end Go.c0
