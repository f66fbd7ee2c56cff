/- Part of a proof that a law returns true for every input. No condition. -/
import Derived.Test.YtjedocbdhlppdaaFwC
import Derived.Test.YtjedocbdhlppdaaFwA
import Derived.Laws.IdiomStrings
import Derived.Laws.Strings
import Derived.LaidEql
import Derived.WideLaws
import Derived.Laws.StructEq
namespace Go.b7
section
variable {C : bp} {w0 w : World} {F0 X F : Nat → Prop} {S : Nat → Nat → Prop} {s s1 : ad} {al : Nat → Value} {av : j}
theorem k_ {k : IntKind} {n : Int} {v : Value} {az : Nat → Prop} (h : ar w F s al (.int k n) v az) : v = .int k n := by
 have aX := (ar.bE rfl).1 h
 rw [ai, eb aX.1] at aX
 simpa using aX.2
theorem m5 {b : Bool} {v : Value} {az : Nat → Prop} (h : ar w F s al (.bool b) v az) : v = .bool b := by
 have aX := (ar.bE rfl).1 h
 rw [ai, eb aX.1] at aX
 simpa using aX.2
theorem j8 {b : List UInt8} {v : Value} {az : Nat → Prop} (h : ar w F s al (.str b) v az) : v = .string ⟨⟨b⟩⟩ := by
 have aX := (ar.bE rfl).1 h
 rw [ai, eb aX.1] at aX
 simpa using aX.2
theorem wY {v : Value} {az : Nat → Prop} (h : ar w F s al .b_ v az) : v = .pointer none := by
 have aX := (ar.bE rfl).1 h
 rw [ai, eb aX.1] at aX
 simpa using aX.2
theorem la {v : Value} {az : Nat → Prop} (h : ar w F s al .bu v az) : v = .slice none 0 0 := by
 have aX := (ar.bE rfl).1 h
 rw [ai, eb aX.1] at aX
 simpa using aX.2
theorem wZ {v : Value} {az : Nat → Prop} (h : ar w F s al .c1 v az) : ∃ b, v = .bool b := by
 have aX := (ar.bE rfl).1 h
 rw [ai, eb aX.1] at aX
 simpa using aX.2
theorem of_int (k : IntKind) (n : Int) : ar w F s al (.int k n) (.int k n) (fun _ => False) := (ar.bE rfl).2 ⟨rfl, by rw [ai]; rfl⟩
theorem of_bool (b : Bool) : ar w F s al (.bool b) (.bool b) (fun _ => False) := (ar.bE rfl).2 ⟨rfl, by rw [ai]; rfl⟩
theorem jx (b : List UInt8) : ar w F s al (.str b) (.string ⟨⟨b⟩⟩) (fun _ => False) := (ar.bE rfl).2 ⟨rfl, by rw [ai]; rfl⟩
theorem tN (b : Bool) : ar w F s al .c1 (.bool b) (fun _ => False) := (ar.bE rfl).2 ⟨rfl, by rw [ai]; exact ⟨b, rfl⟩⟩
def fb (op : BinOp) (k : IntKind) (a : Int) (cF : IntKind) (b : Int) : Option j :=
 match op with
 | .shl => if b < 0 then none else some (.int k (k.wrap (a * 2 ^ (min b.toNat k.bits))))
 | .shr => if b < 0 then none else some (.int k (a.fdiv (2 ^ (min b.toNat k.bits))))
 | .add => if k = cF then some (.int k (k.wrap (a + b))) else none
 | .sub => if k = cF then some (.int k (k.wrap (a - b))) else none
 | .mul => if k = cF then some (.int k (k.wrap (a * b))) else none
 | .quo => if k = cF ∧ b ≠ 0 then some (.int k (k.wrap (a.tdiv b))) else none
 | .rem => if k = cF ∧ b ≠ 0 then some (.int k (a.tmod b)) else none
 | .eql => if k = cF then some (.bool (a == b)) else none
 | .neq => if k = cF then some (.bool (a != b)) else none
 | .lss => if k = cF then some (.bool (decide (a < b))) else none
 | .leq => if k = cF then some (.bool (decide (a ≤ b))) else none
 | .gtr => if k = cF then some (.bool (decide (b < a))) else none
 | .geq => if k = cF then some (.bool (decide (b ≤ a))) else none
 | .and => if k = cF then some (.int k (bitsOf .and k a b)) else none
 | .or => if k = cF then some (.int k (bitsOf .or k a b)) else none
 | .xor => if k = cF then some (.int k (bitsOf .xor k a b)) else none
 | .andNot => if k = cF then some (.int k (bitsOf .andNot k a b)) else none
def i6 (op : BinOp) (a b : List UInt8) : Option j :=
 match op with
 | .add => if a.length + b.length ≤ 9223372036854775807 then some (.str (a ++ b)) else none
 | .eql => some (.bool (a == b))
 | .neq => some (.bool !(a == b))
 | .lss => some (.bool (Op.bytesLess a b))
 | .leq => some (.bool (Op.bytesLess a b || a == b))
 | .gtr => some (.bool !(Op.bytesLess a b || a == b))
 | .geq => some (.bool !(Op.bytesLess a b))
 | _ => none
def hk (s : ad) : j → Option (Option Bool)
 | .bu => some (some true)
 | .slice xs => some (if xs = [] then none else some false)
 | .h x q => match j.sub q (s x) with
   | some (.aJ _ xs) => some (if xs = [] then none else some false)
   | _ => none
 | _ => none
def hn (s : ad) : j → Option Bool
 | .b_ => some true
 | .ref _ => some false
 | .h x q => match j.sub q (s x) with
   | some (.bb _) => some false
   | _ => none
 | _ => none
def pU (neg : Bool) : Option Bool → j
 | some b => .bool (b != neg)
 | none => .c1
def structEq (P : Program) (T : TypeId) : Bool := !P.stoodInHeld T && !P.eqGuardType P.depth T && (P.fieldsOf T).toList.all fun f => decide (f.name ≠ "_")
def jy (C : bp) : List (TypeId × Nat) → Nat → List j → List j → Option Bool
 | [], _, [], [] => some true
 | (fX, off) :: af, n, d :: ds, e :: es => if off = n then (match (C.T fX).k, d, e with
   | .int k, .int bn a, .int bs b => if bn = k ∧ bs = k then (jy C af (n + 1) ds es).map fun r => a == b && r else none
   | .bool, .bool a, .bool b => (jy C af (n + 1) ds es).map fun r => a == b && r
   | .str, .str a, .str b => (jy C af (n + 1) ds es).map fun r => a == b && r
   | _, _, _ => none) else none
 | _, _, _, _ => none
def bO (C : bp) (s : ad) (op : BinOp) (T : TypeId) (x y : j) : Option j :=
 match x, y with
 | .int k a, .int cF b => fb op k a cF b
 | .str a, .str b => i6 op a b
 | .bool a, .bool b => match op, (C.T T).k with
   | .eql, .bool => some (.bool (a == b))
   | .neq, .bool => some (.bool !(a == b))
   | _, _ => none
 | .agg ds, .agg es => match op, (C.T T).k with
   | .eql, .struct af => if structEq C.P T = true then (jy C af 0 ds es).map fun b => .bool b else none
   | .neq, .struct af => if structEq C.P T = true then (jy C af 0 ds es).map fun b => .bool !b else none
   | _, _ => none
 | x, .bu => match op, (C.T T).k with
   | .eql, .slice _ => (hk s x).map (pU false)
   | .neq, .slice _ => (hk s x).map (pU true)
   | _, _ => none
 | x, .b_ => match op, (C.T T).k with
   | .eql, .ptr _ => (hn s x).map fun b => .bool b
   | .neq, .ptr _ => (hn s x).map fun b => .bool !b
   | _, _ => none
 | _, _ => none
theorem Ce {P : Program} {op : BinOp} {T : TypeId} {k cF : IntKind} {a b : Int} (he : fb op k a cF b = some av) (w : World) :
  ∃ v, (binOp op T (.int k a) (.int cF b)).run P w = .ok v w ∧ ar w F s al av v (fun _ => False) := by
 unfold fb at he
 cases op <;> simp only at he <;> split at he <;> first | (cases he; done) | skip
 all_goals
  rename_i ag
  simp only [Option.some.injEq] at he
  subst he
 all_goals first
  | (subst ag; simp only [binOp_add, binOp_sub, binOp_mul, binOp_eql, binOp_neq, binOp_lss, binOp_leq, binOp_gtr, binOp_geq, binOp_and, binOp_or, binOp_xor, binOp_andNot, Op.intArith, Op.intBits, Sem.run_pure, Result.ok.injEq, and_true, exists_eq_left']
     first | exact of_int _ _ | exact of_bool _)
  | (obtain ⟨rfl, bz⟩ := ag
     simp only [binOp_quo, binOp_rem, Op.intDiv, bz, if_false, Sem.run_pure, Result.ok.injEq, and_true, exists_eq_left']
     exact of_int _ _)
  | (simp only [binOp_shl, binOp_shr, Op.shift, ag, if_false, Sem.run_pure, Result.ok.injEq, and_true, exists_eq_left']
     exact of_int _ _)
theorem pV (a : List UInt8) : (⟨⟨a⟩⟩ : ByteArray).toList = a := ByteArray.toList_eq _
theorem Cf (a b : List UInt8) : (⟨⟨a⟩⟩ : ByteArray) ++ (⟨⟨b⟩⟩ : ByteArray) = ⟨⟨a ++ b⟩⟩ := by
 apply ByteArray.ext
 simp [ByteArray.data_append]
theorem Cg {P : Program} {op : BinOp} {T : TypeId} {a b : List UInt8} (he : i6 op a b = some av) (w : World) :
  ∃ v, (binOp op T (.string ⟨⟨a⟩⟩) (.string ⟨⟨b⟩⟩)).run P w = .ok v w ∧ ar w F s al av v (fun _ => False) := by
 have J : ∀ op, binOp op T (.string ⟨⟨a⟩⟩) (.string ⟨⟨b⟩⟩) = Op.stringOp op ⟨⟨a⟩⟩ ⟨⟨b⟩⟩ := by intro op; cases op <;> rfl
 rw [J]
 unfold i6 at he
 cases op <;> simp only [Option.some.injEq] at he <;> first | (cases he; done) | skip
 case add =>
  split at he
  ·rename_i hl
   simp only [Option.some.injEq] at he; subst he
   have R : ((ByteArray.size ⟨⟨a⟩⟩ + ByteArray.size ⟨⟨b⟩⟩ : Nat) : Int) ≤ 9223372036854775807 := by
    show ((a.length + b.length : Nat) : Int) ≤ _
    omega
   refine ⟨.string ⟨⟨a ++ b⟩⟩, ?_, jx _⟩
   simp only [Op.stringOp, IntKind.max_i64]
   rw [if_neg (by omega), Cf]
   rfl
  ·cases he
 all_goals
  subst he
  simp only [Op.stringOp, pV, Sem.run_pure, Result.ok.injEq, and_true, exists_eq_left']
  exact of_bool _
theorem tO (h : ba w0 F0 X F S s al w) {v : Value} {y : Nat} {q : List Nat} (aC : ar w F s al (.h y q) v (fun _ => False)) {sz : Nat} {xs : List j} (ab : j.sub q (s y) = some (.aJ sz xs)) :
  (xs = [] ∧ ∃ a, v = .slice a 0 0) ∨ ∃ b cap cur e fr, v = .slice (some ⟨b, 0, none⟩) xs.length cap ∧ w.heap[b]? = some (.cells cur e fr) ∧ lS fr cur.size ∧ xs.length ≤ cap ∧ cap ≤ maxLen ∧ cur.size = cap * sz ∧ (∀ d ∈ xs, d.wd = sz) ∧
   ∃ az, aH w F xs (cur.toList.take (xs.length * sz)) az ∧ (∀ c, az c → S y c) ∧ S y b := by
 rw [ar] at aC
 obtain ⟨bQ, a, g1, g2, g3⟩ := aC _ ab rfl
 have R : Value.dW v = true := g3
 rw [eb R] at g2; subst g2
 have an := h.cl y
 rw [ar.bE (fh ab (.inl rfl))] at an
 obtain ⟨dx, bK, cS, ei, k0, bn, bs, cT, cm, c8⟩ := ctx q (s y) (br (al y)) (S y) none _ an.2 ab
 rw [k0] at g1
 simp only [Option.some.injEq, Prod.mk.injEq, true_and] at g1
 obtain ⟨rfl, rfl⟩ := g1
 rw [ai] at cm
 rcases cm with ⟨rfl, a2, aa⟩ | ⟨b, cap, cur, aI, fr, cj, bg, bX, b0, bh, bc, iF, ho, j9, m6, iH, fc⟩
 ·simp at aa; exact .inl ⟨rfl, _, aa⟩
 ·simp at bg
  exact .inr ⟨b, cap, cur, aI, fr, bg, b0, bh, bc, iF, ho, j9, cj, m6, fun c ag => bs _ (iH c ag), bs _ bX⟩
theorem w1 (h : ba w0 F0 X F S s al w) {v : Value} {y : Nat} {q : List Nat} (aC : ar w F s al (.h y q) v (fun _ => False)) {d : j} (ab : j.sub q (s y) = some (.bb d)) :
  ∃ b cur e fr, v = .pointer (some ⟨b, 0, none⟩) ∧ w.heap[b]? = some (.cells cur e fr) := by
 rw [ar] at aC
 obtain ⟨bQ, a, g1, g2, g3⟩ := aC _ ab rfl
 have R : Value.dW v = true := g3
 rw [eb R] at g2; subst g2
 have an := h.cl y
 rw [ar.bE (fh ab (.inl rfl))] at an
 obtain ⟨dx, bK, cS, ei, k0, bn, bs, cT, cm, c8⟩ := ctx q (s y) (br (al y)) (S y) none _ an.2 ab
 rw [k0] at g1
 simp only [Option.some.injEq, Prod.mk.injEq, true_and] at g1
 obtain ⟨rfl, rfl⟩ := g1
 rw [ai] at cm
 obtain ⟨b, cur, aI, fr, cj, bg, bX, b0, _⟩ := cm
 simp at bg
 exact ⟨b, cur, aI, fr, bg, b0⟩
theorem w2 {P : Program} {T e : TypeId} (aG : P.underlying T = some (.slice e)) (w : World) : ∀ d, (Op.equalIn (d + 1) T (.slice none 0 0) (.slice none 0 0)).run P w = .ok true w ∧
  ∀ a n c, (Op.equalIn (d + 1) T (.slice (some a) n c) (.slice none 0 0)).run P w = .ok false w := by
 intro d
 refine ⟨by simp [Op.equalIn, run_underlying aG], fun a n c => by simp [Op.equalIn, run_underlying aG]⟩
theorem w3 {P : Program} {T e : TypeId} (aG : P.underlying T = some (.pointer e)) (w : World) : ∀ d, (Op.equalIn (d + 1) T (.pointer none) (.pointer none)).run P w = .ok true w ∧
  ∀ a, (Op.equalIn (d + 1) T (.pointer (some a)) (.pointer none)).run P w = .ok false w := by
 intro d
 refine ⟨by simp [Op.equalIn, run_underlying aG], fun a => by simp [Op.equalIn, run_underlying aG]⟩
theorem w4 {P : Program} {T : TypeId} (aG : P.underlying T = some .bool) (w : World) : ∀ d a b, (Op.equalIn (d + 1) T (.bool a) (.bool b)).run P w = .ok (a == b) w := by
 intro d a b
 simp [Op.equalIn, run_underlying aG]
theorem w5 (h : ba w0 F0 X F S s al w) {x : j} {v : Value} (aC : ar w F s al x v (fun _ => False)) {T e : TypeId} {r : Option Bool} (aD : hk s x = some r) (aG : C.P.underlying T = some (.slice e)) :
  ∃ b, (Op.equal T v (.slice none 0 0)).run C.P w = .ok b w ∧ (∀ dk, r = some dk → dk = b) ∧ Value.dW v = true ∧ ∃ a n c, v = .slice a n c := by
 have aE := fun a n c => (w2 aG w 9999).2 a n c
 have eO := (w2 aG w 9999).1
 cases x with
 | bu =>
   have := la aC; subst this
   simp [hk] at aD; subst aD
   exact ⟨true, eO, by simp, rfl, _, _, _, rfl⟩
 | slice xs =>
   have aX := (ar.bE rfl).1 aC
   rw [ai, eb aX.1] at aX
   simp only [hk, Option.some.injEq] at aD
   obtain ⟨_, ⟨rfl, a, c, aa, _, m7⟩ | ⟨b, o, cap, c2, sz, aa, au⟩⟩ := aX
   ·simp at aa aD; subst aa; subst aD
    cases a with
    | none =>
      have := m7 rfl; subst this
      exact ⟨true, eO, by simp, rfl, _, _, _, rfl⟩
    | some a => exact ⟨false, aE _ _ _, by simp, rfl, _, _, _, rfl⟩
   ·simp at aa; subst aa
    refine ⟨false, aE _ _ _, ?_, rfl, _, _, _, rfl⟩
    subst aD
    split <;> simp
 | h y q =>
   simp only [hk] at aD
   split at aD
   ·rename_i sz xs ab
    simp only [Option.some.injEq] at aD
    rcases tO h aC ab with ⟨rfl, a, rfl⟩ | ⟨b, cap, cur, aI, fr, rfl, _⟩
    ·simp at aD; subst aD
     cases a with
     | none => exact ⟨true, eO, by simp, rfl, _, _, _, rfl⟩
     | some a => exact ⟨false, aE _ _ _, by simp, rfl, _, _, _, rfl⟩
    ·refine ⟨false, aE _ _ _, ?_, rfl, _, _, _, rfl⟩
     subst aD
     split <;> simp
   ·cases aD
 | _ => simp [hk] at aD
theorem w6 (h : ba w0 F0 X F S s al w) {x : j} {v : Value} (aC : ar w F s al x v (fun _ => False)) {T e : TypeId} {r : Bool} (aD : hn s x = some r) (aG : C.P.underlying T = some (.pointer e)) :
  (Op.equal T v (.pointer none)).run C.P w = .ok r w ∧ ∃ a, v = .pointer a := by
 have aE := fun a => (w3 aG w 9999).2 a
 have eO := (w3 aG w 9999).1
 cases x with
 | b_ =>
   have := wY aC; subst this
   simp [hn] at aD; subst aD
   exact ⟨eO, _, rfl⟩
 | ref d =>
   have aX := (ar.bE rfl).1 aC
   rw [ai, eb aX.1] at aX
   simp [hn] at aD; subst aD
   obtain ⟨_, b, o, c2, aa, _⟩ := aX
   simp at aa; subst aa
   exact ⟨aE _, _, rfl⟩
 | h y q =>
   simp only [hn] at aD
   split at aD
   ·rename_i d ab
    simp only [Option.some.injEq] at aD; subst aD
    obtain ⟨b, cur, e, fr, rfl, _⟩ := w1 h aC ab
    exact ⟨aE _, _, rfl⟩
   ·cases aD
 | _ => simp [hn] at aD
theorem Ch (aM : C.c3) : ∀ (af : List (TypeId × Nat)) (gs : List Field) (n : Nat) (ds es : List j) (r : Bool) (ev l2 bA bG : List Value) (xs bT : Array Value) (bf cj : Nat → Prop),
  gs.map (fun g => (g.type, g.offset)) = af → (gs.all fun f => decide (f.name ≠ "_")) = true → jy C af n ds es = some r → aH w F ds bA bf → aH w F es bG cj → xs.toList = ev ++ bA → ev.length = n → bT.toList = l2 ++ bG → l2.length = n →
  ∀ m, (Op.eqFields (m + 1) xs bT gs).run C.P w = .ok r w := by
 intro af
 induction af with
 | nil =>
   intro gs n ds es r ev l2 bA bG xs bT bf cj aT aO he U aa an hl a8 tP m
   have : gs = [] := by simpa using aT
   subst this
   cases ds <;> cases es <;> simp [jy] at he
   subst he
   simp [Op.eqFields]
 | cons p af ih =>
   obtain ⟨fX, off⟩ := p
   intro gs n ds es r ev l2 bA bG xs bT bf cj aT aO he U aa an hl a8 tP m
   cases gs with
   | nil => simp at aT
   | cons g gs =>
     simp only [List.map_cons, List.cons.injEq, Prod.mk.injEq] at aT
     obtain ⟨⟨rfl, rfl⟩, aT⟩ := aT
     simp only [List.all_cons, Bool.and_eq_true, decide_eq_true_eq] at aO
     cases ds with
     | nil => simp [jy] at he
     | cons d ds =>
     cases es with
     | nil => simp [jy] at he
     | cons e es =>
     simp only [jy] at he
     split at he
     ·rename_i kC
      rw [aH] at U aa
      obtain ⟨a7, a2, rL, Ci, rfl, dF, er, e_, w7, dy⟩ := U
      obtain ⟨h5, fK, N8, Cj, rfl, fp, eN, gz, fZ, lY⟩ := aa
      have step : ∀ (x y : Value) (z : Bool), (C.T g.type).flat = true → a7 = [x] → h5 = [y] → (∀ m, (Op.equalIn (m + 1) g.type x y).run C.P w = .ok z w) → ∀ e4, jy C af (n + 1) ds es = some e4 →
        (Op.eqFields (m + 1) xs bT (g :: gs)).run C.P w = .ok (z && e4) w := by
       intro x y z fI Ck Cl heq e4 cO
       subst Ck; subst Cl
       have Cm : xs[g.offset]? = some x := by
        rw [← Array.getElem?_toList, an, kC, ← hl, List.getElem?_append_right (Nat.le_refl _)]; simp
       have Cn : bT[g.offset]? = some y := by
        rw [← Array.getElem?_toList, a8, kC, ← tP, List.getElem?_append_right (Nat.le_refl _)]; simp
       have ax := ih gs (n + 1) ds es e4 (ev ++ [x]) (l2 ++ [y]) a2 fK xs bT Ci Cj aT aO.2 cO er eN (by rw [an]; simp) (by simp [hl]) (by rw [a8]; simp) (by simp [tP]) m
       unfold Op.eqFields
       rw [if_pos aO.1]
       simp only [part, Sem.run_bind, tJ aM fI, Result.andThen_ok, Bool.false_eq_true, if_false, Cm, Cn, Sem.run_pure, heq]
       cases z
       ·simp
       ·simpa using ax
      split at he
      ·rename_i k bn a bs b ah
       split at he
       ·rename_i Co
        obtain ⟨rfl, rfl⟩ := Co
        rw [ai] at dF fp
        simp only [Option.map_eq_some_iff] at he
        obtain ⟨e4, cO, rfl⟩ := he
        obtain ⟨i, pW, w8, aE, aI, bg, bX, b0, bh, bc⟩ := aM.info (dG ah (by simp))
        rw [ah] at bc
        have m8 := pQ bc
        subst m8
        exact step _ _ _ (by simp [dT.flat, ah]) dF fp (fun m => run_equalIn_int w m g.type _ _ a b bh) e4 cO
       ·cases he
      ·rename_i a b ah
       rw [ai] at dF fp
       simp only [Option.map_eq_some_iff] at he
       obtain ⟨e4, cO, rfl⟩ := he
       obtain ⟨i, pW, w8, aE, aI, bg, bX, b0, bh, bc⟩ := aM.info (dG ah (by simp))
       rw [ah] at bc
       have m8 := tE bc
       subst m8
       exact step _ _ _ (by simp [dT.flat, ah]) dF fp (fun m => run_equalIn_bool' w m g.type a b bh) e4 cO
      ·rename_i a b ah
       rw [ai] at dF fp
       simp only [Option.map_eq_some_iff] at he
       obtain ⟨e4, cO, rfl⟩ := he
       obtain ⟨i, pW, w8, aE, aI, bg, bX, b0, bh, bc⟩ := aM.info (dG ah (by simp))
       rw [ah] at bc
       have m8 := k7 bc
       subst m8
       refine step _ _ (a == b) (by simp [dT.flat, ah]) dF fp (fun m => ?_) e4 cO
       rw [run_equalIn_string w m g.type _ _ bh, pV, pV]
      ·cases he
     ·cases he
theorem w9 (aM : C.c3) {T : TypeId} {af : List (TypeId × Nat)} (ah : (C.T T).k = .struct af) {ds es : List j} {fJ fo : Value} {bf cj : Nat → Prop} {r : Bool} (an : ar w F s al (.agg ds) fJ bf) (a8 : ar w F s al (.agg es) fo cj)
  (bR : structEq C.P T = true) (he : jy C af 0 ds es = some r) (op : BinOp) (pX pY : Operand) :
  (eqGuard op T pX pY fJ fo).run C.P w = .ok () w ∧ (Op.equal T fJ fo).run C.P w = .ok r w := by
 obtain ⟨i, d, z, aE, aI, bg, bX, b0, bh, bc⟩ := aM.info (dG ah (by simp))
 rw [ah] at bc
 obtain ⟨gs, rfl, iF⟩ := pP bc
 have pZ : C.P.fieldsOf T = gs := by simp [Program.fieldsOf, bh]
 simp only [structEq, Bool.and_eq_true, Bool.not_eq_true', pZ] at bR
 obtain ⟨⟨fp, eN⟩, gz⟩ := bR
 obtain ⟨⟨xs, rfl⟩, n_⟩ := (ar.bE rfl).1 an
 obtain ⟨⟨bT, rfl⟩, mW⟩ := (ar.bE rfl).1 a8
 rw [ai] at n_ mW
 constructor
 ·cases op <;> simp [eqGuard, eN]
 ·show (Op.equalIn (9999 + 1) T _ _).run C.P w = _
  rw [run_equalIn_struct w 9999 T xs bT (by rw [pZ]; exact bh) fp, pZ]
  exact Ch aM af gs.toList 0 ds es r [] [] _ _ xs bT bf cj iF gz he n_ mW rfl rfl rfl rfl 9998
theorem Cp (aM : C.c3) (h : ba w0 F0 X F S s al w) {op : BinOp} {T : TypeId} {x y : j} {fJ fo : Value} (pX pY : Operand) (an : ar w F s al x fJ (fun _ => False)) (a8 : ar w F s al y fo (fun _ => False))
  (he : bO C s op T x y = some av) : Good C w0 F0 X al w (do eqGuard op T pX pY fJ fo; binOp op T fJ fo) av s := by
 unfold bO at he
 split at he
 ·have := k_ an; subst this
  have := k_ a8; subst this
  obtain ⟨v, U, aa⟩ := Ce (P := C.P) (T := T) he w
  refine Good.same h (v := v) ?_ ?_ aa
  ·rw [eqGuard_at_int]; exact U
  ·revert he; unfold fb; cases op <;> simp only <;> split <;> simp <;> (rintro rfl; rfl)
 ·have := j8 an; subst this
  have := j8 a8; subst this
  obtain ⟨v, U, aa⟩ := Cg (P := C.P) (T := T) he w
  refine Good.same h (v := v) ?_ ?_ aa
  ·rw [eqGuard_at_string]; exact U
  ·revert he; unfold i6; cases op <;> simp only <;> (try split) <;> simp <;> (try (rintro rfl; rfl))
 ·have := m5 an; subst this
  have := m5 a8; subst this
  split at he
  ·rename_i ah
   simp only [Option.some.injEq] at he; subst he
   obtain ⟨i, d, z, aE, aI, bg, bX, b0, bh, bc⟩ := aM.info (dG ah (by simp))
   rw [ah] at bc
   have := tE bc; subst this
   refine Good.same h ?_ rfl (of_bool _)
   rw [eqGuard_at_bool]
   simp [binOp, Op.equal, Op.maxDepth, w4 bh w 9999]
  ·rename_i ah
   simp only [Option.some.injEq] at he; subst he
   obtain ⟨i, d, z, aE, aI, bg, bX, b0, bh, bc⟩ := aM.info (dG ah (by simp))
   rw [ah] at bc
   have := tE bc; subst this
   refine Good.same h ?_ rfl (of_bool _)
   rw [eqGuard_at_bool]
   simp [binOp, Op.equal, Op.maxDepth, w4 bh w 9999]
  ·cases he
 ·split at he
  ·rename_i af ah
   split at he
   ·rename_i bR
    simp only [Option.map_eq_some_iff] at he
    obtain ⟨r, aD, rfl⟩ := he
    obtain ⟨g1, g2⟩ := w9 aM ah an a8 bR aD .eql pX pY
    obtain ⟨⟨xs, rfl⟩, _⟩ := (ar.bE rfl).1 an
    obtain ⟨⟨bT, rfl⟩, _⟩ := (ar.bE rfl).1 a8
    exact Good.same h (by simp [g1, binOp, g2]) rfl (of_bool _)
   ·cases he
  ·rename_i af ah
   split at he
   ·rename_i bR
    simp only [Option.map_eq_some_iff] at he
    obtain ⟨r, aD, rfl⟩ := he
    obtain ⟨g1, g2⟩ := w9 aM ah an a8 bR aD .neq pX pY
    obtain ⟨⟨xs, rfl⟩, _⟩ := (ar.bE rfl).1 an
    obtain ⟨⟨bT, rfl⟩, _⟩ := (ar.bE rfl).1 a8
    exact Good.same h (by simp [g1, binOp, g2]) rfl (of_bool _)
   ·cases he
  ·cases he
 ·have := la a8; subst this
  split at he
  ·rename_i e ah
   simp only [Option.map_eq_some_iff] at he
   obtain ⟨r, aD, rfl⟩ := he
   obtain ⟨i, d, z, aE, aI, bg, bX, b0, bh, bc⟩ := aM.info (dG ah (by simp))
   rw [ah] at bc
   have := hi bc; subst this
   obtain ⟨b, U, aa, au, a0, e5, k4, rfl⟩ := w5 h an aD bh
   refine Good.same h (v := .bool b) ?_ ?_ ?_
   ·rw [eqGuard_at_slice]
    simp [binOp, U]
   ·cases r <;> rfl
   ·cases r with
    | none => exact tN b
    | some dk => have := aa dk rfl; subst this; simp only [pU, Bool.bne_false]; exact of_bool _
  ·rename_i e ah
   simp only [Option.map_eq_some_iff] at he
   obtain ⟨r, aD, rfl⟩ := he
   obtain ⟨i, d, z, aE, aI, bg, bX, b0, bh, bc⟩ := aM.info (dG ah (by simp))
   rw [ah] at bc
   have := hi bc; subst this
   obtain ⟨b, U, aa, au, a0, e5, k4, rfl⟩ := w5 h an aD bh
   refine Good.same h (v := .bool !b) ?_ ?_ ?_
   ·rw [eqGuard_at_slice]
    simp [binOp, U]
   ·cases r <;> rfl
   ·cases r with
    | none => exact tN _
    | some dk => have := aa dk rfl; subst this; simp only [pU, Bool.bne_true]; exact of_bool _
  ·cases he
 ·have := wY a8; subst this
  split at he
  ·rename_i e ah
   simp only [Option.map_eq_some_iff] at he
   obtain ⟨r, aD, rfl⟩ := he
   obtain ⟨i, d, z, aE, aI, bg, bX, b0, bh, bc⟩ := aM.info (dG ah (by simp))
   rw [ah] at bc
   have := wP bc; subst this
   obtain ⟨U, a0, rfl⟩ := w6 h an aD bh
   refine Good.same h (v := .bool r) ?_ rfl (of_bool _)
   rw [eqGuard_at_pointer]
   simp [binOp, U]
  ·rename_i e ah
   simp only [Option.map_eq_some_iff] at he
   obtain ⟨r, aD, rfl⟩ := he
   obtain ⟨i, d, z, aE, aI, bg, bX, b0, bh, bc⟩ := aM.info (dG ah (by simp))
   rw [ah] at bc
   have := wP bc; subst this
   obtain ⟨U, a0, rfl⟩ := w6 h an aD bh
   refine Good.same h (v := .bool !r) ?_ rfl (of_bool _)
   rw [eqGuard_at_pointer]
   simp [binOp, U]
  ·cases he
 ·cases he
end
section
variable {C : bp} {w0 w : World} {F0 X F : Nat → Prop} {S : Nat → Nat → Prop} {s s1 : ad} {al : Nat → Value} {av : j}
def un (op : UnOp) (x : j) : Option j :=
 match op, x with
 | .not, .bool b => some (.bool !b)
 | .not, .c1 => some .c1
 | .neg, .int k n => some (.int k (k.wrap (0 - n)))
 | _, _ => none
theorem Cq (h : ba w0 F0 X F S s al w) {op : UnOp} {x : j} {v : Value} (aC : ar w F s al x v (fun _ => False)) (he : un op x = some av) : Good C w0 F0 X al w (Op.unary op v) av s := by
 unfold un at he
 split at he <;> first | (cases he; done) | (simp only [Option.some.injEq] at he; subst he)
 ·have := m5 aC; subst this
  exact Good.same h rfl rfl (of_bool _)
 ·obtain ⟨b, rfl⟩ := wZ aC
  exact Good.same h rfl rfl (tN _)
 ·have := k_ aC; subst this
  exact Good.same h rfl rfl (of_int _ _)
def dU (s : ad) (x : j) : Option j :=
 match x with
 | .ref d => some (.ref d)
 | .fn f c => some (.fn f c)
 | .h y q => match j.sub q (s y) with
   | some (.bb _) => some (.h y q)
   | _ => none
 | _ => none
theorem Cr {d : j} {v : Value} {az : Nat → Prop} (h : ar w F s al (.ref d) v az) : ∃ b o c2, v = .pointer (some ⟨b, o, none⟩) ∧ F b ∧ e0 w b o c2 ∧ ai w F d c2 (fun _ => False) := by
 have aX := (ar.bE rfl).1 h
 rw [ai, eb aX.1] at aX
 obtain ⟨_, b, o, c2, U, aa, au, aK⟩ := aX
 simp at U; subst U
 exact ⟨b, o, c2, rfl, aa, au, aK⟩
theorem Cs (h : ba w0 F0 X F S s al w) {x : j} {v : Value} (aC : ar w F s al x v (fun _ => False)) (he : dU s x = some av) :
  av = x ∧ x.plain = true ∧ ((∃ a, v = .pointer (some a)) ∨ ∃ f c, v = .func (.func f) #[] c) := by
 unfold dU at he
 split at he
 ·simp only [Option.some.injEq] at he; subst he
  obtain ⟨b, o, c2, rfl, _⟩ := Cr aC
  exact ⟨rfl, rfl, .inl ⟨_, rfl⟩⟩
 ·simp only [Option.some.injEq] at he; subst he
  rw [ar] at aC
  obtain ⟨arr, rfl, _⟩ := aC
  exact ⟨rfl, rfl, .inr ⟨_, _, rfl⟩⟩
 ·split at he
  ·rename_i d ab
   simp only [Option.some.injEq] at he; subst he
   obtain ⟨b, cur, e, fr, rfl, _⟩ := w1 h aC ab
   exact ⟨rfl, rfl, .inl ⟨_, rfl⟩⟩
  ·cases he
 ·cases he
def ex (s : ad) (x : j) (k : Nat) : Option j :=
 match x with
 | .tuple ds => match ds[k]? with
   | some d => if d.plain = true then some d else none
   | none => none
 | .h y q => match j.sub q (s y) with
   | some (.tuple ds) => match ds[k]? with
     | some d => if j.dr ds = true then none else some (if d.plain then d else .h y (q ++ [k]))
     | none => none
   | _ => none
 | _ => none
theorem w_ : ∀ (vs : List Value) (k : Nat) (x : Value) (ds : List j), vs[k]? = some x → vs.length = ds.length → (∀ (ay : Nat) (d : j) (y : Value), ds[ay]? = some d → vs[ay]? = some y → (fg y).length = d.wd) →
  ∃ l r, vs.flatMap fg = l ++ (fg x ++ r) ∧ l.length = j.cz (ds.take k)
 | [], k, x, ds, h, _, _ => by simp at h
 | v :: vs, 0, x, ds, h, hl, hw => by
   simp at h; subst h
   exact ⟨[], vs.flatMap fg, by simp, by simp [j.cz]⟩
 | v :: vs, k + 1, x, d :: ds, h, hl, hw => by
   obtain ⟨l, r, aE, aI⟩ := w_ vs k x ds (by simpa using h) (by simpa using hl) (fun ay d y U aa => hw (ay + 1) d y (by simpa using U) (by simpa using aa))
   refine ⟨fg v ++ l, r, by simp [aE], ?_⟩
   have := hw 0 d v (by simp) (by simp)
   simp [j.cz, aI, this]
 | v :: vs, k + 1, x, [], h, hl, hw => by simp at hl
theorem Ct {d : j} {v : Value} (h : fk d v) (_hd : ∀ vs, d ≠ .tuple vs) : br v = fg v := by
 cases d with
 | agg af => obtain ⟨arr, rfl⟩ := h; rfl
 | _ =>
   have U : Value.dW v = true := h
   cases v <;> first | rfl | (simp [Value.dW] at U)
theorem Cu {d : j} {v : Value} (h : fk d v) (ab : ∀ vs, d ≠ .tuple vs) : cA d v := by
 cases d with
 | tuple vs => exact (ab _ rfl).elim
 | _ => exact h
theorem Cv (h : ba w0 F0 X F S s al w) {x : j} {v : Value} {k : Nat} (aC : ar w F s al x v (fun _ => False)) (he : ex s x k = some av) : Good C w0 F0 X al w (Instr.extract v k) av s := by
 have pick : ∀ (ds : List j) (d : j) (arr : Array Value), ds[k]? = some d → (arr.size = ds.length ∧ ∀ (k : Nat) (d : j) (x : Value), ds[k]? = some d → arr[k]? = some x → fk d x ∧ (∀ vs, d ≠ .tuple vs) ∧ (fg x).length = d.wd) →
   ∃ x, arr[k]? = some x ∧ cA d x ∧ ((br (.tuple arr)).drop (j.cz (ds.take k))).take d.wd = br x := by
  intro ds d arr ab ⟨bd, js⟩
  have cK : k < arr.size := by rw [bd]; exact (List.getElem?_eq_some_iff.1 ab).1
  have an : arr[k]? = some arr[k] := Array.getElem?_eq_getElem cK
  obtain ⟨g1, g2, g3⟩ := js k d _ ab an
  obtain ⟨l, r, aE, aI⟩ := w_ arr.toList k arr[k] ds (by simp [cK]) (by simpa using bd) (fun ay d y U aa => (js ay d y U (by simpa using aa)).2.2)
  refine ⟨_, an, Cu g1 g2, ?_⟩
  rw [Ct g1 g2]
  simp only [br]
  rw [aE]
  exact mR l _ r _ _ aI g3
 unfold ex at he
 split at he
 ·rename_i ds
  split at he
  ·rename_i d ab
   split at he
   ·rename_i ak
    simp only [Option.some.injEq] at he; subst he
    have aX := (ar.bE rfl).1 aC
    obtain ⟨⟨arr, rfl, bd⟩, eI⟩ := aX
    obtain ⟨x, an, R, ag⟩ := pick ds d arr ab bd
    have aD : (Instr.extract (.tuple arr) k).run C.P w = .ok x w := by simp [Instr.extract, an]
    rw [ai] at eI
    obtain ⟨bA, dq, bG, bf, eV, e, eM, dF, er, e_, dy, h1⟩ := aH.pick ds _ _ k d eI ab
    rw [e, mR bA dq bG _ _ eM (ai.length _ _ _ dy)] at ag
    by_cases aG : d.tree = true
    ·exact Good.same h aD ak ((ar.bE aG).2 ⟨R, by rw [← ag]; exact ai.plain _ _ _ _ ak dy⟩)
    ·cases d <;> first | exact (aG rfl).elim | (rw [ai] at dy; exact dy.elim) | exact Good.same h aD rfl (by rw [ar]; trivial) | (have a1 := ai.plain _ _ _ (fun _ => False) ak dy; rw [ag, eb (by exact R)] at a1; exact Good.same h aD rfl (ar.kD _ _ rfl a1))
   ·cases he
  ·cases he
 ·rename_i y q
  split at he
  ·rename_i ds ab
   split at he
   ·rename_i d ah
    split at he
    ·cases he
    ·rename_i eG
     simp only [Option.some.injEq] at he
     have eG : (j.tuple ds).plain = false := by simpa [j.plain] using eG
     rw [ar] at aC
     obtain ⟨bQ, a, g1, g2, g3⟩ := aC _ ab eG
     obtain ⟨arr, rfl, bd⟩ := g3
     obtain ⟨x, an, R, ag⟩ := pick ds d arr ah bd
     have aD : (Instr.extract (.tuple arr) k).run C.P w = .ok x w := by simp [Instr.extract, an]
     have a8 := h.cl y
     rw [ar.bE (fh ab (.inl eG))] at a8
     obtain ⟨dx, bK, cS, ei, k0, bn, bs, cT, cm, c8⟩ := ctx q (s y) (br (al y)) (S y) none _ a8.2 ab
     rw [k0] at g1
     simp only [Option.some.injEq, Prod.mk.injEq, true_and] at g1
     obtain ⟨rfl, rfl⟩ := g1
     rw [g2] at ag
     split at he
     ·rename_i ak
      subst he
      rw [ai] at cm
      obtain ⟨bA, dq, bG, bf, eV, e, eM, dF, er, e_, dy, h1⟩ := aH.pick ds _ _ k d cm ah
      rw [e, mR bA dq bG _ _ eM (ai.length _ _ _ dy)] at ag
      by_cases aG : d.tree = true
      ·exact Good.same h aD ak ((ar.bE aG).2 ⟨R, by rw [← ag]; exact ai.plain _ _ _ _ ak dy⟩)
      ·cases d <;> first | exact (aG rfl).elim | (rw [ai] at dy; exact dy.elim) | exact Good.same h aD rfl (by rw [ar]; trivial) | (have a1 := ai.plain _ _ _ (fun _ => False) ak dy; rw [ag, eb (by exact R)] at a1; exact Good.same h aD rfl (ar.kD _ _ rfl a1))
     ·subst he
      refine Good.same h aD rfl ?_
      rw [ar]
      intro d2 fm tB
      rw [pO w q _ _ _ _ _ _ [k] k0]
      rw [pN _ _ _ _ ab] at fm
      simp only [j.sub, ah, Option.some.injEq] at fm
      subst fm
      simp only [b2, ah]
      exact ⟨_, _, rfl, ag.symm, R⟩
   ·cases he
  ·cases he
 ·cases he
def h6 (C : bp) (s : ad) (T : TypeId) (x : j) (k : Nat) : Option j :=
 match (C.T T).k with
 | .struct af => match af[k]? with
   | some (fX, off) => match x with
     | .agg ds => match ds[k]? with
       | some d => if j.cz (ds.take k) = off ∧ fits C fX d = true ∧ d.plain = true ∧ d.tree = true then some d else none
       | none => none
     | .h y q => match j.sub q (s y) with
       | some (.agg ds) => match ds[k]? with
         | some d => if j.cz (ds.take k) = off ∧ fits C fX d = true ∧ j.dr ds = false ∧ d.tree = true then some (if d.plain then d else .h y (q ++ [k])) else none
         | none => none
       | _ => none
     | _ => none
   | none => none
 | _ => none
theorem Cw (aM : C.c3) (h : ba w0 F0 X F S s al w) {T : TypeId} {x : j} {v : Value} {k : Nat} (aC : ar w F s al x v (fun _ => False)) (he : h6 C s T x k = some av) : Good C w0 F0 X al w (Instr.field T v k) av s := by
 have key : ∀ (af : List (TypeId × Nat)) (fX : TypeId) (off : Nat), (C.T T).k = .struct af → af[k]? = some (fX, off) → ∀ (ds : List j) (d : j) (arr : Array Value) (az : Nat → Prop), ds[k]? = some d → j.cz (ds.take k) = off → fits C fX d = true → aH w F ds arr.toList az →
   ∃ x eV, (Instr.field T (.agg arr) k).run C.P w = .ok x w ∧ cA d x ∧ ai w F d (br x) eV ∧ (arr.toList.drop off).take d.wd = br x := by
  intro af fX off ah bo ds d arr az ab kC e2 eI
  obtain ⟨i, pW, z, aE, aI, bg, bX, b0, bh, bc⟩ := aM.info (dG ah (by simp))
  rw [ah] at bc
  obtain ⟨gs, rfl, iF⟩ := pP bc
  obtain ⟨g, g1, rfl, rfl⟩ : ∃ g, gs[k]? = some g ∧ g.type = fX ∧ g.offset = off := by
   rw [← iF, List.getElem?_map] at bo
   simp only [Option.map_eq_some_iff, Prod.mk.injEq] at bo
   obtain ⟨g, U, aa, au⟩ := bo
   exact ⟨g, by simpa using U, aa, au⟩
  obtain ⟨bA, dq, bG, bf, eV, e, eM, dF, er, e_, dy, h1⟩ := aH.pick ds _ _ k d eI ab
  obtain ⟨x, aD, xa, jw⟩ := B4 (w := w) aM e (eM.trans kC) dy e2
  refine ⟨x, eV, ?_, jw, by rw [xa]; exact dy, ?_⟩
  ·simp [Instr.field, run_underlying bh, g1, asAgg, aD]
  ·rw [e, xa, ← kC]; exact mR bA dq bG _ _ eM (ai.length _ _ _ dy)
 have xb : ∀ (d : j) (x : Value) (eV : Nat → Prop), d.plain = true → cA d x → ai w F d (br x) eV → ar w F s al d x (fun _ => False) := by
  intro d x eV ak R eI
  by_cases aG : d.tree = true
  ·exact (ar.bE aG).2 ⟨R, ai.plain _ _ _ _ ak eI⟩
  ·cases d <;> first | exact (aG rfl).elim | (rw [ai] at eI; exact eI.elim) | (rw [ar]; trivial) | (have a1 := ai.plain _ _ _ (fun _ => False) ak eI; rw [eb (by exact R)] at a1; exact ar.kD _ _ rfl a1)
 unfold h6 at he
 split at he
 ·rename_i af ah
  split at he
  ·rename_i fX off bo
   split at he
   ·rename_i ds
    split at he
    ·rename_i d ab
     split at he
     ·rename_i ag
      simp only [Option.some.injEq] at he; subst he
      obtain ⟨⟨arr, rfl⟩, eI⟩ := (ar.bE rfl).1 aC
      rw [ai] at eI
      obtain ⟨x, eV, aD, R, tQ, _⟩ := key af fX off ah bo ds d arr _ ab ag.1 ag.2.1 eI
      exact Good.same h aD ag.2.2.1 (xb d x eV ag.2.2.1 R tQ)
     ·cases he
    ·cases he
   ·rename_i y q
    split at he
    ·rename_i ds ab
     split at he
     ·rename_i d lW
      split at he
      ·rename_i ag
       simp only [Option.some.injEq] at he
       have eG : (j.agg ds).plain = false := by simpa [j.plain] using ag.2.2.1
       rw [ar] at aC
       obtain ⟨bQ, a, g1, g2, g3⟩ := aC _ ab eG
       obtain ⟨arr, rfl⟩ := g3
       have a8 := h.cl y
       rw [ar.bE (fh ab (.inl eG))] at a8
       obtain ⟨dx, bK, cS, ei, k0, bn, bs, cT, cm, c8⟩ := ctx q (s y) (br (al y)) (S y) none _ a8.2 ab
       rw [k0] at g1
       simp only [Option.some.injEq, Prod.mk.injEq, true_and] at g1
       obtain ⟨rfl, rfl⟩ := g1
       rw [ai, ← g2] at cm
       obtain ⟨x, eV, aD, R, tQ, fY⟩ := key af fX off ah bo ds d arr _ lW ag.1 ag.2.1 cm
       by_cases ak : d.plain = true
       ·rw [if_pos ak] at he; subst he
        exact Good.same h aD ak (xb d x eV ak R tQ)
       ·rw [if_neg ak] at he; subst he
        refine Good.same h aD rfl ?_
        rw [ar]
        intro d2 fm tB
        rw [pO w q _ _ _ _ _ _ [k] k0]
        rw [pN _ _ _ _ ab] at fm
        simp only [j.sub, lW, Option.some.injEq] at fm
        subst fm
        simp only [b2, lW]
        refine ⟨_, _, rfl, ?_, R⟩
        rw [ag.1, ← g2]; exact fY.symm
      ·cases he
     ·cases he
    ·cases he
   ·cases he
  ·cases he
 ·cases he
end
section
variable {C : bp} {w0 w : World} {F0 X F : Nat → Prop} {S : Nat → Nat → Prop} {s s1 : ad} {al : Nat → Value} {av : j}
def idx (C : bp) (T : TypeId) (x i : j) : Option j :=
 match (C.T T).k, x, i with
 | .str, .str l, .int _ n => if 0 ≤ n then (match l[n.toNat]? with | some b => some (.int .u8 b.toNat) | none => none) else none
 | _, _, _ => none
theorem Cx (l : List UInt8) (n : Nat) : (⟨⟨l⟩⟩ : ByteArray)[n]? = l[n]? := by
 by_cases h : n < l.length
 ·have aX : n < (⟨⟨l⟩⟩ : ByteArray).size := h
  rw [List.getElem?_eq_getElem h, getElem?_pos (⟨⟨l⟩⟩ : ByteArray) n aX]
  rfl
 ·have aX : ¬ n < (⟨⟨l⟩⟩ : ByteArray).size := h
  rw [List.getElem?_eq_none (by omega), getElem?_neg (⟨⟨l⟩⟩ : ByteArray) n aX]
theorem Cy (aM : C.c3) (h : ba w0 F0 X F S s al w) {T : TypeId} {x i : j} {v n9 : Value} (aC : ar w F s al x v (fun _ => False)) (ax : ar w F s al i n9 (fun _ => False)) (he : idx C T x i = some av) :
  Good C w0 F0 X al w (Instr.index T v n9) av s := by
 unfold idx at he
 split at he
 ·rename_i l k n ah
  have := j8 aC; subst this
  have := k_ ax; subst this
  obtain ⟨i, d, z, aE, aI, bg, bX, b0, bh, bc⟩ := aM.info (dG ah (by simp))
  rw [ah] at bc
  have := k7 bc; subst this
  split at he
  ·rename_i aO
   split at he
   ·rename_i b J
    simp only [Option.some.injEq] at he; subst he
    refine Good.same h ?_ rfl (of_int _ _)
    simp [Instr.index, asIntOf, run_underlying bh, aO, Cx, J]
   ·cases he
  ·cases he
 ·cases he
def lenOf (s : ad) : j → Option Nat
 | .str l => some l.length
 | .bu => some 0
 | .slice xs => some xs.length
 | .h y q => match j.sub q (s y) with
   | some (.aJ _ xs) => some xs.length
   | _ => none
 | _ => none
def h7 (C : bp) (s : ad) (T : TypeId) (x : j) : Option j :=
 match (C.T T).k, x with
 | .str, .str l => some (.int .i64 l.length)
 | .slice _, .bu => some (.int .i64 0)
 | .slice _, .slice xs => some (.int .i64 xs.length)
 | .slice _, .h y q => match j.sub q (s y) with
   | some (.aJ _ xs) => some (.int .i64 xs.length)
   | _ => none
 | _, _ => none
theorem rM {xs : List j} {v : Value} {az : Nat → Prop} (h : ar w F s al (.slice xs) v az) : (xs = [] ∧ ∃ a c, v = .slice a 0 c ∧ c ≤ maxLen ∧ (a = none → c = 0)) ∨
  ∃ b o cap c2 sz, v = .slice (some ⟨b, o, none⟩) xs.length cap ∧ F b ∧ xs.length ≤ cap ∧ cap ≤ maxLen ∧ (∀ d ∈ xs, d.wd = sz) ∧ e0 w b o c2 ∧ aH w F xs c2 (fun _ => False) := by
 have aX := (ar.bE rfl).1 h
 rw [ai, eb aX.1] at aX
 obtain ⟨_, ⟨rfl, a, c, aa, au⟩ | ⟨b, o, cap, c2, sz, aa, au⟩⟩ := aX
 ·simp at aa; exact .inl ⟨rfl, a, c, aa, au⟩
 ·simp at aa; exact .inr ⟨b, o, cap, c2, sz, aa, au⟩
theorem Cz (aM : C.c3) (h : ba w0 F0 X F S s al w) {T ty : TypeId} {x : j} {v : Value} (aC : ar w F s al x v (fun _ => False)) (he : h7 C s T x = some av) :
  Good C w0 F0 X al w (Builtin.len_ #[T] ty #[v]) av s := by
 unfold h7 at he
 split at he
 ·rename_i l ah
  have := j8 aC; subst this
  obtain ⟨i, d, z, aE, aI, bg, bX, b0, bh, bc⟩ := aM.info (dG ah (by simp))
  rw [ah] at bc
  have := k7 bc; subst this
  simp only [Option.some.injEq] at he; subst he
  refine Good.same h ?_ rfl (of_int _ _)
  simp [Builtin.len_, run_underlying bh, goInt]
  rfl
 ·rename_i e ah
  have := la aC; subst this
  obtain ⟨i, d, z, aE, aI, bg, bX, b0, bh, bc⟩ := aM.info (dG ah (by simp))
  rw [ah] at bc
  have := hi bc; subst this
  simp only [Option.some.injEq] at he; subst he
  refine Good.same h ?_ rfl (of_int _ _)
  simp [Builtin.len_, run_underlying bh, goInt]
 ·rename_i e xs ah
  obtain ⟨i, d, z, aE, aI, bg, bX, b0, bh, bc⟩ := aM.info (dG ah (by simp))
  rw [ah] at bc
  have := hi bc; subst this
  simp only [Option.some.injEq] at he; subst he
  refine Good.same h ?_ rfl (of_int _ _)
  rcases rM aC with ⟨rfl, a, c, rfl, _⟩ | ⟨b, o, cap, c2, sz, rfl, _⟩ <;> simp [Builtin.len_, run_underlying bh, goInt]
 ·rename_i e y q ah
  split at he
  ·rename_i sz xs ab
   obtain ⟨i, d, z, aE, aI, bg, bX, b0, bh, bc⟩ := aM.info (dG ah (by simp))
   rw [ah] at bc
   have := hi bc; subst this
   simp only [Option.some.injEq] at he; subst he
   refine Good.same h ?_ rfl (of_int _ _)
   rcases tO h aC ab with ⟨rfl, _, rfl⟩ | ⟨b, cap, cur, aI, fr, rfl, _⟩ <;> simp [Builtin.len_, run_underlying bh, goInt]
  ·cases he
 ·cases he
def bytesOf : List j → Option (List UInt8)
 | [] => some []
 | .int .u8 n :: r => if 0 ≤ n ∧ n < 256 then (bytesOf r).map (UInt8.ofNat n.toNat :: ·) else none
 | _ => none
def fy (b : UInt8) : j := .int .u8 b.toNat
theorem CA (l : List UInt8) : bytesOf (l.map fy) = some l := by
 induction l with
 | nil => rfl
 | cons b l ih =>
   have J : b.toNat < 256 := b.toNat_lt
   simp only [List.map_cons, fy, bytesOf, Int.toNat_natCast]
   rw [if_pos (by omega), ih]
   simp
theorem tR : ∀ (xs : List j) (l : List UInt8) (cs : List Value) (az : Nat → Prop), bytesOf xs = some l → aH w F xs cs az → cs = l.map (fun b => .int .u8 (b.toNat : Int)) ∧ xs.length = l.length
 | [], l, cs, az, h, aD => by simp [bytesOf] at h; subst h; rw [aH] at aD; subst aD; exact ⟨rfl, rfl⟩
 | x :: xs, l, cs, az, h, aD => by
   unfold bytesOf at h
   split at h
   ·rename_i e; cases e
   ·rename_i n r e
    simp only [List.cons.injEq] at e
    obtain ⟨rfl, rfl⟩ := e
    split at h
    ·rename_i aO
     simp only [Option.map_eq_some_iff] at h
     obtain ⟨cP, U, rfl⟩ := h
     rw [aH] at aD
     obtain ⟨bA, bG, bf, cj, rfl, aa, au, _⟩ := aD
     obtain ⟨rfl, aK⟩ := tR xs cP bG cj U au
     rw [ai] at aa; subst aa
     refine ⟨?_, by simp [aK]⟩
     simp only [List.map_cons, List.cons_append, List.nil_append, List.cons.injEq, and_true, Value.int.injEq, true_and]
     simp only [UInt8.toNat_ofNat']
     omega
    ·cases h
   ·cases h
theorem ba.p0 (h : ba w0 F0 X F S s al w) {ao : World} {sz cap : Nat} {xs : List j} {cur : Array Value} {e : TypeId} {fr : Nat × Nat} {Sn : Nat → Prop}
  (hw : ao.heap = w.heap.push (.cells cur e fr)) (U : ao.os = w.os) (aa : ao.tape = w.tape) (au : ao.output = w.output)
  (bo : lS fr cur.size) (hle : xs.length ≤ cap) (hm : cap ≤ maxLen) (cV : cur.size = cap * sz) (iE : ∀ d ∈ xs, d.wd = sz) (aC : aH w F xs (cur.toList.take (xs.length * sz)) Sn)
  (cK : ∀ b, Sn b → b < w.heap.size) (aN : ∀ b, Sn b → ¬ F b) (aZ : ∀ u b, Sn b → ¬ S u b) (bz : ∀ b, Sn b → X b ∨ w0.heap.size ≤ b) :
  ba w0 F0 X F S s al ao ∧ hh w0 X F S s al ao (.aJ sz xs) (.slice (some ⟨w.heap.size, 0, none⟩) xs.length cap) := by
 have hold : ∀ b, b < w.heap.size → ao.heap[b]? = w.heap[b]? := by
  intro b J
  rw [hw, Array.getElem?_push, if_neg (by omega)]
 have m9 : ao.heap.size = w.heap.size + 1 := by rw [hw]; simp
 refine ⟨h.grow hold (by omega) U aa au, .inr ⟨rfl, rfl, fun b => b = w.heap.size ∨ Sn b, ?_, ?_, ?_, ?_, ?_⟩⟩
 ·simp only [br, fg]
  rw [ai]
  refine .inr ⟨w.heap.size, cap, cur, e, fr, Sn, rfl, .inl rfl, ?_, bo, hle, hm, cV, iE, ?_, fun c ag => .inr ag, fun ag => Nat.lt_irrefl _ (cK _ ag)⟩
  ·rw [hw]; simp
  ·exact aH.frame (fun b J => hold b (h.dg b J)) _ _ _ (fun b J => hold b (cK b J)) aC
 ·rintro b (rfl | J)
  ·omega
  ·have := cK b J; omega
 ·rintro b (rfl | J) m4
  ·exact Nat.lt_irrefl _ (h.dg _ m4)
  ·exact aN b J m4
 ·rintro u b (rfl | J) hu
  ·exact Nat.lt_irrefl _ (h.cZ _ _ hu)
  ·exact aZ u b J hu
 ·rintro b (rfl | J)
  ·exact .inr h.size
  ·exact bz b J
def dv (C : bp) (s : ad) (A B : TypeId) (x : j) : Option j :=
 if (C.T A).ok = true then
 match (C.T B).k, x with
 | .int k, .int _ n => some (.int k (k.wrap n))
 | .str, .str l => match (C.T A).k with
   | .str => some (.str l)
   | _ => none
 | .str, x => match (C.T A).k with
   | .slice e => match (C.T e).k with
     | .int .u8 => match x with
       | .bu => some (.str [])
       | .slice xs => (bytesOf xs).map .str
       | .h y q => match j.sub q (s y) with
         | some (.aJ 1 xs) => (bytesOf xs).map .str
         | _ => none
       | _ => none
     | _ => none
   | _ => none
 | .slice e, .str l => match (C.T A).k, (C.T e).k with
   | .str, .int .u8 => if l.length ≤ 9223372036854775807 then some (.aJ 1 (l.map fy)) else none
   | _, _ => none
 | _, _ => none
 else none
theorem xc (l : List UInt8) (az : Nat → Prop) : aH w F (l.map fy) (l.map fun b => .int .u8 (b.toNat : Int)) az := by
 induction l generalizing az with
 | nil => simp only [List.map_nil]; rw [aH]
 | cons b l ih =>
   simp only [List.map_cons]
   rw [aH]
   exact ⟨[.int .u8 (b.toNat : Int)], _, fun _ => False, fun _ => False, rfl, by rw [fy, ai], ih _, fun _ h => h.elim, fun _ h => h.elim, fun _ h => h.elim⟩
theorem CB (aM : C.c3) (h : ba w0 F0 X F S s al w) {A B : TypeId} {x : j} {v : Value} (aC : ar w F s al x v (fun _ => False)) (he : dv C s A B x = some av) :
  Good C w0 F0 X al w (convert A B v) av s := by
 unfold dv at he
 split at he
 ·rename_i fz
  obtain ⟨dA, N9, N_, a7, a2, a3, a4, a5, kF, kG⟩ := aM.info fz
  split at he
  ·rename_i k cF n ah
   have := k_ aC; subst this
   obtain ⟨i, d, z, aE, aI, bg, bX, b0, bh, bc⟩ := aM.info (dG ah (by simp))
   rw [ah] at bc
   have := pQ bc; subst this
   simp only [Option.some.injEq] at he; subst he
   refine Good.same h ?_ rfl (of_int _ _)
   simp [convert, run_underlying kF, run_underlying bh, Conv.intToInt]
  ·rename_i l ah
   have := j8 aC; subst this
   obtain ⟨i, d, z, aE, aI, bg, bX, b0, bh, bc⟩ := aM.info (dG ah (by simp))
   rw [ah] at bc
   have := k7 bc; subst this
   split at he
   ·rename_i p1
    rw [p1] at kG
    have := k7 kG; subst this
    simp only [Option.some.injEq] at he; subst he
    refine Good.same h ?_ rfl (jx _)
    simp [convert, run_underlying kF, run_underlying bh]
   ·cases he
  ·rename_i x ah _
   obtain ⟨i, d, z, aE, aI, bg, bX, b0, bh, bc⟩ := aM.info (dG ah (by simp))
   rw [ah] at bc
   have := k7 bc; subst this
   split at he
   ·rename_i e p1
    rw [p1] at kG
    have := hi kG; subst this
    split at he
    ·rename_i p2
     obtain ⟨n7, aS, lV, f1, f2, f3, f4, f5, f6, f7⟩ := aM.info (dG p2 (by simp))
     rw [p2] at f7
     have := pQ f7; subst this
     have fin : ∀ (l : List UInt8) (b o cap : Nat), e0 w b o (l.map fun b => .int .u8 (b.toNat : Int)) → (convert A B (.slice (some ⟨b, o, none⟩) l.length cap)).run C.P w = .ok (.string ⟨⟨l⟩⟩) w := by
      intro l b o cap gi
      refine run_convert_bytes_back w A B e ⟨b, o, none⟩ cap l kF f6 bh (fun ay bP => ?_)
      rw [Addr.add_lit]
      exact gi ay _ (by simp [bP])
     have nil : (convert A B (.slice none 0 0)).run C.P w = .ok (.string ⟨⟨[]⟩⟩) w := by
      simp [convert, run_underlying kF, run_underlying bh, run_underlying f6, Conv.bytesToString]
      rfl
     split at he
     ·have := la aC; subst this
      simp only [Option.some.injEq] at he; subst he
      exact Good.same h nil rfl (jx _)
     ·rename_i xs _
      simp only [Option.map_eq_some_iff] at he
      obtain ⟨l, hl, rfl⟩ := he
      rcases rM aC with ⟨rfl, a, c, rfl, _, m7⟩ | ⟨b, o, cap, c2, sz, rfl, U, aa, au, aK, a1, bN⟩
      ·simp [bytesOf] at hl; subst hl
       cases a with
       | none =>
         have := m7 rfl; subst this
         exact Good.same h nil rfl (jx _)
       | some a =>
         refine Good.same h ?_ rfl (jx _)
         exact run_convert_bytes_back w A B e a c [] kF f6 bh (fun ay bP => by simp at bP)
      ·obtain ⟨rfl, bS⟩ := tR xs l c2 _ hl bN
       rw [bS]
       exact Good.same h (fin l b o cap a1) rfl (jx _)
     ·rename_i y q
      split at he
      ·rename_i xs ab
       simp only [Option.map_eq_some_iff] at he
       obtain ⟨l, hl, rfl⟩ := he
       rcases tO h aC ab with ⟨rfl, a, rfl⟩ | ⟨b, cap, cur, aI, fr, rfl, U, aa, au, aK, a1, bN, az, bS, _⟩
       ·simp [bytesOf] at hl; subst hl
        cases a with
        | none => exact Good.same h nil rfl (jx _)
        | some a =>
          refine Good.same h ?_ rfl (jx _)
          exact run_convert_bytes_back w A B e a 0 [] kF f6 bh (fun ay bP => by simp at bP)
       ·obtain ⟨df, e1⟩ := tR xs l _ _ hl bS
        rw [e1]
        refine Good.same h (fin l b 0 cap ?_) rfl (jx _)
        rw [← df]
        exact n1 U _
      ·cases he
     ·cases he
    ·cases he
   ·cases he
  ·rename_i e l ah
   have := j8 aC; subst this
   obtain ⟨i, d, z, aE, aI, bg, bX, b0, bh, bc⟩ := aM.info (dG ah (by simp))
   rw [ah] at bc
   have := hi bc; subst this
   split at he
   ·rename_i p1 p2
    rw [p1] at kG
    have := k7 kG; subst this
    obtain ⟨n7, aS, lV, f1, f2, f3, f4, f5, f6, f7⟩ := aM.info (dG p2 (by simp))
    rw [p2] at f7
    have := pQ f7; subst this
    split at he
    ·rename_i hl
     simp only [Option.some.injEq] at he; subst he
     have R : (⟨⟨l⟩⟩ : ByteArray).size = l.length := rfl
     have p3 := grownCap_ge w l.length 0 e
     have CC := grownCap_le_maxLen w l.length 0 e (by unfold maxLen; omega)
     have xd : (bytesRow ⟨⟨l⟩⟩ (grownCap w l.length 0 e)).toList = l.map (fun b => Value.int .u8 (b.toNat : Int)) ++ List.replicate (grownCap w l.length 0 e - l.length) (.int .u8 0) := by
      simp [bytesRow, R]
     have cV : (bytesRow ⟨⟨l⟩⟩ (grownCap w l.length 0 e)).size = grownCap w l.length 0 e * 1 := by
      have : (bytesRow ⟨⟨l⟩⟩ (grownCap w l.length 0 e)).size = (bytesRow ⟨⟨l⟩⟩ (grownCap w l.length 0 e)).toList.length := by simp
      rw [this, xd]; simp; omega
     have m1 := run_bytes_of_string w A B e ⟨⟨l⟩⟩ kF bh f6
     rw [R] at m1
     have gP := h.p0 (ao := w.drew.alloc (.cells (bytesRow ⟨⟨l⟩⟩ (grownCap w l.length 0 e)) e ((bytesRow ⟨⟨l⟩⟩ (grownCap w l.length 0 e)).size, (bytesRow ⟨⟨l⟩⟩ (grownCap w l.length 0 e)).size + 1)))
      (sz := 1) (cap := grownCap w l.length 0 e) (xs := l.map fy) (cur := bytesRow ⟨⟨l⟩⟩ (grownCap w l.length 0 e)) (e := e) (Sn := fun _ => False) rfl rfl rfl rfl
      (fun o bq ⟨U, _⟩ => by simp only at U; omega) (by simpa using p3) CC cV (by intro d ab; obtain ⟨b, _, rfl⟩ := List.mem_map.1 ab; rfl)
      (by rw [xd, List.take_left' (by simp)]; exact xc l _) (fun _ h => h.elim) (fun _ h => h.elim) (fun _ _ h => h.elim) (fun _ h => h.elim)
     simp only [List.length_map] at gP
     exact ⟨_, _, F, S, m1, gP.1, gP.2⟩
    ·cases he
   ·cases he
  ·cases he
 ·cases he
end
section
variable {C : bp} {w0 w : World} {F0 X F : Nat → Prop} {S : Nat → Nat → Prop} {s s1 : ad} {al : Nat → Value} {av : j}
def dE (d : Nat) : Option j → Option Nat
 | none => some d
 | some (.int _ n) => if 0 ≤ n then some n.toNat else none
 | some _ => none
def cU (C : bp) (s : ad) (T : TypeId) (x : j) (bY ax : Option j) : Option (j × ad) :=
 match (C.T T).k, x with
 | .str, .str l => match dE 0 bY, dE l.length ax with
   | some a, some b => if a ≤ b ∧ b ≤ l.length then some (.str ((l.take b).drop a), s) else none
   | _, _ => none
 | .slice e, .bu => match dE 0 bY, dE 0 ax with
   | some 0, some 0 => if (C.T e).ok = true then some (.bu, s) else none
   | _, _ => none
 | .slice e, .slice xs => match dE 0 bY, dE xs.length ax with
   | some a, some b => if a ≤ b ∧ b ≤ xs.length ∧ (C.T e).ok = true ∧ (∀ d ∈ xs, d.wd = (C.T e).sz) then some (.slice ((xs.take b).drop a), s) else none
   | _, _ => none
 | .slice e, .h y q => match j.sub q (s y) with
   | some (.aJ sz xs) => match dE 0 bY, dE xs.length ax with
     | some 0, some b => if b ≤ xs.length ∧ (C.T e).ok = true then (match bM s (.h y q) with | some (_, s1) => some (.aJ sz (xs.take b), s1) | none => none) else none
     | _, _ => none
   | _ => none
 | _, _ => none
def lb (w : World) (F : Nat → Prop) (s : ad) (al : Nat → Value) : Option j → Option Value → Prop
 | none, none => True
 | some d, some v => ar w F s al d v (fun _ => False)
 | _, _ => False
theorem xe {d : Nat} {o : Option j} {v : Option Value} (bq : lb w F s al o v) {a : Nat} (h : dE d o = some a) : (o = none ∧ v = none ∧ a = d) ∨ ∃ k, v = some (.int k a) := by
 cases o with
 | none =>
   cases v with
   | none => simp [dE] at h; exact .inl ⟨rfl, rfl, h.symm⟩
   | some v => simp [lb] at bq
 | some x =>
   cases v with
   | none => simp [lb] at bq
   | some v =>
     simp only [lb] at bq
     cases x with
     | int k n =>
       have := k_ bq; subst this
       simp only [dE] at h
       split at h
       ·rename_i aO
        simp only [Option.some.injEq] at h; subst h
        obtain ⟨m, rfl⟩ := Int.eq_ofNat_of_zero_le aO
        exact .inr ⟨k, rfl⟩
       ·cases h
     | _ => simp [dE] at h
theorem oa {P : Program} {isS : Bool} {len cap a b : Nat} {bY ax : Option j} {na nb : Option Value} (jz : lb w F s al bY na) (jA : lb w F s al ax nb) (bB : dE 0 bY = some a) (J : dE len ax = some b) (h0 : a ≤ b) (CD : b ≤ cap) (_hlc : len ≤ cap) :
  (Instr.sliceBounds isS len cap na nb none).run P w = .ok (a, b, cap) w := by
 rcases xe jz bB with ⟨_, rfl, rfl⟩ | ⟨k, rfl⟩ <;> rcases xe jA J with ⟨_, rfl, rfl⟩ | ⟨cF, rfl⟩ <;>
  simp [Instr.sliceBounds, Instr.sliceBound, asIntOf, h0, CD]
theorem ob (aM : C.c3) {T : TypeId} (ah : (C.T T).flat = true) (v : Value) (bY ax fv : Option Value) (w : World) : (Instr.sliceAt T v bY ax fv).run C.P w = (Instr.slice T v bY ax fv).run C.P w := by
 obtain ⟨i, d, z, aE, aI, bg, bX, b0, bh, bc⟩ := aM.info (wS ah)
 have cu : ∀ n e, d ≠ .array n e := by
  clear bh
  unfold dT.flat at ah
  generalize (C.T T).k = h4 at *
  cases h4 <;> cases d <;> simp [hH] at bc ah ⊢
 cases d <;> first | exact (cu _ _ rfl).elim | simp [Instr.sliceAt, run_underlying bh]
theorem oc {x : dT} {k : ju} (h : x.k = k) (ah : k ≠ .other) (R : ∀ af, k ≠ .struct af) (J : ∀ e, k ≠ .cI e := by simp) : x.flat = true := by
 unfold dT.flat; rw [h]; cases k <;> first | rfl | exact (ah rfl).elim | exact (J _ rfl).elim | exact (R _ rfl).elim
theorem aH.split : ∀ (n : Nat) (xs : List j) (cs : List Value) (az : Nat → Prop), aH w F xs cs az → ∃ bA bG bf cj, cs = bA ++ bG ∧ aH w F (xs.take n) bA bf ∧ aH w F (xs.drop n) bG cj ∧ (∀ b, bf b → az b) ∧ (∀ b, cj b → az b) ∧ (∀ b, bf b → ¬ cj b)
 | 0, xs, cs, az, h => ⟨[], cs, fun _ => False, az, rfl, by rw [List.take_zero, aH], h, fun _ h => h.elim, fun _ h => h, fun _ h => h.elim⟩
 | n + 1, [], cs, az, h => by rw [aH] at h; subst h; exact ⟨[], [], fun _ => False, fun _ => False, rfl, by rw [List.take_nil, aH], by rw [List.drop_nil, aH], fun _ h => h.elim, fun _ h => h.elim, fun _ h => h.elim⟩
 | n + 1, x :: xs, cs, az, h => by
   rw [aH] at h
   obtain ⟨bA, bG, eL, dX, rfl, U, aa, au, aK, a1⟩ := h
   obtain ⟨d1, d2, bf, cj, rfl, g1, g2, g3, g4, g5⟩ := aH.split n xs bG dX aa
   refine ⟨bA ++ d1, d2, fun b => eL b ∨ bf b, cj, by simp, ?_, g2, ?_, fun b J => aK _ (g4 _ J), ?_⟩
   ·rw [List.take_succ_cons, aH]
    exact ⟨bA, d1, eL, bf, rfl, U, g1, fun _ h => .inl h, fun _ h => .inr h, fun b J ag => a1 b J (g3 b ag)⟩
   ·rintro b (J | J)
    ·exact au b J
    ·exact aK b (g3 b J)
   ·rintro b (J | J) ag
    ·exact a1 b J (g4 b ag)
    ·exact g5 b J ag
theorem CE (aM : C.c3) (h : ba w0 F0 X F S s al w) {T : TypeId} {x : j} {v : Value} {bY ax : Option j} {na nb : Option Value} (an : x.plain = true) (aC : ar w F s al x v (fun _ => False)) (jz : lb w F s al bY na) (jA : lb w F s al ax nb)
  (he : cU C s T x bY ax = some (av, s1)) : Good C w0 F0 X al w (Instr.sliceAt T v na nb none) av s1 := by
 unfold cU at he
 split at he
 ·rename_i l ah
  have := j8 aC; subst this
  obtain ⟨i, d, z, aE, aI, bg, bX, b0, bh, bc⟩ := aM.info (dG ah (by simp))
  rw [ah] at bc
  have := k7 bc; subst this
  split at he
  ·rename_i a b bB J
   split at he
   ·rename_i h0
    simp only [Option.some.injEq, Prod.mk.injEq] at he
    obtain ⟨rfl, rfl⟩ := he
    refine Good.same h ?_ rfl (jx _)
    rw [ob aM (oc ah (by simp) (by simp))]
    have cV : (⟨⟨l⟩⟩ : ByteArray).size = l.length := rfl
    have jB := oa (P := C.P) (isS := false) (len := l.length) (cap := l.length) jz jA bB J h0.1 h0.2 (Nat.le_refl _)
    have CF : (⟨⟨l⟩⟩ : ByteArray).extract a b = ⟨⟨(l.take b).drop a⟩⟩ := by
     apply ByteArray.ext
     simp [ByteArray.data_extract, List.drop_take]
    simp [Instr.slice, run_underlying bh, cV, jB, CF]
   ·cases he
  ·cases he
 ·rename_i e ah
  have := la aC; subst this
  obtain ⟨i, d, z, aE, aI, bg, bX, b0, bh, bc⟩ := aM.info (dG ah (by simp))
  rw [ah] at bc
  have := hi bc; subst this
  split at he
  ·rename_i bB J
   split at he
   ·rename_i j_
    obtain ⟨n7, aS, lV, f1, f2, f3, f4, f5, f6, f7⟩ := aM.info j_
    simp only [Option.some.injEq, Prod.mk.injEq] at he
    obtain ⟨rfl, rfl⟩ := he
    have jB := oa (P := C.P) (isS := true) (len := 0) (cap := 0) jz jA bB J (Nat.le_refl _) (Nat.le_refl _) (Nat.le_refl _)
    refine Good.same h (v := .slice none 0 0) ?_ rfl aC
    rw [ob aM (oc ah (by simp) (by simp))]
    simp [Instr.slice, run_underlying bh, jB, gy f1, f2]
   ·cases he
  ·cases he
 ·rename_i e xs ah
  obtain ⟨i, d, z, aE, aI, bg, bX, b0, bh, bc⟩ := aM.info (dG ah (by simp))
  rw [ah] at bc
  have := hi bc; subst this
  split at he
  ·rename_i a b bB J
   split at he
   ·rename_i h0
    obtain ⟨CG, xf, j_, iE⟩ := h0
    obtain ⟨n7, aS, lV, f1, f2, f3, f4, f5, f6, f7⟩ := aM.info j_
    simp only [Option.some.injEq, Prod.mk.injEq] at he
    obtain ⟨rfl, rfl⟩ := he
    rcases rM aC with ⟨rfl, od, c, rfl, ld, m7⟩ | ⟨hp, o, cap, c2, sz, rfl, U, aa, au, aK, a1, bN⟩
    ·have eX : b = 0 := by simpa using xf
     subst eX
     have CH : a = 0 := by omega
     subst CH
     have jB := oa (P := C.P) (isS := true) (len := 0) (cap := c) jz jA bB J (Nat.le_refl _) (Nat.zero_le _) (Nat.zero_le _)
     refine Good.same h (v := .slice od 0 c) ?_ rfl ((ar.bE rfl).2 ⟨rfl, by rw [ai]; exact .inl ⟨rfl, od, c, rfl, ld, m7⟩⟩)
     rw [ob aM (oc ah (by simp) (by simp))]
     cases od with
     | none =>
       have := m7 rfl; subst this
       simp [Instr.slice, run_underlying bh, jB, gy f1, f2]
     | some od => simp [Instr.slice, run_underlying bh, jB, gy f1, f2, Addr.add]
    ·have jB := oa (P := C.P) (isS := true) (len := xs.length) (cap := cap) jz jA bB J CG (Nat.le_trans xf aa) aa
     obtain ⟨bA, bG, bf, cj, rfl, g1, g2, g3, g4, g5⟩ := aH.split b xs c2 _ bN
     obtain ⟨d1, d2, Oa, xg, rfl, bn, bs, cT, cm, c8⟩ := aH.split a (xs.take b) bA _ g1
     have tS : d1.length = a * (C.T e).sz := by
      rw [aH.length _ _ _ bn, mT _ (fun d ab => iE d (List.mem_of_mem_take (List.mem_of_mem_take ab))), List.length_take, List.length_take]
      congr 1; omega
     have hlen : ((xs.take b).drop a).length = b - a := by simp; omega
     have gi : e0 w hp (o + a * (C.T e).sz) d2 := by
      rw [← tS]
      have : e0 w hp o (d1 ++ (d2 ++ bG)) := by simpa using a1
      exact this.tG
     have rN : aH w F ((xs.take b).drop a) d2 (fun _ => False) := aH.mono (fun _ h => h) _ _ _ _ (fun b J => (g3 _ (cm _ J)).elim) bs
     have mem : ∀ d ∈ (xs.take b).drop a, d.wd = sz := fun d ab => aK d (List.mem_of_mem_take (List.mem_of_mem_drop ab))
     have run : (Instr.sliceAt T (.slice (some ⟨hp, o, none⟩) xs.length cap) na nb none).run C.P w = .ok (.slice (if cap = a then some ⟨hp, o, none⟩ else some ⟨hp, o + a * (C.T e).sz, none⟩) (b - a) (cap - a)) w := by
      rw [ob aM (oc ah (by simp) (by simp))]
      simp [Instr.slice, run_underlying bh, jB, gy f1, f2, Addr.add_lit]
     refine ⟨_, w, F, S, run, h, .inl ⟨rfl, (ar.bE rfl).2 ⟨rfl, ?_⟩⟩⟩
     simp only [br, fg]
     rw [ai]
     by_cases xh : cap = a
     ·have CI : b = a := by omega
      subst CI
      have p4 : (xs.take b).drop b = [] := by simp
      rw [if_pos xh]
      rw [p4] at rN ⊢
      rw [aH] at rN
      subst rN
      exact .inr ⟨hp, o, cap - b, [], sz, by simp, U, Nat.zero_le _, by omega, by simp, fun ay c bP => by simp at bP, by rw [aH]⟩
     ·rw [if_neg xh]
      exact .inr ⟨hp, _, cap - a, d2, sz, by rw [hlen], U, by rw [hlen]; omega, by omega, mem, gi, rN⟩
   ·cases he
  ·cases he
 ·rename_i e y q ah
  split at he
  ·rename_i sz xs ab
   split at he
   ·rename_i b bB J
    split at he
    ·rename_i rO
     split at he
     ·rename_i pW s2 aG
      simp only [Option.some.injEq, Prod.mk.injEq] at he
      obtain ⟨rfl, rfl⟩ := he
      obtain ⟨i, d, z, aE, aI, bg, bX, b0, bh, bc⟩ := aM.info (dG ah (by simp))
      rw [ah] at bc
      have := hi bc; subst this
      obtain ⟨n7, aS, lV, f1, f2, f3, f4, f5, f6, f7⟩ := aM.info rO.2
      have m8 : pW = .aJ sz xs := by
       simp only [bM, ab, j.plain] at aG
       simp at aG
       exact aG.1.symm
      subst m8
      obtain ⟨bf, g0, g1, g2, Sn, g3, g4, g5, g6, g7, g8⟩ := kB h rfl aC aG
      rw [eb g2, ai] at g3
      rcases g3 with ⟨rfl, a0, hq⟩ | ⟨hp, cap, cur, eO, fr, az, hq, bn, bs, cT, cm, c8, c4, fq, hr, h8, lZ⟩
      ·simp at hq; subst hq
       have eX : b = 0 := by simpa using rO.1
       subst eX
       have jB := oa (P := C.P) (isS := true) (len := 0) (cap := 0) jz jA bB J (Nat.le_refl _) (Nat.le_refl _) (Nat.le_refl _)
       refine ⟨.slice a0 0 0, w, F, bf, ?_, g0, .inr ⟨rfl, rfl, fun _ => False, by simp only [br, fg]; rw [ai]; exact .inl ⟨rfl, _, rfl⟩, fun _ h => h.elim, fun _ h => h.elim, fun _ _ h => h.elim, fun _ h => h.elim⟩⟩
       rw [ob aM (oc ah (by simp) (by simp))]
       cases a0 <;> simp [Instr.slice, run_underlying bh, jB, gy f1, f2]
      ·simp at hq; subst hq
       have jB := oa (P := C.P) (isS := true) (len := xs.length) (cap := cap) jz jA bB J (Nat.zero_le _) (Nat.le_trans rO.1 cm) cm
       have hlen : (xs.take b).length = b := by simp; omega
       have run : (Instr.sliceAt T (.slice (some ⟨hp, 0, none⟩) xs.length cap) na nb none).run C.P w = .ok (.slice (some ⟨hp, 0, none⟩) b cap) w := by
        rw [ob aM (oc ah (by simp) (by simp))]
        simp [Instr.slice, run_underlying bh, jB, gy f1, f2, Addr.add_lit]
       refine ⟨_, w, F, bf, run, g0, .inr ⟨rfl, rfl, Sn, ?_, g4, g5, g6, g7⟩⟩
       simp only [br, fg]
       rw [ai]
       obtain ⟨bA, bG, eL, dX, ag, dY, e3, fQ, j6, kE⟩ := aH.split b xs _ _ hr
       refine .inr ⟨hp, cap, cur, eO, fr, az, by rw [hlen], bn, bs, cT, by omega, c8, c4, fun d ab => fq d (List.mem_of_mem_take ab), ?_, h8, lZ⟩
       have tS : bA.length = b * sz := by
        rw [aH.length _ _ _ dY, mT _ (fun d ab => fq d (List.mem_of_mem_take ab)), hlen]
       have : cur.toList.take ((xs.take b).length * sz) = bA := by
        rw [hlen]
        have aa : b * sz ≤ xs.length * sz := Nat.mul_le_mul_right _ rO.1
        have : (cur.toList.take (xs.length * sz)).take (b * sz) = bA := by rw [ag, List.take_left' tS]
        rwa [List.take_take, Nat.min_eq_left aa] at this
       rw [this]
       exact aH.mono (fun _ h => h) _ _ _ _ fQ dY
     ·cases he
    ·cases he
   ·cases he
  ·cases he
 ·cases he
end
section
variable {C : bp} {w0 w : World} {F0 X F : Nat → Prop} {S : Nat → Nat → Prop} {s s1 : ad} {al : Nat → Value} {av : j}
def Src (P : Program) (w : World) (size : Nat) (x : Value) (m : Nat) (news : List Value) : Prop :=
 ∀ ao : World, ao.heap = w.heap → (Builtin.lenOf x).run P ao = .ok m ao ∧ (Builtin.firstCells size m x).run P ao = .ok news.toArray ao
def tT (d : TypeDesc) : Prop := (∃ e, d = .slice e) ∨ d = .string
theorem CJ {P : Program} {T aU ty e : TypeId} {lf : TypeDesc} {i : TypeInfo} (aG : P.underlying T = some (.slice e)) (hu : P.underlying aU = some lf) (nc : tT lf) (ax : P.info? e = some i)
  {x : Value} {m : Nat} {news : List Value} (rP : Src P w i.size x m news) {b n cap : Nat} {cur : Array Value} {eO : TypeId} {fr : Nat × Nat} {l mid r : List Value} (J : w.heap[b]? = some (.cells cur eO fr)) (bo : lS fr cur.size)
  (ag : cur.toList = l ++ (mid ++ r)) (hl : l.length = n * i.size) (hm : mid.length = news.length) (rI : ∀ v ∈ news, Value.dW v = true) (jC : n + m ≤ cap) :
  ∃ ao, (Builtin.append_ #[T, aU] ty #[.slice (some ⟨b, 0, none⟩) n cap, x]).run P w = .ok (.slice (some ⟨b, 0, none⟩) (n + m) cap) ao ∧ ao.heap[b]? = some (.cells (l ++ (news ++ r)).toArray eO fr) ∧
    (∀ c, c ≠ b → ao.heap[c]? = w.heap[c]?) ∧ ao.heap.size = w.heap.size ∧ ao.os = w.os ∧ ao.tape = w.tape ∧ ao.output = w.output := by
 obtain ⟨ao, dY, e3⟩ := tK (P := P) (b := b) (o := n * i.size) (e := eO) (fr := fr) news 0 cur w l mid r J bo ag (by omega) hm rI
 refine ⟨ao, ?_, e3⟩
 obtain ⟨U, aa⟩ := rP w rfl
 rcases nc with ⟨eE, rfl⟩ | rfl <;> simp [Builtin.append_, run_underlying aG, run_underlying hu, gy ax, U, aa, jC, Addr.add_lit, dY]
theorem CK {P : Program} {T aU ty e : TypeId} {lf : TypeDesc} {i : TypeInfo} {z : Value} (aG : P.underlying T = some (.slice e)) (hu : P.underlying aU = some lf) (nc : tT lf) (ax : P.info? e = some i) (bd : i.zero = some z)
  {x : Value} {m : Nat} {news : List Value} (rP : Src P w i.size x m news) {base : Option Addr} {n cap : Nat} {ka : List Value} (hold : Src P w i.size (.slice base n cap) n ka) (jC : ¬ n + m ≤ cap)
  (aO : n + m ≤ 9223372036854775807) (l0 : (n + m) * i.bytes ≤ 140737488355328) :
  (Builtin.append_ #[T, aU] ty #[.slice base n cap, x]).run P w = .ok (.slice (some ⟨w.heap.size, 0, none⟩) (n + m) (grownCap w (n + m) cap e))
   (w.drew.alloc (.cells (ka.toArray ++ news.toArray ++ Builtin.zeroCells z.cells (grownCap w (n + m) cap e - (n + m))) e)) := by
 have U := (rP w rfl).1
 have aa := (rP w.drew rfl).2
 have au := (hold w.drew rfl).2
 have Ob := growslice_fits (need := n + m) (old := cap) (by omega) l0
 have e2 : ¬ (281474976710656 < Builtin.nextslicecap (n + m) cap * i.bytes) := by omega
 have oe : ∀ k (w : World), (askRoom k).run P w = .ok () w := by
  intro k w
  unfold askRoom
  split <;> rfl
 have tU : ¬ (9223372036854775807 < (n : Int) + (m : Int) ∧ i.bytes = 0) := by omega
 rcases nc with ⟨eE, rfl⟩ | rfl <;>
  ·simp [Builtin.append_, run_underlying aG, run_underlying hu, gy ax, mY ax, U, jC, e2, Question.forced, oe]
   rw [if_neg tU, au]
   simp [aa, n6 ax bd, newRow, grownCap]
   have aE : (ka ++ news).toArray = ka.toArray ++ news.toArray := by simp
   rw [aE, Array.append_assoc]
def rQ (C : bp) (e aU : TypeId) : Bool := match (C.T aU).k, (C.T e).k with
 | .slice eE, _ => eE == e
 | .str, .int .u8 => true
 | _, _ => false
def h9 (C : bp) (s : ad) (T aU : TypeId) (x y : j) : Option (j × ad) :=
 match (C.T T).k with
 | .slice e => if (C.T e).ok = true ∧ (C.T e).zero.wd = (C.T e).sz ∧ (flat (C.T e).zero).isSome = true ∧ rQ C e aU = true then
   match (match x with | .bu => some (j.aJ (C.T e).sz [], s) | .h a q => bM s (.h a q) | _ => none) with
   | some (.aJ sz xs, s1) => if sz = (C.T e).sz then
     match (match gN x.owner y with
      | .bu => some ([], s1)
      | .slice bT => some (bT, s1)
      | .str l => some (l.map fy, s1)
      | .h a q => match bM s1 (.h a q) with
        | some (.aJ _ bT, s2) => some (bT, s2)
        | _ => none
      | _ => none) with
     | some (bT, s2) => if (∀ d ∈ bT, d.wd = (C.T e).sz) ∧ (xs.length + bT.length) * (C.T e).bytes ≤ 140737488355328 ∧ xs.length + bT.length ≤ 9223372036854775807 then some (.aJ sz (xs ++ bT), s2) else none
     | none => none
     else none
   | _ => none
   else none
 | _ => none
theorem aH.append {xs bT : List j} {bA bG : List Value} {bf cj az : Nat → Prop} (U : aH w F xs bA bf) (aa : aH w F bT bG cj) (aE : ∀ b, bf b → az b) (aI : ∀ b, cj b → az b) (bg : ∀ b, bf b → ¬ cj b) : aH w F (xs ++ bT) (bA ++ bG) az := by
 induction xs generalizing bA bf az with
 | nil => rw [aH] at U; subst U; exact aH.mono (fun _ h => h) _ _ _ _ aI aa
 | cons x xs ih =>
   rw [aH] at U
   obtain ⟨CL, CM, eL, dX, rfl, g1, g2, g3, g4, g5⟩ := U
   rw [List.cons_append, aH]
   refine ⟨CL, CM ++ bG, eL, fun b => dX b ∨ cj b, by simp, g1, ih g2 (fun b h => .inl h) (fun b h => .inr h) (fun b h => bg b (g4 b h)), fun b h => aE b (g3 b h), ?_, ?_⟩
   ·rintro b (h | h)
    ·exact aE b (g4 b h)
    ·exact aI b h
   ·rintro b h (aX | aX)
    ·exact g5 b h aX
    ·exact bg b (g3 b h) aX
theorem tV {P : Program} {size m cap : Nat} {b o : Nat} {news : List Value} (gi : e0 w b o news) (hl : news.length = m * size) : Src P w size (.slice (some ⟨b, o, none⟩) m cap) m news := by
 intro ao hw
 refine ⟨rfl, ?_⟩
 refine run_firstCells_some ao size m ⟨b, o, none⟩ m cap news hl (fun ay v bP => ?_)
 rw [Addr.add_lit]
 have := gi ay v bP
 simpa [World.cell?, hw] using this
theorem xi {P : Program} {size cap : Nat} : Src P w size (.slice none 0 cap) 0 [] := by
 intro ao _
 exact ⟨rfl, by simp [Builtin.firstCells]⟩
theorem tW {P : Program} {size cap : Nat} (a : Option Addr) : Src P w size (.slice a 0 cap) 0 [] := by
 cases a with
 | none => exact xi
 | some a =>
   intro ao _
   exact ⟨rfl, run_firstCells_some ao size 0 a 0 cap [] (by simp) (fun ay v bP => by simp at bP)⟩
theorem CN {P : Program} (l : List UInt8) : Src P w 1 (.string ⟨⟨l⟩⟩) l.length (l.map fun b => .int .u8 (b.toNat : Int)) := by
 intro ao _
 refine ⟨rfl, ?_⟩
 have : (⟨⟨l⟩⟩ : ByteArray).extract 0 l.length = ⟨⟨l⟩⟩ := by
  apply ByteArray.ext
  simp [ByteArray.data_extract]
 simp [Builtin.firstCells, this]
theorem aH.nd {sz : Nat} {xs : List j} {cs : List Value} {az : Nat → Prop} (h : aH w F xs cs az) (hw : ∀ d ∈ xs, d.wd = sz) : cs.length = xs.length * sz := by
 rw [aH.length _ _ _ h, mT _ hw]
theorem ba.turn (h : ba w0 F0 X F S s al w) {ao : World} {b : Nat} (J : ∀ c, c ≠ b → ao.heap[c]? = w.heap[c]?) (R : ao.heap.size = w.heap.size) (U : ao.os = w.os) (aa : ao.tape = w.tape) (au : ao.output = w.output)
  (aN : ¬ F b) (aZ : ∀ u, ¬ S u b) (bz : X b ∨ w0.heap.size ≤ b) : ba w0 F0 X F S s al ao where
 eF := h.eF
 eW := h.eW
 dg := fun c ag => by rw [R]; exact h.dg c ag
 cZ := fun t c ag => by rw [R]; exact h.cZ t c ag
 dz := h.dz
 dt := h.dt
 cq := h.cq
 cl := fun t => ar.frame (Sx := S) (fun c ag => J c (by rintro rfl; exact aN ag)) (fun _ h => h) (fun x c ag => J c (by rintro rfl; exact aZ x ag)) h.cl _ _ _ (fun c ag => J c (by rintro rfl; exact aZ t ag)) (h.cl t)
 old := fun c cK gj => by
  rw [J c ?_]
  ·exact h.old c cK gj
  ·rintro rfl
   rcases bz with bz | bz
   ·exact gj bz
   ·omega
 size := by rw [R]; exact h.size
 os := U.trans h.os
 tape := aa.trans h.tape
 output := au.trans h.output
theorem CO (aM : C.c3) (h : ba w0 F0 X F S s al w) {T aU ty : TypeId} {x y : j} {fJ fo : Value} (an : ar w F s al x fJ (fun _ => False)) (a8 : ar w F s al y fo (fun _ => False))
  (he : h9 C s T aU x y = some (av, s1)) : Good C w0 F0 X al w (Builtin.append_ #[T, aU] ty #[fJ, fo]) av s1 := by
 unfold h9 at he
 split at he
 ·rename_i e ah
  obtain ⟨tX, d, tY, aE, aI, bg, bX, b0, bh, bc⟩ := aM.info (dG ah (by simp))
  rw [ah] at bc
  have := hi bc; subst this
  split at he
  ·rename_i m2
   obtain ⟨j_, kH, lg, kI⟩ := m2
   obtain ⟨i, tZ, z, f1, f2, f3, f4, f5, f6, f7⟩ := aM.info j_
   obtain ⟨c5, iI⟩ := Option.isSome_iff_exists.1 lg
   have lh := f5 c5 iI
   have kb : c5.length = (C.T e).sz := by
    have := ai.length _ _ _ ((ai.flat (w := w) (F := F) _).1 (C.T e).zero c5 (fun _ => False) (Nat.le_refl _) iI)
    rw [this, kH]
   obtain ⟨lf, hu, nc⟩ : ∃ lf, C.P.underlying aU = some lf ∧ tT lf := by
    unfold rQ at kI
    split at kI
    ·rename_i eE hJ
     obtain ⟨_, aS, _, _, _, _, _, _, g6, g7⟩ := aM.info (dG hJ (by simp))
     rw [hJ] at g7
     exact ⟨aS, g6, .inl ⟨_, hi g7⟩⟩
    ·rename_i hJ _
     obtain ⟨_, aS, _, _, _, _, _, _, g6, g7⟩ := aM.info (dG hJ (by simp))
     rw [hJ] at g7
     exact ⟨aS, g6, .inr (k7 g7)⟩
    ·cases kI
   split at he
   ·rename_i sz xs xj nf
    split at he
    ·rename_i cV
     subst cV
     split at he
     ·rename_i bT rR jD
      split at he
      ·rename_i CP
       obtain ⟨og, l0, t_⟩ := CP
       simp only [Option.some.injEq, Prod.mk.injEq] at he
       obtain ⟨rfl, rfl⟩ := he
       obtain ⟨eL, a0, Sn, a3, a4, a5, kF, kG, Oc, a9, l1⟩ : ∃ eL, ba w0 F0 X F eL xj al w ∧ ∃ Sn, ai w F (.aJ (C.T e).sz xs) [fJ] Sn ∧ (∀ b, Sn b → b < w.heap.size) ∧ (∀ b, Sn b → ¬ F b) ∧ (∀ u b, Sn b → ¬ eL u b) ∧
         (∀ b, Sn b → X b ∨ w0.heap.size ≤ b) ∧ (∀ u b, eL u b → S u b) ∧ (∀ b, Sn b → ∃ u, S u b) ∧ ar w F xj al (gN x.owner y) fo (fun _ => False) := by
        split at nf
        ·simp only [Option.some.injEq, Prod.mk.injEq, j.aJ.injEq, true_and] at nf
         obtain ⟨rfl, rfl⟩ := nf
         have := la an; subst this
         exact ⟨S, h, fun _ => False, by rw [ai]; exact .inl ⟨rfl, _, rfl⟩, fun _ h => h.elim, fun _ h => h.elim, fun _ _ h => h.elim, fun _ h => h.elim, fun _ _ h => h, fun _ h => h.elim, a8⟩
        ·obtain ⟨bf, g0, g1, g2, Sn, g3, g4, g5, g6, g7, g8, g9, g10⟩ := kB h rfl an nf
         rw [eb g2] at g3
         exact ⟨bf, g0, Sn, g3, g4, g5, g6, g7, g8, g9, g10 _ _ _ a8⟩
        ·cases nf
       obtain ⟨dX, hp, i7, news, h5, fK, kJ, ct, hK, l3, p5, eP⟩ : ∃ dX, ba w0 F0 X F dX rR al w ∧ ∃ i7 news, aH w F bT news i7 ∧ Src C.P w i.size fo bT.length news ∧ (∀ b, i7 b → b < w.heap.size) ∧ (∀ b, i7 b → ¬ F b) ∧ (∀ u b, i7 b → ¬ dX u b) ∧
         (∀ b, i7 b → X b ∨ w0.heap.size ≤ b) ∧ (∀ u b, dX u b → eL u b) ∧ (∀ b, i7 b → ∃ u, eL u b) := by
        split at jD
        ·rename_i ng
         simp only [Option.some.injEq, Prod.mk.injEq] at jD
         obtain ⟨rfl, rfl⟩ := jD
         rw [ng] at l1
         have := la l1; subst this
         exact ⟨eL, a0, fun _ => False, [], by rw [aH], xi, fun _ h => h.elim, fun _ h => h.elim, fun _ _ h => h.elim, fun _ h => h.elim, fun _ _ h => h, fun _ h => h.elim⟩
        ·rename_i ec ng
         simp only [Option.some.injEq, Prod.mk.injEq] at jD
         obtain ⟨rfl, rfl⟩ := jD
         rw [ng] at l1
         rcases rM l1 with ⟨rfl, od, xk, rfl, _, m7⟩ | ⟨b, o, cap, c2, CQ, rfl, bn, bs, cT, cm, c8, c4⟩
         ·exact ⟨eL, a0, fun _ => False, [], by rw [aH], tW od, fun _ h => h.elim, fun _ h => h.elim, fun _ _ h => h.elim, fun _ h => h.elim, fun _ _ h => h, fun _ h => h.elim⟩
         ·exact ⟨eL, a0, fun _ => False, c2, c4, tV c8 (by rw [f2]; exact aH.nd c4 og), fun _ h => h.elim, fun _ h => h.elim, fun _ _ h => h.elim, fun _ h => h.elim, fun _ _ h => h, fun _ h => h.elim⟩
        ·rename_i l ng
         simp only [Option.some.injEq, Prod.mk.injEq] at jD
         obtain ⟨rfl, rfl⟩ := jD
         rw [ng] at l1
         have := j8 l1; subst this
         have CR : l ≠ [] → i.size = 1 := by
          intro hl
          cases l with
          | nil => exact (hl rfl).elim
          | cons b l => rw [f2, ← og (fy b) (by simp)]; rfl
         by_cases hl : l = []
         ·subst hl
          refine ⟨eL, a0, fun _ => False, [], by simp only [List.map_nil]; rw [aH], ?_, fun _ h => h.elim, fun _ h => h.elim, fun _ _ h => h.elim, fun _ h => h.elim, fun _ _ h => h, fun _ h => h.elim⟩
          intro ao _
          exact ⟨rfl, by simp [Builtin.firstCells, ByteArray.extract]; rfl⟩
         ·refine ⟨eL, a0, fun _ => False, _, xc l _, ?_, fun _ h => h.elim, fun _ h => h.elim, fun _ _ h => h.elim, fun _ h => h.elim, fun _ _ h => h, fun _ h => h.elim⟩
          rw [CR hl, List.length_map]
          exact CN l
        ·rename_i a q ng
         split at jD
         ·rename_i Od ec s2 aG
          simp only [Option.some.injEq, Prod.mk.injEq] at jD
          obtain ⟨rfl, rfl⟩ := jD
          rw [ng] at l1
          obtain ⟨cj, g0, g1, g2, i7, g3, g4, g5, g6, g7, g8, g9, g10⟩ := kB a0 rfl l1 aG
          rw [eb g2, ai] at g3
          rcases g3 with ⟨rfl, CS, hq⟩ | ⟨b, cap, cur, eO, fr, az, hq, bn, bs, cT, cm, c8, c4, fq, hr, h8, lZ⟩
          ·simp at hq; subst hq
           exact ⟨cj, g0, fun _ => False, [], by rw [aH], (tW CS), fun _ h => h.elim, fun _ h => h.elim, fun _ _ h => h.elim, fun _ h => h.elim, g8, fun _ h => h.elim⟩
          ·simp at hq; subst hq
           refine ⟨cj, g0, az, _, hr, tV (n1 bs _) ?_, fun c ag => g4 c (h8 c ag), fun c ag => g5 c (h8 c ag), fun u c ag => g6 u c (h8 c ag), fun c ag => g7 c (h8 c ag), g8, fun c ag => g9 c (h8 c ag)⟩
           rw [f2]; exact aH.nd hr og
         ·cases jD
        ·cases jD
       have l4 : news.length = bT.length * (C.T e).sz := aH.nd h5 og
       have jE : ∀ c, Sn c → ¬ i7 c := fun c U aa => by obtain ⟨u, hu⟩ := eP c aa; exact kF u c U hu
       have h0 : ∀ u c, Sn c → ¬ dX u c := fun u c U aa => kF u c U (p5 u c aa)
       have grow : ∀ (base : Option Addr) (cap : Nat) (ka : List Value) (Sx : Nat → Prop), fJ = .slice base xs.length cap → Src C.P w i.size (.slice base xs.length cap) xs.length ka → aH w F xs ka Sx → (∀ d ∈ xs, d.wd = (C.T e).sz) → (∀ c, Sx c → Sn c) → ¬ xs.length + bT.length ≤ cap →
         Good C w0 F0 X al w (Builtin.append_ #[T, aU] ty #[fJ, fo]) (.aJ (C.T e).sz (xs ++ bT)) rR := by
        intro base cap ka Sx tL hold xl xm c7 jC
        subst tL
        have aD := CK (ty := ty) bh hu nc f1 f4 fK hold jC t_ (by rw [f3]; exact l0)
        have p3 := grownCap_ge w (xs.length + bT.length) cap e
        have ld := grownCap_le_maxLen w (xs.length + bT.length) cap e (by unfold maxLen; omega)
        have p6 := aH.nd xl xm
        have CT : aH w F (xs ++ bT) (ka ++ news) (fun c => Sx c ∨ i7 c) := aH.append xl h5 (fun _ h => .inl h) (fun _ h => .inr h) (fun c U aa => jE c (c7 c U) aa)
        have CU : (ka ++ news).length = (xs ++ bT).length * (C.T e).sz := by simp [p6, l4, Nat.add_mul]
        have gP := hp.p0 (ao := w.drew.alloc (.cells (ka.toArray ++ news.toArray ++ Builtin.zeroCells z.cells (grownCap w (xs.length + bT.length) cap e - (xs.length + bT.length))) e))
         (sz := (C.T e).sz) (cap := grownCap w (xs.length + bT.length) cap e) (xs := xs ++ bT) (e := e) (fr := (0, 0)) (Sn := fun c => Sx c ∨ i7 c) rfl rfl rfl rfl
         (fun o _ ⟨_, aa⟩ => absurd aa (Nat.not_lt_zero _)) (by simpa using p3) ld
         (by
          simp only [Array.size_append, List.size_toArray, size_zeroCells, lh, p6, l4, kb, ← Nat.add_mul]
          congr 1; omega)
         (by
          intro d ab
          rcases List.mem_append.1 ab with ab | ab
          ·exact xm d ab
          ·exact og d ab)
         (by
          simp only [Array.toList_append]
          rw [List.take_left' CU]
          exact CT)
         (by rintro c (ag | ag); exact a4 c (c7 c ag); exact kJ c ag) (by rintro c (ag | ag); exact a5 c (c7 c ag); exact ct c ag) (by rintro u c (ag | ag); exact h0 u c (c7 c ag); exact hK u c ag) (by rintro c (ag | ag); exact kG c (c7 c ag); exact l3 c ag)
        refine ⟨_, _, F, dX, aD, gP.1, ?_⟩
        have := gP.2
        simpa using this
       rw [ai] at a3
       rcases a3 with ⟨rfl, rS, hq⟩ | ⟨b, cap, cur, eO, fr, az, hq, bn, bs, cT, cm, c8, c4, fq, hr, h8, lZ⟩
       ·simp at hq; subst hq
        by_cases xn : bT = []
        ·subst xn
         have ua : news = [] := by simpa using l4
         subst ua
         refine ⟨.slice rS 0 0, w, F, dX, ?_, hp, .inr ⟨rfl, rfl, fun _ => False, by simp only [br, fg]; rw [ai]; exact .inl ⟨rfl, _, rfl⟩, fun _ h => h.elim, fun _ h => h.elim, fun _ _ h => h.elim, fun _ h => h.elim⟩⟩
         obtain ⟨U, aa⟩ := fK w rfl
         cases rS <;> rcases nc with ⟨eE, rfl⟩ | rfl <;> simp at U aa <;> simp [Builtin.append_, run_underlying bh, run_underlying hu, gy f1, U, aa, storeCells]
        ·exact grow rS 0 [] (fun _ => False) rfl (tW rS) (by rw [aH]) (by simp) (fun _ h => h.elim) (by
          cases bT with
          | nil => exact (xn rfl).elim
          | cons y bT => simp)
       ·simp at hq; subst hq
        by_cases jC : xs.length + bT.length ≤ cap
        ·
         have p6 := aH.nd hr fq
         have hlen : cur.toList.length = cap * (C.T e).sz := by simp [c4]
         have hle : (xs.length + bT.length) * (C.T e).sz ≤ cap * (C.T e).sz := Nat.mul_le_mul_right _ jC
         rw [Nat.add_mul] at hle
         have hd : cur.toList = cur.toList.take (xs.length * (C.T e).sz) ++ ((cur.toList.drop (xs.length * (C.T e).sz)).take news.length ++ (cur.toList.drop (xs.length * (C.T e).sz)).drop news.length) := by
          rw [List.take_append_drop, List.take_append_drop]
         obtain ⟨ao, dY, e3, fQ, j6, kE, ek, k9⟩ := CJ (ty := ty) (n := xs.length) (m := bT.length) (cap := cap) bh hu nc f1 fK bs cT hd (by rw [f2]; exact p6) (by simp [hlen, l4]; omega) (aH.m0 _ _ _ h5) jC
         have CV := hp.turn fQ j6 kE ek k9 (a5 b bn) (fun u hu => h0 u b bn hu) (kG b bn)
         have n5 : ∀ c, F c → ao.heap[c]? = w.heap[c]? := fun c ag => fQ c (by rintro rfl; exact a5 _ bn ag)
         refine ⟨_, ao, F, dX, dY, CV, .inr ⟨rfl, rfl, fun c => Sn c ∨ i7 c, ?_, ?_, ?_, ?_, ?_⟩⟩
         ·simp only [br, fg]
          rw [ai]
          have xo : (cur.toList.take (xs.length * (C.T e).sz) ++ (news ++ (cur.toList.drop (xs.length * (C.T e).sz)).drop news.length)).toArray.size = cur.size := by
           have : cur.size = cur.toList.length := by simp
           rw [this]
           conv => rhs; rw [hd]
           simp [hlen, l4]; omega
          refine .inr ⟨b, cap, _, eO, fr, fun c => az c ∨ i7 c, by simp, .inl bn, e3, by rw [xo]; exact cT, by simpa using jC, c8, by rw [xo]; exact c4, ?_, ?_, ?_, ?_⟩
          ·intro d ab
           rcases List.mem_append.1 ab with ab | ab
           ·exact fq d ab
           ·exact og d ab
          ·have n_ := aH.frame n5 _ _ _ (fun c ag => fQ c (by rintro rfl; exact lZ ag)) hr
           have mW := aH.frame n5 _ _ _ (fun c ag => fQ c (by rintro rfl; exact jE _ bn ag)) h5
           have : ((cur.toList.take (xs.length * (C.T e).sz) ++ (news ++ (cur.toList.drop (xs.length * (C.T e).sz)).drop news.length)).toArray.toList.take ((xs ++ bT).length * (C.T e).sz)) = cur.toList.take (xs.length * (C.T e).sz) ++ news := by
            simp only []
            rw [← List.append_assoc]
            exact List.take_left' (by rw [List.length_append, p6, l4, List.length_append, Nat.add_mul])
           rw [this]
           exact aH.append n_ mW (fun _ h => .inl h) (fun _ h => .inr h) (fun c U aa => jE c (h8 c U) aa)
          ·rintro c (ag | ag)
           ·exact .inl (h8 c ag)
           ·exact .inr ag
          ·rintro (ag | ag)
           ·exact lZ ag
           ·exact jE b bn ag
         ·rw [j6]; rintro c (ag | ag); exact a4 c ag; exact kJ c ag
         ·rintro c (ag | ag); exact a5 c ag; exact ct c ag
         ·rintro u c (ag | ag); exact h0 u c ag; exact hK u c ag
         ·rintro c (ag | ag); exact kG c ag; exact l3 c ag
        ·exact grow (some ⟨b, 0, none⟩) cap _ az rfl (tV (n1 bs _) (by rw [f2]; exact aH.nd hr fq)) hr fq h8 jC
      ·cases he
     ·cases he
    ·cases he
   ·cases he
  ·cases he
 ·cases he
end
end Go.b7
