/- Part of a proof that a law returns true for every input. No condition. -/
import Derived.Test.YtjedocbdhlppdaaFwC
import Derived.Test.YtjedocbdhlppdaaFwA
import Derived.Laws.IdiomStrings
import Derived.Laws.Strings
import Derived.LaidEql
import Derived.WideLaws
import Derived.Laws.StructEq
namespace Go.b1
section
variable {C : bl} {w0 w : World} {F0 X F : Nat → Prop} {S : Nat → Nat → Prop} {s s1 : ae} {ak : Nat → Value} {av : j}
theorem kA {k : IntKind} {n : Int} {v : Value} {az : Nat → Prop} (h : ar w F s ak (.int k n) v az) : v = .int k n := by
 have aS := (ar.bt rfl).1 h
 rw [ag, dM aS.1] at aS
 simpa using aS.2
theorem mg {b : Bool} {v : Value} {az : Nat → Prop} (h : ar w F s ak (.bool b) v az) : v = .bool b := by
 have aS := (ar.bt rfl).1 h
 rw [ag, dM aS.1] at aS
 simpa using aS.2
theorem js {b : List UInt8} {v : Value} {az : Nat → Prop} (h : ar w F s ak (.str b) v az) : v = .string ⟨⟨b⟩⟩ := by
 have aS := (ar.bt rfl).1 h
 rw [ag, dM aS.1] at aS
 simpa using aS.2
theorem v7 {v : Value} {az : Nat → Prop} (h : ar w F s ak .b7 v az) : v = .pointer none := by
 have aS := (ar.bt rfl).1 h
 rw [ag, dM aS.1] at aS
 simpa using aS.2
theorem kB {v : Value} {az : Nat → Prop} (h : ar w F s ak .bB v az) : v = .slice none 0 0 := by
 have aS := (ar.bt rfl).1 h
 rw [ag, dM aS.1] at aS
 simpa using aS.2
theorem v8 {v : Value} {az : Nat → Prop} (h : ar w F s ak .cO v az) : ∃ b, v = .bool b := by
 have aS := (ar.bt rfl).1 h
 rw [ag, dM aS.1] at aS
 simpa using aS.2
theorem of_int (k : IntKind) (n : Int) : ar w F s ak (.int k n) (.int k n) (fun _ => False) := (ar.bt rfl).2 ⟨rfl, by rw [ag]; rfl⟩
theorem of_bool (b : Bool) : ar w F s ak (.bool b) (.bool b) (fun _ => False) := (ar.bt rfl).2 ⟨rfl, by rw [ag]; rfl⟩
theorem iK (b : List UInt8) : ar w F s ak (.str b) (.string ⟨⟨b⟩⟩) (fun _ => False) := (ar.bt rfl).2 ⟨rfl, by rw [ag]; rfl⟩
theorem s0 (b : Bool) : ar w F s ak .cO (.bool b) (fun _ => False) := (ar.bt rfl).2 ⟨rfl, by rw [ag]; exact ⟨b, rfl⟩⟩
def eO (op : BinOp) (k : IntKind) (a : Int) (ct : IntKind) (b : Int) : Option j :=
 match op with
 | .shl => if b < 0 then none else some (.int k (k.wrap (a * 2 ^ (min b.toNat k.bits))))
 | .shr => if b < 0 then none else some (.int k (a.fdiv (2 ^ (min b.toNat k.bits))))
 | .add => if k = ct then some (.int k (k.wrap (a + b))) else none
 | .sub => if k = ct then some (.int k (k.wrap (a - b))) else none
 | .mul => if k = ct then some (.int k (k.wrap (a * b))) else none
 | .quo => if k = ct ∧ b ≠ 0 then some (.int k (k.wrap (a.tdiv b))) else none
 | .rem => if k = ct ∧ b ≠ 0 then some (.int k (a.tmod b)) else none
 | .eql => if k = ct then some (.bool (a == b)) else none
 | .neq => if k = ct then some (.bool (a != b)) else none
 | .lss => if k = ct then some (.bool (decide (a < b))) else none
 | .leq => if k = ct then some (.bool (decide (a ≤ b))) else none
 | .gtr => if k = ct then some (.bool (decide (b < a))) else none
 | .geq => if k = ct then some (.bool (decide (b ≤ a))) else none
 | .and => if k = ct then some (.int k (bitsOf .and k a b)) else none
 | .or => if k = ct then some (.int k (bitsOf .or k a b)) else none
 | .xor => if k = ct then some (.int k (bitsOf .xor k a b)) else none
 | .andNot => if k = ct then some (.int k (bitsOf .andNot k a b)) else none
def ie (op : BinOp) (a b : List UInt8) : Option j :=
 match op with
 | .add => if a.length + b.length ≤ 9223372036854775807 then some (.str (a ++ b)) else none
 | .eql => some (.bool (a == b))
 | .neq => some (.bool !(a == b))
 | .lss => some (.bool (Op.bytesLess a b))
 | .leq => some (.bool (Op.bytesLess a b || a == b))
 | .gtr => some (.bool !(Op.bytesLess a b || a == b))
 | .geq => some (.bool !(Op.bytesLess a b))
 | _ => none
def gR (s : ae) : j → Option (Option Bool)
 | .bB => some (some true)
 | .slice xs => some (if xs = [] then none else some false)
 | .h x q => match j.sub q (s x) with
   | some (.aP _ xs) => some (if xs = [] then none else some false)
   | _ => none
 | _ => none
def gS (s : ae) : j → Option Bool
 | .b7 => some true
 | .ref _ => some false
 | .h x q => match j.sub q (s x) with
   | some (.bn _) => some false
   | _ => none
 | _ => none
def ph (neg : Bool) : Option Bool → j
 | some b => .bool (b != neg)
 | none => .cO
def structEq (P : Program) (T : TypeId) : Bool := !P.stoodInHeld T && !P.eqGuardType P.depth T && (P.fieldsOf T).toList.all fun f => decide (f.name ≠ "_")
def iL (C : bl) : List (TypeId × Nat) → Nat → List j → List j → Option Bool
 | [], _, [], [] => some true
 | (fF, off) :: ad, n, d :: ds, e :: es => if off = n then (match (C.T fF).k, d, e with
   | .int k, .int ba a, .int bg b => if ba = k ∧ bg = k then (iL C ad (n + 1) ds es).map fun r => a == b && r else none
   | .bool, .bool a, .bool b => (iL C ad (n + 1) ds es).map fun r => a == b && r
   | .str, .str a, .str b => (iL C ad (n + 1) ds es).map fun r => a == b && r
   | _, _, _ => none) else none
 | _, _, _, _ => none
def bW (C : bl) (s : ae) (op : BinOp) (T : TypeId) (x y : j) : Option j :=
 match x, y with
 | .int k a, .int ct b => eO op k a ct b
 | .str a, .str b => ie op a b
 | .bool a, .bool b => match op, (C.T T).k with
   | .eql, .bool => some (.bool (a == b))
   | .neq, .bool => some (.bool !(a == b))
   | _, _ => none
 | .agg ds, .agg es => match op, (C.T T).k with
   | .eql, .struct ad => if structEq C.P T = true then (iL C ad 0 ds es).map fun b => .bool b else none
   | .neq, .struct ad => if structEq C.P T = true then (iL C ad 0 ds es).map fun b => .bool !b else none
   | _, _ => none
 | x, .bB => match op, (C.T T).k with
   | .eql, .slice _ => (gR s x).map (ph false)
   | .neq, .slice _ => (gR s x).map (ph true)
   | _, _ => none
 | x, .b7 => match op, (C.T T).k with
   | .eql, .ptr _ => (gS s x).map fun b => .bool b
   | .neq, .ptr _ => (gS s x).map fun b => .bool !b
   | _, _ => none
 | _, _ => none
theorem A2 {P : Program} {op : BinOp} {T : TypeId} {k ct : IntKind} {a b : Int} (he : eO op k a ct b = some av) (w : World) :
  ∃ v, (binOp op T (.int k a) (.int ct b)).run P w = .ok v w ∧ ar w F s ak av v (fun _ => False) := by
 unfold eO at he
 cases op <;> simp only at he <;> split at he <;> first | (cases he; done) | skip
 all_goals
  rename_i af
  simp only [Option.some.injEq] at he
  subst he
 all_goals first
  | (subst af; simp only [binOp_add, binOp_sub, binOp_mul, binOp_eql, binOp_neq, binOp_lss, binOp_leq, binOp_gtr, binOp_geq, binOp_and, binOp_or, binOp_xor, binOp_andNot, Op.intArith, Op.intBits, Sem.run_pure, Result.ok.injEq, and_true, exists_eq_left']
     first | exact of_int _ _ | exact of_bool _)
  | (obtain ⟨rfl, bk⟩ := af
     simp only [binOp_quo, binOp_rem, Op.intDiv, bk, if_false, Sem.run_pure, Result.ok.injEq, and_true, exists_eq_left']
     exact of_int _ _)
  | (simp only [binOp_shl, binOp_shr, Op.shift, af, if_false, Sem.run_pure, Result.ok.injEq, and_true, exists_eq_left']
     exact of_int _ _)
theorem pj (a : List UInt8) : (⟨⟨a⟩⟩ : ByteArray).toList = a := ByteArray.toList_eq _
theorem A3 (a b : List UInt8) : (⟨⟨a⟩⟩ : ByteArray) ++ (⟨⟨b⟩⟩ : ByteArray) = ⟨⟨a ++ b⟩⟩ := by
 apply ByteArray.ext
 simp [ByteArray.data_append]
theorem A4 {P : Program} {op : BinOp} {T : TypeId} {a b : List UInt8} (he : ie op a b = some av) (w : World) :
  ∃ v, (binOp op T (.string ⟨⟨a⟩⟩) (.string ⟨⟨b⟩⟩)).run P w = .ok v w ∧ ar w F s ak av v (fun _ => False) := by
 have J : ∀ op, binOp op T (.string ⟨⟨a⟩⟩) (.string ⟨⟨b⟩⟩) = Op.stringOp op ⟨⟨a⟩⟩ ⟨⟨b⟩⟩ := by intro op; cases op <;> rfl
 rw [J]
 unfold ie at he
 cases op <;> simp only [Option.some.injEq] at he <;> first | (cases he; done) | skip
 case add =>
  split at he
  ·rename_i aI
   simp only [Option.some.injEq] at he; subst he
   have R : ((ByteArray.size ⟨⟨a⟩⟩ + ByteArray.size ⟨⟨b⟩⟩ : Nat) : Int) ≤ 9223372036854775807 := by
    show ((a.length + b.length : Nat) : Int) ≤ _
    omega
   refine ⟨.string ⟨⟨a ++ b⟩⟩, ?_, iK _⟩
   simp only [Op.stringOp, IntKind.max_i64]
   rw [if_neg (by omega), A3]
   rfl
  ·cases he
 all_goals
  subst he
  simp only [Op.stringOp, pj, Sem.run_pure, Result.ok.injEq, and_true, exists_eq_left']
  exact of_bool _
theorem s3 (h : aZ w0 F0 X F S s ak w) {v : Value} {y : Nat} {q : List Nat} (aA : ar w F s ak (.h y q) v (fun _ => False)) {sz : Nat} {xs : List j} (ab : j.sub q (s y) = some (.aP sz xs)) :
  (xs = [] ∧ ∃ a, v = .slice a 0 0) ∨ ∃ b cap cur e fr, v = .slice (some ⟨b, 0, none⟩) xs.length cap ∧ w.heap[b]? = some (.cells cur e fr) ∧ k_ fr cur.size ∧ xs.length ≤ cap ∧ cap ≤ maxLen ∧ cur.size = cap * sz ∧ (∀ d ∈ xs, d.wd = sz) ∧
   ∃ az, aD w F xs (cur.toList.take (xs.length * sz)) az ∧ (∀ c, az c → S y c) ∧ S y b := by
 rw [ar] at aA
 obtain ⟨bH, a, g1, g2, g3⟩ := aA _ ab rfl
 have R : Value.dF v = true := g3
 rw [dM R] at g2; subst g2
 have aj := h.cb y
 rw [ar.bt (eT ab (.inl rfl))] at aj
 obtain ⟨di, bK, cG, dV, k0, ba, bg, cy, b2, cM⟩ := ctx q (s y) (bj (ak y)) (S y) none _ aj.2 ab
 rw [k0] at g1
 simp only [Option.some.injEq, Prod.mk.injEq, true_and] at g1
 obtain ⟨rfl, rfl⟩ := g1
 rw [ag] at b2
 rcases b2 with ⟨rfl, a2, aa⟩ | ⟨b, cap, cur, aF, fr, ca, a6, bQ, bT, bc, a8, hQ, hy, kC, kD, kE, hS⟩
 ·simp at aa; exact .inl ⟨rfl, _, aa⟩
 ·simp at a6
  exact .inr ⟨b, cap, cur, aF, fr, a6, bT, bc, a8, hQ, hy, kC, ca, kD, fun c af => bg _ (kE c af), bg _ bQ⟩
theorem v_ (h : aZ w0 F0 X F S s ak w) {v : Value} {y : Nat} {q : List Nat} (aA : ar w F s ak (.h y q) v (fun _ => False)) {d : j} (ab : j.sub q (s y) = some (.bn d)) :
  ∃ b cur e fr, v = .pointer (some ⟨b, 0, none⟩) ∧ w.heap[b]? = some (.cells cur e fr) := by
 rw [ar] at aA
 obtain ⟨bH, a, g1, g2, g3⟩ := aA _ ab rfl
 have R : Value.dF v = true := g3
 rw [dM R] at g2; subst g2
 have aj := h.cb y
 rw [ar.bt (eT ab (.inl rfl))] at aj
 obtain ⟨di, bK, cG, dV, k0, ba, bg, cy, b2, cM⟩ := ctx q (s y) (bj (ak y)) (S y) none _ aj.2 ab
 rw [k0] at g1
 simp only [Option.some.injEq, Prod.mk.injEq, true_and] at g1
 obtain ⟨rfl, rfl⟩ := g1
 rw [ag] at b2
 obtain ⟨b, cur, aF, fr, ca, a6, bQ, bT, _⟩ := b2
 simp at a6
 exact ⟨b, cur, aF, fr, a6, bT⟩
theorem wa {P : Program} {T e : TypeId} (aG : P.underlying T = some (.slice e)) (w : World) : ∀ d, (Op.equalIn (d + 1) T (.slice none 0 0) (.slice none 0 0)).run P w = .ok true w ∧
  ∀ a n c, (Op.equalIn (d + 1) T (.slice (some a) n c) (.slice none 0 0)).run P w = .ok false w := by
 intro d
 refine ⟨by simp [Op.equalIn, run_underlying aG], fun a n c => by simp [Op.equalIn, run_underlying aG]⟩
theorem wb {P : Program} {T e : TypeId} (aG : P.underlying T = some (.pointer e)) (w : World) : ∀ d, (Op.equalIn (d + 1) T (.pointer none) (.pointer none)).run P w = .ok true w ∧
  ∀ a, (Op.equalIn (d + 1) T (.pointer (some a)) (.pointer none)).run P w = .ok false w := by
 intro d
 refine ⟨by simp [Op.equalIn, run_underlying aG], fun a => by simp [Op.equalIn, run_underlying aG]⟩
theorem wc {P : Program} {T : TypeId} (aG : P.underlying T = some .bool) (w : World) : ∀ d a b, (Op.equalIn (d + 1) T (.bool a) (.bool b)).run P w = .ok (a == b) w := by
 intro d a b
 simp [Op.equalIn, run_underlying aG]
theorem we (h : aZ w0 F0 X F S s ak w) {x : j} {v : Value} (aA : ar w F s ak x v (fun _ => False)) {T e : TypeId} {r : Option Bool} (aB : gR s x = some r) (aG : C.P.underlying T = some (.slice e)) :
  ∃ b, (Op.equal T v (.slice none 0 0)).run C.P w = .ok b w ∧ (∀ c9, r = some c9 → c9 = b) ∧ Value.dF v = true ∧ ∃ a n c, v = .slice a n c := by
 have aC := fun a n c => (wa aG w 9999).2 a n c
 have ev := (wa aG w 9999).1
 cases x with
 | bB =>
   have := kB aA; subst this
   simp [gR] at aB; subst aB
   exact ⟨true, ev, by simp, rfl, _, _, _, rfl⟩
 | slice xs =>
   have aS := (ar.bt rfl).1 aA
   rw [ag, dM aS.1] at aS
   simp only [gR, Option.some.injEq] at aB
   obtain ⟨_, ⟨rfl, a, c, aa, _, mh⟩ | ⟨b, o, cap, cu, sz, aa, aw⟩⟩ := aS
   ·simp at aa aB; subst aa; subst aB
    cases a with
    | none =>
      have := mh rfl; subst this
      exact ⟨true, ev, by simp, rfl, _, _, _, rfl⟩
    | some a => exact ⟨false, aC _ _ _, by simp, rfl, _, _, _, rfl⟩
   ·simp at aa; subst aa
    refine ⟨false, aC _ _ _, ?_, rfl, _, _, _, rfl⟩
    subst aB
    split <;> simp
 | h y q =>
   simp only [gR] at aB
   split at aB
   ·rename_i sz xs ab
    simp only [Option.some.injEq] at aB
    rcases s3 h aA ab with ⟨rfl, a, rfl⟩ | ⟨b, cap, cur, aF, fr, rfl, _⟩
    ·simp at aB; subst aB
     cases a with
     | none => exact ⟨true, ev, by simp, rfl, _, _, _, rfl⟩
     | some a => exact ⟨false, aC _ _ _, by simp, rfl, _, _, _, rfl⟩
    ·refine ⟨false, aC _ _ _, ?_, rfl, _, _, _, rfl⟩
     subst aB
     split <;> simp
   ·cases aB
 | _ => simp [gR] at aB
theorem wg (h : aZ w0 F0 X F S s ak w) {x : j} {v : Value} (aA : ar w F s ak x v (fun _ => False)) {T e : TypeId} {r : Bool} (aB : gS s x = some r) (aG : C.P.underlying T = some (.pointer e)) :
  (Op.equal T v (.pointer none)).run C.P w = .ok r w ∧ ∃ a, v = .pointer a := by
 have aC := fun a => (wb aG w 9999).2 a
 have ev := (wb aG w 9999).1
 cases x with
 | b7 =>
   have := v7 aA; subst this
   simp [gS] at aB; subst aB
   exact ⟨ev, _, rfl⟩
 | ref d =>
   have aS := (ar.bt rfl).1 aA
   rw [ag, dM aS.1] at aS
   simp [gS] at aB; subst aB
   obtain ⟨_, b, o, cu, aa, _⟩ := aS
   simp at aa; subst aa
   exact ⟨aC _, _, rfl⟩
 | h y q =>
   simp only [gS] at aB
   split at aB
   ·rename_i d ab
    simp only [Option.some.injEq] at aB; subst aB
    obtain ⟨b, cur, e, fr, rfl, _⟩ := v_ h aA ab
    exact ⟨aC _, _, rfl⟩
   ·cases aB
 | _ => simp [gS] at aB
theorem A5 (aJ : C.cP) : ∀ (ad : List (TypeId × Nat)) (gs : List Field) (n : Nat) (ds es : List j) (r : Bool) (fy l2 br bC : List Value) (xs bF : Array Value) (a_ ca : Nat → Prop),
  gs.map (fun g => (g.type, g.offset)) = ad → (gs.all fun f => decide (f.name ≠ "_")) = true → iL C ad n ds es = some r → aD w F ds br a_ → aD w F es bC ca → xs.toList = fy ++ br → fy.length = n → bF.toList = l2 ++ bC → l2.length = n →
  ∀ m, (Op.eqFields (m + 1) xs bF gs).run C.P w = .ok r w := by
 intro ad
 induction ad with
 | nil =>
   intro gs n ds es r fy l2 br bC xs bF a_ ca aN aL he U aa aj aI aY s4 m
   have : gs = [] := by simpa using aN
   subst this
   cases ds <;> cases es <;> simp [iL] at he
   subst he
   simp [Op.eqFields]
 | cons p ad ih =>
   obtain ⟨fF, off⟩ := p
   intro gs n ds es r fy l2 br bC xs bF a_ ca aN aL he U aa aj aI aY s4 m
   cases gs with
   | nil => simp at aN
   | cons g gs =>
     simp only [List.map_cons, List.cons.injEq, Prod.mk.injEq] at aN
     obtain ⟨⟨rfl, rfl⟩, aN⟩ := aN
     simp only [List.all_cons, Bool.and_eq_true, decide_eq_true_eq] at aL
     cases ds with
     | nil => simp [iL] at he
     | cons d ds =>
     cases es with
     | nil => simp [iL] at he
     | cons e es =>
     simp only [iL] at he
     split at he
     ·rename_i jY
      rw [aD] at U aa
      obtain ⟨bh, a2, qY, A6, rfl, dq, eb, eN, wh, dj⟩ := U
      obtain ⟨hz, fs, Lt, A7, rfl, eP, ee, gh, fG, lj⟩ := aa
      have step : ∀ (x y : Value) (z : Bool), (C.T g.type).flat = true → bh = [x] → hz = [y] → (∀ m, (Op.equalIn (m + 1) g.type x y).run C.P w = .ok z w) → ∀ gi, iL C ad (n + 1) ds es = some gi →
        (Op.eqFields (m + 1) xs bF (g :: gs)).run C.P w = .ok (z && gi) w := by
       intro x y z fo A8 A9 heq gi cD
       subst A8; subst A9
       have A_ : xs[g.offset]? = some x := by
        rw [← Array.getElem?_toList, aj, jY, ← aI, List.getElem?_append_right (Nat.le_refl _)]; simp
       have Ba : bF[g.offset]? = some y := by
        rw [← Array.getElem?_toList, aY, jY, ← s4, List.getElem?_append_right (Nat.le_refl _)]; simp
       have ax := ih gs (n + 1) ds es gi (fy ++ [x]) (l2 ++ [y]) a2 fs xs bF A6 A7 aN aL.2 cD eb ee (by rw [aj]; simp) (by simp [aI]) (by rw [aY]; simp) (by simp [s4]) m
       unfold Op.eqFields
       rw [if_pos aL.1]
       simp only [part, Sem.run_bind, sW aJ fo, Result.andThen_ok, Bool.false_eq_true, if_false, A_, Ba, Sem.run_pure, heq]
       cases z
       ·simp
       ·simpa using ax
      split at he
      ·rename_i k ba a bg b ai
       split at he
       ·rename_i Bb
        obtain ⟨rfl, rfl⟩ := Bb
        rw [ag] at dq eP
        simp only [Option.map_eq_some_iff] at he
        obtain ⟨gi, cD, rfl⟩ := he
        obtain ⟨i, pk, wi, aC, aF, a6, bQ, bT, bc, a8⟩ := aJ.info (dr ai (by simp))
        rw [ai] at a8
        have mi := pc a8
        subst mi
        exact step _ _ _ (by simp [dB.flat, ai]) dq eP (fun m => run_equalIn_int w m g.type _ _ a b bc) gi cD
       ·cases he
      ·rename_i a b ai
       rw [ag] at dq eP
       simp only [Option.map_eq_some_iff] at he
       obtain ⟨gi, cD, rfl⟩ := he
       obtain ⟨i, pk, wi, aC, aF, a6, bQ, bT, bc, a8⟩ := aJ.info (dr ai (by simp))
       rw [ai] at a8
       have mi := sR a8
       subst mi
       exact step _ _ _ (by simp [dB.flat, ai]) dq eP (fun m => run_equalIn_bool' w m g.type a b bc) gi cD
      ·rename_i a b ai
       rw [ag] at dq eP
       simp only [Option.map_eq_some_iff] at he
       obtain ⟨gi, cD, rfl⟩ := he
       obtain ⟨i, pk, wi, aC, aF, a6, bQ, bT, bc, a8⟩ := aJ.info (dr ai (by simp))
       rw [ai] at a8
       have mi := kx a8
       subst mi
       refine step _ _ (a == b) (by simp [dB.flat, ai]) dq eP (fun m => ?_) gi cD
       rw [run_equalIn_string w m g.type _ _ bc, pj, pj]
      ·cases he
     ·cases he
theorem wj (aJ : C.cP) {T : TypeId} {ad : List (TypeId × Nat)} (ai : (C.T T).k = .struct ad) {ds es : List j} {fq e1 : Value} {a_ ca : Nat → Prop} {r : Bool} (aj : ar w F s ak (.agg ds) fq a_) (aY : ar w F s ak (.agg es) e1 ca)
  (bR : structEq C.P T = true) (he : iL C ad 0 ds es = some r) (op : BinOp) (pn po : Operand) :
  (eqGuard op T pn po fq e1).run C.P w = .ok () w ∧ (Op.equal T fq e1).run C.P w = .ok r w := by
 obtain ⟨i, d, z, aC, aF, a6, bQ, bT, bc, a8⟩ := aJ.info (dr ai (by simp))
 rw [ai] at a8
 obtain ⟨gs, rfl, hQ⟩ := pb a8
 have pq : C.P.fieldsOf T = gs := by simp [Program.fieldsOf, bc]
 simp only [structEq, Bool.and_eq_true, Bool.not_eq_true', pq] at bR
 obtain ⟨⟨eP, ee⟩, gh⟩ := bR
 obtain ⟨⟨xs, rfl⟩, np⟩ := (ar.bt rfl).1 aj
 obtain ⟨⟨bF, rfl⟩, l8⟩ := (ar.bt rfl).1 aY
 rw [ag] at np l8
 constructor
 ·cases op <;> simp [eqGuard, ee]
 ·show (Op.equalIn (9999 + 1) T _ _).run C.P w = _
  rw [run_equalIn_struct w 9999 T xs bF (by rw [pq]; exact bc) eP, pq]
  exact A5 aJ ad gs.toList 0 ds es r [] [] _ _ xs bF a_ ca hQ gh he np l8 rfl rfl rfl rfl 9998
theorem Bc (aJ : C.cP) (h : aZ w0 F0 X F S s ak w) {op : BinOp} {T : TypeId} {x y : j} {fq e1 : Value} (pn po : Operand) (aj : ar w F s ak x fq (fun _ => False)) (aY : ar w F s ak y e1 (fun _ => False))
  (he : bW C s op T x y = some av) : Good C w0 F0 X ak w (do eqGuard op T pn po fq e1; binOp op T fq e1) av s := by
 unfold bW at he
 split at he
 ·have := kA aj; subst this
  have := kA aY; subst this
  obtain ⟨v, U, aa⟩ := A2 (P := C.P) (T := T) he w
  refine Good.same h (v := v) ?_ ?_ aa
  ·rw [eqGuard_at_int]; exact U
  ·revert he; unfold eO; cases op <;> simp only <;> split <;> simp <;> (rintro rfl; rfl)
 ·have := js aj; subst this
  have := js aY; subst this
  obtain ⟨v, U, aa⟩ := A4 (P := C.P) (T := T) he w
  refine Good.same h (v := v) ?_ ?_ aa
  ·rw [eqGuard_at_string]; exact U
  ·revert he; unfold ie; cases op <;> simp only <;> (try split) <;> simp <;> (try (rintro rfl; rfl))
 ·have := mg aj; subst this
  have := mg aY; subst this
  split at he
  ·rename_i ai
   simp only [Option.some.injEq] at he; subst he
   obtain ⟨i, d, z, aC, aF, a6, bQ, bT, bc, a8⟩ := aJ.info (dr ai (by simp))
   rw [ai] at a8
   have := sR a8; subst this
   refine Good.same h ?_ rfl (of_bool _)
   rw [eqGuard_at_bool]
   simp [binOp, Op.equal, Op.maxDepth, wc bc w 9999]
  ·rename_i ai
   simp only [Option.some.injEq] at he; subst he
   obtain ⟨i, d, z, aC, aF, a6, bQ, bT, bc, a8⟩ := aJ.info (dr ai (by simp))
   rw [ai] at a8
   have := sR a8; subst this
   refine Good.same h ?_ rfl (of_bool _)
   rw [eqGuard_at_bool]
   simp [binOp, Op.equal, Op.maxDepth, wc bc w 9999]
  ·cases he
 ·split at he
  ·rename_i ad ai
   split at he
   ·rename_i bR
    simp only [Option.map_eq_some_iff] at he
    obtain ⟨r, aB, rfl⟩ := he
    obtain ⟨g1, g2⟩ := wj aJ ai aj aY bR aB .eql pn po
    obtain ⟨⟨xs, rfl⟩, _⟩ := (ar.bt rfl).1 aj
    obtain ⟨⟨bF, rfl⟩, _⟩ := (ar.bt rfl).1 aY
    exact Good.same h (by simp [g1, binOp, g2]) rfl (of_bool _)
   ·cases he
  ·rename_i ad ai
   split at he
   ·rename_i bR
    simp only [Option.map_eq_some_iff] at he
    obtain ⟨r, aB, rfl⟩ := he
    obtain ⟨g1, g2⟩ := wj aJ ai aj aY bR aB .neq pn po
    obtain ⟨⟨xs, rfl⟩, _⟩ := (ar.bt rfl).1 aj
    obtain ⟨⟨bF, rfl⟩, _⟩ := (ar.bt rfl).1 aY
    exact Good.same h (by simp [g1, binOp, g2]) rfl (of_bool _)
   ·cases he
  ·cases he
 ·have := kB aY; subst this
  split at he
  ·rename_i e ai
   simp only [Option.map_eq_some_iff] at he
   obtain ⟨r, aB, rfl⟩ := he
   obtain ⟨i, d, z, aC, aF, a6, bQ, bT, bc, a8⟩ := aJ.info (dr ai (by simp))
   rw [ai] at a8
   have := gP a8; subst this
   obtain ⟨b, U, aa, aw, a0, e3, iF, rfl⟩ := we h aj aB bc
   refine Good.same h (v := .bool b) ?_ ?_ ?_
   ·rw [eqGuard_at_slice]
    simp [binOp, U]
   ·cases r <;> rfl
   ·cases r with
    | none => exact s0 b
    | some c9 => have := aa c9 rfl; subst this; simp only [ph, Bool.bne_false]; exact of_bool _
  ·rename_i e ai
   simp only [Option.map_eq_some_iff] at he
   obtain ⟨r, aB, rfl⟩ := he
   obtain ⟨i, d, z, aC, aF, a6, bQ, bT, bc, a8⟩ := aJ.info (dr ai (by simp))
   rw [ai] at a8
   have := gP a8; subst this
   obtain ⟨b, U, aa, aw, a0, e3, iF, rfl⟩ := we h aj aB bc
   refine Good.same h (v := .bool !b) ?_ ?_ ?_
   ·rw [eqGuard_at_slice]
    simp [binOp, U]
   ·cases r <;> rfl
   ·cases r with
    | none => exact s0 _
    | some c9 => have := aa c9 rfl; subst this; simp only [ph, Bool.bne_true]; exact of_bool _
  ·cases he
 ·have := v7 aY; subst this
  split at he
  ·rename_i e ai
   simp only [Option.map_eq_some_iff] at he
   obtain ⟨r, aB, rfl⟩ := he
   obtain ⟨i, d, z, aC, aF, a6, bQ, bT, bc, a8⟩ := aJ.info (dr ai (by simp))
   rw [ai] at a8
   have := vR a8; subst this
   obtain ⟨U, a0, rfl⟩ := wg h aj aB bc
   refine Good.same h (v := .bool r) ?_ rfl (of_bool _)
   rw [eqGuard_at_pointer]
   simp [binOp, U]
  ·rename_i e ai
   simp only [Option.map_eq_some_iff] at he
   obtain ⟨r, aB, rfl⟩ := he
   obtain ⟨i, d, z, aC, aF, a6, bQ, bT, bc, a8⟩ := aJ.info (dr ai (by simp))
   rw [ai] at a8
   have := vR a8; subst this
   obtain ⟨U, a0, rfl⟩ := wg h aj aB bc
   refine Good.same h (v := .bool !r) ?_ rfl (of_bool _)
   rw [eqGuard_at_pointer]
   simp [binOp, U]
  ·cases he
 ·cases he
end
section
variable {C : bl} {w0 w : World} {F0 X F : Nat → Prop} {S : Nat → Nat → Prop} {s s1 : ae} {ak : Nat → Value} {av : j}
def un (op : UnOp) (x : j) : Option j :=
 match op, x with
 | .not, .bool b => some (.bool !b)
 | .not, .cO => some .cO
 | .neg, .int k n => some (.int k (k.wrap (0 - n)))
 | _, _ => none
theorem Bd (h : aZ w0 F0 X F S s ak w) {op : UnOp} {x : j} {v : Value} (aA : ar w F s ak x v (fun _ => False)) (he : un op x = some av) : Good C w0 F0 X ak w (Op.unary op v) av s := by
 unfold un at he
 split at he <;> first | (cases he; done) | (simp only [Option.some.injEq] at he; subst he)
 ·have := mg aA; subst this
  exact Good.same h rfl rfl (of_bool _)
 ·obtain ⟨b, rfl⟩ := v8 aA
  exact Good.same h rfl rfl (s0 _)
 ·have := kA aA; subst this
  exact Good.same h rfl rfl (of_int _ _)
def dN (s : ae) (x : j) : Option j :=
 match x with
 | .ref d => some (.ref d)
 | .fn f c => some (.fn f c)
 | .h y q => match j.sub q (s y) with
   | some (.bn _) => some (.h y q)
   | _ => none
 | _ => none
theorem Be {d : j} {v : Value} {az : Nat → Prop} (h : ar w F s ak (.ref d) v az) : ∃ b o cu, v = .pointer (some ⟨b, o, none⟩) ∧ F b ∧ eA w b o cu ∧ ag w F d cu (fun _ => False) := by
 have aS := (ar.bt rfl).1 h
 rw [ag, dM aS.1] at aS
 obtain ⟨_, b, o, cu, U, aa, aw, aH⟩ := aS
 simp at U; subst U
 exact ⟨b, o, cu, rfl, aa, aw, aH⟩
theorem Bf (h : aZ w0 F0 X F S s ak w) {x : j} {v : Value} (aA : ar w F s ak x v (fun _ => False)) (he : dN s x = some av) :
  av = x ∧ x.plain = true ∧ ((∃ a, v = .pointer (some a)) ∨ ∃ f c, v = .func (.func f) #[] c) := by
 unfold dN at he
 split at he
 ·simp only [Option.some.injEq] at he; subst he
  obtain ⟨b, o, cu, rfl, _⟩ := Be aA
  exact ⟨rfl, rfl, .inl ⟨_, rfl⟩⟩
 ·simp only [Option.some.injEq] at he; subst he
  rw [ar] at aA
  obtain ⟨arr, rfl, _⟩ := aA
  exact ⟨rfl, rfl, .inr ⟨_, _, rfl⟩⟩
 ·split at he
  ·rename_i d ab
   simp only [Option.some.injEq] at he; subst he
   obtain ⟨b, cur, e, fr, rfl, _⟩ := v_ h aA ab
   exact ⟨rfl, rfl, .inl ⟨_, rfl⟩⟩
  ·cases he
 ·cases he
def ex (s : ae) (x : j) (k : Nat) : Option j :=
 match x with
 | .tuple ds => match ds[k]? with
   | some d => if d.plain = true then some d else none
   | none => none
 | .h y q => match j.sub q (s y) with
   | some (.tuple ds) => match ds[k]? with
     | some d => if j.dd ds = true then none else some (if d.plain then d else .h y (q ++ [k]))
     | none => none
   | _ => none
 | _ => none
theorem wk : ∀ (vs : List Value) (k : Nat) (x : Value) (ds : List j), vs[k]? = some x → vs.length = ds.length → (∀ (ay : Nat) (d : j) (y : Value), ds[ay]? = some d → vs[ay]? = some y → (eS y).length = d.wd) →
  ∃ l r, vs.flatMap eS = l ++ (eS x ++ r) ∧ l.length = j.cn (ds.take k)
 | [], k, x, ds, h, _, _ => by simp at h
 | v :: vs, 0, x, ds, h, aI, hw => by
   simp at h; subst h
   exact ⟨[], vs.flatMap eS, by simp, by simp [j.cn]⟩
 | v :: vs, k + 1, x, d :: ds, h, aI, hw => by
   obtain ⟨l, r, aC, aF⟩ := wk vs k x ds (by simpa using h) (by simpa using aI) (fun ay d y U aa => hw (ay + 1) d y (by simpa using U) (by simpa using aa))
   refine ⟨eS v ++ l, r, by simp [aC], ?_⟩
   have := hw 0 d v (by simp) (by simp)
   simp [j.cn, aF, this]
 | v :: vs, k + 1, x, [], h, aI, hw => by simp at aI
theorem Bg {d : j} {v : Value} (h : eY d v) (_hd : ∀ vs, d ≠ .tuple vs) : bj v = eS v := by
 cases d with
 | agg ad => obtain ⟨arr, rfl⟩ := h; rfl
 | _ =>
   have U : Value.dF v = true := h
   cases v <;> first | rfl | (simp [Value.dF] at U)
theorem Bh {d : j} {v : Value} (h : eY d v) (ab : ∀ vs, d ≠ .tuple vs) : cp d v := by
 cases d with
 | tuple vs => exact (ab _ rfl).elim
 | _ => exact h
theorem Bi (h : aZ w0 F0 X F S s ak w) {x : j} {v : Value} {k : Nat} (aA : ar w F s ak x v (fun _ => False)) (he : ex s x k = some av) : Good C w0 F0 X ak w (Instr.extract v k) av s := by
 have pick : ∀ (ds : List j) (d : j) (arr : Array Value), ds[k]? = some d → (arr.size = ds.length ∧ ∀ (k : Nat) (d : j) (x : Value), ds[k]? = some d → arr[k]? = some x → eY d x ∧ (∀ vs, d ≠ .tuple vs) ∧ (eS x).length = d.wd) →
   ∃ x, arr[k]? = some x ∧ cp d x ∧ ((bj (.tuple arr)).drop (j.cn (ds.take k))).take d.wd = bj x := by
  intro ds d arr ab ⟨a1, iG⟩
  have cx : k < arr.size := by rw [a1]; exact (List.getElem?_eq_some_iff.1 ab).1
  have aj : arr[k]? = some arr[k] := Array.getElem?_eq_getElem cx
  obtain ⟨g1, g2, g3⟩ := iG k d _ ab aj
  obtain ⟨l, r, aC, aF⟩ := wk arr.toList k arr[k] ds (by simp [cx]) (by simpa using a1) (fun ay d y U aa => (iG ay d y U (by simpa using aa)).2.2)
  refine ⟨_, aj, Bh g1 g2, ?_⟩
  rw [Bg g1 g2]
  simp only [bj]
  rw [aC]
  exact l3 l _ r _ _ aF g3
 unfold ex at he
 split at he
 ·rename_i ds
  split at he
  ·rename_i d ab
   split at he
   ·rename_i al
    simp only [Option.some.injEq] at he; subst he
    have aS := (ar.bt rfl).1 aA
    obtain ⟨⟨arr, rfl, a1⟩, el⟩ := aS
    obtain ⟨x, aj, R, af⟩ := pick ds d arr ab a1
    have aB : (Instr.extract (.tuple arr) k).run C.P w = .ok x w := by simp [Instr.extract, aj]
    rw [ag] at el
    obtain ⟨br, dc, bC, a_, eC, e, eu, dq, eb, eN, dj, hs⟩ := aD.pick ds _ _ k d el ab
    rw [e, l3 br dc bC _ _ eu (ag.length _ _ _ dj)] at af
    by_cases aG : d.tree = true
    ·exact Good.same h aB al ((ar.bt aG).2 ⟨R, by rw [← af]; exact ag.plain _ _ _ _ al dj⟩)
    ·cases d <;> first | exact (aG rfl).elim | (rw [ag] at dj; exact dj.elim) | exact Good.same h aB rfl (by rw [ar]; trivial) | (have aX := ag.plain _ _ _ (fun _ => False) al dj; rw [af, dM (by exact R)] at aX; exact Good.same h aB rfl (ar.jZ _ _ rfl aX))
   ·cases he
  ·cases he
 ·rename_i y q
  split at he
  ·rename_i ds ab
   split at he
   ·rename_i d ai
    split at he
    ·cases he
    ·rename_i ej
     simp only [Option.some.injEq] at he
     have ej : (j.tuple ds).plain = false := by simpa [j.plain] using ej
     rw [ar] at aA
     obtain ⟨bH, a, g1, g2, g3⟩ := aA _ ab ej
     obtain ⟨arr, rfl, a1⟩ := g3
     obtain ⟨x, aj, R, af⟩ := pick ds d arr ai a1
     have aB : (Instr.extract (.tuple arr) k).run C.P w = .ok x w := by simp [Instr.extract, aj]
     have aY := h.cb y
     rw [ar.bt (eT ab (.inl ej))] at aY
     obtain ⟨di, bK, cG, dV, k0, ba, bg, cy, b2, cM⟩ := ctx q (s y) (bj (ak y)) (S y) none _ aY.2 ab
     rw [k0] at g1
     simp only [Option.some.injEq, Prod.mk.injEq, true_and] at g1
     obtain ⟨rfl, rfl⟩ := g1
     rw [g2] at af
     split at he
     ·rename_i al
      subst he
      rw [ag] at b2
      obtain ⟨br, dc, bC, a_, eC, e, eu, dq, eb, eN, dj, hs⟩ := aD.pick ds _ _ k d b2 ai
      rw [e, l3 br dc bC _ _ eu (ag.length _ _ _ dj)] at af
      by_cases aG : d.tree = true
      ·exact Good.same h aB al ((ar.bt aG).2 ⟨R, by rw [← af]; exact ag.plain _ _ _ _ al dj⟩)
      ·cases d <;> first | exact (aG rfl).elim | (rw [ag] at dj; exact dj.elim) | exact Good.same h aB rfl (by rw [ar]; trivial) | (have aX := ag.plain _ _ _ (fun _ => False) al dj; rw [af, dM (by exact R)] at aX; exact Good.same h aB rfl (ar.jZ _ _ rfl aX))
     ·subst he
      refine Good.same h aB rfl ?_
      rw [ar]
      intro d2 e0 sO
      rw [pa w q _ _ _ _ _ _ [k] k0]
      rw [o_ _ _ _ _ ab] at e0
      simp only [j.sub, ai, Option.some.injEq] at e0
      subst e0
      simp only [bU, ai]
      exact ⟨_, _, rfl, af.symm, R⟩
   ·cases he
  ·cases he
 ·cases he
def hA (C : bl) (s : ae) (T : TypeId) (x : j) (k : Nat) : Option j :=
 match (C.T T).k with
 | .struct ad => match ad[k]? with
   | some (fF, off) => match x with
     | .agg ds => match ds[k]? with
       | some d => if j.cn (ds.take k) = off ∧ fits C fF d = true ∧ d.plain = true ∧ d.tree = true then some d else none
       | none => none
     | .h y q => match j.sub q (s y) with
       | some (.agg ds) => match ds[k]? with
         | some d => if j.cn (ds.take k) = off ∧ fits C fF d = true ∧ j.dd ds = false ∧ d.tree = true then some (if d.plain then d else .h y (q ++ [k])) else none
         | none => none
       | _ => none
     | _ => none
   | none => none
 | _ => none
theorem Bj (aJ : C.cP) (h : aZ w0 F0 X F S s ak w) {T : TypeId} {x : j} {v : Value} {k : Nat} (aA : ar w F s ak x v (fun _ => False)) (he : hA C s T x k = some av) : Good C w0 F0 X ak w (Instr.field T v k) av s := by
 have key : ∀ (ad : List (TypeId × Nat)) (fF : TypeId) (off : Nat), (C.T T).k = .struct ad → ad[k]? = some (fF, off) → ∀ (ds : List j) (d : j) (arr : Array Value) (az : Nat → Prop), ds[k]? = some d → j.cn (ds.take k) = off → fits C fF d = true → aD w F ds arr.toList az →
   ∃ x eC, (Instr.field T (.agg arr) k).run C.P w = .ok x w ∧ cp d x ∧ ag w F d (bj x) eC ∧ (arr.toList.drop off).take d.wd = bj x := by
  intro ad fF off ai bb ds d arr az ab jY eH el
  obtain ⟨i, pk, z, aC, aF, a6, bQ, bT, bc, a8⟩ := aJ.info (dr ai (by simp))
  rw [ai] at a8
  obtain ⟨gs, rfl, hQ⟩ := pb a8
  obtain ⟨g, g1, rfl, rfl⟩ : ∃ g, gs[k]? = some g ∧ g.type = fF ∧ g.offset = off := by
   rw [← hQ, List.getElem?_map] at bb
   simp only [Option.map_eq_some_iff, Prod.mk.injEq] at bb
   obtain ⟨g, U, aa, aw⟩ := bb
   exact ⟨g, by simpa using U, aa, aw⟩
  obtain ⟨br, dc, bC, a_, eC, e, eu, dq, eb, eN, dj, hs⟩ := aD.pick ds _ _ k d el ab
  obtain ⟨x, aB, wm, iJ⟩ := AQ (w := w) aJ e (eu.trans jY) dj eH
  refine ⟨x, eC, ?_, iJ, by rw [wm]; exact dj, ?_⟩
  ·simp [Instr.field, run_underlying bc, g1, asAgg, aB]
  ·rw [e, wm, ← jY]; exact l3 br dc bC _ _ eu (ag.length _ _ _ dj)
 have wo : ∀ (d : j) (x : Value) (eC : Nat → Prop), d.plain = true → cp d x → ag w F d (bj x) eC → ar w F s ak d x (fun _ => False) := by
  intro d x eC al R el
  by_cases aG : d.tree = true
  ·exact (ar.bt aG).2 ⟨R, ag.plain _ _ _ _ al el⟩
  ·cases d <;> first | exact (aG rfl).elim | (rw [ag] at el; exact el.elim) | (rw [ar]; trivial) | (have aX := ag.plain _ _ _ (fun _ => False) al el; rw [dM (by exact R)] at aX; exact ar.jZ _ _ rfl aX)
 unfold hA at he
 split at he
 ·rename_i ad ai
  split at he
  ·rename_i fF off bb
   split at he
   ·rename_i ds
    split at he
    ·rename_i d ab
     split at he
     ·rename_i af
      simp only [Option.some.injEq] at he; subst he
      obtain ⟨⟨arr, rfl⟩, el⟩ := (ar.bt rfl).1 aA
      rw [ag] at el
      obtain ⟨x, eC, aB, R, s5, _⟩ := key ad fF off ai bb ds d arr _ ab af.1 af.2.1 el
      exact Good.same h aB af.2.2.1 (wo d x eC af.2.2.1 R s5)
     ·cases he
    ·cases he
   ·rename_i y q
    split at he
    ·rename_i ds ab
     split at he
     ·rename_i d lg
      split at he
      ·rename_i af
       simp only [Option.some.injEq] at he
       have ej : (j.agg ds).plain = false := by simpa [j.plain] using af.2.2.1
       rw [ar] at aA
       obtain ⟨bH, a, g1, g2, g3⟩ := aA _ ab ej
       obtain ⟨arr, rfl⟩ := g3
       have aY := h.cb y
       rw [ar.bt (eT ab (.inl ej))] at aY
       obtain ⟨di, bK, cG, dV, k0, ba, bg, cy, b2, cM⟩ := ctx q (s y) (bj (ak y)) (S y) none _ aY.2 ab
       rw [k0] at g1
       simp only [Option.some.injEq, Prod.mk.injEq, true_and] at g1
       obtain ⟨rfl, rfl⟩ := g1
       rw [ag, ← g2] at b2
       obtain ⟨x, eC, aB, R, s5, fp⟩ := key ad fF off ai bb ds d arr _ lg af.1 af.2.1 b2
       by_cases al : d.plain = true
       ·rw [if_pos al] at he; subst he
        exact Good.same h aB al (wo d x eC al R s5)
       ·rw [if_neg al] at he; subst he
        refine Good.same h aB rfl ?_
        rw [ar]
        intro d2 e0 sO
        rw [pa w q _ _ _ _ _ _ [k] k0]
        rw [o_ _ _ _ _ ab] at e0
        simp only [j.sub, lg, Option.some.injEq] at e0
        subst e0
        simp only [bU, lg]
        refine ⟨_, _, rfl, ?_, R⟩
        rw [af.1, ← g2]; exact fp.symm
      ·cases he
     ·cases he
    ·cases he
   ·cases he
  ·cases he
 ·cases he
end
section
variable {C : bl} {w0 w : World} {F0 X F : Nat → Prop} {S : Nat → Nat → Prop} {s s1 : ae} {ak : Nat → Value} {av : j}
def idx (C : bl) (T : TypeId) (x i : j) : Option j :=
 match (C.T T).k, x, i with
 | .str, .str l, .int _ n => if 0 ≤ n then (match l[n.toNat]? with | some b => some (.int .u8 b.toNat) | none => none) else none
 | _, _, _ => none
theorem Bk (l : List UInt8) (n : Nat) : (⟨⟨l⟩⟩ : ByteArray)[n]? = l[n]? := by
 by_cases h : n < l.length
 ·have aS : n < (⟨⟨l⟩⟩ : ByteArray).size := h
  rw [List.getElem?_eq_getElem h, getElem?_pos (⟨⟨l⟩⟩ : ByteArray) n aS]
  rfl
 ·have aS : ¬ n < (⟨⟨l⟩⟩ : ByteArray).size := h
  rw [List.getElem?_eq_none (by omega), getElem?_neg (⟨⟨l⟩⟩ : ByteArray) n aS]
theorem Bl (aJ : C.cP) (h : aZ w0 F0 X F S s ak w) {T : TypeId} {x i : j} {v nn : Value} (aA : ar w F s ak x v (fun _ => False)) (ax : ar w F s ak i nn (fun _ => False)) (he : idx C T x i = some av) :
  Good C w0 F0 X ak w (Instr.index T v nn) av s := by
 unfold idx at he
 split at he
 ·rename_i l k n ai
  have := js aA; subst this
  have := kA ax; subst this
  obtain ⟨i, d, z, aC, aF, a6, bQ, bT, bc, a8⟩ := aJ.info (dr ai (by simp))
  rw [ai] at a8
  have := kx a8; subst this
  split at he
  ·rename_i aL
   split at he
   ·rename_i b J
    simp only [Option.some.injEq] at he; subst he
    refine Good.same h ?_ rfl (of_int _ _)
    simp [Instr.index, asIntOf, run_underlying bc, aL, Bk, J]
   ·cases he
  ·cases he
 ·cases he
def lenOf (s : ae) : j → Option Nat
 | .str l => some l.length
 | .bB => some 0
 | .slice xs => some xs.length
 | .h y q => match j.sub q (s y) with
   | some (.aP _ xs) => some xs.length
   | _ => none
 | _ => none
def hB (C : bl) (s : ae) (T : TypeId) (x : j) : Option j :=
 match (C.T T).k, x with
 | .str, .str l => some (.int .i64 l.length)
 | .slice _, .bB => some (.int .i64 0)
 | .slice _, .slice xs => some (.int .i64 xs.length)
 | .slice _, .h y q => match j.sub q (s y) with
   | some (.aP _ xs) => some (.int .i64 xs.length)
   | _ => none
 | _, _ => none
theorem qZ {xs : List j} {v : Value} {az : Nat → Prop} (h : ar w F s ak (.slice xs) v az) : (xs = [] ∧ ∃ a c, v = .slice a 0 c ∧ c ≤ maxLen ∧ (a = none → c = 0)) ∨
  ∃ b o cap cu sz, v = .slice (some ⟨b, o, none⟩) xs.length cap ∧ F b ∧ xs.length ≤ cap ∧ cap ≤ maxLen ∧ (∀ d ∈ xs, d.wd = sz) ∧ eA w b o cu ∧ aD w F xs cu (fun _ => False) := by
 have aS := (ar.bt rfl).1 h
 rw [ag, dM aS.1] at aS
 obtain ⟨_, ⟨rfl, a, c, aa, aw⟩ | ⟨b, o, cap, cu, sz, aa, aw⟩⟩ := aS
 ·simp at aa; exact .inl ⟨rfl, a, c, aa, aw⟩
 ·simp at aa; exact .inr ⟨b, o, cap, cu, sz, aa, aw⟩
theorem Bm (aJ : C.cP) (h : aZ w0 F0 X F S s ak w) {T ty : TypeId} {x : j} {v : Value} (aA : ar w F s ak x v (fun _ => False)) (he : hB C s T x = some av) :
  Good C w0 F0 X ak w (Builtin.len_ #[T] ty #[v]) av s := by
 unfold hB at he
 split at he
 ·rename_i l ai
  have := js aA; subst this
  obtain ⟨i, d, z, aC, aF, a6, bQ, bT, bc, a8⟩ := aJ.info (dr ai (by simp))
  rw [ai] at a8
  have := kx a8; subst this
  simp only [Option.some.injEq] at he; subst he
  refine Good.same h ?_ rfl (of_int _ _)
  simp [Builtin.len_, run_underlying bc, goInt]
  rfl
 ·rename_i e ai
  have := kB aA; subst this
  obtain ⟨i, d, z, aC, aF, a6, bQ, bT, bc, a8⟩ := aJ.info (dr ai (by simp))
  rw [ai] at a8
  have := gP a8; subst this
  simp only [Option.some.injEq] at he; subst he
  refine Good.same h ?_ rfl (of_int _ _)
  simp [Builtin.len_, run_underlying bc, goInt]
 ·rename_i e xs ai
  obtain ⟨i, d, z, aC, aF, a6, bQ, bT, bc, a8⟩ := aJ.info (dr ai (by simp))
  rw [ai] at a8
  have := gP a8; subst this
  simp only [Option.some.injEq] at he; subst he
  refine Good.same h ?_ rfl (of_int _ _)
  rcases qZ aA with ⟨rfl, a, c, rfl, _⟩ | ⟨b, o, cap, cu, sz, rfl, _⟩ <;> simp [Builtin.len_, run_underlying bc, goInt]
 ·rename_i e y q ai
  split at he
  ·rename_i sz xs ab
   obtain ⟨i, d, z, aC, aF, a6, bQ, bT, bc, a8⟩ := aJ.info (dr ai (by simp))
   rw [ai] at a8
   have := gP a8; subst this
   simp only [Option.some.injEq] at he; subst he
   refine Good.same h ?_ rfl (of_int _ _)
   rcases s3 h aA ab with ⟨rfl, _, rfl⟩ | ⟨b, cap, cur, aF, fr, rfl, _⟩ <;> simp [Builtin.len_, run_underlying bc, goInt]
  ·cases he
 ·cases he
def bytesOf : List j → Option (List UInt8)
 | [] => some []
 | .int .u8 n :: r => if 0 ≤ n ∧ n < 256 then (bytesOf r).map (UInt8.ofNat n.toNat :: ·) else none
 | _ => none
def fH (b : UInt8) : j := .int .u8 b.toNat
theorem Bn (l : List UInt8) : bytesOf (l.map fH) = some l := by
 induction l with
 | nil => rfl
 | cons b l ih =>
   have J : b.toNat < 256 := b.toNat_lt
   simp only [List.map_cons, fH, bytesOf, Int.toNat_natCast]
   rw [if_pos (by omega), ih]
   simp
theorem s6 : ∀ (xs : List j) (l : List UInt8) (cs : List Value) (az : Nat → Prop), bytesOf xs = some l → aD w F xs cs az → cs = l.map (fun b => .int .u8 (b.toNat : Int)) ∧ xs.length = l.length
 | [], l, cs, az, h, aB => by simp [bytesOf] at h; subst h; rw [aD] at aB; subst aB; exact ⟨rfl, rfl⟩
 | x :: xs, l, cs, az, h, aB => by
   unfold bytesOf at h
   split at h
   ·rename_i e; cases e
   ·rename_i n r e
    simp only [List.cons.injEq] at e
    obtain ⟨rfl, rfl⟩ := e
    split at h
    ·rename_i aL
     simp only [Option.map_eq_some_iff] at h
     obtain ⟨cZ, U, rfl⟩ := h
     rw [aD] at aB
     obtain ⟨br, bC, a_, ca, rfl, aa, aw, _⟩ := aB
     obtain ⟨rfl, aH⟩ := s6 xs cZ bC ca U aw
     rw [ag] at aa; subst aa
     refine ⟨?_, by simp [aH]⟩
     simp only [List.map_cons, List.cons_append, List.nil_append, List.cons.injEq, and_true, Value.int.injEq, true_and]
     simp only [UInt8.toNat_ofNat']
     omega
    ·cases h
   ·cases h
theorem aZ.pr (h : aZ w0 F0 X F S s ak w) {an : World} {sz cap : Nat} {xs : List j} {cur : Array Value} {e : TypeId} {fr : Nat × Nat} {Sn : Nat → Prop}
  (hw : an.heap = w.heap.push (.cells cur e fr)) (U : an.os = w.os) (aa : an.tape = w.tape) (aw : an.output = w.output)
  (bb : k_ fr cur.size) (hle : xs.length ≤ cap) (hm : cap ≤ maxLen) (cB : cur.size = cap * sz) (hO : ∀ d ∈ xs, d.wd = sz) (aA : aD w F xs (cur.toList.take (xs.length * sz)) Sn)
  (cx : ∀ b, Sn b → b < w.heap.size) (aK : ∀ b, Sn b → ¬ F b) (aU : ∀ u b, Sn b → ¬ S u b) (bk : ∀ b, Sn b → X b ∨ w0.heap.size ≤ b) :
  aZ w0 F0 X F S s ak an ∧ gO w0 X F S s ak an (.aP sz xs) (.slice (some ⟨w.heap.size, 0, none⟩) xs.length cap) := by
 have hold : ∀ b, b < w.heap.size → an.heap[b]? = w.heap[b]? := by
  intro b J
  rw [hw, Array.getElem?_push, if_neg (by omega)]
 have mj : an.heap.size = w.heap.size + 1 := by rw [hw]; simp
 refine ⟨h.grow hold (by omega) U aa aw, .inr ⟨rfl, rfl, fun b => b = w.heap.size ∨ Sn b, ?_, ?_, ?_, ?_, ?_⟩⟩
 ·simp only [bj, eS]
  rw [ag]
  refine .inr ⟨w.heap.size, cap, cur, e, fr, Sn, rfl, .inl rfl, ?_, bb, hle, hm, cB, hO, ?_, fun c af => .inr af, fun af => Nat.lt_irrefl _ (cx _ af)⟩
  ·rw [hw]; simp
  ·exact aD.frame (fun b J => hold b (h.c6 b J)) _ _ _ (fun b J => hold b (cx b J)) aA
 ·rintro b (rfl | J)
  ·omega
  ·have := cx b J; omega
 ·rintro b (rfl | J) mf
  ·exact Nat.lt_irrefl _ (h.c6 _ mf)
  ·exact aK b J mf
 ·rintro u b (rfl | J) hu
  ·exact Nat.lt_irrefl _ (h.cL _ _ hu)
  ·exact aU u b J hu
 ·rintro b (rfl | J)
  ·exact .inr h.size
  ·exact bk b J
def dg (C : bl) (s : ae) (A B : TypeId) (x : j) : Option j :=
 if (C.T A).ok = true then
 match (C.T B).k, x with
 | .int k, .int _ n => some (.int k (k.wrap n))
 | .str, .str l => match (C.T A).k with
   | .str => some (.str l)
   | _ => none
 | .str, x => match (C.T A).k with
   | .slice e => match (C.T e).k with
     | .int .u8 => match x with
       | .bB => some (.str [])
       | .slice xs => (bytesOf xs).map .str
       | .h y q => match j.sub q (s y) with
         | some (.aP 1 xs) => (bytesOf xs).map .str
         | _ => none
       | _ => none
     | _ => none
   | _ => none
 | .slice e, .str l => match (C.T A).k, (C.T e).k with
   | .str, .int .u8 => if l.length ≤ 9223372036854775807 then some (.aP 1 (l.map fH)) else none
   | _, _ => none
 | _, _ => none
 else none
theorem wq (l : List UInt8) (az : Nat → Prop) : aD w F (l.map fH) (l.map fun b => .int .u8 (b.toNat : Int)) az := by
 induction l generalizing az with
 | nil => simp only [List.map_nil]; rw [aD]
 | cons b l ih =>
   simp only [List.map_cons]
   rw [aD]
   exact ⟨[.int .u8 (b.toNat : Int)], _, fun _ => False, fun _ => False, rfl, by rw [fH, ag], ih _, fun _ h => h.elim, fun _ h => h.elim, fun _ h => h.elim⟩
theorem Bo (aJ : C.cP) (h : aZ w0 F0 X F S s ak w) {A B : TypeId} {x : j} {v : Value} (aA : ar w F s ak x v (fun _ => False)) (he : dg C s A B x = some av) :
  Good C w0 F0 X ak w (convert A B v) av s := by
 unfold dg at he
 split at he
 ·rename_i fb
  obtain ⟨dm, Lu, Lv, bh, a2, a3, a4, a5, j1, j2⟩ := aJ.info fb
  split at he
  ·rename_i k ct n ai
   have := kA aA; subst this
   obtain ⟨i, d, z, aC, aF, a6, bQ, bT, bc, a8⟩ := aJ.info (dr ai (by simp))
   rw [ai] at a8
   have := pc a8; subst this
   simp only [Option.some.injEq] at he; subst he
   refine Good.same h ?_ rfl (of_int _ _)
   simp [convert, run_underlying j1, run_underlying bc, Conv.intToInt]
  ·rename_i l ai
   have := js aA; subst this
   obtain ⟨i, d, z, aC, aF, a6, bQ, bT, bc, a8⟩ := aJ.info (dr ai (by simp))
   rw [ai] at a8
   have := kx a8; subst this
   split at he
   ·rename_i pt
    rw [pt] at j2
    have := kx j2; subst this
    simp only [Option.some.injEq] at he; subst he
    refine Good.same h ?_ rfl (iK _)
    simp [convert, run_underlying j1, run_underlying bc]
   ·cases he
  ·rename_i x ai _
   obtain ⟨i, d, z, aC, aF, a6, bQ, bT, bc, a8⟩ := aJ.info (dr ai (by simp))
   rw [ai] at a8
   have := kx a8; subst this
   split at he
   ·rename_i e pt
    rw [pt] at j2
    have := gP j2; subst this
    split at he
    ·rename_i pv
     obtain ⟨nk, aO, lf, f1, f2, f3, f4, f5, f6, f7⟩ := aJ.info (dr pv (by simp))
     rw [pv] at f7
     have := pc f7; subst this
     have fin : ∀ (l : List UInt8) (b o cap : Nat), eA w b o (l.map fun b => .int .u8 (b.toNat : Int)) → (convert A B (.slice (some ⟨b, o, none⟩) l.length cap)).run C.P w = .ok (.string ⟨⟨l⟩⟩) w := by
      intro l b o cap fN
      refine run_convert_bytes_back w A B e ⟨b, o, none⟩ cap l j1 f6 bc (fun ay bx => ?_)
      rw [Addr.add_lit]
      exact fN ay _ (by simp [bx])
     have nil : (convert A B (.slice none 0 0)).run C.P w = .ok (.string ⟨⟨[]⟩⟩) w := by
      simp [convert, run_underlying j1, run_underlying bc, run_underlying f6, Conv.bytesToString]
      rfl
     split at he
     ·have := kB aA; subst this
      simp only [Option.some.injEq] at he; subst he
      exact Good.same h nil rfl (iK _)
     ·rename_i xs _
      simp only [Option.map_eq_some_iff] at he
      obtain ⟨l, aI, rfl⟩ := he
      rcases qZ aA with ⟨rfl, a, c, rfl, _, mh⟩ | ⟨b, o, cap, cu, sz, rfl, U, aa, aw, aH, aX, bD⟩
      ·simp [bytesOf] at aI; subst aI
       cases a with
       | none =>
         have := mh rfl; subst this
         exact Good.same h nil rfl (iK _)
       | some a =>
         refine Good.same h ?_ rfl (iK _)
         exact run_convert_bytes_back w A B e a c [] j1 f6 bc (fun ay bx => by simp at bx)
      ·obtain ⟨rfl, bI⟩ := s6 xs l cu _ aI bD
       rw [bI]
       exact Good.same h (fin l b o cap aX) rfl (iK _)
     ·rename_i y q
      split at he
      ·rename_i xs ab
       simp only [Option.map_eq_some_iff] at he
       obtain ⟨l, aI, rfl⟩ := he
       rcases s3 h aA ab with ⟨rfl, a, rfl⟩ | ⟨b, cap, cur, aF, fr, rfl, U, aa, aw, aH, aX, bD, az, bI, _⟩
       ·simp [bytesOf] at aI; subst aI
        cases a with
        | none => exact Good.same h nil rfl (iK _)
        | some a =>
          refine Good.same h ?_ rfl (iK _)
          exact run_convert_bytes_back w A B e a 0 [] j1 f6 bc (fun ay bx => by simp at bx)
       ·obtain ⟨c4, eG⟩ := s6 xs l _ _ aI bI
        rw [eG]
        refine Good.same h (fin l b 0 cap ?_) rfl (iK _)
        rw [← c4]
        exact nd U _
      ·cases he
     ·cases he
    ·cases he
   ·cases he
  ·rename_i e l ai
   have := js aA; subst this
   obtain ⟨i, d, z, aC, aF, a6, bQ, bT, bc, a8⟩ := aJ.info (dr ai (by simp))
   rw [ai] at a8
   have := gP a8; subst this
   split at he
   ·rename_i pt pv
    rw [pt] at j2
    have := kx j2; subst this
    obtain ⟨nk, aO, lf, f1, f2, f3, f4, f5, f6, f7⟩ := aJ.info (dr pv (by simp))
    rw [pv] at f7
    have := pc f7; subst this
    split at he
    ·rename_i aI
     simp only [Option.some.injEq] at he; subst he
     have R : (⟨⟨l⟩⟩ : ByteArray).size = l.length := rfl
     have pw := grownCap_ge w l.length 0 e
     have Bp := grownCap_le_maxLen w l.length 0 e (by unfold maxLen; omega)
     have wt : (bytesRow ⟨⟨l⟩⟩ (grownCap w l.length 0 e)).toList = l.map (fun b => Value.int .u8 (b.toNat : Int)) ++ List.replicate (grownCap w l.length 0 e - l.length) (.int .u8 0) := by
      simp [bytesRow, R]
     have cB : (bytesRow ⟨⟨l⟩⟩ (grownCap w l.length 0 e)).size = grownCap w l.length 0 e * 1 := by
      have : (bytesRow ⟨⟨l⟩⟩ (grownCap w l.length 0 e)).size = (bytesRow ⟨⟨l⟩⟩ (grownCap w l.length 0 e)).toList.length := by simp
      rw [this, wt]; simp; omega
     have mc := run_bytes_of_string w A B e ⟨⟨l⟩⟩ j1 bc f6
     rw [R] at mc
     have gz := h.pr (an := w.drew.alloc (.cells (bytesRow ⟨⟨l⟩⟩ (grownCap w l.length 0 e)) e ((bytesRow ⟨⟨l⟩⟩ (grownCap w l.length 0 e)).size, (bytesRow ⟨⟨l⟩⟩ (grownCap w l.length 0 e)).size + 1)))
      (sz := 1) (cap := grownCap w l.length 0 e) (xs := l.map fH) (cur := bytesRow ⟨⟨l⟩⟩ (grownCap w l.length 0 e)) (e := e) (Sn := fun _ => False) rfl rfl rfl rfl
      (fun o bo ⟨U, _⟩ => by simp only at U; omega) (by simpa using pw) Bp cB (by intro d ab; obtain ⟨b, _, rfl⟩ := List.mem_map.1 ab; rfl)
      (by rw [wt, List.take_left' (by simp)]; exact wq l _) (fun _ h => h.elim) (fun _ h => h.elim) (fun _ _ h => h.elim) (fun _ h => h.elim)
     simp only [List.length_map] at gz
     exact ⟨_, _, F, S, mc, gz.1, gz.2⟩
    ·cases he
   ·cases he
  ·cases he
 ·cases he
end
section
variable {C : bl} {w0 w : World} {F0 X F : Nat → Prop} {S : Nat → Nat → Prop} {s s1 : ae} {ak : Nat → Value} {av : j}
def dp (d : Nat) : Option j → Option Nat
 | none => some d
 | some (.int _ n) => if 0 ≤ n then some n.toNat else none
 | some _ => none
def cU (C : bl) (s : ae) (T : TypeId) (x : j) (bV ax : Option j) : Option (j × ae) :=
 match (C.T T).k, x with
 | .str, .str l => match dp 0 bV, dp l.length ax with
   | some a, some b => if a ≤ b ∧ b ≤ l.length then some (.str ((l.take b).drop a), s) else none
   | _, _ => none
 | .slice e, .bB => match dp 0 bV, dp 0 ax with
   | some 0, some 0 => if (C.T e).ok = true then some (.bB, s) else none
   | _, _ => none
 | .slice e, .slice xs => match dp 0 bV, dp xs.length ax with
   | some a, some b => if a ≤ b ∧ b ≤ xs.length ∧ (C.T e).ok = true ∧ (∀ d ∈ xs, d.wd = (C.T e).sz) then some (.slice ((xs.take b).drop a), s) else none
   | _, _ => none
 | .slice e, .h y q => match j.sub q (s y) with
   | some (.aP sz xs) => match dp 0 bV, dp xs.length ax with
     | some 0, some b => if b ≤ xs.length ∧ (C.T e).ok = true then (match bE s (.h y q) with | some (_, s1) => some (.aP sz (xs.take b), s1) | none => none) else none
     | _, _ => none
   | _ => none
 | _, _ => none
def kF (w : World) (F : Nat → Prop) (s : ae) (ak : Nat → Value) : Option j → Option Value → Prop
 | none, none => True
 | some d, some v => ar w F s ak d v (fun _ => False)
 | _, _ => False
theorem wu {d : Nat} {o : Option j} {v : Option Value} (bo : kF w F s ak o v) {a : Nat} (h : dp d o = some a) : (o = none ∧ v = none ∧ a = d) ∨ ∃ k, v = some (.int k a) := by
 cases o with
 | none =>
   cases v with
   | none => simp [dp] at h; exact .inl ⟨rfl, rfl, h.symm⟩
   | some v => simp [kF] at bo
 | some x =>
   cases v with
   | none => simp [kF] at bo
   | some v =>
     simp only [kF] at bo
     cases x with
     | int k n =>
       have := kA bo; subst this
       simp only [dp] at h
       split at h
       ·rename_i aL
        simp only [Option.some.injEq] at h; subst h
        obtain ⟨m, rfl⟩ := Int.eq_ofNat_of_zero_le aL
        exact .inr ⟨k, rfl⟩
       ·cases h
     | _ => simp [dp] at h
theorem nq {P : Program} {isS : Bool} {len cap a b : Nat} {bV ax : Option j} {ml mm : Option Value} (iM : kF w F s ak bV ml) (iN : kF w F s ak ax mm) (bs : dp 0 bV = some a) (J : dp len ax = some b) (hr : a ≤ b) (Bq : b ≤ cap) (_hlc : len ≤ cap) :
  (Instr.sliceBounds isS len cap ml mm none).run P w = .ok (a, b, cap) w := by
 rcases wu iM bs with ⟨_, rfl, rfl⟩ | ⟨k, rfl⟩ <;> rcases wu iN J with ⟨_, rfl, rfl⟩ | ⟨ct, rfl⟩ <;>
  simp [Instr.sliceBounds, Instr.sliceBound, asIntOf, hr, Bq]
theorem nr (aJ : C.cP) {T : TypeId} (ai : (C.T T).flat = true) (v : Value) (bV ax e_ : Option Value) (w : World) : (Instr.sliceAt T v bV ax e_).run C.P w = (Instr.slice T v bV ax e_).run C.P w := by
 obtain ⟨i, d, z, aC, aF, a6, bQ, bT, bc, a8⟩ := aJ.info (vU ai)
 have cj : ∀ n e, d ≠ .array n e := by
  clear bc
  unfold dB.flat at ai
  generalize (C.T T).k = hx at *
  cases hx <;> cases d <;> simp [hf] at a8 ai ⊢
 cases d <;> first | exact (cj _ _ rfl).elim | simp [Instr.sliceAt, run_underlying bc]
theorem ns {x : dB} {k : iI} (h : x.k = k) (ai : k ≠ .other) (R : ∀ ad, k ≠ .struct ad) (J : ∀ e, k ≠ .df e := by simp) : x.flat = true := by
 unfold dB.flat; rw [h]; cases k <;> first | rfl | exact (ai rfl).elim | exact (J _ rfl).elim | exact (R _ rfl).elim
theorem aD.split : ∀ (n : Nat) (xs : List j) (cs : List Value) (az : Nat → Prop), aD w F xs cs az → ∃ br bC a_ ca, cs = br ++ bC ∧ aD w F (xs.take n) br a_ ∧ aD w F (xs.drop n) bC ca ∧ (∀ b, a_ b → az b) ∧ (∀ b, ca b → az b) ∧ (∀ b, a_ b → ¬ ca b)
 | 0, xs, cs, az, h => ⟨[], cs, fun _ => False, az, rfl, by rw [List.take_zero, aD], h, fun _ h => h.elim, fun _ h => h, fun _ h => h.elim⟩
 | n + 1, [], cs, az, h => by rw [aD] at h; subst h; exact ⟨[], [], fun _ => False, fun _ => False, rfl, by rw [List.take_nil, aD], by rw [List.drop_nil, aD], fun _ h => h.elim, fun _ h => h.elim, fun _ h => h.elim⟩
 | n + 1, x :: xs, cs, az, h => by
   rw [aD] at h
   obtain ⟨br, bC, et, dG, rfl, U, aa, aw, aH, aX⟩ := h
   obtain ⟨d1, d2, a_, ca, rfl, g1, g2, g3, g4, g5⟩ := aD.split n xs bC dG aa
   refine ⟨br ++ d1, d2, fun b => et b ∨ a_ b, ca, by simp, ?_, g2, ?_, fun b J => aH _ (g4 _ J), ?_⟩
   ·rw [List.take_succ_cons, aD]
    exact ⟨br, d1, et, a_, rfl, U, g1, fun _ h => .inl h, fun _ h => .inr h, fun b J af => aX b J (g3 b af)⟩
   ·rintro b (J | J)
    ·exact aw b J
    ·exact aH b (g3 b J)
   ·rintro b (J | J) af
    ·exact aX b J (g4 b af)
    ·exact g5 b J af
theorem Br (aJ : C.cP) (h : aZ w0 F0 X F S s ak w) {T : TypeId} {x : j} {v : Value} {bV ax : Option j} {ml mm : Option Value} (aj : x.plain = true) (aA : ar w F s ak x v (fun _ => False)) (iM : kF w F s ak bV ml) (iN : kF w F s ak ax mm)
  (he : cU C s T x bV ax = some (av, s1)) : Good C w0 F0 X ak w (Instr.sliceAt T v ml mm none) av s1 := by
 unfold cU at he
 split at he
 ·rename_i l ai
  have := js aA; subst this
  obtain ⟨i, d, z, aC, aF, a6, bQ, bT, bc, a8⟩ := aJ.info (dr ai (by simp))
  rw [ai] at a8
  have := kx a8; subst this
  split at he
  ·rename_i a b bs J
   split at he
   ·rename_i hr
    simp only [Option.some.injEq, Prod.mk.injEq] at he
    obtain ⟨rfl, rfl⟩ := he
    refine Good.same h ?_ rfl (iK _)
    rw [nr aJ (ns ai (by simp) (by simp))]
    have cB : (⟨⟨l⟩⟩ : ByteArray).size = l.length := rfl
    have iO := nq (P := C.P) (isS := false) (len := l.length) (cap := l.length) iM iN bs J hr.1 hr.2 (Nat.le_refl _)
    have Bs : (⟨⟨l⟩⟩ : ByteArray).extract a b = ⟨⟨(l.take b).drop a⟩⟩ := by
     apply ByteArray.ext
     simp [ByteArray.data_extract, List.drop_take]
    simp [Instr.slice, run_underlying bc, cB, iO, Bs]
   ·cases he
  ·cases he
 ·rename_i e ai
  have := kB aA; subst this
  obtain ⟨i, d, z, aC, aF, a6, bQ, bT, bc, a8⟩ := aJ.info (dr ai (by simp))
  rw [ai] at a8
  have := gP a8; subst this
  split at he
  ·rename_i bs J
   split at he
   ·rename_i jt
    obtain ⟨nk, aO, lf, f1, f2, f3, f4, f5, f6, f7⟩ := aJ.info jt
    simp only [Option.some.injEq, Prod.mk.injEq] at he
    obtain ⟨rfl, rfl⟩ := he
    have iO := nq (P := C.P) (isS := true) (len := 0) (cap := 0) iM iN bs J (Nat.le_refl _) (Nat.le_refl _) (Nat.le_refl _)
    refine Good.same h (v := .slice none 0 0) ?_ rfl aA
    rw [nr aJ (ns ai (by simp) (by simp))]
    simp [Instr.slice, run_underlying bc, iO, gg f1, f2]
   ·cases he
  ·cases he
 ·rename_i e xs ai
  obtain ⟨i, d, z, aC, aF, a6, bQ, bT, bc, a8⟩ := aJ.info (dr ai (by simp))
  rw [ai] at a8
  have := gP a8; subst this
  split at he
  ·rename_i a b bs J
   split at he
   ·rename_i hr
    obtain ⟨Bt, wv, jt, hO⟩ := hr
    obtain ⟨nk, aO, lf, f1, f2, f3, f4, f5, f6, f7⟩ := aJ.info jt
    simp only [Option.some.injEq, Prod.mk.injEq] at he
    obtain ⟨rfl, rfl⟩ := he
    rcases qZ aA with ⟨rfl, nt, c, rfl, kG, mh⟩ | ⟨gA, o, cap, cu, sz, rfl, U, aa, aw, aH, aX, bD⟩
    ·have eE : b = 0 := by simpa using wv
     subst eE
     have Bu : a = 0 := by omega
     subst Bu
     have iO := nq (P := C.P) (isS := true) (len := 0) (cap := c) iM iN bs J (Nat.le_refl _) (Nat.zero_le _) (Nat.zero_le _)
     refine Good.same h (v := .slice nt 0 c) ?_ rfl ((ar.bt rfl).2 ⟨rfl, by rw [ag]; exact .inl ⟨rfl, nt, c, rfl, kG, mh⟩⟩)
     rw [nr aJ (ns ai (by simp) (by simp))]
     cases nt with
     | none =>
       have := mh rfl; subst this
       simp [Instr.slice, run_underlying bc, iO, gg f1, f2]
     | some nt => simp [Instr.slice, run_underlying bc, iO, gg f1, f2, Addr.add]
    ·have iO := nq (P := C.P) (isS := true) (len := xs.length) (cap := cap) iM iN bs J Bt (Nat.le_trans wv aa) aa
     obtain ⟨br, bC, a_, ca, rfl, g1, g2, g3, g4, g5⟩ := aD.split b xs cu _ bD
     obtain ⟨d1, d2, Lw, wx, rfl, ba, bg, cy, b2, cM⟩ := aD.split a (xs.take b) br _ g1
     have s7 : d1.length = a * (C.T e).sz := by
      rw [aD.length _ _ _ ba, l5 _ (fun d ab => hO d (List.mem_of_mem_take (List.mem_of_mem_take ab))), List.length_take, List.length_take]
      congr 1; omega
     have hlen : ((xs.take b).drop a).length = b - a := by simp; omega
     have fN : eA w gA (o + a * (C.T e).sz) d2 := by
      rw [← s7]
      have : eA w gA o (d1 ++ (d2 ++ bC)) := by simpa using aX
      exact this.sT
     have q0 : aD w F ((xs.take b).drop a) d2 (fun _ => False) := aD.mono (fun _ h => h) _ _ _ _ (fun b J => (g3 _ (b2 _ J)).elim) bg
     have mem : ∀ d ∈ (xs.take b).drop a, d.wd = sz := fun d ab => aH d (List.mem_of_mem_take (List.mem_of_mem_drop ab))
     have run : (Instr.sliceAt T (.slice (some ⟨gA, o, none⟩) xs.length cap) ml mm none).run C.P w = .ok (.slice (if cap = a then some ⟨gA, o, none⟩ else some ⟨gA, o + a * (C.T e).sz, none⟩) (b - a) (cap - a)) w := by
      rw [nr aJ (ns ai (by simp) (by simp))]
      simp [Instr.slice, run_underlying bc, iO, gg f1, f2, Addr.add_lit]
     refine ⟨_, w, F, S, run, h, .inl ⟨rfl, (ar.bt rfl).2 ⟨rfl, ?_⟩⟩⟩
     simp only [bj, eS]
     rw [ag]
     by_cases wy : cap = a
     ·have Bv : b = a := by omega
      subst Bv
      have px : (xs.take b).drop b = [] := by simp
      rw [if_pos wy]
      rw [px] at q0 ⊢
      rw [aD] at q0
      subst q0
      exact .inr ⟨gA, o, cap - b, [], sz, by simp, U, Nat.zero_le _, by omega, by simp, fun ay c bx => by simp at bx, by rw [aD]⟩
     ·rw [if_neg wy]
      exact .inr ⟨gA, _, cap - a, d2, sz, by rw [hlen], U, by rw [hlen]; omega, by omega, mem, fN, q0⟩
   ·cases he
  ·cases he
 ·rename_i e y q ai
  split at he
  ·rename_i sz xs ab
   split at he
   ·rename_i b bs J
    split at he
    ·rename_i q1
     split at he
     ·rename_i pk s2 aG
      simp only [Option.some.injEq, Prod.mk.injEq] at he
      obtain ⟨rfl, rfl⟩ := he
      obtain ⟨i, d, z, aC, aF, a6, bQ, bT, bc, a8⟩ := aJ.info (dr ai (by simp))
      rw [ai] at a8
      have := gP a8; subst this
      obtain ⟨nk, aO, lf, f1, f2, f3, f4, f5, f6, f7⟩ := aJ.info q1.2
      have mi : pk = .aP sz xs := by
       simp only [bE, ab, j.plain] at aG
       simp at aG
       exact aG.1.symm
      subst mi
      obtain ⟨a_, g0, g1, g2, Sn, g3, g4, g5, g6, g7, g8⟩ := jX h rfl aA aG
      rw [dM g2, ag] at g3
      rcases g3 with ⟨rfl, a0, gT⟩ | ⟨gA, cap, cur, ev, fr, az, gT, ba, bg, cy, b2, cM, c0, e4, gn, hC, lk⟩
      ·simp at gT; subst gT
       have eE : b = 0 := by simpa using q1.1
       subst eE
       have iO := nq (P := C.P) (isS := true) (len := 0) (cap := 0) iM iN bs J (Nat.le_refl _) (Nat.le_refl _) (Nat.le_refl _)
       refine ⟨.slice a0 0 0, w, F, a_, ?_, g0, .inr ⟨rfl, rfl, fun _ => False, by simp only [bj, eS]; rw [ag]; exact .inl ⟨rfl, _, rfl⟩, fun _ h => h.elim, fun _ h => h.elim, fun _ _ h => h.elim, fun _ h => h.elim⟩⟩
       rw [nr aJ (ns ai (by simp) (by simp))]
       cases a0 <;> simp [Instr.slice, run_underlying bc, iO, gg f1, f2]
      ·simp at gT; subst gT
       have iO := nq (P := C.P) (isS := true) (len := xs.length) (cap := cap) iM iN bs J (Nat.zero_le _) (Nat.le_trans q1.1 b2) b2
       have hlen : (xs.take b).length = b := by simp; omega
       have run : (Instr.sliceAt T (.slice (some ⟨gA, 0, none⟩) xs.length cap) ml mm none).run C.P w = .ok (.slice (some ⟨gA, 0, none⟩) b cap) w := by
        rw [nr aJ (ns ai (by simp) (by simp))]
        simp [Instr.slice, run_underlying bc, iO, gg f1, f2, Addr.add_lit]
       refine ⟨_, w, F, a_, run, g0, .inr ⟨rfl, rfl, Sn, ?_, g4, g5, g6, g7⟩⟩
       simp only [bj, eS]
       rw [ag]
       obtain ⟨br, bC, et, dG, af, dH, eI, fw, jq, j0⟩ := aD.split b xs _ _ gn
       refine .inr ⟨gA, cap, cur, ev, fr, az, by rw [hlen], ba, bg, cy, by omega, cM, c0, fun d ab => e4 d (List.mem_of_mem_take ab), ?_, hC, lk⟩
       have s7 : br.length = b * sz := by
        rw [aD.length _ _ _ dH, l5 _ (fun d ab => e4 d (List.mem_of_mem_take ab)), hlen]
       have : cur.toList.take ((xs.take b).length * sz) = br := by
        rw [hlen]
        have aa : b * sz ≤ xs.length * sz := Nat.mul_le_mul_right _ q1.1
        have : (cur.toList.take (xs.length * sz)).take (b * sz) = br := by rw [af, List.take_left' s7]
        rwa [List.take_take, Nat.min_eq_left aa] at this
       rw [this]
       exact aD.mono (fun _ h => h) _ _ _ _ fw dH
     ·cases he
    ·cases he
   ·cases he
  ·cases he
 ·cases he
end
section
variable {C : bl} {w0 w : World} {F0 X F : Nat → Prop} {S : Nat → Nat → Prop} {s s1 : ae} {ak : Nat → Value} {av : j}
def Src (P : Program) (w : World) (size : Nat) (x : Value) (m : Nat) (news : List Value) : Prop :=
 ∀ an : World, an.heap = w.heap → (Builtin.lenOf x).run P an = .ok m an ∧ (Builtin.firstCells size m x).run P an = .ok news.toArray an
def s8 (d : TypeDesc) : Prop := (∃ e, d = .slice e) ∨ d = .string
theorem Bw {P : Program} {T aV ty e : TypeId} {kH : TypeDesc} {i : TypeInfo} (aG : P.underlying T = some (.slice e)) (hu : P.underlying aV = some kH) (mn : s8 kH) (ax : P.info? e = some i)
  {x : Value} {m : Nat} {news : List Value} (q2 : Src P w i.size x m news) {b n cap : Nat} {cur : Array Value} {ev : TypeId} {fr : Nat × Nat} {l mid r : List Value} (J : w.heap[b]? = some (.cells cur ev fr)) (bb : k_ fr cur.size)
  (af : cur.toList = l ++ (mid ++ r)) (aI : l.length = n * i.size) (hm : mid.length = news.length) (qV : ∀ v ∈ news, Value.dF v = true) (iP : n + m ≤ cap) :
  ∃ an, (Builtin.append_ #[T, aV] ty #[.slice (some ⟨b, 0, none⟩) n cap, x]).run P w = .ok (.slice (some ⟨b, 0, none⟩) (n + m) cap) an ∧ an.heap[b]? = some (.cells (l ++ (news ++ r)).toArray ev fr) ∧
    (∀ c, c ≠ b → an.heap[c]? = w.heap[c]?) ∧ an.heap.size = w.heap.size ∧ an.os = w.os ∧ an.tape = w.tape ∧ an.output = w.output := by
 obtain ⟨an, dH, eI⟩ := sX (P := P) (b := b) (o := n * i.size) (e := ev) (fr := fr) news 0 cur w l mid r J bb af (by omega) hm qV
 refine ⟨an, ?_, eI⟩
 obtain ⟨U, aa⟩ := q2 w rfl
 rcases mn with ⟨eh, rfl⟩ | rfl <;> simp [Builtin.append_, run_underlying aG, run_underlying hu, gg ax, U, aa, iP, Addr.add_lit, dH]
theorem Bx {P : Program} {T aV ty e : TypeId} {kH : TypeDesc} {i : TypeInfo} {z : Value} (aG : P.underlying T = some (.slice e)) (hu : P.underlying aV = some kH) (mn : s8 kH) (ax : P.info? e = some i) (a1 : i.zero = some z)
  {x : Value} {m : Nat} {news : List Value} (q2 : Src P w i.size x m news) {base : Option Addr} {n cap : Nat} {ju : List Value} (hold : Src P w i.size (.slice base n cap) n ju) (iP : ¬ n + m ≤ cap)
  (aL : n + m ≤ 9223372036854775807) (ll : (n + m) * i.bytes ≤ 140737488355328) :
  (Builtin.append_ #[T, aV] ty #[.slice base n cap, x]).run P w = .ok (.slice (some ⟨w.heap.size, 0, none⟩) (n + m) (grownCap w (n + m) cap e))
   (w.drew.alloc (.cells (ju.toArray ++ news.toArray ++ Builtin.zeroCells z.cells (grownCap w (n + m) cap e - (n + m))) e)) := by
 have U := (q2 w rfl).1
 have aa := (q2 w.drew rfl).2
 have aw := (hold w.drew rfl).2
 have Lx := growslice_fits (need := n + m) (old := cap) (by omega) ll
 have eH : ¬ (281474976710656 < Builtin.nextslicecap (n + m) cap * i.bytes) := by omega
 have nu : ∀ k (w : World), (askRoom k).run P w = .ok () w := by
  intro k w
  unfold askRoom
  split <;> rfl
 have s9 : ¬ (9223372036854775807 < (n : Int) + (m : Int) ∧ i.bytes = 0) := by omega
 rcases mn with ⟨eh, rfl⟩ | rfl <;>
  ·simp [Builtin.append_, run_underlying aG, run_underlying hu, gg ax, l_ ax, U, iP, eH, Question.forced, nu]
   rw [if_neg s9, aw]
   simp [aa, nj ax a1, newRow, grownCap]
   have aC : (ju ++ news).toArray = ju.toArray ++ news.toArray := by simp
   rw [aC, Array.append_assoc]
def s_ (C : bl) (e aV : TypeId) : Bool := match (C.T aV).k, (C.T e).k with
 | .slice eh, _ => eh == e
 | .str, .int .u8 => true
 | _, _ => false
def hT (C : bl) (s : ae) (T aV : TypeId) (x y : j) : Option (j × ae) :=
 match (C.T T).k with
 | .slice e => if (C.T e).ok = true ∧ (C.T e).zero.wd = (C.T e).sz ∧ (flat (C.T e).zero).isSome = true ∧ s_ C e aV = true then
   match (match x with | .bB => some (j.aP (C.T e).sz [], s) | .h a q => bE s (.h a q) | _ => none) with
   | some (.aP sz xs, s1) => if sz = (C.T e).sz then
     match (match ia x.owner y with
      | .bB => some ([], s1)
      | .slice bF => some (bF, s1)
      | .str l => some (l.map fH, s1)
      | .h a q => match bE s1 (.h a q) with
        | some (.aP _ bF, s2) => some (bF, s2)
        | _ => none
      | _ => none) with
     | some (bF, s2) => if (∀ d ∈ bF, d.wd = (C.T e).sz) ∧ (xs.length + bF.length) * (C.T e).bytes ≤ 140737488355328 ∧ xs.length + bF.length ≤ 9223372036854775807 then some (.aP sz (xs ++ bF), s2) else none
     | none => none
     else none
   | _ => none
   else none
 | _ => none
theorem aD.append {xs bF : List j} {br bC : List Value} {a_ ca az : Nat → Prop} (U : aD w F xs br a_) (aa : aD w F bF bC ca) (aC : ∀ b, a_ b → az b) (aF : ∀ b, ca b → az b) (a6 : ∀ b, a_ b → ¬ ca b) : aD w F (xs ++ bF) (br ++ bC) az := by
 induction xs generalizing br a_ az with
 | nil => rw [aD] at U; subst U; exact aD.mono (fun _ h => h) _ _ _ _ aF aa
 | cons x xs ih =>
   rw [aD] at U
   obtain ⟨Bz, BA, et, dG, rfl, g1, g2, g3, g4, g5⟩ := U
   rw [List.cons_append, aD]
   refine ⟨Bz, BA ++ bC, et, fun b => dG b ∨ ca b, by simp, g1, ih g2 (fun b h => .inl h) (fun b h => .inr h) (fun b h => a6 b (g4 b h)), fun b h => aC b (g3 b h), ?_, ?_⟩
   ·rintro b (h | h)
    ·exact aC b (g4 b h)
    ·exact aF b h
   ·rintro b h (aS | aS)
    ·exact g5 b h aS
    ·exact a6 b (g3 b h) aS
theorem ta {P : Program} {size m cap : Nat} {b o : Nat} {news : List Value} (fN : eA w b o news) (aI : news.length = m * size) : Src P w size (.slice (some ⟨b, o, none⟩) m cap) m news := by
 intro an hw
 refine ⟨rfl, ?_⟩
 refine run_firstCells_some an size m ⟨b, o, none⟩ m cap news aI (fun ay v bx => ?_)
 rw [Addr.add_lit]
 have := fN ay v bx
 simpa [World.cell?, hw] using this
theorem wz {P : Program} {size cap : Nat} : Src P w size (.slice none 0 cap) 0 [] := by
 intro an _
 exact ⟨rfl, by simp [Builtin.firstCells]⟩
theorem tb {P : Program} {size cap : Nat} (a : Option Addr) : Src P w size (.slice a 0 cap) 0 [] := by
 cases a with
 | none => exact wz
 | some a =>
   intro an _
   exact ⟨rfl, run_firstCells_some an size 0 a 0 cap [] (by simp) (fun ay v bx => by simp at bx)⟩
theorem BB {P : Program} (l : List UInt8) : Src P w 1 (.string ⟨⟨l⟩⟩) l.length (l.map fun b => .int .u8 (b.toNat : Int)) := by
 intro an _
 refine ⟨rfl, ?_⟩
 have : (⟨⟨l⟩⟩ : ByteArray).extract 0 l.length = ⟨⟨l⟩⟩ := by
  apply ByteArray.ext
  simp [ByteArray.data_extract]
 simp [Builtin.firstCells, this]
theorem aD.mo {sz : Nat} {xs : List j} {cs : List Value} {az : Nat → Prop} (h : aD w F xs cs az) (hw : ∀ d ∈ xs, d.wd = sz) : cs.length = xs.length * sz := by
 rw [aD.length _ _ _ h, l5 _ hw]
theorem aZ.turn (h : aZ w0 F0 X F S s ak w) {an : World} {b : Nat} (J : ∀ c, c ≠ b → an.heap[c]? = w.heap[c]?) (R : an.heap.size = w.heap.size) (U : an.os = w.os) (aa : an.tape = w.tape) (aw : an.output = w.output)
  (aK : ¬ F b) (aU : ∀ u, ¬ S u b) (bk : X b ∨ w0.heap.size ≤ b) : aZ w0 F0 X F S s ak an where
 ei := h.ei
 eD := h.eD
 c6 := fun c af => by rw [R]; exact h.c6 c af
 cL := fun t c af => by rw [R]; exact h.cL t c af
 dk := h.dk
 de := h.de
 cf := h.cf
 cb := fun t => ar.frame (Sx := S) (fun c af => J c (by rintro rfl; exact aK af)) (fun _ h => h) (fun x c af => J c (by rintro rfl; exact aU x af)) h.cb _ _ _ (fun c af => J c (by rintro rfl; exact aU t af)) (h.cb t)
 old := fun c cx fO => by
  rw [J c ?_]
  ·exact h.old c cx fO
  ·rintro rfl
   rcases bk with bk | bk
   ·exact fO bk
   ·omega
 size := by rw [R]; exact h.size
 os := U.trans h.os
 tape := aa.trans h.tape
 output := aw.trans h.output
theorem BC (aJ : C.cP) (h : aZ w0 F0 X F S s ak w) {T aV ty : TypeId} {x y : j} {fq e1 : Value} (aj : ar w F s ak x fq (fun _ => False)) (aY : ar w F s ak y e1 (fun _ => False))
  (he : hT C s T aV x y = some (av, s1)) : Good C w0 F0 X ak w (Builtin.append_ #[T, aV] ty #[fq, e1]) av s1 := by
 unfold hT at he
 split at he
 ·rename_i e ai
  obtain ⟨tc, d, td, aC, aF, a6, bQ, bT, bc, a8⟩ := aJ.info (dr ai (by simp))
  rw [ai] at a8
  have := gP a8; subst this
  split at he
  ·rename_i me
   obtain ⟨jt, j3, kI, j4⟩ := me
   obtain ⟨i, te, z, f1, f2, f3, f4, f5, f6, f7⟩ := aJ.info jt
   obtain ⟨cQ, hU⟩ := Option.isSome_iff_exists.1 kI
   have kJ := f5 cQ hU
   have jv : cQ.length = (C.T e).sz := by
    have := ag.length _ _ _ ((ag.flat (w := w) (F := F) _).1 (C.T e).zero cQ (fun _ => False) (Nat.le_refl _) hU)
    rw [this, j3]
   obtain ⟨kH, hu, mn⟩ : ∃ kH, C.P.underlying aV = some kH ∧ s8 kH := by
    unfold s_ at j4
    split at j4
    ·rename_i eh hg
     obtain ⟨_, aO, _, _, _, _, _, _, g6, g7⟩ := aJ.info (dr hg (by simp))
     rw [hg] at g7
     exact ⟨aO, g6, .inl ⟨_, gP g7⟩⟩
    ·rename_i hg _
     obtain ⟨_, aO, _, _, _, _, _, _, g6, g7⟩ := aJ.info (dr hg (by simp))
     rw [hg] at g7
     exact ⟨aO, g6, .inr (kx g7)⟩
    ·cases j4
   split at he
   ·rename_i sz xs wA mq
    split at he
    ·rename_i cB
     subst cB
     split at he
     ·rename_i bF q3 iQ
      split at he
      ·rename_i BD
       obtain ⟨nv, ll, tf⟩ := BD
       simp only [Option.some.injEq, Prod.mk.injEq] at he
       obtain ⟨rfl, rfl⟩ := he
       obtain ⟨et, a0, Sn, a3, a4, a5, j1, j2, Ly, a9, ln⟩ : ∃ et, aZ w0 F0 X F et wA ak w ∧ ∃ Sn, ag w F (.aP (C.T e).sz xs) [fq] Sn ∧ (∀ b, Sn b → b < w.heap.size) ∧ (∀ b, Sn b → ¬ F b) ∧ (∀ u b, Sn b → ¬ et u b) ∧
         (∀ b, Sn b → X b ∨ w0.heap.size ≤ b) ∧ (∀ u b, et u b → S u b) ∧ (∀ b, Sn b → ∃ u, S u b) ∧ ar w F wA ak (ia x.owner y) e1 (fun _ => False) := by
        split at mq
        ·simp only [Option.some.injEq, Prod.mk.injEq, j.aP.injEq, true_and] at mq
         obtain ⟨rfl, rfl⟩ := mq
         have := kB aj; subst this
         exact ⟨S, h, fun _ => False, by rw [ag]; exact .inl ⟨rfl, _, rfl⟩, fun _ h => h.elim, fun _ h => h.elim, fun _ _ h => h.elim, fun _ h => h.elim, fun _ _ h => h, fun _ h => h.elim, aY⟩
        ·obtain ⟨a_, g0, g1, g2, Sn, g3, g4, g5, g6, g7, g8, g9, g10⟩ := jX h rfl aj mq
         rw [dM g2] at g3
         exact ⟨a_, g0, Sn, g3, g4, g5, g6, g7, g8, g9, g10 _ _ _ aY⟩
        ·cases mq
       obtain ⟨dG, gA, ig, news, hz, fs, j5, dv, eQ, j6, py, fS⟩ : ∃ dG, aZ w0 F0 X F dG q3 ak w ∧ ∃ ig news, aD w F bF news ig ∧ Src C.P w i.size e1 bF.length news ∧ (∀ b, ig b → b < w.heap.size) ∧ (∀ b, ig b → ¬ F b) ∧ (∀ u b, ig b → ¬ dG u b) ∧
         (∀ b, ig b → X b ∨ w0.heap.size ≤ b) ∧ (∀ u b, dG u b → et u b) ∧ (∀ b, ig b → ∃ u, et u b) := by
        split at iQ
        ·rename_i mr
         simp only [Option.some.injEq, Prod.mk.injEq] at iQ
         obtain ⟨rfl, rfl⟩ := iQ
         rw [mr] at ln
         have := kB ln; subst this
         exact ⟨et, a0, fun _ => False, [], by rw [aD], wz, fun _ h => h.elim, fun _ h => h.elim, fun _ _ h => h.elim, fun _ h => h.elim, fun _ _ h => h, fun _ h => h.elim⟩
        ·rename_i dO mr
         simp only [Option.some.injEq, Prod.mk.injEq] at iQ
         obtain ⟨rfl, rfl⟩ := iQ
         rw [mr] at ln
         rcases qZ ln with ⟨rfl, nt, wB, rfl, _, mh⟩ | ⟨b, o, cap, cu, BE, rfl, ba, bg, cy, b2, cM, c0⟩
         ·exact ⟨et, a0, fun _ => False, [], by rw [aD], tb nt, fun _ h => h.elim, fun _ h => h.elim, fun _ _ h => h.elim, fun _ h => h.elim, fun _ _ h => h, fun _ h => h.elim⟩
         ·exact ⟨et, a0, fun _ => False, cu, c0, ta cM (by rw [f2]; exact aD.mo c0 nv), fun _ h => h.elim, fun _ h => h.elim, fun _ _ h => h.elim, fun _ h => h.elim, fun _ _ h => h, fun _ h => h.elim⟩
        ·rename_i l mr
         simp only [Option.some.injEq, Prod.mk.injEq] at iQ
         obtain ⟨rfl, rfl⟩ := iQ
         rw [mr] at ln
         have := js ln; subst this
         have BF : l ≠ [] → i.size = 1 := by
          intro aI
          cases l with
          | nil => exact (aI rfl).elim
          | cons b l => rw [f2, ← nv (fH b) (by simp)]; rfl
         by_cases aI : l = []
         ·subst aI
          refine ⟨et, a0, fun _ => False, [], by simp only [List.map_nil]; rw [aD], ?_, fun _ h => h.elim, fun _ h => h.elim, fun _ _ h => h.elim, fun _ h => h.elim, fun _ _ h => h, fun _ h => h.elim⟩
          intro an _
          exact ⟨rfl, by simp [Builtin.firstCells, ByteArray.extract]; rfl⟩
         ·refine ⟨et, a0, fun _ => False, _, wq l _, ?_, fun _ h => h.elim, fun _ h => h.elim, fun _ _ h => h.elim, fun _ h => h.elim, fun _ _ h => h, fun _ h => h.elim⟩
          rw [BF aI, List.length_map]
          exact BB l
        ·rename_i a q mr
         split at iQ
         ·rename_i Lz dO s2 aG
          simp only [Option.some.injEq, Prod.mk.injEq] at iQ
          obtain ⟨rfl, rfl⟩ := iQ
          rw [mr] at ln
          obtain ⟨ca, g0, g1, g2, ig, g3, g4, g5, g6, g7, g8, g9, g10⟩ := jX a0 rfl ln aG
          rw [dM g2, ag] at g3
          rcases g3 with ⟨rfl, BG, gT⟩ | ⟨b, cap, cur, ev, fr, az, gT, ba, bg, cy, b2, cM, c0, e4, gn, hC, lk⟩
          ·simp at gT; subst gT
           exact ⟨ca, g0, fun _ => False, [], by rw [aD], (tb BG), fun _ h => h.elim, fun _ h => h.elim, fun _ _ h => h.elim, fun _ h => h.elim, g8, fun _ h => h.elim⟩
          ·simp at gT; subst gT
           refine ⟨ca, g0, az, _, gn, ta (nd bg _) ?_, fun c af => g4 c (hC c af), fun c af => g5 c (hC c af), fun u c af => g6 u c (hC c af), fun c af => g7 c (hC c af), g8, fun c af => g9 c (hC c af)⟩
           rw [f2]; exact aD.mo gn nv
         ·cases iQ
        ·cases iQ
       have lo : news.length = bF.length * (C.T e).sz := aD.mo hz nv
       have iR : ∀ c, Sn c → ¬ ig c := fun c U aa => by obtain ⟨u, hu⟩ := fS c aa; exact j1 u c U hu
       have hr : ∀ u c, Sn c → ¬ dG u c := fun u c U aa => j1 u c U (py u c aa)
       have grow : ∀ (base : Option Addr) (cap : Nat) (ju : List Value) (Sx : Nat → Prop), fq = .slice base xs.length cap → Src C.P w i.size (.slice base xs.length cap) xs.length ju → aD w F xs ju Sx → (∀ d ∈ xs, d.wd = (C.T e).sz) → (∀ c, Sx c → Sn c) → ¬ xs.length + bF.length ≤ cap →
         Good C w0 F0 X ak w (Builtin.append_ #[T, aV] ty #[fq, e1]) (.aP (C.T e).sz (xs ++ bF)) q3 := by
        intro base cap ju Sx sY hold wC wD cT iP
        subst sY
        have aB := Bx (ty := ty) bc hu mn f1 f4 fs hold iP tf (by rw [f3]; exact ll)
        have pw := grownCap_ge w (xs.length + bF.length) cap e
        have kG := grownCap_le_maxLen w (xs.length + bF.length) cap e (by unfold maxLen; omega)
        have pz := aD.mo wC wD
        have BH : aD w F (xs ++ bF) (ju ++ news) (fun c => Sx c ∨ ig c) := aD.append wC hz (fun _ h => .inl h) (fun _ h => .inr h) (fun c U aa => iR c (cT c U) aa)
        have BI : (ju ++ news).length = (xs ++ bF).length * (C.T e).sz := by simp [pz, lo, Nat.add_mul]
        have gz := gA.pr (an := w.drew.alloc (.cells (ju.toArray ++ news.toArray ++ Builtin.zeroCells z.cells (grownCap w (xs.length + bF.length) cap e - (xs.length + bF.length))) e))
         (sz := (C.T e).sz) (cap := grownCap w (xs.length + bF.length) cap e) (xs := xs ++ bF) (e := e) (fr := (0, 0)) (Sn := fun c => Sx c ∨ ig c) rfl rfl rfl rfl
         (fun o _ ⟨_, aa⟩ => absurd aa (Nat.not_lt_zero _)) (by simpa using pw) kG
         (by
          simp only [Array.size_append, List.size_toArray, size_zeroCells, kJ, pz, lo, jv, ← Nat.add_mul]
          congr 1; omega)
         (by
          intro d ab
          rcases List.mem_append.1 ab with ab | ab
          ·exact wD d ab
          ·exact nv d ab)
         (by
          simp only [Array.toList_append]
          rw [List.take_left' BI]
          exact BH)
         (by rintro c (af | af); exact a4 c (cT c af); exact j5 c af) (by rintro c (af | af); exact a5 c (cT c af); exact dv c af) (by rintro u c (af | af); exact hr u c (cT c af); exact eQ u c af) (by rintro c (af | af); exact j2 c (cT c af); exact j6 c af)
        refine ⟨_, _, F, dG, aB, gz.1, ?_⟩
        have := gz.2
        simpa using this
       rw [ag] at a3
       rcases a3 with ⟨rfl, q4, gT⟩ | ⟨b, cap, cur, ev, fr, az, gT, ba, bg, cy, b2, cM, c0, e4, gn, hC, lk⟩
       ·simp at gT; subst gT
        by_cases wE : bF = []
        ·subst wE
         have tg : news = [] := by simpa using lo
         subst tg
         refine ⟨.slice q4 0 0, w, F, dG, ?_, gA, .inr ⟨rfl, rfl, fun _ => False, by simp only [bj, eS]; rw [ag]; exact .inl ⟨rfl, _, rfl⟩, fun _ h => h.elim, fun _ h => h.elim, fun _ _ h => h.elim, fun _ h => h.elim⟩⟩
         obtain ⟨U, aa⟩ := fs w rfl
         cases q4 <;> rcases mn with ⟨eh, rfl⟩ | rfl <;> simp at U aa <;> simp [Builtin.append_, run_underlying bc, run_underlying hu, gg f1, U, aa, storeCells]
        ·exact grow q4 0 [] (fun _ => False) rfl (tb q4) (by rw [aD]) (by simp) (fun _ h => h.elim) (by
          cases bF with
          | nil => exact (wE rfl).elim
          | cons y bF => simp)
       ·simp at gT; subst gT
        by_cases iP : xs.length + bF.length ≤ cap
        ·
         have pz := aD.mo gn e4
         have hlen : cur.toList.length = cap * (C.T e).sz := by simp [c0]
         have hle : (xs.length + bF.length) * (C.T e).sz ≤ cap * (C.T e).sz := Nat.mul_le_mul_right _ iP
         rw [Nat.add_mul] at hle
         have gL : cur.toList = cur.toList.take (xs.length * (C.T e).sz) ++ ((cur.toList.drop (xs.length * (C.T e).sz)).take news.length ++ (cur.toList.drop (xs.length * (C.T e).sz)).drop news.length) := by
          rw [List.take_append_drop, List.take_append_drop]
         obtain ⟨an, dH, eI, fw, jq, j0, e2, kz⟩ := Bw (ty := ty) (n := xs.length) (m := bF.length) (cap := cap) bc hu mn f1 fs bg cy gL (by rw [f2]; exact pz) (by simp [hlen, lo]; omega) (aD.mb _ _ _ hz) iP
         have BJ := gA.turn fw jq j0 e2 kz (a5 b ba) (fun u hu => hr u b ba hu) (j2 b ba)
         have ni : ∀ c, F c → an.heap[c]? = w.heap[c]? := fun c af => fw c (by rintro rfl; exact a5 _ ba af)
         refine ⟨_, an, F, dG, dH, BJ, .inr ⟨rfl, rfl, fun c => Sn c ∨ ig c, ?_, ?_, ?_, ?_, ?_⟩⟩
         ·simp only [bj, eS]
          rw [ag]
          have wF : (cur.toList.take (xs.length * (C.T e).sz) ++ (news ++ (cur.toList.drop (xs.length * (C.T e).sz)).drop news.length)).toArray.size = cur.size := by
           have : cur.size = cur.toList.length := by simp
           rw [this]
           conv => rhs; rw [gL]
           simp [hlen, lo]; omega
          refine .inr ⟨b, cap, _, ev, fr, fun c => az c ∨ ig c, by simp, .inl ba, eI, by rw [wF]; exact cy, by simpa using iP, cM, by rw [wF]; exact c0, ?_, ?_, ?_, ?_⟩
          ·intro d ab
           rcases List.mem_append.1 ab with ab | ab
           ·exact e4 d ab
           ·exact nv d ab
          ·have np := aD.frame ni _ _ _ (fun c af => fw c (by rintro rfl; exact lk af)) gn
           have l8 := aD.frame ni _ _ _ (fun c af => fw c (by rintro rfl; exact iR _ ba af)) hz
           have : ((cur.toList.take (xs.length * (C.T e).sz) ++ (news ++ (cur.toList.drop (xs.length * (C.T e).sz)).drop news.length)).toArray.toList.take ((xs ++ bF).length * (C.T e).sz)) = cur.toList.take (xs.length * (C.T e).sz) ++ news := by
            simp only []
            rw [← List.append_assoc]
            exact List.take_left' (by rw [List.length_append, pz, lo, List.length_append, Nat.add_mul])
           rw [this]
           exact aD.append np l8 (fun _ h => .inl h) (fun _ h => .inr h) (fun c U aa => iR c (hC c U) aa)
          ·rintro c (af | af)
           ·exact .inl (hC c af)
           ·exact .inr af
          ·rintro (af | af)
           ·exact lk af
           ·exact iR b ba af
         ·rw [jq]; rintro c (af | af); exact a4 c af; exact j5 c af
         ·rintro c (af | af); exact a5 c af; exact dv c af
         ·rintro u c (af | af); exact hr u c af; exact eQ u c af
         ·rintro c (af | af); exact j2 c af; exact j6 c af
        ·exact grow (some ⟨b, 0, none⟩) cap _ az rfl (ta (nd bg _) (by rw [f2]; exact aD.mo gn e4)) gn e4 hC iP
      ·cases he
     ·cases he
    ·cases he
   ·cases he
  ·cases he
 ·cases he
end
end Go.b1
