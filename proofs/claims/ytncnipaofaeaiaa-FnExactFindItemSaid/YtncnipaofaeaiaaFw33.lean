/- Part of a proof that a law returns true for every input. No condition. -/
import Derived.Test.YtncnipaofaeaiaaFw32
import Derived.Test.YtncnipaofaeaiaaSh
namespace Go.Fw

/-! Values: equations. -/

def bnB : TK → Bool → Option AV
  | .bool, b => some (.bool b)
  | _, _ => none
def nilE (neg : Bool) : TK → Option (Option Bool) → Option AV
  | .slice _, some r => some (nilAV neg r)
  | _, _ => none
def nilQ (neg : Bool) : TK → Option Bool → Option AV
  | .ptr _, some b => some (.bool (b != neg))
  | _, _ => none

theorem bn_s (C : Cx) (s : St) (T : TypeId) :
    (∀ op k a k' b, bn C s op T (.int k a) (.int k' b) = bnI op k a k' b) ∧
    (∀ op a b, bn C s op T (.str a) (.str b) = bnS op a b) ∧
    (∀ a b, bn C s .eql T (.bool a) (.bool b) = bnB (C.T T).k (a == b)) ∧
    (∀ a b, bn C s .neq T (.bool a) (.bool b) = bnB (C.T T).k (!(a == b))) ∧
    (∀ xs, bn C s .eql T (.slice xs) .nils = nilE false (C.T T).k (nilS s (.slice xs))) ∧
    (∀ xs, bn C s .neq T (.slice xs) .nils = nilE true (C.T T).k (nilS s (.slice xs))) ∧
    (bn C s .eql T .nils .nils = nilE false (C.T T).k (nilS s .nils)) ∧
    (bn C s .neq T .nils .nils = nilE true (C.T T).k (nilS s .nils)) ∧
    (∀ x q, bn C s .eql T (.h x q) .nils = nilE false (C.T T).k (nilS s (.h x q))) ∧
    (∀ x q, bn C s .neq T (.h x q) .nils = nilE true (C.T T).k (nilS s (.h x q))) ∧
    (∀ x q, bn C s .eql T (.h x q) .nilp = nilQ false (C.T T).k (nilP s (.h x q))) ∧
    (∀ x q, bn C s .neq T (.h x q) .nilp = nilQ true (C.T T).k (nilP s (.h x q))) ∧
    (∀ d, bn C s .eql T (.ref d) .nilp = nilQ false (C.T T).k (nilP s (.ref d))) ∧
    (∀ d, bn C s .neq T (.ref d) .nilp = nilQ true (C.T T).k (nilP s (.ref d))) ∧
    (bn C s .eql T .nilp .nilp = nilQ false (C.T T).k (nilP s .nilp)) ∧
    (bn C s .neq T .nilp .nilp = nilQ true (C.T T).k (nilP s .nilp)) := by
  refine ⟨?_, ?_, ?_, ?_, ?_, ?_, ?_, ?_, ?_, ?_, ?_, ?_, ?_, ?_, ?_, ?_⟩ <;> intros <;> first
    | rfl
    | (simp only [bn]
       generalize (C.T T).k = kk
       cases kk <;> first | rfl | (simp only [nilE]; generalize nilS s _ = v; cases v <;> rfl) | (simp only [nilQ]; generalize nilP s _ = v; cases v <;> (try (rename_i b; cases b)) <;> rfl))

theorem bnI_s (k : IntKind) (a b : Int) :
    bnI .add k a k b = some (.int k (k.wrap (a + b))) ∧ bnI .sub k a k b = some (.int k (k.wrap (a - b))) ∧ bnI .mul k a k b = some (.int k (k.wrap (a * b))) ∧
    bnI .eql k a k b = some (.bool (a == b)) ∧ bnI .neq k a k b = some (.bool (a != b)) ∧ bnI .lss k a k b = some (.bool (decide (a < b))) ∧ bnI .leq k a k b = some (.bool (decide (a ≤ b))) ∧
    bnI .gtr k a k b = some (.bool (decide (b < a))) ∧ bnI .geq k a k b = some (.bool (decide (b ≤ a))) ∧
    bnI .and k a k b = some (.int k (bitsOf .and k a b)) ∧ bnI .or k a k b = some (.int k (bitsOf .or k a b)) ∧ bnI .xor k a k b = some (.int k (bitsOf .xor k a b)) ∧ bnI .andNot k a k b = some (.int k (bitsOf .andNot k a b)) := by
  simp [bnI]
theorem bnI_quo {k : IntKind} {a b : Int} (h : b ≠ 0) : bnI .quo k a k b = some (.int k (k.wrap (a.tdiv b))) := by simp [bnI, h]
theorem bnI_rem {k : IntKind} {a b : Int} (h : b ≠ 0) : bnI .rem k a k b = some (.int k (a.tmod b)) := by simp [bnI, h]
theorem bnI_shl {k k' : IntKind} {a b : Int} (h : ¬ b < 0) : bnI .shl k a k' b = some (.int k (k.wrap (a * 2 ^ (min b.toNat k.bits)))) := by simp [bnI, h]
theorem bnI_shr {k k' : IntKind} {a b : Int} (h : ¬ b < 0) : bnI .shr k a k' b = some (.int k (a.fdiv (2 ^ (min b.toNat k.bits)))) := by simp [bnI, h]
theorem nonzE {b : Int} {u : Unit} (h : nonz b = some u) : b ≠ 0 := by unfold nonz at h; split at h <;> simp_all
theorem nnegE {b : Int} {u : Unit} (h : nneg b = some u) : ¬ b < 0 := by unfold nneg at h; split at h <;> simp_all
theorem chkE {b : Bool} {u : Unit} (h : chk b = some u) : b = true := by unfold chk at h; split at h <;> simp_all

theorem bnS_s (a b : List UInt8) :
    bnS .eql a b = some (.bool (a == b)) ∧ bnS .neq a b = some (.bool !(a == b)) ∧ bnS .lss a b = some (.bool (Op.bytesLess a b)) ∧
    bnS .leq a b = some (.bool (Op.bytesLess a b || a == b)) ∧ bnS .gtr a b = some (.bool !(Op.bytesLess a b || a == b)) ∧ bnS .geq a b = some (.bool !(Op.bytesLess a b)) := by
  refine ⟨rfl, rfl, rfl, rfl, rfl, rfl⟩
theorem bnS_add {a b : List UInt8} {u : Unit} (h : okLen (a.length + b.length) = some u) : bnS .add a b = some (.str (a ++ b)) := by simp only [bnS, okLenE h, if_true]

theorem un_s : (∀ b, un .not (.bool b) = some (.bool !b)) ∧ (un .not .anyb = some .anyb) ∧ (∀ k n, un .neg (.int k n) = some (.int k (k.wrap (0 - n)))) := ⟨fun _ => rfl, rfl, fun _ _ => rfl⟩

def idxS : TK → Option UInt8 → Option AV
  | .str, some c => some (.int .u8 c.toNat)
  | _, _ => none
theorem idx_s (C : Cx) (T : TypeId) (l : List UInt8) (k : IntKind) (n : Int) : idx C T (.str l) (.int k n) = idxS (C.T T).k (getI l n) := by
  simp only [idx, getI]
  generalize (C.T T).k = kk
  cases kk <;> first | rfl | (simp only [idxS]; split <;> first | rfl | (cases l[n.toNat]? <;> rfl))

def iaS (C : Cx) : TK → Option AV → Option AV
  | .slice e, some d => if (C.T e).ok = true ∧ d.wd = (C.T e).sz then some (.ref d) else none
  | _, _ => none
theorem ia_s (C : Cx) (s : St) (T : TypeId) (xs : List AV) (k : IntKind) (n : Int) : ia C s T (.slice xs) (.int k n) = iaS C (C.T T).k (getI xs n) := by
  simp only [ia, getI]
  generalize (C.T T).k = kk
  cases kk <;> first | rfl | skip
  simp only [iaS]
  by_cases h0 : 0 ≤ n
  · simp only [h0, true_and, if_true]
    split
    · cases xs[n.toNat]? <;> simp [*]
    · cases xs[n.toNat]? <;> simp [*]
  · simp only [h0, false_and, if_false]

def iaH (C : Cx) (y : Nat) (q : List Nat) (n : Int) : TK → Option AV → Option AV
  | .slice e, some (.uslice sz xs) => if (getI xs n).isSome = true ∧ (C.T e).ok = true ∧ sz = (C.T e).sz then some (.hp y (q ++ [n.toNat])) else none
  | _, _ => none
theorem ia_h (C : Cx) (s : St) (T : TypeId) (y : Nat) (q : List Nat) (k : IntKind) (n : Int) : ia C s T (.h y q) (.int k n) = iaH C y q n (C.T T).k (AV.sub q (s y)) := by
  simp only [ia]
  generalize (C.T T).k = kk
  cases kk <;> first | rfl | skip
  rename_i e
  cases hs : AV.sub q (s y) with
  | none => simp [iaH]
  | some d =>
    cases d <;> first
      | (simp [iaH]; done)
      | skip
    rename_i sz xs
    have hg : (getI xs n).isSome = true ↔ 0 ≤ n ∧ n.toNat < xs.length := by
      unfold getI; split <;> simp_all <;> omega
    simp only [iaH, hg]
    by_cases h0 : 0 ≤ n <;> by_cases h1 : (C.T e).ok = true <;> simp [h0, h1]

def slS : TK → St → Option (List UInt8) → Option (AV × St)
  | .str, s, some t => some (.str t, s)
  | _, _, _ => none
def slL (C : Cx) : TK → St → List AV → Option (List AV) → Option (AV × St)
  | .slice e, s, xs, some t => if (C.T e).ok = true ∧ ∀ d ∈ xs, d.wd = (C.T e).sz then some (.slice t, s) else none
  | _, _, _, _ => none
theorem slc_str (C : Cx) (s : St) (T : TypeId) (l : List UInt8) :
    (∀ k a k' b, slc C s T (.str l) (some (.int k a)) (some (.int k' b)) = slS (C.T T).k s (subL l a b)) ∧
    (∀ k' b, slc C s T (.str l) none (some (.int k' b)) = slS (C.T T).k s (subL l 0 b)) ∧
    (∀ k a, slc C s T (.str l) (some (.int k a)) none = slS (C.T T).k s (subL l a l.length)) := by
  have e : ∀ (lo hi : Option AV) (a b : Int), (bd 0 lo = if 0 ≤ a then some a.toNat else none) → (bd l.length hi = if 0 ≤ b then some b.toNat else none) → slc C s T (.str l) lo hi = slS (C.T T).k s (subL l a b) := by
    intro lo hi a b h1 h2
    simp only [slc]
    generalize (C.T T).k = kk
    cases kk <;> first | rfl | skip
    simp only [h1, h2, subL]
    by_cases ha : 0 ≤ a <;> by_cases hb : 0 ≤ b <;> simp only [ha, hb, if_true, if_false, slS, true_and, false_and]
    · by_cases hc : a ≤ b ∧ b ≤ l.length
      · rw [if_pos ⟨by omega, by omega⟩, if_pos hc]
      · rw [if_neg (fun h => hc ⟨by omega, by omega⟩), if_neg hc]
    · rw [if_neg (by omega)]
  exact ⟨fun k a k' b => e _ _ a b rfl rfl, fun k' b => e _ _ 0 b rfl rfl, fun k a => e _ _ a l.length rfl (by simp [bd])⟩
theorem slc_sl (C : Cx) (s : St) (T : TypeId) (xs : List AV) :
    (∀ k a k' b, slc C s T (.slice xs) (some (.int k a)) (some (.int k' b)) = slL C (C.T T).k s xs (subL xs a b)) ∧
    (∀ k' b, slc C s T (.slice xs) none (some (.int k' b)) = slL C (C.T T).k s xs (subL xs 0 b)) ∧
    (∀ k a, slc C s T (.slice xs) (some (.int k a)) none = slL C (C.T T).k s xs (subL xs a xs.length)) := by
  have e : ∀ (lo hi : Option AV) (a b : Int), (bd 0 lo = if 0 ≤ a then some a.toNat else none) → (bd xs.length hi = if 0 ≤ b then some b.toNat else none) → slc C s T (.slice xs) lo hi = slL C (C.T T).k s xs (subL xs a b) := by
    intro lo hi a b h1 h2
    simp only [slc]
    generalize (C.T T).k = kk
    cases kk <;> first | rfl | skip
    simp only [h1, h2, subL]
    by_cases ha : 0 ≤ a <;> by_cases hb : 0 ≤ b <;> simp only [ha, hb, if_true, if_false, slL, true_and, false_and]
    · by_cases hc : a ≤ b ∧ b ≤ xs.length
      · rw [if_pos hc]
        have h1 : a.toNat ≤ b.toNat := by omega
        have h2 : b.toNat ≤ xs.length := by omega
        simp only [h1, h2, true_and]
      · rw [if_neg (fun h => hc ⟨by omega, by omega⟩), if_neg hc]
    · rw [if_neg (by omega)]
  exact ⟨fun k a k' b => e _ _ a b rfl rfl, fun k' b => e _ _ 0 b rfl rfl, fun k a => e _ _ a xs.length rfl (by simp [bd])⟩

/-- Sub-values. -/
def subO (q : List Nat) : Option AV → Option AV
  | some d => AV.sub q d
  | none => none
theorem sub_s : (∀ d, AV.sub [] d = some d) ∧ (∀ k q fs, AV.sub (k :: q) (.agg fs) = subO q fs[k]?) ∧ (∀ k q fs, AV.sub (k :: q) (.tuple fs) = subO q fs[k]?) ∧ (∀ k q sz xs, AV.sub (k :: q) (.uslice sz xs) = subO q xs[k]?) ∧
    (∀ q d, AV.sub (0 :: q) (.ubox d) = AV.sub q d) ∧ (∀ q d, subO q (some d) = AV.sub q d) ∧
    (∀ k q a b, AV.sub (k :: q) (.int a b) = none) := by
  refine ⟨fun d => by simp [AV.sub], ?_, ?_, ?_, fun q d => by simp [AV.sub], fun _ _ => rfl, fun _ _ _ _ => by simp [AV.sub]⟩
  · intro k q fs; simp only [AV.sub]; cases fs[k]? <;> rfl
  · intro k q fs; simp only [AV.sub]; cases fs[k]? <;> rfl
  · intro k q sz fs; simp only [AV.sub]; cases fs[k]? <;> rfl

def putA (k : Nat) (q : List Nat) (n : AV) (fs : List AV) : Option AV → AV
  | some d => .agg (fs.set k (AV.put q n d))
  | none => .agg fs
def putT (k : Nat) (q : List Nat) (n : AV) (fs : List AV) : Option AV → AV
  | some d => .tuple (fs.set k (AV.put q n d))
  | none => .tuple fs
def putU (k : Nat) (q : List Nat) (n : AV) (sz : Nat) (xs : List AV) : Option AV → AV
  | some d => .uslice sz (xs.set k (AV.put q n d))
  | none => .uslice sz xs
theorem put_s : (∀ n d, AV.put [] n d = n) ∧ (∀ k q n fs, AV.put (k :: q) n (.agg fs) = putA k q n fs fs[k]?) ∧ (∀ k q n fs, AV.put (k :: q) n (.tuple fs) = putT k q n fs fs[k]?) ∧
    (∀ k q n sz xs, AV.put (k :: q) n (.uslice sz xs) = putU k q n sz xs xs[k]?) ∧ (∀ q n d, AV.put (0 :: q) n (.ubox d) = .ubox (AV.put q n d)) ∧
    (∀ k q n fs d, putA k q n fs (some d) = .agg (fs.set k (AV.put q n d))) ∧ (∀ k q n fs d, putT k q n fs (some d) = .tuple (fs.set k (AV.put q n d))) ∧
    (∀ k q n sz xs d, putU k q n sz xs (some d) = .uslice sz (xs.set k (AV.put q n d))) := by
  refine ⟨fun n d => by simp [AV.put], ?_, ?_, ?_, fun q n d => by simp [AV.put], fun _ _ _ _ _ => rfl, fun _ _ _ _ _ => rfl, fun _ _ _ _ _ _ => rfl⟩
  · intro k q n fs; simp only [AV.put]; cases fs[k]? <;> rfl
  · intro k q n fs; simp only [AV.put]; cases fs[k]? <;> rfl
  · intro k q n sz fs; simp only [AV.put]; cases fs[k]? <;> rfl

/-- Widths. -/
theorem wd_s : (∀ k n, AV.wd (.int k n) = 1) ∧ (∀ b, AV.wd (.bool b) = 1) ∧ (∀ x, AV.wd (.str x) = 1) ∧ (∀ x, AV.wd (.slice x) = 1) ∧ (∀ n x, AV.wd (.uslice n x) = 1) ∧ (∀ x, AV.wd (.ref x) = 1) ∧ (∀ x, AV.wd (.ubox x) = 1) ∧
    AV.wd .nils = 1 ∧ AV.wd .nilp = 1 ∧ AV.wd .hole = 1 ∧ AV.wd .anyb = 1 ∧ (∀ x y, AV.wd (.h x y) = 1) ∧ (∀ x y, AV.wd (.hp x y) = 1) ∧ (∀ x y, AV.wd (.fn x y) = 1) ∧ (∀ fs, AV.wd (.agg fs) = AV.wds fs) ∧ (∀ fs, AV.wd (.tuple fs) = AV.wds fs) ∧ AV.wds [] = 0 ∧ (∀ d ds, AV.wds (d :: ds) = d.wd + AV.wds ds) := by
  simp [AV.wd, AV.wds]

theorem byte_wd (c : UInt8) : (byteAV c).wd = 1 := rfl
theorem byte_all (l : List UInt8) : (∀ d ∈ l.map byteAV, d.wd = 1) = True := by simp [byteAV, AV.wd]

theorem all_wd {α : Type} {e : α → AV} {n : Nat} (h : ∀ x, (e x).wd = n) (xs : List α) : (∀ d ∈ xs.map e, d.wd = n) = True := by
  simp only [List.mem_map, eq_iff_iff, iff_true]
  rintro d ⟨x, _, rfl⟩; exact h x

def bytS : TK → Option (List UInt8) → Option AV
  | .int .u8, some l => some (.str l)
  | _, _ => none
def cvtB (C : Cx) (l : List UInt8) : TK → TK → Option AV
  | .str, .str => some (.str l)
  | .str, .slice e => (match (C.T e).k with | .int .u8 => if l.length ≤ 9223372036854775807 then some (.uslice 1 (l.map byteAV)) else none | _ => none)
  | _, _ => none
def strO : TK → TK → TK → Option (List UInt8) → Option AV
  | .slice _, .int .u8, .str, some l => some (.str l)
  | _, _, _, _ => none
theorem cvt_i (C : Cx) (s : St) (A B : TypeId) (k k' : IntKind) (n : Int) (hA : (C.T A).ok = true) (hB : (C.T B).k = .int k') : cvt C s A B (.int k n) = some (.int k' (k'.wrap n)) := by
  simp only [cvt, hA, hB, if_true]
theorem byte_toB (m : Int) : byteAV (toB m) = .int .u8 (IntKind.u8.wrap m) := by
  have h : 0 ≤ IntKind.u8.wrap m ∧ IntKind.u8.wrap m < 256 := by rw [IntKind.wrap_u8]; omega
  simp only [byteAV, toB, UInt8.toNat_ofNat']
  congr 1
  omega
theorem toB_nat (m : Int) : ((toB m).toNat : Int) = IntKind.u8.wrap m := by
  have h := byte_toB m
  simpa [byteAV] using h
theorem cvt_sb (C : Cx) (s : St) (A B e : TypeId) (l : List UInt8) (hA : (C.T A).k = .str) (hB : (C.T B).k = .slice e) (he : (C.T e).k = .int .u8) (hl : l.length ≤ 9223372036854775807) : cvt C s A B (.str l) = some (.uslice 1 (l.map byteAV)) := by
  have hA' : (C.T A).ok = true := by simp [TI.ok, hA]
  simp only [cvt, hA', hA, hB, he, if_true, if_pos hl]
theorem cvt_ss (C : Cx) (s : St) (A B : TypeId) (l : List UInt8) (hA : (C.T A).k = .str) (hB : (C.T B).k = .str) : cvt C s A B (.str l) = some (.str l) := by
  have hA' : (C.T A).ok = true := by simp [TI.ok, hA]
  simp only [cvt, hA', hA, hB, if_true]
theorem cvt_bs (C : Cx) (s : St) (A B e : TypeId) (hA : (C.T A).k = .slice e) (hB : (C.T B).k = .str) (he : (C.T e).k = .int .u8) :
    (∀ l : List UInt8, cvt C s A B (.slice (l.map byteAV)) = some (.str l)) ∧ cvt C s A B .nils = some (.str []) ∧ (∀ x q (l : List UInt8), AV.sub q (s x) = some (.uslice 1 (l.map byteAV)) → cvt C s A B (.h x q) = some (.str l)) := by
  have hA' : (C.T A).ok = true := by simp [TI.ok, hA]
  refine ⟨fun l => ?_, ?_, fun x q l h => ?_⟩
  · simp only [cvt, hA', hA, hB, he, if_true, bytesOf_map]; rfl
  · simp only [cvt, hA', hA, hB, he, if_true]
  · simp only [cvt, hA', hA, hB, he, if_true, h, bytesOf_map]; rfl

/-! Control. -/
section
variable {C : Cx} {l : List (Nat × AV)} {Q : Exit → St → Prop} {s : St}

theorem w_reg {ros : List RO} {k : List Nat} (h : wpT C (stA l) ros none (fun _ s => Q .normal (stA (kpA k s)))) : wpC C (.reg ros (some k)) Q (stA l) := wpRs_of_T (fun _ _ h => h) h
theorem w_drw {ros : List RO} {af : List (List Nat)} {k : List Nat} (hlen : af.length = ros.length) (h : wpT C (stA l) ros (some []) (fun acc s => okP (clos af) 0 [] (acc.getD []).reverse = true ∧ Q .normal (stA (kpA k s)))) :
    wpC C (.drw ros af (some k)) Q (stA l) := drw_of_T hlen h
theorem w_seq {a b : SC} (h : ∀ Q' : Exit → St → Prop, (∀ s, onW (wpC C b Q) s → Q' .normal s) → (∀ s, Q .ret s → Q' .ret s) → (∀ i s, Q (.exit i) s → Q' (.exit i) s) → wpC C a Q' s) : wpC C (.seq a b) Q s :=
  h _ (fun _ h => h) (fun _ h => h) (fun _ _ h => h)
theorem w_sreg {ros : List RO} {k : List Nat} {b : SC} (h : wpT C (stA l) ros none (fun _ s => wpC C b Q (stA (kpA k s)))) : wpC C (.seq (.reg ros (some k)) b) Q (stA l) := wpRs_of_T (fun _ _ h => .inl h) h
theorem w_sdrw {ros : List RO} {af : List (List Nat)} {k : List Nat} {b : SC} (hlen : af.length = ros.length) (h : wpT C (stA l) ros (some []) (fun acc s => okP (clos af) 0 [] (acc.getD []).reverse = true ∧ wpC C b Q (stA (kpA k s)))) :
    wpC C (.seq (.drw ros af (some k)) b) Q (stA l) := drw_of_T (K := fun s => onW (wpC C b Q) (stA (kpA k s))) hlen (by
      have key : ∀ (os : List RO) (s : St) (acc : Option (List FP)), wpT C s os acc (fun acc s => okP (clos af) 0 [] (acc.getD []).reverse = true ∧ wpC C b Q (stA (kpA k s))) →
          wpT C s os acc (fun acc s => okP (clos af) 0 [] (acc.getD []).reverse = true ∧ onW (wpC C b Q) (stA (kpA k s))) := by
        intro os
        induction os with
        | nil => intro s acc h; exact ⟨h.1, .inl h.2⟩
        | cons o os ih =>
          intro s acc h
          have mono : ∀ {s : St} {so : SO} {K K' : List Nat → AV → St → Prop}, (∀ a b c, K a b c → K' a b c) → wpOT C s so K → wpOT C s so K' := by
            intro s so K K' hk h
            cases so with
            | call f args =>
              obtain ⟨g, caps, ps, r, h1, hcp, h2, h3, h4, h5, h6, h7, h8⟩ := h
              exact ⟨g, caps, ps, r, h1, hcp, h2, h3, h4, h5, h6, h7, hk _ _ _ h8⟩
            | _ => obtain ⟨av, s1, h1, h2⟩ := h; exact ⟨av, s1, h1, hk _ _ _ h2⟩
          simp only [wpT, wpRT] at h ⊢
          split
          · rename_i hg; rw [hg] at h; exact mono (fun _ _ _ => ih _ _) h
          · rename_i t b' hg
            rw [hg] at h
            simp only at h
            split
            · rename_i bb hs
              rw [hs] at h
              simp only at h
              split
              · rename_i hb; rw [if_pos hb] at h; exact mono (fun _ _ _ => ih _ _) h
              · rename_i hb; rw [if_neg hb] at h; exact ih _ _ h
            · rename_i hs; rw [hs] at h; exact ih _ _ h
            · rename_i h1 h2
              split at h
              · exact h1 _ (by assumption)
              · exact h2 (by assumption)
              · exact h
      exact key _ _ _ h)
theorem w_ct {c : SX} {a b : SC} (hc : ev s c = .bool true) (h : wpC C a Q s) : wpC C (.cond c a b) Q s := by simp only [wpC, hc, if_true]; exact h
theorem w_cf {c : SX} {a b : SC} (hc : ev s c = .bool false) (h : wpC C b Q s) : wpC C (.cond c a b) Q s := by simp only [wpC, hc]; exact h
theorem w_ca {c : SX} {a b : SC} (hc : ev s c = .anyb) (h1 : wpC C a Q s) (h2 : wpC C b Q s) : wpC C (.cond c a b) Q s := by simp only [wpC, hc]; exact ⟨h1, h2⟩
theorem w_blk {id : Nat} {b : SC} (h : ∀ Q' : Exit → St → Prop, (∀ s, Q .normal s → Q' .normal s) → (∀ s, Q .ret s → Q' .ret s) → (∀ s, Q .normal s → Q' (.exit id) s) → (∀ i s, i ≠ id → Q (.exit i) s → Q' (.exit i) s) → wpC C b Q' s) : wpC C (.block id b) Q s :=
  h (inBlk id Q) (fun _ h => h) (fun _ h => h) (fun s h => by simp only [inBlk, if_true]; exact h) (fun i s hi h => by simp only [inBlk, if_neg hi]; exact h)
theorem w_ex {id : Nat} (h : Q (.exit id) s) : wpC C (.exit id) Q s := h
theorem w_ret (h : Q .ret s) : wpC C .ret Q s := h
theorem w_skip (h : Q .normal s) : wpC C .skip Q s := h

/-- What is owed at a loop's head. -/
def lpC (C : Cx) (b : SC) (Q : Exit → St → Prop) (s : St) : Prop := ∀ Z : St → Prop, (∀ s', wpC C b (andThen (onW Z) Q) s' → Z s') → Z s
theorem w_loop {b : SC} (h : onW (lpC C b Q) s) : wpC C (.loop b) Q s := h
theorem lpC_step {b : SC} (h : ∀ Q' : Exit → St → Prop, (∀ s, onW (lpC C b Q) s → Q' .normal s) → (∀ s, Q .ret s → Q' .ret s) → (∀ i s, Q (.exit i) s → Q' (.exit i) s) → wpC C b Q' s) : lpC C b Q s := by
  intro Z hZ
  refine hZ s (wpC_mono b ?_ (h (andThen (onW (lpC C b Q)) Q) (fun _ h => h) (fun _ h => h) (fun _ _ h => h)))
  intro e s' h'
  cases e with
  | normal => exact onW_mono (fun s h => h Z hZ) s' h'
  | _ => exact h'

theorem weak_nil : WeakL s [] := fun p hp => by cases hp
/-- A state that keeps some slots. -/
theorem weak_eq {l' : List (Nat × AV)} (h : l'.map (·.2) = l'.map fun p => s p.1) : WeakL s l' := by
  intro p hp
  left
  induction l' with
  | nil => cases hp
  | cons a l' ih =>
    simp only [List.map_cons, List.cons.injEq] at h
    rcases List.mem_cons.1 hp with rfl | hp
    · exact h.1
    · exact ih h.2 hp
end
end Go.Fw
