/- Part of a proof that a law returns true for every input. No condition. -/
import Derived.Test.YtncnipaofaeaiaaFw34
namespace Go.Fw

/-! Walking: facts that the printed proofs lay. -/

theorem cvt_i' {C : Cx} {A B : TypeId} {k' : IntKind} (hA : (C.T A).ok = true) (hB : (C.T B).k = .int k') : ∀ s k n, cvt C s A B (.int k n) = some (.int k' (k'.wrap n)) := fun s k n => cvt_i C s A B k k' n hA hB
theorem cvt_sb' {C : Cx} {A B e : TypeId} (hA : (C.T A).k = .str) (hB : (C.T B).k = .slice e) (he : (C.T e).k = .int .u8) {l : List UInt8} (hl : l.length ≤ 9223372036854775807) : ∀ s, cvt C s A B (.str l) = some (.uslice 1 (l.map byteAV)) := fun s => cvt_sb C s A B e l hA hB he hl
theorem cvt_ss' {C : Cx} {A B : TypeId} (hA : (C.T A).k = .str) (hB : (C.T B).k = .str) : ∀ s l, cvt C s A B (.str l) = some (.str l) := fun s l => cvt_ss C s A B l hA hB
def strU : Option AV → Option AV
  | some (.uslice 1 xs) => (bytesOf xs).map .str
  | _ => none
theorem cvt_bs' {C : Cx} {A B e : TypeId} (hA : (C.T A).k = .slice e) (hB : (C.T B).k = .str) (he : (C.T e).k = .int .u8) :
    (∀ s xs, cvt C s A B (.slice xs) = (bytesOf xs).map .str) ∧ (∀ s, cvt C s A B .nils = some (.str [])) ∧ (∀ s x q, cvt C s A B (.h x q) = strU (AV.sub q (s x))) := by
  have hA' : (C.T A).ok = true := by simp [TI.ok, hA]
  refine ⟨fun s xs => ?_, fun s => ?_, fun s x q => ?_⟩
  · simp only [cvt, hA', hA, hB, he, if_true]
  · simp only [cvt, hA', hA, hB, he, if_true]
  · simp only [cvt, hA', hA, hB, he, if_true]
    rfl
theorem strU_s (xs : List AV) : strU (some (.uslice 1 xs)) = (bytesOf xs).map .str := rfl
theorem bytesOf_cons (c : UInt8) (r : List AV) : bytesOf (byteAV c :: r) = (bytesOf r).map (c :: ·) := by
  have := c.toNat_lt
  simp only [byteAV, bytesOf]
  rw [if_pos (by omega)]
  simp
theorem bytesOf_s : bytesOf [] = some [] ∧ (∀ l : List UInt8, bytesOf (l.map byteAV) = some l) ∧ (∀ (c : UInt8) r, bytesOf (.int .u8 (c.toNat : Int) :: r) = (bytesOf r).map (c :: ·)) ∧
    (∀ m r, bytesOf (.int .u8 (IntKind.u8.wrap m) :: r) = (bytesOf r).map (toB m :: ·)) :=
  ⟨rfl, bytesOf_map, fun c r => bytesOf_cons c r, fun m r => by rw [← byte_toB]; exact bytesOf_cons _ r⟩

theorem bnI_quo' {k : IntKind} {b : Int} (h : b ≠ 0) : ∀ a, bnI .quo k a k b = some (.int k (k.wrap (a.tdiv b))) := fun _ => bnI_quo h
theorem bnI_rem' {k : IntKind} {b : Int} (h : b ≠ 0) : ∀ a, bnI .rem k a k b = some (.int k (a.tmod b)) := fun _ => bnI_rem h
theorem bnI_shl' {k k' : IntKind} {b : Int} (h : ¬ b < 0) : ∀ a, bnI .shl k a k' b = some (.int k (k.wrap (a * 2 ^ (min b.toNat k.bits)))) := fun _ => bnI_shl h
theorem bnI_shr' {k k' : IntKind} {b : Int} (h : ¬ b < 0) : ∀ a, bnI .shr k a k' b = some (.int k (a.fdiv (2 ^ (min b.toNat k.bits)))) := fun _ => bnI_shr h

theorem all_wd' {α : Type} {e : α → AV} {n : Nat} (h : ∀ x, (e x).wd = n) : ∀ xs : List α, (∀ d ∈ xs.map e, d.wd = n) = True := all_wd h
theorem all_cons {P : AV → Prop} (d : AV) (ds : List AV) : (∀ x ∈ d :: ds, P x) = (P d ∧ ∀ x ∈ ds, P x) := by simp
theorem all_nil {P : AV → Prop} : (∀ x ∈ ([] : List AV), P x) = True := by simp

def addR (a b : List UInt8) : Option Unit → Option AV
  | some _ => some (.str (a ++ b))
  | none => none
theorem bnS_cat (a b : List UInt8) : bnS .add a b = addR a b (okLen (a.length + b.length)) := by
  simp only [bnS, okLen]; split <;> rfl
theorem addR_s (a b : List UInt8) (u : Unit) : addR a b (some u) = some (.str (a ++ b)) := rfl

theorem pth_s : (∀ l : List Nat, [] ++ l = l) ∧ (∀ a (l m : List Nat), (a :: l) ++ m = a :: (l ++ m)) := ⟨fun _ => rfl, fun _ _ _ => rfl⟩

/-! Appends. -/
def appB (C : Cx) (e U : TypeId) : Bool := (C.T e).ok && ((C.T e).zero.wd == (C.T e).sz) && (flat (C.T e).zero).isSome && appOk C e U
def apR (C : Cx) (e : TypeId) (xs : List AV) : Option (List AV × St) → Option (AV × St)
  | some (ys, s2) => if (∀ d ∈ ys, d.wd = (C.T e).sz) ∧ (room (C.T e).bytes (xs.length + ys.length)).isSome = true then some (.uslice (C.T e).sz (xs ++ ys), s2) else none
  | none => none
def apS (C : Cx) (e : TypeId) (y : AV) (o : Option Nat) : Option (AV × St) → Option (AV × St)
  | some (.uslice sz xs, s1) => if sz = (C.T e).sz then apR C e xs (apy s1 (pkO o y)) else none
  | _ => none
theorem room_iff (b n : Nat) : (room b n).isSome = true ↔ n * b ≤ 140737488355328 ∧ n ≤ 9223372036854775807 := by unfold room; split <;> simp_all
theorem apd_s {C : Cx} {T U e : TypeId} (hT : (C.T T).k = .slice e) (hok : appB C e U = true) : ∀ s x y, apd C s T U x y = apS C e y x.owner (apx C e s x) := by
  intro s x y
  simp only [appB, Bool.and_eq_true, beq_iff_eq] at hok
  rw [apd_eq, hT]
  simp only
  rw [if_pos ⟨hok.1.1.1, hok.1.1.2, hok.1.2, hok.2⟩]
  generalize x.owner = o
  cases apx C e s x with
  | none => rfl
  | some p =>
    obtain ⟨d, s1⟩ := p
    cases d <;> first
      | rfl
      | (simp only [apS]
         split
         · rename_i h; subst h
           generalize apy s1 (pkO o y) = z
           cases z with
           | none => rfl
           | some p => simp only [apR, room_iff]
         · rfl)
def apyU : Option (AV × St) → Option (List AV × St)
  | some (.uslice _ ys, s2) => some (ys, s2)
  | _ => none
theorem ap_s (s : St) : apy s .nils = some ([], s) ∧ (∀ ys, apy s (.slice ys) = some (ys, s)) ∧ (∀ l, apy s (.str l) = some (l.map byteAV, s)) ∧
    (∀ a q, apy s (.h a q) = apyU (tk s (.h a q))) ∧ (∀ n ys, apyU (some (.uslice n ys, s)) = some (ys, s)) :=
  ⟨rfl, fun _ => rfl, fun _ => rfl, fun _ _ => by simp only [apy]; rfl, fun _ _ => rfl⟩
theorem ap2_s (C : Cx) (e : TypeId) : (∀ s, apx C e s .nils = some (.uslice (C.T e).sz [], s)) ∧ (∀ s a q, apx C e s (.h a q) = tk s (.h a q)) ∧
    (∀ y o sz xs s1, apS C e y o (some (.uslice sz xs, s1)) = if sz = (C.T e).sz then apR C e xs (apy s1 (pkO o y)) else none) ∧
    (∀ xs ys s2, apR C e xs (some (ys, s2)) = if (∀ d ∈ ys, d.wd = (C.T e).sz) ∧ (room (C.T e).bytes (xs.length + ys.length)).isSome = true then some (.uslice (C.T e).sz (xs ++ ys), s2) else none) :=
  ⟨fun _ => rfl, fun _ _ _ => rfl, fun _ _ _ _ _ => rfl, fun _ _ _ => rfl⟩
theorem ap3_s : (∀ d, pkO none d = d) ∧ (∀ x d, pkO (some x) d = pk x d) ∧ (∀ x q, AV.owner (.h x q) = some x) ∧ AV.owner .nils = none :=
  ⟨fun _ => rfl, fun _ _ => rfl, fun _ _ => rfl, rfl⟩

/-! Takes. -/
def tkO (s : St) (x : Nat) (q : List Nat) : Option AV → Option (AV × St)
  | some d => if d.plain = true then none else some (d, upd (pkS x s) x (AV.put q d.hollow (s x)))
  | none => none
theorem tk_h (s : St) (x : Nat) (q : List Nat) : tk s (.h x q) = tkO s x q (AV.sub q (s x)) := by
  simp only [tk]; cases AV.sub q (s x) <;> rfl
theorem tk_s (s : St) : (∀ x q d, tkO s x q (some d) = if d.plain = true then none else some (d, upd (pkS x s) x (AV.put q d.hollow (s x)))) ∧ (∀ k n, tk s (.int k n) = some (.int k n, s)) ∧ (∀ b, tk s (.bool b) = some (.bool b, s)) ∧ (∀ x, tk s (.str x) = some (.str x, s)) ∧
    (∀ x, tk s (.slice x) = some (.slice x, s)) ∧ (∀ x, tk s (.ref x) = some (.ref x, s)) ∧ (∀ x, tk s (.agg x) = some (.agg x, s)) ∧ tk s .nils = some (.nils, s) ∧ tk s .nilp = some (.nilp, s) :=
  ⟨fun _ _ _ => rfl, fun _ _ => rfl, fun _ => rfl, fun _ => rfl, fun _ => rfl, fun _ => rfl, fun _ => rfl, rfl, rfl⟩
theorem upd_l (l : List (Nat × AV)) (t : Nat) (d : AV) : upd (stA l) t d = stA ((t, d) :: l) := upd_stA l t d
theorem hol_s : (∀ n x, AV.hollow (.uslice n x) = .hole) ∧ (∀ x, AV.hollow (.ubox x) = .hole) ∧ (∀ fs, AV.hollow (.agg fs) = .agg (AV.hollows fs)) ∧ (∀ fs, AV.hollow (.tuple fs) = .tuple (AV.hollows fs)) ∧ AV.hollows [] = [] ∧ (∀ d ds, AV.hollows (d :: ds) = d.hollow :: AV.hollows ds) ∧
    (∀ k n, AV.hollow (.int k n) = .int k n) ∧ (∀ b, AV.hollow (.bool b) = .bool b) ∧ (∀ x, AV.hollow (.str x) = .str x) ∧ (∀ x, AV.hollow (.slice x) = .slice x) ∧ (∀ x, AV.hollow (.ref x) = .ref x) ∧ AV.hollow .nils = .nils ∧ AV.hollow .nilp = .nilp ∧ AV.hollow .hole = .hole := by
  simp [AV.hollow, AV.hollows]
theorem bx_s (s : St) (x : AV) : bx s x = (match tk s x with | some (.tuple _, _) => none | some (d, s1) => some (.ubox d, s1) | none => none) := rfl

/-! Views. -/
def viewH : Option AV → Option AV
  | some d => (match d with | .tuple _ => none | d => if d.plain = true then none else some d.share)
  | none => none
def viewP : Option AV → Option AV
  | some d => (match d with | .tuple _ => none | d => some (.ref d.share))
  | none => none
theorem view_h (s : St) (x : Nat) (q : List Nat) : view s (.h x q) = viewH (AV.sub q (s x)) ∧ view s (.hp x q) = (if AV.cross q (s x) = true then viewP (AV.sub q (s x)) else none) := by
  constructor
  · simp only [view]; rfl
  · simp only [view]; rfl
theorem viewH_s : (∀ n xs, viewH (some (.uslice n xs)) = some (.slice (AV.shares xs))) ∧ (∀ d, viewH (some (.ubox d)) = some (.ref d.share)) ∧ (∀ fs, viewH (some (.agg fs)) = if AV.plains fs = true then none else some (.agg (AV.shares fs))) ∧
    (∀ fs, viewP (some (.agg fs)) = some (.ref (.agg (AV.shares fs)))) ∧ (∀ k n, viewP (some (.int k n)) = some (.ref (.int k n))) ∧ (∀ x, viewP (some (.str x)) = some (.ref (.str x))) :=
  ⟨fun _ _ => by simp [viewH, AV.plain, AV.share], fun _ => by simp [viewH, AV.plain, AV.share], fun fs => by cases h : AV.plains fs <;> simp [viewH, AV.plain, AV.share, h], fun _ => by simp [viewP, AV.share], fun _ _ => by simp [viewP, AV.share], fun _ => by simp [viewP, AV.share]⟩
theorem share_s : (∀ n xs, AV.share (.uslice n xs) = .slice (AV.shares xs)) ∧ (∀ d, AV.share (.ubox d) = .ref d.share) ∧ (∀ xs, AV.share (.slice xs) = .slice (AV.shares xs)) ∧ (∀ d, AV.share (.ref d) = .ref d.share) ∧ (∀ fs, AV.share (.agg fs) = .agg (AV.shares fs)) ∧ (∀ fs, AV.share (.tuple fs) = .tuple (AV.shares fs)) ∧
    (∀ k n, AV.share (.int k n) = .int k n) ∧ (∀ b, AV.share (.bool b) = .bool b) ∧ (∀ x, AV.share (.str x) = .str x) ∧ AV.share .nils = .nils ∧ AV.share .nilp = .nilp ∧ AV.shares [] = [] ∧ (∀ d ds, AV.shares (d :: ds) = d.share :: AV.shares ds) := by
  simp [AV.share, AV.shares]
theorem cross_s : (∀ d, AV.cross [] d = false) ∧ (∀ k q n xs, AV.cross (k :: q) (.uslice n xs) = true) ∧ (∀ k q d, AV.cross (k :: q) (.ubox d) = true) := by
  simp [AV.cross]

/-! Literals. -/
def bslU (sz : Nat) : Option (List AV × St) → Option (AV × St)
  | some (ds, s1) => some (.uslice sz ds, s1)
  | none => none
def bldU : Option (List AV × St) → Option (AV × St)
  | some (ds, s1) => some (.agg ds, s1)
  | none => none
theorem bsl_s {C : Cx} {T e n sz : Nat} {zs : List AV} (hT : (C.T T).k = .slice e) (hsz : (C.T e).sz = sz) (hz : List.replicate n (C.T e).zero = zs)
    (hok : ((C.T e).ok && ((C.T e).zero.wd == sz) && (flat (C.T e).zero).isSome && (sz != 0) && decide (n * sz ≤ 16777216)) = true) : ∀ s ps, bsl C s T n ps = bslU sz (flw (fun k => some (k * sz, sz)) s zs [] ps) := by
  intro s ps
  subst hsz
  simp only [Bool.and_eq_true, beq_iff_eq, bne_iff_ne, decide_eq_true_eq] at hok
  obtain ⟨⟨⟨⟨h1, h2⟩, h3⟩, h4⟩, h5⟩ := hok
  unfold bsl
  rw [hT]
  simp only
  rw [if_pos ⟨h1, h2, h3, h4, h5⟩, hz]
  cases flw (fun k => some (k * (C.T e).sz, (C.T e).sz)) s zs [] ps <;> rfl
theorem bld_s {C : Cx} {T : Nat} {fs : List (TypeId × Nat)} {zs : List AV} (hT : (C.T T).k = .struct fs) (hz : (C.T T).zero = .agg zs)
    (hok : ((flat (.agg zs)).isSome && fs.all fun f => (C.T f.1).ok) = true) : ∀ s ps, bld C s T ps = bldU (flw (fun k => (fs[k]?).map fun f => (f.2, (C.T f.1).sz)) s zs [] ps) := by
  intro s ps
  simp only [Bool.and_eq_true, List.all_eq_true] at hok
  unfold bld
  rw [hT, hz]
  simp only
  rw [if_pos ⟨hok.1, hok.2⟩]
  cases flw (fun k => (fs[k]?).map fun f => (f.2, (C.T f.1).sz)) s zs [] ps <;> rfl
def flwC (place : Nat → Option (Nat × Nat)) (k : Nat) (zs : List AV) (os : List (Option Nat)) (r : List (Nat × AV)) (o : Option Nat) : Option (Nat × Nat) → Option AV → Option (AV × St) → Option (List AV × St)
  | some (off, n), some z, some (d, s1) => (match d with
    | .tuple _ => none
    | d => if d.wd = n ∧ z.wd = n ∧ AV.wds (zs.take k) = off then flw place s1 (zs.set k d) (os ++ [o]) r else none)
  | _, _, _ => none
theorem flw_s (place : Nat → Option (Nat × Nat)) (s : St) (zs : List AV) (os : List (Option Nat)) : flw place s zs os [] = some (zs, s) ∧
    (∀ k a r, flw place s zs os ((k, a) :: r) = flwC place k zs os r (pkOs os a).owner (place k) zs[k]? (tk s (pkOs os a))) := by
  refine ⟨rfl, fun k a r => ?_⟩
  simp only [flw]
  cases tk s (pkOs os a) with
  | none => cases place k <;> cases zs[k]? <;> rfl
  | some p =>
    obtain ⟨d, s1⟩ := p
    cases place k with
    | none => cases zs[k]? <;> rfl
    | some q => cases zs[k]? <;> (cases d <;> rfl)
theorem pkOs_s : (∀ a, pkOs [] a = a) ∧ (∀ o os a, pkOs (o :: os) a = pkOs os (pkO o a)) := ⟨fun _ => rfl, fun _ _ _ => rfl⟩
theorem own_s : (∀ k n, AV.owner (.int k n) = none) ∧ (∀ b, AV.owner (.bool b) = none) ∧ (∀ x, AV.owner (.str x) = none) ∧ (∀ x, AV.owner (.slice x) = none) ∧ (∀ x, AV.owner (.ref x) = none) ∧ (∀ x, AV.owner (.agg x) = none) ∧ AV.owner .nilp = none ∧ AV.owner .nils = none ∧ (∀ x q, AV.owner (.h x q) = some x) :=
  ⟨fun _ _ => rfl, fun _ => rfl, fun _ => rfl, fun _ => rfl, fun _ => rfl, fun _ => rfl, rfl, rfl, fun _ _ => rfl⟩

end Go.Fw
