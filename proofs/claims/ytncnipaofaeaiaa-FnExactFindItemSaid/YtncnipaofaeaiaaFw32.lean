/- Part of a proof that a law returns true for every input. No condition. -/
import Derived.Test.YtncnipaofaeaiaaFw31
namespace Go.Fw

/-! Walking: equations for states that are lists. -/

def go0 (C : Cx) (dst : Option Nat) (os : List RO) (K : Option (List FP) → St → Prop) : Option (AV × St) → Prop
  | some (av, s1) => wpT C (fin s1 dst av) os none K
  | none => False

def go1 (C : Cx) (l : List (Nat × AV)) (U tk : List Nat) (dst : Option Nat) (os : List RO) (a : List FP) (K : Option (List FP) → St → Prop) : Option (AV × St) → Prop
  | some (av, s1) => wpT C (fin s1 dst av) os (some (fpO (stA l) U dst tk av :: a)) K
  | none => False

/-- A guarded operation, at what its guard says. -/
def gdT (C : Cx) (l : List (Nat × AV)) (dst : Option Nat) (so : SO) (t : Nat) (b : Bool) (os : List RO) (acc : Option (List FP)) (K : Option (List FP) → St → Prop) : AV → Prop
  | .bool b' => if b' = b then wpOT C (stA l) so (fun tk av s1 => wpT C (fin s1 dst av) os (pushF acc (fpO (stA l) (t :: use (stA l) so) dst tk av)) K) else wpT C (fin (stA l) dst (.tuple [])) os (pushF acc (fpO (stA l) [t] dst [] (.tuple []))) K
  | .tuple [] => wpT C (fin (stA l) dst (.tuple [])) os (pushF acc (fpO (stA l) [t] dst [] (.tuple []))) K
  | _ => False

section
variable {C : Cx} {l : List (Nat × AV)} {os : List RO} {K : Option (List FP) → St → Prop} {dst : Option Nat} {a : List FP} {acc : Option (List FP)}

theorem wpOT_eff {s : St} {so : SO} {K : List Nat → AV → St → Prop} (hn : so.isCall = false) : wpOT C s so K = (match eff C s so with
    | some (av, s1) => K (tks s so) av s1
    | none => False) := by
  apply propext
  constructor
  · intro h
    cases so <;> first
      | (simp [SO.isCall] at hn; done)
      | (obtain ⟨av, s1, h1, h2⟩ := h; rw [h1]; exact h2)
  · intro h
    split at h
    · rename_i av s1 he
      cases so <;> first
        | (simp [SO.isCall] at hn; done)
        | exact ⟨av, s1, he, h⟩
    · exact h.elim

theorem wpT_nil : wpT C (stA l) [] acc K = K acc (stA l) := rfl

theorem wpT_0 {so : SO} (hn : so.isCall = false) : wpT C (stA l) (⟨dst, so, none⟩ :: os) none K = go0 C dst os K (eff C (stA l) so) := by
  simp only [wpT, wpRT, pushF]
  rw [wpOT_eff hn]
  cases eff C (stA l) so with
  | none => rfl
  | some p => rfl

theorem wpT_1 {so : SO} (hn : so.isCall = false) : wpT C (stA l) (⟨dst, so, none⟩ :: os) (some a) K = go1 C l (use (stA l) so) (tks (stA l) so) dst os a K (eff C (stA l) so) := by
  simp only [wpT, wpRT, pushF]
  rw [wpOT_eff hn]
  cases eff C (stA l) so with
  | none => rfl
  | some p => rfl

theorem wpT_g {so : SO} {t : Nat} {b : Bool} : wpT C (stA l) (⟨dst, so, some (t, b)⟩ :: os) acc K = gdT C l dst so t b os acc K (stA l t) := by
  simp only [wpT, wpRT]
  generalize stA l t = v
  cases v <;> first | rfl | (rename_i vs; cases vs <;> rfl)

theorem gdT_0 {so : SO} {t : Nat} {b : Bool} (hn : so.isCall = false) : gdT C l dst so t b os none K (.bool b) = go0 C dst os K (eff C (stA l) so) := by
  simp only [gdT, if_true]
  rw [wpOT_eff hn]
  cases eff C (stA l) so with
  | none => rfl
  | some p => rfl

theorem gdT_1 {so : SO} {t : Nat} {b : Bool} (hn : so.isCall = false) : gdT C l dst so t b os (some a) K (.bool b) = go1 C l (t :: use (stA l) so) (tks (stA l) so) dst os a K (eff C (stA l) so) := by
  simp only [gdT, if_true]
  rw [wpOT_eff hn]
  cases eff C (stA l) so with
  | none => rfl
  | some p => rfl

theorem gdT_no0 {so : SO} {t : Nat} : gdT C l dst so t true os none K (.bool false) = wpT C (fin (stA l) dst (.tuple [])) os none K ∧ gdT C l dst so t false os none K (.bool true) = wpT C (fin (stA l) dst (.tuple [])) os none K ∧
    (∀ b, gdT C l dst so t b os none K (.tuple []) = wpT C (fin (stA l) dst (.tuple [])) os none K) := ⟨rfl, rfl, fun _ => rfl⟩
theorem gdT_no1 {so : SO} {t : Nat} : gdT C l dst so t true os (some a) K (.bool false) = wpT C (fin (stA l) dst (.tuple [])) os (some (fpO (stA l) [t] dst [] (.tuple []) :: a)) K ∧
    gdT C l dst so t false os (some a) K (.bool true) = wpT C (fin (stA l) dst (.tuple [])) os (some (fpO (stA l) [t] dst [] (.tuple []) :: a)) K ∧
    (∀ b, gdT C l dst so t b os (some a) K (.tuple []) = wpT C (fin (stA l) dst (.tuple [])) os (some (fpO (stA l) [t] dst [] (.tuple []) :: a)) K) := ⟨rfl, rfl, fun _ => rfl⟩

theorem go0_some (av : AV) (s1 : St) : go0 C dst os K (some (av, s1)) = wpT C (fin s1 dst av) os none K := rfl
theorem go1_some (U tk : List Nat) (av : AV) (s1 : St) : go1 C l U tk dst os a K (some (av, s1)) = wpT C (fin s1 dst av) os (some (fpO (stA l) U dst tk av :: a)) K := rfl

def asgV (s : St) : AV → Option (AV × St)
  | .h y q => tk s (.h y q)
  | d => some (d, s)
def pickV (s : St) : AV → AV → AV → Option (AV × St)
  | .bool b', x, y => some (if b' then x else y, s)
  | _, _, _ => none
def keepS (s : St) : Option AV → Option (AV × St)
  | some d => some (d, s)
  | none => none
def stoS : Option St → Option (AV × St)
  | some s1 => some (.hole, s1)
  | none => none
def evs (s : St) : List SX → List AV
  | [] => []
  | x :: xs => ev s x :: evs s xs
def evPs (s : St) : List (Nat × SX) → List (Nat × AV)
  | [] => []
  | (k, x) :: xs => (k, ev s x) :: evPs s xs
def evO (s : St) : Option SX → Option AV
  | none => none
  | some x => some (ev s x)

theorem keepS_map (s : St) (x : Option AV) : (x.map fun d => (d, s)) = keepS s x := by cases x <;> rfl
theorem stoS_map (x : Option St) : (x.map fun s1 => (AV.hole, s1)) = stoS x := by cases x <;> rfl
theorem evs_map (s : St) : ∀ xs : List SX, xs.map (ev s) = evs s xs
  | [] => rfl
  | x :: xs => by simp only [List.map_cons, evs, evs_map s xs]
theorem evPs_map (s : St) : ∀ xs : List (Nat × SX), (xs.map fun p => (p.1, ev s p.2)) = evPs s xs
  | [] => rfl
  | (k, x) :: xs => by simp only [List.map_cons, evPs, evPs_map s xs]
theorem evO_map (s : St) (x : Option SX) : x.map (ev s) = evO s x := by cases x <;> rfl

theorem eff_mv (x : SX) : eff C (stA l) (.mv x) = some (ev (stA l) x, stA l) := by
  rfl
theorem eff_asg (x : SX) : eff C (stA l) (.asg x) = asgV (stA l) (ev (stA l) x) := by
  simp only [eff]; cases ev (stA l) x <;> rfl
theorem eff_pick (c x y : SX) : eff C (stA l) (.pick c x y) = pickV (stA l) (ev (stA l) c) (ev (stA l) x) (ev (stA l) y) := by
  simp only [eff]; cases ev (stA l) c <;> first | rfl | (rename_i b; cases b <;> rfl)
theorem eff_alc (T : TypeId) : eff C (stA l) (.alc T) = keepS (stA l) (alc C T) := by
  simp only [eff, keepS_map]
theorem eff_bx (T : TypeId) (x : SX) : eff C (stA l) (.bx T x) = bx (stA l) (ev (stA l) x) := by
  rfl
theorem eff_bld (T : TypeId) (ps : List (Nat × SX)) : eff C (stA l) (.bld T ps) = bld C (stA l) T (evPs (stA l) ps) := by
  simp only [eff, evPs_map]
theorem eff_bsl (T : TypeId) (n : Nat) (ps : List (Nat × SX)) : eff C (stA l) (.bsl T n ps) = bsl C (stA l) T n (evPs (stA l) ps) := by
  simp only [eff, evPs_map]
theorem eff_ld (T : TypeId) (x : SX) : eff C (stA l) (.ld T x) = keepS (stA l) (ld C (stA l) T (ev (stA l) x)) := by
  simp only [eff, keepS_map]
theorem eff_sto (T : TypeId) (x y : SX) : eff C (stA l) (.sto T x y) = stoS (sto C (stA l) T (ev (stA l) x) (ev (stA l) y)) := by
  simp only [eff, stoS_map]
theorem eff_nilc (x : SX) : eff C (stA l) (.nilc x) = keepS (stA l) (nilc (stA l) (ev (stA l) x)) := by
  simp only [eff, keepS_map]
theorem eff_bn (op : BinOp) (T : TypeId) (x y : SX) : eff C (stA l) (.bn op T x y) = keepS (stA l) (bn C (stA l) op T (ev (stA l) x) (ev (stA l) y)) := by
  simp only [eff, keepS_map]
theorem eff_un (op : UnOp) (x : SX) : eff C (stA l) (.un op x) = keepS (stA l) (un op (ev (stA l) x)) := by
  simp only [eff, keepS_map]
theorem eff_cvt (A B : TypeId) (x : SX) : eff C (stA l) (.cvt A B x) = keepS (stA l) (cvt C (stA l) A B (ev (stA l) x)) := by
  simp only [eff, keepS_map]
theorem eff_mkf (f : FuncId) (cs : List SX) : eff C (stA l) (.mkf f cs) = some (.fn f (evs (stA l) cs), stA l) := by
  simp only [eff, evs_map]
theorem eff_mks (T : TypeId) (x y : SX) : eff C (stA l) (.mks T x y) = keepS (stA l) (mks C T (ev (stA l) x) (ev (stA l) y)) := by
  simp only [eff, keepS_map]
theorem eff_slc (T : TypeId) (x : SX) (lo hi : Option SX) : eff C (stA l) (.slc T x lo hi) = slc C (stA l) T (ev (stA l) x) (evO (stA l) lo) (evO (stA l) hi) := by
  simp only [eff, evO_map]
theorem eff_fa (T : TypeId) (x : SX) (k : Nat) : eff C (stA l) (.fa T x k) = keepS (stA l) (fa C (stA l) T (ev (stA l) x) k) := by
  simp only [eff, keepS_map]
theorem eff_ia (T : TypeId) (x y : SX) : eff C (stA l) (.ia T x y) = keepS (stA l) (ia C (stA l) T (ev (stA l) x) (ev (stA l) y)) := by
  simp only [eff, keepS_map]
theorem eff_idx (T : TypeId) (x y : SX) : eff C (stA l) (.idx T x y) = keepS (stA l) (idx C T (ev (stA l) x) (ev (stA l) y)) := by
  simp only [eff, keepS_map]
theorem eff_ex (x : SX) (k : Nat) : eff C (stA l) (.ex x k) = keepS (stA l) (ex (stA l) (ev (stA l) x) k) := by
  simp only [eff, keepS_map]
theorem eff_len (T : TypeId) (x : SX) : eff C (stA l) (.len T x) = keepS (stA l) (ln C (stA l) T (ev (stA l) x)) := by
  simp only [eff, keepS_map]
theorem eff_app (T U : TypeId) (x y : SX) : eff C (stA l) (.app T U x y) = apd C (stA l) T U (ev (stA l) x) (ev (stA l) y) := by
  rfl
theorem stp0 :
    (∀ (x : SX) , wpT C (stA l) (⟨dst, .mv x, none⟩ :: os) none K = go0 C dst os K (some (ev (stA l) x, stA l))) ∧
    (∀ (x : SX) , wpT C (stA l) (⟨dst, .asg x, none⟩ :: os) none K = go0 C dst os K (asgV (stA l) (ev (stA l) x))) ∧
    (∀ (c x y : SX) , wpT C (stA l) (⟨dst, .pick c x y, none⟩ :: os) none K = go0 C dst os K (pickV (stA l) (ev (stA l) c) (ev (stA l) x) (ev (stA l) y))) ∧
    (∀ (T : TypeId) , wpT C (stA l) (⟨dst, .alc T, none⟩ :: os) none K = go0 C dst os K (keepS (stA l) (alc C T))) ∧
    (∀ (T : TypeId) (x : SX) , wpT C (stA l) (⟨dst, .bx T x, none⟩ :: os) none K = go0 C dst os K (bx (stA l) (ev (stA l) x))) ∧
    (∀ (T : TypeId) (ps : List (Nat × SX)) , wpT C (stA l) (⟨dst, .bld T ps, none⟩ :: os) none K = go0 C dst os K (bld C (stA l) T (evPs (stA l) ps))) ∧
    (∀ (T : TypeId) (n : Nat) (ps : List (Nat × SX)) , wpT C (stA l) (⟨dst, .bsl T n ps, none⟩ :: os) none K = go0 C dst os K (bsl C (stA l) T n (evPs (stA l) ps))) ∧
    (∀ (T : TypeId) (x : SX) , wpT C (stA l) (⟨dst, .ld T x, none⟩ :: os) none K = go0 C dst os K (keepS (stA l) (ld C (stA l) T (ev (stA l) x)))) ∧
    (∀ (T : TypeId) (x y : SX) , wpT C (stA l) (⟨dst, .sto T x y, none⟩ :: os) none K = go0 C dst os K (stoS (sto C (stA l) T (ev (stA l) x) (ev (stA l) y)))) ∧
    (∀ (x : SX) , wpT C (stA l) (⟨dst, .nilc x, none⟩ :: os) none K = go0 C dst os K (keepS (stA l) (nilc (stA l) (ev (stA l) x)))) ∧
    (∀ (op : BinOp) (T : TypeId) (x y : SX) , wpT C (stA l) (⟨dst, .bn op T x y, none⟩ :: os) none K = go0 C dst os K (keepS (stA l) (bn C (stA l) op T (ev (stA l) x) (ev (stA l) y)))) ∧
    (∀ (op : UnOp) (x : SX) , wpT C (stA l) (⟨dst, .un op x, none⟩ :: os) none K = go0 C dst os K (keepS (stA l) (un op (ev (stA l) x)))) ∧
    (∀ (A B : TypeId) (x : SX) , wpT C (stA l) (⟨dst, .cvt A B x, none⟩ :: os) none K = go0 C dst os K (keepS (stA l) (cvt C (stA l) A B (ev (stA l) x)))) ∧
    (∀ (f : FuncId) (cs : List SX) , wpT C (stA l) (⟨dst, .mkf f cs, none⟩ :: os) none K = go0 C dst os K (some (.fn f (evs (stA l) cs), stA l))) ∧
    (∀ (T : TypeId) (x y : SX) , wpT C (stA l) (⟨dst, .mks T x y, none⟩ :: os) none K = go0 C dst os K (keepS (stA l) (mks C T (ev (stA l) x) (ev (stA l) y)))) ∧
    (∀ (T : TypeId) (x : SX) (lo hi : Option SX) , wpT C (stA l) (⟨dst, .slc T x lo hi, none⟩ :: os) none K = go0 C dst os K (slc C (stA l) T (ev (stA l) x) (evO (stA l) lo) (evO (stA l) hi))) ∧
    (∀ (T : TypeId) (x : SX) (k : Nat) , wpT C (stA l) (⟨dst, .fa T x k, none⟩ :: os) none K = go0 C dst os K (keepS (stA l) (fa C (stA l) T (ev (stA l) x) k))) ∧
    (∀ (T : TypeId) (x y : SX) , wpT C (stA l) (⟨dst, .ia T x y, none⟩ :: os) none K = go0 C dst os K (keepS (stA l) (ia C (stA l) T (ev (stA l) x) (ev (stA l) y)))) ∧
    (∀ (T : TypeId) (x y : SX) , wpT C (stA l) (⟨dst, .idx T x y, none⟩ :: os) none K = go0 C dst os K (keepS (stA l) (idx C T (ev (stA l) x) (ev (stA l) y)))) ∧
    (∀ (x : SX) (k : Nat) , wpT C (stA l) (⟨dst, .ex x k, none⟩ :: os) none K = go0 C dst os K (keepS (stA l) (ex (stA l) (ev (stA l) x) k))) ∧
    (∀ (T : TypeId) (x : SX) , wpT C (stA l) (⟨dst, .len T x, none⟩ :: os) none K = go0 C dst os K (keepS (stA l) (ln C (stA l) T (ev (stA l) x)))) ∧
    (∀ (T U : TypeId) (x y : SX) , wpT C (stA l) (⟨dst, .app T U x y, none⟩ :: os) none K = go0 C dst os K (apd C (stA l) T U (ev (stA l) x) (ev (stA l) y))) :=
  ⟨fun x => (wpT_0 rfl).trans (congrArg _ (eff_mv x)), fun x => (wpT_0 rfl).trans (congrArg _ (eff_asg x)), fun c x y => (wpT_0 rfl).trans (congrArg _ (eff_pick c x y)), fun T => (wpT_0 rfl).trans (congrArg _ (eff_alc T)), fun T x => (wpT_0 rfl).trans (congrArg _ (eff_bx T x)), fun T ps => (wpT_0 rfl).trans (congrArg _ (eff_bld T ps)), fun T n ps => (wpT_0 rfl).trans (congrArg _ (eff_bsl T n ps)), fun T x => (wpT_0 rfl).trans (congrArg _ (eff_ld T x)), fun T x y => (wpT_0 rfl).trans (congrArg _ (eff_sto T x y)), fun x => (wpT_0 rfl).trans (congrArg _ (eff_nilc x)), fun op T x y => (wpT_0 rfl).trans (congrArg _ (eff_bn op T x y)), fun op x => (wpT_0 rfl).trans (congrArg _ (eff_un op x)), fun A B x => (wpT_0 rfl).trans (congrArg _ (eff_cvt A B x)), fun f cs => (wpT_0 rfl).trans (congrArg _ (eff_mkf f cs)), fun T x y => (wpT_0 rfl).trans (congrArg _ (eff_mks T x y)), fun T x lo hi => (wpT_0 rfl).trans (congrArg _ (eff_slc T x lo hi)), fun T x k => (wpT_0 rfl).trans (congrArg _ (eff_fa T x k)), fun T x y => (wpT_0 rfl).trans (congrArg _ (eff_ia T x y)), fun T x y => (wpT_0 rfl).trans (congrArg _ (eff_idx T x y)), fun x k => (wpT_0 rfl).trans (congrArg _ (eff_ex x k)), fun T x => (wpT_0 rfl).trans (congrArg _ (eff_len T x)), fun T U x y => (wpT_0 rfl).trans (congrArg _ (eff_app T U x y))⟩

theorem stp1 :
    (∀ (x : SX) , wpT C (stA l) (⟨dst, .mv x, none⟩ :: os) (some a) K = go1 C l (use (stA l) (.mv x)) (tks (stA l) (.mv x)) dst os a K (some (ev (stA l) x, stA l))) ∧
    (∀ (x : SX) , wpT C (stA l) (⟨dst, .asg x, none⟩ :: os) (some a) K = go1 C l (use (stA l) (.asg x)) (tks (stA l) (.asg x)) dst os a K (asgV (stA l) (ev (stA l) x))) ∧
    (∀ (c x y : SX) , wpT C (stA l) (⟨dst, .pick c x y, none⟩ :: os) (some a) K = go1 C l (use (stA l) (.pick c x y)) (tks (stA l) (.pick c x y)) dst os a K (pickV (stA l) (ev (stA l) c) (ev (stA l) x) (ev (stA l) y))) ∧
    (∀ (T : TypeId) , wpT C (stA l) (⟨dst, .alc T, none⟩ :: os) (some a) K = go1 C l (use (stA l) (.alc T)) (tks (stA l) (.alc T)) dst os a K (keepS (stA l) (alc C T))) ∧
    (∀ (T : TypeId) (x : SX) , wpT C (stA l) (⟨dst, .bx T x, none⟩ :: os) (some a) K = go1 C l (use (stA l) (.bx T x)) (tks (stA l) (.bx T x)) dst os a K (bx (stA l) (ev (stA l) x))) ∧
    (∀ (T : TypeId) (ps : List (Nat × SX)) , wpT C (stA l) (⟨dst, .bld T ps, none⟩ :: os) (some a) K = go1 C l (use (stA l) (.bld T ps)) (tks (stA l) (.bld T ps)) dst os a K (bld C (stA l) T (evPs (stA l) ps))) ∧
    (∀ (T : TypeId) (n : Nat) (ps : List (Nat × SX)) , wpT C (stA l) (⟨dst, .bsl T n ps, none⟩ :: os) (some a) K = go1 C l (use (stA l) (.bsl T n ps)) (tks (stA l) (.bsl T n ps)) dst os a K (bsl C (stA l) T n (evPs (stA l) ps))) ∧
    (∀ (T : TypeId) (x : SX) , wpT C (stA l) (⟨dst, .ld T x, none⟩ :: os) (some a) K = go1 C l (use (stA l) (.ld T x)) (tks (stA l) (.ld T x)) dst os a K (keepS (stA l) (ld C (stA l) T (ev (stA l) x)))) ∧
    (∀ (T : TypeId) (x y : SX) , wpT C (stA l) (⟨dst, .sto T x y, none⟩ :: os) (some a) K = go1 C l (use (stA l) (.sto T x y)) (tks (stA l) (.sto T x y)) dst os a K (stoS (sto C (stA l) T (ev (stA l) x) (ev (stA l) y)))) ∧
    (∀ (x : SX) , wpT C (stA l) (⟨dst, .nilc x, none⟩ :: os) (some a) K = go1 C l (use (stA l) (.nilc x)) (tks (stA l) (.nilc x)) dst os a K (keepS (stA l) (nilc (stA l) (ev (stA l) x)))) ∧
    (∀ (op : BinOp) (T : TypeId) (x y : SX) , wpT C (stA l) (⟨dst, .bn op T x y, none⟩ :: os) (some a) K = go1 C l (use (stA l) (.bn op T x y)) (tks (stA l) (.bn op T x y)) dst os a K (keepS (stA l) (bn C (stA l) op T (ev (stA l) x) (ev (stA l) y)))) ∧
    (∀ (op : UnOp) (x : SX) , wpT C (stA l) (⟨dst, .un op x, none⟩ :: os) (some a) K = go1 C l (use (stA l) (.un op x)) (tks (stA l) (.un op x)) dst os a K (keepS (stA l) (un op (ev (stA l) x)))) ∧
    (∀ (A B : TypeId) (x : SX) , wpT C (stA l) (⟨dst, .cvt A B x, none⟩ :: os) (some a) K = go1 C l (use (stA l) (.cvt A B x)) (tks (stA l) (.cvt A B x)) dst os a K (keepS (stA l) (cvt C (stA l) A B (ev (stA l) x)))) ∧
    (∀ (f : FuncId) (cs : List SX) , wpT C (stA l) (⟨dst, .mkf f cs, none⟩ :: os) (some a) K = go1 C l (use (stA l) (.mkf f cs)) (tks (stA l) (.mkf f cs)) dst os a K (some (.fn f (evs (stA l) cs), stA l))) ∧
    (∀ (T : TypeId) (x y : SX) , wpT C (stA l) (⟨dst, .mks T x y, none⟩ :: os) (some a) K = go1 C l (use (stA l) (.mks T x y)) (tks (stA l) (.mks T x y)) dst os a K (keepS (stA l) (mks C T (ev (stA l) x) (ev (stA l) y)))) ∧
    (∀ (T : TypeId) (x : SX) (lo hi : Option SX) , wpT C (stA l) (⟨dst, .slc T x lo hi, none⟩ :: os) (some a) K = go1 C l (use (stA l) (.slc T x lo hi)) (tks (stA l) (.slc T x lo hi)) dst os a K (slc C (stA l) T (ev (stA l) x) (evO (stA l) lo) (evO (stA l) hi))) ∧
    (∀ (T : TypeId) (x : SX) (k : Nat) , wpT C (stA l) (⟨dst, .fa T x k, none⟩ :: os) (some a) K = go1 C l (use (stA l) (.fa T x k)) (tks (stA l) (.fa T x k)) dst os a K (keepS (stA l) (fa C (stA l) T (ev (stA l) x) k))) ∧
    (∀ (T : TypeId) (x y : SX) , wpT C (stA l) (⟨dst, .ia T x y, none⟩ :: os) (some a) K = go1 C l (use (stA l) (.ia T x y)) (tks (stA l) (.ia T x y)) dst os a K (keepS (stA l) (ia C (stA l) T (ev (stA l) x) (ev (stA l) y)))) ∧
    (∀ (T : TypeId) (x y : SX) , wpT C (stA l) (⟨dst, .idx T x y, none⟩ :: os) (some a) K = go1 C l (use (stA l) (.idx T x y)) (tks (stA l) (.idx T x y)) dst os a K (keepS (stA l) (idx C T (ev (stA l) x) (ev (stA l) y)))) ∧
    (∀ (x : SX) (k : Nat) , wpT C (stA l) (⟨dst, .ex x k, none⟩ :: os) (some a) K = go1 C l (use (stA l) (.ex x k)) (tks (stA l) (.ex x k)) dst os a K (keepS (stA l) (ex (stA l) (ev (stA l) x) k))) ∧
    (∀ (T : TypeId) (x : SX) , wpT C (stA l) (⟨dst, .len T x, none⟩ :: os) (some a) K = go1 C l (use (stA l) (.len T x)) (tks (stA l) (.len T x)) dst os a K (keepS (stA l) (ln C (stA l) T (ev (stA l) x)))) ∧
    (∀ (T U : TypeId) (x y : SX) , wpT C (stA l) (⟨dst, .app T U x y, none⟩ :: os) (some a) K = go1 C l (use (stA l) (.app T U x y)) (tks (stA l) (.app T U x y)) dst os a K (apd C (stA l) T U (ev (stA l) x) (ev (stA l) y))) :=
  ⟨fun x => (wpT_1 rfl).trans (congrArg _ (eff_mv x)), fun x => (wpT_1 rfl).trans (congrArg _ (eff_asg x)), fun c x y => (wpT_1 rfl).trans (congrArg _ (eff_pick c x y)), fun T => (wpT_1 rfl).trans (congrArg _ (eff_alc T)), fun T x => (wpT_1 rfl).trans (congrArg _ (eff_bx T x)), fun T ps => (wpT_1 rfl).trans (congrArg _ (eff_bld T ps)), fun T n ps => (wpT_1 rfl).trans (congrArg _ (eff_bsl T n ps)), fun T x => (wpT_1 rfl).trans (congrArg _ (eff_ld T x)), fun T x y => (wpT_1 rfl).trans (congrArg _ (eff_sto T x y)), fun x => (wpT_1 rfl).trans (congrArg _ (eff_nilc x)), fun op T x y => (wpT_1 rfl).trans (congrArg _ (eff_bn op T x y)), fun op x => (wpT_1 rfl).trans (congrArg _ (eff_un op x)), fun A B x => (wpT_1 rfl).trans (congrArg _ (eff_cvt A B x)), fun f cs => (wpT_1 rfl).trans (congrArg _ (eff_mkf f cs)), fun T x y => (wpT_1 rfl).trans (congrArg _ (eff_mks T x y)), fun T x lo hi => (wpT_1 rfl).trans (congrArg _ (eff_slc T x lo hi)), fun T x k => (wpT_1 rfl).trans (congrArg _ (eff_fa T x k)), fun T x y => (wpT_1 rfl).trans (congrArg _ (eff_ia T x y)), fun T x y => (wpT_1 rfl).trans (congrArg _ (eff_idx T x y)), fun x k => (wpT_1 rfl).trans (congrArg _ (eff_ex x k)), fun T x => (wpT_1 rfl).trans (congrArg _ (eff_len T x)), fun T U x y => (wpT_1 rfl).trans (congrArg _ (eff_app T U x y))⟩

theorem gds0 :
    (∀ (x : SX) (t : Nat), gdT C l dst (.mv x) t true os none K (.bool true) = go0 C dst os K (some (ev (stA l) x, stA l))) ∧
    (∀ (x : SX) (t : Nat), gdT C l dst (.mv x) t false os none K (.bool false) = go0 C dst os K (some (ev (stA l) x, stA l))) ∧
    (∀ (x : SX) (t : Nat), gdT C l dst (.asg x) t true os none K (.bool true) = go0 C dst os K (asgV (stA l) (ev (stA l) x))) ∧
    (∀ (x : SX) (t : Nat), gdT C l dst (.asg x) t false os none K (.bool false) = go0 C dst os K (asgV (stA l) (ev (stA l) x))) ∧
    (∀ (c x y : SX) (t : Nat), gdT C l dst (.pick c x y) t true os none K (.bool true) = go0 C dst os K (pickV (stA l) (ev (stA l) c) (ev (stA l) x) (ev (stA l) y))) ∧
    (∀ (c x y : SX) (t : Nat), gdT C l dst (.pick c x y) t false os none K (.bool false) = go0 C dst os K (pickV (stA l) (ev (stA l) c) (ev (stA l) x) (ev (stA l) y))) ∧
    (∀ (T : TypeId) (t : Nat), gdT C l dst (.alc T) t true os none K (.bool true) = go0 C dst os K (keepS (stA l) (alc C T))) ∧
    (∀ (T : TypeId) (t : Nat), gdT C l dst (.alc T) t false os none K (.bool false) = go0 C dst os K (keepS (stA l) (alc C T))) ∧
    (∀ (T : TypeId) (x : SX) (t : Nat), gdT C l dst (.bx T x) t true os none K (.bool true) = go0 C dst os K (bx (stA l) (ev (stA l) x))) ∧
    (∀ (T : TypeId) (x : SX) (t : Nat), gdT C l dst (.bx T x) t false os none K (.bool false) = go0 C dst os K (bx (stA l) (ev (stA l) x))) ∧
    (∀ (T : TypeId) (ps : List (Nat × SX)) (t : Nat), gdT C l dst (.bld T ps) t true os none K (.bool true) = go0 C dst os K (bld C (stA l) T (evPs (stA l) ps))) ∧
    (∀ (T : TypeId) (ps : List (Nat × SX)) (t : Nat), gdT C l dst (.bld T ps) t false os none K (.bool false) = go0 C dst os K (bld C (stA l) T (evPs (stA l) ps))) ∧
    (∀ (T : TypeId) (n : Nat) (ps : List (Nat × SX)) (t : Nat), gdT C l dst (.bsl T n ps) t true os none K (.bool true) = go0 C dst os K (bsl C (stA l) T n (evPs (stA l) ps))) ∧
    (∀ (T : TypeId) (n : Nat) (ps : List (Nat × SX)) (t : Nat), gdT C l dst (.bsl T n ps) t false os none K (.bool false) = go0 C dst os K (bsl C (stA l) T n (evPs (stA l) ps))) ∧
    (∀ (T : TypeId) (x : SX) (t : Nat), gdT C l dst (.ld T x) t true os none K (.bool true) = go0 C dst os K (keepS (stA l) (ld C (stA l) T (ev (stA l) x)))) ∧
    (∀ (T : TypeId) (x : SX) (t : Nat), gdT C l dst (.ld T x) t false os none K (.bool false) = go0 C dst os K (keepS (stA l) (ld C (stA l) T (ev (stA l) x)))) ∧
    (∀ (T : TypeId) (x y : SX) (t : Nat), gdT C l dst (.sto T x y) t true os none K (.bool true) = go0 C dst os K (stoS (sto C (stA l) T (ev (stA l) x) (ev (stA l) y)))) ∧
    (∀ (T : TypeId) (x y : SX) (t : Nat), gdT C l dst (.sto T x y) t false os none K (.bool false) = go0 C dst os K (stoS (sto C (stA l) T (ev (stA l) x) (ev (stA l) y)))) ∧
    (∀ (x : SX) (t : Nat), gdT C l dst (.nilc x) t true os none K (.bool true) = go0 C dst os K (keepS (stA l) (nilc (stA l) (ev (stA l) x)))) ∧
    (∀ (x : SX) (t : Nat), gdT C l dst (.nilc x) t false os none K (.bool false) = go0 C dst os K (keepS (stA l) (nilc (stA l) (ev (stA l) x)))) ∧
    (∀ (op : BinOp) (T : TypeId) (x y : SX) (t : Nat), gdT C l dst (.bn op T x y) t true os none K (.bool true) = go0 C dst os K (keepS (stA l) (bn C (stA l) op T (ev (stA l) x) (ev (stA l) y)))) ∧
    (∀ (op : BinOp) (T : TypeId) (x y : SX) (t : Nat), gdT C l dst (.bn op T x y) t false os none K (.bool false) = go0 C dst os K (keepS (stA l) (bn C (stA l) op T (ev (stA l) x) (ev (stA l) y)))) ∧
    (∀ (op : UnOp) (x : SX) (t : Nat), gdT C l dst (.un op x) t true os none K (.bool true) = go0 C dst os K (keepS (stA l) (un op (ev (stA l) x)))) ∧
    (∀ (op : UnOp) (x : SX) (t : Nat), gdT C l dst (.un op x) t false os none K (.bool false) = go0 C dst os K (keepS (stA l) (un op (ev (stA l) x)))) ∧
    (∀ (A B : TypeId) (x : SX) (t : Nat), gdT C l dst (.cvt A B x) t true os none K (.bool true) = go0 C dst os K (keepS (stA l) (cvt C (stA l) A B (ev (stA l) x)))) ∧
    (∀ (A B : TypeId) (x : SX) (t : Nat), gdT C l dst (.cvt A B x) t false os none K (.bool false) = go0 C dst os K (keepS (stA l) (cvt C (stA l) A B (ev (stA l) x)))) ∧
    (∀ (f : FuncId) (cs : List SX) (t : Nat), gdT C l dst (.mkf f cs) t true os none K (.bool true) = go0 C dst os K (some (.fn f (evs (stA l) cs), stA l))) ∧
    (∀ (f : FuncId) (cs : List SX) (t : Nat), gdT C l dst (.mkf f cs) t false os none K (.bool false) = go0 C dst os K (some (.fn f (evs (stA l) cs), stA l))) ∧
    (∀ (T : TypeId) (x y : SX) (t : Nat), gdT C l dst (.mks T x y) t true os none K (.bool true) = go0 C dst os K (keepS (stA l) (mks C T (ev (stA l) x) (ev (stA l) y)))) ∧
    (∀ (T : TypeId) (x y : SX) (t : Nat), gdT C l dst (.mks T x y) t false os none K (.bool false) = go0 C dst os K (keepS (stA l) (mks C T (ev (stA l) x) (ev (stA l) y)))) ∧
    (∀ (T : TypeId) (x : SX) (lo hi : Option SX) (t : Nat), gdT C l dst (.slc T x lo hi) t true os none K (.bool true) = go0 C dst os K (slc C (stA l) T (ev (stA l) x) (evO (stA l) lo) (evO (stA l) hi))) ∧
    (∀ (T : TypeId) (x : SX) (lo hi : Option SX) (t : Nat), gdT C l dst (.slc T x lo hi) t false os none K (.bool false) = go0 C dst os K (slc C (stA l) T (ev (stA l) x) (evO (stA l) lo) (evO (stA l) hi))) ∧
    (∀ (T : TypeId) (x : SX) (k : Nat) (t : Nat), gdT C l dst (.fa T x k) t true os none K (.bool true) = go0 C dst os K (keepS (stA l) (fa C (stA l) T (ev (stA l) x) k))) ∧
    (∀ (T : TypeId) (x : SX) (k : Nat) (t : Nat), gdT C l dst (.fa T x k) t false os none K (.bool false) = go0 C dst os K (keepS (stA l) (fa C (stA l) T (ev (stA l) x) k))) ∧
    (∀ (T : TypeId) (x y : SX) (t : Nat), gdT C l dst (.ia T x y) t true os none K (.bool true) = go0 C dst os K (keepS (stA l) (ia C (stA l) T (ev (stA l) x) (ev (stA l) y)))) ∧
    (∀ (T : TypeId) (x y : SX) (t : Nat), gdT C l dst (.ia T x y) t false os none K (.bool false) = go0 C dst os K (keepS (stA l) (ia C (stA l) T (ev (stA l) x) (ev (stA l) y)))) ∧
    (∀ (T : TypeId) (x y : SX) (t : Nat), gdT C l dst (.idx T x y) t true os none K (.bool true) = go0 C dst os K (keepS (stA l) (idx C T (ev (stA l) x) (ev (stA l) y)))) ∧
    (∀ (T : TypeId) (x y : SX) (t : Nat), gdT C l dst (.idx T x y) t false os none K (.bool false) = go0 C dst os K (keepS (stA l) (idx C T (ev (stA l) x) (ev (stA l) y)))) ∧
    (∀ (x : SX) (k : Nat) (t : Nat), gdT C l dst (.ex x k) t true os none K (.bool true) = go0 C dst os K (keepS (stA l) (ex (stA l) (ev (stA l) x) k))) ∧
    (∀ (x : SX) (k : Nat) (t : Nat), gdT C l dst (.ex x k) t false os none K (.bool false) = go0 C dst os K (keepS (stA l) (ex (stA l) (ev (stA l) x) k))) ∧
    (∀ (T : TypeId) (x : SX) (t : Nat), gdT C l dst (.len T x) t true os none K (.bool true) = go0 C dst os K (keepS (stA l) (ln C (stA l) T (ev (stA l) x)))) ∧
    (∀ (T : TypeId) (x : SX) (t : Nat), gdT C l dst (.len T x) t false os none K (.bool false) = go0 C dst os K (keepS (stA l) (ln C (stA l) T (ev (stA l) x)))) ∧
    (∀ (T U : TypeId) (x y : SX) (t : Nat), gdT C l dst (.app T U x y) t true os none K (.bool true) = go0 C dst os K (apd C (stA l) T U (ev (stA l) x) (ev (stA l) y))) ∧
    (∀ (T U : TypeId) (x y : SX) (t : Nat), gdT C l dst (.app T U x y) t false os none K (.bool false) = go0 C dst os K (apd C (stA l) T U (ev (stA l) x) (ev (stA l) y))) :=
  ⟨fun x _ => (gdT_0 rfl).trans (congrArg _ (eff_mv x)), fun x _ => (gdT_0 rfl).trans (congrArg _ (eff_mv x)), fun x _ => (gdT_0 rfl).trans (congrArg _ (eff_asg x)), fun x _ => (gdT_0 rfl).trans (congrArg _ (eff_asg x)), fun c x y _ => (gdT_0 rfl).trans (congrArg _ (eff_pick c x y)), fun c x y _ => (gdT_0 rfl).trans (congrArg _ (eff_pick c x y)), fun T _ => (gdT_0 rfl).trans (congrArg _ (eff_alc T)), fun T _ => (gdT_0 rfl).trans (congrArg _ (eff_alc T)), fun T x _ => (gdT_0 rfl).trans (congrArg _ (eff_bx T x)), fun T x _ => (gdT_0 rfl).trans (congrArg _ (eff_bx T x)), fun T ps _ => (gdT_0 rfl).trans (congrArg _ (eff_bld T ps)), fun T ps _ => (gdT_0 rfl).trans (congrArg _ (eff_bld T ps)), fun T n ps _ => (gdT_0 rfl).trans (congrArg _ (eff_bsl T n ps)), fun T n ps _ => (gdT_0 rfl).trans (congrArg _ (eff_bsl T n ps)), fun T x _ => (gdT_0 rfl).trans (congrArg _ (eff_ld T x)), fun T x _ => (gdT_0 rfl).trans (congrArg _ (eff_ld T x)), fun T x y _ => (gdT_0 rfl).trans (congrArg _ (eff_sto T x y)), fun T x y _ => (gdT_0 rfl).trans (congrArg _ (eff_sto T x y)), fun x _ => (gdT_0 rfl).trans (congrArg _ (eff_nilc x)), fun x _ => (gdT_0 rfl).trans (congrArg _ (eff_nilc x)), fun op T x y _ => (gdT_0 rfl).trans (congrArg _ (eff_bn op T x y)), fun op T x y _ => (gdT_0 rfl).trans (congrArg _ (eff_bn op T x y)), fun op x _ => (gdT_0 rfl).trans (congrArg _ (eff_un op x)), fun op x _ => (gdT_0 rfl).trans (congrArg _ (eff_un op x)), fun A B x _ => (gdT_0 rfl).trans (congrArg _ (eff_cvt A B x)), fun A B x _ => (gdT_0 rfl).trans (congrArg _ (eff_cvt A B x)), fun f cs _ => (gdT_0 rfl).trans (congrArg _ (eff_mkf f cs)), fun f cs _ => (gdT_0 rfl).trans (congrArg _ (eff_mkf f cs)), fun T x y _ => (gdT_0 rfl).trans (congrArg _ (eff_mks T x y)), fun T x y _ => (gdT_0 rfl).trans (congrArg _ (eff_mks T x y)), fun T x lo hi _ => (gdT_0 rfl).trans (congrArg _ (eff_slc T x lo hi)), fun T x lo hi _ => (gdT_0 rfl).trans (congrArg _ (eff_slc T x lo hi)), fun T x k _ => (gdT_0 rfl).trans (congrArg _ (eff_fa T x k)), fun T x k _ => (gdT_0 rfl).trans (congrArg _ (eff_fa T x k)), fun T x y _ => (gdT_0 rfl).trans (congrArg _ (eff_ia T x y)), fun T x y _ => (gdT_0 rfl).trans (congrArg _ (eff_ia T x y)), fun T x y _ => (gdT_0 rfl).trans (congrArg _ (eff_idx T x y)), fun T x y _ => (gdT_0 rfl).trans (congrArg _ (eff_idx T x y)), fun x k _ => (gdT_0 rfl).trans (congrArg _ (eff_ex x k)), fun x k _ => (gdT_0 rfl).trans (congrArg _ (eff_ex x k)), fun T x _ => (gdT_0 rfl).trans (congrArg _ (eff_len T x)), fun T x _ => (gdT_0 rfl).trans (congrArg _ (eff_len T x)), fun T U x y _ => (gdT_0 rfl).trans (congrArg _ (eff_app T U x y)), fun T U x y _ => (gdT_0 rfl).trans (congrArg _ (eff_app T U x y))⟩

theorem gds1 :
    (∀ (x : SX) (t : Nat), gdT C l dst (.mv x) t true os (some a) K (.bool true) = go1 C l (t :: use (stA l) (.mv x)) (tks (stA l) (.mv x)) dst os a K (some (ev (stA l) x, stA l))) ∧
    (∀ (x : SX) (t : Nat), gdT C l dst (.mv x) t false os (some a) K (.bool false) = go1 C l (t :: use (stA l) (.mv x)) (tks (stA l) (.mv x)) dst os a K (some (ev (stA l) x, stA l))) ∧
    (∀ (x : SX) (t : Nat), gdT C l dst (.asg x) t true os (some a) K (.bool true) = go1 C l (t :: use (stA l) (.asg x)) (tks (stA l) (.asg x)) dst os a K (asgV (stA l) (ev (stA l) x))) ∧
    (∀ (x : SX) (t : Nat), gdT C l dst (.asg x) t false os (some a) K (.bool false) = go1 C l (t :: use (stA l) (.asg x)) (tks (stA l) (.asg x)) dst os a K (asgV (stA l) (ev (stA l) x))) ∧
    (∀ (c x y : SX) (t : Nat), gdT C l dst (.pick c x y) t true os (some a) K (.bool true) = go1 C l (t :: use (stA l) (.pick c x y)) (tks (stA l) (.pick c x y)) dst os a K (pickV (stA l) (ev (stA l) c) (ev (stA l) x) (ev (stA l) y))) ∧
    (∀ (c x y : SX) (t : Nat), gdT C l dst (.pick c x y) t false os (some a) K (.bool false) = go1 C l (t :: use (stA l) (.pick c x y)) (tks (stA l) (.pick c x y)) dst os a K (pickV (stA l) (ev (stA l) c) (ev (stA l) x) (ev (stA l) y))) ∧
    (∀ (T : TypeId) (t : Nat), gdT C l dst (.alc T) t true os (some a) K (.bool true) = go1 C l (t :: use (stA l) (.alc T)) (tks (stA l) (.alc T)) dst os a K (keepS (stA l) (alc C T))) ∧
    (∀ (T : TypeId) (t : Nat), gdT C l dst (.alc T) t false os (some a) K (.bool false) = go1 C l (t :: use (stA l) (.alc T)) (tks (stA l) (.alc T)) dst os a K (keepS (stA l) (alc C T))) ∧
    (∀ (T : TypeId) (x : SX) (t : Nat), gdT C l dst (.bx T x) t true os (some a) K (.bool true) = go1 C l (t :: use (stA l) (.bx T x)) (tks (stA l) (.bx T x)) dst os a K (bx (stA l) (ev (stA l) x))) ∧
    (∀ (T : TypeId) (x : SX) (t : Nat), gdT C l dst (.bx T x) t false os (some a) K (.bool false) = go1 C l (t :: use (stA l) (.bx T x)) (tks (stA l) (.bx T x)) dst os a K (bx (stA l) (ev (stA l) x))) ∧
    (∀ (T : TypeId) (ps : List (Nat × SX)) (t : Nat), gdT C l dst (.bld T ps) t true os (some a) K (.bool true) = go1 C l (t :: use (stA l) (.bld T ps)) (tks (stA l) (.bld T ps)) dst os a K (bld C (stA l) T (evPs (stA l) ps))) ∧
    (∀ (T : TypeId) (ps : List (Nat × SX)) (t : Nat), gdT C l dst (.bld T ps) t false os (some a) K (.bool false) = go1 C l (t :: use (stA l) (.bld T ps)) (tks (stA l) (.bld T ps)) dst os a K (bld C (stA l) T (evPs (stA l) ps))) ∧
    (∀ (T : TypeId) (n : Nat) (ps : List (Nat × SX)) (t : Nat), gdT C l dst (.bsl T n ps) t true os (some a) K (.bool true) = go1 C l (t :: use (stA l) (.bsl T n ps)) (tks (stA l) (.bsl T n ps)) dst os a K (bsl C (stA l) T n (evPs (stA l) ps))) ∧
    (∀ (T : TypeId) (n : Nat) (ps : List (Nat × SX)) (t : Nat), gdT C l dst (.bsl T n ps) t false os (some a) K (.bool false) = go1 C l (t :: use (stA l) (.bsl T n ps)) (tks (stA l) (.bsl T n ps)) dst os a K (bsl C (stA l) T n (evPs (stA l) ps))) ∧
    (∀ (T : TypeId) (x : SX) (t : Nat), gdT C l dst (.ld T x) t true os (some a) K (.bool true) = go1 C l (t :: use (stA l) (.ld T x)) (tks (stA l) (.ld T x)) dst os a K (keepS (stA l) (ld C (stA l) T (ev (stA l) x)))) ∧
    (∀ (T : TypeId) (x : SX) (t : Nat), gdT C l dst (.ld T x) t false os (some a) K (.bool false) = go1 C l (t :: use (stA l) (.ld T x)) (tks (stA l) (.ld T x)) dst os a K (keepS (stA l) (ld C (stA l) T (ev (stA l) x)))) ∧
    (∀ (T : TypeId) (x y : SX) (t : Nat), gdT C l dst (.sto T x y) t true os (some a) K (.bool true) = go1 C l (t :: use (stA l) (.sto T x y)) (tks (stA l) (.sto T x y)) dst os a K (stoS (sto C (stA l) T (ev (stA l) x) (ev (stA l) y)))) ∧
    (∀ (T : TypeId) (x y : SX) (t : Nat), gdT C l dst (.sto T x y) t false os (some a) K (.bool false) = go1 C l (t :: use (stA l) (.sto T x y)) (tks (stA l) (.sto T x y)) dst os a K (stoS (sto C (stA l) T (ev (stA l) x) (ev (stA l) y)))) ∧
    (∀ (x : SX) (t : Nat), gdT C l dst (.nilc x) t true os (some a) K (.bool true) = go1 C l (t :: use (stA l) (.nilc x)) (tks (stA l) (.nilc x)) dst os a K (keepS (stA l) (nilc (stA l) (ev (stA l) x)))) ∧
    (∀ (x : SX) (t : Nat), gdT C l dst (.nilc x) t false os (some a) K (.bool false) = go1 C l (t :: use (stA l) (.nilc x)) (tks (stA l) (.nilc x)) dst os a K (keepS (stA l) (nilc (stA l) (ev (stA l) x)))) ∧
    (∀ (op : BinOp) (T : TypeId) (x y : SX) (t : Nat), gdT C l dst (.bn op T x y) t true os (some a) K (.bool true) = go1 C l (t :: use (stA l) (.bn op T x y)) (tks (stA l) (.bn op T x y)) dst os a K (keepS (stA l) (bn C (stA l) op T (ev (stA l) x) (ev (stA l) y)))) ∧
    (∀ (op : BinOp) (T : TypeId) (x y : SX) (t : Nat), gdT C l dst (.bn op T x y) t false os (some a) K (.bool false) = go1 C l (t :: use (stA l) (.bn op T x y)) (tks (stA l) (.bn op T x y)) dst os a K (keepS (stA l) (bn C (stA l) op T (ev (stA l) x) (ev (stA l) y)))) ∧
    (∀ (op : UnOp) (x : SX) (t : Nat), gdT C l dst (.un op x) t true os (some a) K (.bool true) = go1 C l (t :: use (stA l) (.un op x)) (tks (stA l) (.un op x)) dst os a K (keepS (stA l) (un op (ev (stA l) x)))) ∧
    (∀ (op : UnOp) (x : SX) (t : Nat), gdT C l dst (.un op x) t false os (some a) K (.bool false) = go1 C l (t :: use (stA l) (.un op x)) (tks (stA l) (.un op x)) dst os a K (keepS (stA l) (un op (ev (stA l) x)))) ∧
    (∀ (A B : TypeId) (x : SX) (t : Nat), gdT C l dst (.cvt A B x) t true os (some a) K (.bool true) = go1 C l (t :: use (stA l) (.cvt A B x)) (tks (stA l) (.cvt A B x)) dst os a K (keepS (stA l) (cvt C (stA l) A B (ev (stA l) x)))) ∧
    (∀ (A B : TypeId) (x : SX) (t : Nat), gdT C l dst (.cvt A B x) t false os (some a) K (.bool false) = go1 C l (t :: use (stA l) (.cvt A B x)) (tks (stA l) (.cvt A B x)) dst os a K (keepS (stA l) (cvt C (stA l) A B (ev (stA l) x)))) ∧
    (∀ (f : FuncId) (cs : List SX) (t : Nat), gdT C l dst (.mkf f cs) t true os (some a) K (.bool true) = go1 C l (t :: use (stA l) (.mkf f cs)) (tks (stA l) (.mkf f cs)) dst os a K (some (.fn f (evs (stA l) cs), stA l))) ∧
    (∀ (f : FuncId) (cs : List SX) (t : Nat), gdT C l dst (.mkf f cs) t false os (some a) K (.bool false) = go1 C l (t :: use (stA l) (.mkf f cs)) (tks (stA l) (.mkf f cs)) dst os a K (some (.fn f (evs (stA l) cs), stA l))) ∧
    (∀ (T : TypeId) (x y : SX) (t : Nat), gdT C l dst (.mks T x y) t true os (some a) K (.bool true) = go1 C l (t :: use (stA l) (.mks T x y)) (tks (stA l) (.mks T x y)) dst os a K (keepS (stA l) (mks C T (ev (stA l) x) (ev (stA l) y)))) ∧
    (∀ (T : TypeId) (x y : SX) (t : Nat), gdT C l dst (.mks T x y) t false os (some a) K (.bool false) = go1 C l (t :: use (stA l) (.mks T x y)) (tks (stA l) (.mks T x y)) dst os a K (keepS (stA l) (mks C T (ev (stA l) x) (ev (stA l) y)))) ∧
    (∀ (T : TypeId) (x : SX) (lo hi : Option SX) (t : Nat), gdT C l dst (.slc T x lo hi) t true os (some a) K (.bool true) = go1 C l (t :: use (stA l) (.slc T x lo hi)) (tks (stA l) (.slc T x lo hi)) dst os a K (slc C (stA l) T (ev (stA l) x) (evO (stA l) lo) (evO (stA l) hi))) ∧
    (∀ (T : TypeId) (x : SX) (lo hi : Option SX) (t : Nat), gdT C l dst (.slc T x lo hi) t false os (some a) K (.bool false) = go1 C l (t :: use (stA l) (.slc T x lo hi)) (tks (stA l) (.slc T x lo hi)) dst os a K (slc C (stA l) T (ev (stA l) x) (evO (stA l) lo) (evO (stA l) hi))) ∧
    (∀ (T : TypeId) (x : SX) (k : Nat) (t : Nat), gdT C l dst (.fa T x k) t true os (some a) K (.bool true) = go1 C l (t :: use (stA l) (.fa T x k)) (tks (stA l) (.fa T x k)) dst os a K (keepS (stA l) (fa C (stA l) T (ev (stA l) x) k))) ∧
    (∀ (T : TypeId) (x : SX) (k : Nat) (t : Nat), gdT C l dst (.fa T x k) t false os (some a) K (.bool false) = go1 C l (t :: use (stA l) (.fa T x k)) (tks (stA l) (.fa T x k)) dst os a K (keepS (stA l) (fa C (stA l) T (ev (stA l) x) k))) ∧
    (∀ (T : TypeId) (x y : SX) (t : Nat), gdT C l dst (.ia T x y) t true os (some a) K (.bool true) = go1 C l (t :: use (stA l) (.ia T x y)) (tks (stA l) (.ia T x y)) dst os a K (keepS (stA l) (ia C (stA l) T (ev (stA l) x) (ev (stA l) y)))) ∧
    (∀ (T : TypeId) (x y : SX) (t : Nat), gdT C l dst (.ia T x y) t false os (some a) K (.bool false) = go1 C l (t :: use (stA l) (.ia T x y)) (tks (stA l) (.ia T x y)) dst os a K (keepS (stA l) (ia C (stA l) T (ev (stA l) x) (ev (stA l) y)))) ∧
    (∀ (T : TypeId) (x y : SX) (t : Nat), gdT C l dst (.idx T x y) t true os (some a) K (.bool true) = go1 C l (t :: use (stA l) (.idx T x y)) (tks (stA l) (.idx T x y)) dst os a K (keepS (stA l) (idx C T (ev (stA l) x) (ev (stA l) y)))) ∧
    (∀ (T : TypeId) (x y : SX) (t : Nat), gdT C l dst (.idx T x y) t false os (some a) K (.bool false) = go1 C l (t :: use (stA l) (.idx T x y)) (tks (stA l) (.idx T x y)) dst os a K (keepS (stA l) (idx C T (ev (stA l) x) (ev (stA l) y)))) ∧
    (∀ (x : SX) (k : Nat) (t : Nat), gdT C l dst (.ex x k) t true os (some a) K (.bool true) = go1 C l (t :: use (stA l) (.ex x k)) (tks (stA l) (.ex x k)) dst os a K (keepS (stA l) (ex (stA l) (ev (stA l) x) k))) ∧
    (∀ (x : SX) (k : Nat) (t : Nat), gdT C l dst (.ex x k) t false os (some a) K (.bool false) = go1 C l (t :: use (stA l) (.ex x k)) (tks (stA l) (.ex x k)) dst os a K (keepS (stA l) (ex (stA l) (ev (stA l) x) k))) ∧
    (∀ (T : TypeId) (x : SX) (t : Nat), gdT C l dst (.len T x) t true os (some a) K (.bool true) = go1 C l (t :: use (stA l) (.len T x)) (tks (stA l) (.len T x)) dst os a K (keepS (stA l) (ln C (stA l) T (ev (stA l) x)))) ∧
    (∀ (T : TypeId) (x : SX) (t : Nat), gdT C l dst (.len T x) t false os (some a) K (.bool false) = go1 C l (t :: use (stA l) (.len T x)) (tks (stA l) (.len T x)) dst os a K (keepS (stA l) (ln C (stA l) T (ev (stA l) x)))) ∧
    (∀ (T U : TypeId) (x y : SX) (t : Nat), gdT C l dst (.app T U x y) t true os (some a) K (.bool true) = go1 C l (t :: use (stA l) (.app T U x y)) (tks (stA l) (.app T U x y)) dst os a K (apd C (stA l) T U (ev (stA l) x) (ev (stA l) y))) ∧
    (∀ (T U : TypeId) (x y : SX) (t : Nat), gdT C l dst (.app T U x y) t false os (some a) K (.bool false) = go1 C l (t :: use (stA l) (.app T U x y)) (tks (stA l) (.app T U x y)) dst os a K (apd C (stA l) T U (ev (stA l) x) (ev (stA l) y))) :=
  ⟨fun x _ => (gdT_1 rfl).trans (congrArg _ (eff_mv x)), fun x _ => (gdT_1 rfl).trans (congrArg _ (eff_mv x)), fun x _ => (gdT_1 rfl).trans (congrArg _ (eff_asg x)), fun x _ => (gdT_1 rfl).trans (congrArg _ (eff_asg x)), fun c x y _ => (gdT_1 rfl).trans (congrArg _ (eff_pick c x y)), fun c x y _ => (gdT_1 rfl).trans (congrArg _ (eff_pick c x y)), fun T _ => (gdT_1 rfl).trans (congrArg _ (eff_alc T)), fun T _ => (gdT_1 rfl).trans (congrArg _ (eff_alc T)), fun T x _ => (gdT_1 rfl).trans (congrArg _ (eff_bx T x)), fun T x _ => (gdT_1 rfl).trans (congrArg _ (eff_bx T x)), fun T ps _ => (gdT_1 rfl).trans (congrArg _ (eff_bld T ps)), fun T ps _ => (gdT_1 rfl).trans (congrArg _ (eff_bld T ps)), fun T n ps _ => (gdT_1 rfl).trans (congrArg _ (eff_bsl T n ps)), fun T n ps _ => (gdT_1 rfl).trans (congrArg _ (eff_bsl T n ps)), fun T x _ => (gdT_1 rfl).trans (congrArg _ (eff_ld T x)), fun T x _ => (gdT_1 rfl).trans (congrArg _ (eff_ld T x)), fun T x y _ => (gdT_1 rfl).trans (congrArg _ (eff_sto T x y)), fun T x y _ => (gdT_1 rfl).trans (congrArg _ (eff_sto T x y)), fun x _ => (gdT_1 rfl).trans (congrArg _ (eff_nilc x)), fun x _ => (gdT_1 rfl).trans (congrArg _ (eff_nilc x)), fun op T x y _ => (gdT_1 rfl).trans (congrArg _ (eff_bn op T x y)), fun op T x y _ => (gdT_1 rfl).trans (congrArg _ (eff_bn op T x y)), fun op x _ => (gdT_1 rfl).trans (congrArg _ (eff_un op x)), fun op x _ => (gdT_1 rfl).trans (congrArg _ (eff_un op x)), fun A B x _ => (gdT_1 rfl).trans (congrArg _ (eff_cvt A B x)), fun A B x _ => (gdT_1 rfl).trans (congrArg _ (eff_cvt A B x)), fun f cs _ => (gdT_1 rfl).trans (congrArg _ (eff_mkf f cs)), fun f cs _ => (gdT_1 rfl).trans (congrArg _ (eff_mkf f cs)), fun T x y _ => (gdT_1 rfl).trans (congrArg _ (eff_mks T x y)), fun T x y _ => (gdT_1 rfl).trans (congrArg _ (eff_mks T x y)), fun T x lo hi _ => (gdT_1 rfl).trans (congrArg _ (eff_slc T x lo hi)), fun T x lo hi _ => (gdT_1 rfl).trans (congrArg _ (eff_slc T x lo hi)), fun T x k _ => (gdT_1 rfl).trans (congrArg _ (eff_fa T x k)), fun T x k _ => (gdT_1 rfl).trans (congrArg _ (eff_fa T x k)), fun T x y _ => (gdT_1 rfl).trans (congrArg _ (eff_ia T x y)), fun T x y _ => (gdT_1 rfl).trans (congrArg _ (eff_ia T x y)), fun T x y _ => (gdT_1 rfl).trans (congrArg _ (eff_idx T x y)), fun T x y _ => (gdT_1 rfl).trans (congrArg _ (eff_idx T x y)), fun x k _ => (gdT_1 rfl).trans (congrArg _ (eff_ex x k)), fun x k _ => (gdT_1 rfl).trans (congrArg _ (eff_ex x k)), fun T x _ => (gdT_1 rfl).trans (congrArg _ (eff_len T x)), fun T x _ => (gdT_1 rfl).trans (congrArg _ (eff_len T x)), fun T U x y _ => (gdT_1 rfl).trans (congrArg _ (eff_app T U x y)), fun T U x y _ => (gdT_1 rfl).trans (congrArg _ (eff_app T U x y))⟩

end

theorem al_s :
    (∀ (t : Nat) (k : IntKind) (n : Int), al t (.int k n) = (.int k n)) ∧
    (∀ (t : Nat) (b : Bool), al t (.bool b) = (.bool b)) ∧
    (∀ (t : Nat) (x : List UInt8), al t (.str x) = (.str x)) ∧
    (∀ (t : Nat) (xs : List AV), al t (.slice xs) = (.slice xs)) ∧
    (∀ (t : Nat) (d : AV), al t (.ref d) = (.ref d)) ∧
    (∀ (t : Nat) (f : FuncId) (cap : List AV), al t (.fn f cap) = (.fn f cap)) ∧
    (∀ (t : Nat) (x : Nat) (q : List Nat), al t (.h x q) = (.h x q)) ∧
    (∀ (t : Nat) (x : Nat) (q : List Nat), al t (.hp x q) = (.hp x q)) ∧
    (∀ (t : Nat) , al t .nilp = .nilp) ∧
    (∀ (t : Nat) , al t .nils = .nils) ∧
    (∀ (t : Nat) , al t .anyb = .anyb) ∧
    (∀ (t : Nat) , al t .hole = .hole) ∧
    (∀ (t : Nat) (sz : Nat) (xs : List AV), al t (.uslice sz xs) = .h t []) ∧
    (∀ (t : Nat) (d : AV), al t (.ubox d) = .h t []) ∧
    (∀ (t : Nat) (fs : List AV), al t (.agg fs) = if AV.plains fs = true then (.agg fs) else .h t []) ∧
    (∀ (t : Nat) (fs : List AV), al t (.tuple fs) = if AV.plains fs = true then (.tuple fs) else .h t []) :=
  ⟨fun _ _ _ => rfl, fun _ _ => rfl, fun _ _ => rfl, fun _ _ => rfl, fun _ _ => rfl, fun _ _ _ => rfl, fun _ _ _ => rfl, fun _ _ _ => rfl, fun _  => rfl, fun _  => rfl, fun _  => rfl, fun _  => rfl, fun _ _ _ => rfl, fun _ _ => rfl, fun _ _ => rfl, fun _ _ => rfl⟩

theorem fin_s :
    (∀ (l : List (Nat × AV)) (av : AV), fin (stA l) none av = stA l) ∧
    (∀ (l : List (Nat × AV)) (t : Nat) (k : IntKind) (n : Int), fin (stA l) (some t) (.int k n) = stA ((t, (.int k n)) :: l)) ∧
    (∀ (l : List (Nat × AV)) (t : Nat) (b : Bool), fin (stA l) (some t) (.bool b) = stA ((t, (.bool b)) :: l)) ∧
    (∀ (l : List (Nat × AV)) (t : Nat) (x : List UInt8), fin (stA l) (some t) (.str x) = stA ((t, (.str x)) :: l)) ∧
    (∀ (l : List (Nat × AV)) (t : Nat) (xs : List AV), fin (stA l) (some t) (.slice xs) = stA ((t, (.slice xs)) :: l)) ∧
    (∀ (l : List (Nat × AV)) (t : Nat) (d : AV), fin (stA l) (some t) (.ref d) = stA ((t, (.ref d)) :: l)) ∧
    (∀ (l : List (Nat × AV)) (t : Nat) (f : FuncId) (cap : List AV), fin (stA l) (some t) (.fn f cap) = stA ((t, (.fn f cap)) :: l)) ∧
    (∀ (l : List (Nat × AV)) (t : Nat) (x : Nat) (q : List Nat), fin (stA l) (some t) (.h x q) = stA ((t, (.h x q)) :: l)) ∧
    (∀ (l : List (Nat × AV)) (t : Nat) (x : Nat) (q : List Nat), fin (stA l) (some t) (.hp x q) = stA ((t, (.hp x q)) :: l)) ∧
    (∀ (l : List (Nat × AV)) (t : Nat) , fin (stA l) (some t) .nilp = stA ((t, .nilp) :: l)) ∧
    (∀ (l : List (Nat × AV)) (t : Nat) , fin (stA l) (some t) .nils = stA ((t, .nils) :: l)) ∧
    (∀ (l : List (Nat × AV)) (t : Nat) , fin (stA l) (some t) .anyb = stA ((t, .anyb) :: l)) ∧
    (∀ (l : List (Nat × AV)) (t : Nat) , fin (stA l) (some t) .hole = stA ((t, .hole) :: l)) ∧
    (∀ (l : List (Nat × AV)) (t : Nat) (sz : Nat) (xs : List AV), fin (stA l) (some t) (.uslice sz xs) = stA ((t, (.uslice sz xs)) :: pgA t l)) ∧
    (∀ (l : List (Nat × AV)) (t : Nat) (d : AV), fin (stA l) (some t) (.ubox d) = stA ((t, (.ubox d)) :: pgA t l)) ∧
    (∀ (l : List (Nat × AV)) (t : Nat) (fs : List AV), fin (stA l) (some t) (.agg fs) = stA ((t, (.agg fs)) :: if AV.plains fs = true then l else pgA t l)) ∧
    (∀ (l : List (Nat × AV)) (t : Nat) (fs : List AV), fin (stA l) (some t) (.tuple fs) = stA ((t, (.tuple fs)) :: if AV.plains fs = true then l else pgA t l)) :=
  ⟨fun _ _ => rfl, fun l t _ _ => by simp only [fin, AV.plain, if_true, upd_stA], fun l t _ => by simp only [fin, AV.plain, if_true, upd_stA], fun l t _ => by simp only [fin, AV.plain, if_true, upd_stA], fun l t _ => by simp only [fin, AV.plain, if_true, upd_stA], fun l t _ => by simp only [fin, AV.plain, if_true, upd_stA], fun l t _ _ => by simp only [fin, AV.plain, if_true, upd_stA], fun l t _ _ => by simp only [fin, AV.plain, if_true, upd_stA], fun l t _ _ => by simp only [fin, AV.plain, if_true, upd_stA], fun l t  => by simp only [fin, AV.plain, if_true, upd_stA], fun l t  => by simp only [fin, AV.plain, if_true, upd_stA], fun l t  => by simp only [fin, AV.plain, if_true, upd_stA], fun l t  => by simp only [fin, AV.plain, if_true, upd_stA], fun l t _ _ => by simp only [fin, AV.plain, Bool.false_eq_true, if_false, pgS_stA, upd_stA], fun l t _ => by simp only [fin, AV.plain, Bool.false_eq_true, if_false, pgS_stA, upd_stA], fun l t _ => by simp only [fin, AV.plain, pgS_stA, upd_stA]; split <;> rfl, fun l t _ => by simp only [fin, AV.plain, pgS_stA, upd_stA]; split <;> rfl⟩

theorem plain_s :
    (∀ (k : IntKind) (n : Int), AV.plain (.int k n) = true) ∧
    (∀ (b : Bool), AV.plain (.bool b) = true) ∧
    (∀ (x : List UInt8), AV.plain (.str x) = true) ∧
    (∀ (xs : List AV), AV.plain (.slice xs) = true) ∧
    (∀ (d : AV), AV.plain (.ref d) = true) ∧
    (∀ (f : FuncId) (cap : List AV), AV.plain (.fn f cap) = true) ∧
    (∀ (x : Nat) (q : List Nat), AV.plain (.h x q) = true) ∧
    (∀ (x : Nat) (q : List Nat), AV.plain (.hp x q) = true) ∧
    (AV.plain .nilp = true) ∧
    (AV.plain .nils = true) ∧
    (AV.plain .anyb = true) ∧
    (AV.plain .hole = true) ∧
    (∀ (sz : Nat) (xs : List AV), AV.plain (.uslice sz xs) = false) ∧
    (∀ (d : AV), AV.plain (.ubox d) = false) ∧
    (∀ (fs : List AV), AV.plain (.agg fs) = AV.plains fs) ∧
    (∀ (fs : List AV), AV.plain (.tuple fs) = AV.plains fs) ∧
    (AV.plains [] = true) ∧
    (∀ d ds, AV.plains (d :: ds) = (d.plain && AV.plains ds)) :=
  ⟨fun _ _ => rfl, fun _ => rfl, fun _ => rfl, fun _ => rfl, fun _ => rfl, fun _ _ => rfl, fun _ _ => rfl, fun _ _ => rfl, rfl, rfl, rfl, rfl, fun _ _ => rfl, fun _ => rfl, fun _ => rfl, fun _ => rfl, rfl, fun _ _ => rfl⟩

theorem asg_s :
    (∀ (s : St) (k : IntKind) (n : Int), asgV s (.int k n) = some ((.int k n), s)) ∧
    (∀ (s : St) (b : Bool), asgV s (.bool b) = some ((.bool b), s)) ∧
    (∀ (s : St) (x : List UInt8), asgV s (.str x) = some ((.str x), s)) ∧
    (∀ (s : St) (xs : List AV), asgV s (.slice xs) = some ((.slice xs), s)) ∧
    (∀ (s : St) (d : AV), asgV s (.ref d) = some ((.ref d), s)) ∧
    (∀ (s : St) (f : FuncId) (cap : List AV), asgV s (.fn f cap) = some ((.fn f cap), s)) ∧
    (∀ (s : St) (x : Nat) (q : List Nat), asgV s (.hp x q) = some ((.hp x q), s)) ∧
    (∀ (s : St) , asgV s .nilp = some (.nilp, s)) ∧
    (∀ (s : St) , asgV s .nils = some (.nils, s)) ∧
    (∀ (s : St) , asgV s .anyb = some (.anyb, s)) ∧
    (∀ (s : St) , asgV s .hole = some (.hole, s)) ∧
    (∀ (s : St) (sz : Nat) (xs : List AV), asgV s (.uslice sz xs) = some ((.uslice sz xs), s)) ∧
    (∀ (s : St) (d : AV), asgV s (.ubox d) = some ((.ubox d), s)) ∧
    (∀ (s : St) (fs : List AV), asgV s (.agg fs) = some ((.agg fs), s)) ∧
    (∀ (s : St) (fs : List AV), asgV s (.tuple fs) = some ((.tuple fs), s)) ∧
    (∀ (s : St) y q, asgV s (.h y q) = tk s (.h y q)) :=
  ⟨fun _ _ _ => rfl, fun _ _ => rfl, fun _ _ => rfl, fun _ _ => rfl, fun _ _ => rfl, fun _ _ _ => rfl, fun _ _ _ => rfl, fun _  => rfl, fun _  => rfl, fun _  => rfl, fun _  => rfl, fun _ _ _ => rfl, fun _ _ => rfl, fun _ _ => rfl, fun _ _ => rfl, fun _ _ _ => rfl⟩

theorem pg_s :
    (∀ (t : Nat) (k : IntKind) (n : Int), pg t (.int k n) = (.int k n)) ∧
    (∀ (t : Nat) (b : Bool), pg t (.bool b) = (.bool b)) ∧
    (∀ (t : Nat) (x : List UInt8), pg t (.str x) = (.str x)) ∧
    (∀ (t : Nat) (xs : List AV), pg t (.slice xs) = (.slice xs)) ∧
    (∀ (t : Nat) (d : AV), pg t (.ref d) = (.ref d)) ∧
    (∀ (t : Nat) , pg t .nilp = .nilp) ∧
    (∀ (t : Nat) , pg t .nils = .nils) ∧
    (∀ (t : Nat) , pg t .anyb = .anyb) ∧
    (∀ (t : Nat) , pg t .hole = .hole) ∧
    (∀ (t : Nat) (sz : Nat) (xs : List AV), pg t (.uslice sz xs) = (.uslice sz xs)) ∧
    (∀ (t : Nat) (d : AV), pg t (.ubox d) = (.ubox d)) ∧
    (∀ (t : Nat) (fs : List AV), pg t (.agg fs) = (.agg fs)) ∧
    (∀ (t : Nat) (fs : List AV), pg t (.tuple fs) = (.tuple fs)) ∧
    (∀ (t y : Nat) q, pg t (.h y q) = if y = t then .hole else .h y q) ∧
    (∀ (t y : Nat) q, pg t (.hp y q) = if y = t then .hole else .hp y q) ∧
    (∀ (t : Nat) f c, pg t (.fn f c) = .fn f (pgs t c)) ∧
    (∀ t, pgs t [] = []) ∧
    (∀ t d ds, pgs t (d :: ds) = pg t d :: pgs t ds) ∧
    (∀ t, pgA t [] = []) ∧
    (∀ t u d l, pgA t ((u, d) :: l) = (u, pg t d) :: pgA t l) ∧
    (∀ t l, pgS t (stA l) = stA (pgA t l)) :=
  ⟨fun _ _ _ => by unfold pg; rfl, fun _ _ => by unfold pg; rfl, fun _ _ => by unfold pg; rfl, fun _ _ => by unfold pg; rfl, fun _ _ => by unfold pg; rfl, fun _  => by unfold pg; rfl, fun _  => by unfold pg; rfl, fun _  => by unfold pg; rfl, fun _  => by unfold pg; rfl, fun _ _ _ => by unfold pg; rfl, fun _ _ => by unfold pg; rfl, fun _ _ => by unfold pg; rfl, fun _ _ => by unfold pg; rfl, fun _ _ _ => by unfold pg; rfl, fun _ _ _ => by unfold pg; rfl, fun _ _ _ => by simp only [pg], fun _ => by simp only [pgs], fun _ _ _ => by simp only [pgs], fun _ => rfl, fun _ _ _ _ => rfl, fun t l => pgS_stA t l⟩

theorem pk_s :
    (∀ (t : Nat) (k : IntKind) (n : Int), pk t (.int k n) = (.int k n)) ∧
    (∀ (t : Nat) (b : Bool), pk t (.bool b) = (.bool b)) ∧
    (∀ (t : Nat) (x : List UInt8), pk t (.str x) = (.str x)) ∧
    (∀ (t : Nat) (xs : List AV), pk t (.slice xs) = (.slice xs)) ∧
    (∀ (t : Nat) (d : AV), pk t (.ref d) = (.ref d)) ∧
    (∀ (t : Nat) , pk t .nilp = .nilp) ∧
    (∀ (t : Nat) , pk t .nils = .nils) ∧
    (∀ (t : Nat) , pk t .anyb = .anyb) ∧
    (∀ (t : Nat) , pk t .hole = .hole) ∧
    (∀ (t : Nat) (sz : Nat) (xs : List AV), pk t (.uslice sz xs) = (.uslice sz xs)) ∧
    (∀ (t : Nat) (d : AV), pk t (.ubox d) = (.ubox d)) ∧
    (∀ (t : Nat) (fs : List AV), pk t (.agg fs) = (.agg fs)) ∧
    (∀ (t : Nat) (fs : List AV), pk t (.tuple fs) = (.tuple fs)) ∧
    (∀ (t y : Nat), pk t (.h y []) = .h y []) ∧
    (∀ (t y k : Nat) q, pk t (.h y (k :: q)) = if y = t then .hole else .h y (k :: q)) ∧
    (∀ (t y : Nat) q, pk t (.hp y q) = if y = t then .hole else .hp y q) ∧
    (∀ (t : Nat) f c, pk t (.fn f c) = .fn f (pks t c)) ∧
    (∀ t, pks t [] = []) ∧
    (∀ t d ds, pks t (d :: ds) = pk t d :: pks t ds) ∧
    (∀ t, pkA t [] = []) ∧
    (∀ t u d l, pkA t ((u, d) :: l) = (u, pk t d) :: pkA t l) ∧
    (∀ t l, pkS t (stA l) = stA (pkA t l)) :=
  ⟨fun _ _ _ => by unfold pk; rfl, fun _ _ => by unfold pk; rfl, fun _ _ => by unfold pk; rfl, fun _ _ => by unfold pk; rfl, fun _ _ => by unfold pk; rfl, fun _  => by unfold pk; rfl, fun _  => by unfold pk; rfl, fun _  => by unfold pk; rfl, fun _  => by unfold pk; rfl, fun _ _ _ => by unfold pk; rfl, fun _ _ => by unfold pk; rfl, fun _ _ => by unfold pk; rfl, fun _ _ => by unfold pk; rfl, fun _ _ => by simp [pk], fun _ _ _ _ => by simp [pk], fun _ _ _ => by unfold pk; rfl, fun _ _ _ => by simp only [pk], fun _ => by simp only [pks], fun _ _ _ => by simp only [pks], fun _ => rfl, fun _ _ _ _ => rfl, fun t l => pkS_stA t l⟩

end Go.Fw