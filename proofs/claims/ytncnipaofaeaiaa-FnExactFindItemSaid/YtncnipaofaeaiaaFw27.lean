/- Part of a proof that a law returns true for every input. No condition. -/
import Derived.Test.YtncnipaofaeaiaaFw26
namespace Go.Fw

/-! Walking by simp: states are lists. -/

def num : Nat → List AV → List (Nat × AV)
  | _, [] => []
  | k, a :: as => (k, a) :: num (k + 1) as

theorem stA_num : ∀ (as : List AV) (k t : Nat), stA (num k as) (k + t) = as.getD t .hole := by
  intro as
  induction as with
  | nil => intro k t; simp [num, stA]
  | cons a as ih =>
    intro k t
    cases t with
    | zero => simp [num, stA]
    | succ t =>
      have := ih (k + 1) t
      simp only [num, stA]
      rw [if_neg (by omega)]
      rw [show k + (t + 1) = k + 1 + t by omega, this]
      simp

theorem stL_num (as : List AV) : stL as = stA (num 0 as) := by
  funext t
  have := stA_num as 0 t
  rw [Nat.zero_add] at this
  rw [this]; rfl

theorem upd_stA (l : List (Nat × AV)) (t : Nat) (d : AV) : upd (stA l) t d = stA ((t, d) :: l) := by
  funext u; simp only [upd, stA]

def pgA (t : Nat) : List (Nat × AV) → List (Nat × AV)
  | [] => []
  | (u, d) :: l => (u, pg t d) :: pgA t l
def pkA (t : Nat) : List (Nat × AV) → List (Nat × AV)
  | [] => []
  | (u, d) :: l => (u, pk t d) :: pkA t l

theorem pgS_stA (t : Nat) : ∀ l : List (Nat × AV), pgS t (stA l) = stA (pgA t l) := by
  intro l
  funext u
  induction l with
  | nil => rfl
  | cons p l ih =>
    obtain ⟨v, d⟩ := p
    simp only [pgS, stA, pgA] at ih ⊢
    split
    · rfl
    · exact ih

theorem pkS_stA (t : Nat) : ∀ l : List (Nat × AV), pkS t (stA l) = stA (pkA t l) := by
  intro l
  funext u
  induction l with
  | nil => rfl
  | cons p l ih =>
    obtain ⟨v, d⟩ := p
    simp only [pkS, stA, pkA] at ih ⊢
    split
    · rfl
    · exact ih

/-- The kept slots of a state. -/
def kpA (k : List Nat) (s : St) : List (Nat × AV) := k.map fun t => (t, s t)

section
variable {C : Cx} {l : List (Nat × AV)}

/-- What follows an operation, where its effect is known. -/
def aft (x : Option (AV × St)) (dst : Option Nat) (K : St → Prop) : Prop := match x with
  | some (av, s1) => K (fin s1 dst av)
  | none => False

theorem wpRs_nil (K : St → Prop) : wpRs C (stA l) [] K = K (stA l) := rfl

theorem wpRs_op {dst : Option Nat} {so : SO} {os : List RO} {K : St → Prop} (hn : ∀ f args, so ≠ .call f args) (h : aft (eff C (stA l) so) dst (fun s => wpRs C s os K)) : wpRs C (stA l) (⟨dst, so, none⟩ :: os) K := by
  unfold aft at h
  split at h
  · rename_i av s1 he
    simp only [wpRs, wpR]
    cases so <;> first
      | exact ⟨av, s1, he, h⟩
      | exact (hn _ _ rfl).elim
  · exact h.elim

theorem wpRs_call {dst : Option Nat} {f : SX} {args : List SX} {os : List RO} {K : St → Prop} {g : FuncId} {caps : List AV} (ps : List PA) (r : AV)
    (h1 : ev (stA l) f = .fn g caps) (hcp : AV.plains caps = true) (h2 : ps.map (·.a) = args.map (ev (stA l)) ++ caps) (h3 : ∀ p ∈ ps, p.ok (stA l)) (h4 : apartPA ps = true)
    (h5 : OkAt C g (ps.map (·.d)) r (ps.map (·.o))) (h6 : r.res = true) (h7 : lent ps = true → r.nosh = true ∧ ∀ p ∈ ps, p.o.nosh = true)
    (hK : wpRs C (fin (giveL (takeL (stA l) ps) ps) dst r) os K) : wpRs C (stA l) (⟨dst, .call f args, none⟩ :: os) K :=
  ⟨g, caps, ps, r, h1, hcp, h2, h3, h4, h5, h6, h7, hK⟩

def SO.isCall : SO → Bool
  | .call _ _ => true
  | .mv _ => false
  | .asg _ => false
  | .pick _ _ _ => false
  | .alc _ => false
  | .bx _ _ => false
  | .bld _ _ => false
  | .bsl _ _ _ => false
  | .ld _ _ => false
  | .sto _ _ _ => false
  | .nilc _ => false
  | .bn _ _ _ _ => false
  | .un _ _ => false
  | .cvt _ _ _ => false
  | .mkf _ _ => false
  | .mks _ _ _ => false
  | .slc _ _ _ _ => false
  | .fa _ _ _ => false
  | .ia _ _ _ => false
  | .idx _ _ _ => false
  | .ex _ _ => false
  | .len _ _ => false
  | .app _ _ _ _ => false

theorem wpRs_step {dst : Option Nat} {so : SO} {os : List RO} {K : St → Prop} (hn : so.isCall = false) :
    wpRs C (stA l) (⟨dst, so, none⟩ :: os) K = aft (eff C (stA l) so) dst (fun s => wpRs C s os K) := by
  apply propext
  constructor
  · intro h
    simp only [wpRs, wpR] at h
    cases so <;> first
      | (simp [SO.isCall] at hn; done)
      | (obtain ⟨av, s1, h1, h2⟩ := h
         unfold aft
         rw [h1]; exact h2)
  · exact wpRs_op (fun f args e => by subst e; simp [SO.isCall] at hn)

theorem st_mv (dst : Option Nat) (x : SX) (os : List RO) (K : St → Prop) : wpRs C (stA l) (⟨dst, .mv x, none⟩ :: os) K = aft (eff C (stA l) (.mv x)) dst (fun s => wpRs C s os K) := wpRs_step rfl
theorem st_asg (dst : Option Nat) (x : SX) (os : List RO) (K : St → Prop) : wpRs C (stA l) (⟨dst, .asg x, none⟩ :: os) K = aft (eff C (stA l) (.asg x)) dst (fun s => wpRs C s os K) := wpRs_step rfl
theorem st_pick (dst : Option Nat) (x y z : SX) (os : List RO) (K : St → Prop) : wpRs C (stA l) (⟨dst, .pick x y z, none⟩ :: os) K = aft (eff C (stA l) (.pick x y z)) dst (fun s => wpRs C s os K) := wpRs_step rfl
theorem st_alc (dst : Option Nat) (T : TypeId) (os : List RO) (K : St → Prop) : wpRs C (stA l) (⟨dst, .alc T, none⟩ :: os) K = aft (eff C (stA l) (.alc T)) dst (fun s => wpRs C s os K) := wpRs_step rfl
theorem st_bx (dst : Option Nat) (T : TypeId) (x : SX) (os : List RO) (K : St → Prop) : wpRs C (stA l) (⟨dst, .bx T x, none⟩ :: os) K = aft (eff C (stA l) (.bx T x)) dst (fun s => wpRs C s os K) := wpRs_step rfl
theorem st_bld (dst : Option Nat) (T : TypeId) (ps : List (Nat × SX)) (os : List RO) (K : St → Prop) : wpRs C (stA l) (⟨dst, .bld T ps, none⟩ :: os) K = aft (eff C (stA l) (.bld T ps)) dst (fun s => wpRs C s os K) := wpRs_step rfl
theorem st_bsl (dst : Option Nat) (T : TypeId) (n : Nat) (ps : List (Nat × SX)) (os : List RO) (K : St → Prop) : wpRs C (stA l) (⟨dst, .bsl T n ps, none⟩ :: os) K = aft (eff C (stA l) (.bsl T n ps)) dst (fun s => wpRs C s os K) := wpRs_step rfl
theorem st_ld (dst : Option Nat) (T : TypeId) (x : SX) (os : List RO) (K : St → Prop) : wpRs C (stA l) (⟨dst, .ld T x, none⟩ :: os) K = aft (eff C (stA l) (.ld T x)) dst (fun s => wpRs C s os K) := wpRs_step rfl
theorem st_sto (dst : Option Nat) (T : TypeId) (x y : SX) (os : List RO) (K : St → Prop) : wpRs C (stA l) (⟨dst, .sto T x y, none⟩ :: os) K = aft (eff C (stA l) (.sto T x y)) dst (fun s => wpRs C s os K) := wpRs_step rfl
theorem st_nilc (dst : Option Nat) (x : SX) (os : List RO) (K : St → Prop) : wpRs C (stA l) (⟨dst, .nilc x, none⟩ :: os) K = aft (eff C (stA l) (.nilc x)) dst (fun s => wpRs C s os K) := wpRs_step rfl
theorem st_bn (dst : Option Nat) (op : BinOp) (T : TypeId) (x y : SX) (os : List RO) (K : St → Prop) : wpRs C (stA l) (⟨dst, .bn op T x y, none⟩ :: os) K = aft (eff C (stA l) (.bn op T x y)) dst (fun s => wpRs C s os K) := wpRs_step rfl
theorem st_un (dst : Option Nat) (op : UnOp) (x : SX) (os : List RO) (K : St → Prop) : wpRs C (stA l) (⟨dst, .un op x, none⟩ :: os) K = aft (eff C (stA l) (.un op x)) dst (fun s => wpRs C s os K) := wpRs_step rfl
theorem st_cvt (dst : Option Nat) (A B : TypeId) (x : SX) (os : List RO) (K : St → Prop) : wpRs C (stA l) (⟨dst, .cvt A B x, none⟩ :: os) K = aft (eff C (stA l) (.cvt A B x)) dst (fun s => wpRs C s os K) := wpRs_step rfl
theorem st_mkf (dst : Option Nat) (f : FuncId) (cs : List SX) (os : List RO) (K : St → Prop) : wpRs C (stA l) (⟨dst, .mkf f cs, none⟩ :: os) K = aft (eff C (stA l) (.mkf f cs)) dst (fun s => wpRs C s os K) := wpRs_step rfl
theorem st_mks (dst : Option Nat) (T : TypeId) (x y : SX) (os : List RO) (K : St → Prop) : wpRs C (stA l) (⟨dst, .mks T x y, none⟩ :: os) K = aft (eff C (stA l) (.mks T x y)) dst (fun s => wpRs C s os K) := wpRs_step rfl
theorem st_slc (dst : Option Nat) (T : TypeId) (x : SX) (lo hi : Option SX) (os : List RO) (K : St → Prop) : wpRs C (stA l) (⟨dst, .slc T x lo hi, none⟩ :: os) K = aft (eff C (stA l) (.slc T x lo hi)) dst (fun s => wpRs C s os K) := wpRs_step rfl
theorem st_fa (dst : Option Nat) (T : TypeId) (x : SX) (k : Nat) (os : List RO) (K : St → Prop) : wpRs C (stA l) (⟨dst, .fa T x k, none⟩ :: os) K = aft (eff C (stA l) (.fa T x k)) dst (fun s => wpRs C s os K) := wpRs_step rfl
theorem st_ia (dst : Option Nat) (T : TypeId) (x y : SX) (os : List RO) (K : St → Prop) : wpRs C (stA l) (⟨dst, .ia T x y, none⟩ :: os) K = aft (eff C (stA l) (.ia T x y)) dst (fun s => wpRs C s os K) := wpRs_step rfl
theorem st_idx (dst : Option Nat) (T : TypeId) (x y : SX) (os : List RO) (K : St → Prop) : wpRs C (stA l) (⟨dst, .idx T x y, none⟩ :: os) K = aft (eff C (stA l) (.idx T x y)) dst (fun s => wpRs C s os K) := wpRs_step rfl
theorem st_ex (dst : Option Nat) (x : SX) (k : Nat) (os : List RO) (K : St → Prop) : wpRs C (stA l) (⟨dst, .ex x k, none⟩ :: os) K = aft (eff C (stA l) (.ex x k)) dst (fun s => wpRs C s os K) := wpRs_step rfl
theorem st_len (dst : Option Nat) (T : TypeId) (x : SX) (os : List RO) (K : St → Prop) : wpRs C (stA l) (⟨dst, .len T x, none⟩ :: os) K = aft (eff C (stA l) (.len T x)) dst (fun s => wpRs C s os K) := wpRs_step rfl
theorem st_app (dst : Option Nat) (T U : TypeId) (x y : SX) (os : List RO) (K : St → Prop) : wpRs C (stA l) (⟨dst, .app T U x y, none⟩ :: os) K = aft (eff C (stA l) (.app T U x y)) dst (fun s => wpRs C s os K) := wpRs_step rfl

theorem wpRs_guard {dst : Option Nat} {so : SO} {t : Nat} {b : Bool} {os : List RO} {K : St → Prop} :
    wpRs C (stA l) (⟨dst, so, some (t, b)⟩ :: os) K = (match stA l t with
      | .bool b' => if b' = b then wpRs C (stA l) (⟨dst, so, none⟩ :: os) K else wpRs C (fin (stA l) dst (.tuple [])) os K
      | .tuple [] => wpRs C (fin (stA l) dst (.tuple [])) os K
      | _ => False) := by
  simp only [wpRs, wpR]
  rfl

theorem stA_nil (t : Nat) : stA [] t = .hole := rfl
theorem stA_cons (u : Nat) (d : AV) (l : List (Nat × AV)) (t : Nat) : stA ((u, d) :: l) t = if t = u then d else stA l t := rfl

variable {Q : Exit → St → Prop}
theorem wpC_reg (ros : List RO) (k : List Nat) : wpC C (.reg ros (some k)) Q (stA l) = wpRs C (stA l) ros (fun s => Q .normal (stA (kpA k s))) := rfl
theorem wpC_seq (a b : SC) : wpC C (.seq a b) Q (stA l) = wpC C a (andThen (onW (wpC C b Q)) Q) (stA l) := rfl
theorem wpC_cond (c : SX) (a b : SC) : wpC C (.cond c a b) Q (stA l) = (match ev (stA l) c with
    | .bool b' => if b' = true then wpC C a Q (stA l) else wpC C b Q (stA l)
    | .anyb => wpC C a Q (stA l) ∧ wpC C b Q (stA l)
    | _ => False) := by simp only [wpC]; rfl
theorem wpC_block (id : Nat) (b : SC) : wpC C (.block id b) Q (stA l) = wpC C b (inBlk id Q) (stA l) := rfl
theorem wpC_exit (id : Nat) : wpC C (.exit id) Q (stA l) = Q (.exit id) (stA l) := rfl
theorem wpC_ret : wpC C .ret Q (stA l) = Q .ret (stA l) := rfl
theorem wpC_skip : wpC C .skip Q (stA l) = Q .normal (stA l) := rfl
theorem andThen_normal (K : St → Prop) (s : St) : andThen K Q .normal s = K s := rfl
theorem andThen_ret (K : St → Prop) (s : St) : andThen K Q .ret s = Q .ret s := rfl
theorem andThen_exit (K : St → Prop) (i : Nat) (s : St) : andThen K Q (.exit i) s = Q (.exit i) s := rfl
theorem inBlk_normal (id : Nat) (s : St) : inBlk id Q .normal s = Q .normal s := rfl
theorem inBlk_ret (id : Nat) (s : St) : inBlk id Q .ret s = Q .ret s := rfl
theorem inBlk_exit (id i : Nat) (s : St) : inBlk id Q (.exit i) s = if i = id then Q .normal s else Q (.exit i) s := rfl
theorem kpA_nil (s : St) : kpA [] s = [] := rfl
theorem kpA_cons (t : Nat) (k : List Nat) (s : St) : kpA (t :: k) s = (t, s t) :: kpA k s := rfl
theorem aft_some (av : AV) (s1 : St) (dst : Option Nat) (K : St → Prop) : aft (some (av, s1)) dst K = K (fin s1 dst av) := rfl

def AV.isTup : AV → Bool
  | .tuple _ => true
  | _ => false

/-- A body that ends with one result, and gives nothing back. -/
theorem Ends.one {fx : List Nat} {t : Nat} {r : AV} {s : St} (h1 : s t = r) (h2 : (r.tree && !r.isTup) = true) : Ends C fx [.tmp t] r [] s := by
  simp only [Bool.and_eq_true, Bool.not_eq_true'] at h2
  obtain ⟨h2, h3'⟩ := h2
  have h3 : ∀ vs, r ≠ .tuple vs := fun vs e => by subst e; simp [AV.isTup] at h3'
  refine ⟨[r], ?_, rfl, by simp, fun i o h => by simp at h⟩
  have : resAV C s (.tmp t) = some r := by
    simp only [resAV, h1, h2, if_true]
    try (cases r <;> first | rfl | exact (h3 _ rfl).elim)
  simp only [List.map_cons, List.map_nil, this]

end
end Go.Fw
