/- Part of a proof that a law returns true for every input. No condition. -/
import Derived.Test.YtncnipaofaeaiaaFw14
namespace Go.Fw

/-! What an operation uses, and what it changes: changes as a list. -/

mutual
/-- The slots that a value's handles name. -/
def AV.hs : AV → List Nat
  | .h x _ => [x]
  | .hp x _ => [x]
  | .fn _ cap => AV.hss cap
  | _ => []
def AV.hss : List AV → List Nat
  | [] => []
  | d :: ds => d.hs ++ AV.hss ds
end

inductive PK where
  | no
  | pk
  | pg

/-- A slot gets a value, and the handles to it become void or not. -/
structure Md where
  k : PK
  x : Nat
  d : AV

def PK.app (k : PK) (x : Nat) (a : AV) : AV := match k with
  | .no => a
  | .pk => Fw.pk x a
  | .pg => Fw.pg x a

def Md.at (m : Md) (u : Nat) (a : AV) : AV := if u = m.x then m.d else m.k.app m.x a

def chgAt : List Md → Nat → AV → AV
  | [], _, a => a
  | m :: ms, u, a => chgAt ms u (m.at u a)

def chg (ms : List Md) (s : St) : St := fun u => chgAt ms u (s u)

theorem chgAt_append : ∀ (ms ns : List Md) (u : Nat) (a : AV), chgAt (ms ++ ns) u a = chgAt ns u (chgAt ms u a)
  | [], _, _, _ => rfl
  | m :: ms, ns, u, a => by simp only [List.cons_append, chgAt]; exact chgAt_append ms ns u _

theorem chg_append (ms ns : List Md) (s : St) : chg (ms ++ ns) s = chg ns (chg ms s) := by
  funext u; simp [chg, chgAt_append]

theorem chg_nil (s : St) : chg [] s = s := rfl

theorem chg_agree {ms : List Md} {s s' : St} {u : Nat} (h : s' u = s u) : chg ms s' u = chg ms s u := by simp [chg, h]

theorem upd_pkS (s : St) (x : Nat) (d : AV) : upd (pkS x s) x d = chg [⟨.pk, x, d⟩] s := by
  funext u; simp only [chg, chgAt, Md.at, upd, pkS, PK.app]

theorem upd_pgS (s : St) (x : Nat) (d : AV) : upd (pgS x s) x d = chg [⟨.pg, x, d⟩] s := by
  funext u; simp only [chg, chgAt, Md.at, upd, pgS, PK.app]

theorem upd_no (s : St) (x : Nat) (d : AV) : upd s x d = chg [⟨.no, x, d⟩] s := by
  funext u; simp only [chg, chgAt, Md.at, upd, PK.app]

mutual
theorem pk_id {x : Nat} : ∀ a : AV, x ∉ a.hs → pk x a = a
  | .h y q, h => by
    simp only [AV.hs, List.mem_singleton] at h
    simp only [pk]; rw [if_neg (fun e => h e.symm)]
  | .hp y q, h => by
    simp only [AV.hs, List.mem_singleton] at h
    simp only [pk]; rw [if_neg (fun e => h e.symm)]
  | .fn f cap, h => by simp only [pk]; rw [pks_id cap (by simpa [AV.hs] using h)]
  | .hole, _ => rfl
  | .bool _, _ => rfl
  | .anyb, _ => rfl
  | .int _ _, _ => rfl
  | .str _, _ => rfl
  | .nilp, _ => rfl
  | .nils, _ => rfl
  | .slice _, _ => rfl
  | .uslice _ _, _ => rfl
  | .ref _, _ => rfl
  | .ubox _, _ => rfl
  | .agg _, _ => rfl
  | .tuple _, _ => rfl
theorem pks_id {x : Nat} : ∀ ds : List AV, x ∉ AV.hss ds → pks x ds = ds
  | [], _ => rfl
  | d :: ds, h => by
    simp only [AV.hss, List.mem_append, not_or] at h
    simp only [pks]; rw [pk_id d h.1, pks_id ds h.2]
end

mutual
theorem pg_id {x : Nat} : ∀ a : AV, x ∉ a.hs → pg x a = a
  | .h y q, h => by
    simp only [AV.hs, List.mem_singleton] at h
    simp only [pg]; rw [if_neg (fun e => h e.symm)]
  | .hp y q, h => by
    simp only [AV.hs, List.mem_singleton] at h
    simp only [pg]; rw [if_neg (fun e => h e.symm)]
  | .fn f cap, h => by simp only [pg]; rw [pgs_id cap (by simpa [AV.hs] using h)]
  | .hole, _ => rfl
  | .bool _, _ => rfl
  | .anyb, _ => rfl
  | .int _ _, _ => rfl
  | .str _, _ => rfl
  | .nilp, _ => rfl
  | .nils, _ => rfl
  | .slice _, _ => rfl
  | .uslice _ _, _ => rfl
  | .ref _, _ => rfl
  | .ubox _, _ => rfl
  | .agg _, _ => rfl
  | .tuple _, _ => rfl
theorem pgs_id {x : Nat} : ∀ ds : List AV, x ∉ AV.hss ds → pgs x ds = ds
  | [], _ => rfl
  | d :: ds, h => by
    simp only [AV.hss, List.mem_append, not_or] at h
    simp only [pgs]; rw [pg_id d h.1, pgs_id ds h.2]
end

theorem app_id {k : PK} {x : Nat} {a : AV} (h : k = .no ∨ x ∉ a.hs) : k.app x a = a := by
  cases k with
  | no => rfl
  | pk => exact pk_id a (by simpa using h)
  | pg => exact pg_id a (by simpa using h)

-- Two purges in either order.
mutual
theorem pk_pk (x y : Nat) : ∀ a : AV, pk x (pk y a) = pk y (pk x a)
  | .h z q => by simp only [pk]; by_cases h1 : z = x <;> by_cases h2 : z = y <;> by_cases h3 : q = [] <;> simp [h1, h2, h3, pk] <;> (subst_vars; simp_all [pk])
  | .hp z q => by simp only [pk]; by_cases h1 : z = x <;> by_cases h2 : z = y <;> simp [h1, h2, pk] <;> (subst_vars; simp_all [pk])
  | .fn f cap => by simp only [pk]; rw [pks_pks x y cap]
  | .hole => rfl
  | .bool _ => rfl
  | .anyb => rfl
  | .int _ _ => rfl
  | .str _ => rfl
  | .nilp => rfl
  | .nils => rfl
  | .slice _ => rfl
  | .uslice _ _ => rfl
  | .ref _ => rfl
  | .ubox _ => rfl
  | .agg _ => rfl
  | .tuple _ => rfl
theorem pks_pks (x y : Nat) : ∀ ds : List AV, pks x (pks y ds) = pks y (pks x ds)
  | [] => rfl
  | d :: ds => by simp only [pks]; rw [pk_pk x y d, pks_pks x y ds]
end
mutual
theorem pg_pg (x y : Nat) : ∀ a : AV, pg x (pg y a) = pg y (pg x a)
  | .h z q => by simp only [pg]; by_cases h1 : z = x <;> by_cases h2 : z = y <;> simp [h1, h2, pg] <;> (subst_vars; simp_all [pg])
  | .hp z q => by simp only [pg]; by_cases h1 : z = x <;> by_cases h2 : z = y <;> simp [h1, h2, pg] <;> (subst_vars; simp_all [pg])
  | .fn f cap => by simp only [pg]; rw [pgs_pgs x y cap]
  | .hole => rfl
  | .bool _ => rfl
  | .anyb => rfl
  | .int _ _ => rfl
  | .str _ => rfl
  | .nilp => rfl
  | .nils => rfl
  | .slice _ => rfl
  | .uslice _ _ => rfl
  | .ref _ => rfl
  | .ubox _ => rfl
  | .agg _ => rfl
  | .tuple _ => rfl
theorem pgs_pgs (x y : Nat) : ∀ ds : List AV, pgs x (pgs y ds) = pgs y (pgs x ds)
  | [] => rfl
  | d :: ds => by simp only [pgs]; rw [pg_pg x y d, pgs_pgs x y ds]
end
mutual
theorem pk_pg (x y : Nat) : ∀ a : AV, pk x (pg y a) = pg y (pk x a)
  | .h z q => by simp only [pg, pk]; by_cases h1 : z = x <;> by_cases h2 : z = y <;> by_cases h3 : q = [] <;> simp [h1, h2, h3, pg, pk] <;> (subst_vars; simp_all [pg, pk])
  | .hp z q => by simp only [pg, pk]; by_cases h1 : z = x <;> by_cases h2 : z = y <;> simp [h1, h2, pg, pk] <;> (subst_vars; simp_all [pg, pk])
  | .fn f cap => by simp only [pg, pk]; rw [pks_pgs x y cap]
  | .hole => rfl
  | .bool _ => rfl
  | .anyb => rfl
  | .int _ _ => rfl
  | .str _ => rfl
  | .nilp => rfl
  | .nils => rfl
  | .slice _ => rfl
  | .uslice _ _ => rfl
  | .ref _ => rfl
  | .ubox _ => rfl
  | .agg _ => rfl
  | .tuple _ => rfl
theorem pks_pgs (x y : Nat) : ∀ ds : List AV, pks x (pgs y ds) = pgs y (pks x ds)
  | [] => rfl
  | d :: ds => by simp only [pgs, pks]; rw [pk_pg x y d, pks_pgs x y ds]
end

theorem app_app (k l : PK) (x y : Nat) (a : AV) : k.app x (l.app y a) = l.app y (k.app x a) := by
  cases k <;> cases l <;> simp only [PK.app] <;> first | rfl | exact pk_pk .. | exact pg_pg .. | exact pk_pg .. | exact (pk_pg ..).symm

end Go.Fw
