/- Part of a proof that a law returns true for every input. No condition. -/
import Derived.Test.YtobljppjkklojaaP19
import Derived.Test.YtobljppjkklojaaUN
namespace Go.fH
open Go Go.cM
set_option linter.unusedSimpArgs false
theorem Fu (x : List Int) (n : Int) (ai : (x.length ≤ 9223372036854775807 ∧ ∀ y ∈ x, (-9223372036854775808 ≤ y ∧ y ≤ 9223372036854775807))) (bp : 0 ≤ n) (bh : n ≤ 1048576) : sC x n = some (hD n (x.length + 0)) := by
 unfold sC
 refine rn ai.1 bp bh fun h => ?_
 rw [gH _ (by omega)]
 exact tp (by omega)
theorem Fv (x : List fb) (n : Int) (ai : (x.length ≤ 9223372036854775807 ∧ ∀ y ∈ x, nU y)) (bp : 0 ≤ n) (bh : n ≤ 1048576) : qU x n = some (hD n (x.length + 0)) := by
 unfold qU
 refine rn ai.1 bp bh fun h => ?_
 rw [gH _ (by omega)]
 exact tp (by omega)
theorem Fw (x : List (List fb)) (n : Int) (ai : (x.length ≤ 9223372036854775807 ∧ ∀ y ∈ x, (y.length ≤ 9223372036854775807 ∧ ∀ z ∈ y, nU z))) (bp : 0 ≤ n) (bh : n ≤ 1048576) : sD x n = some (hD n (c8 (fun x => x.length + 0) x)) := by
 unfold sD
 refine rn ai.1 bp bh fun h => ?_
 rw [gH _ (by omega)]
 exact Fm (f := qU) (fun x => x.length + 0) x (fun _ _ _ => rfl) (fun y bC n bp bh => Fv y n (ai.2 y bC) bp bh) (by omega) _ (by omega) (by omega)
def mm (x : gD) : Nat := ((x.bz.length + 0) + ((x.Guard.length + 0) + (x.Name.length + ((c8 (fun x => x.length + 0) x.bK) + ((c8 (fun x => x.length + 0) x.Next) + 0)))))
theorem YW (x : gD) (n : Int) (ai : sB x) (bp : 0 ≤ n) (bh : n ≤ 1048576) : sE x n = some (hD n (mm x)) := by
 unfold sE
 unfold mm
 obtain ⟨w0, jn, kR, o_, zA⟩ := ai
 refine pE (Fu _ _ w0 (by omega) (by omega)) fun lS => ?_
 refine pE (Fv _ _ jn (by omega) (by omega)) fun bT => ?_
 refine rn kR (by omega) (by omega) fun b4 => ?_
 rw [gH (((n - (((x.bz.length + 0) : Nat) : Int)) - (((x.Guard.length + 0) : Nat) : Int)) - (x.Name.length : Int)) (by omega)]
 refine pE (Fw _ _ o_ (by omega) (by omega)) fun Be => ?_
 refine pE (Fw _ _ zA (by omega) (by omega)) fun mY => ?_
 exact tp (by omega)
theorem YX (x : List gD) (n : Int) (ai : (x.length ≤ 9223372036854775807 ∧ ∀ y ∈ x, sB y)) (bp : 0 ≤ n) (bh : n ≤ 1048576) : uS x n = some (hD n (c8 mm x)) := by
 unfold uS
 refine rn ai.1 bp bh fun h => ?_
 rw [gH _ (by omega)]
 exact Fm (f := sE) mm x (fun _ _ _ => rfl) (fun y bC n bp bh => YW y n (ai.2 y bC) bp bh) (by omega) _ (by omega) (by omega)
def n9 (x : i2) : Nat := ((x.Start.length + 0) + ((c8 mm x.cG) + 0))
theorem YY (x : i2) (n : Int) (ai : uP x) (bp : 0 ≤ n) (bh : n ≤ 1048576) : uT x n = some (hD n (n9 x)) := by
 unfold uT
 unfold n9
 obtain ⟨w0, jn, kR⟩ := ai
 refine pE (Fu _ _ jn (by omega) (by omega)) fun bT => ?_
 refine pE (YX _ _ kR (by omega) (by omega)) fun b4 => ?_
 exact tp (by omega)
theorem Fx (x : List Int) (h : (x.length + 0) ≤ 1048576) : sF x = some x := by
 unfold sF
 have hl : x.length ≤ 1048576 := by omega
 rw [wx _ hl (by decide)]
 simp only [Option.bind_some]
 rw [wv (f := some) id x _ (fun _ _ _ => rfl) (fun _ _ => rfl) hl, List.map_id]
def n_ (x : fb) : a2 := ⟨x.Kind, x.Value⟩
theorem YZ (x : fb) : sG x = some (n_ x) := by
 unfold sG
 rfl
theorem Fy (x : List fb) (h : (x.length + 0) ≤ 1048576) : qV x = some (x.map n_) := by
 unfold qV
 have hl : x.length ≤ 1048576 := by omega
 rw [wx _ hl (by decide)]
 simp only [Option.bind_some]
 rw [wv (f := sG) n_ x _ (fun _ _ _ => rfl) (fun y bC => YZ y) hl]
theorem Fz (x : List (List fb)) (h : (c8 (fun x => x.length + 0) x) ≤ 1048576) : sH x = some (x.map (List.map n_)) := by
 unfold sH
 have hl : x.length ≤ 1048576 := Nat.le_trans (mR _ _) h
 rw [wx _ hl (by decide)]
 simp only [Option.bind_some]
 rw [wv (f := qV) (List.map n_) x _ (fun _ _ _ => rfl) (fun y bC => Fy y (Nat.le_trans (rp (f := (fun x => x.length + 0)) bC) h)) hl]
def ry (x : gD) : bu := ⟨x.bz, (x.Guard.map n_), x.Name, (x.bK.map (List.map n_)), (x.Next.map (List.map n_))⟩
def ho (x : bu) : Nat := ((x.bz.length + 0) + ((x.Guard.length + 0) + (x.Name.length + ((c8 (fun x => x.length + 0) x.bK) + ((c8 (fun x => x.length + 0) x.Next) + 0)))))
theorem Y0 (x : gD) : ho (ry x) = mm x := by
 simp only [ho, mm, ry, Fk, List.length_map]
theorem Y1 (x : gD) (h : (mm x) ≤ 1048576) : sI x = some (ry x) := by
 unfold sI
 unfold mm at h
 rw [Fx _ (by omega), Fy _ (by omega), Fz _ (by omega), Fz _ (by omega)]
 rfl
theorem Y2 (x : List gD) (h : (c8 mm x) ≤ 1048576) : uY x = some (x.map ry) := by
 unfold uY
 have hl : x.length ≤ 1048576 := Nat.le_trans (mR _ _) h
 rw [wx _ hl (by decide)]
 simp only [Option.bind_some]
 rw [wv (f := sI) ry x _ (fun _ _ _ => rfl) (fun y bC => Y1 y (Nat.le_trans (rp (f := mm) bC) h)) hl]
def ts (x : i2) : dM := ⟨x.dK, x.Start, (x.cG.map ry)⟩
def lN (x : dM) : Nat := ((x.Start.length + 0) + ((c8 ho x.cG) + 0))
theorem Y3 (x : i2) : lN (ts x) = n9 x := by
 simp only [lN, n9, ts, Fk, List.length_map, Y0]
theorem Y4 (x : i2) (h : (n9 x) ≤ 1048576) : pb x = some (ts x) := by
 unfold pb
 unfold n9 at h
 rw [Fx _ (by omega), Y2 _ (by omega)]
 rfl
theorem Y5 (x : List (List UInt8)) (h : (c8 List.length x) ≤ 1048576) : q8 x x = some true := by
 unfold q8
 have hl : x.length ≤ 1048576 := Nat.le_trans (mR _ _) h
 rw [tq, cond_false]
 exact Fo x (fun _ _ => rfl) wz hl
theorem FA (x : List Int) (h : (x.length + 0) ≤ 1048576) : sU x x = some true := by
 unfold sU
 have hl : x.length ≤ 1048576 := by omega
 rw [tq, cond_false]
 exact Fo x (fun _ _ => rfl) wy hl
theorem Y6 (x : a2) : sV x x = some true := by
 unfold sV
 simp only [wy, wz, zF, cond_false, Option.bind_some, Bool.not_true]
theorem FB (x : List a2) (h : (x.length + 0) ≤ 1048576) : q9 x x = some true := by
 unfold q9
 have hl : x.length ≤ 1048576 := by omega
 rw [tq, cond_false]
 exact zE (f := sV) x (fun _ _ => rfl) (fun y bC => Y6 y) hl
theorem FC (x : List (List a2)) (h : (c8 (fun x => x.length + 0) x) ≤ 1048576) : sW x x = some true := by
 unfold sW
 have hl : x.length ≤ 1048576 := Nat.le_trans (mR _ _) h
 rw [tq, cond_false]
 exact zE (f := q9) x (fun _ _ => rfl) (fun y bC => FB y (Nat.le_trans (rp (f := (fun x => x.length + 0)) bC) h)) hl
theorem Y7 (x : bu) (h : (ho x) ≤ 1048576) : sX x x = some true := by
 unfold sX
 unfold ho at h
 simp only [wy, wz, zF, cond_false, Option.bind_some, Bool.not_true, FA x.bz (by omega), FB x.Guard (by omega), FC x.bK (by omega), FC x.Next (by omega)]
theorem Y8 (x : List bu) (h : (c8 ho x) ≤ 1048576) : vK x x = some true := by
 unfold vK
 have hl : x.length ≤ 1048576 := Nat.le_trans (mR _ _) h
 rw [tq, cond_false]
 exact zE (f := sX) x (fun _ _ => rfl) (fun y bC => Y7 y (Nat.le_trans (rp (f := ho) bC) h)) hl
theorem Y9 (x : dM) (h : (lN x) ≤ 1048576) : vL x x = some true := by
 unfold vL
 unfold lN at h
 simp only [wy, wz, zF, cond_false, Option.bind_some, Bool.not_true, FA x.Start (by omega), Y8 x.cG (by omega)]
theorem FD (k : Int) (bp : 0 ≤ k) (J : k ≤ 1099511627776) : ∃ t, q_ k = some t := by
 have key : ∀ (n : Nat) (k : Int), 0 ≤ k → k ≤ n → n ≤ 1099511627776 → ∀ t : List UInt8, t.length + n ≤ 1099511627776 → ∃ r, ∀ m, n < m → nZ m k t = some r := by
  intro n
  induction n with
  | zero =>
    intro k aa ab aE t aP
    refine ⟨[109] ++ t, fun m hm => ?_⟩
    obtain ⟨m, rfl⟩ : ∃ ar, m = ar + 1 := ⟨m - 1, by omega⟩
    simp only [nZ, s0]
    rw [show decide (0 < k) = false by simp; omega, cond_false, show mo (1 + t.length) = some () by unfold mo; rw [if_pos (by omega)]]
    rfl
  | succ n ih =>
    intro k aa ab aE t aP
    by_cases aw : 0 < k
    ·have af : Int.tdiv k 10 = k / 10 := Int.tdiv_eq_ediv_of_nonneg aa
     have hw : IntKind.i64.wrap (Int.tdiv k 10) = k / 10 := by rw [af]; exact gH _ (by omega)
     obtain ⟨r, aO⟩ := ih (k / 10) (by omega) (by omega) (by omega) ([(mU (IntKind.i64.wrap (48 + (Int.tmod k 10))))] ++ t) (by simp only [List.length_append, List.length_cons, List.length_nil]; omega)
     refine ⟨r, fun m hm => ?_⟩
     obtain ⟨m, rfl⟩ : ∃ ar, m = ar + 1 := ⟨m - 1, by omega⟩
     simp only [nZ, s0]
     rw [show decide (0 < k) = true by simp; omega, cond_true, show mo (1 + t.length) = some () by unfold mo; rw [if_pos (by omega)]]
     simp only [Option.bind_some, hw]
     exact aO m (by omega)
    ·refine ⟨[109] ++ t, fun m hm => ?_⟩
     obtain ⟨m, rfl⟩ : ∃ ar, m = ar + 1 := ⟨m - 1, by omega⟩
     simp only [nZ, s0]
     rw [show decide (0 < k) = false by simp; omega, cond_false, show mo (1 + t.length) = some () by unfold mo; rw [if_pos (by omega)]]
     rfl
 unfold q_
 by_cases aw : k ≤ 0
 ·exact ⟨_, by rw [show decide (k ≤ 0) = true by simpa using aw]; rfl⟩
 ·obtain ⟨r, aO⟩ := key k.toNat k bp (by omega) (by omega) [] (by simp only [List.length_nil]; omega)
  exact ⟨r, by rw [show decide (k ≤ 0) = false by simp; omega, cond_false]; exact h1 (k.toNat + 1) fun m hm => aO m (by omega)⟩
theorem FE (x : List Int) (k : Int) (bp : 0 ≤ k) (J : k + 64 * (x.length + 0) ≤ 1099511627776) : ∃ (cz : List Int) (c : Nat), c ≤ 64 * (x.length + 0) ∧ sY x k = some (k + (c : Int), cz) := by
 unfold sY
 have e : ef (fun _ => 64) x = 64 * x.length := zG 64 x
 obtain ⟨cz, c, aa, ab⟩ := wC (l := pk) (fun _ => 64) (fun m v k => by simp only [pk, vM]; rw [gI (Nat.le_refl _)]; rfl) (fun x k bp J => by
  have jn : IntKind.i64.wrap (k + 1) = k + 1 := gH _ (by omega)
  refine ⟨k, 1, by omega, fun m d r af => ?_⟩
  simp only [pk, vM]
  rw [ru]
  simp only [cond_true, rr, tr, Option.bind_some, jn]
  rw [rv af]
  rw [show ((k + 1) : Int) = k + ((1 : Nat) : Int) by omega]) x k bp (by omega) (by omega)
 exact ⟨cz, c, by omega, ab⟩
theorem FF (x : List a2) (k : Int) (bp : 0 ≤ k) (J : k + 64 * (x.length + 0) ≤ 1099511627776) : ∃ (cz : List a2) (c : Nat), c ≤ 64 * (x.length + 0) ∧ sZ x k = some (k + (c : Int), cz) := by
 unfold sZ
 have e : ef (fun _ => 64) x = 64 * x.length := zG 64 x
 obtain ⟨cz, c, aa, ab⟩ := wC (l := pn) (fun _ => 64) (fun m v k => by simp only [pn, vN]; rw [gI (Nat.le_refl _)]; rfl) (fun x k bp J => by
  have jn : IntKind.i64.wrap (k + 1) = k + 1 := gH _ (by omega)
  have kR : IntKind.i64.wrap ((k + 1) + 1) = (k + 1) + 1 := gH _ (by omega)
  refine ⟨(a2.mk k (k + 1)), 1 + 1, by omega, fun m d r af => ?_⟩
  simp only [pn, vN]
  rw [ru]
  simp only [cond_true, rr, tr, Option.bind_some, jn, kR]
  rw [rv af]
  rw [show (((k + 1) + 1) : Int) = k + ((1 + 1 : Nat) : Int) by omega]) x k bp (by omega) (by omega)
 exact ⟨cz, c, by omega, ab⟩
theorem FG (x : List (List a2)) (k : Int) (bp : 0 ≤ k) (J : k + 64 * (c8 (fun x => x.length + 0) x) ≤ 1099511627776) : ∃ (cz : List (List a2)) (c : Nat), c ≤ 64 * (c8 (fun x => x.length + 0) x) ∧ s3 x k = some (k + (c : Int), cz) := by
 unfold s3
 have e : ef (fun x => 64 * ((x.length + 0) + 1)) x = 64 * c8 (fun x => x.length + 0) x := wB (fun x => x.length + 0) x
 have hl : x.length ≤ c8 (fun x => x.length + 0) x := mR _ _
 obtain ⟨cz, c, aa, ab⟩ := wC (l := po) (fun x => 64 * ((x.length + 0) + 1)) (fun m v k => by simp only [po, vO]; rw [gI (Nat.le_refl _)]; rfl) (fun x k bp J => by
  obtain ⟨gk, bT, jx, en⟩ := FF x k (by omega) (by omega)
  refine ⟨gk, bT, by omega, fun m d r af => ?_⟩
  simp only [po, vO]
  rw [ru]
  simp only [cond_true, rr, tr, Option.bind_some, en]
  rw [rv af]) x k bp (by omega) (by omega)
 exact ⟨cz, c, by omega, ab⟩
theorem Y_ (x : List bu) (k : Int) (bp : 0 ≤ k) (J : k + 64 * (c8 ho x) ≤ 1099511627776) : ∃ (cz : List bu) (c : Nat), c ≤ 64 * (c8 ho x) ∧ vQ x k = some (k + (c : Int), cz) := by
 unfold vQ
 have e : ef (fun x => 64 * ((ho x) + 1)) x = 64 * c8 ho x := wB ho x
 have hl : x.length ≤ c8 ho x := mR _ _
 obtain ⟨cz, c, aa, ab⟩ := wC (l := pq) (fun x => 64 * ((ho x) + 1)) (fun m v k => by simp only [pq, vP]; rw [gI (Nat.le_refl _)]; rfl) (fun x k bp J => by
  simp only [ho] at J ⊢
  obtain ⟨gk, bT, jx, en⟩ := FE x.bz k (by omega) (by omega)
  obtain ⟨hT, b4, hs, fl⟩ := FF x.Guard (k + (bT : Int)) (by omega) (by omega)
  obtain ⟨ff, t3⟩ := FD ((k + (bT : Int)) + (b4 : Int)) (by omega) (by omega)
  have o_ : IntKind.i64.wrap (((k + (bT : Int)) + (b4 : Int)) + 1) = ((k + (bT : Int)) + (b4 : Int)) + 1 := gH _ (by omega)
  obtain ⟨rl, mY, bX, kC⟩ := FG x.bK (((k + (bT : Int)) + (b4 : Int)) + 1) (by omega) (by omega)
  obtain ⟨Za, r6, cl, lb⟩ := FG x.Next ((((k + (bT : Int)) + (b4 : Int)) + 1) + (mY : Int)) (by omega) (by omega)
  refine ⟨(bu.mk gk hT ff rl Za), bT + b4 + 1 + mY + r6, by omega, fun m d r af => ?_⟩
  simp only [pq, vP]
  rw [ru]
  simp only [cond_true, rr, tr, Option.bind_some, en, fl, t3, o_, kC, lb]
  rw [rv af]
  rw [show ((((((k + (bT : Int)) + (b4 : Int)) + 1) + (mY : Int)) + (r6 : Int)) : Int) = k + ((bT + b4 + 1 + mY + r6 : Nat) : Int) by omega]) x k bp (by omega) (by omega)
 exact ⟨cz, c, by omega, ab⟩
theorem Zb (x : dM) (k : Int) (bp : 0 ≤ k) (J : k + 64 * ((lN x) + 1) ≤ 1099511627776) : ∃ (gM : Int) (gk : List Int) (hT : List bu) (c : Nat), c ≤ 64 * ((lN x) + 1) ∧ vR x.dK x.Start x.cG k = some (k + (c : Int), gM, gk, hT) := by
 unfold vR
 simp only [lN] at J ⊢
 obtain ⟨gk, bT, jx, en⟩ := FE x.Start k (by omega) (by omega)
 obtain ⟨hT, b4, hs, fl⟩ := Y_ x.cG (k + (bT : Int)) (by omega) (by omega)
 refine ⟨x.dK, gk, hT, bT + b4, by omega, ?_⟩
 simp only [Option.bind_some, en, fl]
 rw [show (k + ((bT + b4 : Nat) : Int)) = ((k + (bT : Int)) + (b4 : Int)) by omega]
theorem Zc (x : List (List UInt8)) (k : Int) (bp : 0 ≤ k) (J : k + 64 * (c8 List.length x) ≤ 1099511627776) : ∃ (cz : List (List UInt8)) (c : Nat), c ≤ 64 * (c8 List.length x) ∧ vT x k = some (k + (c : Int), cz) ∧ s4 cz k = some (k + (c : Int)) := by
 unfold vT s4
 have e : ef (fun x => 64 * (x.length + 1)) x = 64 * c8 List.length x := wB List.length x
 have hl : x.length ≤ c8 List.length x := mR _ _
 obtain ⟨cz, c, aa, ab, aE⟩ := YV (l := pt) (hl := pv) (fun x => 64 * (x.length + 1)) (fun m v k => by simp only [pt, vS]; rw [gI (Nat.le_refl _)]; rfl) (fun a m k => by simp only [pv, vU]; rw [gI (Nat.le_refl _)]; rfl) (fun x k bp J => by
  obtain ⟨s1, t1⟩ := FD k (by omega) (by omega)
  have jn : IntKind.i64.wrap (k + 1) = k + 1 := gH _ (by omega)
  refine ⟨s1, 1, by omega, fun m d r af => ⟨?_, ?_⟩⟩
  ·simp only [pt, vS]
   rw [ru]
   simp only [cond_true, rr, tr, Option.bind_some, t1, jn]
   rw [rv af]
   rw [show ((k + 1) : Int) = k + ((1 : Nat) : Int) by omega]
  ·simp only [pv, vU]
   rw [ru]
   simp only [cond_true, cond_false, rr, Option.bind_some, bne_self_eq_false, beq_self_eq_true, Bool.not_true, t1, jn]
   rw [rv af]
   rw [show ((k + 1) : Int) = k + ((1 : Nat) : Int) by omega]) x k bp (by omega) (by omega)
 exact ⟨cz, c, by omega, ab, aE⟩
end Go.fH
