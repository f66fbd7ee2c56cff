/- Part of a proof that a law returns true for every input. No condition. -/
import Derived.Ground.NamesProg
import Derived.Shelf.Lays
import Derived.Shelf.Strings.BuilderX
import Derived.Shelf.Strings.OnBuilder
import Derived.Shelf.Strconv.Itoa4
import Derived.Test.YtgpmnlkgmadglaaGreatDoorFwM
import Derived.Test.YtgpmnlkgmadglaaGreatDoorC9
namespace Go.Proofs.YtgpmnlkgmadglaaGreatDoor
open Go Go.cY Go.eR Go.Shelf
set_option maxRecDepth 100000
def Tryz.asT : Go.Shelf.Ren := ⟨fun | 173 => 210 | 246 => 267 | 283 => 298 | 284 => 299 | 285 => 300 | 286 => 301 | 129 => 320 | 317 => 319 | 318 => 321 | 319 => 322 | 320 => 323 | 337 => 333 | 338 => 334 | n => n, fun | 2 => 2 | 3 => 3 | 9 => 9 | 4 => 4 | 171 => 362 | 0 => 0 | 53 => 363 | 37 => 123 | 5 => 5 | 173 => 366 | 212 => 378 | 51 => 379 | 20 => 20 | 213 => 380 | 46 => 338 | 232 => 395 | 233 => 396 | n => n, fun | 17 => 0 | 18 => 2 | 19 => 3 | n => n⟩
theorem Tryz.Pp : Go.Proofs.Lays.n173 Tryz.prog Tryz.asT := {
 mixed := by kernel_rfl
 f129 := Tryz.func320.trans (congrArg some (by kernel_rfl))
 f173 := Tryz.func210.trans (congrArg some (by kernel_rfl))
 f246 := Tryz.func267.trans (congrArg some (by kernel_rfl))
 f283 := Tryz.func298.trans (congrArg some (by kernel_rfl))
 f284 := Tryz.func299.trans (congrArg some (by kernel_rfl))
 f285 := Tryz.func300.trans (congrArg some (by kernel_rfl))
 f286 := Tryz.func301.trans (congrArg some (by kernel_rfl))
 f317 := Tryz.func319.trans (congrArg some (by kernel_rfl))
 f318 := Tryz.func321.trans (congrArg some (by kernel_rfl))
 f319 := Tryz.func322.trans (congrArg some (by kernel_rfl))
 f320 := Tryz.func323.trans (congrArg some (by kernel_rfl))
 f337 := Tryz.func333.trans (congrArg some (by kernel_rfl))
 f338 := Tryz.func334.trans (congrArg some (by kernel_rfl))
 t0 := Tryz.underlying0
 a0 := Tryz.isAgg0
 z0 := Tryz.sizeOf0
 v0 := Tryz.zeroValue0
 t2 := Tryz.underlying2
 a2 := Tryz.isAgg2
 z2 := Tryz.sizeOf2
 v2 := Tryz.zeroValue2
 t3 := Tryz.underlying3
 a3 := Tryz.isAgg3
 z3 := Tryz.sizeOf3
 v3 := Tryz.zeroValue3
 t4 := Tryz.underlying4
 a4 := Tryz.isAgg4
 z4 := Tryz.sizeOf4
 v4 := Tryz.zeroValue4
 t5 := Tryz.underlying5
 a5 := Tryz.isAgg5
 z5 := Tryz.sizeOf5
 v5 := Tryz.zeroValue5
 t9 := Tryz.underlying9
 a9 := Tryz.isAgg9
 z9 := Tryz.sizeOf9
 v9 := Tryz.zeroValue9
 t20 := Tryz.underlying20
 a20 := Tryz.isAgg20
 z20 := Tryz.sizeOf20
 v20 := Tryz.zeroValue20
 t37 := Tryz.underlying123
 a37 := Tryz.isAgg123
 z37 := Tryz.sizeOf123
 v37 := Tryz.zeroValue123
 t46 := Tryz.underlying338
 a46 := Tryz.isAgg338
 z46 := Tryz.sizeOf338
 v46 := Tryz.zeroValue338
 t51 := Tryz.underlying379
 a51 := Tryz.isAgg379
 z51 := Tryz.sizeOf379
 v51 := Tryz.zeroValue379
 t53 := Tryz.underlying363
 a53 := Tryz.isAgg363
 z53 := Tryz.sizeOf363
 v53 := Tryz.zeroValue363
 t171 := Tryz.underlying362
 a171 := Tryz.isAgg362
 z171 := Tryz.sizeOf362
 v171 := Tryz.zeroValue362
 t173 := Tryz.underlying366
 a173 := Tryz.isAgg366
 z173 := Tryz.sizeOf366
 v173 := Tryz.zeroValue366
 t212 := Tryz.underlying378
 a212 := Tryz.isAgg378
 z212 := Tryz.sizeOf378
 v212 := Tryz.zeroValue378
 t213 := Tryz.underlying380
 a213 := Tryz.isAgg380
 z213 := Tryz.sizeOf380
 t232 := Tryz.underlying395
 a232 := Tryz.isAgg395
 z232 := Tryz.sizeOf395
 v232 := Tryz.zeroValue395
 t233 := Tryz.underlying396
 a233 := Tryz.isAgg396
 z233 := Tryz.sizeOf396
 v233 := Tryz.zeroValue396
 g17 := by kernel_rfl
 g18 := by kernel_rfl
 g19 := by kernel_rfl }
def Tryz.Pq : Go.Shelf.Ren := ⟨fun | 156 => 178 | 165 => 250 | 166 => 84 | 169 => 85 | 240 => 145 | 241 => 295 | 276 => 211 | 277 => 317 | n => n, fun | 31 => 49 | 9 => 9 | 3 => 3 | 4 => 4 | 0 => 0 | 20 => 20 | 72 => 125 | 76 => 130 | 70 => 122 | 37 => 123 | 75 => 129 | 127 => 214 | 164 => 281 | 5 => 5 | 80 => 132 | n => n, fun | n => n⟩
theorem Tryz.H4 : Go.Proofs.Lays.n156 Tryz.prog Tryz.Pq := {
 mixed := by kernel_rfl
 f156 := Tryz.func178.trans (congrArg some (by kernel_rfl))
 f165 := Tryz.func250.trans (congrArg some (by kernel_rfl))
 f166 := Tryz.func84.trans (congrArg some (by kernel_rfl))
 f169 := Tryz.func85.trans (congrArg some (by kernel_rfl))
 f240 := Tryz.func145.trans (congrArg some (by kernel_rfl))
 f241 := Tryz.func295.trans (congrArg some (by kernel_rfl))
 f276 := Tryz.func211.trans (congrArg some (by kernel_rfl))
 f277 := Tryz.func317.trans (congrArg some (by kernel_rfl))
 t0 := Tryz.underlying0
 a0 := Tryz.isAgg0
 z0 := Tryz.sizeOf0
 v0 := Tryz.zeroValue0
 t3 := Tryz.underlying3
 a3 := Tryz.isAgg3
 z3 := Tryz.sizeOf3
 v3 := Tryz.zeroValue3
 t4 := Tryz.underlying4
 a4 := Tryz.isAgg4
 z4 := Tryz.sizeOf4
 v4 := Tryz.zeroValue4
 t9 := Tryz.underlying9
 a9 := Tryz.isAgg9
 z9 := Tryz.sizeOf9
 v9 := Tryz.zeroValue9
 t20 := Tryz.underlying20
 a20 := Tryz.isAgg20
 z20 := Tryz.sizeOf20
 v20 := Tryz.zeroValue20
 t31 := Tryz.underlying49
 a31 := Tryz.isAgg49
 z31 := Tryz.sizeOf49
 v31 := Tryz.zeroValue49
 t37 := Tryz.underlying123
 a37 := Tryz.isAgg123
 z37 := Tryz.sizeOf123
 v37 := Tryz.zeroValue123
 t70 := Tryz.underlying122
 a70 := Tryz.isAgg122
 z70 := Tryz.sizeOf122
 v70 := Tryz.zeroValue122
 t72 := Tryz.underlying125
 a72 := Tryz.isAgg125
 z72 := Tryz.sizeOf125
 v72 := Tryz.zeroValue125
 t75 := Tryz.underlying129
 a75 := Tryz.isAgg129
 z75 := Tryz.sizeOf129
 v75 := Tryz.zeroValue129
 t76 := Tryz.underlying130
 a76 := Tryz.isAgg130
 z76 := Tryz.sizeOf130
 v76 := Tryz.zeroValue130
 t127 := Tryz.underlying214
 a127 := Tryz.isAgg214
 z127 := Tryz.sizeOf214
 v127 := Tryz.zeroValue214
 t164 := Tryz.underlying281
 a164 := Tryz.isAgg281
 z164 := Tryz.sizeOf281
 v164 := Tryz.zeroValue281 }
theorem Tryz.Pr : Builder.Extra Tryz.prog Tryz.Pq := {
 sizeBuilder := by kernel_rfl
 liesBuilder := by kernel_rfl
 t5 := Tryz.underlying5
 a5 := Tryz.isAgg5
 z5 := Tryz.sizeOf5
 v5 := Tryz.zeroValue5
 infoByte := by kernel_rfl
 cellsByte := by kernel_rfl
 sizeByte := by kernel_rfl
 neB5 := by decide }
theorem asU : One jn (fun x => .string ⟨⟨x⟩⟩) := ⟨fun _ => rfl, fun w F x cs S => by unfold jn; rw [ay]⟩
theorem asV (n : Nat) (h : n < 100) : Lib.decDigits n = jS n := by
 unfold Lib.decDigits jS
 by_cases af : n < 10
 ·rw [dif_pos af, if_pos af]
 ·rw [dif_neg af, if_neg af]
  unfold Lib.decDigits
  rw [dif_pos (by omega)]; rfl
theorem asW (a0 R : Int) (r : List UInt8) (h : zF a0 R = some r) : bm aA 210 [.int .i64 a0, .int .i64 R] (.str r) [] := by
 unfold zF at h
 split at h
 ·rename_i hl
  obtain ⟨bn, af, rfl⟩ := hl
  cases h
  refine bm.strs (enters_of Tryz.Pp.f173 (by kernel_rfl) rfl) fun w F X S vs vC aW => ?_
  obtain ⟨v0, v1, rfl⟩ : ∃ v0 v1, vs = [v0, v1] := by
   match vs, vC with
   | [x, y], _ => exact ⟨x, y, rfl⟩
  have g0 : v0 = .int .i64 a0 := nE (aW.dp 0)
  have g1 : v1 = .int .i64 10 := nE (aW.dp 1)
  subst g0 g1
  have := Any.strconv_FormatInt_10_small Tryz.Pp a0.toNat (by omega) w
  rw [asV _ (by omega), show ((a0.toNat : Nat) : Int) = a0 from Int.toNat_of_nonneg bn] at this
  exact this.mono fun e aL ⟨he, hw⟩ => ⟨he, hw ▸ RowKit.Below.refl _ _⟩
 ·cases h
theorem asX (a0 : List (List UInt8)) (R r : List UInt8) (h : strings_Join a0 R = some r) : bm aA 178 [.slice (a0.map jn), .str R] (.str r) [] := by
 unfold strings_Join at h
 split at h
 ·rename_i hl
  cases h
  refine bm.strs (enters_of Tryz.H4.f156 (by kernel_rfl) rfl) fun w F X S vs vC aW => ?_
  obtain ⟨v0, v1, rfl⟩ : ∃ v0 v1, vs = [v0, v1] := by
   match vs, vC with
   | [x, y], _ => exact ⟨x, y, rfl⟩
  have af : v1 = .string ⟨⟨R⟩⟩ := nF (aW.dp 1)
  subst af
  rcases W3 aW (u := 0) asU rfl with ⟨rfl, a, c, aK⟩ | ⟨b, o, cap, aK, aa, ao, aq⟩
  ·have aK : v0 = .slice a 0 c := aK
   subst aK
   exact (Any.strings_Join_none Tryz.H4 Tryz.Pr a c ⟨⟨R⟩⟩ w).mono fun e aL ⟨he, hw⟩ => ⟨he, hw ▸ RowKit.Below.refl _ _⟩
  ·have aK : v0 = .slice (some ⟨b, o, none⟩) a0.length cap := aK
   subst aK
   have aN : (a0.map fun x => (⟨⟨x⟩⟩ : ByteArray)).map (·.data.toList) = a0 := by rw [List.map_map]; exact List.map_id _
   have := Any.strings_Join Tryz.H4 Tryz.Pr b o cap (a0.map fun x => ⟨⟨x⟩⟩) ⟨⟨R⟩⟩ w (fun j x bw => by
    rw [List.getElem?_map] at bw
    obtain ⟨y, hy, rfl⟩ := Option.map_eq_some_iff.1 bw
    exact aq j y hy) aa (by rw [List.length_map]; exact hl.1) (by rw [List.length_map]; exact ao) (by rw [aN]; exact hl.2)
   rw [aN, List.length_map] at this
   exact this
 ·cases h
end Go.Proofs.YtgpmnlkgmadglaaGreatDoor
