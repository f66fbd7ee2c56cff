/- Part of a proof that a law returns true for every input. No condition. -/
import Derived.Shelf.SlGeneric
import Derived.Ground.SlgnProg
import Derived.Shelf.SlLaysN
import Derived.Shelf.SlLaysNS
import Derived.Shelf.SortG.Plain
import Derived.Shelf.SortG.SortNone
import Derived.Shelf.SlicesG.CompactS
import Derived.Test.YtobljppjkklojaaFwM
import Derived.Test.YtobljppjkklojaaC19
namespace Go.Proofs.Ytobljppjkklojaa
open Go Go.cM Go.fH Go.Shelf
set_option maxRecDepth 100000
def Try.W_ : Go.Shelf.Ren := ⟨fun | 54 => 178 | 64 => 260 | 65 => 259 | 78 => 315 | 79 => 316 | 80 => 306 | 81 => 307 | 82 => 308 | 83 => 309 | 84 => 310 | 85 => 311 | 61 => 312 | 86 => 313 | 87 => 314 | 93 => 331 | 89 => 332 | 90 => 333 | 94 => 334 | 95 => 335 | 69 => 336 | 97 => 341 | n => n, fun | 25 => 100 | 26 => 9 | 3 => 3 | 51 => 238 | 0 => 0 | 67 => 321 | 69 => 323 | 4 => 4 | 61 => 314 | 60 => 313 | 44 => 146 | 5 => 5 | 9 => 9 | 75 => 333 | 79 => 337 | 83 => 341 | 84 => 342 | n => n, fun | n => n⟩
theorem Try.lss : Go.Proofs.SlLaysN.n54 Try.prog Try.W_ := {
 mixed := by kernel_rfl
 f54 := ⟨Try.f178.name, by decide, Try.func178.trans (congrArg some (by kernel_rfl))⟩
 f61 := ⟨Try.f312.name, by decide, Try.func312.trans (congrArg some (by kernel_rfl))⟩
 f64 := Try.func260.trans (congrArg some (by kernel_rfl))
 f65 := ⟨Try.f259.name, by decide, Try.func259.trans (congrArg some (by kernel_rfl))⟩
 f69 := ⟨Try.f336.name, by decide, Try.func336.trans (congrArg some (by kernel_rfl))⟩
 f78 := Try.func315.trans (congrArg some (by kernel_rfl))
 f79 := Try.func316.trans (congrArg some (by kernel_rfl))
 f80 := ⟨Try.f306.name, by decide, Try.func306.trans (congrArg some (by kernel_rfl))⟩
 f81 := ⟨Try.f307.name, by decide, Try.func307.trans (congrArg some (by kernel_rfl))⟩
 f82 := ⟨Try.f308.name, by decide, Try.func308.trans (congrArg some (by kernel_rfl))⟩
 f83 := ⟨Try.f309.name, by decide, Try.func309.trans (congrArg some (by kernel_rfl))⟩
 f84 := ⟨Try.f310.name, by decide, Try.func310.trans (congrArg some (by kernel_rfl))⟩
 f85 := ⟨Try.f311.name, by decide, Try.func311.trans (congrArg some (by kernel_rfl))⟩
 f86 := ⟨Try.f313.name, by decide, Try.func313.trans (congrArg some (by kernel_rfl))⟩
 f87 := ⟨Try.f314.name, by decide, Try.func314.trans (congrArg some (by kernel_rfl))⟩
 f89 := Try.func332.trans (congrArg some (by kernel_rfl))
 f90 := Try.func333.trans (congrArg some (by kernel_rfl))
 f93 := ⟨Try.f331.name, by decide, Try.func331.trans (congrArg some (by kernel_rfl))⟩
 f94 := ⟨Try.f334.name, by decide, Try.func334.trans (congrArg some (by kernel_rfl))⟩
 f95 := ⟨Try.f335.name, by decide, Try.func335.trans (congrArg some (by kernel_rfl))⟩
 f97 := ⟨Try.f341.name, by decide, Try.func341.trans (congrArg some (by kernel_rfl))⟩
 t0 := Try.underlying0
 a0 := Try.isAgg0
 z0 := Try.sizeOf0
 v0 := Try.zeroValue0
 t3 := Try.underlying3
 a3 := Try.isAgg3
 z3 := Try.sizeOf3
 v3 := Try.zeroValue3
 t4 := Try.underlying4
 a4 := Try.isAgg4
 z4 := Try.sizeOf4
 v4 := Try.zeroValue4
 t5 := Try.underlying5
 a5 := Try.isAgg5
 z5 := Try.sizeOf5
 v5 := Try.zeroValue5
 t9 := Try.underlying9
 a9 := Try.isAgg9
 z9 := Try.sizeOf9
 v9 := Try.zeroValue9
 t25 := Try.underlying100
 a25 := Try.isAgg100
 z25 := Try.sizeOf100
 v25 := Try.zeroValue100
 t26 := Try.underlying9
 a26 := Try.isAgg9
 z26 := Try.sizeOf9
 v26 := Try.zeroValue9
 t44 := Try.underlying146
 a44 := Try.isAgg146
 z44 := Try.sizeOf146
 v44 := Try.zeroValue146
 t51 := Try.underlying238
 a51 := Try.isAgg238
 z51 := Try.sizeOf238
 v51 := Try.zeroValue238
 t60 := Try.underlying313
 a60 := Try.isAgg313
 z60 := Try.sizeOf313
 v60 := Try.zeroValue313
 t61 := Try.underlying314
 a61 := Try.isAgg314
 z61 := Try.sizeOf314
 v61 := Try.zeroValue314
 t67 := Try.underlying321
 a67 := Try.isAgg321
 z67 := Try.sizeOf321
 v67 := Try.zeroValue321
 t69 := Try.underlying323
 a69 := Try.isAgg323
 z69 := Try.sizeOf323
 v69 := Try.zeroValue323
 t75 := Try.underlying333
 a75 := Try.isAgg333
 z75 := Try.sizeOf333
 v75 := Try.zeroValue333
 t79 := Try.underlying337
 a79 := Try.isAgg337
 z79 := Try.sizeOf337
 v79 := Try.zeroValue337
 t83 := Try.underlying341
 a83 := Try.isAgg341
 z83 := Try.sizeOf341
 v83 := Try.zeroValue341
 t84 := Try.underlying342
 a84 := Try.isAgg342
 z84 := Try.sizeOf342
 v84 := Try.zeroValue342 }
def Try.Xa : Go.Shelf.Ren := ⟨fun | 44 => 179 | n => n, fun | 25 => 100 | 26 => 9 | 3 => 3 | 4 => 4 | 0 => 0 | n => n, fun | n => n⟩
theorem Try.lcs : Go.Proofs.SlLaysN.n44 Try.prog Try.Xa := {
 mixed := by kernel_rfl
 f44 := ⟨Try.f179.name, by decide, Try.func179.trans (congrArg some (by kernel_rfl))⟩
 t0 := Try.underlying0
 a0 := Try.isAgg0
 z0 := Try.sizeOf0
 v0 := Try.zeroValue0
 t3 := Try.underlying3
 a3 := Try.isAgg3
 z3 := Try.sizeOf3
 v3 := Try.zeroValue3
 t4 := Try.underlying4
 a4 := Try.isAgg4
 z4 := Try.sizeOf4
 v4 := Try.zeroValue4
 t25 := Try.underlying100
 a25 := Try.isAgg100
 z25 := Try.sizeOf100
 v25 := Try.zeroValue100
 t26 := Try.underlying9
 a26 := Try.isAgg9
 z26 := Try.sizeOf9
 v26 := Try.zeroValue9
 i26 := by kernel_rfl }
theorem Ex : One aR encStr := ⟨fun _ => rfl, fun w F x cs S => by unfold aR; rw [aq]⟩
theorem Xb (a r : List (List UInt8)) (h : sS a = some r) : aX aN 178 [.ay 1 (a.map aR)] (.tuple []) [.ay 1 (r.map aR)] := by
 unfold sS at h
 split at h
 ·rename_i hl
  cases h
  exact aX.K5 (C := aN) (f := 178) Ex (fun args w => Try.lss.f54.enters rfl args w) a _ (List.length_mergeSort a) (fun x w => AnyG.slices_Sort_string_none Try.lss x 0 w) (fun w b cap ib J => AnyG.slices_Sort_string Try.lss b 0 cap a w ib J hl)
 ·cases h
theorem Xc (a r : List (List UInt8)) (h : vC a = some r) : aX aN 179 [.ay 1 (a.map aR)] (.ay 1 (r.map aR)) [.hole] := by
 cases h
 rw [← Dz a]
 have hle : (Lib.compact a).length ≤ a.length := by rw [Dz]; exact Dy none a
 refine aX.K6 (C := aN) (f := 179) Ex (fun args w => Try.lcs.f44.enters rfl args w) a (Lib.compact a) (List.replicate (a.length - (Lib.compact a).length) ([] : List UInt8)) (by simp only [List.length_append, List.length_replicate]; omega) (fun x w => AnyG.slices_Compact_string_empty Try.lcs x 0 w) (fun w b cap ib J aj hm => ?_)
 refine (AnyG.slices_Compact_string Try.lcs b 0 cap a w ib (Nat.le_trans aj (by simpa [maxLen] using hm)) aj).mono ?_
 rintro e aB ⟨rfl, q, cT⟩
 exact ⟨rfl, q, #[], by rw [Sort.grow_empty]; exact cT⟩
end Go.Proofs.Ytobljppjkklojaa
