/- Part of a proof that a law returns true for every input. No condition. -/
import Derived.Shelf.SlGeneric
import Derived.Ground.SlgnProg
import Derived.Shelf.SlLaysN
import Derived.Shelf.SlLaysNS
import Derived.Shelf.SortG.Plain
import Derived.Shelf.SortG.SortNone
import Derived.Shelf.SlicesG.CompactI
import Derived.Test.YtobljppjkklojaaFwM
import Derived.Test.YtobljppjkklojaaC20
namespace Go.Proofs.Ytobljppjkklojaa
open Go Go.Fw Go.Sh Go.Shelf
set_option maxRecDepth 100000
def Try.lsi_ren : Go.Shelf.Ren := ⟨fun | 53 => 223 | 64 => 260 | 63 => 283 | 78 => 315 | 79 => 316 | 70 => 321 | 71 => 322 | 72 => 323 | 73 => 324 | 74 => 325 | 75 => 326 | 59 => 327 | 76 => 328 | 77 => 329 | 88 => 337 | 89 => 332 | 90 => 333 | 91 => 338 | 92 => 339 | 68 => 340 | 96 => 342 | n => n, fun | 22 => 68 | 23 => 2 | 3 => 3 | 51 => 238 | 0 => 0 | 67 => 321 | 69 => 323 | 4 => 4 | 61 => 314 | 60 => 313 | 44 => 146 | 5 => 5 | 9 => 9 | 75 => 333 | 79 => 337 | 83 => 341 | 84 => 342 | n => n, fun | n => n⟩
theorem Try.lsi : Go.Proofs.SlLaysN.n53 Try.prog Try.lsi_ren := {
  mixed := by kernel_rfl
  f53 := ⟨Try.f223.name, by decide, Try.func223.trans (congrArg some (by kernel_rfl))⟩
  f59 := ⟨Try.f327.name, by decide, Try.func327.trans (congrArg some (by kernel_rfl))⟩
  f63 := ⟨Try.f283.name, by decide, Try.func283.trans (congrArg some (by kernel_rfl))⟩
  f64 := Try.func260.trans (congrArg some (by kernel_rfl))
  f68 := ⟨Try.f340.name, by decide, Try.func340.trans (congrArg some (by kernel_rfl))⟩
  f70 := ⟨Try.f321.name, by decide, Try.func321.trans (congrArg some (by kernel_rfl))⟩
  f71 := ⟨Try.f322.name, by decide, Try.func322.trans (congrArg some (by kernel_rfl))⟩
  f72 := ⟨Try.f323.name, by decide, Try.func323.trans (congrArg some (by kernel_rfl))⟩
  f73 := ⟨Try.f324.name, by decide, Try.func324.trans (congrArg some (by kernel_rfl))⟩
  f74 := ⟨Try.f325.name, by decide, Try.func325.trans (congrArg some (by kernel_rfl))⟩
  f75 := ⟨Try.f326.name, by decide, Try.func326.trans (congrArg some (by kernel_rfl))⟩
  f76 := ⟨Try.f328.name, by decide, Try.func328.trans (congrArg some (by kernel_rfl))⟩
  f77 := ⟨Try.f329.name, by decide, Try.func329.trans (congrArg some (by kernel_rfl))⟩
  f78 := Try.func315.trans (congrArg some (by kernel_rfl))
  f79 := Try.func316.trans (congrArg some (by kernel_rfl))
  f88 := ⟨Try.f337.name, by decide, Try.func337.trans (congrArg some (by kernel_rfl))⟩
  f89 := Try.func332.trans (congrArg some (by kernel_rfl))
  f90 := Try.func333.trans (congrArg some (by kernel_rfl))
  f91 := ⟨Try.f338.name, by decide, Try.func338.trans (congrArg some (by kernel_rfl))⟩
  f92 := ⟨Try.f339.name, by decide, Try.func339.trans (congrArg some (by kernel_rfl))⟩
  f96 := ⟨Try.f342.name, by decide, Try.func342.trans (congrArg some (by kernel_rfl))⟩
  t0 := Try.underlying0
  a0 := Try.isAgg0
  z0 := Try.sizeOf0
  v0 := Try.zeroValue0
  t3 := Try.underlying3
  a3 := Try.isAgg3
  z3 := Try.sizeOf3
  v3 := Try.zeroValue3
  t4 := Try.underlying4
  a4 := Try.isAgg4
  z4 := Try.sizeOf4
  v4 := Try.zeroValue4
  t5 := Try.underlying5
  a5 := Try.isAgg5
  z5 := Try.sizeOf5
  v5 := Try.zeroValue5
  t9 := Try.underlying9
  a9 := Try.isAgg9
  z9 := Try.sizeOf9
  v9 := Try.zeroValue9
  t22 := Try.underlying68
  a22 := Try.isAgg68
  z22 := Try.sizeOf68
  v22 := Try.zeroValue68
  t23 := Try.underlying2
  a23 := Try.isAgg2
  z23 := Try.sizeOf2
  v23 := Try.zeroValue2
  t44 := Try.underlying146
  a44 := Try.isAgg146
  z44 := Try.sizeOf146
  v44 := Try.zeroValue146
  t51 := Try.underlying238
  a51 := Try.isAgg238
  z51 := Try.sizeOf238
  v51 := Try.zeroValue238
  t60 := Try.underlying313
  a60 := Try.isAgg313
  z60 := Try.sizeOf313
  v60 := Try.zeroValue313
  t61 := Try.underlying314
  a61 := Try.isAgg314
  z61 := Try.sizeOf314
  v61 := Try.zeroValue314
  t67 := Try.underlying321
  a67 := Try.isAgg321
  z67 := Try.sizeOf321
  v67 := Try.zeroValue321
  t69 := Try.underlying323
  a69 := Try.isAgg323
  z69 := Try.sizeOf323
  v69 := Try.zeroValue323
  t75 := Try.underlying333
  a75 := Try.isAgg333
  z75 := Try.sizeOf333
  v75 := Try.zeroValue333
  t79 := Try.underlying337
  a79 := Try.isAgg337
  z79 := Try.sizeOf337
  v79 := Try.zeroValue337
  t83 := Try.underlying341
  a83 := Try.isAgg341
  z83 := Try.sizeOf341
  v83 := Try.zeroValue341
  t84 := Try.underlying342
  a84 := Try.isAgg342
  z84 := Try.sizeOf342
  v84 := Try.zeroValue342 }
def Try.lci_ren : Go.Shelf.Ren := ⟨fun | 43 => 224 | n => n, fun | 22 => 68 | 23 => 2 | 3 => 3 | 4 => 4 | 0 => 0 | n => n, fun | n => n⟩
theorem Try.lci : Go.Proofs.SlLaysN.n43 Try.prog Try.lci_ren := {
  mixed := by kernel_rfl
  f43 := ⟨Try.f224.name, by decide, Try.func224.trans (congrArg some (by kernel_rfl))⟩
  t0 := Try.underlying0
  a0 := Try.isAgg0
  z0 := Try.sizeOf0
  v0 := Try.zeroValue0
  t3 := Try.underlying3
  a3 := Try.isAgg3
  z3 := Try.sizeOf3
  v3 := Try.zeroValue3
  t4 := Try.underlying4
  a4 := Try.isAgg4
  z4 := Try.sizeOf4
  v4 := Try.zeroValue4
  t22 := Try.underlying68
  a22 := Try.isAgg68
  z22 := Try.sizeOf68
  v22 := Try.zeroValue68
  t23 := Try.underlying2
  a23 := Try.isAgg2
  z23 := Try.sizeOf2
  v23 := Try.zeroValue2
  i23 := by kernel_rfl }

theorem one_i64 : One e_i64 (Value.int .i64) := ⟨fun _ => rfl, fun w F x cs S => by unfold e_i64; rw [RV]⟩
theorem sl_Sort_int64 (a r : List Int) (h : slices_Sort_int64_int64 a = some r) : OkAt Cc 223 [.uslice 1 (a.map e_i64)] (.tuple []) [.uslice 1 (r.map e_i64)] := by
  unfold slices_Sort_int64_int64 at h
  split at h
  · rename_i hl
    cases h
    exact OkAt.inplace (C := Cc) (f := 223) one_i64 (fun args w => Try.lsi.f53.enters rfl args w) a _ (List.length_mergeSort a) (fun x w => AnyG.slices_Sort_int_none Try.lsi x 0 w) (fun w b cap hH hb => AnyG.slices_Sort_int Try.lsi b 0 cap a w hH hb hl)
  · cases h
theorem sl_Compact_int64 (a r : List Int) (h : slices_Compact_int64_int64 a = some r) : OkAt Cc 224 [.uslice 1 (a.map e_i64)] (.uslice 1 (r.map e_i64)) [.hole] := by
  cases h
  rw [← cpt_eq a]
  have hle : (Lib.compact a).length ≤ a.length := by rw [cpt_eq]; exact cpt_len none a
  refine OkAt.shorter (C := Cc) (f := 224) one_i64 (fun args w => Try.lci.f43.enters rfl args w) a (Lib.compact a) (List.replicate (a.length - (Lib.compact a).length) (0 : Int)) (by simp only [List.length_append, List.length_replicate]; omega) (fun x w => AnyG.slices_Compact_int_empty Try.lci x 0 w) (fun w b cap hH hb hc hm => ?_)
  refine (AnyG.slices_Compact_int Try.lci b 0 cap a w hH (Nat.le_trans hc (by simpa [maxLen] using hm)) hc).mono ?_
  rintro e w' ⟨rfl, q, hq⟩
  exact ⟨rfl, q, #[], by rw [Sort.grow_empty]; exact hq⟩
end Go.Proofs.Ytobljppjkklojaa
