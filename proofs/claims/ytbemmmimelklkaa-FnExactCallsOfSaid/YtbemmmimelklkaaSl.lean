/- Part of a proof that a law returns true for every input. No condition. -/
import Derived.Shelf.SlGeneric
import Derived.Ground.SlgnProg
import Derived.Shelf.SlLaysN
import Derived.Shelf.SlLaysNS
import Derived.Shelf.SortG.Plain
import Derived.Shelf.SortG.SortNone
import Derived.Shelf.SlicesG.CompactI
import Derived.Test.YtbemmmimelklkaaFwM
import Derived.Test.YtbemmmimelklkaaC3
namespace Go.Proofs.Ytbemmmimelklkaa
open Go Go.Fw Go.Sh Go.Shelf
set_option maxRecDepth 100000
def Try.lsi_ren : Go.Shelf.Ren := ⟨fun | 53 => 38 | 64 => 44 | 63 => 54 | 78 => 66 | 79 => 67 | 70 => 82 | 71 => 83 | 72 => 84 | 73 => 85 | 74 => 86 | 75 => 87 | 59 => 88 | 76 => 89 | 77 => 90 | 88 => 112 | 89 => 93 | 90 => 94 | 91 => 113 | 92 => 114 | 68 => 115 | 96 => 125 | n => n, fun | 22 => 24 | 23 => 2 | 3 => 3 | 51 => 72 | 0 => 0 | 67 => 98 | 69 => 100 | 4 => 4 | 61 => 90 | 60 => 89 | 44 => 95 | 5 => 5 | 9 => 9 | 75 => 124 | 79 => 128 | 83 => 147 | 84 => 148 | n => n, fun | n => n⟩
theorem Try.lsi : Go.Proofs.SlLaysN.n53 Try.prog Try.lsi_ren := {
  mixed := by kernel_rfl
  f53 := ⟨Try.f38.name, by decide, Try.func38.trans (congrArg some (by kernel_rfl))⟩
  f59 := ⟨Try.f88.name, by decide, Try.func88.trans (congrArg some (by kernel_rfl))⟩
  f63 := ⟨Try.f54.name, by decide, Try.func54.trans (congrArg some (by kernel_rfl))⟩
  f64 := Try.func44.trans (congrArg some (by kernel_rfl))
  f68 := ⟨Try.f115.name, by decide, Try.func115.trans (congrArg some (by kernel_rfl))⟩
  f70 := ⟨Try.f82.name, by decide, Try.func82.trans (congrArg some (by kernel_rfl))⟩
  f71 := ⟨Try.f83.name, by decide, Try.func83.trans (congrArg some (by kernel_rfl))⟩
  f72 := ⟨Try.f84.name, by decide, Try.func84.trans (congrArg some (by kernel_rfl))⟩
  f73 := ⟨Try.f85.name, by decide, Try.func85.trans (congrArg some (by kernel_rfl))⟩
  f74 := ⟨Try.f86.name, by decide, Try.func86.trans (congrArg some (by kernel_rfl))⟩
  f75 := ⟨Try.f87.name, by decide, Try.func87.trans (congrArg some (by kernel_rfl))⟩
  f76 := ⟨Try.f89.name, by decide, Try.func89.trans (congrArg some (by kernel_rfl))⟩
  f77 := ⟨Try.f90.name, by decide, Try.func90.trans (congrArg some (by kernel_rfl))⟩
  f78 := Try.func66.trans (congrArg some (by kernel_rfl))
  f79 := Try.func67.trans (congrArg some (by kernel_rfl))
  f88 := ⟨Try.f112.name, by decide, Try.func112.trans (congrArg some (by kernel_rfl))⟩
  f89 := Try.func93.trans (congrArg some (by kernel_rfl))
  f90 := Try.func94.trans (congrArg some (by kernel_rfl))
  f91 := ⟨Try.f113.name, by decide, Try.func113.trans (congrArg some (by kernel_rfl))⟩
  f92 := ⟨Try.f114.name, by decide, Try.func114.trans (congrArg some (by kernel_rfl))⟩
  f96 := ⟨Try.f125.name, by decide, Try.func125.trans (congrArg some (by kernel_rfl))⟩
  t0 := Try.underlying0
  a0 := Try.isAgg0
  z0 := Try.sizeOf0
  v0 := Try.zeroValue0
  t3 := Try.underlying3
  a3 := Try.isAgg3
  z3 := Try.sizeOf3
  v3 := Try.zeroValue3
  t4 := Try.underlying4
  a4 := Try.isAgg4
  z4 := Try.sizeOf4
  v4 := Try.zeroValue4
  t5 := Try.underlying5
  a5 := Try.isAgg5
  z5 := Try.sizeOf5
  v5 := Try.zeroValue5
  t9 := Try.underlying9
  a9 := Try.isAgg9
  z9 := Try.sizeOf9
  v9 := Try.zeroValue9
  t22 := Try.underlying24
  a22 := Try.isAgg24
  z22 := Try.sizeOf24
  v22 := Try.zeroValue24
  t23 := Try.underlying2
  a23 := Try.isAgg2
  z23 := Try.sizeOf2
  v23 := Try.zeroValue2
  t44 := Try.underlying95
  a44 := Try.isAgg95
  z44 := Try.sizeOf95
  v44 := Try.zeroValue95
  t51 := Try.underlying72
  a51 := Try.isAgg72
  z51 := Try.sizeOf72
  v51 := Try.zeroValue72
  t60 := Try.underlying89
  a60 := Try.isAgg89
  z60 := Try.sizeOf89
  v60 := Try.zeroValue89
  t61 := Try.underlying90
  a61 := Try.isAgg90
  z61 := Try.sizeOf90
  v61 := Try.zeroValue90
  t67 := Try.underlying98
  a67 := Try.isAgg98
  z67 := Try.sizeOf98
  v67 := Try.zeroValue98
  t69 := Try.underlying100
  a69 := Try.isAgg100
  z69 := Try.sizeOf100
  v69 := Try.zeroValue100
  t75 := Try.underlying124
  a75 := Try.isAgg124
  z75 := Try.sizeOf124
  v75 := Try.zeroValue124
  t79 := Try.underlying128
  a79 := Try.isAgg128
  z79 := Try.sizeOf128
  v79 := Try.zeroValue128
  t83 := Try.underlying147
  a83 := Try.isAgg147
  z83 := Try.sizeOf147
  v83 := Try.zeroValue147
  t84 := Try.underlying148
  a84 := Try.isAgg148
  z84 := Try.sizeOf148
  v84 := Try.zeroValue148 }
def Try.lci_ren : Go.Shelf.Ren := ⟨fun | 43 => 39 | n => n, fun | 22 => 24 | 23 => 2 | 3 => 3 | 4 => 4 | 0 => 0 | n => n, fun | n => n⟩
theorem Try.lci : Go.Proofs.SlLaysN.n43 Try.prog Try.lci_ren := {
  mixed := by kernel_rfl
  f43 := ⟨Try.f39.name, by decide, Try.func39.trans (congrArg some (by kernel_rfl))⟩
  t0 := Try.underlying0
  a0 := Try.isAgg0
  z0 := Try.sizeOf0
  v0 := Try.zeroValue0
  t3 := Try.underlying3
  a3 := Try.isAgg3
  z3 := Try.sizeOf3
  v3 := Try.zeroValue3
  t4 := Try.underlying4
  a4 := Try.isAgg4
  z4 := Try.sizeOf4
  v4 := Try.zeroValue4
  t22 := Try.underlying24
  a22 := Try.isAgg24
  z22 := Try.sizeOf24
  v22 := Try.zeroValue24
  t23 := Try.underlying2
  a23 := Try.isAgg2
  z23 := Try.sizeOf2
  v23 := Try.zeroValue2
  i23 := by kernel_rfl }

theorem one_i64 : One e_i64 (Value.int .i64) := ⟨fun _ => rfl, fun w F x cs S => by unfold e_i64; rw [RV]⟩
theorem sl_Sort_int64 (a r : List Int) (h : slices_Sort_int64_int64 a = some r) : OkAt Cc 38 [.uslice 1 (a.map e_i64)] (.tuple []) [.uslice 1 (r.map e_i64)] := by
  unfold slices_Sort_int64_int64 at h
  split at h
  · rename_i hl
    cases h
    exact OkAt.inplace (C := Cc) (f := 38) one_i64 (fun args w => Try.lsi.f53.enters rfl args w) a _ (List.length_mergeSort a) (fun x w => AnyG.slices_Sort_int_none Try.lsi x 0 w) (fun w b cap hH hb => AnyG.slices_Sort_int Try.lsi b 0 cap a w hH hb hl)
  · cases h
theorem sl_Compact_int64 (a r : List Int) (h : slices_Compact_int64_int64 a = some r) : OkAt Cc 39 [.uslice 1 (a.map e_i64)] (.uslice 1 (r.map e_i64)) [.hole] := by
  cases h
  rw [← cpt_eq a]
  have hle : (Lib.compact a).length ≤ a.length := by rw [cpt_eq]; exact cpt_len none a
  refine OkAt.shorter (C := Cc) (f := 39) one_i64 (fun args w => Try.lci.f43.enters rfl args w) a (Lib.compact a) (List.replicate (a.length - (Lib.compact a).length) (0 : Int)) (by simp only [List.length_append, List.length_replicate]; omega) (fun x w => AnyG.slices_Compact_int_empty Try.lci x 0 w) (fun w b cap hH hb hc hm => ?_)
  refine (AnyG.slices_Compact_int Try.lci b 0 cap a w hH (Nat.le_trans hc (by simpa [maxLen] using hm)) hc).mono ?_
  rintro e w' ⟨rfl, q, hq⟩
  exact ⟨rfl, q, #[], by rw [Sort.grow_empty]; exact hq⟩
end Go.Proofs.Ytbemmmimelklkaa
