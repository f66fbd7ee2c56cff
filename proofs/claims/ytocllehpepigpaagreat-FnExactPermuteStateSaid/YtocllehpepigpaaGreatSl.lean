/- Part of a proof that a law returns true for every input. No condition. -/
import Derived.Shelf.SlGeneric
import Derived.Ground.SlgnProg
import Derived.Shelf.SlLaysN
import Derived.Shelf.SlLaysNS
import Derived.Shelf.SortG.Plain
import Derived.Shelf.SortG.SortNone
import Derived.Shelf.SlicesG.CompactI
import Derived.Test.YtocllehpepigpaaGreatFwM
import Derived.Test.YtocllehpepigpaaGreatC5
namespace Go.Proofs.YtocllehpepigpaaGreat
open Go Go.dg Go.e1 Go.Shelf
set_option maxRecDepth 100000
def Tryz.avf : Go.Shelf.Ren := ⟨fun | 53 => 174 | 64 => 144 | 63 => 228 | 78 => 200 | 79 => 201 | 70 => 270 | 71 => 271 | 72 => 272 | 73 => 273 | 74 => 274 | 75 => 275 | 59 => 276 | 76 => 277 | 77 => 278 | 88 => 294 | 89 => 248 | 90 => 249 | 91 => 295 | 92 => 296 | 68 => 202 | 96 => 300 | n => n, fun | 22 => 46 | 23 => 2 | 3 => 3 | 51 => 188 | 0 => 0 | 67 => 236 | 69 => 238 | 4 => 4 | 61 => 229 | 60 => 228 | 44 => 233 | 5 => 5 | 9 => 9 | 75 => 273 | 79 => 277 | 83 => 304 | 84 => 305 | n => n, fun | n => n⟩
theorem Tryz.Hg : Go.Proofs.SlLaysN.n53 Tryz.prog Tryz.avf := {
 mixed := by kernel_rfl
 f53 := ⟨Tryz.f174.name, by decide, Tryz.func174.trans (congrArg some (by kernel_rfl))⟩
 f59 := ⟨Tryz.f276.name, by decide, Tryz.func276.trans (congrArg some (by kernel_rfl))⟩
 f63 := ⟨Tryz.f228.name, by decide, Tryz.func228.trans (congrArg some (by kernel_rfl))⟩
 f64 := Tryz.func144.trans (congrArg some (by kernel_rfl))
 f68 := ⟨Tryz.f202.name, by decide, Tryz.func202.trans (congrArg some (by kernel_rfl))⟩
 f70 := ⟨Tryz.f270.name, by decide, Tryz.func270.trans (congrArg some (by kernel_rfl))⟩
 f71 := ⟨Tryz.f271.name, by decide, Tryz.func271.trans (congrArg some (by kernel_rfl))⟩
 f72 := ⟨Tryz.f272.name, by decide, Tryz.func272.trans (congrArg some (by kernel_rfl))⟩
 f73 := ⟨Tryz.f273.name, by decide, Tryz.func273.trans (congrArg some (by kernel_rfl))⟩
 f74 := ⟨Tryz.f274.name, by decide, Tryz.func274.trans (congrArg some (by kernel_rfl))⟩
 f75 := ⟨Tryz.f275.name, by decide, Tryz.func275.trans (congrArg some (by kernel_rfl))⟩
 f76 := ⟨Tryz.f277.name, by decide, Tryz.func277.trans (congrArg some (by kernel_rfl))⟩
 f77 := ⟨Tryz.f278.name, by decide, Tryz.func278.trans (congrArg some (by kernel_rfl))⟩
 f78 := Tryz.func200.trans (congrArg some (by kernel_rfl))
 f79 := Tryz.func201.trans (congrArg some (by kernel_rfl))
 f88 := ⟨Tryz.f294.name, by decide, Tryz.func294.trans (congrArg some (by kernel_rfl))⟩
 f89 := Tryz.func248.trans (congrArg some (by kernel_rfl))
 f90 := Tryz.func249.trans (congrArg some (by kernel_rfl))
 f91 := ⟨Tryz.f295.name, by decide, Tryz.func295.trans (congrArg some (by kernel_rfl))⟩
 f92 := ⟨Tryz.f296.name, by decide, Tryz.func296.trans (congrArg some (by kernel_rfl))⟩
 f96 := ⟨Tryz.f300.name, by decide, Tryz.func300.trans (congrArg some (by kernel_rfl))⟩
 t0 := Tryz.underlying0
 a0 := Tryz.isAgg0
 z0 := Tryz.sizeOf0
 v0 := Tryz.zeroValue0
 t3 := Tryz.underlying3
 a3 := Tryz.isAgg3
 z3 := Tryz.sizeOf3
 v3 := Tryz.zeroValue3
 t4 := Tryz.underlying4
 a4 := Tryz.isAgg4
 z4 := Tryz.sizeOf4
 v4 := Tryz.zeroValue4
 t5 := Tryz.underlying5
 a5 := Tryz.isAgg5
 z5 := Tryz.sizeOf5
 v5 := Tryz.zeroValue5
 t9 := Tryz.underlying9
 a9 := Tryz.isAgg9
 z9 := Tryz.sizeOf9
 v9 := Tryz.zeroValue9
 t22 := Tryz.underlying46
 a22 := Tryz.isAgg46
 z22 := Tryz.sizeOf46
 v22 := Tryz.zeroValue46
 t23 := Tryz.underlying2
 a23 := Tryz.isAgg2
 z23 := Tryz.sizeOf2
 v23 := Tryz.zeroValue2
 t44 := Tryz.underlying233
 a44 := Tryz.isAgg233
 z44 := Tryz.sizeOf233
 v44 := Tryz.zeroValue233
 t51 := Tryz.underlying188
 a51 := Tryz.isAgg188
 z51 := Tryz.sizeOf188
 v51 := Tryz.zeroValue188
 t60 := Tryz.underlying228
 a60 := Tryz.isAgg228
 z60 := Tryz.sizeOf228
 v60 := Tryz.zeroValue228
 t61 := Tryz.underlying229
 a61 := Tryz.isAgg229
 z61 := Tryz.sizeOf229
 v61 := Tryz.zeroValue229
 t67 := Tryz.underlying236
 a67 := Tryz.isAgg236
 z67 := Tryz.sizeOf236
 v67 := Tryz.zeroValue236
 t69 := Tryz.underlying238
 a69 := Tryz.isAgg238
 z69 := Tryz.sizeOf238
 v69 := Tryz.zeroValue238
 t75 := Tryz.underlying273
 a75 := Tryz.isAgg273
 z75 := Tryz.sizeOf273
 v75 := Tryz.zeroValue273
 t79 := Tryz.underlying277
 a79 := Tryz.isAgg277
 z79 := Tryz.sizeOf277
 v79 := Tryz.zeroValue277
 t83 := Tryz.underlying304
 a83 := Tryz.isAgg304
 z83 := Tryz.sizeOf304
 v83 := Tryz.zeroValue304
 t84 := Tryz.underlying305
 a84 := Tryz.isAgg305
 z84 := Tryz.sizeOf305
 v84 := Tryz.zeroValue305 }
def Tryz.avg : Go.Shelf.Ren := ⟨fun | 43 => 175 | n => n, fun | 22 => 46 | 23 => 2 | 3 => 3 | 4 => 4 | 0 => 0 | n => n, fun | n => n⟩
theorem Tryz.Hh : Go.Proofs.SlLaysN.n43 Tryz.prog Tryz.avg := {
 mixed := by kernel_rfl
 f43 := ⟨Tryz.f175.name, by decide, Tryz.func175.trans (congrArg some (by kernel_rfl))⟩
 t0 := Tryz.underlying0
 a0 := Tryz.isAgg0
 z0 := Tryz.sizeOf0
 v0 := Tryz.zeroValue0
 t3 := Tryz.underlying3
 a3 := Tryz.isAgg3
 z3 := Tryz.sizeOf3
 v3 := Tryz.zeroValue3
 t4 := Tryz.underlying4
 a4 := Tryz.isAgg4
 z4 := Tryz.sizeOf4
 v4 := Tryz.zeroValue4
 t22 := Tryz.underlying46
 a22 := Tryz.isAgg46
 z22 := Tryz.sizeOf46
 v22 := Tryz.zeroValue46
 t23 := Tryz.underlying2
 a23 := Tryz.isAgg2
 z23 := Tryz.sizeOf2
 v23 := Tryz.zeroValue2
 i23 := by kernel_rfl }
theorem OH : One a1 (Value.int .i64) := ⟨fun _ => rfl, fun w F x cs S => by unfold a1; rw [aw]⟩
theorem avh (a r : List Int) (h : y3 a = some r) : bm aD 174 [.ao 1 (a.map a1)] (.tuple []) [.ao 1 (r.map a1)] := by
 unfold y3 at h
 split at h
 ·rename_i hl
  cases h
  exact bm.VN (C := aD) (f := 174) OH (fun args w => Tryz.Hg.f53.enters rfl args w) a _ (List.length_mergeSort a) (fun x w => AnyG.slices_Sort_int_none Tryz.Hg x 0 w) (fun w b cap kj ad => AnyG.slices_Sort_int Tryz.Hg b 0 cap a w kj ad hl)
 ·cases h
theorem avi (a r : List Int) (h : CG a = some r) : bm aD 175 [.ao 1 (a.map a1)] (.ao 1 (r.map a1)) [.hole] := by
 cases h
 rw [← Mx a]
 have hle : (Lib.compact a).length ≤ a.length := by rw [Mx]; exact Mw none a
 refine bm.VO (C := aD) (f := 175) OH (fun args w => Tryz.Hh.f43.enters rfl args w) a (Lib.compact a) (List.replicate (a.length - (Lib.compact a).length) (0 : Int)) (by simp only [List.length_append, List.length_replicate]; omega) (fun x w => AnyG.slices_Compact_int_empty Tryz.Hh x 0 w) (fun w b cap kj ad ax hm => ?_)
 refine (AnyG.slices_Compact_int Tryz.Hh b 0 cap a w kj (Nat.le_trans ax (by simpa [maxLen] using hm)) ax).mono ?_
 rintro e aO ⟨rfl, q, c4⟩
 exact ⟨rfl, q, #[], by rw [Sort.grow_empty]; exact c4⟩
end Go.Proofs.YtocllehpepigpaaGreat
