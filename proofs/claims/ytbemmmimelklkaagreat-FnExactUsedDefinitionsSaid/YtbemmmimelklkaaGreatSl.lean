/- Part of a proof that a law returns true for every input. No condition. -/
import Derived.Shelf.SlGeneric
import Derived.Ground.SlgnProg
import Derived.Shelf.SlLaysN
import Derived.Shelf.SlLaysNS
import Derived.Shelf.SortG.Plain
import Derived.Shelf.SortG.SortNone
import Derived.Shelf.SlicesG.CompactI
import Derived.Test.YtbemmmimelklkaaGreatFwM
import Derived.Test.YtbemmmimelklkaaGreatC6
namespace Go.Proofs.YtbemmmimelklkaaGreat
open Go Go.c5 Go.eR Go.Shelf
set_option maxRecDepth 100000
def Tryz.arI : Go.Shelf.Ren := ⟨fun | 53 => 104 | 64 => 156 | 63 => 155 | 78 => 193 | 79 => 194 | 70 => 184 | 71 => 185 | 72 => 186 | 73 => 187 | 74 => 188 | 75 => 189 | 59 => 190 | 76 => 191 | 77 => 192 | 88 => 210 | 89 => 211 | 90 => 212 | 91 => 213 | 92 => 214 | 68 => 215 | 96 => 223 | n => n, fun | 22 => 43 | 23 => 2 | 3 => 3 | 51 => 203 | 0 => 0 | 67 => 239 | 69 => 241 | 4 => 4 | 61 => 231 | 60 => 230 | 44 => 236 | 5 => 5 | 9 => 9 | 75 => 254 | 79 => 258 | 83 => 265 | 84 => 266 | n => n, fun | n => n⟩
theorem Tryz.GM : Go.Proofs.SlLaysN.n53 Tryz.prog Tryz.arI := {
 mixed := by kernel_rfl
 f53 := ⟨Tryz.f104.name, by decide, Tryz.func104.trans (congrArg some (by kernel_rfl))⟩
 f59 := ⟨Tryz.f190.name, by decide, Tryz.func190.trans (congrArg some (by kernel_rfl))⟩
 f63 := ⟨Tryz.f155.name, by decide, Tryz.func155.trans (congrArg some (by kernel_rfl))⟩
 f64 := Tryz.func156.trans (congrArg some (by kernel_rfl))
 f68 := ⟨Tryz.f215.name, by decide, Tryz.func215.trans (congrArg some (by kernel_rfl))⟩
 f70 := ⟨Tryz.f184.name, by decide, Tryz.func184.trans (congrArg some (by kernel_rfl))⟩
 f71 := ⟨Tryz.f185.name, by decide, Tryz.func185.trans (congrArg some (by kernel_rfl))⟩
 f72 := ⟨Tryz.f186.name, by decide, Tryz.func186.trans (congrArg some (by kernel_rfl))⟩
 f73 := ⟨Tryz.f187.name, by decide, Tryz.func187.trans (congrArg some (by kernel_rfl))⟩
 f74 := ⟨Tryz.f188.name, by decide, Tryz.func188.trans (congrArg some (by kernel_rfl))⟩
 f75 := ⟨Tryz.f189.name, by decide, Tryz.func189.trans (congrArg some (by kernel_rfl))⟩
 f76 := ⟨Tryz.f191.name, by decide, Tryz.func191.trans (congrArg some (by kernel_rfl))⟩
 f77 := ⟨Tryz.f192.name, by decide, Tryz.func192.trans (congrArg some (by kernel_rfl))⟩
 f78 := Tryz.func193.trans (congrArg some (by kernel_rfl))
 f79 := Tryz.func194.trans (congrArg some (by kernel_rfl))
 f88 := ⟨Tryz.f210.name, by decide, Tryz.func210.trans (congrArg some (by kernel_rfl))⟩
 f89 := Tryz.func211.trans (congrArg some (by kernel_rfl))
 f90 := Tryz.func212.trans (congrArg some (by kernel_rfl))
 f91 := ⟨Tryz.f213.name, by decide, Tryz.func213.trans (congrArg some (by kernel_rfl))⟩
 f92 := ⟨Tryz.f214.name, by decide, Tryz.func214.trans (congrArg some (by kernel_rfl))⟩
 f96 := ⟨Tryz.f223.name, by decide, Tryz.func223.trans (congrArg some (by kernel_rfl))⟩
 t0 := Tryz.underlying0
 a0 := Tryz.isAgg0
 z0 := Tryz.sizeOf0
 v0 := Tryz.zeroValue0
 t3 := Tryz.underlying3
 a3 := Tryz.isAgg3
 z3 := Tryz.sizeOf3
 v3 := Tryz.zeroValue3
 t4 := Tryz.underlying4
 a4 := Tryz.isAgg4
 z4 := Tryz.sizeOf4
 v4 := Tryz.zeroValue4
 t5 := Tryz.underlying5
 a5 := Tryz.isAgg5
 z5 := Tryz.sizeOf5
 v5 := Tryz.zeroValue5
 t9 := Tryz.underlying9
 a9 := Tryz.isAgg9
 z9 := Tryz.sizeOf9
 v9 := Tryz.zeroValue9
 t22 := Tryz.underlying43
 a22 := Tryz.isAgg43
 z22 := Tryz.sizeOf43
 v22 := Tryz.zeroValue43
 t23 := Tryz.underlying2
 a23 := Tryz.isAgg2
 z23 := Tryz.sizeOf2
 v23 := Tryz.zeroValue2
 t44 := Tryz.underlying236
 a44 := Tryz.isAgg236
 z44 := Tryz.sizeOf236
 v44 := Tryz.zeroValue236
 t51 := Tryz.underlying203
 a51 := Tryz.isAgg203
 z51 := Tryz.sizeOf203
 v51 := Tryz.zeroValue203
 t60 := Tryz.underlying230
 a60 := Tryz.isAgg230
 z60 := Tryz.sizeOf230
 v60 := Tryz.zeroValue230
 t61 := Tryz.underlying231
 a61 := Tryz.isAgg231
 z61 := Tryz.sizeOf231
 v61 := Tryz.zeroValue231
 t67 := Tryz.underlying239
 a67 := Tryz.isAgg239
 z67 := Tryz.sizeOf239
 v67 := Tryz.zeroValue239
 t69 := Tryz.underlying241
 a69 := Tryz.isAgg241
 z69 := Tryz.sizeOf241
 v69 := Tryz.zeroValue241
 t75 := Tryz.underlying254
 a75 := Tryz.isAgg254
 z75 := Tryz.sizeOf254
 v75 := Tryz.zeroValue254
 t79 := Tryz.underlying258
 a79 := Tryz.isAgg258
 z79 := Tryz.sizeOf258
 v79 := Tryz.zeroValue258
 t83 := Tryz.underlying265
 a83 := Tryz.isAgg265
 z83 := Tryz.sizeOf265
 v83 := Tryz.zeroValue265
 t84 := Tryz.underlying266
 a84 := Tryz.isAgg266
 z84 := Tryz.sizeOf266
 v84 := Tryz.zeroValue266 }
def Tryz.arJ : Go.Shelf.Ren := ⟨fun | 43 => 120 | n => n, fun | 22 => 43 | 23 => 2 | 3 => 3 | 4 => 4 | 0 => 0 | n => n, fun | n => n⟩
theorem Tryz.GN : Go.Proofs.SlLaysN.n43 Tryz.prog Tryz.arJ := {
 mixed := by kernel_rfl
 f43 := ⟨Tryz.f120.name, by decide, Tryz.func120.trans (congrArg some (by kernel_rfl))⟩
 t0 := Tryz.underlying0
 a0 := Tryz.isAgg0
 z0 := Tryz.sizeOf0
 v0 := Tryz.zeroValue0
 t3 := Tryz.underlying3
 a3 := Tryz.isAgg3
 z3 := Tryz.sizeOf3
 v3 := Tryz.zeroValue3
 t4 := Tryz.underlying4
 a4 := Tryz.isAgg4
 z4 := Tryz.sizeOf4
 v4 := Tryz.zeroValue4
 t22 := Tryz.underlying43
 a22 := Tryz.isAgg43
 z22 := Tryz.sizeOf43
 v22 := Tryz.zeroValue43
 t23 := Tryz.underlying2
 a23 := Tryz.isAgg2
 z23 := Tryz.sizeOf2
 v23 := Tryz.zeroValue2
 i23 := by kernel_rfl }
theorem NJ : One aU (Value.int .i64) := ⟨fun _ => rfl, fun w F x cs S => by unfold aU; rw [aB]⟩
theorem arK (a r : List Int) (h : sY a = some r) : aQ aG 104 [.ar 1 (a.map aU)] (.tuple []) [.ar 1 (r.map aU)] := by
 unfold sY at h
 split at h
 ·rename_i hl
  cases h
  exact aQ.Uz (C := aG) (f := 104) NJ (fun args w => Tryz.GM.f53.enters rfl args w) a _ (List.length_mergeSort a) (fun x w => AnyG.slices_Sort_int_none Tryz.GM x 0 w) (fun w b cap jQ ad => AnyG.slices_Sort_int Tryz.GM b 0 cap a w jQ ad hl)
 ·cases h
theorem arL (a r : List Int) (h : vz a = some r) : aQ aG 120 [.ar 1 (a.map aU)] (.ar 1 (r.map aU)) [.hole] := by
 cases h
 rw [← LC a]
 have hle : (Lib.compact a).length ≤ a.length := by rw [LC]; exact LB none a
 refine aQ.UA (C := aG) (f := 120) NJ (fun args w => Tryz.GN.f43.enters rfl args w) a (Lib.compact a) (List.replicate (a.length - (Lib.compact a).length) (0 : Int)) (by simp only [List.length_append, List.length_replicate]; omega) (fun x w => AnyG.slices_Compact_int_empty Tryz.GN x 0 w) (fun w b cap jQ ad ay hm => ?_)
 refine (AnyG.slices_Compact_int Tryz.GN b 0 cap a w jQ (Nat.le_trans ay (by simpa [maxLen] using hm)) ay).mono ?_
 rintro e aP ⟨rfl, q, dk⟩
 exact ⟨rfl, q, #[], by rw [Sort.grow_empty]; exact dk⟩
end Go.Proofs.YtbemmmimelklkaaGreat
