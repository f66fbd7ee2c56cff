/- Part of a proof that a law returns true for every input. No condition. -/
import Derived.Shelf.SlGeneric
import Derived.Ground.SlgnProg
import Derived.Shelf.SlLaysN
import Derived.Shelf.SlLaysNS
import Derived.Shelf.SortG.Plain
import Derived.Shelf.SortG.SortNone
import Derived.Shelf.SlicesG.CompactS
import Derived.Test.YtbemmmimelklkaaFwM
import Derived.Test.YtbemmmimelklkaaC4
namespace Go.Proofs.Ytbemmmimelklkaa
open Go Go.cB Go.eJ Go.Shelf
set_option maxRecDepth 100000
def Try.acE : Go.Shelf.Ren := ⟨fun | 54 => 29 | 64 => 44 | 65 => 43 | 78 => 66 | 79 => 67 | 80 => 57 | 81 => 58 | 82 => 59 | 83 => 60 | 84 => 61 | 85 => 62 | 61 => 63 | 86 => 64 | 87 => 65 | 93 => 92 | 89 => 93 | 90 => 94 | 94 => 95 | 95 => 96 | 69 => 97 | 97 => 117 | n => n, fun | 25 => 34 | 26 => 9 | 3 => 3 | 51 => 72 | 0 => 0 | 67 => 98 | 69 => 100 | 4 => 4 | 61 => 90 | 60 => 89 | 44 => 95 | 5 => 5 | 9 => 9 | 75 => 124 | 79 => 128 | 83 => 147 | 84 => 148 | n => n, fun | n => n⟩
theorem Try.lss : Go.Proofs.SlLaysN.n54 Try.prog Try.acE := {
 mixed := by kernel_rfl
 f54 := ⟨Try.f29.name, by decide, Try.func29.trans (congrArg some (by kernel_rfl))⟩
 f61 := ⟨Try.f63.name, by decide, Try.func63.trans (congrArg some (by kernel_rfl))⟩
 f64 := Try.func44.trans (congrArg some (by kernel_rfl))
 f65 := ⟨Try.f43.name, by decide, Try.func43.trans (congrArg some (by kernel_rfl))⟩
 f69 := ⟨Try.f97.name, by decide, Try.func97.trans (congrArg some (by kernel_rfl))⟩
 f78 := Try.func66.trans (congrArg some (by kernel_rfl))
 f79 := Try.func67.trans (congrArg some (by kernel_rfl))
 f80 := ⟨Try.f57.name, by decide, Try.func57.trans (congrArg some (by kernel_rfl))⟩
 f81 := ⟨Try.f58.name, by decide, Try.func58.trans (congrArg some (by kernel_rfl))⟩
 f82 := ⟨Try.f59.name, by decide, Try.func59.trans (congrArg some (by kernel_rfl))⟩
 f83 := ⟨Try.f60.name, by decide, Try.func60.trans (congrArg some (by kernel_rfl))⟩
 f84 := ⟨Try.f61.name, by decide, Try.func61.trans (congrArg some (by kernel_rfl))⟩
 f85 := ⟨Try.f62.name, by decide, Try.func62.trans (congrArg some (by kernel_rfl))⟩
 f86 := ⟨Try.f64.name, by decide, Try.func64.trans (congrArg some (by kernel_rfl))⟩
 f87 := ⟨Try.f65.name, by decide, Try.func65.trans (congrArg some (by kernel_rfl))⟩
 f89 := Try.func93.trans (congrArg some (by kernel_rfl))
 f90 := Try.func94.trans (congrArg some (by kernel_rfl))
 f93 := ⟨Try.f92.name, by decide, Try.func92.trans (congrArg some (by kernel_rfl))⟩
 f94 := ⟨Try.f95.name, by decide, Try.func95.trans (congrArg some (by kernel_rfl))⟩
 f95 := ⟨Try.f96.name, by decide, Try.func96.trans (congrArg some (by kernel_rfl))⟩
 f97 := ⟨Try.f117.name, by decide, Try.func117.trans (congrArg some (by kernel_rfl))⟩
 t0 := Try.underlying0
 a0 := Try.isAgg0
 z0 := Try.sizeOf0
 v0 := Try.zeroValue0
 t3 := Try.underlying3
 a3 := Try.isAgg3
 z3 := Try.sizeOf3
 v3 := Try.zeroValue3
 t4 := Try.underlying4
 a4 := Try.isAgg4
 z4 := Try.sizeOf4
 v4 := Try.zeroValue4
 t5 := Try.underlying5
 a5 := Try.isAgg5
 z5 := Try.sizeOf5
 v5 := Try.zeroValue5
 t9 := Try.underlying9
 a9 := Try.isAgg9
 z9 := Try.sizeOf9
 v9 := Try.zeroValue9
 t25 := Try.underlying34
 a25 := Try.isAgg34
 z25 := Try.sizeOf34
 v25 := Try.zeroValue34
 t26 := Try.underlying9
 a26 := Try.isAgg9
 z26 := Try.sizeOf9
 v26 := Try.zeroValue9
 t44 := Try.underlying95
 a44 := Try.isAgg95
 z44 := Try.sizeOf95
 v44 := Try.zeroValue95
 t51 := Try.underlying72
 a51 := Try.isAgg72
 z51 := Try.sizeOf72
 v51 := Try.zeroValue72
 t60 := Try.underlying89
 a60 := Try.isAgg89
 z60 := Try.sizeOf89
 v60 := Try.zeroValue89
 t61 := Try.underlying90
 a61 := Try.isAgg90
 z61 := Try.sizeOf90
 v61 := Try.zeroValue90
 t67 := Try.underlying98
 a67 := Try.isAgg98
 z67 := Try.sizeOf98
 v67 := Try.zeroValue98
 t69 := Try.underlying100
 a69 := Try.isAgg100
 z69 := Try.sizeOf100
 v69 := Try.zeroValue100
 t75 := Try.underlying124
 a75 := Try.isAgg124
 z75 := Try.sizeOf124
 v75 := Try.zeroValue124
 t79 := Try.underlying128
 a79 := Try.isAgg128
 z79 := Try.sizeOf128
 v79 := Try.zeroValue128
 t83 := Try.underlying147
 a83 := Try.isAgg147
 z83 := Try.sizeOf147
 v83 := Try.zeroValue147
 t84 := Try.underlying148
 a84 := Try.isAgg148
 z84 := Try.sizeOf148
 v84 := Try.zeroValue148 }
def Try.acF : Go.Shelf.Ren := ⟨fun | 44 => 30 | n => n, fun | 25 => 34 | 26 => 9 | 3 => 3 | 4 => 4 | 0 => 0 | n => n, fun | n => n⟩
theorem Try.lcs : Go.Proofs.SlLaysN.n44 Try.prog Try.acF := {
 mixed := by kernel_rfl
 f44 := ⟨Try.f30.name, by decide, Try.func30.trans (congrArg some (by kernel_rfl))⟩
 t0 := Try.underlying0
 a0 := Try.isAgg0
 z0 := Try.sizeOf0
 v0 := Try.zeroValue0
 t3 := Try.underlying3
 a3 := Try.isAgg3
 z3 := Try.sizeOf3
 v3 := Try.zeroValue3
 t4 := Try.underlying4
 a4 := Try.isAgg4
 z4 := Try.sizeOf4
 v4 := Try.zeroValue4
 t25 := Try.underlying34
 a25 := Try.isAgg34
 z25 := Try.sizeOf34
 v25 := Try.zeroValue34
 t26 := Try.underlying9
 a26 := Try.isAgg9
 z26 := Try.sizeOf9
 v26 := Try.zeroValue9
 i26 := by kernel_rfl }
theorem HV : One bf encStr := ⟨fun _ => rfl, fun w F x cs S => by unfold bf; rw [ax]⟩
theorem acG (a r : List (List UInt8)) (h : uG a = some r) : aU aN 29 [.aE 1 (a.map bf)] (.tuple []) [.aE 1 (r.map bf)] := by
 unfold uG at h
 split at h
 ·rename_i hl
  cases h
  exact aU.Oo (C := aN) (f := 29) HV (fun args w => Try.lss.f54.enters rfl args w) a _ (List.length_mergeSort a) (fun x w => AnyG.slices_Sort_string_none Try.lss x 0 w) (fun w b cap iw U => AnyG.slices_Sort_string Try.lss b 0 cap a w iw U hl)
 ·cases h
theorem acH (a r : List (List UInt8)) (h : x4 a = some r) : aU aN 30 [.aE 1 (a.map bf)] (.aE 1 (r.map bf)) [.hole] := by
 cases h
 rw [← GD a]
 have hle : (Lib.compact a).length ≤ a.length := by rw [GD]; exact GC none a
 refine aU.Oq (C := aN) (f := 30) HV (fun args w => Try.lcs.f44.enters rfl args w) a (Lib.compact a) (List.replicate (a.length - (Lib.compact a).length) ([] : List UInt8)) (by simp only [List.length_append, List.length_replicate]; omega) (fun x w => AnyG.slices_Compact_string_empty Try.lcs x 0 w) (fun w b cap iw U al hm => ?_)
 refine (AnyG.slices_Compact_string Try.lcs b 0 cap a w iw (Nat.le_trans al (by simpa [maxLen] using hm)) al).mono ?_
 rintro e aD ⟨rfl, q, cC⟩
 exact ⟨rfl, q, #[], by rw [Sort.grow_empty]; exact cC⟩
end Go.Proofs.Ytbemmmimelklkaa
