/- Part of a proof that a law returns true for every input. No condition. -/
import Derived.Ground.NamesProg
import Derived.Shelf.Lays
import Derived.Shelf.Strings.BuilderX
import Derived.Test.YtjedocbdhlppdaaFwN
import Derived.Test.YtjedocbdhlppdaaFwM
import Derived.Test.YtjedocbdhlppdaaC4
namespace Go.Proofs.Ytjedocbdhlppdaa
open Go Go.b7 Go.fi Go.Shelf
set_option maxRecDepth 100000
def Try.AF : Go.Shelf.Ren := ⟨fun | 166 => 42 | 240 => 86 | 276 => 130 | n => n, fun | 0 => 0 | 3 => 3 | 4 => 4 | 5 => 5 | 9 => 9 | 20 => 20 | 37 => 62 | 70 => 61 | 72 => 64 | 75 => 66 | 80 => 69 | 164 => 157 | n => n, fun | n => n⟩
theorem Try.AG : Go.Proofs.Lays.n166 Try.prog Try.AF := {
 mixed := by kernel_rfl
 f166 := Try.func42.trans (congrArg some (by kernel_rfl))
 f240 := Try.func86.trans (congrArg some (by kernel_rfl))
 f276 := Try.func130.trans (congrArg some (by kernel_rfl))
 t0 := Try.underlying0
 a0 := Try.isAgg0
 z0 := Try.sizeOf0
 v0 := Try.zeroValue0
 t3 := Try.underlying3
 a3 := Try.isAgg3
 z3 := Try.sizeOf3
 v3 := Try.zeroValue3
 t4 := Try.underlying4
 a4 := Try.isAgg4
 z4 := Try.sizeOf4
 v4 := Try.zeroValue4
 t9 := Try.underlying9
 a9 := Try.isAgg9
 z9 := Try.sizeOf9
 v9 := Try.zeroValue9
 t20 := Try.underlying20
 a20 := Try.isAgg20
 z20 := Try.sizeOf20
 v20 := Try.zeroValue20
 t37 := Try.underlying62
 a37 := Try.isAgg62
 z37 := Try.sizeOf62
 v37 := Try.zeroValue62
 t70 := Try.underlying61
 a70 := Try.isAgg61
 z70 := Try.sizeOf61
 v70 := Try.zeroValue61
 t72 := Try.underlying64
 a72 := Try.isAgg64
 z72 := Try.sizeOf64
 v72 := Try.zeroValue64
 t75 := Try.underlying66
 a75 := Try.isAgg66
 z75 := Try.sizeOf66
 v75 := Try.zeroValue66
 t164 := Try.underlying157
 a164 := Try.isAgg157
 z164 := Try.sizeOf157
 v164 := Try.zeroValue157 }
theorem Try.Mu : Builder.Extra Try.prog Try.AF := {
 sizeBuilder := by kernel_rfl
 liesBuilder := by kernel_rfl
 t5 := Try.underlying5
 a5 := Try.isAgg5
 z5 := Try.sizeOf5
 v5 := Try.zeroValue5
 infoByte := by kernel_rfl
 cellsByte := by kernel_rfl
 sizeByte := by kernel_rfl
 neB5 := by decide }
def Try.AH : Go.Shelf.Ren := ⟨fun | 169 => 43 | n => n, fun | 0 => 0 | 3 => 3 | 5 => 5 | 9 => 9 | 37 => 62 | 70 => 61 | 72 => 64 | 127 => 113 | n => n, fun | n => n⟩
theorem Try.AJ : Go.Proofs.Lays.n169 Try.prog Try.AH := {
 mixed := by kernel_rfl
 f169 := Try.func43.trans (congrArg some (by kernel_rfl))
 t0 := Try.underlying0
 a0 := Try.isAgg0
 z0 := Try.sizeOf0
 v0 := Try.zeroValue0
 t3 := Try.underlying3
 a3 := Try.isAgg3
 z3 := Try.sizeOf3
 v3 := Try.zeroValue3
 t9 := Try.underlying9
 a9 := Try.isAgg9
 z9 := Try.sizeOf9
 v9 := Try.zeroValue9
 t37 := Try.underlying62
 a37 := Try.isAgg62
 z37 := Try.sizeOf62
 v37 := Try.zeroValue62
 t70 := Try.underlying61
 a70 := Try.isAgg61
 z70 := Try.sizeOf61
 v70 := Try.zeroValue61
 t72 := Try.underlying64
 a72 := Try.isAgg64
 z72 := Try.sizeOf64
 v72 := Try.zeroValue64
 t127 := Try.underlying113
 a127 := Try.isAgg113
 z127 := Try.sizeOf113
 v127 := Try.zeroValue113 }
theorem Try.Mv : Builder.Extra Try.prog Try.AH := {
 sizeBuilder := by kernel_rfl
 liesBuilder := by kernel_rfl
 t5 := Try.underlying5
 a5 := Try.isAgg5
 z5 := Try.sizeOf5
 v5 := Try.zeroValue5
 infoByte := by kernel_rfl
 cellsByte := by kernel_rfl
 sizeByte := by kernel_rfl
 neB5 := by decide }
theorem Mw (a0 a7 r : List UInt8) (h : mI a0 a7 = some r) : b5 aP 42 [.ch (.dE 64 5 a0), .str a7] .hole [.ch (.dE 64 5 r), .hole] := by
 unfold mI at h
 split at h
 ·rename_i hl
  cases h
  refine b5.GS (enters_of Try.AG.f166 (by kernel_rfl) rfl) fun w b a v J bB => ?_
  exact GC Try.AG Try.Mu b a v (Lib.byteCells a0) ⟨⟨a7⟩⟩ w J bB (by rw [Lib.byteCells_length]; exact hl)
 ·cases h
theorem Mx (a0 r : List UInt8) (h : vO a0 = some r) : b5 aP 43 [.ch (.dE 64 5 a0)] (.str r) [.hole] := by
 cases h
 refine b5.GV (enters_of Try.AJ.f169 (by kernel_rfl) rfl) fun w b a v J => ?_
 exact GP Try.AJ Try.Mv b a v a0 w J
end Go.Proofs.Ytjedocbdhlppdaa
