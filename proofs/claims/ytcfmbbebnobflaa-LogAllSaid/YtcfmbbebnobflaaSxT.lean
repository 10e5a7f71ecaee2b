/- The types of the translation, as the steps ask for them. -/
import Derived.Test.YtcfmbbebnobflaaProg
import Derived.Test.YtcfmbbebnobflaaSxM
import Derived.KernelRfl
set_option linter.unusedVariables false
namespace Go.Proofs.Ytcfmbbebnobflaa
open Go Go.SX
theorem ty2 : aggA Try.prog 2 = some false ∧ szA Try.prog 2 = some 1 ∧ byA Try.prog 2 = some 8 ∧ elA Try.prog 2 = none ∧ kdA Try.prog 2 = some .i64 ∧ Try.prog.underlying 2 = some (.int .i64) ∧ zA Try.prog 2 = some [.p (.int .i64 0)] := by
  refine ⟨?_, ?_, ?_, ?_, ?_, ?_, ?_⟩ <;> kernel_rfl
theorem ty3 : aggA Try.prog 3 = some false ∧ szA Try.prog 3 = some 1 ∧ byA Try.prog 3 = some 8 ∧ elA Try.prog 3 = none ∧ kdA Try.prog 3 = some .i64 ∧ Try.prog.underlying 3 = some (.int .i64) ∧ zA Try.prog 3 = some [.p (.int .i64 0)] := by
  refine ⟨?_, ?_, ?_, ?_, ?_, ?_, ?_⟩ <;> kernel_rfl
theorem ty4 : aggA Try.prog 4 = some false ∧ szA Try.prog 4 = some 1 ∧ byA Try.prog 4 = some 1 ∧ elA Try.prog 4 = none ∧ kdA Try.prog 4 = none ∧ Try.prog.underlying 4 = some .bool ∧ zA Try.prog 4 = some [.p (.bool false)] := by
  refine ⟨?_, ?_, ?_, ?_, ?_, ?_, ?_⟩ <;> kernel_rfl
theorem ty5 : aggA Try.prog 5 = some false ∧ szA Try.prog 5 = some 1 ∧ byA Try.prog 5 = some 1 ∧ elA Try.prog 5 = none ∧ kdA Try.prog 5 = some .u8 ∧ Try.prog.underlying 5 = some (.int .u8) ∧ zA Try.prog 5 = some [.p (.int .u8 0)] := by
  refine ⟨?_, ?_, ?_, ?_, ?_, ?_, ?_⟩ <;> kernel_rfl
theorem ty7 : aggA Try.prog 7 = some true ∧ szA Try.prog 7 = some 4 ∧ byA Try.prog 7 = some 24 ∧ elA Try.prog 7 = none ∧ kdA Try.prog 7 = none ∧ zA Try.prog 7 = some [.p (.int .i64 0), .p (.int .i64 0), .p (.bool false), .p (.int .u8 0)] ∧ fdA Try.prog 7 0 = some 0 ∧ fdA Try.prog 7 1 = some 1 ∧ fdA Try.prog 7 2 = some 2 ∧ fdA Try.prog 7 3 = some 3 ∧ placesA Try.prog 7 = some [(0, 1), (1, 1), (2, 1), (3, 1)] := by
  refine ⟨?_, ?_, ?_, ?_, ?_, ?_, ?_, ?_, ?_, ?_, ?_⟩ <;> kernel_rfl
theorem ty9 : aggA Try.prog 9 = some false ∧ szA Try.prog 9 = some 1 ∧ byA Try.prog 9 = some 16 ∧ elA Try.prog 9 = none ∧ kdA Try.prog 9 = none ∧ Try.prog.underlying 9 = some .string ∧ zA Try.prog 9 = some [.p (.string .empty)] := by
  refine ⟨?_, ?_, ?_, ?_, ?_, ?_, ?_⟩ <;> kernel_rfl
theorem ty12 : aggA Try.prog 12 = some false ∧ szA Try.prog 12 = some 1 ∧ byA Try.prog 12 = some 8 ∧ elA Try.prog 12 = none ∧ kdA Try.prog 12 = some .u64 ∧ Try.prog.underlying 12 = some (.int .u64) ∧ zA Try.prog 12 = some [.p (.int .u64 0)] := by
  refine ⟨?_, ?_, ?_, ?_, ?_, ?_, ?_⟩ <;> kernel_rfl
theorem ty13 : aggA Try.prog 13 = some true ∧ szA Try.prog 13 = some 2 ∧ byA Try.prog 13 = some 24 ∧ elA Try.prog 13 = none ∧ kdA Try.prog 13 = none ∧ zA Try.prog 13 = some [.p (.string .empty), .p (.int .u64 0)] ∧ fdA Try.prog 13 0 = some 0 ∧ fdA Try.prog 13 1 = some 1 ∧ placesA Try.prog 13 = some [(0, 1), (1, 1)] := by
  refine ⟨?_, ?_, ?_, ?_, ?_, ?_, ?_, ?_, ?_⟩ <;> kernel_rfl
theorem ty15 : aggA Try.prog 15 = some false ∧ szA Try.prog 15 = some 1 ∧ byA Try.prog 15 = some 8 ∧ elA Try.prog 15 = none ∧ kdA Try.prog 15 = none ∧ Try.prog.underlying 15 = some (.pointer 72) ∧ zA Try.prog 15 = some [.p (.pointer none)] := by
  refine ⟨?_, ?_, ?_, ?_, ?_, ?_, ?_⟩ <;> kernel_rfl
theorem ty16 : aggA Try.prog 16 = some false ∧ szA Try.prog 16 = some 1 ∧ byA Try.prog 16 = some 8 ∧ elA Try.prog 16 = none ∧ kdA Try.prog 16 = none ∧ Try.prog.underlying 16 = some (.pointer 75) ∧ zA Try.prog 16 = some [.p (.pointer none)] := by
  refine ⟨?_, ?_, ?_, ?_, ?_, ?_, ?_⟩ <;> kernel_rfl
theorem ty17 : aggA Try.prog 17 = some false ∧ szA Try.prog 17 = some 1 ∧ byA Try.prog 17 = some 8 ∧ elA Try.prog 17 = none ∧ kdA Try.prog 17 = none ∧ Try.prog.underlying 17 = some (.pointer 85) ∧ zA Try.prog 17 = some [.p (.pointer none)] := by
  refine ⟨?_, ?_, ?_, ?_, ?_, ?_, ?_⟩ <;> kernel_rfl
theorem ty18 : aggA Try.prog 18 = some true ∧ szA Try.prog 18 = some 1 ∧ byA Try.prog 18 = some 8 ∧ elA Try.prog 18 = none ∧ kdA Try.prog 18 = none ∧ zA Try.prog 18 = some [.p (.pointer none)] ∧ fdA Try.prog 18 0 = some 0 ∧ placesA Try.prog 18 = some [(0, 1)] := by
  refine ⟨?_, ?_, ?_, ?_, ?_, ?_, ?_, ?_⟩ <;> kernel_rfl
theorem ty21 : aggA Try.prog 21 = some false ∧ szA Try.prog 21 = some 1 ∧ byA Try.prog 21 = some 4 ∧ elA Try.prog 21 = none ∧ kdA Try.prog 21 = some .i32 ∧ Try.prog.underlying 21 = some (.int .i32) ∧ zA Try.prog 21 = some [.p (.int .i32 0)] := by
  refine ⟨?_, ?_, ?_, ?_, ?_, ?_, ?_⟩ <;> kernel_rfl
theorem ty22 : aggA Try.prog 22 = some false ∧ szA Try.prog 22 = some 1 ∧ byA Try.prog 22 = some 24 ∧ elA Try.prog 22 = some 3 ∧ kdA Try.prog 22 = none ∧ Try.prog.underlying 22 = some (.slice 3) ∧ zA Try.prog 22 = some [.p (.slice none 0 0)] := by
  refine ⟨?_, ?_, ?_, ?_, ?_, ?_, ?_⟩ <;> kernel_rfl
theorem ty23 : aggA Try.prog 23 = some false ∧ szA Try.prog 23 = some 1 ∧ byA Try.prog 23 = some 24 ∧ elA Try.prog 23 = some 5 ∧ kdA Try.prog 23 = none ∧ Try.prog.underlying 23 = some (.slice 5) ∧ zA Try.prog 23 = some [.p (.slice none 0 0)] := by
  refine ⟨?_, ?_, ?_, ?_, ?_, ?_, ?_⟩ <;> kernel_rfl
theorem ty24 : aggA Try.prog 24 = some true ∧ szA Try.prog 24 = some 4 ∧ byA Try.prog 24 = some 64 ∧ elA Try.prog 24 = none ∧ kdA Try.prog 24 = none ∧ zA Try.prog 24 = some [.p (.int .i64 0), .p (.int .i64 0), .p (.slice none 0 0), .p (.slice none 0 0)] ∧ fdA Try.prog 24 0 = some 0 ∧ fdA Try.prog 24 1 = some 1 ∧ fdA Try.prog 24 2 = some 2 ∧ fdA Try.prog 24 3 = some 3 ∧ placesA Try.prog 24 = some [(0, 1), (1, 1), (2, 1), (3, 1)] := by
  refine ⟨?_, ?_, ?_, ?_, ?_, ?_, ?_, ?_, ?_, ?_, ?_⟩ <;> kernel_rfl
theorem ty25 : aggA Try.prog 25 = some true ∧ szA Try.prog 25 = some 4 ∧ byA Try.prog 25 = some 64 ∧ elA Try.prog 25 = none ∧ kdA Try.prog 25 = none ∧ zA Try.prog 25 = some [.p (.int .i64 0), .p (.int .i64 0), .p (.slice none 0 0), .p (.slice none 0 0)] ∧ fdA Try.prog 25 0 = some 0 ∧ fdA Try.prog 25 1 = some 1 ∧ fdA Try.prog 25 2 = some 2 ∧ fdA Try.prog 25 3 = some 3 ∧ placesA Try.prog 25 = some [(0, 1), (1, 1), (2, 1), (3, 1)] := by
  refine ⟨?_, ?_, ?_, ?_, ?_, ?_, ?_, ?_, ?_, ?_, ?_⟩ <;> kernel_rfl
theorem ty26 : aggA Try.prog 26 = some false ∧ szA Try.prog 26 = some 1 ∧ byA Try.prog 26 = some 24 ∧ elA Try.prog 26 = some 44 ∧ kdA Try.prog 26 = none ∧ Try.prog.underlying 26 = some (.slice 44) ∧ zA Try.prog 26 = some [.p (.slice none 0 0)] := by
  refine ⟨?_, ?_, ?_, ?_, ?_, ?_, ?_⟩ <;> kernel_rfl
theorem ty27 : aggA Try.prog 27 = some false ∧ szA Try.prog 27 = some 1 ∧ byA Try.prog 27 = some 24 ∧ elA Try.prog 27 = some 37 ∧ kdA Try.prog 27 = none ∧ Try.prog.underlying 27 = some (.slice 37) ∧ zA Try.prog 27 = some [.p (.slice none 0 0)] := by
  refine ⟨?_, ?_, ?_, ?_, ?_, ?_, ?_⟩ <;> kernel_rfl
theorem ty31 : aggA Try.prog 31 = some false ∧ szA Try.prog 31 = some 1 ∧ byA Try.prog 31 = some 8 ∧ elA Try.prog 31 = none ∧ kdA Try.prog 31 = none ∧ Try.prog.underlying 31 = some (.pointer 53) ∧ zA Try.prog 31 = some [.p (.pointer none)] := by
  refine ⟨?_, ?_, ?_, ?_, ?_, ?_, ?_⟩ <;> kernel_rfl
theorem ty33 : aggA Try.prog 33 = some false ∧ szA Try.prog 33 = some 1 ∧ byA Try.prog 33 = some 8 ∧ elA Try.prog 33 = none ∧ kdA Try.prog 33 = none ∧ Try.prog.underlying 33 = some (.pointer 57) ∧ zA Try.prog 33 = some [.p (.pointer none)] := by
  refine ⟨?_, ?_, ?_, ?_, ?_, ?_, ?_⟩ <;> kernel_rfl
theorem ty36 : aggA Try.prog 36 = some true ∧ szA Try.prog 36 = some 8 ∧ byA Try.prog 36 = some 128 ∧ elA Try.prog 36 = none ∧ kdA Try.prog 36 = none ∧ zA Try.prog 36 = some [.p (.int .i64 0), .p (.int .i64 0), .p (.slice none 0 0), .p (.int .i64 0), .p (.int .i64 0), .p (.slice none 0 0), .p (.slice none 0 0), .p (.slice none 0 0)] ∧ fdA Try.prog 36 0 = some 0 ∧ fdA Try.prog 36 1 = some 1 ∧ fdA Try.prog 36 2 = some 2 ∧ fdA Try.prog 36 3 = some 3 ∧ fdA Try.prog 36 4 = some 7 ∧ placesA Try.prog 36 = some [(0, 1), (1, 1), (2, 1), (3, 4), (7, 1)] := by
  refine ⟨?_, ?_, ?_, ?_, ?_, ?_, ?_, ?_, ?_, ?_, ?_, ?_⟩ <;> kernel_rfl
theorem ty37 : aggA Try.prog 37 = some true ∧ szA Try.prog 37 = some 8 ∧ byA Try.prog 37 = some 128 ∧ elA Try.prog 37 = none ∧ kdA Try.prog 37 = none ∧ zA Try.prog 37 = some [.p (.int .i64 0), .p (.int .i64 0), .p (.slice none 0 0), .p (.int .i64 0), .p (.int .i64 0), .p (.slice none 0 0), .p (.slice none 0 0), .p (.slice none 0 0)] ∧ fdA Try.prog 37 0 = some 0 ∧ fdA Try.prog 37 1 = some 1 ∧ fdA Try.prog 37 2 = some 2 ∧ fdA Try.prog 37 3 = some 3 ∧ fdA Try.prog 37 4 = some 7 ∧ placesA Try.prog 37 = some [(0, 1), (1, 1), (2, 1), (3, 4), (7, 1)] := by
  refine ⟨?_, ?_, ?_, ?_, ?_, ?_, ?_, ?_, ?_, ?_, ?_, ?_⟩ <;> kernel_rfl
theorem ty43 : aggA Try.prog 43 = some true ∧ szA Try.prog 43 = some 4 ∧ byA Try.prog 43 = some 48 ∧ elA Try.prog 43 = none ∧ kdA Try.prog 43 = none ∧ zA Try.prog 43 = some [.p (.int .i64 0), .p (.int .i64 0), .p (.int .i64 0), .p (.slice none 0 0)] ∧ fdA Try.prog 43 0 = some 0 ∧ fdA Try.prog 43 1 = some 1 ∧ fdA Try.prog 43 2 = some 2 ∧ fdA Try.prog 43 3 = some 3 ∧ placesA Try.prog 43 = some [(0, 1), (1, 1), (2, 1), (3, 1)] := by
  refine ⟨?_, ?_, ?_, ?_, ?_, ?_, ?_, ?_, ?_, ?_, ?_⟩ <;> kernel_rfl
theorem ty44 : aggA Try.prog 44 = some true ∧ szA Try.prog 44 = some 4 ∧ byA Try.prog 44 = some 48 ∧ elA Try.prog 44 = none ∧ kdA Try.prog 44 = none ∧ zA Try.prog 44 = some [.p (.int .i64 0), .p (.int .i64 0), .p (.int .i64 0), .p (.slice none 0 0)] ∧ fdA Try.prog 44 0 = some 0 ∧ fdA Try.prog 44 1 = some 1 ∧ fdA Try.prog 44 2 = some 2 ∧ fdA Try.prog 44 3 = some 3 ∧ placesA Try.prog 44 = some [(0, 1), (1, 1), (2, 1), (3, 1)] := by
  refine ⟨?_, ?_, ?_, ?_, ?_, ?_, ?_, ?_, ?_, ?_, ?_⟩ <;> kernel_rfl
theorem ty52 : aggA Try.prog 52 = some true ∧ szA Try.prog 52 = some 5 ∧ byA Try.prog 52 = some 88 ∧ elA Try.prog 52 = none ∧ kdA Try.prog 52 = none ∧ zA Try.prog 52 = some [.p (.int .i64 0), .p (.int .i64 0), .p (.slice none 0 0), .p (.slice none 0 0), .p (.slice none 0 0)] ∧ fdA Try.prog 52 0 = some 0 ∧ fdA Try.prog 52 1 = some 4 ∧ placesA Try.prog 52 = some [(0, 4), (4, 1)] := by
  refine ⟨?_, ?_, ?_, ?_, ?_, ?_, ?_, ?_, ?_⟩ <;> kernel_rfl
theorem ty53 : aggA Try.prog 53 = some true ∧ szA Try.prog 53 = some 5 ∧ byA Try.prog 53 = some 88 ∧ elA Try.prog 53 = none ∧ kdA Try.prog 53 = none ∧ zA Try.prog 53 = some [.p (.int .i64 0), .p (.int .i64 0), .p (.slice none 0 0), .p (.slice none 0 0), .p (.slice none 0 0)] ∧ fdA Try.prog 53 0 = some 0 ∧ fdA Try.prog 53 1 = some 4 ∧ placesA Try.prog 53 = some [(0, 4), (4, 1)] := by
  refine ⟨?_, ?_, ?_, ?_, ?_, ?_, ?_, ?_, ?_⟩ <;> kernel_rfl
theorem ty56 : aggA Try.prog 56 = some true ∧ szA Try.prog 56 = some 5 ∧ byA Try.prog 56 = some 88 ∧ elA Try.prog 56 = none ∧ kdA Try.prog 56 = none ∧ zA Try.prog 56 = some [.p (.int .i64 0), .p (.int .i64 0), .p (.slice none 0 0), .p (.slice none 0 0), .p (.slice none 0 0)] ∧ fdA Try.prog 56 0 = some 0 ∧ fdA Try.prog 56 1 = some 4 ∧ placesA Try.prog 56 = some [(0, 4), (4, 1)] := by
  refine ⟨?_, ?_, ?_, ?_, ?_, ?_, ?_, ?_, ?_⟩ <;> kernel_rfl
theorem ty57 : aggA Try.prog 57 = some true ∧ szA Try.prog 57 = some 5 ∧ byA Try.prog 57 = some 88 ∧ elA Try.prog 57 = none ∧ kdA Try.prog 57 = none ∧ zA Try.prog 57 = some [.p (.int .i64 0), .p (.int .i64 0), .p (.slice none 0 0), .p (.slice none 0 0), .p (.slice none 0 0)] ∧ fdA Try.prog 57 0 = some 0 ∧ fdA Try.prog 57 1 = some 4 ∧ placesA Try.prog 57 = some [(0, 4), (4, 1)] := by
  refine ⟨?_, ?_, ?_, ?_, ?_, ?_, ?_, ?_, ?_⟩ <;> kernel_rfl
theorem ty71 : aggA Try.prog 71 = some true ∧ szA Try.prog 71 = some 4 ∧ byA Try.prog 71 = some 40 ∧ elA Try.prog 71 = none ∧ kdA Try.prog 71 = none ∧ zA Try.prog 71 = some [.p (.pointer none), .p (.pointer none), .p (.pointer none), .p (.string .empty)] ∧ fdA Try.prog 71 0 = some 0 ∧ fdA Try.prog 71 1 = some 1 ∧ fdA Try.prog 71 2 = some 2 ∧ fdA Try.prog 71 3 = some 3 ∧ placesA Try.prog 71 = some [(0, 1), (1, 1), (2, 1), (3, 1)] := by
  refine ⟨?_, ?_, ?_, ?_, ?_, ?_, ?_, ?_, ?_, ?_, ?_⟩ <;> kernel_rfl
theorem ty73 : aggA Try.prog 73 = some true ∧ szA Try.prog 73 = some 0 ∧ byA Try.prog 73 = some 0 ∧ elA Try.prog 73 = none ∧ arA Try.prog 73 = some (0, 16) ∧ kdA Try.prog 73 = none ∧ Try.prog.underlying 73 = some (.array 0 16) ∧ zA Try.prog 73 = some [] ∧ placesA Try.prog 73 = some [] := by
  refine ⟨?_, ?_, ?_, ?_, ?_, ?_, ?_, ?_, ?_⟩ <;> kernel_rfl
theorem ty74 : aggA Try.prog 74 = some true ∧ szA Try.prog 74 = some 0 ∧ byA Try.prog 74 = some 0 ∧ elA Try.prog 74 = none ∧ kdA Try.prog 74 = none ∧ zA Try.prog 74 = some [] ∧ placesA Try.prog 74 = some [(0, 0)] := by
  refine ⟨?_, ?_, ?_, ?_, ?_, ?_, ?_⟩ <;> kernel_rfl
theorem ty77 : aggA Try.prog 77 = some false ∧ szA Try.prog 77 = some 1 ∧ byA Try.prog 77 = some 4 ∧ elA Try.prog 77 = none ∧ kdA Try.prog 77 = some .u32 ∧ Try.prog.underlying 77 = some (.int .u32) ∧ zA Try.prog 77 = some [.p (.int .u32 0)] := by
  refine ⟨?_, ?_, ?_, ?_, ?_, ?_, ?_⟩ <;> kernel_rfl
theorem ty81 : aggA Try.prog 81 = some false ∧ szA Try.prog 81 = some 1 ∧ byA Try.prog 81 = some 8 ∧ elA Try.prog 81 = none ∧ kdA Try.prog 81 = none ∧ Try.prog.underlying 81 = some (.pointer 5) ∧ zA Try.prog 81 = some [.p (.pointer none)] := by
  refine ⟨?_, ?_, ?_, ?_, ?_, ?_, ?_⟩ <;> kernel_rfl
attribute [go_sem] ty2 ty3 ty4 ty5 ty7 ty9 ty12 ty13 ty15 ty16 ty17 ty18 ty21 ty22 ty23 ty24 ty25 ty26 ty27 ty31 ty33 ty36 ty37 ty43 ty44 ty52 ty53 ty56 ty57 ty71 ty73 ty74 ty77 ty81
end Go.Proofs.Ytcfmbbebnobflaa
