/- Facts on the types of this seat's program, by program: sizes, zero values, fields' places. Conditions: none. -/
import Derived.Test.YtbobjcapmfpmkaaProg
import Derived.Test.YtbobjcapmfpmkaaXV
import Derived.Test.YtbobjcapmfpmkaaX
import Derived.Test.YtbobjcapmfpmkaaXA
import Derived.KernelRfl
set_option linter.unusedVariables false
set_option linter.unusedSimpArgs false
namespace Go.X
open Go.Proofs
theorem tI_3 : tI Try.prog 3 = some ⟨1, false, [(.int .i64 0)], 8⟩ := by kernel_rfl
@[go_sem ↓] theorem xTI_3 (K : TI → Prop) : xTI Try.prog 3 K = K ⟨1, false, [(.int .i64 0)], 8⟩ := xTI_of tI_3 K
theorem tI_4 : tI Try.prog 4 = some ⟨1, false, [(.bool false)], 1⟩ := by kernel_rfl
@[go_sem ↓] theorem xTI_4 (K : TI → Prop) : xTI Try.prog 4 K = K ⟨1, false, [(.bool false)], 1⟩ := xTI_of tI_4 K
theorem tI_5 : tI Try.prog 5 = some ⟨1, false, [(.int .u8 0)], 1⟩ := by kernel_rfl
@[go_sem ↓] theorem xTI_5 (K : TI → Prop) : xTI Try.prog 5 K = K ⟨1, false, [(.int .u8 0)], 1⟩ := xTI_of tI_5 K
theorem tI_22 : tI Try.prog 22 = some ⟨1, false, [(.slice none 0 0)], 24⟩ := by kernel_rfl
@[go_sem ↓] theorem xTI_22 (K : TI → Prop) : xTI Try.prog 22 K = K ⟨1, false, [(.slice none 0 0)], 24⟩ := xTI_of tI_22 K
theorem tI_23 : tI Try.prog 23 = some ⟨1, false, [(.slice none 0 0)], 24⟩ := by kernel_rfl
@[go_sem ↓] theorem xTI_23 (K : TI → Prop) : xTI Try.prog 23 K = K ⟨1, false, [(.slice none 0 0)], 24⟩ := xTI_of tI_23 K
theorem tI_25 : tI Try.prog 25 = some ⟨4, true, [(.int .i64 0), (.int .i64 0), (.slice none 0 0), (.slice none 0 0)], 64⟩ := by kernel_rfl
@[go_sem ↓] theorem xTI_25 (K : TI → Prop) : xTI Try.prog 25 K = K ⟨4, true, [(.int .i64 0), (.int .i64 0), (.slice none 0 0), (.slice none 0 0)], 64⟩ := xTI_of tI_25 K
theorem tI_28 : tI Try.prog 28 = some ⟨1, false, [(.int .u64 0)], 8⟩ := by kernel_rfl
@[go_sem ↓] theorem xTI_28 (K : TI → Prop) : xTI Try.prog 28 K = K ⟨1, false, [(.int .u64 0)], 8⟩ := xTI_of tI_28 K
theorem tI_29 : tI Try.prog 29 = some ⟨1, false, [(.int .i64 0)], 8⟩ := by kernel_rfl
@[go_sem ↓] theorem xTI_29 (K : TI → Prop) : xTI Try.prog 29 K = K ⟨1, false, [(.int .i64 0)], 8⟩ := xTI_of tI_29 K
theorem tI_36 : tI Try.prog 36 = some ⟨4, true, [(.int .i64 0), (.int .i64 0), (.slice none 0 0), (.slice none 0 0)], 64⟩ := by kernel_rfl
@[go_sem ↓] theorem xTI_36 (K : TI → Prop) : xTI Try.prog 36 K = K ⟨4, true, [(.int .i64 0), (.int .i64 0), (.slice none 0 0), (.slice none 0 0)], 64⟩ := xTI_of tI_36 K
theorem tI_59 : tI Try.prog 59 = some ⟨1, false, [(.slice none 0 0)], 24⟩ := by kernel_rfl
@[go_sem ↓] theorem xTI_59 (K : TI → Prop) : xTI Try.prog 59 K = K ⟨1, false, [(.slice none 0 0)], 24⟩ := xTI_of tI_59 K
theorem tI_61 : tI Try.prog 61 = some ⟨3, true, [(.int .u64 0), (.int .i64 0), (.slice none 0 0)], 40⟩ := by kernel_rfl
@[go_sem ↓] theorem xTI_61 (K : TI → Prop) : xTI Try.prog 61 K = K ⟨3, true, [(.int .u64 0), (.int .i64 0), (.slice none 0 0)], 40⟩ := xTI_of tI_61 K
theorem tI_64 : tI Try.prog 64 = some ⟨5, true, [(.int .u64 0), (.int .i64 0), (.int .i64 0), (.int .i64 0), (.slice none 0 0)], 56⟩ := by kernel_rfl
@[go_sem ↓] theorem xTI_64 (K : TI → Prop) : xTI Try.prog 64 K = K ⟨5, true, [(.int .u64 0), (.int .i64 0), (.int .i64 0), (.int .i64 0), (.slice none 0 0)], 56⟩ := xTI_of tI_64 K
theorem tI_82 : tI Try.prog 82 = some ⟨24, true, [(.int .u64 0), (.int .u64 0), (.int .u64 0), (.int .u64 0), (.int .u64 0), (.int .u64 0), (.int .u64 0), (.int .u64 0), (.int .u64 0), (.int .u64 0), (.int .u64 0), (.int .u64 0), (.int .u64 0), (.int .u64 0), (.int .i64 0), (.int .i64 0), (.int .i64 0), (.int .i64 0), (.int .i64 0), (.int .i64 0), (.int .i64 0), (.int .i64 0), (.int .i64 0), (.int .i64 0)], 192⟩ := by kernel_rfl
@[go_sem ↓] theorem xTI_82 (K : TI → Prop) : xTI Try.prog 82 K = K ⟨24, true, [(.int .u64 0), (.int .u64 0), (.int .u64 0), (.int .u64 0), (.int .u64 0), (.int .u64 0), (.int .u64 0), (.int .u64 0), (.int .u64 0), (.int .u64 0), (.int .u64 0), (.int .u64 0), (.int .u64 0), (.int .u64 0), (.int .i64 0), (.int .i64 0), (.int .i64 0), (.int .i64 0), (.int .i64 0), (.int .i64 0), (.int .i64 0), (.int .i64 0), (.int .i64 0), (.int .i64 0)], 192⟩ := xTI_of tI_82 K
theorem tI_84 : tI Try.prog 84 = some ⟨34, true, [(.int .i64 0), (.int .i64 0), (.int .i64 0), (.int .i64 0), (.int .u64 0), (.int .i64 0), (.slice none 0 0), (.int .i64 0), (.int .u64 0), (.int .u64 0), (.int .u64 0), (.int .u64 0), (.int .u64 0), (.int .u64 0), (.int .u64 0), (.int .u64 0), (.int .u64 0), (.int .u64 0), (.int .u64 0), (.int .u64 0), (.int .u64 0), (.int .u64 0), (.int .i64 0), (.int .i64 0), (.int .i64 0), (.int .i64 0), (.int .i64 0), (.int .i64 0), (.int .i64 0), (.int .i64 0), (.int .i64 0), (.int .i64 0), (.int .i64 0), (.bool false)], 288⟩ := by kernel_rfl
@[go_sem ↓] theorem xTI_84 (K : TI → Prop) : xTI Try.prog 84 K = K ⟨34, true, [(.int .i64 0), (.int .i64 0), (.int .i64 0), (.int .i64 0), (.int .u64 0), (.int .i64 0), (.slice none 0 0), (.int .i64 0), (.int .u64 0), (.int .u64 0), (.int .u64 0), (.int .u64 0), (.int .u64 0), (.int .u64 0), (.int .u64 0), (.int .u64 0), (.int .u64 0), (.int .u64 0), (.int .u64 0), (.int .u64 0), (.int .u64 0), (.int .u64 0), (.int .i64 0), (.int .i64 0), (.int .i64 0), (.int .i64 0), (.int .i64 0), (.int .i64 0), (.int .i64 0), (.int .i64 0), (.int .i64 0), (.int .i64 0), (.int .i64 0), (.bool false)], 288⟩ := xTI_of tI_84 K
theorem tI_87 : tI Try.prog 87 = some ⟨2, true, [(.slice none 0 0), (.int .i64 0)], 32⟩ := by kernel_rfl
@[go_sem ↓] theorem xTI_87 (K : TI → Prop) : xTI Try.prog 87 K = K ⟨2, true, [(.slice none 0 0), (.int .i64 0)], 32⟩ := xTI_of tI_87 K
theorem tI_89 : tI Try.prog 89 = some ⟨2, true, [(.slice none 0 0), (.int .i64 0)], 32⟩ := by kernel_rfl
@[go_sem ↓] theorem xTI_89 (K : TI → Prop) : xTI Try.prog 89 K = K ⟨2, true, [(.slice none 0 0), (.int .i64 0)], 32⟩ := xTI_of tI_89 K
theorem tI_93 : tI Try.prog 93 = some ⟨24, true, [(.int .u64 0), (.int .u64 0), (.int .u64 0), (.int .u64 0), (.int .u64 0), (.int .u64 0), (.int .u64 0), (.int .u64 0), (.int .u64 0), (.int .u64 0), (.int .u64 0), (.int .u64 0), (.int .u64 0), (.int .u64 0), (.int .i64 0), (.int .i64 0), (.int .i64 0), (.int .i64 0), (.int .i64 0), (.int .i64 0), (.int .i64 0), (.int .i64 0), (.int .i64 0), (.int .i64 0)], 192⟩ := by kernel_rfl
@[go_sem ↓] theorem xTI_93 (K : TI → Prop) : xTI Try.prog 93 K = K ⟨24, true, [(.int .u64 0), (.int .u64 0), (.int .u64 0), (.int .u64 0), (.int .u64 0), (.int .u64 0), (.int .u64 0), (.int .u64 0), (.int .u64 0), (.int .u64 0), (.int .u64 0), (.int .u64 0), (.int .u64 0), (.int .u64 0), (.int .i64 0), (.int .i64 0), (.int .i64 0), (.int .i64 0), (.int .i64 0), (.int .i64 0), (.int .i64 0), (.int .i64 0), (.int .i64 0), (.int .i64 0)], 192⟩ := xTI_of tI_93 K
theorem tI_95 : tI Try.prog 95 = some ⟨34, true, [(.int .i64 0), (.int .i64 0), (.int .i64 0), (.int .i64 0), (.int .u64 0), (.int .i64 0), (.slice none 0 0), (.int .i64 0), (.int .u64 0), (.int .u64 0), (.int .u64 0), (.int .u64 0), (.int .u64 0), (.int .u64 0), (.int .u64 0), (.int .u64 0), (.int .u64 0), (.int .u64 0), (.int .u64 0), (.int .u64 0), (.int .u64 0), (.int .u64 0), (.int .i64 0), (.int .i64 0), (.int .i64 0), (.int .i64 0), (.int .i64 0), (.int .i64 0), (.int .i64 0), (.int .i64 0), (.int .i64 0), (.int .i64 0), (.int .i64 0), (.bool false)], 288⟩ := by kernel_rfl
@[go_sem ↓] theorem xTI_95 (K : TI → Prop) : xTI Try.prog 95 K = K ⟨34, true, [(.int .i64 0), (.int .i64 0), (.int .i64 0), (.int .i64 0), (.int .u64 0), (.int .i64 0), (.slice none 0 0), (.int .i64 0), (.int .u64 0), (.int .u64 0), (.int .u64 0), (.int .u64 0), (.int .u64 0), (.int .u64 0), (.int .u64 0), (.int .u64 0), (.int .u64 0), (.int .u64 0), (.int .u64 0), (.int .u64 0), (.int .u64 0), (.int .u64 0), (.int .i64 0), (.int .i64 0), (.int .i64 0), (.int .i64 0), (.int .i64 0), (.int .i64 0), (.int .i64 0), (.int .i64 0), (.int .i64 0), (.int .i64 0), (.int .i64 0), (.bool false)], 288⟩ := xTI_of tI_95 K
theorem tI_117 : tI Try.prog 117 = some ⟨8, true, [(.int .i64 0), (.int .i64 0), (.int .i64 0), (.int .i64 0), (.int .i64 0), (.int .i64 0), (.int .i64 0), (.int .i64 0)], 64⟩ := by kernel_rfl
@[go_sem ↓] theorem xTI_117 (K : TI → Prop) : xTI Try.prog 117 K = K ⟨8, true, [(.int .i64 0), (.int .i64 0), (.int .i64 0), (.int .i64 0), (.int .i64 0), (.int .i64 0), (.int .i64 0), (.int .i64 0)], 64⟩ := xTI_of tI_117 K
theorem tI_133 : tI Try.prog 133 = some ⟨3, true, [(.int .u64 0), (.int .i64 0), (.int .i64 0)], 24⟩ := by kernel_rfl
@[go_sem ↓] theorem xTI_133 (K : TI → Prop) : xTI Try.prog 133 K = K ⟨3, true, [(.int .u64 0), (.int .i64 0), (.int .i64 0)], 24⟩ := xTI_of tI_133 K
theorem tI_135 : tI Try.prog 135 = some ⟨5, true, [(.int .u64 0), (.int .i64 0), (.int .i64 0), (.int .i64 0), (.slice none 0 0)], 56⟩ := by kernel_rfl
@[go_sem ↓] theorem xTI_135 (K : TI → Prop) : xTI Try.prog 135 K = K ⟨5, true, [(.int .u64 0), (.int .i64 0), (.int .i64 0), (.int .i64 0), (.slice none 0 0)], 56⟩ := xTI_of tI_135 K
theorem tI_139 : tI Try.prog 139 = some ⟨3, true, [(.slice none 0 0), (.int .i64 0), (.int .i64 0)], 40⟩ := by kernel_rfl
@[go_sem ↓] theorem xTI_139 (K : TI → Prop) : xTI Try.prog 139 K = K ⟨3, true, [(.slice none 0 0), (.int .i64 0), (.int .i64 0)], 40⟩ := xTI_of tI_139 K
theorem tI_144 : tI Try.prog 144 = some ⟨1, false, [(.map none)], 8⟩ := by kernel_rfl
@[go_sem ↓] theorem xTI_144 (K : TI → Prop) : xTI Try.prog 144 K = K ⟨1, false, [(.map none)], 8⟩ := xTI_of tI_144 K
theorem tI_146 : tI Try.prog 146 = some ⟨5, true, [(.int .u64 0), (.int .i64 0), (.int .i64 0), (.map none), (.int .i64 0)], 40⟩ := by kernel_rfl
@[go_sem ↓] theorem xTI_146 (K : TI → Prop) : xTI Try.prog 146 K = K ⟨5, true, [(.int .u64 0), (.int .i64 0), (.int .i64 0), (.map none), (.int .i64 0)], 40⟩ := xTI_of tI_146 K
theorem tI_153 : tI Try.prog 153 = some ⟨1, false, [(.pointer none)], 8⟩ := by kernel_rfl
@[go_sem ↓] theorem xTI_153 (K : TI → Prop) : xTI Try.prog 153 K = K ⟨1, false, [(.pointer none)], 8⟩ := xTI_of tI_153 K
theorem tI_169 : tI Try.prog 169 = some ⟨2, true, [(.pointer none), (.int .i64 0)], 16⟩ := by kernel_rfl
@[go_sem ↓] theorem xTI_169 (K : TI → Prop) : xTI Try.prog 169 K = K ⟨2, true, [(.pointer none), (.int .i64 0)], 16⟩ := xTI_of tI_169 K
theorem tI_177 : tI Try.prog 177 = some ⟨1, true, [(.slice none 0 0)], 24⟩ := by kernel_rfl
@[go_sem ↓] theorem xTI_177 (K : TI → Prop) : xTI Try.prog 177 K = K ⟨1, true, [(.slice none 0 0)], 24⟩ := xTI_of tI_177 K
theorem tI_188 : tI Try.prog 188 = some ⟨2, true, [(.int .u64 0), (.int .u64 0)], 16⟩ := by kernel_rfl
@[go_sem ↓] theorem xTI_188 (K : TI → Prop) : xTI Try.prog 188 K = K ⟨2, true, [(.int .u64 0), (.int .u64 0)], 16⟩ := xTI_of tI_188 K
theorem tI_193 : tI Try.prog 193 = some ⟨3, true, [(.slice none 0 0), (.int .i64 0), (.int .i64 0)], 40⟩ := by kernel_rfl
@[go_sem ↓] theorem xTI_193 (K : TI → Prop) : xTI Try.prog 193 K = K ⟨3, true, [(.slice none 0 0), (.int .i64 0), (.int .i64 0)], 40⟩ := xTI_of tI_193 K
theorem tI_210 : tI Try.prog 210 = some ⟨1, false, [(.pointer none)], 8⟩ := by kernel_rfl
@[go_sem ↓] theorem xTI_210 (K : TI → Prop) : xTI Try.prog 210 K = K ⟨1, false, [(.pointer none)], 8⟩ := xTI_of tI_210 K
theorem tI_213 : tI Try.prog 213 = some ⟨1, false, [(.pointer none)], 8⟩ := by kernel_rfl
@[go_sem ↓] theorem xTI_213 (K : TI → Prop) : xTI Try.prog 213 K = K ⟨1, false, [(.pointer none)], 8⟩ := xTI_of tI_213 K
theorem bP_25 : bPl Try.prog 25 = some ([(.int .i64 0), (.int .i64 0), (.slice none 0 0), (.slice none 0 0)], [(0, 1), (1, 1), (2, 1), (3, 1)]) := by kernel_rfl
@[go_sem ↓] theorem xBuild_25 (ps : List (Nat × Value)) (K : Value → Prop) : xBuild Try.prog 25 ps.toArray K = xFill [(.int .i64 0), (.int .i64 0), (.slice none 0 0), (.slice none 0 0)] [(0, 1), (1, 1), (2, 1), (3, 1)] ps fun z' => K (.agg z'.toArray) := xBuild_of bP_25 ps K
theorem bP_36 : bPl Try.prog 36 = some ([(.int .i64 0), (.int .i64 0), (.slice none 0 0), (.slice none 0 0)], [(0, 1), (1, 1), (2, 1), (3, 1)]) := by kernel_rfl
@[go_sem ↓] theorem xBuild_36 (ps : List (Nat × Value)) (K : Value → Prop) : xBuild Try.prog 36 ps.toArray K = xFill [(.int .i64 0), (.int .i64 0), (.slice none 0 0), (.slice none 0 0)] [(0, 1), (1, 1), (2, 1), (3, 1)] ps fun z' => K (.agg z'.toArray) := xBuild_of bP_36 ps K
theorem bP_64 : bPl Try.prog 64 = some ([(.int .u64 0), (.int .i64 0), (.int .i64 0), (.int .i64 0), (.slice none 0 0)], [(0, 1), (1, 1), (2, 1), (3, 1), (4, 1)]) := by kernel_rfl
@[go_sem ↓] theorem xBuild_64 (ps : List (Nat × Value)) (K : Value → Prop) : xBuild Try.prog 64 ps.toArray K = xFill [(.int .u64 0), (.int .i64 0), (.int .i64 0), (.int .i64 0), (.slice none 0 0)] [(0, 1), (1, 1), (2, 1), (3, 1), (4, 1)] ps fun z' => K (.agg z'.toArray) := xBuild_of bP_64 ps K
theorem bP_82 : bPl Try.prog 82 = some ([(.int .u64 0), (.int .u64 0), (.int .u64 0), (.int .u64 0), (.int .u64 0), (.int .u64 0), (.int .u64 0), (.int .u64 0), (.int .u64 0), (.int .u64 0), (.int .u64 0), (.int .u64 0), (.int .u64 0), (.int .u64 0), (.int .i64 0), (.int .i64 0), (.int .i64 0), (.int .i64 0), (.int .i64 0), (.int .i64 0), (.int .i64 0), (.int .i64 0), (.int .i64 0), (.int .i64 0)], [(0, 1), (1, 1), (2, 1), (3, 1), (4, 1), (5, 1), (6, 1), (7, 1), (8, 1), (9, 1), (10, 1), (11, 1), (12, 1), (13, 1), (14, 1), (15, 1), (16, 1), (17, 1), (18, 1), (19, 1), (20, 1), (21, 1), (22, 1), (23, 1)]) := by kernel_rfl
@[go_sem ↓] theorem xBuild_82 (ps : List (Nat × Value)) (K : Value → Prop) : xBuild Try.prog 82 ps.toArray K = xFill [(.int .u64 0), (.int .u64 0), (.int .u64 0), (.int .u64 0), (.int .u64 0), (.int .u64 0), (.int .u64 0), (.int .u64 0), (.int .u64 0), (.int .u64 0), (.int .u64 0), (.int .u64 0), (.int .u64 0), (.int .u64 0), (.int .i64 0), (.int .i64 0), (.int .i64 0), (.int .i64 0), (.int .i64 0), (.int .i64 0), (.int .i64 0), (.int .i64 0), (.int .i64 0), (.int .i64 0)] [(0, 1), (1, 1), (2, 1), (3, 1), (4, 1), (5, 1), (6, 1), (7, 1), (8, 1), (9, 1), (10, 1), (11, 1), (12, 1), (13, 1), (14, 1), (15, 1), (16, 1), (17, 1), (18, 1), (19, 1), (20, 1), (21, 1), (22, 1), (23, 1)] ps fun z' => K (.agg z'.toArray) := xBuild_of bP_82 ps K
theorem bP_84 : bPl Try.prog 84 = some ([(.int .i64 0), (.int .i64 0), (.int .i64 0), (.int .i64 0), (.int .u64 0), (.int .i64 0), (.slice none 0 0), (.int .i64 0), (.int .u64 0), (.int .u64 0), (.int .u64 0), (.int .u64 0), (.int .u64 0), (.int .u64 0), (.int .u64 0), (.int .u64 0), (.int .u64 0), (.int .u64 0), (.int .u64 0), (.int .u64 0), (.int .u64 0), (.int .u64 0), (.int .i64 0), (.int .i64 0), (.int .i64 0), (.int .i64 0), (.int .i64 0), (.int .i64 0), (.int .i64 0), (.int .i64 0), (.int .i64 0), (.int .i64 0), (.int .i64 0), (.bool false)], [(0, 1), (1, 1), (2, 1), (3, 1), (4, 1), (5, 1), (6, 1), (7, 1), (8, 24), (32, 1), (33, 1)]) := by kernel_rfl
@[go_sem ↓] theorem xBuild_84 (ps : List (Nat × Value)) (K : Value → Prop) : xBuild Try.prog 84 ps.toArray K = xFill [(.int .i64 0), (.int .i64 0), (.int .i64 0), (.int .i64 0), (.int .u64 0), (.int .i64 0), (.slice none 0 0), (.int .i64 0), (.int .u64 0), (.int .u64 0), (.int .u64 0), (.int .u64 0), (.int .u64 0), (.int .u64 0), (.int .u64 0), (.int .u64 0), (.int .u64 0), (.int .u64 0), (.int .u64 0), (.int .u64 0), (.int .u64 0), (.int .u64 0), (.int .i64 0), (.int .i64 0), (.int .i64 0), (.int .i64 0), (.int .i64 0), (.int .i64 0), (.int .i64 0), (.int .i64 0), (.int .i64 0), (.int .i64 0), (.int .i64 0), (.bool false)] [(0, 1), (1, 1), (2, 1), (3, 1), (4, 1), (5, 1), (6, 1), (7, 1), (8, 24), (32, 1), (33, 1)] ps fun z' => K (.agg z'.toArray) := xBuild_of bP_84 ps K
theorem bP_87 : bPl Try.prog 87 = some ([(.slice none 0 0), (.int .i64 0)], [(0, 1), (1, 1)]) := by kernel_rfl
@[go_sem ↓] theorem xBuild_87 (ps : List (Nat × Value)) (K : Value → Prop) : xBuild Try.prog 87 ps.toArray K = xFill [(.slice none 0 0), (.int .i64 0)] [(0, 1), (1, 1)] ps fun z' => K (.agg z'.toArray) := xBuild_of bP_87 ps K
theorem bP_89 : bPl Try.prog 89 = some ([(.slice none 0 0), (.int .i64 0)], [(0, 2)]) := by kernel_rfl
@[go_sem ↓] theorem xBuild_89 (ps : List (Nat × Value)) (K : Value → Prop) : xBuild Try.prog 89 ps.toArray K = xFill [(.slice none 0 0), (.int .i64 0)] [(0, 2)] ps fun z' => K (.agg z'.toArray) := xBuild_of bP_89 ps K
theorem bP_93 : bPl Try.prog 93 = some ([(.int .u64 0), (.int .u64 0), (.int .u64 0), (.int .u64 0), (.int .u64 0), (.int .u64 0), (.int .u64 0), (.int .u64 0), (.int .u64 0), (.int .u64 0), (.int .u64 0), (.int .u64 0), (.int .u64 0), (.int .u64 0), (.int .i64 0), (.int .i64 0), (.int .i64 0), (.int .i64 0), (.int .i64 0), (.int .i64 0), (.int .i64 0), (.int .i64 0), (.int .i64 0), (.int .i64 0)], [(0, 1), (1, 1), (2, 1), (3, 1), (4, 1), (5, 1), (6, 1), (7, 1), (8, 1), (9, 1), (10, 1), (11, 1), (12, 1), (13, 1), (14, 1), (15, 1), (16, 1), (17, 1), (18, 1), (19, 1), (20, 1), (21, 1), (22, 1), (23, 1)]) := by kernel_rfl
@[go_sem ↓] theorem xBuild_93 (ps : List (Nat × Value)) (K : Value → Prop) : xBuild Try.prog 93 ps.toArray K = xFill [(.int .u64 0), (.int .u64 0), (.int .u64 0), (.int .u64 0), (.int .u64 0), (.int .u64 0), (.int .u64 0), (.int .u64 0), (.int .u64 0), (.int .u64 0), (.int .u64 0), (.int .u64 0), (.int .u64 0), (.int .u64 0), (.int .i64 0), (.int .i64 0), (.int .i64 0), (.int .i64 0), (.int .i64 0), (.int .i64 0), (.int .i64 0), (.int .i64 0), (.int .i64 0), (.int .i64 0)] [(0, 1), (1, 1), (2, 1), (3, 1), (4, 1), (5, 1), (6, 1), (7, 1), (8, 1), (9, 1), (10, 1), (11, 1), (12, 1), (13, 1), (14, 1), (15, 1), (16, 1), (17, 1), (18, 1), (19, 1), (20, 1), (21, 1), (22, 1), (23, 1)] ps fun z' => K (.agg z'.toArray) := xBuild_of bP_93 ps K
theorem bP_95 : bPl Try.prog 95 = some ([(.int .i64 0), (.int .i64 0), (.int .i64 0), (.int .i64 0), (.int .u64 0), (.int .i64 0), (.slice none 0 0), (.int .i64 0), (.int .u64 0), (.int .u64 0), (.int .u64 0), (.int .u64 0), (.int .u64 0), (.int .u64 0), (.int .u64 0), (.int .u64 0), (.int .u64 0), (.int .u64 0), (.int .u64 0), (.int .u64 0), (.int .u64 0), (.int .u64 0), (.int .i64 0), (.int .i64 0), (.int .i64 0), (.int .i64 0), (.int .i64 0), (.int .i64 0), (.int .i64 0), (.int .i64 0), (.int .i64 0), (.int .i64 0), (.int .i64 0), (.bool false)], [(0, 1), (1, 1), (2, 1), (3, 1), (4, 1), (5, 1), (6, 1), (7, 1), (8, 24), (32, 1), (33, 1)]) := by kernel_rfl
@[go_sem ↓] theorem xBuild_95 (ps : List (Nat × Value)) (K : Value → Prop) : xBuild Try.prog 95 ps.toArray K = xFill [(.int .i64 0), (.int .i64 0), (.int .i64 0), (.int .i64 0), (.int .u64 0), (.int .i64 0), (.slice none 0 0), (.int .i64 0), (.int .u64 0), (.int .u64 0), (.int .u64 0), (.int .u64 0), (.int .u64 0), (.int .u64 0), (.int .u64 0), (.int .u64 0), (.int .u64 0), (.int .u64 0), (.int .u64 0), (.int .u64 0), (.int .u64 0), (.int .u64 0), (.int .i64 0), (.int .i64 0), (.int .i64 0), (.int .i64 0), (.int .i64 0), (.int .i64 0), (.int .i64 0), (.int .i64 0), (.int .i64 0), (.int .i64 0), (.int .i64 0), (.bool false)] [(0, 1), (1, 1), (2, 1), (3, 1), (4, 1), (5, 1), (6, 1), (7, 1), (8, 24), (32, 1), (33, 1)] ps fun z' => K (.agg z'.toArray) := xBuild_of bP_95 ps K
theorem bP_133 : bPl Try.prog 133 = some ([(.int .u64 0), (.int .i64 0), (.int .i64 0)], [(0, 1), (1, 1), (2, 1)]) := by kernel_rfl
@[go_sem ↓] theorem xBuild_133 (ps : List (Nat × Value)) (K : Value → Prop) : xBuild Try.prog 133 ps.toArray K = xFill [(.int .u64 0), (.int .i64 0), (.int .i64 0)] [(0, 1), (1, 1), (2, 1)] ps fun z' => K (.agg z'.toArray) := xBuild_of bP_133 ps K
theorem bP_135 : bPl Try.prog 135 = some ([(.int .u64 0), (.int .i64 0), (.int .i64 0), (.int .i64 0), (.slice none 0 0)], [(0, 3), (3, 1), (4, 1)]) := by kernel_rfl
@[go_sem ↓] theorem xBuild_135 (ps : List (Nat × Value)) (K : Value → Prop) : xBuild Try.prog 135 ps.toArray K = xFill [(.int .u64 0), (.int .i64 0), (.int .i64 0), (.int .i64 0), (.slice none 0 0)] [(0, 3), (3, 1), (4, 1)] ps fun z' => K (.agg z'.toArray) := xBuild_of bP_135 ps K
theorem bP_139 : bPl Try.prog 139 = some ([(.slice none 0 0), (.int .i64 0), (.int .i64 0)], [(0, 1), (1, 1), (2, 1)]) := by kernel_rfl
@[go_sem ↓] theorem xBuild_139 (ps : List (Nat × Value)) (K : Value → Prop) : xBuild Try.prog 139 ps.toArray K = xFill [(.slice none 0 0), (.int .i64 0), (.int .i64 0)] [(0, 1), (1, 1), (2, 1)] ps fun z' => K (.agg z'.toArray) := xBuild_of bP_139 ps K
theorem bP_146 : bPl Try.prog 146 = some ([(.int .u64 0), (.int .i64 0), (.int .i64 0), (.map none), (.int .i64 0)], [(0, 3), (3, 1), (4, 1)]) := by kernel_rfl
@[go_sem ↓] theorem xBuild_146 (ps : List (Nat × Value)) (K : Value → Prop) : xBuild Try.prog 146 ps.toArray K = xFill [(.int .u64 0), (.int .i64 0), (.int .i64 0), (.map none), (.int .i64 0)] [(0, 3), (3, 1), (4, 1)] ps fun z' => K (.agg z'.toArray) := xBuild_of bP_146 ps K
theorem bP_169 : bPl Try.prog 169 = some ([(.pointer none), (.int .i64 0)], [(0, 1), (1, 1)]) := by kernel_rfl
@[go_sem ↓] theorem xBuild_169 (ps : List (Nat × Value)) (K : Value → Prop) : xBuild Try.prog 169 ps.toArray K = xFill [(.pointer none), (.int .i64 0)] [(0, 1), (1, 1)] ps fun z' => K (.agg z'.toArray) := xBuild_of bP_169 ps K
theorem bP_177 : bPl Try.prog 177 = some ([(.slice none 0 0)], [(0, 1)]) := by kernel_rfl
@[go_sem ↓] theorem xBuild_177 (ps : List (Nat × Value)) (K : Value → Prop) : xBuild Try.prog 177 ps.toArray K = xFill [(.slice none 0 0)] [(0, 1)] ps fun z' => K (.agg z'.toArray) := xBuild_of bP_177 ps K
theorem bP_188 : bPl Try.prog 188 = some ([(.int .u64 0), (.int .u64 0)], [(0, 1), (1, 1)]) := by kernel_rfl
@[go_sem ↓] theorem xBuild_188 (ps : List (Nat × Value)) (K : Value → Prop) : xBuild Try.prog 188 ps.toArray K = xFill [(.int .u64 0), (.int .u64 0)] [(0, 1), (1, 1)] ps fun z' => K (.agg z'.toArray) := xBuild_of bP_188 ps K
theorem bP_193 : bPl Try.prog 193 = some ([(.slice none 0 0), (.int .i64 0), (.int .i64 0)], [(0, 2), (2, 1)]) := by kernel_rfl
@[go_sem ↓] theorem xBuild_193 (ps : List (Nat × Value)) (K : Value → Prop) : xBuild Try.prog 193 ps.toArray K = xFill [(.slice none 0 0), (.int .i64 0), (.int .i64 0)] [(0, 2), (2, 1)] ps fun z' => K (.agg z'.toArray) := xBuild_of bP_193 ps K
theorem bS_22_0 : bSl Try.prog 22 0 = some (28, [], []) := by kernel_rfl
@[go_sem ↓] theorem xBS_22_0 (ps : List (Nat × Value)) (K : TypeId → List Value → Prop) : xBS Try.prog 22 0 ps.toArray K = xFill [] [] ps fun cs => K 28 cs := xBS_of bS_22_0 ps K
theorem bS_22_1 : bSl Try.prog 22 1 = some (28, [(.int .u64 0)], [(0, 1)]) := by kernel_rfl
@[go_sem ↓] theorem xBS_22_1 (ps : List (Nat × Value)) (K : TypeId → List Value → Prop) : xBS Try.prog 22 1 ps.toArray K = xFill [(.int .u64 0)] [(0, 1)] ps fun cs => K 28 cs := xBS_of bS_22_1 ps K
theorem bS_22_3 : bSl Try.prog 22 3 = some (28, [(.int .u64 0), (.int .u64 0), (.int .u64 0)], [(0, 1), (1, 1), (2, 1)]) := by kernel_rfl
@[go_sem ↓] theorem xBS_22_3 (ps : List (Nat × Value)) (K : TypeId → List Value → Prop) : xBS Try.prog 22 3 ps.toArray K = xFill [(.int .u64 0), (.int .u64 0), (.int .u64 0)] [(0, 1), (1, 1), (2, 1)] ps fun cs => K 28 cs := xBS_of bS_22_3 ps K
theorem bS_22_14 : bSl Try.prog 22 14 = some (28, [(.int .u64 0), (.int .u64 0), (.int .u64 0), (.int .u64 0), (.int .u64 0), (.int .u64 0), (.int .u64 0), (.int .u64 0), (.int .u64 0), (.int .u64 0), (.int .u64 0), (.int .u64 0), (.int .u64 0), (.int .u64 0)], [(0, 1), (1, 1), (2, 1), (3, 1), (4, 1), (5, 1), (6, 1), (7, 1), (8, 1), (9, 1), (10, 1), (11, 1), (12, 1), (13, 1)]) := by kernel_rfl
@[go_sem ↓] theorem xBS_22_14 (ps : List (Nat × Value)) (K : TypeId → List Value → Prop) : xBS Try.prog 22 14 ps.toArray K = xFill [(.int .u64 0), (.int .u64 0), (.int .u64 0), (.int .u64 0), (.int .u64 0), (.int .u64 0), (.int .u64 0), (.int .u64 0), (.int .u64 0), (.int .u64 0), (.int .u64 0), (.int .u64 0), (.int .u64 0), (.int .u64 0)] [(0, 1), (1, 1), (2, 1), (3, 1), (4, 1), (5, 1), (6, 1), (7, 1), (8, 1), (9, 1), (10, 1), (11, 1), (12, 1), (13, 1)] ps fun cs => K 28 cs := xBS_of bS_22_14 ps K
theorem bS_23_0 : bSl Try.prog 23 0 = some (5, [], []) := by kernel_rfl
@[go_sem ↓] theorem xBS_23_0 (ps : List (Nat × Value)) (K : TypeId → List Value → Prop) : xBS Try.prog 23 0 ps.toArray K = xFill [] [] ps fun cs => K 5 cs := xBS_of bS_23_0 ps K
theorem bS_23_1 : bSl Try.prog 23 1 = some (5, [(.int .u8 0)], [(0, 1)]) := by kernel_rfl
@[go_sem ↓] theorem xBS_23_1 (ps : List (Nat × Value)) (K : TypeId → List Value → Prop) : xBS Try.prog 23 1 ps.toArray K = xFill [(.int .u8 0)] [(0, 1)] ps fun cs => K 5 cs := xBS_of bS_23_1 ps K
theorem bS_23_3 : bSl Try.prog 23 3 = some (5, [(.int .u8 0), (.int .u8 0), (.int .u8 0)], [(0, 1), (1, 1), (2, 1)]) := by kernel_rfl
@[go_sem ↓] theorem xBS_23_3 (ps : List (Nat × Value)) (K : TypeId → List Value → Prop) : xBS Try.prog 23 3 ps.toArray K = xFill [(.int .u8 0), (.int .u8 0), (.int .u8 0)] [(0, 1), (1, 1), (2, 1)] ps fun cs => K 5 cs := xBS_of bS_23_3 ps K
theorem bS_23_4 : bSl Try.prog 23 4 = some (5, [(.int .u8 0), (.int .u8 0), (.int .u8 0), (.int .u8 0)], [(0, 1), (1, 1), (2, 1), (3, 1)]) := by kernel_rfl
@[go_sem ↓] theorem xBS_23_4 (ps : List (Nat × Value)) (K : TypeId → List Value → Prop) : xBS Try.prog 23 4 ps.toArray K = xFill [(.int .u8 0), (.int .u8 0), (.int .u8 0), (.int .u8 0)] [(0, 1), (1, 1), (2, 1), (3, 1)] ps fun cs => K 5 cs := xBS_of bS_23_4 ps K
theorem bS_23_5 : bSl Try.prog 23 5 = some (5, [(.int .u8 0), (.int .u8 0), (.int .u8 0), (.int .u8 0), (.int .u8 0)], [(0, 1), (1, 1), (2, 1), (3, 1), (4, 1)]) := by kernel_rfl
@[go_sem ↓] theorem xBS_23_5 (ps : List (Nat × Value)) (K : TypeId → List Value → Prop) : xBS Try.prog 23 5 ps.toArray K = xFill [(.int .u8 0), (.int .u8 0), (.int .u8 0), (.int .u8 0), (.int .u8 0)] [(0, 1), (1, 1), (2, 1), (3, 1), (4, 1)] ps fun cs => K 5 cs := xBS_of bS_23_5 ps K
theorem bS_53_1 : bSl Try.prog 53 1 = some (23, [(.slice none 0 0)], [(0, 1)]) := by kernel_rfl
@[go_sem ↓] theorem xBS_53_1 (ps : List (Nat × Value)) (K : TypeId → List Value → Prop) : xBS Try.prog 53 1 ps.toArray K = xFill [(.slice none 0 0)] [(0, 1)] ps fun cs => K 23 cs := xBS_of bS_53_1 ps K
theorem bS_53_2 : bSl Try.prog 53 2 = some (23, [(.slice none 0 0), (.slice none 0 0)], [(0, 1), (1, 1)]) := by kernel_rfl
@[go_sem ↓] theorem xBS_53_2 (ps : List (Nat × Value)) (K : TypeId → List Value → Prop) : xBS Try.prog 53 2 ps.toArray K = xFill [(.slice none 0 0), (.slice none 0 0)] [(0, 1), (1, 1)] ps fun cs => K 23 cs := xBS_of bS_53_2 ps K
theorem bS_59_0 : bSl Try.prog 59 0 = some (3, [], []) := by kernel_rfl
@[go_sem ↓] theorem xBS_59_0 (ps : List (Nat × Value)) (K : TypeId → List Value → Prop) : xBS Try.prog 59 0 ps.toArray K = xFill [] [] ps fun cs => K 3 cs := xBS_of bS_59_0 ps K
theorem bS_59_1 : bSl Try.prog 59 1 = some (3, [(.int .i64 0)], [(0, 1)]) := by kernel_rfl
@[go_sem ↓] theorem xBS_59_1 (ps : List (Nat × Value)) (K : TypeId → List Value → Prop) : xBS Try.prog 59 1 ps.toArray K = xFill [(.int .i64 0)] [(0, 1)] ps fun cs => K 3 cs := xBS_of bS_59_1 ps K
theorem bS_59_10 : bSl Try.prog 59 10 = some (3, [(.int .i64 0), (.int .i64 0), (.int .i64 0), (.int .i64 0), (.int .i64 0), (.int .i64 0), (.int .i64 0), (.int .i64 0), (.int .i64 0), (.int .i64 0)], [(0, 1), (1, 1), (2, 1), (3, 1), (4, 1), (5, 1), (6, 1), (7, 1), (8, 1), (9, 1)]) := by kernel_rfl
@[go_sem ↓] theorem xBS_59_10 (ps : List (Nat × Value)) (K : TypeId → List Value → Prop) : xBS Try.prog 59 10 ps.toArray K = xFill [(.int .i64 0), (.int .i64 0), (.int .i64 0), (.int .i64 0), (.int .i64 0), (.int .i64 0), (.int .i64 0), (.int .i64 0), (.int .i64 0), (.int .i64 0)] [(0, 1), (1, 1), (2, 1), (3, 1), (4, 1), (5, 1), (6, 1), (7, 1), (8, 1), (9, 1)] ps fun cs => K 3 cs := xBS_of bS_59_10 ps K
theorem bS_69_1 : bSl Try.prog 69 1 = some (4, [(.bool false)], [(0, 1)]) := by kernel_rfl
@[go_sem ↓] theorem xBS_69_1 (ps : List (Nat × Value)) (K : TypeId → List Value → Prop) : xBS Try.prog 69 1 ps.toArray K = xFill [(.bool false)] [(0, 1)] ps fun cs => K 4 cs := xBS_of bS_69_1 ps K
theorem bS_69_6 : bSl Try.prog 69 6 = some (4, [(.bool false), (.bool false), (.bool false), (.bool false), (.bool false), (.bool false)], [(0, 1), (1, 1), (2, 1), (3, 1), (4, 1), (5, 1)]) := by kernel_rfl
@[go_sem ↓] theorem xBS_69_6 (ps : List (Nat × Value)) (K : TypeId → List Value → Prop) : xBS Try.prog 69 6 ps.toArray K = xFill [(.bool false), (.bool false), (.bool false), (.bool false), (.bool false), (.bool false)] [(0, 1), (1, 1), (2, 1), (3, 1), (4, 1), (5, 1)] ps fun cs => K 4 cs := xBS_of bS_69_6 ps K
theorem bS_69_7 : bSl Try.prog 69 7 = some (4, [(.bool false), (.bool false), (.bool false), (.bool false), (.bool false), (.bool false), (.bool false)], [(0, 1), (1, 1), (2, 1), (3, 1), (4, 1), (5, 1), (6, 1)]) := by kernel_rfl
@[go_sem ↓] theorem xBS_69_7 (ps : List (Nat × Value)) (K : TypeId → List Value → Prop) : xBS Try.prog 69 7 ps.toArray K = xFill [(.bool false), (.bool false), (.bool false), (.bool false), (.bool false), (.bool false), (.bool false)] [(0, 1), (1, 1), (2, 1), (3, 1), (4, 1), (5, 1), (6, 1)] ps fun cs => K 4 cs := xBS_of bS_69_7 ps K
theorem bS_69_12 : bSl Try.prog 69 12 = some (4, [(.bool false), (.bool false), (.bool false), (.bool false), (.bool false), (.bool false), (.bool false), (.bool false), (.bool false), (.bool false), (.bool false), (.bool false)], [(0, 1), (1, 1), (2, 1), (3, 1), (4, 1), (5, 1), (6, 1), (7, 1), (8, 1), (9, 1), (10, 1), (11, 1)]) := by kernel_rfl
@[go_sem ↓] theorem xBS_69_12 (ps : List (Nat × Value)) (K : TypeId → List Value → Prop) : xBS Try.prog 69 12 ps.toArray K = xFill [(.bool false), (.bool false), (.bool false), (.bool false), (.bool false), (.bool false), (.bool false), (.bool false), (.bool false), (.bool false), (.bool false), (.bool false)] [(0, 1), (1, 1), (2, 1), (3, 1), (4, 1), (5, 1), (6, 1), (7, 1), (8, 1), (9, 1), (10, 1), (11, 1)] ps fun cs => K 4 cs := xBS_of bS_69_12 ps K
theorem bS_105_1 : bSl Try.prog 105 1 = some (84, [(.int .i64 0), (.int .i64 0), (.int .i64 0), (.int .i64 0), (.int .u64 0), (.int .i64 0), (.slice none 0 0), (.int .i64 0), (.int .u64 0), (.int .u64 0), (.int .u64 0), (.int .u64 0), (.int .u64 0), (.int .u64 0), (.int .u64 0), (.int .u64 0), (.int .u64 0), (.int .u64 0), (.int .u64 0), (.int .u64 0), (.int .u64 0), (.int .u64 0), (.int .i64 0), (.int .i64 0), (.int .i64 0), (.int .i64 0), (.int .i64 0), (.int .i64 0), (.int .i64 0), (.int .i64 0), (.int .i64 0), (.int .i64 0), (.int .i64 0), (.bool false)], [(0, 34)]) := by kernel_rfl
@[go_sem ↓] theorem xBS_105_1 (ps : List (Nat × Value)) (K : TypeId → List Value → Prop) : xBS Try.prog 105 1 ps.toArray K = xFill [(.int .i64 0), (.int .i64 0), (.int .i64 0), (.int .i64 0), (.int .u64 0), (.int .i64 0), (.slice none 0 0), (.int .i64 0), (.int .u64 0), (.int .u64 0), (.int .u64 0), (.int .u64 0), (.int .u64 0), (.int .u64 0), (.int .u64 0), (.int .u64 0), (.int .u64 0), (.int .u64 0), (.int .u64 0), (.int .u64 0), (.int .u64 0), (.int .u64 0), (.int .i64 0), (.int .i64 0), (.int .i64 0), (.int .i64 0), (.int .i64 0), (.int .i64 0), (.int .i64 0), (.int .i64 0), (.int .i64 0), (.int .i64 0), (.int .i64 0), (.bool false)] [(0, 34)] ps fun cs => K 84 cs := xBS_of bS_105_1 ps K
theorem bS_112_1 : bSl Try.prog 112 1 = some (95, [(.int .i64 0), (.int .i64 0), (.int .i64 0), (.int .i64 0), (.int .u64 0), (.int .i64 0), (.slice none 0 0), (.int .i64 0), (.int .u64 0), (.int .u64 0), (.int .u64 0), (.int .u64 0), (.int .u64 0), (.int .u64 0), (.int .u64 0), (.int .u64 0), (.int .u64 0), (.int .u64 0), (.int .u64 0), (.int .u64 0), (.int .u64 0), (.int .u64 0), (.int .i64 0), (.int .i64 0), (.int .i64 0), (.int .i64 0), (.int .i64 0), (.int .i64 0), (.int .i64 0), (.int .i64 0), (.int .i64 0), (.int .i64 0), (.int .i64 0), (.bool false)], [(0, 34)]) := by kernel_rfl
@[go_sem ↓] theorem xBS_112_1 (ps : List (Nat × Value)) (K : TypeId → List Value → Prop) : xBS Try.prog 112 1 ps.toArray K = xFill [(.int .i64 0), (.int .i64 0), (.int .i64 0), (.int .i64 0), (.int .u64 0), (.int .i64 0), (.slice none 0 0), (.int .i64 0), (.int .u64 0), (.int .u64 0), (.int .u64 0), (.int .u64 0), (.int .u64 0), (.int .u64 0), (.int .u64 0), (.int .u64 0), (.int .u64 0), (.int .u64 0), (.int .u64 0), (.int .u64 0), (.int .u64 0), (.int .u64 0), (.int .i64 0), (.int .i64 0), (.int .i64 0), (.int .i64 0), (.int .i64 0), (.int .i64 0), (.int .i64 0), (.int .i64 0), (.int .i64 0), (.int .i64 0), (.int .i64 0), (.bool false)] [(0, 34)] ps fun cs => K 95 cs := xBS_of bS_112_1 ps K
theorem bS_174_2 : bSl Try.prog 174 2 = some (25, [(.int .i64 0), (.int .i64 0), (.slice none 0 0), (.slice none 0 0), (.int .i64 0), (.int .i64 0), (.slice none 0 0), (.slice none 0 0)], [(0, 4), (4, 4)]) := by kernel_rfl
@[go_sem ↓] theorem xBS_174_2 (ps : List (Nat × Value)) (K : TypeId → List Value → Prop) : xBS Try.prog 174 2 ps.toArray K = xFill [(.int .i64 0), (.int .i64 0), (.slice none 0 0), (.slice none 0 0), (.int .i64 0), (.int .i64 0), (.slice none 0 0), (.slice none 0 0)] [(0, 4), (4, 4)] ps fun cs => K 25 cs := xBS_of bS_174_2 ps K
theorem bS_207_14 : bSl Try.prog 207 14 = some (210, [(.pointer none), (.pointer none), (.pointer none), (.pointer none), (.pointer none), (.pointer none), (.pointer none), (.pointer none), (.pointer none), (.pointer none), (.pointer none), (.pointer none), (.pointer none), (.pointer none)], [(0, 1), (1, 1), (2, 1), (3, 1), (4, 1), (5, 1), (6, 1), (7, 1), (8, 1), (9, 1), (10, 1), (11, 1), (12, 1), (13, 1)]) := by kernel_rfl
@[go_sem ↓] theorem xBS_207_14 (ps : List (Nat × Value)) (K : TypeId → List Value → Prop) : xBS Try.prog 207 14 ps.toArray K = xFill [(.pointer none), (.pointer none), (.pointer none), (.pointer none), (.pointer none), (.pointer none), (.pointer none), (.pointer none), (.pointer none), (.pointer none), (.pointer none), (.pointer none), (.pointer none), (.pointer none)] [(0, 1), (1, 1), (2, 1), (3, 1), (4, 1), (5, 1), (6, 1), (7, 1), (8, 1), (9, 1), (10, 1), (11, 1), (12, 1), (13, 1)] ps fun cs => K 210 cs := xBS_of bS_207_14 ps K
theorem bS_211_10 : bSl Try.prog 211 10 = some (213, [(.pointer none), (.pointer none), (.pointer none), (.pointer none), (.pointer none), (.pointer none), (.pointer none), (.pointer none), (.pointer none), (.pointer none)], [(0, 1), (1, 1), (2, 1), (3, 1), (4, 1), (5, 1), (6, 1), (7, 1), (8, 1), (9, 1)]) := by kernel_rfl
@[go_sem ↓] theorem xBS_211_10 (ps : List (Nat × Value)) (K : TypeId → List Value → Prop) : xBS Try.prog 211 10 ps.toArray K = xFill [(.pointer none), (.pointer none), (.pointer none), (.pointer none), (.pointer none), (.pointer none), (.pointer none), (.pointer none), (.pointer none), (.pointer none)] [(0, 1), (1, 1), (2, 1), (3, 1), (4, 1), (5, 1), (6, 1), (7, 1), (8, 1), (9, 1)] ps fun cs => K 213 cs := xBS_of bS_211_10 ps K
theorem fO_25_0 : fOff Try.prog 25 0 = some 0 := by kernel_rfl
@[go_sem ↓] theorem xFO_25_0 (K : Nat → Prop) : xFO Try.prog 25 0 K = K 0 := xFO_of fO_25_0 K
theorem fO_25_1 : fOff Try.prog 25 1 = some 1 := by kernel_rfl
@[go_sem ↓] theorem xFO_25_1 (K : Nat → Prop) : xFO Try.prog 25 1 K = K 1 := xFO_of fO_25_1 K
theorem fO_25_2 : fOff Try.prog 25 2 = some 2 := by kernel_rfl
@[go_sem ↓] theorem xFO_25_2 (K : Nat → Prop) : xFO Try.prog 25 2 K = K 2 := xFO_of fO_25_2 K
theorem fO_25_3 : fOff Try.prog 25 3 = some 3 := by kernel_rfl
@[go_sem ↓] theorem xFO_25_3 (K : Nat → Prop) : xFO Try.prog 25 3 K = K 3 := xFO_of fO_25_3 K
theorem fO_36_0 : fOff Try.prog 36 0 = some 0 := by kernel_rfl
@[go_sem ↓] theorem xFO_36_0 (K : Nat → Prop) : xFO Try.prog 36 0 K = K 0 := xFO_of fO_36_0 K
theorem fO_36_1 : fOff Try.prog 36 1 = some 1 := by kernel_rfl
@[go_sem ↓] theorem xFO_36_1 (K : Nat → Prop) : xFO Try.prog 36 1 K = K 1 := xFO_of fO_36_1 K
theorem fO_36_2 : fOff Try.prog 36 2 = some 2 := by kernel_rfl
@[go_sem ↓] theorem xFO_36_2 (K : Nat → Prop) : xFO Try.prog 36 2 K = K 2 := xFO_of fO_36_2 K
theorem fO_36_3 : fOff Try.prog 36 3 = some 3 := by kernel_rfl
@[go_sem ↓] theorem xFO_36_3 (K : Nat → Prop) : xFO Try.prog 36 3 K = K 3 := xFO_of fO_36_3 K
theorem fO_61_0 : fOff Try.prog 61 0 = some 0 := by kernel_rfl
@[go_sem ↓] theorem xFO_61_0 (K : Nat → Prop) : xFO Try.prog 61 0 K = K 0 := xFO_of fO_61_0 K
theorem fO_61_1 : fOff Try.prog 61 1 = some 1 := by kernel_rfl
@[go_sem ↓] theorem xFO_61_1 (K : Nat → Prop) : xFO Try.prog 61 1 K = K 1 := xFO_of fO_61_1 K
theorem fO_61_2 : fOff Try.prog 61 2 = some 2 := by kernel_rfl
@[go_sem ↓] theorem xFO_61_2 (K : Nat → Prop) : xFO Try.prog 61 2 K = K 2 := xFO_of fO_61_2 K
theorem fO_64_0 : fOff Try.prog 64 0 = some 0 := by kernel_rfl
@[go_sem ↓] theorem xFO_64_0 (K : Nat → Prop) : xFO Try.prog 64 0 K = K 0 := xFO_of fO_64_0 K
theorem fO_64_1 : fOff Try.prog 64 1 = some 1 := by kernel_rfl
@[go_sem ↓] theorem xFO_64_1 (K : Nat → Prop) : xFO Try.prog 64 1 K = K 1 := xFO_of fO_64_1 K
theorem fO_64_2 : fOff Try.prog 64 2 = some 2 := by kernel_rfl
@[go_sem ↓] theorem xFO_64_2 (K : Nat → Prop) : xFO Try.prog 64 2 K = K 2 := xFO_of fO_64_2 K
theorem fO_64_3 : fOff Try.prog 64 3 = some 3 := by kernel_rfl
@[go_sem ↓] theorem xFO_64_3 (K : Nat → Prop) : xFO Try.prog 64 3 K = K 3 := xFO_of fO_64_3 K
theorem fO_64_4 : fOff Try.prog 64 4 = some 4 := by kernel_rfl
@[go_sem ↓] theorem xFO_64_4 (K : Nat → Prop) : xFO Try.prog 64 4 K = K 4 := xFO_of fO_64_4 K
theorem fO_82_0 : fOff Try.prog 82 0 = some 0 := by kernel_rfl
@[go_sem ↓] theorem xFO_82_0 (K : Nat → Prop) : xFO Try.prog 82 0 K = K 0 := xFO_of fO_82_0 K
theorem fO_82_1 : fOff Try.prog 82 1 = some 1 := by kernel_rfl
@[go_sem ↓] theorem xFO_82_1 (K : Nat → Prop) : xFO Try.prog 82 1 K = K 1 := xFO_of fO_82_1 K
theorem fO_82_2 : fOff Try.prog 82 2 = some 2 := by kernel_rfl
@[go_sem ↓] theorem xFO_82_2 (K : Nat → Prop) : xFO Try.prog 82 2 K = K 2 := xFO_of fO_82_2 K
theorem fO_82_3 : fOff Try.prog 82 3 = some 3 := by kernel_rfl
@[go_sem ↓] theorem xFO_82_3 (K : Nat → Prop) : xFO Try.prog 82 3 K = K 3 := xFO_of fO_82_3 K
theorem fO_82_4 : fOff Try.prog 82 4 = some 4 := by kernel_rfl
@[go_sem ↓] theorem xFO_82_4 (K : Nat → Prop) : xFO Try.prog 82 4 K = K 4 := xFO_of fO_82_4 K
theorem fO_82_5 : fOff Try.prog 82 5 = some 5 := by kernel_rfl
@[go_sem ↓] theorem xFO_82_5 (K : Nat → Prop) : xFO Try.prog 82 5 K = K 5 := xFO_of fO_82_5 K
theorem fO_82_6 : fOff Try.prog 82 6 = some 6 := by kernel_rfl
@[go_sem ↓] theorem xFO_82_6 (K : Nat → Prop) : xFO Try.prog 82 6 K = K 6 := xFO_of fO_82_6 K
theorem fO_82_7 : fOff Try.prog 82 7 = some 7 := by kernel_rfl
@[go_sem ↓] theorem xFO_82_7 (K : Nat → Prop) : xFO Try.prog 82 7 K = K 7 := xFO_of fO_82_7 K
theorem fO_82_8 : fOff Try.prog 82 8 = some 8 := by kernel_rfl
@[go_sem ↓] theorem xFO_82_8 (K : Nat → Prop) : xFO Try.prog 82 8 K = K 8 := xFO_of fO_82_8 K
theorem fO_82_9 : fOff Try.prog 82 9 = some 9 := by kernel_rfl
@[go_sem ↓] theorem xFO_82_9 (K : Nat → Prop) : xFO Try.prog 82 9 K = K 9 := xFO_of fO_82_9 K
theorem fO_82_10 : fOff Try.prog 82 10 = some 10 := by kernel_rfl
@[go_sem ↓] theorem xFO_82_10 (K : Nat → Prop) : xFO Try.prog 82 10 K = K 10 := xFO_of fO_82_10 K
theorem fO_82_11 : fOff Try.prog 82 11 = some 11 := by kernel_rfl
@[go_sem ↓] theorem xFO_82_11 (K : Nat → Prop) : xFO Try.prog 82 11 K = K 11 := xFO_of fO_82_11 K
theorem fO_82_12 : fOff Try.prog 82 12 = some 12 := by kernel_rfl
@[go_sem ↓] theorem xFO_82_12 (K : Nat → Prop) : xFO Try.prog 82 12 K = K 12 := xFO_of fO_82_12 K
theorem fO_82_13 : fOff Try.prog 82 13 = some 13 := by kernel_rfl
@[go_sem ↓] theorem xFO_82_13 (K : Nat → Prop) : xFO Try.prog 82 13 K = K 13 := xFO_of fO_82_13 K
theorem fO_82_14 : fOff Try.prog 82 14 = some 14 := by kernel_rfl
@[go_sem ↓] theorem xFO_82_14 (K : Nat → Prop) : xFO Try.prog 82 14 K = K 14 := xFO_of fO_82_14 K
theorem fO_82_15 : fOff Try.prog 82 15 = some 15 := by kernel_rfl
@[go_sem ↓] theorem xFO_82_15 (K : Nat → Prop) : xFO Try.prog 82 15 K = K 15 := xFO_of fO_82_15 K
theorem fO_82_16 : fOff Try.prog 82 16 = some 16 := by kernel_rfl
@[go_sem ↓] theorem xFO_82_16 (K : Nat → Prop) : xFO Try.prog 82 16 K = K 16 := xFO_of fO_82_16 K
theorem fO_82_17 : fOff Try.prog 82 17 = some 17 := by kernel_rfl
@[go_sem ↓] theorem xFO_82_17 (K : Nat → Prop) : xFO Try.prog 82 17 K = K 17 := xFO_of fO_82_17 K
theorem fO_82_18 : fOff Try.prog 82 18 = some 18 := by kernel_rfl
@[go_sem ↓] theorem xFO_82_18 (K : Nat → Prop) : xFO Try.prog 82 18 K = K 18 := xFO_of fO_82_18 K
theorem fO_82_19 : fOff Try.prog 82 19 = some 19 := by kernel_rfl
@[go_sem ↓] theorem xFO_82_19 (K : Nat → Prop) : xFO Try.prog 82 19 K = K 19 := xFO_of fO_82_19 K
theorem fO_82_20 : fOff Try.prog 82 20 = some 20 := by kernel_rfl
@[go_sem ↓] theorem xFO_82_20 (K : Nat → Prop) : xFO Try.prog 82 20 K = K 20 := xFO_of fO_82_20 K
theorem fO_82_21 : fOff Try.prog 82 21 = some 21 := by kernel_rfl
@[go_sem ↓] theorem xFO_82_21 (K : Nat → Prop) : xFO Try.prog 82 21 K = K 21 := xFO_of fO_82_21 K
theorem fO_82_22 : fOff Try.prog 82 22 = some 22 := by kernel_rfl
@[go_sem ↓] theorem xFO_82_22 (K : Nat → Prop) : xFO Try.prog 82 22 K = K 22 := xFO_of fO_82_22 K
theorem fO_82_23 : fOff Try.prog 82 23 = some 23 := by kernel_rfl
@[go_sem ↓] theorem xFO_82_23 (K : Nat → Prop) : xFO Try.prog 82 23 K = K 23 := xFO_of fO_82_23 K
theorem fO_84_0 : fOff Try.prog 84 0 = some 0 := by kernel_rfl
@[go_sem ↓] theorem xFO_84_0 (K : Nat → Prop) : xFO Try.prog 84 0 K = K 0 := xFO_of fO_84_0 K
theorem fO_84_1 : fOff Try.prog 84 1 = some 1 := by kernel_rfl
@[go_sem ↓] theorem xFO_84_1 (K : Nat → Prop) : xFO Try.prog 84 1 K = K 1 := xFO_of fO_84_1 K
theorem fO_84_2 : fOff Try.prog 84 2 = some 2 := by kernel_rfl
@[go_sem ↓] theorem xFO_84_2 (K : Nat → Prop) : xFO Try.prog 84 2 K = K 2 := xFO_of fO_84_2 K
theorem fO_84_3 : fOff Try.prog 84 3 = some 3 := by kernel_rfl
@[go_sem ↓] theorem xFO_84_3 (K : Nat → Prop) : xFO Try.prog 84 3 K = K 3 := xFO_of fO_84_3 K
theorem fO_84_4 : fOff Try.prog 84 4 = some 4 := by kernel_rfl
@[go_sem ↓] theorem xFO_84_4 (K : Nat → Prop) : xFO Try.prog 84 4 K = K 4 := xFO_of fO_84_4 K
theorem fO_84_5 : fOff Try.prog 84 5 = some 5 := by kernel_rfl
@[go_sem ↓] theorem xFO_84_5 (K : Nat → Prop) : xFO Try.prog 84 5 K = K 5 := xFO_of fO_84_5 K
theorem fO_84_6 : fOff Try.prog 84 6 = some 6 := by kernel_rfl
@[go_sem ↓] theorem xFO_84_6 (K : Nat → Prop) : xFO Try.prog 84 6 K = K 6 := xFO_of fO_84_6 K
theorem fO_84_7 : fOff Try.prog 84 7 = some 7 := by kernel_rfl
@[go_sem ↓] theorem xFO_84_7 (K : Nat → Prop) : xFO Try.prog 84 7 K = K 7 := xFO_of fO_84_7 K
theorem fO_84_8 : fOff Try.prog 84 8 = some 8 := by kernel_rfl
@[go_sem ↓] theorem xFO_84_8 (K : Nat → Prop) : xFO Try.prog 84 8 K = K 8 := xFO_of fO_84_8 K
theorem fO_84_9 : fOff Try.prog 84 9 = some 32 := by kernel_rfl
@[go_sem ↓] theorem xFO_84_9 (K : Nat → Prop) : xFO Try.prog 84 9 K = K 32 := xFO_of fO_84_9 K
theorem fO_84_10 : fOff Try.prog 84 10 = some 33 := by kernel_rfl
@[go_sem ↓] theorem xFO_84_10 (K : Nat → Prop) : xFO Try.prog 84 10 K = K 33 := xFO_of fO_84_10 K
theorem fO_87_0 : fOff Try.prog 87 0 = some 0 := by kernel_rfl
@[go_sem ↓] theorem xFO_87_0 (K : Nat → Prop) : xFO Try.prog 87 0 K = K 0 := xFO_of fO_87_0 K
theorem fO_87_1 : fOff Try.prog 87 1 = some 1 := by kernel_rfl
@[go_sem ↓] theorem xFO_87_1 (K : Nat → Prop) : xFO Try.prog 87 1 K = K 1 := xFO_of fO_87_1 K
theorem fO_89_0 : fOff Try.prog 89 0 = some 0 := by kernel_rfl
@[go_sem ↓] theorem xFO_89_0 (K : Nat → Prop) : xFO Try.prog 89 0 K = K 0 := xFO_of fO_89_0 K
theorem fO_93_0 : fOff Try.prog 93 0 = some 0 := by kernel_rfl
@[go_sem ↓] theorem xFO_93_0 (K : Nat → Prop) : xFO Try.prog 93 0 K = K 0 := xFO_of fO_93_0 K
theorem fO_93_1 : fOff Try.prog 93 1 = some 1 := by kernel_rfl
@[go_sem ↓] theorem xFO_93_1 (K : Nat → Prop) : xFO Try.prog 93 1 K = K 1 := xFO_of fO_93_1 K
theorem fO_93_2 : fOff Try.prog 93 2 = some 2 := by kernel_rfl
@[go_sem ↓] theorem xFO_93_2 (K : Nat → Prop) : xFO Try.prog 93 2 K = K 2 := xFO_of fO_93_2 K
theorem fO_93_3 : fOff Try.prog 93 3 = some 3 := by kernel_rfl
@[go_sem ↓] theorem xFO_93_3 (K : Nat → Prop) : xFO Try.prog 93 3 K = K 3 := xFO_of fO_93_3 K
theorem fO_93_4 : fOff Try.prog 93 4 = some 4 := by kernel_rfl
@[go_sem ↓] theorem xFO_93_4 (K : Nat → Prop) : xFO Try.prog 93 4 K = K 4 := xFO_of fO_93_4 K
theorem fO_93_5 : fOff Try.prog 93 5 = some 5 := by kernel_rfl
@[go_sem ↓] theorem xFO_93_5 (K : Nat → Prop) : xFO Try.prog 93 5 K = K 5 := xFO_of fO_93_5 K
theorem fO_93_6 : fOff Try.prog 93 6 = some 6 := by kernel_rfl
@[go_sem ↓] theorem xFO_93_6 (K : Nat → Prop) : xFO Try.prog 93 6 K = K 6 := xFO_of fO_93_6 K
theorem fO_93_7 : fOff Try.prog 93 7 = some 7 := by kernel_rfl
@[go_sem ↓] theorem xFO_93_7 (K : Nat → Prop) : xFO Try.prog 93 7 K = K 7 := xFO_of fO_93_7 K
theorem fO_93_8 : fOff Try.prog 93 8 = some 8 := by kernel_rfl
@[go_sem ↓] theorem xFO_93_8 (K : Nat → Prop) : xFO Try.prog 93 8 K = K 8 := xFO_of fO_93_8 K
theorem fO_93_9 : fOff Try.prog 93 9 = some 9 := by kernel_rfl
@[go_sem ↓] theorem xFO_93_9 (K : Nat → Prop) : xFO Try.prog 93 9 K = K 9 := xFO_of fO_93_9 K
theorem fO_93_10 : fOff Try.prog 93 10 = some 10 := by kernel_rfl
@[go_sem ↓] theorem xFO_93_10 (K : Nat → Prop) : xFO Try.prog 93 10 K = K 10 := xFO_of fO_93_10 K
theorem fO_93_11 : fOff Try.prog 93 11 = some 11 := by kernel_rfl
@[go_sem ↓] theorem xFO_93_11 (K : Nat → Prop) : xFO Try.prog 93 11 K = K 11 := xFO_of fO_93_11 K
theorem fO_93_12 : fOff Try.prog 93 12 = some 12 := by kernel_rfl
@[go_sem ↓] theorem xFO_93_12 (K : Nat → Prop) : xFO Try.prog 93 12 K = K 12 := xFO_of fO_93_12 K
theorem fO_93_13 : fOff Try.prog 93 13 = some 13 := by kernel_rfl
@[go_sem ↓] theorem xFO_93_13 (K : Nat → Prop) : xFO Try.prog 93 13 K = K 13 := xFO_of fO_93_13 K
theorem fO_93_14 : fOff Try.prog 93 14 = some 14 := by kernel_rfl
@[go_sem ↓] theorem xFO_93_14 (K : Nat → Prop) : xFO Try.prog 93 14 K = K 14 := xFO_of fO_93_14 K
theorem fO_93_15 : fOff Try.prog 93 15 = some 15 := by kernel_rfl
@[go_sem ↓] theorem xFO_93_15 (K : Nat → Prop) : xFO Try.prog 93 15 K = K 15 := xFO_of fO_93_15 K
theorem fO_93_16 : fOff Try.prog 93 16 = some 16 := by kernel_rfl
@[go_sem ↓] theorem xFO_93_16 (K : Nat → Prop) : xFO Try.prog 93 16 K = K 16 := xFO_of fO_93_16 K
theorem fO_93_17 : fOff Try.prog 93 17 = some 17 := by kernel_rfl
@[go_sem ↓] theorem xFO_93_17 (K : Nat → Prop) : xFO Try.prog 93 17 K = K 17 := xFO_of fO_93_17 K
theorem fO_93_18 : fOff Try.prog 93 18 = some 18 := by kernel_rfl
@[go_sem ↓] theorem xFO_93_18 (K : Nat → Prop) : xFO Try.prog 93 18 K = K 18 := xFO_of fO_93_18 K
theorem fO_93_19 : fOff Try.prog 93 19 = some 19 := by kernel_rfl
@[go_sem ↓] theorem xFO_93_19 (K : Nat → Prop) : xFO Try.prog 93 19 K = K 19 := xFO_of fO_93_19 K
theorem fO_93_20 : fOff Try.prog 93 20 = some 20 := by kernel_rfl
@[go_sem ↓] theorem xFO_93_20 (K : Nat → Prop) : xFO Try.prog 93 20 K = K 20 := xFO_of fO_93_20 K
theorem fO_93_21 : fOff Try.prog 93 21 = some 21 := by kernel_rfl
@[go_sem ↓] theorem xFO_93_21 (K : Nat → Prop) : xFO Try.prog 93 21 K = K 21 := xFO_of fO_93_21 K
theorem fO_93_22 : fOff Try.prog 93 22 = some 22 := by kernel_rfl
@[go_sem ↓] theorem xFO_93_22 (K : Nat → Prop) : xFO Try.prog 93 22 K = K 22 := xFO_of fO_93_22 K
theorem fO_93_23 : fOff Try.prog 93 23 = some 23 := by kernel_rfl
@[go_sem ↓] theorem xFO_93_23 (K : Nat → Prop) : xFO Try.prog 93 23 K = K 23 := xFO_of fO_93_23 K
theorem fO_95_0 : fOff Try.prog 95 0 = some 0 := by kernel_rfl
@[go_sem ↓] theorem xFO_95_0 (K : Nat → Prop) : xFO Try.prog 95 0 K = K 0 := xFO_of fO_95_0 K
theorem fO_95_1 : fOff Try.prog 95 1 = some 1 := by kernel_rfl
@[go_sem ↓] theorem xFO_95_1 (K : Nat → Prop) : xFO Try.prog 95 1 K = K 1 := xFO_of fO_95_1 K
theorem fO_95_2 : fOff Try.prog 95 2 = some 2 := by kernel_rfl
@[go_sem ↓] theorem xFO_95_2 (K : Nat → Prop) : xFO Try.prog 95 2 K = K 2 := xFO_of fO_95_2 K
theorem fO_95_3 : fOff Try.prog 95 3 = some 3 := by kernel_rfl
@[go_sem ↓] theorem xFO_95_3 (K : Nat → Prop) : xFO Try.prog 95 3 K = K 3 := xFO_of fO_95_3 K
theorem fO_95_4 : fOff Try.prog 95 4 = some 4 := by kernel_rfl
@[go_sem ↓] theorem xFO_95_4 (K : Nat → Prop) : xFO Try.prog 95 4 K = K 4 := xFO_of fO_95_4 K
theorem fO_95_5 : fOff Try.prog 95 5 = some 5 := by kernel_rfl
@[go_sem ↓] theorem xFO_95_5 (K : Nat → Prop) : xFO Try.prog 95 5 K = K 5 := xFO_of fO_95_5 K
theorem fO_95_6 : fOff Try.prog 95 6 = some 6 := by kernel_rfl
@[go_sem ↓] theorem xFO_95_6 (K : Nat → Prop) : xFO Try.prog 95 6 K = K 6 := xFO_of fO_95_6 K
theorem fO_95_7 : fOff Try.prog 95 7 = some 7 := by kernel_rfl
@[go_sem ↓] theorem xFO_95_7 (K : Nat → Prop) : xFO Try.prog 95 7 K = K 7 := xFO_of fO_95_7 K
theorem fO_95_8 : fOff Try.prog 95 8 = some 8 := by kernel_rfl
@[go_sem ↓] theorem xFO_95_8 (K : Nat → Prop) : xFO Try.prog 95 8 K = K 8 := xFO_of fO_95_8 K
theorem fO_95_9 : fOff Try.prog 95 9 = some 32 := by kernel_rfl
@[go_sem ↓] theorem xFO_95_9 (K : Nat → Prop) : xFO Try.prog 95 9 K = K 32 := xFO_of fO_95_9 K
theorem fO_95_10 : fOff Try.prog 95 10 = some 33 := by kernel_rfl
@[go_sem ↓] theorem xFO_95_10 (K : Nat → Prop) : xFO Try.prog 95 10 K = K 33 := xFO_of fO_95_10 K
theorem fO_133_0 : fOff Try.prog 133 0 = some 0 := by kernel_rfl
@[go_sem ↓] theorem xFO_133_0 (K : Nat → Prop) : xFO Try.prog 133 0 K = K 0 := xFO_of fO_133_0 K
theorem fO_133_1 : fOff Try.prog 133 1 = some 1 := by kernel_rfl
@[go_sem ↓] theorem xFO_133_1 (K : Nat → Prop) : xFO Try.prog 133 1 K = K 1 := xFO_of fO_133_1 K
theorem fO_133_2 : fOff Try.prog 133 2 = some 2 := by kernel_rfl
@[go_sem ↓] theorem xFO_133_2 (K : Nat → Prop) : xFO Try.prog 133 2 K = K 2 := xFO_of fO_133_2 K
theorem fO_135_0 : fOff Try.prog 135 0 = some 0 := by kernel_rfl
@[go_sem ↓] theorem xFO_135_0 (K : Nat → Prop) : xFO Try.prog 135 0 K = K 0 := xFO_of fO_135_0 K
theorem fO_135_1 : fOff Try.prog 135 1 = some 3 := by kernel_rfl
@[go_sem ↓] theorem xFO_135_1 (K : Nat → Prop) : xFO Try.prog 135 1 K = K 3 := xFO_of fO_135_1 K
theorem fO_135_2 : fOff Try.prog 135 2 = some 4 := by kernel_rfl
@[go_sem ↓] theorem xFO_135_2 (K : Nat → Prop) : xFO Try.prog 135 2 K = K 4 := xFO_of fO_135_2 K
theorem fO_139_0 : fOff Try.prog 139 0 = some 0 := by kernel_rfl
@[go_sem ↓] theorem xFO_139_0 (K : Nat → Prop) : xFO Try.prog 139 0 K = K 0 := xFO_of fO_139_0 K
theorem fO_139_1 : fOff Try.prog 139 1 = some 1 := by kernel_rfl
@[go_sem ↓] theorem xFO_139_1 (K : Nat → Prop) : xFO Try.prog 139 1 K = K 1 := xFO_of fO_139_1 K
theorem fO_139_2 : fOff Try.prog 139 2 = some 2 := by kernel_rfl
@[go_sem ↓] theorem xFO_139_2 (K : Nat → Prop) : xFO Try.prog 139 2 K = K 2 := xFO_of fO_139_2 K
theorem fO_146_0 : fOff Try.prog 146 0 = some 0 := by kernel_rfl
@[go_sem ↓] theorem xFO_146_0 (K : Nat → Prop) : xFO Try.prog 146 0 K = K 0 := xFO_of fO_146_0 K
theorem fO_146_1 : fOff Try.prog 146 1 = some 3 := by kernel_rfl
@[go_sem ↓] theorem xFO_146_1 (K : Nat → Prop) : xFO Try.prog 146 1 K = K 3 := xFO_of fO_146_1 K
theorem fO_146_2 : fOff Try.prog 146 2 = some 4 := by kernel_rfl
@[go_sem ↓] theorem xFO_146_2 (K : Nat → Prop) : xFO Try.prog 146 2 K = K 4 := xFO_of fO_146_2 K
theorem fO_169_0 : fOff Try.prog 169 0 = some 0 := by kernel_rfl
@[go_sem ↓] theorem xFO_169_0 (K : Nat → Prop) : xFO Try.prog 169 0 K = K 0 := xFO_of fO_169_0 K
theorem fO_169_1 : fOff Try.prog 169 1 = some 1 := by kernel_rfl
@[go_sem ↓] theorem xFO_169_1 (K : Nat → Prop) : xFO Try.prog 169 1 K = K 1 := xFO_of fO_169_1 K
theorem fO_177_0 : fOff Try.prog 177 0 = some 0 := by kernel_rfl
@[go_sem ↓] theorem xFO_177_0 (K : Nat → Prop) : xFO Try.prog 177 0 K = K 0 := xFO_of fO_177_0 K
theorem fO_188_0 : fOff Try.prog 188 0 = some 0 := by kernel_rfl
@[go_sem ↓] theorem xFO_188_0 (K : Nat → Prop) : xFO Try.prog 188 0 K = K 0 := xFO_of fO_188_0 K
theorem fO_188_1 : fOff Try.prog 188 1 = some 1 := by kernel_rfl
@[go_sem ↓] theorem xFO_188_1 (K : Nat → Prop) : xFO Try.prog 188 1 K = K 1 := xFO_of fO_188_1 K
theorem fO_193_0 : fOff Try.prog 193 0 = some 0 := by kernel_rfl
@[go_sem ↓] theorem xFO_193_0 (K : Nat → Prop) : xFO Try.prog 193 0 K = K 0 := xFO_of fO_193_0 K
theorem fO_193_1 : fOff Try.prog 193 1 = some 2 := by kernel_rfl
@[go_sem ↓] theorem xFO_193_1 (K : Nat → Prop) : xFO Try.prog 193 1 K = K 2 := xFO_of fO_193_1 K
@[go_sem] theorem tSh_22 : tSh Try.prog 22 = .sl 28 1 8 := by kernel_rfl
@[go_sem] theorem tSh_23 : tSh Try.prog 23 = .sl 5 1 1 := by kernel_rfl
@[go_sem] theorem tSh_53 : tSh Try.prog 53 = .sl 23 1 24 := by kernel_rfl
@[go_sem] theorem tSh_59 : tSh Try.prog 59 = .sl 3 1 8 := by kernel_rfl
@[go_sem] theorem tSh_69 : tSh Try.prog 69 = .sl 4 1 1 := by kernel_rfl
@[go_sem] theorem tSh_105 : tSh Try.prog 105 = .sl 84 34 288 := by kernel_rfl
@[go_sem] theorem tSh_112 : tSh Try.prog 112 = .sl 95 34 288 := by kernel_rfl
@[go_sem] theorem tSh_117 : tSh Try.prog 117 = .ar 8 3 1 := by kernel_rfl
@[go_sem] theorem tSh_174 : tSh Try.prog 174 = .sl 25 4 64 := by kernel_rfl
@[go_sem] theorem tSh_181 : tSh Try.prog 181 = .sl 5 1 1 := by kernel_rfl
@[go_sem] theorem tSh_207 : tSh Try.prog 207 = .sl 210 1 8 := by kernel_rfl
@[go_sem] theorem tSh_211 : tSh Try.prog 211 = .sl 213 1 8 := by kernel_rfl
@[go_sem ↓] theorem xSlh_22 (a : Option Addr) (n c : Nat) (k : IntKind) (j : Int) (h0 : 0 ≤ j) (h1 : j ≤ (c : Int)) (K : Value → Prop) : xSl Try.prog 22 (.slice a n c) none (some (.int k j)) none K = K (.slice a j.toNat c) := xSl_hi tSh_22 a n c k j h0 h1 K
@[go_sem ↓] theorem xSlh_23 (a : Option Addr) (n c : Nat) (k : IntKind) (j : Int) (h0 : 0 ≤ j) (h1 : j ≤ (c : Int)) (K : Value → Prop) : xSl Try.prog 23 (.slice a n c) none (some (.int k j)) none K = K (.slice a j.toNat c) := xSl_hi tSh_23 a n c k j h0 h1 K
@[go_sem ↓] theorem xSlh_53 (a : Option Addr) (n c : Nat) (k : IntKind) (j : Int) (h0 : 0 ≤ j) (h1 : j ≤ (c : Int)) (K : Value → Prop) : xSl Try.prog 53 (.slice a n c) none (some (.int k j)) none K = K (.slice a j.toNat c) := xSl_hi tSh_53 a n c k j h0 h1 K
@[go_sem ↓] theorem xSlh_59 (a : Option Addr) (n c : Nat) (k : IntKind) (j : Int) (h0 : 0 ≤ j) (h1 : j ≤ (c : Int)) (K : Value → Prop) : xSl Try.prog 59 (.slice a n c) none (some (.int k j)) none K = K (.slice a j.toNat c) := xSl_hi tSh_59 a n c k j h0 h1 K
@[go_sem ↓] theorem xSlh_69 (a : Option Addr) (n c : Nat) (k : IntKind) (j : Int) (h0 : 0 ≤ j) (h1 : j ≤ (c : Int)) (K : Value → Prop) : xSl Try.prog 69 (.slice a n c) none (some (.int k j)) none K = K (.slice a j.toNat c) := xSl_hi tSh_69 a n c k j h0 h1 K
@[go_sem ↓] theorem xSlh_105 (a : Option Addr) (n c : Nat) (k : IntKind) (j : Int) (h0 : 0 ≤ j) (h1 : j ≤ (c : Int)) (K : Value → Prop) : xSl Try.prog 105 (.slice a n c) none (some (.int k j)) none K = K (.slice a j.toNat c) := xSl_hi tSh_105 a n c k j h0 h1 K
@[go_sem ↓] theorem xSlh_112 (a : Option Addr) (n c : Nat) (k : IntKind) (j : Int) (h0 : 0 ≤ j) (h1 : j ≤ (c : Int)) (K : Value → Prop) : xSl Try.prog 112 (.slice a n c) none (some (.int k j)) none K = K (.slice a j.toNat c) := xSl_hi tSh_112 a n c k j h0 h1 K
@[go_sem ↓] theorem xSlh_174 (a : Option Addr) (n c : Nat) (k : IntKind) (j : Int) (h0 : 0 ≤ j) (h1 : j ≤ (c : Int)) (K : Value → Prop) : xSl Try.prog 174 (.slice a n c) none (some (.int k j)) none K = K (.slice a j.toNat c) := xSl_hi tSh_174 a n c k j h0 h1 K
@[go_sem ↓] theorem xSlh_181 (a : Option Addr) (n c : Nat) (k : IntKind) (j : Int) (h0 : 0 ≤ j) (h1 : j ≤ (c : Int)) (K : Value → Prop) : xSl Try.prog 181 (.slice a n c) none (some (.int k j)) none K = K (.slice a j.toNat c) := xSl_hi tSh_181 a n c k j h0 h1 K
@[go_sem ↓] theorem xSlh_207 (a : Option Addr) (n c : Nat) (k : IntKind) (j : Int) (h0 : 0 ≤ j) (h1 : j ≤ (c : Int)) (K : Value → Prop) : xSl Try.prog 207 (.slice a n c) none (some (.int k j)) none K = K (.slice a j.toNat c) := xSl_hi tSh_207 a n c k j h0 h1 K
@[go_sem ↓] theorem xSlh_211 (a : Option Addr) (n c : Nat) (k : IntKind) (j : Int) (h0 : 0 ≤ j) (h1 : j ≤ (c : Int)) (K : Value → Prop) : xSl Try.prog 211 (.slice a n c) none (some (.int k j)) none K = K (.slice a j.toNat c) := xSl_hi tSh_211 a n c k j h0 h1 K
@[go_sem ↓] theorem xBeq_22 (x y : Operand) (a : Option Addr) (n c : Nat) (K : Value → Prop) : xBin Try.prog .eql 22 x y (.slice a n c) (.slice none 0 0) K = K (.bool a.isNone) := xBin_eqnil tSh_22 x y a n c K
@[go_sem ↓] theorem xBne_22 (x y : Operand) (a : Option Addr) (n c : Nat) (K : Value → Prop) : xBin Try.prog .neq 22 x y (.slice a n c) (.slice none 0 0) K = K (.bool (!a.isNone)) := xBin_nenil tSh_22 x y a n c K
@[go_sem ↓] theorem xBeq_23 (x y : Operand) (a : Option Addr) (n c : Nat) (K : Value → Prop) : xBin Try.prog .eql 23 x y (.slice a n c) (.slice none 0 0) K = K (.bool a.isNone) := xBin_eqnil tSh_23 x y a n c K
@[go_sem ↓] theorem xBne_23 (x y : Operand) (a : Option Addr) (n c : Nat) (K : Value → Prop) : xBin Try.prog .neq 23 x y (.slice a n c) (.slice none 0 0) K = K (.bool (!a.isNone)) := xBin_nenil tSh_23 x y a n c K
@[go_sem ↓] theorem xBeq_53 (x y : Operand) (a : Option Addr) (n c : Nat) (K : Value → Prop) : xBin Try.prog .eql 53 x y (.slice a n c) (.slice none 0 0) K = K (.bool a.isNone) := xBin_eqnil tSh_53 x y a n c K
@[go_sem ↓] theorem xBne_53 (x y : Operand) (a : Option Addr) (n c : Nat) (K : Value → Prop) : xBin Try.prog .neq 53 x y (.slice a n c) (.slice none 0 0) K = K (.bool (!a.isNone)) := xBin_nenil tSh_53 x y a n c K
@[go_sem ↓] theorem xBeq_59 (x y : Operand) (a : Option Addr) (n c : Nat) (K : Value → Prop) : xBin Try.prog .eql 59 x y (.slice a n c) (.slice none 0 0) K = K (.bool a.isNone) := xBin_eqnil tSh_59 x y a n c K
@[go_sem ↓] theorem xBne_59 (x y : Operand) (a : Option Addr) (n c : Nat) (K : Value → Prop) : xBin Try.prog .neq 59 x y (.slice a n c) (.slice none 0 0) K = K (.bool (!a.isNone)) := xBin_nenil tSh_59 x y a n c K
@[go_sem ↓] theorem xBeq_69 (x y : Operand) (a : Option Addr) (n c : Nat) (K : Value → Prop) : xBin Try.prog .eql 69 x y (.slice a n c) (.slice none 0 0) K = K (.bool a.isNone) := xBin_eqnil tSh_69 x y a n c K
@[go_sem ↓] theorem xBne_69 (x y : Operand) (a : Option Addr) (n c : Nat) (K : Value → Prop) : xBin Try.prog .neq 69 x y (.slice a n c) (.slice none 0 0) K = K (.bool (!a.isNone)) := xBin_nenil tSh_69 x y a n c K
@[go_sem ↓] theorem xBeq_105 (x y : Operand) (a : Option Addr) (n c : Nat) (K : Value → Prop) : xBin Try.prog .eql 105 x y (.slice a n c) (.slice none 0 0) K = K (.bool a.isNone) := xBin_eqnil tSh_105 x y a n c K
@[go_sem ↓] theorem xBne_105 (x y : Operand) (a : Option Addr) (n c : Nat) (K : Value → Prop) : xBin Try.prog .neq 105 x y (.slice a n c) (.slice none 0 0) K = K (.bool (!a.isNone)) := xBin_nenil tSh_105 x y a n c K
@[go_sem ↓] theorem xBeq_112 (x y : Operand) (a : Option Addr) (n c : Nat) (K : Value → Prop) : xBin Try.prog .eql 112 x y (.slice a n c) (.slice none 0 0) K = K (.bool a.isNone) := xBin_eqnil tSh_112 x y a n c K
@[go_sem ↓] theorem xBne_112 (x y : Operand) (a : Option Addr) (n c : Nat) (K : Value → Prop) : xBin Try.prog .neq 112 x y (.slice a n c) (.slice none 0 0) K = K (.bool (!a.isNone)) := xBin_nenil tSh_112 x y a n c K
@[go_sem ↓] theorem xBeq_174 (x y : Operand) (a : Option Addr) (n c : Nat) (K : Value → Prop) : xBin Try.prog .eql 174 x y (.slice a n c) (.slice none 0 0) K = K (.bool a.isNone) := xBin_eqnil tSh_174 x y a n c K
@[go_sem ↓] theorem xBne_174 (x y : Operand) (a : Option Addr) (n c : Nat) (K : Value → Prop) : xBin Try.prog .neq 174 x y (.slice a n c) (.slice none 0 0) K = K (.bool (!a.isNone)) := xBin_nenil tSh_174 x y a n c K
@[go_sem ↓] theorem xBeq_181 (x y : Operand) (a : Option Addr) (n c : Nat) (K : Value → Prop) : xBin Try.prog .eql 181 x y (.slice a n c) (.slice none 0 0) K = K (.bool a.isNone) := xBin_eqnil tSh_181 x y a n c K
@[go_sem ↓] theorem xBne_181 (x y : Operand) (a : Option Addr) (n c : Nat) (K : Value → Prop) : xBin Try.prog .neq 181 x y (.slice a n c) (.slice none 0 0) K = K (.bool (!a.isNone)) := xBin_nenil tSh_181 x y a n c K
@[go_sem ↓] theorem xBeq_207 (x y : Operand) (a : Option Addr) (n c : Nat) (K : Value → Prop) : xBin Try.prog .eql 207 x y (.slice a n c) (.slice none 0 0) K = K (.bool a.isNone) := xBin_eqnil tSh_207 x y a n c K
@[go_sem ↓] theorem xBne_207 (x y : Operand) (a : Option Addr) (n c : Nat) (K : Value → Prop) : xBin Try.prog .neq 207 x y (.slice a n c) (.slice none 0 0) K = K (.bool (!a.isNone)) := xBin_nenil tSh_207 x y a n c K
@[go_sem ↓] theorem xBeq_211 (x y : Operand) (a : Option Addr) (n c : Nat) (K : Value → Prop) : xBin Try.prog .eql 211 x y (.slice a n c) (.slice none 0 0) K = K (.bool a.isNone) := xBin_eqnil tSh_211 x y a n c K
@[go_sem ↓] theorem xBne_211 (x y : Operand) (a : Option Addr) (n c : Nat) (K : Value → Prop) : xBin Try.prog .neq 211 x y (.slice a n c) (.slice none 0 0) K = K (.bool (!a.isNone)) := xBin_nenil tSh_211 x y a n c K
@[go_sem ↓] theorem xPeq_15 (x y : Operand) (a : Option Addr) (K : Value → Prop) : xBin Try.prog .eql 15 x y (.pointer a) (.pointer none) K = K (.bool a.isNone) := xBin_eqpnil (T := 15) (e := 222) (by kernel_rfl) x y a K
@[go_sem ↓] theorem xPne_15 (x y : Operand) (a : Option Addr) (K : Value → Prop) : xBin Try.prog .neq 15 x y (.pointer a) (.pointer none) K = K (.bool (!a.isNone)) := xBin_nepnil (T := 15) (e := 222) (by kernel_rfl) x y a K
@[go_sem ↓] theorem xPeq_16 (x y : Operand) (a : Option Addr) (K : Value → Prop) : xBin Try.prog .eql 16 x y (.pointer a) (.pointer none) K = K (.bool a.isNone) := xBin_eqpnil (T := 16) (e := 225) (by kernel_rfl) x y a K
@[go_sem ↓] theorem xPne_16 (x y : Operand) (a : Option Addr) (K : Value → Prop) : xBin Try.prog .neq 16 x y (.pointer a) (.pointer none) K = K (.bool (!a.isNone)) := xBin_nepnil (T := 16) (e := 225) (by kernel_rfl) x y a K
@[go_sem ↓] theorem xPeq_17 (x y : Operand) (a : Option Addr) (K : Value → Prop) : xBin Try.prog .eql 17 x y (.pointer a) (.pointer none) K = K (.bool a.isNone) := xBin_eqpnil (T := 17) (e := 234) (by kernel_rfl) x y a K
@[go_sem ↓] theorem xPne_17 (x y : Operand) (a : Option Addr) (K : Value → Prop) : xBin Try.prog .neq 17 x y (.pointer a) (.pointer none) K = K (.bool (!a.isNone)) := xBin_nepnil (T := 17) (e := 234) (by kernel_rfl) x y a K
@[go_sem ↓] theorem xPeq_67 (x y : Operand) (a : Option Addr) (K : Value → Prop) : xBin Try.prog .eql 67 x y (.pointer a) (.pointer none) K = K (.bool a.isNone) := xBin_eqpnil (T := 67) (e := 146) (by kernel_rfl) x y a K
@[go_sem ↓] theorem xPne_67 (x y : Operand) (a : Option Addr) (K : Value → Prop) : xBin Try.prog .neq 67 x y (.pointer a) (.pointer none) K = K (.bool (!a.isNone)) := xBin_nepnil (T := 67) (e := 146) (by kernel_rfl) x y a K
@[go_sem ↓] theorem xPeq_91 (x y : Operand) (a : Option Addr) (K : Value → Prop) : xBin Try.prog .eql 91 x y (.pointer a) (.pointer none) K = K (.bool a.isNone) := xBin_eqpnil (T := 91) (e := 89) (by kernel_rfl) x y a K
@[go_sem ↓] theorem xPne_91 (x y : Operand) (a : Option Addr) (K : Value → Prop) : xBin Try.prog .neq 91 x y (.pointer a) (.pointer none) K = K (.bool (!a.isNone)) := xBin_nepnil (T := 91) (e := 89) (by kernel_rfl) x y a K
@[go_sem ↓] theorem xPeq_137 (x y : Operand) (a : Option Addr) (K : Value → Prop) : xBin Try.prog .eql 137 x y (.pointer a) (.pointer none) K = K (.bool a.isNone) := xBin_eqpnil (T := 137) (e := 139) (by kernel_rfl) x y a K
@[go_sem ↓] theorem xPne_137 (x y : Operand) (a : Option Addr) (K : Value → Prop) : xBin Try.prog .neq 137 x y (.pointer a) (.pointer none) K = K (.bool (!a.isNone)) := xBin_nepnil (T := 137) (e := 139) (by kernel_rfl) x y a K
@[go_sem ↓] theorem xPeq_153 (x y : Operand) (a : Option Addr) (K : Value → Prop) : xBin Try.prog .eql 153 x y (.pointer a) (.pointer none) K = K (.bool a.isNone) := xBin_eqpnil (T := 153) (e := 193) (by kernel_rfl) x y a K
@[go_sem ↓] theorem xPne_153 (x y : Operand) (a : Option Addr) (K : Value → Prop) : xBin Try.prog .neq 153 x y (.pointer a) (.pointer none) K = K (.bool (!a.isNone)) := xBin_nepnil (T := 153) (e := 193) (by kernel_rfl) x y a K
@[go_sem ↓] theorem xPeq_167 (x y : Operand) (a : Option Addr) (K : Value → Prop) : xBin Try.prog .eql 167 x y (.pointer a) (.pointer none) K = K (.bool a.isNone) := xBin_eqpnil (T := 167) (e := 169) (by kernel_rfl) x y a K
@[go_sem ↓] theorem xPne_167 (x y : Operand) (a : Option Addr) (K : Value → Prop) : xBin Try.prog .neq 167 x y (.pointer a) (.pointer none) K = K (.bool (!a.isNone)) := xBin_nepnil (T := 167) (e := 169) (by kernel_rfl) x y a K
@[go_sem ↓] theorem xPeq_172 (x y : Operand) (a : Option Addr) (K : Value → Prop) : xBin Try.prog .eql 172 x y (.pointer a) (.pointer none) K = K (.bool a.isNone) := xBin_eqpnil (T := 172) (e := 84) (by kernel_rfl) x y a K
@[go_sem ↓] theorem xPne_172 (x y : Operand) (a : Option Addr) (K : Value → Prop) : xBin Try.prog .neq 172 x y (.pointer a) (.pointer none) K = K (.bool (!a.isNone)) := xBin_nepnil (T := 172) (e := 84) (by kernel_rfl) x y a K
@[go_sem ↓] theorem xPeq_197 (x y : Operand) (a : Option Addr) (K : Value → Prop) : xBin Try.prog .eql 197 x y (.pointer a) (.pointer none) K = K (.bool a.isNone) := xBin_eqpnil (T := 197) (e := 87) (by kernel_rfl) x y a K
@[go_sem ↓] theorem xPne_197 (x y : Operand) (a : Option Addr) (K : Value → Prop) : xBin Try.prog .neq 197 x y (.pointer a) (.pointer none) K = K (.bool (!a.isNone)) := xBin_nepnil (T := 197) (e := 87) (by kernel_rfl) x y a K
@[go_sem ↓] theorem xPeq_209 (x y : Operand) (a : Option Addr) (K : Value → Prop) : xBin Try.prog .eql 209 x y (.pointer a) (.pointer none) K = K (.bool a.isNone) := xBin_eqpnil (T := 209) (e := 82) (by kernel_rfl) x y a K
@[go_sem ↓] theorem xPne_209 (x y : Operand) (a : Option Addr) (K : Value → Prop) : xBin Try.prog .neq 209 x y (.pointer a) (.pointer none) K = K (.bool (!a.isNone)) := xBin_nepnil (T := 209) (e := 82) (by kernel_rfl) x y a K
@[go_sem ↓] theorem xPeq_210 (x y : Operand) (a : Option Addr) (K : Value → Prop) : xBin Try.prog .eql 210 x y (.pointer a) (.pointer none) K = K (.bool a.isNone) := xBin_eqpnil (T := 210) (e := 28) (by kernel_rfl) x y a K
@[go_sem ↓] theorem xPne_210 (x y : Operand) (a : Option Addr) (K : Value → Prop) : xBin Try.prog .neq 210 x y (.pointer a) (.pointer none) K = K (.bool (!a.isNone)) := xBin_nepnil (T := 210) (e := 28) (by kernel_rfl) x y a K
@[go_sem ↓] theorem xPeq_213 (x y : Operand) (a : Option Addr) (K : Value → Prop) : xBin Try.prog .eql 213 x y (.pointer a) (.pointer none) K = K (.bool a.isNone) := xBin_eqpnil (T := 213) (e := 3) (by kernel_rfl) x y a K
@[go_sem ↓] theorem xPne_213 (x y : Operand) (a : Option Addr) (K : Value → Prop) : xBin Try.prog .neq 213 x y (.pointer a) (.pointer none) K = K (.bool (!a.isNone)) := xBin_nepnil (T := 213) (e := 3) (by kernel_rfl) x y a K
@[go_sem ↓] theorem xPeq_230 (x y : Operand) (a : Option Addr) (K : Value → Prop) : xBin Try.prog .eql 230 x y (.pointer a) (.pointer none) K = K (.bool a.isNone) := xBin_eqpnil (T := 230) (e := 5) (by kernel_rfl) x y a K
@[go_sem ↓] theorem xPne_230 (x y : Operand) (a : Option Addr) (K : Value → Prop) : xBin Try.prog .neq 230 x y (.pointer a) (.pointer none) K = K (.bool (!a.isNone)) := xBin_nepnil (T := 230) (e := 5) (by kernel_rfl) x y a K
@[go_sem ↓] theorem xSlm_22 (a : Option Addr) (n c : Nat) (k l : IntKind) (i j : Int) (h0 : 0 ≤ i) (h1 : i ≤ j) (h2 : j ≤ (c : Int)) (K : Value → Prop) : xSl Try.prog 22 (.slice a n c) (some (.int k i)) (some (.int l j)) none K = K (.slice (cutA a c i.toNat 1) (j.toNat - i.toNat) (c - i.toNat)) := xSl_mid tSh_22 a n c k l i j h0 h1 h2 K
@[go_sem ↓] theorem xSlm_23 (a : Option Addr) (n c : Nat) (k l : IntKind) (i j : Int) (h0 : 0 ≤ i) (h1 : i ≤ j) (h2 : j ≤ (c : Int)) (K : Value → Prop) : xSl Try.prog 23 (.slice a n c) (some (.int k i)) (some (.int l j)) none K = K (.slice (cutA a c i.toNat 1) (j.toNat - i.toNat) (c - i.toNat)) := xSl_mid tSh_23 a n c k l i j h0 h1 h2 K
@[go_sem ↓] theorem xSlm_53 (a : Option Addr) (n c : Nat) (k l : IntKind) (i j : Int) (h0 : 0 ≤ i) (h1 : i ≤ j) (h2 : j ≤ (c : Int)) (K : Value → Prop) : xSl Try.prog 53 (.slice a n c) (some (.int k i)) (some (.int l j)) none K = K (.slice (cutA a c i.toNat 1) (j.toNat - i.toNat) (c - i.toNat)) := xSl_mid tSh_53 a n c k l i j h0 h1 h2 K
@[go_sem ↓] theorem xSlm_59 (a : Option Addr) (n c : Nat) (k l : IntKind) (i j : Int) (h0 : 0 ≤ i) (h1 : i ≤ j) (h2 : j ≤ (c : Int)) (K : Value → Prop) : xSl Try.prog 59 (.slice a n c) (some (.int k i)) (some (.int l j)) none K = K (.slice (cutA a c i.toNat 1) (j.toNat - i.toNat) (c - i.toNat)) := xSl_mid tSh_59 a n c k l i j h0 h1 h2 K
@[go_sem ↓] theorem xSlm_69 (a : Option Addr) (n c : Nat) (k l : IntKind) (i j : Int) (h0 : 0 ≤ i) (h1 : i ≤ j) (h2 : j ≤ (c : Int)) (K : Value → Prop) : xSl Try.prog 69 (.slice a n c) (some (.int k i)) (some (.int l j)) none K = K (.slice (cutA a c i.toNat 1) (j.toNat - i.toNat) (c - i.toNat)) := xSl_mid tSh_69 a n c k l i j h0 h1 h2 K
@[go_sem ↓] theorem xSlm_105 (a : Option Addr) (n c : Nat) (k l : IntKind) (i j : Int) (h0 : 0 ≤ i) (h1 : i ≤ j) (h2 : j ≤ (c : Int)) (K : Value → Prop) : xSl Try.prog 105 (.slice a n c) (some (.int k i)) (some (.int l j)) none K = K (.slice (cutA a c i.toNat 34) (j.toNat - i.toNat) (c - i.toNat)) := xSl_mid tSh_105 a n c k l i j h0 h1 h2 K
@[go_sem ↓] theorem xSlm_112 (a : Option Addr) (n c : Nat) (k l : IntKind) (i j : Int) (h0 : 0 ≤ i) (h1 : i ≤ j) (h2 : j ≤ (c : Int)) (K : Value → Prop) : xSl Try.prog 112 (.slice a n c) (some (.int k i)) (some (.int l j)) none K = K (.slice (cutA a c i.toNat 34) (j.toNat - i.toNat) (c - i.toNat)) := xSl_mid tSh_112 a n c k l i j h0 h1 h2 K
@[go_sem ↓] theorem xSlm_174 (a : Option Addr) (n c : Nat) (k l : IntKind) (i j : Int) (h0 : 0 ≤ i) (h1 : i ≤ j) (h2 : j ≤ (c : Int)) (K : Value → Prop) : xSl Try.prog 174 (.slice a n c) (some (.int k i)) (some (.int l j)) none K = K (.slice (cutA a c i.toNat 4) (j.toNat - i.toNat) (c - i.toNat)) := xSl_mid tSh_174 a n c k l i j h0 h1 h2 K
@[go_sem ↓] theorem xSlm_181 (a : Option Addr) (n c : Nat) (k l : IntKind) (i j : Int) (h0 : 0 ≤ i) (h1 : i ≤ j) (h2 : j ≤ (c : Int)) (K : Value → Prop) : xSl Try.prog 181 (.slice a n c) (some (.int k i)) (some (.int l j)) none K = K (.slice (cutA a c i.toNat 1) (j.toNat - i.toNat) (c - i.toNat)) := xSl_mid tSh_181 a n c k l i j h0 h1 h2 K
@[go_sem ↓] theorem xSlm_207 (a : Option Addr) (n c : Nat) (k l : IntKind) (i j : Int) (h0 : 0 ≤ i) (h1 : i ≤ j) (h2 : j ≤ (c : Int)) (K : Value → Prop) : xSl Try.prog 207 (.slice a n c) (some (.int k i)) (some (.int l j)) none K = K (.slice (cutA a c i.toNat 1) (j.toNat - i.toNat) (c - i.toNat)) := xSl_mid tSh_207 a n c k l i j h0 h1 h2 K
@[go_sem ↓] theorem xSlm_211 (a : Option Addr) (n c : Nat) (k l : IntKind) (i j : Int) (h0 : 0 ≤ i) (h1 : i ≤ j) (h2 : j ≤ (c : Int)) (K : Value → Prop) : xSl Try.prog 211 (.slice a n c) (some (.int k i)) (some (.int l j)) none K = K (.slice (cutA a c i.toNat 1) (j.toNat - i.toNat) (c - i.toNat)) := xSl_mid tSh_211 a n c k l i j h0 h1 h2 K
@[go_sem ↓] theorem xLen_22 (ty : Nat) (a : Option Addr) (n c : Nat) (K : Value → Prop) : xLen Try.prog ty #[22] (.slice a n c) K = K (.int .i64 n) := xLen_slice (T := 22) (e := 28) (by kernel_rfl) a n c
@[go_sem ↓] theorem xLen_23 (ty : Nat) (a : Option Addr) (n c : Nat) (K : Value → Prop) : xLen Try.prog ty #[23] (.slice a n c) K = K (.int .i64 n) := xLen_slice (T := 23) (e := 5) (by kernel_rfl) a n c
@[go_sem ↓] theorem xLen_53 (ty : Nat) (a : Option Addr) (n c : Nat) (K : Value → Prop) : xLen Try.prog ty #[53] (.slice a n c) K = K (.int .i64 n) := xLen_slice (T := 53) (e := 23) (by kernel_rfl) a n c
@[go_sem ↓] theorem xLen_59 (ty : Nat) (a : Option Addr) (n c : Nat) (K : Value → Prop) : xLen Try.prog ty #[59] (.slice a n c) K = K (.int .i64 n) := xLen_slice (T := 59) (e := 3) (by kernel_rfl) a n c
@[go_sem ↓] theorem xLen_69 (ty : Nat) (a : Option Addr) (n c : Nat) (K : Value → Prop) : xLen Try.prog ty #[69] (.slice a n c) K = K (.int .i64 n) := xLen_slice (T := 69) (e := 4) (by kernel_rfl) a n c
@[go_sem ↓] theorem xLen_105 (ty : Nat) (a : Option Addr) (n c : Nat) (K : Value → Prop) : xLen Try.prog ty #[105] (.slice a n c) K = K (.int .i64 n) := xLen_slice (T := 105) (e := 84) (by kernel_rfl) a n c
@[go_sem ↓] theorem xLen_112 (ty : Nat) (a : Option Addr) (n c : Nat) (K : Value → Prop) : xLen Try.prog ty #[112] (.slice a n c) K = K (.int .i64 n) := xLen_slice (T := 112) (e := 95) (by kernel_rfl) a n c
@[go_sem ↓] theorem xLen_174 (ty : Nat) (a : Option Addr) (n c : Nat) (K : Value → Prop) : xLen Try.prog ty #[174] (.slice a n c) K = K (.int .i64 n) := xLen_slice (T := 174) (e := 25) (by kernel_rfl) a n c
@[go_sem ↓] theorem xLen_181 (ty : Nat) (a : Option Addr) (n c : Nat) (K : Value → Prop) : xLen Try.prog ty #[181] (.slice a n c) K = K (.int .i64 n) := xLen_slice (T := 181) (e := 5) (by kernel_rfl) a n c
@[go_sem ↓] theorem xLen_207 (ty : Nat) (a : Option Addr) (n c : Nat) (K : Value → Prop) : xLen Try.prog ty #[207] (.slice a n c) K = K (.int .i64 n) := xLen_slice (T := 207) (e := 210) (by kernel_rfl) a n c
@[go_sem ↓] theorem xLen_211 (ty : Nat) (a : Option Addr) (n c : Nat) (K : Value → Prop) : xLen Try.prog ty #[211] (.slice a n c) K = K (.int .i64 n) := xLen_slice (T := 211) (e := 213) (by kernel_rfl) a n c
@[go_sem ↓] theorem xBb_4 (x y : Operand) (a b : Bool) (K : Value → Prop) : xBin Try.prog .eql 4 x y (.bool a) (.bool b) K = K (.bool (a == b)) := xBin_eqbool (T := 4) (by kernel_rfl) x y a b K
@[go_sem ↓] theorem xBn_4 (x y : Operand) (a b : Bool) (K : Value → Prop) : xBin Try.prog .neq 4 x y (.bool a) (.bool b) K = K (.bool (!(a == b))) := xBin_nebool (T := 4) (by kernel_rfl) x y a b K
@[go_sem ↓] theorem xConv_3_5 (k : IntKind) (n : Int) (K : Value → Prop) : xConv Try.prog 3 5 (.int k n) K = K (.int .u8 (IntKind.u8.wrap n)) := xConv_int (s := 3) (d := 5) (ks := .i64) (kd := .u8) (by kernel_rfl) (by kernel_rfl) k n
@[go_sem ↓] theorem xConv_3_28 (k : IntKind) (n : Int) (K : Value → Prop) : xConv Try.prog 3 28 (.int k n) K = K (.int .u64 (IntKind.u64.wrap n)) := xConv_int (s := 3) (d := 28) (ks := .i64) (kd := .u64) (by kernel_rfl) (by kernel_rfl) k n
@[go_sem ↓] theorem xConv_3_206 (k : IntKind) (n : Int) (K : Value → Prop) : xConv Try.prog 3 206 (.int k n) K = K (.int .u64 (IntKind.u64.wrap n)) := xConv_int (s := 3) (d := 206) (ks := .i64) (kd := .u64) (by kernel_rfl) (by kernel_rfl) k n
@[go_sem ↓] theorem xConv_5_3 (k : IntKind) (n : Int) (K : Value → Prop) : xConv Try.prog 5 3 (.int k n) K = K (.int .i64 (IntKind.i64.wrap n)) := xConv_int (s := 5) (d := 3) (ks := .u8) (kd := .i64) (by kernel_rfl) (by kernel_rfl) k n
@[go_sem ↓] theorem xConv_5_28 (k : IntKind) (n : Int) (K : Value → Prop) : xConv Try.prog 5 28 (.int k n) K = K (.int .u64 (IntKind.u64.wrap n)) := xConv_int (s := 5) (d := 28) (ks := .u8) (kd := .u64) (by kernel_rfl) (by kernel_rfl) k n
@[go_sem ↓] theorem xConv_28_3 (k : IntKind) (n : Int) (K : Value → Prop) : xConv Try.prog 28 3 (.int k n) K = K (.int .i64 (IntKind.i64.wrap n)) := xConv_int (s := 28) (d := 3) (ks := .u64) (kd := .i64) (by kernel_rfl) (by kernel_rfl) k n
@[go_sem ↓] theorem xConv_28_5 (k : IntKind) (n : Int) (K : Value → Prop) : xConv Try.prog 28 5 (.int k n) K = K (.int .u8 (IntKind.u8.wrap n)) := xConv_int (s := 28) (d := 5) (ks := .u64) (kd := .u8) (by kernel_rfl) (by kernel_rfl) k n
@[go_sem ↓] theorem xConv_206_3 (k : IntKind) (n : Int) (K : Value → Prop) : xConv Try.prog 206 3 (.int k n) K = K (.int .i64 (IntKind.i64.wrap n)) := xConv_int (s := 206) (d := 3) (ks := .u64) (kd := .i64) (by kernel_rfl) (by kernel_rfl) k n
theorem mixed : Try.prog.follows .mixedOrders = true := by kernel_rfl
end Go.X
