/- Part of the proof of a statement about the given program: lemmas and contracts. Conditions: as each says. -/
import Derived.KernelRfl
import Derived.Test.YtemlppiklgeogaaGreatProg
import Derived.Test.YtemlppiklgeogaaGreatQ00
import Derived.Test.YtemlppiklgeogaaGreatQ02
import Derived.Test.YtemlppiklgeogaaGreatQ04
/- Facts on the types of this seat's program, by program: sizes, zero values, fields' places. Conditions: none. -/
set_option linter.unusedVariables false
set_option linter.unusedSimpArgs false
namespace Go.X
open Go.Proofs
theorem tI_3 : tI Tryz.prog 3 = some ⟨1, false, [(.int .i64 0)], 8⟩ := by kernel_rfl
@[go_sem ↓] theorem xTI_3 (K : TI → Prop) : xTI Tryz.prog 3 K = K ⟨1, false, [(.int .i64 0)], 8⟩ := xTI_of tI_3 K
theorem tI_4 : tI Tryz.prog 4 = some ⟨1, false, [(.bool false)], 1⟩ := by kernel_rfl
@[go_sem ↓] theorem xTI_4 (K : TI → Prop) : xTI Tryz.prog 4 K = K ⟨1, false, [(.bool false)], 1⟩ := xTI_of tI_4 K
theorem tI_5 : tI Tryz.prog 5 = some ⟨1, false, [(.int .u8 0)], 1⟩ := by kernel_rfl
@[go_sem ↓] theorem xTI_5 (K : TI → Prop) : xTI Tryz.prog 5 K = K ⟨1, false, [(.int .u8 0)], 1⟩ := xTI_of tI_5 K
theorem tI_22 : tI Tryz.prog 22 = some ⟨1, false, [(.int .u64 0)], 8⟩ := by kernel_rfl
@[go_sem ↓] theorem xTI_22 (K : TI → Prop) : xTI Tryz.prog 22 K = K ⟨1, false, [(.int .u64 0)], 8⟩ := xTI_of tI_22 K
theorem tI_24 : tI Tryz.prog 24 = some ⟨24, true, [(.int .u64 0), (.int .u64 0), (.int .u64 0), (.int .u64 0), (.int .u64 0), (.int .u64 0), (.int .u64 0), (.int .u64 0), (.int .u64 0), (.int .u64 0), (.int .u64 0), (.int .u64 0), (.int .u64 0), (.int .u64 0), (.int .i64 0), (.int .i64 0), (.int .i64 0), (.int .i64 0), (.int .i64 0), (.int .i64 0), (.int .i64 0), (.int .i64 0), (.int .i64 0), (.int .i64 0)], 192⟩ := by kernel_rfl
@[go_sem ↓] theorem xTI_24 (K : TI → Prop) : xTI Tryz.prog 24 K = K ⟨24, true, [(.int .u64 0), (.int .u64 0), (.int .u64 0), (.int .u64 0), (.int .u64 0), (.int .u64 0), (.int .u64 0), (.int .u64 0), (.int .u64 0), (.int .u64 0), (.int .u64 0), (.int .u64 0), (.int .u64 0), (.int .u64 0), (.int .i64 0), (.int .i64 0), (.int .i64 0), (.int .i64 0), (.int .i64 0), (.int .i64 0), (.int .i64 0), (.int .i64 0), (.int .i64 0), (.int .i64 0)], 192⟩ := xTI_of tI_24 K
theorem tI_25 : tI Tryz.prog 25 = some ⟨1, false, [(.slice none 0 0)], 24⟩ := by kernel_rfl
@[go_sem ↓] theorem xTI_25 (K : TI → Prop) : xTI Tryz.prog 25 K = K ⟨1, false, [(.slice none 0 0)], 24⟩ := xTI_of tI_25 K
theorem tI_26 : tI Tryz.prog 26 = some ⟨1, false, [(.slice none 0 0)], 24⟩ := by kernel_rfl
@[go_sem ↓] theorem xTI_26 (K : TI → Prop) : xTI Tryz.prog 26 K = K ⟨1, false, [(.slice none 0 0)], 24⟩ := xTI_of tI_26 K
theorem tI_27 : tI Tryz.prog 27 = some ⟨1, false, [(.slice none 0 0)], 24⟩ := by kernel_rfl
@[go_sem ↓] theorem xTI_27 (K : TI → Prop) : xTI Tryz.prog 27 K = K ⟨1, false, [(.slice none 0 0)], 24⟩ := xTI_of tI_27 K
theorem tI_28 : tI Tryz.prog 28 = some ⟨1, false, [(.slice none 0 0)], 24⟩ := by kernel_rfl
@[go_sem ↓] theorem xTI_28 (K : TI → Prop) : xTI Tryz.prog 28 K = K ⟨1, false, [(.slice none 0 0)], 24⟩ := xTI_of tI_28 K
theorem tI_29 : tI Tryz.prog 29 = some ⟨1, false, [(.slice none 0 0)], 24⟩ := by kernel_rfl
@[go_sem ↓] theorem xTI_29 (K : TI → Prop) : xTI Tryz.prog 29 K = K ⟨1, false, [(.slice none 0 0)], 24⟩ := xTI_of tI_29 K
theorem tI_30 : tI Tryz.prog 30 = some ⟨1, false, [(.slice none 0 0)], 24⟩ := by kernel_rfl
@[go_sem ↓] theorem xTI_30 (K : TI → Prop) : xTI Tryz.prog 30 K = K ⟨1, false, [(.slice none 0 0)], 24⟩ := xTI_of tI_30 K
theorem tI_31 : tI Tryz.prog 31 = some ⟨1, false, [(.slice none 0 0)], 24⟩ := by kernel_rfl
@[go_sem ↓] theorem xTI_31 (K : TI → Prop) : xTI Tryz.prog 31 K = K ⟨1, false, [(.slice none 0 0)], 24⟩ := xTI_of tI_31 K
theorem tI_32 : tI Tryz.prog 32 = some ⟨1, false, [(.slice none 0 0)], 24⟩ := by kernel_rfl
@[go_sem ↓] theorem xTI_32 (K : TI → Prop) : xTI Tryz.prog 32 K = K ⟨1, false, [(.slice none 0 0)], 24⟩ := xTI_of tI_32 K
theorem tI_34 : tI Tryz.prog 34 = some ⟨41, true, [(.int .u64 0), (.int .u64 0), (.int .u64 0), (.int .u64 0), (.int .u64 0), (.int .u64 0), (.int .u64 0), (.int .u64 0), (.int .u64 0), (.int .u64 0), (.int .u64 0), (.int .u64 0), (.int .u64 0), (.int .u64 0), (.int .i64 0), (.int .i64 0), (.int .i64 0), (.int .i64 0), (.int .i64 0), (.int .i64 0), (.int .i64 0), (.int .i64 0), (.int .i64 0), (.int .i64 0), (.int .u64 0), (.int .u64 0), (.int .u64 0), (.int .u64 0), (.int .u64 0), (.int .i64 0), (.int .i64 0), (.bool false), (.slice none 0 0), (.slice none 0 0), (.slice none 0 0), (.slice none 0 0), (.slice none 0 0), (.slice none 0 0), (.slice none 0 0), (.slice none 0 0), (.slice none 0 0)], 472⟩ := by kernel_rfl
@[go_sem ↓] theorem xTI_34 (K : TI → Prop) : xTI Tryz.prog 34 K = K ⟨41, true, [(.int .u64 0), (.int .u64 0), (.int .u64 0), (.int .u64 0), (.int .u64 0), (.int .u64 0), (.int .u64 0), (.int .u64 0), (.int .u64 0), (.int .u64 0), (.int .u64 0), (.int .u64 0), (.int .u64 0), (.int .u64 0), (.int .i64 0), (.int .i64 0), (.int .i64 0), (.int .i64 0), (.int .i64 0), (.int .i64 0), (.int .i64 0), (.int .i64 0), (.int .i64 0), (.int .i64 0), (.int .u64 0), (.int .u64 0), (.int .u64 0), (.int .u64 0), (.int .u64 0), (.int .i64 0), (.int .i64 0), (.bool false), (.slice none 0 0), (.slice none 0 0), (.slice none 0 0), (.slice none 0 0), (.slice none 0 0), (.slice none 0 0), (.slice none 0 0), (.slice none 0 0), (.slice none 0 0)], 472⟩ := xTI_of tI_34 K
theorem tI_37 : tI Tryz.prog 37 = some ⟨1, false, [(.int .i64 0)], 8⟩ := by kernel_rfl
@[go_sem ↓] theorem xTI_37 (K : TI → Prop) : xTI Tryz.prog 37 K = K ⟨1, false, [(.int .i64 0)], 8⟩ := xTI_of tI_37 K
theorem tI_40 : tI Tryz.prog 40 = some ⟨24, true, [(.int .u64 0), (.int .u64 0), (.int .u64 0), (.int .u64 0), (.int .u64 0), (.int .u64 0), (.int .u64 0), (.int .u64 0), (.int .u64 0), (.int .u64 0), (.int .u64 0), (.int .u64 0), (.int .u64 0), (.int .u64 0), (.int .i64 0), (.int .i64 0), (.int .i64 0), (.int .i64 0), (.int .i64 0), (.int .i64 0), (.int .i64 0), (.int .i64 0), (.int .i64 0), (.int .i64 0)], 192⟩ := by kernel_rfl
@[go_sem ↓] theorem xTI_40 (K : TI → Prop) : xTI Tryz.prog 40 K = K ⟨24, true, [(.int .u64 0), (.int .u64 0), (.int .u64 0), (.int .u64 0), (.int .u64 0), (.int .u64 0), (.int .u64 0), (.int .u64 0), (.int .u64 0), (.int .u64 0), (.int .u64 0), (.int .u64 0), (.int .u64 0), (.int .u64 0), (.int .i64 0), (.int .i64 0), (.int .i64 0), (.int .i64 0), (.int .i64 0), (.int .i64 0), (.int .i64 0), (.int .i64 0), (.int .i64 0), (.int .i64 0)], 192⟩ := xTI_of tI_40 K
theorem tI_41 : tI Tryz.prog 41 = some ⟨1, false, [(.slice none 0 0)], 24⟩ := by kernel_rfl
@[go_sem ↓] theorem xTI_41 (K : TI → Prop) : xTI Tryz.prog 41 K = K ⟨1, false, [(.slice none 0 0)], 24⟩ := xTI_of tI_41 K
theorem tI_42 : tI Tryz.prog 42 = some ⟨1, false, [(.slice none 0 0)], 24⟩ := by kernel_rfl
@[go_sem ↓] theorem xTI_42 (K : TI → Prop) : xTI Tryz.prog 42 K = K ⟨1, false, [(.slice none 0 0)], 24⟩ := xTI_of tI_42 K
theorem tI_43 : tI Tryz.prog 43 = some ⟨1, false, [(.slice none 0 0)], 24⟩ := by kernel_rfl
@[go_sem ↓] theorem xTI_43 (K : TI → Prop) : xTI Tryz.prog 43 K = K ⟨1, false, [(.slice none 0 0)], 24⟩ := xTI_of tI_43 K
theorem tI_44 : tI Tryz.prog 44 = some ⟨1, false, [(.slice none 0 0)], 24⟩ := by kernel_rfl
@[go_sem ↓] theorem xTI_44 (K : TI → Prop) : xTI Tryz.prog 44 K = K ⟨1, false, [(.slice none 0 0)], 24⟩ := xTI_of tI_44 K
theorem tI_46 : tI Tryz.prog 46 = some ⟨41, true, [(.int .u64 0), (.int .u64 0), (.int .u64 0), (.int .u64 0), (.int .u64 0), (.int .u64 0), (.int .u64 0), (.int .u64 0), (.int .u64 0), (.int .u64 0), (.int .u64 0), (.int .u64 0), (.int .u64 0), (.int .u64 0), (.int .i64 0), (.int .i64 0), (.int .i64 0), (.int .i64 0), (.int .i64 0), (.int .i64 0), (.int .i64 0), (.int .i64 0), (.int .i64 0), (.int .i64 0), (.int .u64 0), (.int .u64 0), (.int .u64 0), (.int .u64 0), (.int .u64 0), (.int .i64 0), (.int .i64 0), (.bool false), (.slice none 0 0), (.slice none 0 0), (.slice none 0 0), (.slice none 0 0), (.slice none 0 0), (.slice none 0 0), (.slice none 0 0), (.slice none 0 0), (.slice none 0 0)], 472⟩ := by kernel_rfl
@[go_sem ↓] theorem xTI_46 (K : TI → Prop) : xTI Tryz.prog 46 K = K ⟨41, true, [(.int .u64 0), (.int .u64 0), (.int .u64 0), (.int .u64 0), (.int .u64 0), (.int .u64 0), (.int .u64 0), (.int .u64 0), (.int .u64 0), (.int .u64 0), (.int .u64 0), (.int .u64 0), (.int .u64 0), (.int .u64 0), (.int .i64 0), (.int .i64 0), (.int .i64 0), (.int .i64 0), (.int .i64 0), (.int .i64 0), (.int .i64 0), (.int .i64 0), (.int .i64 0), (.int .i64 0), (.int .u64 0), (.int .u64 0), (.int .u64 0), (.int .u64 0), (.int .u64 0), (.int .i64 0), (.int .i64 0), (.bool false), (.slice none 0 0), (.slice none 0 0), (.slice none 0 0), (.slice none 0 0), (.slice none 0 0), (.slice none 0 0), (.slice none 0 0), (.slice none 0 0), (.slice none 0 0)], 472⟩ := xTI_of tI_46 K
theorem tI_56 : tI Tryz.prog 56 = some ⟨1, false, [(.slice none 0 0)], 24⟩ := by kernel_rfl
@[go_sem ↓] theorem xTI_56 (K : TI → Prop) : xTI Tryz.prog 56 K = K ⟨1, false, [(.slice none 0 0)], 24⟩ := xTI_of tI_56 K
theorem tI_58 : tI Tryz.prog 58 = some ⟨27, true, [(.int .u64 0), (.int .u64 0), (.int .u64 0), (.int .u64 0), (.int .u64 0), (.int .u64 0), (.int .u64 0), (.int .u64 0), (.int .u64 0), (.int .u64 0), (.int .u64 0), (.int .u64 0), (.int .u64 0), (.int .u64 0), (.int .i64 0), (.int .i64 0), (.int .i64 0), (.int .i64 0), (.int .i64 0), (.int .i64 0), (.int .i64 0), (.int .i64 0), (.int .i64 0), (.int .i64 0), (.int .u64 0), (.slice none 0 0), (.slice none 0 0)], 248⟩ := by kernel_rfl
@[go_sem ↓] theorem xTI_58 (K : TI → Prop) : xTI Tryz.prog 58 K = K ⟨27, true, [(.int .u64 0), (.int .u64 0), (.int .u64 0), (.int .u64 0), (.int .u64 0), (.int .u64 0), (.int .u64 0), (.int .u64 0), (.int .u64 0), (.int .u64 0), (.int .u64 0), (.int .u64 0), (.int .u64 0), (.int .u64 0), (.int .i64 0), (.int .i64 0), (.int .i64 0), (.int .i64 0), (.int .i64 0), (.int .i64 0), (.int .i64 0), (.int .i64 0), (.int .i64 0), (.int .i64 0), (.int .u64 0), (.slice none 0 0), (.slice none 0 0)], 248⟩ := xTI_of tI_58 K
theorem tI_61 : tI Tryz.prog 61 = some ⟨2, true, [(.int .i64 0), (.int .u64 0)], 16⟩ := by kernel_rfl
@[go_sem ↓] theorem xTI_61 (K : TI → Prop) : xTI Tryz.prog 61 K = K ⟨2, true, [(.int .i64 0), (.int .u64 0)], 16⟩ := xTI_of tI_61 K
theorem tI_64 : tI Tryz.prog 64 = some ⟨3, true, [(.int .i64 0), (.int .i64 0), (.int .u64 0)], 24⟩ := by kernel_rfl
@[go_sem ↓] theorem xTI_64 (K : TI → Prop) : xTI Tryz.prog 64 K = K ⟨3, true, [(.int .i64 0), (.int .i64 0), (.int .u64 0)], 24⟩ := xTI_of tI_64 K
theorem tI_66 : tI Tryz.prog 66 = some ⟨1, false, [(.slice none 0 0)], 24⟩ := by kernel_rfl
@[go_sem ↓] theorem xTI_66 (K : TI → Prop) : xTI Tryz.prog 66 K = K ⟨1, false, [(.slice none 0 0)], 24⟩ := xTI_of tI_66 K
theorem tI_70 : tI Tryz.prog 70 = some ⟨8, true, [(.int .i64 0), (.bool false), (.int .u64 0), (.int .u64 0), (.int .u64 0), (.int .u64 0), (.int .i64 0), (.int .u64 0)], 64⟩ := by kernel_rfl
@[go_sem ↓] theorem xTI_70 (K : TI → Prop) : xTI Tryz.prog 70 K = K ⟨8, true, [(.int .i64 0), (.bool false), (.int .u64 0), (.int .u64 0), (.int .u64 0), (.int .u64 0), (.int .i64 0), (.int .u64 0)], 64⟩ := xTI_of tI_70 K
theorem tI_76 : tI Tryz.prog 76 = some ⟨8, true, [(.int .i64 0), (.bool false), (.int .u64 0), (.int .u64 0), (.int .u64 0), (.int .u64 0), (.int .i64 0), (.int .u64 0)], 64⟩ := by kernel_rfl
@[go_sem ↓] theorem xTI_76 (K : TI → Prop) : xTI Tryz.prog 76 K = K ⟨8, true, [(.int .i64 0), (.bool false), (.int .u64 0), (.int .u64 0), (.int .u64 0), (.int .u64 0), (.int .i64 0), (.int .u64 0)], 64⟩ := xTI_of tI_76 K
theorem tI_85 : tI Tryz.prog 85 = some ⟨34, true, [(.int .i64 0), (.int .i64 0), (.int .i64 0), (.int .i64 0), (.int .u64 0), (.int .i64 0), (.slice none 0 0), (.int .i64 0), (.int .u64 0), (.int .u64 0), (.int .u64 0), (.int .u64 0), (.int .u64 0), (.int .u64 0), (.int .u64 0), (.int .u64 0), (.int .u64 0), (.int .u64 0), (.int .u64 0), (.int .u64 0), (.int .u64 0), (.int .u64 0), (.int .i64 0), (.int .i64 0), (.int .i64 0), (.int .i64 0), (.int .i64 0), (.int .i64 0), (.int .i64 0), (.int .i64 0), (.int .i64 0), (.int .i64 0), (.int .i64 0), (.bool false)], 288⟩ := by kernel_rfl
@[go_sem ↓] theorem xTI_85 (K : TI → Prop) : xTI Tryz.prog 85 K = K ⟨34, true, [(.int .i64 0), (.int .i64 0), (.int .i64 0), (.int .i64 0), (.int .u64 0), (.int .i64 0), (.slice none 0 0), (.int .i64 0), (.int .u64 0), (.int .u64 0), (.int .u64 0), (.int .u64 0), (.int .u64 0), (.int .u64 0), (.int .u64 0), (.int .u64 0), (.int .u64 0), (.int .u64 0), (.int .u64 0), (.int .u64 0), (.int .u64 0), (.int .u64 0), (.int .i64 0), (.int .i64 0), (.int .i64 0), (.int .i64 0), (.int .i64 0), (.int .i64 0), (.int .i64 0), (.int .i64 0), (.int .i64 0), (.int .i64 0), (.int .i64 0), (.bool false)], 288⟩ := xTI_of tI_85 K
theorem tI_90 : tI Tryz.prog 90 = some ⟨34, true, [(.int .i64 0), (.int .i64 0), (.int .i64 0), (.int .i64 0), (.int .u64 0), (.int .i64 0), (.slice none 0 0), (.int .i64 0), (.int .u64 0), (.int .u64 0), (.int .u64 0), (.int .u64 0), (.int .u64 0), (.int .u64 0), (.int .u64 0), (.int .u64 0), (.int .u64 0), (.int .u64 0), (.int .u64 0), (.int .u64 0), (.int .u64 0), (.int .u64 0), (.int .i64 0), (.int .i64 0), (.int .i64 0), (.int .i64 0), (.int .i64 0), (.int .i64 0), (.int .i64 0), (.int .i64 0), (.int .i64 0), (.int .i64 0), (.int .i64 0), (.bool false)], 288⟩ := by kernel_rfl
@[go_sem ↓] theorem xTI_90 (K : TI → Prop) : xTI Tryz.prog 90 K = K ⟨34, true, [(.int .i64 0), (.int .i64 0), (.int .i64 0), (.int .i64 0), (.int .u64 0), (.int .i64 0), (.slice none 0 0), (.int .i64 0), (.int .u64 0), (.int .u64 0), (.int .u64 0), (.int .u64 0), (.int .u64 0), (.int .u64 0), (.int .u64 0), (.int .u64 0), (.int .u64 0), (.int .u64 0), (.int .u64 0), (.int .u64 0), (.int .u64 0), (.int .u64 0), (.int .i64 0), (.int .i64 0), (.int .i64 0), (.int .i64 0), (.int .i64 0), (.int .i64 0), (.int .i64 0), (.int .i64 0), (.int .i64 0), (.int .i64 0), (.int .i64 0), (.bool false)], 288⟩ := xTI_of tI_90 K
theorem tI_95 : tI Tryz.prog 95 = some ⟨1, false, [(.slice none 0 0)], 24⟩ := by kernel_rfl
@[go_sem ↓] theorem xTI_95 (K : TI → Prop) : xTI Tryz.prog 95 K = K ⟨1, false, [(.slice none 0 0)], 24⟩ := xTI_of tI_95 K
theorem tI_98 : tI Tryz.prog 98 = some ⟨2, true, [(.int .i64 0), (.slice none 0 0)], 32⟩ := by kernel_rfl
@[go_sem ↓] theorem xTI_98 (K : TI → Prop) : xTI Tryz.prog 98 K = K ⟨2, true, [(.int .i64 0), (.slice none 0 0)], 32⟩ := xTI_of tI_98 K
theorem tI_105 : tI Tryz.prog 105 = some ⟨37, true, [(.int .i64 0), (.int .i64 0), (.int .i64 0), (.int .i64 0), (.int .i64 0), (.int .i64 0), (.int .u64 0), (.int .i64 0), (.slice none 0 0), (.int .i64 0), (.int .u64 0), (.int .u64 0), (.int .u64 0), (.int .u64 0), (.int .u64 0), (.int .u64 0), (.int .u64 0), (.int .u64 0), (.int .u64 0), (.int .u64 0), (.int .u64 0), (.int .u64 0), (.int .u64 0), (.int .u64 0), (.int .i64 0), (.int .i64 0), (.int .i64 0), (.int .i64 0), (.int .i64 0), (.int .i64 0), (.int .i64 0), (.int .i64 0), (.int .i64 0), (.int .i64 0), (.int .i64 0), (.bool false), (.int .u64 0)], 312⟩ := by kernel_rfl
@[go_sem ↓] theorem xTI_105 (K : TI → Prop) : xTI Tryz.prog 105 K = K ⟨37, true, [(.int .i64 0), (.int .i64 0), (.int .i64 0), (.int .i64 0), (.int .i64 0), (.int .i64 0), (.int .u64 0), (.int .i64 0), (.slice none 0 0), (.int .i64 0), (.int .u64 0), (.int .u64 0), (.int .u64 0), (.int .u64 0), (.int .u64 0), (.int .u64 0), (.int .u64 0), (.int .u64 0), (.int .u64 0), (.int .u64 0), (.int .u64 0), (.int .u64 0), (.int .u64 0), (.int .u64 0), (.int .i64 0), (.int .i64 0), (.int .i64 0), (.int .i64 0), (.int .i64 0), (.int .i64 0), (.int .i64 0), (.int .i64 0), (.int .i64 0), (.int .i64 0), (.int .i64 0), (.bool false), (.int .u64 0)], 312⟩ := xTI_of tI_105 K
theorem tI_108 : tI Tryz.prog 108 = some ⟨1, false, [(.pointer none)], 8⟩ := by kernel_rfl
@[go_sem ↓] theorem xTI_108 (K : TI → Prop) : xTI Tryz.prog 108 K = K ⟨1, false, [(.pointer none)], 8⟩ := xTI_of tI_108 K
theorem tI_109 : tI Tryz.prog 109 = some ⟨1, false, [(.slice none 0 0)], 24⟩ := by kernel_rfl
@[go_sem ↓] theorem xTI_109 (K : TI → Prop) : xTI Tryz.prog 109 K = K ⟨1, false, [(.slice none 0 0)], 24⟩ := xTI_of tI_109 K
theorem tI_111 : tI Tryz.prog 111 = some ⟨3, true, [(.int .i64 0), (.int .i64 0), (.slice none 0 0)], 40⟩ := by kernel_rfl
@[go_sem ↓] theorem xTI_111 (K : TI → Prop) : xTI Tryz.prog 111 K = K ⟨3, true, [(.int .i64 0), (.int .i64 0), (.slice none 0 0)], 40⟩ := xTI_of tI_111 K
theorem tI_123 : tI Tryz.prog 123 = some ⟨33, true, [(.int .i64 0), (.int .i64 0), (.int .u64 0), (.int .u64 0), (.int .u64 0), (.int .u64 0), (.int .u64 0), (.int .u64 0), (.int .u64 0), (.int .u64 0), (.int .u64 0), (.int .u64 0), (.int .u64 0), (.int .u64 0), (.int .u64 0), (.int .u64 0), (.int .i64 0), (.int .i64 0), (.int .i64 0), (.int .i64 0), (.int .i64 0), (.int .i64 0), (.int .i64 0), (.int .i64 0), (.int .i64 0), (.int .i64 0), (.int .i64 0), (.int .u64 0), (.int .i64 0), (.int .i64 0), (.int .i64 0), (.slice none 0 0), (.slice none 0 0)], 296⟩ := by kernel_rfl
@[go_sem ↓] theorem xTI_123 (K : TI → Prop) : xTI Tryz.prog 123 K = K ⟨33, true, [(.int .i64 0), (.int .i64 0), (.int .u64 0), (.int .u64 0), (.int .u64 0), (.int .u64 0), (.int .u64 0), (.int .u64 0), (.int .u64 0), (.int .u64 0), (.int .u64 0), (.int .u64 0), (.int .u64 0), (.int .u64 0), (.int .u64 0), (.int .u64 0), (.int .i64 0), (.int .i64 0), (.int .i64 0), (.int .i64 0), (.int .i64 0), (.int .i64 0), (.int .i64 0), (.int .i64 0), (.int .i64 0), (.int .i64 0), (.int .i64 0), (.int .u64 0), (.int .i64 0), (.int .i64 0), (.int .i64 0), (.slice none 0 0), (.slice none 0 0)], 296⟩ := xTI_of tI_123 K
theorem tI_126 : tI Tryz.prog 126 = some ⟨2, true, [(.slice none 0 0), (.int .i64 0)], 32⟩ := by kernel_rfl
@[go_sem ↓] theorem xTI_126 (K : TI → Prop) : xTI Tryz.prog 126 K = K ⟨2, true, [(.slice none 0 0), (.int .i64 0)], 32⟩ := xTI_of tI_126 K
theorem tI_128 : tI Tryz.prog 128 = some ⟨2, true, [(.slice none 0 0), (.int .i64 0)], 32⟩ := by kernel_rfl
@[go_sem ↓] theorem xTI_128 (K : TI → Prop) : xTI Tryz.prog 128 K = K ⟨2, true, [(.slice none 0 0), (.int .i64 0)], 32⟩ := xTI_of tI_128 K
theorem tI_130 : tI Tryz.prog 130 = some ⟨3, true, [(.slice none 0 0), (.int .i64 0), (.int .i64 0)], 40⟩ := by kernel_rfl
@[go_sem ↓] theorem xTI_130 (K : TI → Prop) : xTI Tryz.prog 130 K = K ⟨3, true, [(.slice none 0 0), (.int .i64 0), (.int .i64 0)], 40⟩ := xTI_of tI_130 K
theorem tI_141 : tI Tryz.prog 141 = some ⟨9, true, [(.int .u64 0), (.int .u64 0), (.int .u64 0), (.int .u64 0), (.int .u64 0), (.slice none 0 0), (.slice none 0 0), (.slice none 0 0), (.slice none 0 0)], 136⟩ := by kernel_rfl
@[go_sem ↓] theorem xTI_141 (K : TI → Prop) : xTI Tryz.prog 141 K = K ⟨9, true, [(.int .u64 0), (.int .u64 0), (.int .u64 0), (.int .u64 0), (.int .u64 0), (.slice none 0 0), (.slice none 0 0), (.slice none 0 0), (.slice none 0 0)], 136⟩ := xTI_of tI_141 K
theorem tI_146 : tI Tryz.prog 146 = some ⟨4, true, [(.int .u64 0), (.int .u64 0), (.int .u64 0), (.int .i64 0)], 32⟩ := by kernel_rfl
@[go_sem ↓] theorem xTI_146 (K : TI → Prop) : xTI Tryz.prog 146 K = K ⟨4, true, [(.int .u64 0), (.int .u64 0), (.int .u64 0), (.int .i64 0)], 32⟩ := xTI_of tI_146 K
theorem tI_148 : tI Tryz.prog 148 = some ⟨6, true, [(.int .u64 0), (.int .u64 0), (.int .u64 0), (.int .i64 0), (.int .i64 0), (.int .i64 0)], 48⟩ := by kernel_rfl
@[go_sem ↓] theorem xTI_148 (K : TI → Prop) : xTI Tryz.prog 148 K = K ⟨6, true, [(.int .u64 0), (.int .u64 0), (.int .u64 0), (.int .i64 0), (.int .i64 0), (.int .i64 0)], 48⟩ := xTI_of tI_148 K
theorem tI_150 : tI Tryz.prog 150 = some ⟨33, true, [(.int .i64 0), (.int .i64 0), (.int .u64 0), (.int .u64 0), (.int .u64 0), (.int .u64 0), (.int .u64 0), (.int .u64 0), (.int .u64 0), (.int .u64 0), (.int .u64 0), (.int .u64 0), (.int .u64 0), (.int .u64 0), (.int .u64 0), (.int .u64 0), (.int .i64 0), (.int .i64 0), (.int .i64 0), (.int .i64 0), (.int .i64 0), (.int .i64 0), (.int .i64 0), (.int .i64 0), (.int .i64 0), (.int .i64 0), (.int .i64 0), (.int .u64 0), (.int .i64 0), (.int .i64 0), (.int .i64 0), (.slice none 0 0), (.slice none 0 0)], 296⟩ := by kernel_rfl
@[go_sem ↓] theorem xTI_150 (K : TI → Prop) : xTI Tryz.prog 150 K = K ⟨33, true, [(.int .i64 0), (.int .i64 0), (.int .u64 0), (.int .u64 0), (.int .u64 0), (.int .u64 0), (.int .u64 0), (.int .u64 0), (.int .u64 0), (.int .u64 0), (.int .u64 0), (.int .u64 0), (.int .u64 0), (.int .u64 0), (.int .u64 0), (.int .u64 0), (.int .i64 0), (.int .i64 0), (.int .i64 0), (.int .i64 0), (.int .i64 0), (.int .i64 0), (.int .i64 0), (.int .i64 0), (.int .i64 0), (.int .i64 0), (.int .i64 0), (.int .u64 0), (.int .i64 0), (.int .i64 0), (.int .i64 0), (.slice none 0 0), (.slice none 0 0)], 296⟩ := xTI_of tI_150 K
theorem tI_187 : tI Tryz.prog 187 = some ⟨1, false, [(.slice none 0 0)], 24⟩ := by kernel_rfl
@[go_sem ↓] theorem xTI_187 (K : TI → Prop) : xTI Tryz.prog 187 K = K ⟨1, false, [(.slice none 0 0)], 24⟩ := xTI_of tI_187 K
theorem tI_189 : tI Tryz.prog 189 = some ⟨45, true, [(.int .u64 0), (.int .u64 0), (.int .u64 0), (.int .u64 0), (.int .u64 0), (.int .u64 0), (.int .u64 0), (.int .u64 0), (.int .u64 0), (.int .u64 0), (.int .u64 0), (.int .u64 0), (.int .u64 0), (.int .u64 0), (.int .i64 0), (.int .i64 0), (.int .i64 0), (.int .i64 0), (.int .i64 0), (.int .i64 0), (.int .i64 0), (.int .i64 0), (.int .i64 0), (.int .i64 0), (.int .u64 0), (.int .u64 0), (.int .u64 0), (.int .u64 0), (.int .u64 0), (.int .i64 0), (.int .i64 0), (.bool false), (.slice none 0 0), (.slice none 0 0), (.slice none 0 0), (.slice none 0 0), (.slice none 0 0), (.slice none 0 0), (.slice none 0 0), (.slice none 0 0), (.slice none 0 0), (.int .i64 0), (.int .u64 0), (.slice none 0 0), (.slice none 0 0)], 536⟩ := by kernel_rfl
@[go_sem ↓] theorem xTI_189 (K : TI → Prop) : xTI Tryz.prog 189 K = K ⟨45, true, [(.int .u64 0), (.int .u64 0), (.int .u64 0), (.int .u64 0), (.int .u64 0), (.int .u64 0), (.int .u64 0), (.int .u64 0), (.int .u64 0), (.int .u64 0), (.int .u64 0), (.int .u64 0), (.int .u64 0), (.int .u64 0), (.int .i64 0), (.int .i64 0), (.int .i64 0), (.int .i64 0), (.int .i64 0), (.int .i64 0), (.int .i64 0), (.int .i64 0), (.int .i64 0), (.int .i64 0), (.int .u64 0), (.int .u64 0), (.int .u64 0), (.int .u64 0), (.int .u64 0), (.int .i64 0), (.int .i64 0), (.bool false), (.slice none 0 0), (.slice none 0 0), (.slice none 0 0), (.slice none 0 0), (.slice none 0 0), (.slice none 0 0), (.slice none 0 0), (.slice none 0 0), (.slice none 0 0), (.int .i64 0), (.int .u64 0), (.slice none 0 0), (.slice none 0 0)], 536⟩ := xTI_of tI_189 K
theorem tI_231 : tI Tryz.prog 231 = some ⟨41, true, [(.int .u64 0), (.int .u64 0), (.int .u64 0), (.int .u64 0), (.int .u64 0), (.int .u64 0), (.int .u64 0), (.int .u64 0), (.int .u64 0), (.int .u64 0), (.int .u64 0), (.int .u64 0), (.int .u64 0), (.int .u64 0), (.int .i64 0), (.int .i64 0), (.int .i64 0), (.int .i64 0), (.int .i64 0), (.int .i64 0), (.int .i64 0), (.int .i64 0), (.int .i64 0), (.int .i64 0), (.int .u64 0), (.int .u64 0), (.int .u64 0), (.int .u64 0), (.int .u64 0), (.int .i64 0), (.int .i64 0), (.bool false), (.slice none 0 0), (.slice none 0 0), (.slice none 0 0), (.slice none 0 0), (.slice none 0 0), (.slice none 0 0), (.slice none 0 0), (.slice none 0 0), (.slice none 0 0)], 472⟩ := by kernel_rfl
@[go_sem ↓] theorem xTI_231 (K : TI → Prop) : xTI Tryz.prog 231 K = K ⟨41, true, [(.int .u64 0), (.int .u64 0), (.int .u64 0), (.int .u64 0), (.int .u64 0), (.int .u64 0), (.int .u64 0), (.int .u64 0), (.int .u64 0), (.int .u64 0), (.int .u64 0), (.int .u64 0), (.int .u64 0), (.int .u64 0), (.int .i64 0), (.int .i64 0), (.int .i64 0), (.int .i64 0), (.int .i64 0), (.int .i64 0), (.int .i64 0), (.int .i64 0), (.int .i64 0), (.int .i64 0), (.int .u64 0), (.int .u64 0), (.int .u64 0), (.int .u64 0), (.int .u64 0), (.int .i64 0), (.int .i64 0), (.bool false), (.slice none 0 0), (.slice none 0 0), (.slice none 0 0), (.slice none 0 0), (.slice none 0 0), (.slice none 0 0), (.slice none 0 0), (.slice none 0 0), (.slice none 0 0)], 472⟩ := xTI_of tI_231 K
theorem tI_252 : tI Tryz.prog 252 = some ⟨36, true, [(.int .i64 0), (.int .u64 0), (.int .i64 0), (.int .i64 0), (.int .i64 0), (.int .i64 0), (.int .u64 0), (.int .i64 0), (.slice none 0 0), (.int .i64 0), (.int .u64 0), (.int .u64 0), (.int .u64 0), (.int .u64 0), (.int .u64 0), (.int .u64 0), (.int .u64 0), (.int .u64 0), (.int .u64 0), (.int .u64 0), (.int .u64 0), (.int .u64 0), (.int .u64 0), (.int .u64 0), (.int .i64 0), (.int .i64 0), (.int .i64 0), (.int .i64 0), (.int .i64 0), (.int .i64 0), (.int .i64 0), (.int .i64 0), (.int .i64 0), (.int .i64 0), (.int .i64 0), (.bool false)], 304⟩ := by kernel_rfl
@[go_sem ↓] theorem xTI_252 (K : TI → Prop) : xTI Tryz.prog 252 K = K ⟨36, true, [(.int .i64 0), (.int .u64 0), (.int .i64 0), (.int .i64 0), (.int .i64 0), (.int .i64 0), (.int .u64 0), (.int .i64 0), (.slice none 0 0), (.int .i64 0), (.int .u64 0), (.int .u64 0), (.int .u64 0), (.int .u64 0), (.int .u64 0), (.int .u64 0), (.int .u64 0), (.int .u64 0), (.int .u64 0), (.int .u64 0), (.int .u64 0), (.int .u64 0), (.int .u64 0), (.int .u64 0), (.int .i64 0), (.int .i64 0), (.int .i64 0), (.int .i64 0), (.int .i64 0), (.int .i64 0), (.int .i64 0), (.int .i64 0), (.int .i64 0), (.int .i64 0), (.int .i64 0), (.bool false)], 304⟩ := xTI_of tI_252 K
theorem tI_454 : tI Tryz.prog 454 = some ⟨2, true, [(.int .u64 0), (.int .u64 0)], 16⟩ := by kernel_rfl
@[go_sem ↓] theorem xTI_454 (K : TI → Prop) : xTI Tryz.prog 454 K = K ⟨2, true, [(.int .u64 0), (.int .u64 0)], 16⟩ := xTI_of tI_454 K
theorem tI_481 : tI Tryz.prog 481 = some ⟨1, false, [(.int .u64 0)], 8⟩ := by kernel_rfl
@[go_sem ↓] theorem xTI_481 (K : TI → Prop) : xTI Tryz.prog 481 K = K ⟨1, false, [(.int .u64 0)], 8⟩ := xTI_of tI_481 K
theorem bP_24 : bPl Tryz.prog 24 = some ([(.int .u64 0), (.int .u64 0), (.int .u64 0), (.int .u64 0), (.int .u64 0), (.int .u64 0), (.int .u64 0), (.int .u64 0), (.int .u64 0), (.int .u64 0), (.int .u64 0), (.int .u64 0), (.int .u64 0), (.int .u64 0), (.int .i64 0), (.int .i64 0), (.int .i64 0), (.int .i64 0), (.int .i64 0), (.int .i64 0), (.int .i64 0), (.int .i64 0), (.int .i64 0), (.int .i64 0)], [(0, 1), (1, 1), (2, 1), (3, 1), (4, 1), (5, 1), (6, 1), (7, 1), (8, 1), (9, 1), (10, 1), (11, 1), (12, 1), (13, 1), (14, 1), (15, 1), (16, 1), (17, 1), (18, 1), (19, 1), (20, 1), (21, 1), (22, 1), (23, 1)]) := by kernel_rfl
@[go_sem ↓] theorem xBuild_24 (ps : List (Nat × Value)) (K : Value → Prop) : xBuild Tryz.prog 24 ps.toArray K = xFill [(.int .u64 0), (.int .u64 0), (.int .u64 0), (.int .u64 0), (.int .u64 0), (.int .u64 0), (.int .u64 0), (.int .u64 0), (.int .u64 0), (.int .u64 0), (.int .u64 0), (.int .u64 0), (.int .u64 0), (.int .u64 0), (.int .i64 0), (.int .i64 0), (.int .i64 0), (.int .i64 0), (.int .i64 0), (.int .i64 0), (.int .i64 0), (.int .i64 0), (.int .i64 0), (.int .i64 0)] [(0, 1), (1, 1), (2, 1), (3, 1), (4, 1), (5, 1), (6, 1), (7, 1), (8, 1), (9, 1), (10, 1), (11, 1), (12, 1), (13, 1), (14, 1), (15, 1), (16, 1), (17, 1), (18, 1), (19, 1), (20, 1), (21, 1), (22, 1), (23, 1)] ps fun z' => K (.agg z'.toArray) := xBuild_of bP_24 ps K
theorem bP_34 : bPl Tryz.prog 34 = some ([(.int .u64 0), (.int .u64 0), (.int .u64 0), (.int .u64 0), (.int .u64 0), (.int .u64 0), (.int .u64 0), (.int .u64 0), (.int .u64 0), (.int .u64 0), (.int .u64 0), (.int .u64 0), (.int .u64 0), (.int .u64 0), (.int .i64 0), (.int .i64 0), (.int .i64 0), (.int .i64 0), (.int .i64 0), (.int .i64 0), (.int .i64 0), (.int .i64 0), (.int .i64 0), (.int .i64 0), (.int .u64 0), (.int .u64 0), (.int .u64 0), (.int .u64 0), (.int .u64 0), (.int .i64 0), (.int .i64 0), (.bool false), (.slice none 0 0), (.slice none 0 0), (.slice none 0 0), (.slice none 0 0), (.slice none 0 0), (.slice none 0 0), (.slice none 0 0), (.slice none 0 0), (.slice none 0 0)], [(0, 24), (24, 1), (25, 1), (26, 1), (27, 1), (28, 1), (29, 1), (30, 1), (31, 1), (32, 1), (33, 1), (34, 1), (35, 1), (36, 1), (37, 1), (38, 1), (39, 1), (40, 1)]) := by kernel_rfl
@[go_sem ↓] theorem xBuild_34 (ps : List (Nat × Value)) (K : Value → Prop) : xBuild Tryz.prog 34 ps.toArray K = xFill [(.int .u64 0), (.int .u64 0), (.int .u64 0), (.int .u64 0), (.int .u64 0), (.int .u64 0), (.int .u64 0), (.int .u64 0), (.int .u64 0), (.int .u64 0), (.int .u64 0), (.int .u64 0), (.int .u64 0), (.int .u64 0), (.int .i64 0), (.int .i64 0), (.int .i64 0), (.int .i64 0), (.int .i64 0), (.int .i64 0), (.int .i64 0), (.int .i64 0), (.int .i64 0), (.int .i64 0), (.int .u64 0), (.int .u64 0), (.int .u64 0), (.int .u64 0), (.int .u64 0), (.int .i64 0), (.int .i64 0), (.bool false), (.slice none 0 0), (.slice none 0 0), (.slice none 0 0), (.slice none 0 0), (.slice none 0 0), (.slice none 0 0), (.slice none 0 0), (.slice none 0 0), (.slice none 0 0)] [(0, 24), (24, 1), (25, 1), (26, 1), (27, 1), (28, 1), (29, 1), (30, 1), (31, 1), (32, 1), (33, 1), (34, 1), (35, 1), (36, 1), (37, 1), (38, 1), (39, 1), (40, 1)] ps fun z' => K (.agg z'.toArray) := xBuild_of bP_34 ps K
theorem bP_40 : bPl Tryz.prog 40 = some ([(.int .u64 0), (.int .u64 0), (.int .u64 0), (.int .u64 0), (.int .u64 0), (.int .u64 0), (.int .u64 0), (.int .u64 0), (.int .u64 0), (.int .u64 0), (.int .u64 0), (.int .u64 0), (.int .u64 0), (.int .u64 0), (.int .i64 0), (.int .i64 0), (.int .i64 0), (.int .i64 0), (.int .i64 0), (.int .i64 0), (.int .i64 0), (.int .i64 0), (.int .i64 0), (.int .i64 0)], [(0, 1), (1, 1), (2, 1), (3, 1), (4, 1), (5, 1), (6, 1), (7, 1), (8, 1), (9, 1), (10, 1), (11, 1), (12, 1), (13, 1), (14, 1), (15, 1), (16, 1), (17, 1), (18, 1), (19, 1), (20, 1), (21, 1), (22, 1), (23, 1)]) := by kernel_rfl
@[go_sem ↓] theorem xBuild_40 (ps : List (Nat × Value)) (K : Value → Prop) : xBuild Tryz.prog 40 ps.toArray K = xFill [(.int .u64 0), (.int .u64 0), (.int .u64 0), (.int .u64 0), (.int .u64 0), (.int .u64 0), (.int .u64 0), (.int .u64 0), (.int .u64 0), (.int .u64 0), (.int .u64 0), (.int .u64 0), (.int .u64 0), (.int .u64 0), (.int .i64 0), (.int .i64 0), (.int .i64 0), (.int .i64 0), (.int .i64 0), (.int .i64 0), (.int .i64 0), (.int .i64 0), (.int .i64 0), (.int .i64 0)] [(0, 1), (1, 1), (2, 1), (3, 1), (4, 1), (5, 1), (6, 1), (7, 1), (8, 1), (9, 1), (10, 1), (11, 1), (12, 1), (13, 1), (14, 1), (15, 1), (16, 1), (17, 1), (18, 1), (19, 1), (20, 1), (21, 1), (22, 1), (23, 1)] ps fun z' => K (.agg z'.toArray) := xBuild_of bP_40 ps K
theorem bP_46 : bPl Tryz.prog 46 = some ([(.int .u64 0), (.int .u64 0), (.int .u64 0), (.int .u64 0), (.int .u64 0), (.int .u64 0), (.int .u64 0), (.int .u64 0), (.int .u64 0), (.int .u64 0), (.int .u64 0), (.int .u64 0), (.int .u64 0), (.int .u64 0), (.int .i64 0), (.int .i64 0), (.int .i64 0), (.int .i64 0), (.int .i64 0), (.int .i64 0), (.int .i64 0), (.int .i64 0), (.int .i64 0), (.int .i64 0), (.int .u64 0), (.int .u64 0), (.int .u64 0), (.int .u64 0), (.int .u64 0), (.int .i64 0), (.int .i64 0), (.bool false), (.slice none 0 0), (.slice none 0 0), (.slice none 0 0), (.slice none 0 0), (.slice none 0 0), (.slice none 0 0), (.slice none 0 0), (.slice none 0 0), (.slice none 0 0)], [(0, 24), (24, 1), (25, 1), (26, 1), (27, 1), (28, 1), (29, 1), (30, 1), (31, 1), (32, 1), (33, 1), (34, 1), (35, 1), (36, 1), (37, 1), (38, 1), (39, 1), (40, 1)]) := by kernel_rfl
@[go_sem ↓] theorem xBuild_46 (ps : List (Nat × Value)) (K : Value → Prop) : xBuild Tryz.prog 46 ps.toArray K = xFill [(.int .u64 0), (.int .u64 0), (.int .u64 0), (.int .u64 0), (.int .u64 0), (.int .u64 0), (.int .u64 0), (.int .u64 0), (.int .u64 0), (.int .u64 0), (.int .u64 0), (.int .u64 0), (.int .u64 0), (.int .u64 0), (.int .i64 0), (.int .i64 0), (.int .i64 0), (.int .i64 0), (.int .i64 0), (.int .i64 0), (.int .i64 0), (.int .i64 0), (.int .i64 0), (.int .i64 0), (.int .u64 0), (.int .u64 0), (.int .u64 0), (.int .u64 0), (.int .u64 0), (.int .i64 0), (.int .i64 0), (.bool false), (.slice none 0 0), (.slice none 0 0), (.slice none 0 0), (.slice none 0 0), (.slice none 0 0), (.slice none 0 0), (.slice none 0 0), (.slice none 0 0), (.slice none 0 0)] [(0, 24), (24, 1), (25, 1), (26, 1), (27, 1), (28, 1), (29, 1), (30, 1), (31, 1), (32, 1), (33, 1), (34, 1), (35, 1), (36, 1), (37, 1), (38, 1), (39, 1), (40, 1)] ps fun z' => K (.agg z'.toArray) := xBuild_of bP_46 ps K
theorem bP_58 : bPl Tryz.prog 58 = some ([(.int .u64 0), (.int .u64 0), (.int .u64 0), (.int .u64 0), (.int .u64 0), (.int .u64 0), (.int .u64 0), (.int .u64 0), (.int .u64 0), (.int .u64 0), (.int .u64 0), (.int .u64 0), (.int .u64 0), (.int .u64 0), (.int .i64 0), (.int .i64 0), (.int .i64 0), (.int .i64 0), (.int .i64 0), (.int .i64 0), (.int .i64 0), (.int .i64 0), (.int .i64 0), (.int .i64 0), (.int .u64 0), (.slice none 0 0), (.slice none 0 0)], [(0, 24), (24, 1), (25, 1), (26, 1)]) := by kernel_rfl
@[go_sem ↓] theorem xBuild_58 (ps : List (Nat × Value)) (K : Value → Prop) : xBuild Tryz.prog 58 ps.toArray K = xFill [(.int .u64 0), (.int .u64 0), (.int .u64 0), (.int .u64 0), (.int .u64 0), (.int .u64 0), (.int .u64 0), (.int .u64 0), (.int .u64 0), (.int .u64 0), (.int .u64 0), (.int .u64 0), (.int .u64 0), (.int .u64 0), (.int .i64 0), (.int .i64 0), (.int .i64 0), (.int .i64 0), (.int .i64 0), (.int .i64 0), (.int .i64 0), (.int .i64 0), (.int .i64 0), (.int .i64 0), (.int .u64 0), (.slice none 0 0), (.slice none 0 0)] [(0, 24), (24, 1), (25, 1), (26, 1)] ps fun z' => K (.agg z'.toArray) := xBuild_of bP_58 ps K
theorem bP_61 : bPl Tryz.prog 61 = some ([(.int .i64 0), (.int .u64 0)], [(0, 1), (1, 1)]) := by kernel_rfl
@[go_sem ↓] theorem xBuild_61 (ps : List (Nat × Value)) (K : Value → Prop) : xBuild Tryz.prog 61 ps.toArray K = xFill [(.int .i64 0), (.int .u64 0)] [(0, 1), (1, 1)] ps fun z' => K (.agg z'.toArray) := xBuild_of bP_61 ps K
theorem bP_64 : bPl Tryz.prog 64 = some ([(.int .i64 0), (.int .i64 0), (.int .u64 0)], [(0, 1), (1, 1), (2, 1)]) := by kernel_rfl
@[go_sem ↓] theorem xBuild_64 (ps : List (Nat × Value)) (K : Value → Prop) : xBuild Tryz.prog 64 ps.toArray K = xFill [(.int .i64 0), (.int .i64 0), (.int .u64 0)] [(0, 1), (1, 1), (2, 1)] ps fun z' => K (.agg z'.toArray) := xBuild_of bP_64 ps K
theorem bP_70 : bPl Tryz.prog 70 = some ([(.int .i64 0), (.bool false), (.int .u64 0), (.int .u64 0), (.int .u64 0), (.int .u64 0), (.int .i64 0), (.int .u64 0)], [(0, 1), (1, 1), (2, 1), (3, 1), (4, 1), (5, 1), (6, 1), (7, 1)]) := by kernel_rfl
@[go_sem ↓] theorem xBuild_70 (ps : List (Nat × Value)) (K : Value → Prop) : xBuild Tryz.prog 70 ps.toArray K = xFill [(.int .i64 0), (.bool false), (.int .u64 0), (.int .u64 0), (.int .u64 0), (.int .u64 0), (.int .i64 0), (.int .u64 0)] [(0, 1), (1, 1), (2, 1), (3, 1), (4, 1), (5, 1), (6, 1), (7, 1)] ps fun z' => K (.agg z'.toArray) := xBuild_of bP_70 ps K
theorem bP_76 : bPl Tryz.prog 76 = some ([(.int .i64 0), (.bool false), (.int .u64 0), (.int .u64 0), (.int .u64 0), (.int .u64 0), (.int .i64 0), (.int .u64 0)], [(0, 1), (1, 1), (2, 1), (3, 1), (4, 1), (5, 1), (6, 1), (7, 1)]) := by kernel_rfl
@[go_sem ↓] theorem xBuild_76 (ps : List (Nat × Value)) (K : Value → Prop) : xBuild Tryz.prog 76 ps.toArray K = xFill [(.int .i64 0), (.bool false), (.int .u64 0), (.int .u64 0), (.int .u64 0), (.int .u64 0), (.int .i64 0), (.int .u64 0)] [(0, 1), (1, 1), (2, 1), (3, 1), (4, 1), (5, 1), (6, 1), (7, 1)] ps fun z' => K (.agg z'.toArray) := xBuild_of bP_76 ps K
theorem bP_85 : bPl Tryz.prog 85 = some ([(.int .i64 0), (.int .i64 0), (.int .i64 0), (.int .i64 0), (.int .u64 0), (.int .i64 0), (.slice none 0 0), (.int .i64 0), (.int .u64 0), (.int .u64 0), (.int .u64 0), (.int .u64 0), (.int .u64 0), (.int .u64 0), (.int .u64 0), (.int .u64 0), (.int .u64 0), (.int .u64 0), (.int .u64 0), (.int .u64 0), (.int .u64 0), (.int .u64 0), (.int .i64 0), (.int .i64 0), (.int .i64 0), (.int .i64 0), (.int .i64 0), (.int .i64 0), (.int .i64 0), (.int .i64 0), (.int .i64 0), (.int .i64 0), (.int .i64 0), (.bool false)], [(0, 1), (1, 1), (2, 1), (3, 1), (4, 1), (5, 1), (6, 1), (7, 1), (8, 24), (32, 1), (33, 1)]) := by kernel_rfl
@[go_sem ↓] theorem xBuild_85 (ps : List (Nat × Value)) (K : Value → Prop) : xBuild Tryz.prog 85 ps.toArray K = xFill [(.int .i64 0), (.int .i64 0), (.int .i64 0), (.int .i64 0), (.int .u64 0), (.int .i64 0), (.slice none 0 0), (.int .i64 0), (.int .u64 0), (.int .u64 0), (.int .u64 0), (.int .u64 0), (.int .u64 0), (.int .u64 0), (.int .u64 0), (.int .u64 0), (.int .u64 0), (.int .u64 0), (.int .u64 0), (.int .u64 0), (.int .u64 0), (.int .u64 0), (.int .i64 0), (.int .i64 0), (.int .i64 0), (.int .i64 0), (.int .i64 0), (.int .i64 0), (.int .i64 0), (.int .i64 0), (.int .i64 0), (.int .i64 0), (.int .i64 0), (.bool false)] [(0, 1), (1, 1), (2, 1), (3, 1), (4, 1), (5, 1), (6, 1), (7, 1), (8, 24), (32, 1), (33, 1)] ps fun z' => K (.agg z'.toArray) := xBuild_of bP_85 ps K
theorem bP_90 : bPl Tryz.prog 90 = some ([(.int .i64 0), (.int .i64 0), (.int .i64 0), (.int .i64 0), (.int .u64 0), (.int .i64 0), (.slice none 0 0), (.int .i64 0), (.int .u64 0), (.int .u64 0), (.int .u64 0), (.int .u64 0), (.int .u64 0), (.int .u64 0), (.int .u64 0), (.int .u64 0), (.int .u64 0), (.int .u64 0), (.int .u64 0), (.int .u64 0), (.int .u64 0), (.int .u64 0), (.int .i64 0), (.int .i64 0), (.int .i64 0), (.int .i64 0), (.int .i64 0), (.int .i64 0), (.int .i64 0), (.int .i64 0), (.int .i64 0), (.int .i64 0), (.int .i64 0), (.bool false)], [(0, 1), (1, 1), (2, 1), (3, 1), (4, 1), (5, 1), (6, 1), (7, 1), (8, 24), (32, 1), (33, 1)]) := by kernel_rfl
@[go_sem ↓] theorem xBuild_90 (ps : List (Nat × Value)) (K : Value → Prop) : xBuild Tryz.prog 90 ps.toArray K = xFill [(.int .i64 0), (.int .i64 0), (.int .i64 0), (.int .i64 0), (.int .u64 0), (.int .i64 0), (.slice none 0 0), (.int .i64 0), (.int .u64 0), (.int .u64 0), (.int .u64 0), (.int .u64 0), (.int .u64 0), (.int .u64 0), (.int .u64 0), (.int .u64 0), (.int .u64 0), (.int .u64 0), (.int .u64 0), (.int .u64 0), (.int .u64 0), (.int .u64 0), (.int .i64 0), (.int .i64 0), (.int .i64 0), (.int .i64 0), (.int .i64 0), (.int .i64 0), (.int .i64 0), (.int .i64 0), (.int .i64 0), (.int .i64 0), (.int .i64 0), (.bool false)] [(0, 1), (1, 1), (2, 1), (3, 1), (4, 1), (5, 1), (6, 1), (7, 1), (8, 24), (32, 1), (33, 1)] ps fun z' => K (.agg z'.toArray) := xBuild_of bP_90 ps K
theorem bP_98 : bPl Tryz.prog 98 = some ([(.int .i64 0), (.slice none 0 0)], [(0, 1), (1, 1)]) := by kernel_rfl
@[go_sem ↓] theorem xBuild_98 (ps : List (Nat × Value)) (K : Value → Prop) : xBuild Tryz.prog 98 ps.toArray K = xFill [(.int .i64 0), (.slice none 0 0)] [(0, 1), (1, 1)] ps fun z' => K (.agg z'.toArray) := xBuild_of bP_98 ps K
theorem bP_111 : bPl Tryz.prog 111 = some ([(.int .i64 0), (.int .i64 0), (.slice none 0 0)], [(0, 1), (1, 1), (2, 1)]) := by kernel_rfl
@[go_sem ↓] theorem xBuild_111 (ps : List (Nat × Value)) (K : Value → Prop) : xBuild Tryz.prog 111 ps.toArray K = xFill [(.int .i64 0), (.int .i64 0), (.slice none 0 0)] [(0, 1), (1, 1), (2, 1)] ps fun z' => K (.agg z'.toArray) := xBuild_of bP_111 ps K
theorem bP_123 : bPl Tryz.prog 123 = some ([(.int .i64 0), (.int .i64 0), (.int .u64 0), (.int .u64 0), (.int .u64 0), (.int .u64 0), (.int .u64 0), (.int .u64 0), (.int .u64 0), (.int .u64 0), (.int .u64 0), (.int .u64 0), (.int .u64 0), (.int .u64 0), (.int .u64 0), (.int .u64 0), (.int .i64 0), (.int .i64 0), (.int .i64 0), (.int .i64 0), (.int .i64 0), (.int .i64 0), (.int .i64 0), (.int .i64 0), (.int .i64 0), (.int .i64 0), (.int .i64 0), (.int .u64 0), (.int .i64 0), (.int .i64 0), (.int .i64 0), (.slice none 0 0), (.slice none 0 0)], [(0, 1), (1, 1), (2, 24), (26, 1), (27, 1), (28, 1), (29, 1), (30, 1), (31, 1), (32, 1)]) := by kernel_rfl
@[go_sem ↓] theorem xBuild_123 (ps : List (Nat × Value)) (K : Value → Prop) : xBuild Tryz.prog 123 ps.toArray K = xFill [(.int .i64 0), (.int .i64 0), (.int .u64 0), (.int .u64 0), (.int .u64 0), (.int .u64 0), (.int .u64 0), (.int .u64 0), (.int .u64 0), (.int .u64 0), (.int .u64 0), (.int .u64 0), (.int .u64 0), (.int .u64 0), (.int .u64 0), (.int .u64 0), (.int .i64 0), (.int .i64 0), (.int .i64 0), (.int .i64 0), (.int .i64 0), (.int .i64 0), (.int .i64 0), (.int .i64 0), (.int .i64 0), (.int .i64 0), (.int .i64 0), (.int .u64 0), (.int .i64 0), (.int .i64 0), (.int .i64 0), (.slice none 0 0), (.slice none 0 0)] [(0, 1), (1, 1), (2, 24), (26, 1), (27, 1), (28, 1), (29, 1), (30, 1), (31, 1), (32, 1)] ps fun z' => K (.agg z'.toArray) := xBuild_of bP_123 ps K
theorem bP_126 : bPl Tryz.prog 126 = some ([(.slice none 0 0), (.int .i64 0)], [(0, 1), (1, 1)]) := by kernel_rfl
@[go_sem ↓] theorem xBuild_126 (ps : List (Nat × Value)) (K : Value → Prop) : xBuild Tryz.prog 126 ps.toArray K = xFill [(.slice none 0 0), (.int .i64 0)] [(0, 1), (1, 1)] ps fun z' => K (.agg z'.toArray) := xBuild_of bP_126 ps K
theorem bP_128 : bPl Tryz.prog 128 = some ([(.slice none 0 0), (.int .i64 0)], [(0, 2)]) := by kernel_rfl
@[go_sem ↓] theorem xBuild_128 (ps : List (Nat × Value)) (K : Value → Prop) : xBuild Tryz.prog 128 ps.toArray K = xFill [(.slice none 0 0), (.int .i64 0)] [(0, 2)] ps fun z' => K (.agg z'.toArray) := xBuild_of bP_128 ps K
theorem bP_130 : bPl Tryz.prog 130 = some ([(.slice none 0 0), (.int .i64 0), (.int .i64 0)], [(0, 2), (2, 1)]) := by kernel_rfl
@[go_sem ↓] theorem xBuild_130 (ps : List (Nat × Value)) (K : Value → Prop) : xBuild Tryz.prog 130 ps.toArray K = xFill [(.slice none 0 0), (.int .i64 0), (.int .i64 0)] [(0, 2), (2, 1)] ps fun z' => K (.agg z'.toArray) := xBuild_of bP_130 ps K
theorem bP_141 : bPl Tryz.prog 141 = some ([(.int .u64 0), (.int .u64 0), (.int .u64 0), (.int .u64 0), (.int .u64 0), (.slice none 0 0), (.slice none 0 0), (.slice none 0 0), (.slice none 0 0)], [(0, 1), (1, 1), (2, 1), (3, 1), (4, 1), (5, 1), (6, 1), (7, 1), (8, 1)]) := by kernel_rfl
@[go_sem ↓] theorem xBuild_141 (ps : List (Nat × Value)) (K : Value → Prop) : xBuild Tryz.prog 141 ps.toArray K = xFill [(.int .u64 0), (.int .u64 0), (.int .u64 0), (.int .u64 0), (.int .u64 0), (.slice none 0 0), (.slice none 0 0), (.slice none 0 0), (.slice none 0 0)] [(0, 1), (1, 1), (2, 1), (3, 1), (4, 1), (5, 1), (6, 1), (7, 1), (8, 1)] ps fun z' => K (.agg z'.toArray) := xBuild_of bP_141 ps K
theorem bP_148 : bPl Tryz.prog 148 = some ([(.int .u64 0), (.int .u64 0), (.int .u64 0), (.int .i64 0), (.int .i64 0), (.int .i64 0)], [(0, 4), (4, 1), (5, 1)]) := by kernel_rfl
@[go_sem ↓] theorem xBuild_148 (ps : List (Nat × Value)) (K : Value → Prop) : xBuild Tryz.prog 148 ps.toArray K = xFill [(.int .u64 0), (.int .u64 0), (.int .u64 0), (.int .i64 0), (.int .i64 0), (.int .i64 0)] [(0, 4), (4, 1), (5, 1)] ps fun z' => K (.agg z'.toArray) := xBuild_of bP_148 ps K
theorem bP_150 : bPl Tryz.prog 150 = some ([(.int .i64 0), (.int .i64 0), (.int .u64 0), (.int .u64 0), (.int .u64 0), (.int .u64 0), (.int .u64 0), (.int .u64 0), (.int .u64 0), (.int .u64 0), (.int .u64 0), (.int .u64 0), (.int .u64 0), (.int .u64 0), (.int .u64 0), (.int .u64 0), (.int .i64 0), (.int .i64 0), (.int .i64 0), (.int .i64 0), (.int .i64 0), (.int .i64 0), (.int .i64 0), (.int .i64 0), (.int .i64 0), (.int .i64 0), (.int .i64 0), (.int .u64 0), (.int .i64 0), (.int .i64 0), (.int .i64 0), (.slice none 0 0), (.slice none 0 0)], [(0, 1), (1, 1), (2, 24), (26, 1), (27, 1), (28, 1), (29, 1), (30, 1), (31, 1), (32, 1)]) := by kernel_rfl
@[go_sem ↓] theorem xBuild_150 (ps : List (Nat × Value)) (K : Value → Prop) : xBuild Tryz.prog 150 ps.toArray K = xFill [(.int .i64 0), (.int .i64 0), (.int .u64 0), (.int .u64 0), (.int .u64 0), (.int .u64 0), (.int .u64 0), (.int .u64 0), (.int .u64 0), (.int .u64 0), (.int .u64 0), (.int .u64 0), (.int .u64 0), (.int .u64 0), (.int .u64 0), (.int .u64 0), (.int .i64 0), (.int .i64 0), (.int .i64 0), (.int .i64 0), (.int .i64 0), (.int .i64 0), (.int .i64 0), (.int .i64 0), (.int .i64 0), (.int .i64 0), (.int .i64 0), (.int .u64 0), (.int .i64 0), (.int .i64 0), (.int .i64 0), (.slice none 0 0), (.slice none 0 0)] [(0, 1), (1, 1), (2, 24), (26, 1), (27, 1), (28, 1), (29, 1), (30, 1), (31, 1), (32, 1)] ps fun z' => K (.agg z'.toArray) := xBuild_of bP_150 ps K
theorem bP_189 : bPl Tryz.prog 189 = some ([(.int .u64 0), (.int .u64 0), (.int .u64 0), (.int .u64 0), (.int .u64 0), (.int .u64 0), (.int .u64 0), (.int .u64 0), (.int .u64 0), (.int .u64 0), (.int .u64 0), (.int .u64 0), (.int .u64 0), (.int .u64 0), (.int .i64 0), (.int .i64 0), (.int .i64 0), (.int .i64 0), (.int .i64 0), (.int .i64 0), (.int .i64 0), (.int .i64 0), (.int .i64 0), (.int .i64 0), (.int .u64 0), (.int .u64 0), (.int .u64 0), (.int .u64 0), (.int .u64 0), (.int .i64 0), (.int .i64 0), (.bool false), (.slice none 0 0), (.slice none 0 0), (.slice none 0 0), (.slice none 0 0), (.slice none 0 0), (.slice none 0 0), (.slice none 0 0), (.slice none 0 0), (.slice none 0 0), (.int .i64 0), (.int .u64 0), (.slice none 0 0), (.slice none 0 0)], [(0, 41), (41, 1), (42, 1), (43, 1), (44, 1)]) := by kernel_rfl
@[go_sem ↓] theorem xBuild_189 (ps : List (Nat × Value)) (K : Value → Prop) : xBuild Tryz.prog 189 ps.toArray K = xFill [(.int .u64 0), (.int .u64 0), (.int .u64 0), (.int .u64 0), (.int .u64 0), (.int .u64 0), (.int .u64 0), (.int .u64 0), (.int .u64 0), (.int .u64 0), (.int .u64 0), (.int .u64 0), (.int .u64 0), (.int .u64 0), (.int .i64 0), (.int .i64 0), (.int .i64 0), (.int .i64 0), (.int .i64 0), (.int .i64 0), (.int .i64 0), (.int .i64 0), (.int .i64 0), (.int .i64 0), (.int .u64 0), (.int .u64 0), (.int .u64 0), (.int .u64 0), (.int .u64 0), (.int .i64 0), (.int .i64 0), (.bool false), (.slice none 0 0), (.slice none 0 0), (.slice none 0 0), (.slice none 0 0), (.slice none 0 0), (.slice none 0 0), (.slice none 0 0), (.slice none 0 0), (.slice none 0 0), (.int .i64 0), (.int .u64 0), (.slice none 0 0), (.slice none 0 0)] [(0, 41), (41, 1), (42, 1), (43, 1), (44, 1)] ps fun z' => K (.agg z'.toArray) := xBuild_of bP_189 ps K
theorem bP_231 : bPl Tryz.prog 231 = some ([(.int .u64 0), (.int .u64 0), (.int .u64 0), (.int .u64 0), (.int .u64 0), (.int .u64 0), (.int .u64 0), (.int .u64 0), (.int .u64 0), (.int .u64 0), (.int .u64 0), (.int .u64 0), (.int .u64 0), (.int .u64 0), (.int .i64 0), (.int .i64 0), (.int .i64 0), (.int .i64 0), (.int .i64 0), (.int .i64 0), (.int .i64 0), (.int .i64 0), (.int .i64 0), (.int .i64 0), (.int .u64 0), (.int .u64 0), (.int .u64 0), (.int .u64 0), (.int .u64 0), (.int .i64 0), (.int .i64 0), (.bool false), (.slice none 0 0), (.slice none 0 0), (.slice none 0 0), (.slice none 0 0), (.slice none 0 0), (.slice none 0 0), (.slice none 0 0), (.slice none 0 0), (.slice none 0 0)], [(0, 41)]) := by kernel_rfl
@[go_sem ↓] theorem xBuild_231 (ps : List (Nat × Value)) (K : Value → Prop) : xBuild Tryz.prog 231 ps.toArray K = xFill [(.int .u64 0), (.int .u64 0), (.int .u64 0), (.int .u64 0), (.int .u64 0), (.int .u64 0), (.int .u64 0), (.int .u64 0), (.int .u64 0), (.int .u64 0), (.int .u64 0), (.int .u64 0), (.int .u64 0), (.int .u64 0), (.int .i64 0), (.int .i64 0), (.int .i64 0), (.int .i64 0), (.int .i64 0), (.int .i64 0), (.int .i64 0), (.int .i64 0), (.int .i64 0), (.int .i64 0), (.int .u64 0), (.int .u64 0), (.int .u64 0), (.int .u64 0), (.int .u64 0), (.int .i64 0), (.int .i64 0), (.bool false), (.slice none 0 0), (.slice none 0 0), (.slice none 0 0), (.slice none 0 0), (.slice none 0 0), (.slice none 0 0), (.slice none 0 0), (.slice none 0 0), (.slice none 0 0)] [(0, 41)] ps fun z' => K (.agg z'.toArray) := xBuild_of bP_231 ps K
theorem bP_252 : bPl Tryz.prog 252 = some ([(.int .i64 0), (.int .u64 0), (.int .i64 0), (.int .i64 0), (.int .i64 0), (.int .i64 0), (.int .u64 0), (.int .i64 0), (.slice none 0 0), (.int .i64 0), (.int .u64 0), (.int .u64 0), (.int .u64 0), (.int .u64 0), (.int .u64 0), (.int .u64 0), (.int .u64 0), (.int .u64 0), (.int .u64 0), (.int .u64 0), (.int .u64 0), (.int .u64 0), (.int .u64 0), (.int .u64 0), (.int .i64 0), (.int .i64 0), (.int .i64 0), (.int .i64 0), (.int .i64 0), (.int .i64 0), (.int .i64 0), (.int .i64 0), (.int .i64 0), (.int .i64 0), (.int .i64 0), (.bool false)], [(0, 1), (1, 1), (2, 34)]) := by kernel_rfl
@[go_sem ↓] theorem xBuild_252 (ps : List (Nat × Value)) (K : Value → Prop) : xBuild Tryz.prog 252 ps.toArray K = xFill [(.int .i64 0), (.int .u64 0), (.int .i64 0), (.int .i64 0), (.int .i64 0), (.int .i64 0), (.int .u64 0), (.int .i64 0), (.slice none 0 0), (.int .i64 0), (.int .u64 0), (.int .u64 0), (.int .u64 0), (.int .u64 0), (.int .u64 0), (.int .u64 0), (.int .u64 0), (.int .u64 0), (.int .u64 0), (.int .u64 0), (.int .u64 0), (.int .u64 0), (.int .u64 0), (.int .u64 0), (.int .i64 0), (.int .i64 0), (.int .i64 0), (.int .i64 0), (.int .i64 0), (.int .i64 0), (.int .i64 0), (.int .i64 0), (.int .i64 0), (.int .i64 0), (.int .i64 0), (.bool false)] [(0, 1), (1, 1), (2, 34)] ps fun z' => K (.agg z'.toArray) := xBuild_of bP_252 ps K
theorem bP_454 : bPl Tryz.prog 454 = some ([(.int .u64 0), (.int .u64 0)], [(0, 1), (1, 1)]) := by kernel_rfl
@[go_sem ↓] theorem xBuild_454 (ps : List (Nat × Value)) (K : Value → Prop) : xBuild Tryz.prog 454 ps.toArray K = xFill [(.int .u64 0), (.int .u64 0)] [(0, 1), (1, 1)] ps fun z' => K (.agg z'.toArray) := xBuild_of bP_454 ps K
theorem bS_25_0 : bSl Tryz.prog 25 0 = some (22, [], []) := by kernel_rfl
@[go_sem ↓] theorem xBS_25_0 (ps : List (Nat × Value)) (K : TypeId → List Value → Prop) : xBS Tryz.prog 25 0 ps.toArray K = xFill [] [] ps fun cs => K 22 cs := xBS_of bS_25_0 ps K
theorem bS_25_1 : bSl Tryz.prog 25 1 = some (22, [(.int .u64 0)], [(0, 1)]) := by kernel_rfl
@[go_sem ↓] theorem xBS_25_1 (ps : List (Nat × Value)) (K : TypeId → List Value → Prop) : xBS Tryz.prog 25 1 ps.toArray K = xFill [(.int .u64 0)] [(0, 1)] ps fun cs => K 22 cs := xBS_of bS_25_1 ps K
theorem bS_25_2 : bSl Tryz.prog 25 2 = some (22, [(.int .u64 0), (.int .u64 0)], [(0, 1), (1, 1)]) := by kernel_rfl
@[go_sem ↓] theorem xBS_25_2 (ps : List (Nat × Value)) (K : TypeId → List Value → Prop) : xBS Tryz.prog 25 2 ps.toArray K = xFill [(.int .u64 0), (.int .u64 0)] [(0, 1), (1, 1)] ps fun cs => K 22 cs := xBS_of bS_25_2 ps K
theorem bS_25_5 : bSl Tryz.prog 25 5 = some (22, [(.int .u64 0), (.int .u64 0), (.int .u64 0), (.int .u64 0), (.int .u64 0)], [(0, 1), (1, 1), (2, 1), (3, 1), (4, 1)]) := by kernel_rfl
@[go_sem ↓] theorem xBS_25_5 (ps : List (Nat × Value)) (K : TypeId → List Value → Prop) : xBS Tryz.prog 25 5 ps.toArray K = xFill [(.int .u64 0), (.int .u64 0), (.int .u64 0), (.int .u64 0), (.int .u64 0)] [(0, 1), (1, 1), (2, 1), (3, 1), (4, 1)] ps fun cs => K 22 cs := xBS_of bS_25_5 ps K
theorem bS_25_14 : bSl Tryz.prog 25 14 = some (22, [(.int .u64 0), (.int .u64 0), (.int .u64 0), (.int .u64 0), (.int .u64 0), (.int .u64 0), (.int .u64 0), (.int .u64 0), (.int .u64 0), (.int .u64 0), (.int .u64 0), (.int .u64 0), (.int .u64 0), (.int .u64 0)], [(0, 1), (1, 1), (2, 1), (3, 1), (4, 1), (5, 1), (6, 1), (7, 1), (8, 1), (9, 1), (10, 1), (11, 1), (12, 1), (13, 1)]) := by kernel_rfl
@[go_sem ↓] theorem xBS_25_14 (ps : List (Nat × Value)) (K : TypeId → List Value → Prop) : xBS Tryz.prog 25 14 ps.toArray K = xFill [(.int .u64 0), (.int .u64 0), (.int .u64 0), (.int .u64 0), (.int .u64 0), (.int .u64 0), (.int .u64 0), (.int .u64 0), (.int .u64 0), (.int .u64 0), (.int .u64 0), (.int .u64 0), (.int .u64 0), (.int .u64 0)] [(0, 1), (1, 1), (2, 1), (3, 1), (4, 1), (5, 1), (6, 1), (7, 1), (8, 1), (9, 1), (10, 1), (11, 1), (12, 1), (13, 1)] ps fun cs => K 22 cs := xBS_of bS_25_14 ps K
theorem bS_26_0 : bSl Tryz.prog 26 0 = some (181, [], []) := by kernel_rfl
@[go_sem ↓] theorem xBS_26_0 (ps : List (Nat × Value)) (K : TypeId → List Value → Prop) : xBS Tryz.prog 26 0 ps.toArray K = xFill [] [] ps fun cs => K 181 cs := xBS_of bS_26_0 ps K
theorem bS_26_1 : bSl Tryz.prog 26 1 = some (181, [(.int .u64 0), (.int .u64 0), (.int .u64 0), (.int .i64 0), (.int .i64 0), (.int .i64 0)], [(0, 6)]) := by kernel_rfl
@[go_sem ↓] theorem xBS_26_1 (ps : List (Nat × Value)) (K : TypeId → List Value → Prop) : xBS Tryz.prog 26 1 ps.toArray K = xFill [(.int .u64 0), (.int .u64 0), (.int .u64 0), (.int .i64 0), (.int .i64 0), (.int .i64 0)] [(0, 6)] ps fun cs => K 181 cs := xBS_of bS_26_1 ps K
theorem bS_27_0 : bSl Tryz.prog 27 0 = some (3, [], []) := by kernel_rfl
@[go_sem ↓] theorem xBS_27_0 (ps : List (Nat × Value)) (K : TypeId → List Value → Prop) : xBS Tryz.prog 27 0 ps.toArray K = xFill [] [] ps fun cs => K 3 cs := xBS_of bS_27_0 ps K
theorem bS_27_1 : bSl Tryz.prog 27 1 = some (3, [(.int .i64 0)], [(0, 1)]) := by kernel_rfl
@[go_sem ↓] theorem xBS_27_1 (ps : List (Nat × Value)) (K : TypeId → List Value → Prop) : xBS Tryz.prog 27 1 ps.toArray K = xFill [(.int .i64 0)] [(0, 1)] ps fun cs => K 3 cs := xBS_of bS_27_1 ps K
theorem bS_27_10 : bSl Tryz.prog 27 10 = some (3, [(.int .i64 0), (.int .i64 0), (.int .i64 0), (.int .i64 0), (.int .i64 0), (.int .i64 0), (.int .i64 0), (.int .i64 0), (.int .i64 0), (.int .i64 0)], [(0, 1), (1, 1), (2, 1), (3, 1), (4, 1), (5, 1), (6, 1), (7, 1), (8, 1), (9, 1)]) := by kernel_rfl
@[go_sem ↓] theorem xBS_27_10 (ps : List (Nat × Value)) (K : TypeId → List Value → Prop) : xBS Tryz.prog 27 10 ps.toArray K = xFill [(.int .i64 0), (.int .i64 0), (.int .i64 0), (.int .i64 0), (.int .i64 0), (.int .i64 0), (.int .i64 0), (.int .i64 0), (.int .i64 0), (.int .i64 0)] [(0, 1), (1, 1), (2, 1), (3, 1), (4, 1), (5, 1), (6, 1), (7, 1), (8, 1), (9, 1)] ps fun cs => K 3 cs := xBS_of bS_27_10 ps K
theorem bS_28_0 : bSl Tryz.prog 28 0 = some (225, [], []) := by kernel_rfl
@[go_sem ↓] theorem xBS_28_0 (ps : List (Nat × Value)) (K : TypeId → List Value → Prop) : xBS Tryz.prog 28 0 ps.toArray K = xFill [] [] ps fun cs => K 225 cs := xBS_of bS_28_0 ps K
theorem bS_28_1 : bSl Tryz.prog 28 1 = some (225, [(.int .i64 0), (.int .i64 0), (.int .u64 0), (.bool false)], [(0, 4)]) := by kernel_rfl
@[go_sem ↓] theorem xBS_28_1 (ps : List (Nat × Value)) (K : TypeId → List Value → Prop) : xBS Tryz.prog 28 1 ps.toArray K = xFill [(.int .i64 0), (.int .i64 0), (.int .u64 0), (.bool false)] [(0, 4)] ps fun cs => K 225 cs := xBS_of bS_28_1 ps K
theorem bS_29_0 : bSl Tryz.prog 29 0 = some (64, [], []) := by kernel_rfl
@[go_sem ↓] theorem xBS_29_0 (ps : List (Nat × Value)) (K : TypeId → List Value → Prop) : xBS Tryz.prog 29 0 ps.toArray K = xFill [] [] ps fun cs => K 64 cs := xBS_of bS_29_0 ps K
theorem bS_29_1 : bSl Tryz.prog 29 1 = some (64, [(.int .i64 0), (.int .i64 0), (.int .u64 0)], [(0, 3)]) := by kernel_rfl
@[go_sem ↓] theorem xBS_29_1 (ps : List (Nat × Value)) (K : TypeId → List Value → Prop) : xBS Tryz.prog 29 1 ps.toArray K = xFill [(.int .i64 0), (.int .i64 0), (.int .u64 0)] [(0, 3)] ps fun cs => K 64 cs := xBS_of bS_29_1 ps K
theorem bS_30_0 : bSl Tryz.prog 30 0 = some (123, [], []) := by kernel_rfl
@[go_sem ↓] theorem xBS_30_0 (ps : List (Nat × Value)) (K : TypeId → List Value → Prop) : xBS Tryz.prog 30 0 ps.toArray K = xFill [] [] ps fun cs => K 123 cs := xBS_of bS_30_0 ps K
theorem bS_30_1 : bSl Tryz.prog 30 1 = some (123, [(.int .i64 0), (.int .i64 0), (.int .u64 0), (.int .u64 0), (.int .u64 0), (.int .u64 0), (.int .u64 0), (.int .u64 0), (.int .u64 0), (.int .u64 0), (.int .u64 0), (.int .u64 0), (.int .u64 0), (.int .u64 0), (.int .u64 0), (.int .u64 0), (.int .i64 0), (.int .i64 0), (.int .i64 0), (.int .i64 0), (.int .i64 0), (.int .i64 0), (.int .i64 0), (.int .i64 0), (.int .i64 0), (.int .i64 0), (.int .i64 0), (.int .u64 0), (.int .i64 0), (.int .i64 0), (.int .i64 0), (.slice none 0 0), (.slice none 0 0)], [(0, 33)]) := by kernel_rfl
@[go_sem ↓] theorem xBS_30_1 (ps : List (Nat × Value)) (K : TypeId → List Value → Prop) : xBS Tryz.prog 30 1 ps.toArray K = xFill [(.int .i64 0), (.int .i64 0), (.int .u64 0), (.int .u64 0), (.int .u64 0), (.int .u64 0), (.int .u64 0), (.int .u64 0), (.int .u64 0), (.int .u64 0), (.int .u64 0), (.int .u64 0), (.int .u64 0), (.int .u64 0), (.int .u64 0), (.int .u64 0), (.int .i64 0), (.int .i64 0), (.int .i64 0), (.int .i64 0), (.int .i64 0), (.int .i64 0), (.int .i64 0), (.int .i64 0), (.int .i64 0), (.int .i64 0), (.int .i64 0), (.int .u64 0), (.int .i64 0), (.int .i64 0), (.int .i64 0), (.slice none 0 0), (.slice none 0 0)] [(0, 33)] ps fun cs => K 123 cs := xBS_of bS_30_1 ps K
theorem bS_31_0 : bSl Tryz.prog 31 0 = some (5, [], []) := by kernel_rfl
@[go_sem ↓] theorem xBS_31_0 (ps : List (Nat × Value)) (K : TypeId → List Value → Prop) : xBS Tryz.prog 31 0 ps.toArray K = xFill [] [] ps fun cs => K 5 cs := xBS_of bS_31_0 ps K
theorem bS_31_1 : bSl Tryz.prog 31 1 = some (5, [(.int .u8 0)], [(0, 1)]) := by kernel_rfl
@[go_sem ↓] theorem xBS_31_1 (ps : List (Nat × Value)) (K : TypeId → List Value → Prop) : xBS Tryz.prog 31 1 ps.toArray K = xFill [(.int .u8 0)] [(0, 1)] ps fun cs => K 5 cs := xBS_of bS_31_1 ps K
theorem bS_31_7 : bSl Tryz.prog 31 7 = some (5, [(.int .u8 0), (.int .u8 0), (.int .u8 0), (.int .u8 0), (.int .u8 0), (.int .u8 0), (.int .u8 0)], [(0, 1), (1, 1), (2, 1), (3, 1), (4, 1), (5, 1), (6, 1)]) := by kernel_rfl
@[go_sem ↓] theorem xBS_31_7 (ps : List (Nat × Value)) (K : TypeId → List Value → Prop) : xBS Tryz.prog 31 7 ps.toArray K = xFill [(.int .u8 0), (.int .u8 0), (.int .u8 0), (.int .u8 0), (.int .u8 0), (.int .u8 0), (.int .u8 0)] [(0, 1), (1, 1), (2, 1), (3, 1), (4, 1), (5, 1), (6, 1)] ps fun cs => K 5 cs := xBS_of bS_31_7 ps K
theorem bS_32_0 : bSl Tryz.prog 32 0 = some (31, [], []) := by kernel_rfl
@[go_sem ↓] theorem xBS_32_0 (ps : List (Nat × Value)) (K : TypeId → List Value → Prop) : xBS Tryz.prog 32 0 ps.toArray K = xFill [] [] ps fun cs => K 31 cs := xBS_of bS_32_0 ps K
theorem bS_32_1 : bSl Tryz.prog 32 1 = some (31, [(.slice none 0 0)], [(0, 1)]) := by kernel_rfl
@[go_sem ↓] theorem xBS_32_1 (ps : List (Nat × Value)) (K : TypeId → List Value → Prop) : xBS Tryz.prog 32 1 ps.toArray K = xFill [(.slice none 0 0)] [(0, 1)] ps fun cs => K 31 cs := xBS_of bS_32_1 ps K
theorem bS_41_1 : bSl Tryz.prog 41 1 = some (148, [(.int .u64 0), (.int .u64 0), (.int .u64 0), (.int .i64 0), (.int .i64 0), (.int .i64 0)], [(0, 6)]) := by kernel_rfl
@[go_sem ↓] theorem xBS_41_1 (ps : List (Nat × Value)) (K : TypeId → List Value → Prop) : xBS Tryz.prog 41 1 ps.toArray K = xFill [(.int .u64 0), (.int .u64 0), (.int .u64 0), (.int .i64 0), (.int .i64 0), (.int .i64 0)] [(0, 6)] ps fun cs => K 148 cs := xBS_of bS_41_1 ps K
theorem bS_42_1 : bSl Tryz.prog 42 1 = some (159, [(.int .i64 0), (.int .i64 0), (.int .u64 0), (.bool false)], [(0, 4)]) := by kernel_rfl
@[go_sem ↓] theorem xBS_42_1 (ps : List (Nat × Value)) (K : TypeId → List Value → Prop) : xBS Tryz.prog 42 1 ps.toArray K = xFill [(.int .i64 0), (.int .i64 0), (.int .u64 0), (.bool false)] [(0, 4)] ps fun cs => K 159 cs := xBS_of bS_42_1 ps K
theorem bS_43_1 : bSl Tryz.prog 43 1 = some (160, [(.int .i64 0), (.int .i64 0), (.int .u64 0)], [(0, 3)]) := by kernel_rfl
@[go_sem ↓] theorem xBS_43_1 (ps : List (Nat × Value)) (K : TypeId → List Value → Prop) : xBS Tryz.prog 43 1 ps.toArray K = xFill [(.int .i64 0), (.int .i64 0), (.int .u64 0)] [(0, 3)] ps fun cs => K 160 cs := xBS_of bS_43_1 ps K
theorem bS_44_1 : bSl Tryz.prog 44 1 = some (150, [(.int .i64 0), (.int .i64 0), (.int .u64 0), (.int .u64 0), (.int .u64 0), (.int .u64 0), (.int .u64 0), (.int .u64 0), (.int .u64 0), (.int .u64 0), (.int .u64 0), (.int .u64 0), (.int .u64 0), (.int .u64 0), (.int .u64 0), (.int .u64 0), (.int .i64 0), (.int .i64 0), (.int .i64 0), (.int .i64 0), (.int .i64 0), (.int .i64 0), (.int .i64 0), (.int .i64 0), (.int .i64 0), (.int .i64 0), (.int .i64 0), (.int .u64 0), (.int .i64 0), (.int .i64 0), (.int .i64 0), (.slice none 0 0), (.slice none 0 0)], [(0, 33)]) := by kernel_rfl
@[go_sem ↓] theorem xBS_44_1 (ps : List (Nat × Value)) (K : TypeId → List Value → Prop) : xBS Tryz.prog 44 1 ps.toArray K = xFill [(.int .i64 0), (.int .i64 0), (.int .u64 0), (.int .u64 0), (.int .u64 0), (.int .u64 0), (.int .u64 0), (.int .u64 0), (.int .u64 0), (.int .u64 0), (.int .u64 0), (.int .u64 0), (.int .u64 0), (.int .u64 0), (.int .u64 0), (.int .u64 0), (.int .i64 0), (.int .i64 0), (.int .i64 0), (.int .i64 0), (.int .i64 0), (.int .i64 0), (.int .i64 0), (.int .i64 0), (.int .i64 0), (.int .i64 0), (.int .i64 0), (.int .u64 0), (.int .i64 0), (.int .i64 0), (.int .i64 0), (.slice none 0 0), (.slice none 0 0)] [(0, 33)] ps fun cs => K 150 cs := xBS_of bS_44_1 ps K
theorem bS_56_1 : bSl Tryz.prog 56 1 = some (61, [(.int .i64 0), (.int .u64 0)], [(0, 2)]) := by kernel_rfl
@[go_sem ↓] theorem xBS_56_1 (ps : List (Nat × Value)) (K : TypeId → List Value → Prop) : xBS Tryz.prog 56 1 ps.toArray K = xFill [(.int .i64 0), (.int .u64 0)] [(0, 2)] ps fun cs => K 61 cs := xBS_of bS_56_1 ps K
theorem bS_56_2 : bSl Tryz.prog 56 2 = some (61, [(.int .i64 0), (.int .u64 0), (.int .i64 0), (.int .u64 0)], [(0, 2), (2, 2)]) := by kernel_rfl
@[go_sem ↓] theorem xBS_56_2 (ps : List (Nat × Value)) (K : TypeId → List Value → Prop) : xBS Tryz.prog 56 2 ps.toArray K = xFill [(.int .i64 0), (.int .u64 0), (.int .i64 0), (.int .u64 0)] [(0, 2), (2, 2)] ps fun cs => K 61 cs := xBS_of bS_56_2 ps K
theorem bS_66_1 : bSl Tryz.prog 66 1 = some (70, [(.int .i64 0), (.bool false), (.int .u64 0), (.int .u64 0), (.int .u64 0), (.int .u64 0), (.int .i64 0), (.int .u64 0)], [(0, 8)]) := by kernel_rfl
@[go_sem ↓] theorem xBS_66_1 (ps : List (Nat × Value)) (K : TypeId → List Value → Prop) : xBS Tryz.prog 66 1 ps.toArray K = xFill [(.int .i64 0), (.bool false), (.int .u64 0), (.int .u64 0), (.int .u64 0), (.int .u64 0), (.int .i64 0), (.int .u64 0)] [(0, 8)] ps fun cs => K 70 cs := xBS_of bS_66_1 ps K
theorem bS_73_1 : bSl Tryz.prog 73 1 = some (76, [(.int .i64 0), (.bool false), (.int .u64 0), (.int .u64 0), (.int .u64 0), (.int .u64 0), (.int .i64 0), (.int .u64 0)], [(0, 8)]) := by kernel_rfl
@[go_sem ↓] theorem xBS_73_1 (ps : List (Nat × Value)) (K : TypeId → List Value → Prop) : xBS Tryz.prog 73 1 ps.toArray K = xFill [(.int .i64 0), (.bool false), (.int .u64 0), (.int .u64 0), (.int .u64 0), (.int .u64 0), (.int .i64 0), (.int .u64 0)] [(0, 8)] ps fun cs => K 76 cs := xBS_of bS_73_1 ps K
theorem bS_95_1 : bSl Tryz.prog 95 1 = some (85, [(.int .i64 0), (.int .i64 0), (.int .i64 0), (.int .i64 0), (.int .u64 0), (.int .i64 0), (.slice none 0 0), (.int .i64 0), (.int .u64 0), (.int .u64 0), (.int .u64 0), (.int .u64 0), (.int .u64 0), (.int .u64 0), (.int .u64 0), (.int .u64 0), (.int .u64 0), (.int .u64 0), (.int .u64 0), (.int .u64 0), (.int .u64 0), (.int .u64 0), (.int .i64 0), (.int .i64 0), (.int .i64 0), (.int .i64 0), (.int .i64 0), (.int .i64 0), (.int .i64 0), (.int .i64 0), (.int .i64 0), (.int .i64 0), (.int .i64 0), (.bool false)], [(0, 34)]) := by kernel_rfl
@[go_sem ↓] theorem xBS_95_1 (ps : List (Nat × Value)) (K : TypeId → List Value → Prop) : xBS Tryz.prog 95 1 ps.toArray K = xFill [(.int .i64 0), (.int .i64 0), (.int .i64 0), (.int .i64 0), (.int .u64 0), (.int .i64 0), (.slice none 0 0), (.int .i64 0), (.int .u64 0), (.int .u64 0), (.int .u64 0), (.int .u64 0), (.int .u64 0), (.int .u64 0), (.int .u64 0), (.int .u64 0), (.int .u64 0), (.int .u64 0), (.int .u64 0), (.int .u64 0), (.int .u64 0), (.int .u64 0), (.int .i64 0), (.int .i64 0), (.int .i64 0), (.int .i64 0), (.int .i64 0), (.int .i64 0), (.int .i64 0), (.int .i64 0), (.int .i64 0), (.int .i64 0), (.int .i64 0), (.bool false)] [(0, 34)] ps fun cs => K 85 cs := xBS_of bS_95_1 ps K
theorem bS_99_1 : bSl Tryz.prog 99 1 = some (98, [(.int .i64 0), (.slice none 0 0)], [(0, 2)]) := by kernel_rfl
@[go_sem ↓] theorem xBS_99_1 (ps : List (Nat × Value)) (K : TypeId → List Value → Prop) : xBS Tryz.prog 99 1 ps.toArray K = xFill [(.int .i64 0), (.slice none 0 0)] [(0, 2)] ps fun cs => K 98 cs := xBS_of bS_99_1 ps K
theorem bS_107_1 : bSl Tryz.prog 107 1 = some (105, [(.int .i64 0), (.int .i64 0), (.int .i64 0), (.int .i64 0), (.int .i64 0), (.int .i64 0), (.int .u64 0), (.int .i64 0), (.slice none 0 0), (.int .i64 0), (.int .u64 0), (.int .u64 0), (.int .u64 0), (.int .u64 0), (.int .u64 0), (.int .u64 0), (.int .u64 0), (.int .u64 0), (.int .u64 0), (.int .u64 0), (.int .u64 0), (.int .u64 0), (.int .u64 0), (.int .u64 0), (.int .i64 0), (.int .i64 0), (.int .i64 0), (.int .i64 0), (.int .i64 0), (.int .i64 0), (.int .i64 0), (.int .i64 0), (.int .i64 0), (.int .i64 0), (.int .i64 0), (.bool false), (.int .u64 0)], [(0, 37)]) := by kernel_rfl
@[go_sem ↓] theorem xBS_107_1 (ps : List (Nat × Value)) (K : TypeId → List Value → Prop) : xBS Tryz.prog 107 1 ps.toArray K = xFill [(.int .i64 0), (.int .i64 0), (.int .i64 0), (.int .i64 0), (.int .i64 0), (.int .i64 0), (.int .u64 0), (.int .i64 0), (.slice none 0 0), (.int .i64 0), (.int .u64 0), (.int .u64 0), (.int .u64 0), (.int .u64 0), (.int .u64 0), (.int .u64 0), (.int .u64 0), (.int .u64 0), (.int .u64 0), (.int .u64 0), (.int .u64 0), (.int .u64 0), (.int .u64 0), (.int .u64 0), (.int .i64 0), (.int .i64 0), (.int .i64 0), (.int .i64 0), (.int .i64 0), (.int .i64 0), (.int .i64 0), (.int .i64 0), (.int .i64 0), (.int .i64 0), (.int .i64 0), (.bool false), (.int .u64 0)] [(0, 37)] ps fun cs => K 105 cs := xBS_of bS_107_1 ps K
theorem bS_109_1 : bSl Tryz.prog 109 1 = some (252, [(.int .i64 0), (.int .u64 0), (.int .i64 0), (.int .i64 0), (.int .i64 0), (.int .i64 0), (.int .u64 0), (.int .i64 0), (.slice none 0 0), (.int .i64 0), (.int .u64 0), (.int .u64 0), (.int .u64 0), (.int .u64 0), (.int .u64 0), (.int .u64 0), (.int .u64 0), (.int .u64 0), (.int .u64 0), (.int .u64 0), (.int .u64 0), (.int .u64 0), (.int .u64 0), (.int .u64 0), (.int .i64 0), (.int .i64 0), (.int .i64 0), (.int .i64 0), (.int .i64 0), (.int .i64 0), (.int .i64 0), (.int .i64 0), (.int .i64 0), (.int .i64 0), (.int .i64 0), (.bool false)], [(0, 36)]) := by kernel_rfl
@[go_sem ↓] theorem xBS_109_1 (ps : List (Nat × Value)) (K : TypeId → List Value → Prop) : xBS Tryz.prog 109 1 ps.toArray K = xFill [(.int .i64 0), (.int .u64 0), (.int .i64 0), (.int .i64 0), (.int .i64 0), (.int .i64 0), (.int .u64 0), (.int .i64 0), (.slice none 0 0), (.int .i64 0), (.int .u64 0), (.int .u64 0), (.int .u64 0), (.int .u64 0), (.int .u64 0), (.int .u64 0), (.int .u64 0), (.int .u64 0), (.int .u64 0), (.int .u64 0), (.int .u64 0), (.int .u64 0), (.int .u64 0), (.int .u64 0), (.int .i64 0), (.int .i64 0), (.int .i64 0), (.int .i64 0), (.int .i64 0), (.int .i64 0), (.int .i64 0), (.int .i64 0), (.int .i64 0), (.int .i64 0), (.int .i64 0), (.bool false)] [(0, 36)] ps fun cs => K 252 cs := xBS_of bS_109_1 ps K
theorem bS_112_2 : bSl Tryz.prog 112 2 = some (108, [(.pointer none), (.pointer none)], [(0, 1), (1, 1)]) := by kernel_rfl
@[go_sem ↓] theorem xBS_112_2 (ps : List (Nat × Value)) (K : TypeId → List Value → Prop) : xBS Tryz.prog 112 2 ps.toArray K = xFill [(.pointer none), (.pointer none)] [(0, 1), (1, 1)] ps fun cs => K 108 cs := xBS_of bS_112_2 ps K
theorem bS_187_1 : bSl Tryz.prog 187 1 = some (179, [(.int .u64 0), (.int .u64 0), (.int .u64 0), (.int .i64 0)], [(0, 4)]) := by kernel_rfl
@[go_sem ↓] theorem xBS_187_1 (ps : List (Nat × Value)) (K : TypeId → List Value → Prop) : xBS Tryz.prog 187 1 ps.toArray K = xFill [(.int .u64 0), (.int .u64 0), (.int .u64 0), (.int .i64 0)] [(0, 4)] ps fun cs => K 179 cs := xBS_of bS_187_1 ps K
theorem bS_361_1 : bSl Tryz.prog 361 1 = some (4, [(.bool false)], [(0, 1)]) := by kernel_rfl
@[go_sem ↓] theorem xBS_361_1 (ps : List (Nat × Value)) (K : TypeId → List Value → Prop) : xBS Tryz.prog 361 1 ps.toArray K = xFill [(.bool false)] [(0, 1)] ps fun cs => K 4 cs := xBS_of bS_361_1 ps K
theorem bS_361_6 : bSl Tryz.prog 361 6 = some (4, [(.bool false), (.bool false), (.bool false), (.bool false), (.bool false), (.bool false)], [(0, 1), (1, 1), (2, 1), (3, 1), (4, 1), (5, 1)]) := by kernel_rfl
@[go_sem ↓] theorem xBS_361_6 (ps : List (Nat × Value)) (K : TypeId → List Value → Prop) : xBS Tryz.prog 361 6 ps.toArray K = xFill [(.bool false), (.bool false), (.bool false), (.bool false), (.bool false), (.bool false)] [(0, 1), (1, 1), (2, 1), (3, 1), (4, 1), (5, 1)] ps fun cs => K 4 cs := xBS_of bS_361_6 ps K
theorem bS_361_7 : bSl Tryz.prog 361 7 = some (4, [(.bool false), (.bool false), (.bool false), (.bool false), (.bool false), (.bool false), (.bool false)], [(0, 1), (1, 1), (2, 1), (3, 1), (4, 1), (5, 1), (6, 1)]) := by kernel_rfl
@[go_sem ↓] theorem xBS_361_7 (ps : List (Nat × Value)) (K : TypeId → List Value → Prop) : xBS Tryz.prog 361 7 ps.toArray K = xFill [(.bool false), (.bool false), (.bool false), (.bool false), (.bool false), (.bool false), (.bool false)] [(0, 1), (1, 1), (2, 1), (3, 1), (4, 1), (5, 1), (6, 1)] ps fun cs => K 4 cs := xBS_of bS_361_7 ps K
theorem bS_361_12 : bSl Tryz.prog 361 12 = some (4, [(.bool false), (.bool false), (.bool false), (.bool false), (.bool false), (.bool false), (.bool false), (.bool false), (.bool false), (.bool false), (.bool false), (.bool false)], [(0, 1), (1, 1), (2, 1), (3, 1), (4, 1), (5, 1), (6, 1), (7, 1), (8, 1), (9, 1), (10, 1), (11, 1)]) := by kernel_rfl
@[go_sem ↓] theorem xBS_361_12 (ps : List (Nat × Value)) (K : TypeId → List Value → Prop) : xBS Tryz.prog 361 12 ps.toArray K = xFill [(.bool false), (.bool false), (.bool false), (.bool false), (.bool false), (.bool false), (.bool false), (.bool false), (.bool false), (.bool false), (.bool false), (.bool false)] [(0, 1), (1, 1), (2, 1), (3, 1), (4, 1), (5, 1), (6, 1), (7, 1), (8, 1), (9, 1), (10, 1), (11, 1)] ps fun cs => K 4 cs := xBS_of bS_361_12 ps K
theorem fO_24_0 : fOff Tryz.prog 24 0 = some 0 := by kernel_rfl
@[go_sem ↓] theorem xFO_24_0 (K : Nat → Prop) : xFO Tryz.prog 24 0 K = K 0 := xFO_of fO_24_0 K
theorem fO_24_1 : fOff Tryz.prog 24 1 = some 1 := by kernel_rfl
@[go_sem ↓] theorem xFO_24_1 (K : Nat → Prop) : xFO Tryz.prog 24 1 K = K 1 := xFO_of fO_24_1 K
theorem fO_24_2 : fOff Tryz.prog 24 2 = some 2 := by kernel_rfl
@[go_sem ↓] theorem xFO_24_2 (K : Nat → Prop) : xFO Tryz.prog 24 2 K = K 2 := xFO_of fO_24_2 K
theorem fO_24_3 : fOff Tryz.prog 24 3 = some 3 := by kernel_rfl
@[go_sem ↓] theorem xFO_24_3 (K : Nat → Prop) : xFO Tryz.prog 24 3 K = K 3 := xFO_of fO_24_3 K
theorem fO_24_4 : fOff Tryz.prog 24 4 = some 4 := by kernel_rfl
@[go_sem ↓] theorem xFO_24_4 (K : Nat → Prop) : xFO Tryz.prog 24 4 K = K 4 := xFO_of fO_24_4 K
theorem fO_24_5 : fOff Tryz.prog 24 5 = some 5 := by kernel_rfl
@[go_sem ↓] theorem xFO_24_5 (K : Nat → Prop) : xFO Tryz.prog 24 5 K = K 5 := xFO_of fO_24_5 K
theorem fO_24_6 : fOff Tryz.prog 24 6 = some 6 := by kernel_rfl
@[go_sem ↓] theorem xFO_24_6 (K : Nat → Prop) : xFO Tryz.prog 24 6 K = K 6 := xFO_of fO_24_6 K
theorem fO_24_7 : fOff Tryz.prog 24 7 = some 7 := by kernel_rfl
@[go_sem ↓] theorem xFO_24_7 (K : Nat → Prop) : xFO Tryz.prog 24 7 K = K 7 := xFO_of fO_24_7 K
theorem fO_24_8 : fOff Tryz.prog 24 8 = some 8 := by kernel_rfl
@[go_sem ↓] theorem xFO_24_8 (K : Nat → Prop) : xFO Tryz.prog 24 8 K = K 8 := xFO_of fO_24_8 K
theorem fO_24_9 : fOff Tryz.prog 24 9 = some 9 := by kernel_rfl
@[go_sem ↓] theorem xFO_24_9 (K : Nat → Prop) : xFO Tryz.prog 24 9 K = K 9 := xFO_of fO_24_9 K
theorem fO_24_10 : fOff Tryz.prog 24 10 = some 10 := by kernel_rfl
@[go_sem ↓] theorem xFO_24_10 (K : Nat → Prop) : xFO Tryz.prog 24 10 K = K 10 := xFO_of fO_24_10 K
theorem fO_24_11 : fOff Tryz.prog 24 11 = some 11 := by kernel_rfl
@[go_sem ↓] theorem xFO_24_11 (K : Nat → Prop) : xFO Tryz.prog 24 11 K = K 11 := xFO_of fO_24_11 K
theorem fO_24_12 : fOff Tryz.prog 24 12 = some 12 := by kernel_rfl
@[go_sem ↓] theorem xFO_24_12 (K : Nat → Prop) : xFO Tryz.prog 24 12 K = K 12 := xFO_of fO_24_12 K
theorem fO_24_13 : fOff Tryz.prog 24 13 = some 13 := by kernel_rfl
@[go_sem ↓] theorem xFO_24_13 (K : Nat → Prop) : xFO Tryz.prog 24 13 K = K 13 := xFO_of fO_24_13 K
theorem fO_24_14 : fOff Tryz.prog 24 14 = some 14 := by kernel_rfl
@[go_sem ↓] theorem xFO_24_14 (K : Nat → Prop) : xFO Tryz.prog 24 14 K = K 14 := xFO_of fO_24_14 K
theorem fO_24_15 : fOff Tryz.prog 24 15 = some 15 := by kernel_rfl
@[go_sem ↓] theorem xFO_24_15 (K : Nat → Prop) : xFO Tryz.prog 24 15 K = K 15 := xFO_of fO_24_15 K
theorem fO_24_16 : fOff Tryz.prog 24 16 = some 16 := by kernel_rfl
@[go_sem ↓] theorem xFO_24_16 (K : Nat → Prop) : xFO Tryz.prog 24 16 K = K 16 := xFO_of fO_24_16 K
theorem fO_24_17 : fOff Tryz.prog 24 17 = some 17 := by kernel_rfl
@[go_sem ↓] theorem xFO_24_17 (K : Nat → Prop) : xFO Tryz.prog 24 17 K = K 17 := xFO_of fO_24_17 K
theorem fO_24_18 : fOff Tryz.prog 24 18 = some 18 := by kernel_rfl
@[go_sem ↓] theorem xFO_24_18 (K : Nat → Prop) : xFO Tryz.prog 24 18 K = K 18 := xFO_of fO_24_18 K
theorem fO_24_19 : fOff Tryz.prog 24 19 = some 19 := by kernel_rfl
@[go_sem ↓] theorem xFO_24_19 (K : Nat → Prop) : xFO Tryz.prog 24 19 K = K 19 := xFO_of fO_24_19 K
theorem fO_24_20 : fOff Tryz.prog 24 20 = some 20 := by kernel_rfl
@[go_sem ↓] theorem xFO_24_20 (K : Nat → Prop) : xFO Tryz.prog 24 20 K = K 20 := xFO_of fO_24_20 K
theorem fO_24_21 : fOff Tryz.prog 24 21 = some 21 := by kernel_rfl
@[go_sem ↓] theorem xFO_24_21 (K : Nat → Prop) : xFO Tryz.prog 24 21 K = K 21 := xFO_of fO_24_21 K
theorem fO_24_22 : fOff Tryz.prog 24 22 = some 22 := by kernel_rfl
@[go_sem ↓] theorem xFO_24_22 (K : Nat → Prop) : xFO Tryz.prog 24 22 K = K 22 := xFO_of fO_24_22 K
theorem fO_24_23 : fOff Tryz.prog 24 23 = some 23 := by kernel_rfl
@[go_sem ↓] theorem xFO_24_23 (K : Nat → Prop) : xFO Tryz.prog 24 23 K = K 23 := xFO_of fO_24_23 K
theorem fO_34_0 : fOff Tryz.prog 34 0 = some 0 := by kernel_rfl
@[go_sem ↓] theorem xFO_34_0 (K : Nat → Prop) : xFO Tryz.prog 34 0 K = K 0 := xFO_of fO_34_0 K
theorem fO_34_1 : fOff Tryz.prog 34 1 = some 24 := by kernel_rfl
@[go_sem ↓] theorem xFO_34_1 (K : Nat → Prop) : xFO Tryz.prog 34 1 K = K 24 := xFO_of fO_34_1 K
theorem fO_34_2 : fOff Tryz.prog 34 2 = some 25 := by kernel_rfl
@[go_sem ↓] theorem xFO_34_2 (K : Nat → Prop) : xFO Tryz.prog 34 2 K = K 25 := xFO_of fO_34_2 K
theorem fO_34_3 : fOff Tryz.prog 34 3 = some 26 := by kernel_rfl
@[go_sem ↓] theorem xFO_34_3 (K : Nat → Prop) : xFO Tryz.prog 34 3 K = K 26 := xFO_of fO_34_3 K
theorem fO_34_4 : fOff Tryz.prog 34 4 = some 27 := by kernel_rfl
@[go_sem ↓] theorem xFO_34_4 (K : Nat → Prop) : xFO Tryz.prog 34 4 K = K 27 := xFO_of fO_34_4 K
theorem fO_34_5 : fOff Tryz.prog 34 5 = some 28 := by kernel_rfl
@[go_sem ↓] theorem xFO_34_5 (K : Nat → Prop) : xFO Tryz.prog 34 5 K = K 28 := xFO_of fO_34_5 K
theorem fO_34_6 : fOff Tryz.prog 34 6 = some 29 := by kernel_rfl
@[go_sem ↓] theorem xFO_34_6 (K : Nat → Prop) : xFO Tryz.prog 34 6 K = K 29 := xFO_of fO_34_6 K
theorem fO_34_7 : fOff Tryz.prog 34 7 = some 30 := by kernel_rfl
@[go_sem ↓] theorem xFO_34_7 (K : Nat → Prop) : xFO Tryz.prog 34 7 K = K 30 := xFO_of fO_34_7 K
theorem fO_34_8 : fOff Tryz.prog 34 8 = some 31 := by kernel_rfl
@[go_sem ↓] theorem xFO_34_8 (K : Nat → Prop) : xFO Tryz.prog 34 8 K = K 31 := xFO_of fO_34_8 K
theorem fO_34_9 : fOff Tryz.prog 34 9 = some 32 := by kernel_rfl
@[go_sem ↓] theorem xFO_34_9 (K : Nat → Prop) : xFO Tryz.prog 34 9 K = K 32 := xFO_of fO_34_9 K
theorem fO_34_10 : fOff Tryz.prog 34 10 = some 33 := by kernel_rfl
@[go_sem ↓] theorem xFO_34_10 (K : Nat → Prop) : xFO Tryz.prog 34 10 K = K 33 := xFO_of fO_34_10 K
theorem fO_34_11 : fOff Tryz.prog 34 11 = some 34 := by kernel_rfl
@[go_sem ↓] theorem xFO_34_11 (K : Nat → Prop) : xFO Tryz.prog 34 11 K = K 34 := xFO_of fO_34_11 K
theorem fO_34_12 : fOff Tryz.prog 34 12 = some 35 := by kernel_rfl
@[go_sem ↓] theorem xFO_34_12 (K : Nat → Prop) : xFO Tryz.prog 34 12 K = K 35 := xFO_of fO_34_12 K
theorem fO_34_13 : fOff Tryz.prog 34 13 = some 36 := by kernel_rfl
@[go_sem ↓] theorem xFO_34_13 (K : Nat → Prop) : xFO Tryz.prog 34 13 K = K 36 := xFO_of fO_34_13 K
theorem fO_34_14 : fOff Tryz.prog 34 14 = some 37 := by kernel_rfl
@[go_sem ↓] theorem xFO_34_14 (K : Nat → Prop) : xFO Tryz.prog 34 14 K = K 37 := xFO_of fO_34_14 K
theorem fO_34_15 : fOff Tryz.prog 34 15 = some 38 := by kernel_rfl
@[go_sem ↓] theorem xFO_34_15 (K : Nat → Prop) : xFO Tryz.prog 34 15 K = K 38 := xFO_of fO_34_15 K
theorem fO_34_16 : fOff Tryz.prog 34 16 = some 39 := by kernel_rfl
@[go_sem ↓] theorem xFO_34_16 (K : Nat → Prop) : xFO Tryz.prog 34 16 K = K 39 := xFO_of fO_34_16 K
theorem fO_34_17 : fOff Tryz.prog 34 17 = some 40 := by kernel_rfl
@[go_sem ↓] theorem xFO_34_17 (K : Nat → Prop) : xFO Tryz.prog 34 17 K = K 40 := xFO_of fO_34_17 K
theorem fO_40_0 : fOff Tryz.prog 40 0 = some 0 := by kernel_rfl
@[go_sem ↓] theorem xFO_40_0 (K : Nat → Prop) : xFO Tryz.prog 40 0 K = K 0 := xFO_of fO_40_0 K
theorem fO_40_1 : fOff Tryz.prog 40 1 = some 1 := by kernel_rfl
@[go_sem ↓] theorem xFO_40_1 (K : Nat → Prop) : xFO Tryz.prog 40 1 K = K 1 := xFO_of fO_40_1 K
theorem fO_40_2 : fOff Tryz.prog 40 2 = some 2 := by kernel_rfl
@[go_sem ↓] theorem xFO_40_2 (K : Nat → Prop) : xFO Tryz.prog 40 2 K = K 2 := xFO_of fO_40_2 K
theorem fO_40_3 : fOff Tryz.prog 40 3 = some 3 := by kernel_rfl
@[go_sem ↓] theorem xFO_40_3 (K : Nat → Prop) : xFO Tryz.prog 40 3 K = K 3 := xFO_of fO_40_3 K
theorem fO_40_4 : fOff Tryz.prog 40 4 = some 4 := by kernel_rfl
@[go_sem ↓] theorem xFO_40_4 (K : Nat → Prop) : xFO Tryz.prog 40 4 K = K 4 := xFO_of fO_40_4 K
theorem fO_40_5 : fOff Tryz.prog 40 5 = some 5 := by kernel_rfl
@[go_sem ↓] theorem xFO_40_5 (K : Nat → Prop) : xFO Tryz.prog 40 5 K = K 5 := xFO_of fO_40_5 K
theorem fO_40_6 : fOff Tryz.prog 40 6 = some 6 := by kernel_rfl
@[go_sem ↓] theorem xFO_40_6 (K : Nat → Prop) : xFO Tryz.prog 40 6 K = K 6 := xFO_of fO_40_6 K
theorem fO_40_7 : fOff Tryz.prog 40 7 = some 7 := by kernel_rfl
@[go_sem ↓] theorem xFO_40_7 (K : Nat → Prop) : xFO Tryz.prog 40 7 K = K 7 := xFO_of fO_40_7 K
theorem fO_40_8 : fOff Tryz.prog 40 8 = some 8 := by kernel_rfl
@[go_sem ↓] theorem xFO_40_8 (K : Nat → Prop) : xFO Tryz.prog 40 8 K = K 8 := xFO_of fO_40_8 K
theorem fO_40_9 : fOff Tryz.prog 40 9 = some 9 := by kernel_rfl
@[go_sem ↓] theorem xFO_40_9 (K : Nat → Prop) : xFO Tryz.prog 40 9 K = K 9 := xFO_of fO_40_9 K
theorem fO_40_10 : fOff Tryz.prog 40 10 = some 10 := by kernel_rfl
@[go_sem ↓] theorem xFO_40_10 (K : Nat → Prop) : xFO Tryz.prog 40 10 K = K 10 := xFO_of fO_40_10 K
theorem fO_40_11 : fOff Tryz.prog 40 11 = some 11 := by kernel_rfl
@[go_sem ↓] theorem xFO_40_11 (K : Nat → Prop) : xFO Tryz.prog 40 11 K = K 11 := xFO_of fO_40_11 K
theorem fO_40_12 : fOff Tryz.prog 40 12 = some 12 := by kernel_rfl
@[go_sem ↓] theorem xFO_40_12 (K : Nat → Prop) : xFO Tryz.prog 40 12 K = K 12 := xFO_of fO_40_12 K
theorem fO_40_13 : fOff Tryz.prog 40 13 = some 13 := by kernel_rfl
@[go_sem ↓] theorem xFO_40_13 (K : Nat → Prop) : xFO Tryz.prog 40 13 K = K 13 := xFO_of fO_40_13 K
theorem fO_40_14 : fOff Tryz.prog 40 14 = some 14 := by kernel_rfl
@[go_sem ↓] theorem xFO_40_14 (K : Nat → Prop) : xFO Tryz.prog 40 14 K = K 14 := xFO_of fO_40_14 K
theorem fO_40_15 : fOff Tryz.prog 40 15 = some 15 := by kernel_rfl
@[go_sem ↓] theorem xFO_40_15 (K : Nat → Prop) : xFO Tryz.prog 40 15 K = K 15 := xFO_of fO_40_15 K
theorem fO_40_16 : fOff Tryz.prog 40 16 = some 16 := by kernel_rfl
@[go_sem ↓] theorem xFO_40_16 (K : Nat → Prop) : xFO Tryz.prog 40 16 K = K 16 := xFO_of fO_40_16 K
theorem fO_40_17 : fOff Tryz.prog 40 17 = some 17 := by kernel_rfl
@[go_sem ↓] theorem xFO_40_17 (K : Nat → Prop) : xFO Tryz.prog 40 17 K = K 17 := xFO_of fO_40_17 K
theorem fO_40_18 : fOff Tryz.prog 40 18 = some 18 := by kernel_rfl
@[go_sem ↓] theorem xFO_40_18 (K : Nat → Prop) : xFO Tryz.prog 40 18 K = K 18 := xFO_of fO_40_18 K
theorem fO_40_19 : fOff Tryz.prog 40 19 = some 19 := by kernel_rfl
@[go_sem ↓] theorem xFO_40_19 (K : Nat → Prop) : xFO Tryz.prog 40 19 K = K 19 := xFO_of fO_40_19 K
theorem fO_40_20 : fOff Tryz.prog 40 20 = some 20 := by kernel_rfl
@[go_sem ↓] theorem xFO_40_20 (K : Nat → Prop) : xFO Tryz.prog 40 20 K = K 20 := xFO_of fO_40_20 K
theorem fO_40_21 : fOff Tryz.prog 40 21 = some 21 := by kernel_rfl
@[go_sem ↓] theorem xFO_40_21 (K : Nat → Prop) : xFO Tryz.prog 40 21 K = K 21 := xFO_of fO_40_21 K
theorem fO_40_22 : fOff Tryz.prog 40 22 = some 22 := by kernel_rfl
@[go_sem ↓] theorem xFO_40_22 (K : Nat → Prop) : xFO Tryz.prog 40 22 K = K 22 := xFO_of fO_40_22 K
theorem fO_40_23 : fOff Tryz.prog 40 23 = some 23 := by kernel_rfl
@[go_sem ↓] theorem xFO_40_23 (K : Nat → Prop) : xFO Tryz.prog 40 23 K = K 23 := xFO_of fO_40_23 K
theorem fO_46_0 : fOff Tryz.prog 46 0 = some 0 := by kernel_rfl
@[go_sem ↓] theorem xFO_46_0 (K : Nat → Prop) : xFO Tryz.prog 46 0 K = K 0 := xFO_of fO_46_0 K
theorem fO_46_1 : fOff Tryz.prog 46 1 = some 24 := by kernel_rfl
@[go_sem ↓] theorem xFO_46_1 (K : Nat → Prop) : xFO Tryz.prog 46 1 K = K 24 := xFO_of fO_46_1 K
theorem fO_46_2 : fOff Tryz.prog 46 2 = some 25 := by kernel_rfl
@[go_sem ↓] theorem xFO_46_2 (K : Nat → Prop) : xFO Tryz.prog 46 2 K = K 25 := xFO_of fO_46_2 K
theorem fO_46_3 : fOff Tryz.prog 46 3 = some 26 := by kernel_rfl
@[go_sem ↓] theorem xFO_46_3 (K : Nat → Prop) : xFO Tryz.prog 46 3 K = K 26 := xFO_of fO_46_3 K
theorem fO_46_4 : fOff Tryz.prog 46 4 = some 27 := by kernel_rfl
@[go_sem ↓] theorem xFO_46_4 (K : Nat → Prop) : xFO Tryz.prog 46 4 K = K 27 := xFO_of fO_46_4 K
theorem fO_46_5 : fOff Tryz.prog 46 5 = some 28 := by kernel_rfl
@[go_sem ↓] theorem xFO_46_5 (K : Nat → Prop) : xFO Tryz.prog 46 5 K = K 28 := xFO_of fO_46_5 K
theorem fO_46_6 : fOff Tryz.prog 46 6 = some 29 := by kernel_rfl
@[go_sem ↓] theorem xFO_46_6 (K : Nat → Prop) : xFO Tryz.prog 46 6 K = K 29 := xFO_of fO_46_6 K
theorem fO_46_7 : fOff Tryz.prog 46 7 = some 30 := by kernel_rfl
@[go_sem ↓] theorem xFO_46_7 (K : Nat → Prop) : xFO Tryz.prog 46 7 K = K 30 := xFO_of fO_46_7 K
theorem fO_46_8 : fOff Tryz.prog 46 8 = some 31 := by kernel_rfl
@[go_sem ↓] theorem xFO_46_8 (K : Nat → Prop) : xFO Tryz.prog 46 8 K = K 31 := xFO_of fO_46_8 K
theorem fO_46_9 : fOff Tryz.prog 46 9 = some 32 := by kernel_rfl
@[go_sem ↓] theorem xFO_46_9 (K : Nat → Prop) : xFO Tryz.prog 46 9 K = K 32 := xFO_of fO_46_9 K
theorem fO_46_10 : fOff Tryz.prog 46 10 = some 33 := by kernel_rfl
@[go_sem ↓] theorem xFO_46_10 (K : Nat → Prop) : xFO Tryz.prog 46 10 K = K 33 := xFO_of fO_46_10 K
theorem fO_46_11 : fOff Tryz.prog 46 11 = some 34 := by kernel_rfl
@[go_sem ↓] theorem xFO_46_11 (K : Nat → Prop) : xFO Tryz.prog 46 11 K = K 34 := xFO_of fO_46_11 K
theorem fO_46_12 : fOff Tryz.prog 46 12 = some 35 := by kernel_rfl
@[go_sem ↓] theorem xFO_46_12 (K : Nat → Prop) : xFO Tryz.prog 46 12 K = K 35 := xFO_of fO_46_12 K
theorem fO_46_13 : fOff Tryz.prog 46 13 = some 36 := by kernel_rfl
@[go_sem ↓] theorem xFO_46_13 (K : Nat → Prop) : xFO Tryz.prog 46 13 K = K 36 := xFO_of fO_46_13 K
theorem fO_46_14 : fOff Tryz.prog 46 14 = some 37 := by kernel_rfl
@[go_sem ↓] theorem xFO_46_14 (K : Nat → Prop) : xFO Tryz.prog 46 14 K = K 37 := xFO_of fO_46_14 K
theorem fO_46_15 : fOff Tryz.prog 46 15 = some 38 := by kernel_rfl
@[go_sem ↓] theorem xFO_46_15 (K : Nat → Prop) : xFO Tryz.prog 46 15 K = K 38 := xFO_of fO_46_15 K
theorem fO_46_16 : fOff Tryz.prog 46 16 = some 39 := by kernel_rfl
@[go_sem ↓] theorem xFO_46_16 (K : Nat → Prop) : xFO Tryz.prog 46 16 K = K 39 := xFO_of fO_46_16 K
theorem fO_46_17 : fOff Tryz.prog 46 17 = some 40 := by kernel_rfl
@[go_sem ↓] theorem xFO_46_17 (K : Nat → Prop) : xFO Tryz.prog 46 17 K = K 40 := xFO_of fO_46_17 K
theorem fO_58_0 : fOff Tryz.prog 58 0 = some 0 := by kernel_rfl
@[go_sem ↓] theorem xFO_58_0 (K : Nat → Prop) : xFO Tryz.prog 58 0 K = K 0 := xFO_of fO_58_0 K
theorem fO_58_1 : fOff Tryz.prog 58 1 = some 24 := by kernel_rfl
@[go_sem ↓] theorem xFO_58_1 (K : Nat → Prop) : xFO Tryz.prog 58 1 K = K 24 := xFO_of fO_58_1 K
theorem fO_58_2 : fOff Tryz.prog 58 2 = some 25 := by kernel_rfl
@[go_sem ↓] theorem xFO_58_2 (K : Nat → Prop) : xFO Tryz.prog 58 2 K = K 25 := xFO_of fO_58_2 K
theorem fO_58_3 : fOff Tryz.prog 58 3 = some 26 := by kernel_rfl
@[go_sem ↓] theorem xFO_58_3 (K : Nat → Prop) : xFO Tryz.prog 58 3 K = K 26 := xFO_of fO_58_3 K
theorem fO_61_0 : fOff Tryz.prog 61 0 = some 0 := by kernel_rfl
@[go_sem ↓] theorem xFO_61_0 (K : Nat → Prop) : xFO Tryz.prog 61 0 K = K 0 := xFO_of fO_61_0 K
theorem fO_61_1 : fOff Tryz.prog 61 1 = some 1 := by kernel_rfl
@[go_sem ↓] theorem xFO_61_1 (K : Nat → Prop) : xFO Tryz.prog 61 1 K = K 1 := xFO_of fO_61_1 K
theorem fO_64_0 : fOff Tryz.prog 64 0 = some 0 := by kernel_rfl
@[go_sem ↓] theorem xFO_64_0 (K : Nat → Prop) : xFO Tryz.prog 64 0 K = K 0 := xFO_of fO_64_0 K
theorem fO_64_1 : fOff Tryz.prog 64 1 = some 1 := by kernel_rfl
@[go_sem ↓] theorem xFO_64_1 (K : Nat → Prop) : xFO Tryz.prog 64 1 K = K 1 := xFO_of fO_64_1 K
theorem fO_64_2 : fOff Tryz.prog 64 2 = some 2 := by kernel_rfl
@[go_sem ↓] theorem xFO_64_2 (K : Nat → Prop) : xFO Tryz.prog 64 2 K = K 2 := xFO_of fO_64_2 K
theorem fO_70_0 : fOff Tryz.prog 70 0 = some 0 := by kernel_rfl
@[go_sem ↓] theorem xFO_70_0 (K : Nat → Prop) : xFO Tryz.prog 70 0 K = K 0 := xFO_of fO_70_0 K
theorem fO_70_1 : fOff Tryz.prog 70 1 = some 1 := by kernel_rfl
@[go_sem ↓] theorem xFO_70_1 (K : Nat → Prop) : xFO Tryz.prog 70 1 K = K 1 := xFO_of fO_70_1 K
theorem fO_70_2 : fOff Tryz.prog 70 2 = some 2 := by kernel_rfl
@[go_sem ↓] theorem xFO_70_2 (K : Nat → Prop) : xFO Tryz.prog 70 2 K = K 2 := xFO_of fO_70_2 K
theorem fO_70_3 : fOff Tryz.prog 70 3 = some 3 := by kernel_rfl
@[go_sem ↓] theorem xFO_70_3 (K : Nat → Prop) : xFO Tryz.prog 70 3 K = K 3 := xFO_of fO_70_3 K
theorem fO_70_4 : fOff Tryz.prog 70 4 = some 4 := by kernel_rfl
@[go_sem ↓] theorem xFO_70_4 (K : Nat → Prop) : xFO Tryz.prog 70 4 K = K 4 := xFO_of fO_70_4 K
theorem fO_70_5 : fOff Tryz.prog 70 5 = some 5 := by kernel_rfl
@[go_sem ↓] theorem xFO_70_5 (K : Nat → Prop) : xFO Tryz.prog 70 5 K = K 5 := xFO_of fO_70_5 K
theorem fO_70_6 : fOff Tryz.prog 70 6 = some 6 := by kernel_rfl
@[go_sem ↓] theorem xFO_70_6 (K : Nat → Prop) : xFO Tryz.prog 70 6 K = K 6 := xFO_of fO_70_6 K
theorem fO_70_7 : fOff Tryz.prog 70 7 = some 7 := by kernel_rfl
@[go_sem ↓] theorem xFO_70_7 (K : Nat → Prop) : xFO Tryz.prog 70 7 K = K 7 := xFO_of fO_70_7 K
theorem fO_76_0 : fOff Tryz.prog 76 0 = some 0 := by kernel_rfl
@[go_sem ↓] theorem xFO_76_0 (K : Nat → Prop) : xFO Tryz.prog 76 0 K = K 0 := xFO_of fO_76_0 K
theorem fO_76_1 : fOff Tryz.prog 76 1 = some 1 := by kernel_rfl
@[go_sem ↓] theorem xFO_76_1 (K : Nat → Prop) : xFO Tryz.prog 76 1 K = K 1 := xFO_of fO_76_1 K
theorem fO_76_2 : fOff Tryz.prog 76 2 = some 2 := by kernel_rfl
@[go_sem ↓] theorem xFO_76_2 (K : Nat → Prop) : xFO Tryz.prog 76 2 K = K 2 := xFO_of fO_76_2 K
theorem fO_76_3 : fOff Tryz.prog 76 3 = some 3 := by kernel_rfl
@[go_sem ↓] theorem xFO_76_3 (K : Nat → Prop) : xFO Tryz.prog 76 3 K = K 3 := xFO_of fO_76_3 K
theorem fO_76_4 : fOff Tryz.prog 76 4 = some 4 := by kernel_rfl
@[go_sem ↓] theorem xFO_76_4 (K : Nat → Prop) : xFO Tryz.prog 76 4 K = K 4 := xFO_of fO_76_4 K
theorem fO_76_5 : fOff Tryz.prog 76 5 = some 5 := by kernel_rfl
@[go_sem ↓] theorem xFO_76_5 (K : Nat → Prop) : xFO Tryz.prog 76 5 K = K 5 := xFO_of fO_76_5 K
theorem fO_76_6 : fOff Tryz.prog 76 6 = some 6 := by kernel_rfl
@[go_sem ↓] theorem xFO_76_6 (K : Nat → Prop) : xFO Tryz.prog 76 6 K = K 6 := xFO_of fO_76_6 K
theorem fO_76_7 : fOff Tryz.prog 76 7 = some 7 := by kernel_rfl
@[go_sem ↓] theorem xFO_76_7 (K : Nat → Prop) : xFO Tryz.prog 76 7 K = K 7 := xFO_of fO_76_7 K
theorem fO_85_0 : fOff Tryz.prog 85 0 = some 0 := by kernel_rfl
@[go_sem ↓] theorem xFO_85_0 (K : Nat → Prop) : xFO Tryz.prog 85 0 K = K 0 := xFO_of fO_85_0 K
theorem fO_85_1 : fOff Tryz.prog 85 1 = some 1 := by kernel_rfl
@[go_sem ↓] theorem xFO_85_1 (K : Nat → Prop) : xFO Tryz.prog 85 1 K = K 1 := xFO_of fO_85_1 K
theorem fO_85_2 : fOff Tryz.prog 85 2 = some 2 := by kernel_rfl
@[go_sem ↓] theorem xFO_85_2 (K : Nat → Prop) : xFO Tryz.prog 85 2 K = K 2 := xFO_of fO_85_2 K
theorem fO_85_3 : fOff Tryz.prog 85 3 = some 3 := by kernel_rfl
@[go_sem ↓] theorem xFO_85_3 (K : Nat → Prop) : xFO Tryz.prog 85 3 K = K 3 := xFO_of fO_85_3 K
theorem fO_85_4 : fOff Tryz.prog 85 4 = some 4 := by kernel_rfl
@[go_sem ↓] theorem xFO_85_4 (K : Nat → Prop) : xFO Tryz.prog 85 4 K = K 4 := xFO_of fO_85_4 K
theorem fO_85_5 : fOff Tryz.prog 85 5 = some 5 := by kernel_rfl
@[go_sem ↓] theorem xFO_85_5 (K : Nat → Prop) : xFO Tryz.prog 85 5 K = K 5 := xFO_of fO_85_5 K
theorem fO_85_6 : fOff Tryz.prog 85 6 = some 6 := by kernel_rfl
@[go_sem ↓] theorem xFO_85_6 (K : Nat → Prop) : xFO Tryz.prog 85 6 K = K 6 := xFO_of fO_85_6 K
theorem fO_85_7 : fOff Tryz.prog 85 7 = some 7 := by kernel_rfl
@[go_sem ↓] theorem xFO_85_7 (K : Nat → Prop) : xFO Tryz.prog 85 7 K = K 7 := xFO_of fO_85_7 K
theorem fO_85_8 : fOff Tryz.prog 85 8 = some 8 := by kernel_rfl
@[go_sem ↓] theorem xFO_85_8 (K : Nat → Prop) : xFO Tryz.prog 85 8 K = K 8 := xFO_of fO_85_8 K
theorem fO_85_9 : fOff Tryz.prog 85 9 = some 32 := by kernel_rfl
@[go_sem ↓] theorem xFO_85_9 (K : Nat → Prop) : xFO Tryz.prog 85 9 K = K 32 := xFO_of fO_85_9 K
theorem fO_85_10 : fOff Tryz.prog 85 10 = some 33 := by kernel_rfl
@[go_sem ↓] theorem xFO_85_10 (K : Nat → Prop) : xFO Tryz.prog 85 10 K = K 33 := xFO_of fO_85_10 K
theorem fO_90_0 : fOff Tryz.prog 90 0 = some 0 := by kernel_rfl
@[go_sem ↓] theorem xFO_90_0 (K : Nat → Prop) : xFO Tryz.prog 90 0 K = K 0 := xFO_of fO_90_0 K
theorem fO_90_1 : fOff Tryz.prog 90 1 = some 1 := by kernel_rfl
@[go_sem ↓] theorem xFO_90_1 (K : Nat → Prop) : xFO Tryz.prog 90 1 K = K 1 := xFO_of fO_90_1 K
theorem fO_90_2 : fOff Tryz.prog 90 2 = some 2 := by kernel_rfl
@[go_sem ↓] theorem xFO_90_2 (K : Nat → Prop) : xFO Tryz.prog 90 2 K = K 2 := xFO_of fO_90_2 K
theorem fO_90_3 : fOff Tryz.prog 90 3 = some 3 := by kernel_rfl
@[go_sem ↓] theorem xFO_90_3 (K : Nat → Prop) : xFO Tryz.prog 90 3 K = K 3 := xFO_of fO_90_3 K
theorem fO_90_4 : fOff Tryz.prog 90 4 = some 4 := by kernel_rfl
@[go_sem ↓] theorem xFO_90_4 (K : Nat → Prop) : xFO Tryz.prog 90 4 K = K 4 := xFO_of fO_90_4 K
theorem fO_90_5 : fOff Tryz.prog 90 5 = some 5 := by kernel_rfl
@[go_sem ↓] theorem xFO_90_5 (K : Nat → Prop) : xFO Tryz.prog 90 5 K = K 5 := xFO_of fO_90_5 K
theorem fO_90_6 : fOff Tryz.prog 90 6 = some 6 := by kernel_rfl
@[go_sem ↓] theorem xFO_90_6 (K : Nat → Prop) : xFO Tryz.prog 90 6 K = K 6 := xFO_of fO_90_6 K
theorem fO_90_7 : fOff Tryz.prog 90 7 = some 7 := by kernel_rfl
@[go_sem ↓] theorem xFO_90_7 (K : Nat → Prop) : xFO Tryz.prog 90 7 K = K 7 := xFO_of fO_90_7 K
theorem fO_90_8 : fOff Tryz.prog 90 8 = some 8 := by kernel_rfl
@[go_sem ↓] theorem xFO_90_8 (K : Nat → Prop) : xFO Tryz.prog 90 8 K = K 8 := xFO_of fO_90_8 K
theorem fO_90_9 : fOff Tryz.prog 90 9 = some 32 := by kernel_rfl
@[go_sem ↓] theorem xFO_90_9 (K : Nat → Prop) : xFO Tryz.prog 90 9 K = K 32 := xFO_of fO_90_9 K
theorem fO_90_10 : fOff Tryz.prog 90 10 = some 33 := by kernel_rfl
@[go_sem ↓] theorem xFO_90_10 (K : Nat → Prop) : xFO Tryz.prog 90 10 K = K 33 := xFO_of fO_90_10 K
theorem fO_98_1 : fOff Tryz.prog 98 1 = some 1 := by kernel_rfl
@[go_sem ↓] theorem xFO_98_1 (K : Nat → Prop) : xFO Tryz.prog 98 1 K = K 1 := xFO_of fO_98_1 K
theorem fO_105_1 : fOff Tryz.prog 105 1 = some 1 := by kernel_rfl
@[go_sem ↓] theorem xFO_105_1 (K : Nat → Prop) : xFO Tryz.prog 105 1 K = K 1 := xFO_of fO_105_1 K
theorem fO_105_2 : fOff Tryz.prog 105 2 = some 2 := by kernel_rfl
@[go_sem ↓] theorem xFO_105_2 (K : Nat → Prop) : xFO Tryz.prog 105 2 K = K 2 := xFO_of fO_105_2 K
theorem fO_105_3 : fOff Tryz.prog 105 3 = some 36 := by kernel_rfl
@[go_sem ↓] theorem xFO_105_3 (K : Nat → Prop) : xFO Tryz.prog 105 3 K = K 36 := xFO_of fO_105_3 K
theorem fO_111_0 : fOff Tryz.prog 111 0 = some 0 := by kernel_rfl
@[go_sem ↓] theorem xFO_111_0 (K : Nat → Prop) : xFO Tryz.prog 111 0 K = K 0 := xFO_of fO_111_0 K
theorem fO_111_1 : fOff Tryz.prog 111 1 = some 1 := by kernel_rfl
@[go_sem ↓] theorem xFO_111_1 (K : Nat → Prop) : xFO Tryz.prog 111 1 K = K 1 := xFO_of fO_111_1 K
theorem fO_111_2 : fOff Tryz.prog 111 2 = some 2 := by kernel_rfl
@[go_sem ↓] theorem xFO_111_2 (K : Nat → Prop) : xFO Tryz.prog 111 2 K = K 2 := xFO_of fO_111_2 K
theorem fO_123_0 : fOff Tryz.prog 123 0 = some 0 := by kernel_rfl
@[go_sem ↓] theorem xFO_123_0 (K : Nat → Prop) : xFO Tryz.prog 123 0 K = K 0 := xFO_of fO_123_0 K
theorem fO_123_1 : fOff Tryz.prog 123 1 = some 1 := by kernel_rfl
@[go_sem ↓] theorem xFO_123_1 (K : Nat → Prop) : xFO Tryz.prog 123 1 K = K 1 := xFO_of fO_123_1 K
theorem fO_123_2 : fOff Tryz.prog 123 2 = some 2 := by kernel_rfl
@[go_sem ↓] theorem xFO_123_2 (K : Nat → Prop) : xFO Tryz.prog 123 2 K = K 2 := xFO_of fO_123_2 K
theorem fO_123_3 : fOff Tryz.prog 123 3 = some 26 := by kernel_rfl
@[go_sem ↓] theorem xFO_123_3 (K : Nat → Prop) : xFO Tryz.prog 123 3 K = K 26 := xFO_of fO_123_3 K
theorem fO_123_4 : fOff Tryz.prog 123 4 = some 27 := by kernel_rfl
@[go_sem ↓] theorem xFO_123_4 (K : Nat → Prop) : xFO Tryz.prog 123 4 K = K 27 := xFO_of fO_123_4 K
theorem fO_123_5 : fOff Tryz.prog 123 5 = some 28 := by kernel_rfl
@[go_sem ↓] theorem xFO_123_5 (K : Nat → Prop) : xFO Tryz.prog 123 5 K = K 28 := xFO_of fO_123_5 K
theorem fO_123_6 : fOff Tryz.prog 123 6 = some 29 := by kernel_rfl
@[go_sem ↓] theorem xFO_123_6 (K : Nat → Prop) : xFO Tryz.prog 123 6 K = K 29 := xFO_of fO_123_6 K
theorem fO_123_7 : fOff Tryz.prog 123 7 = some 30 := by kernel_rfl
@[go_sem ↓] theorem xFO_123_7 (K : Nat → Prop) : xFO Tryz.prog 123 7 K = K 30 := xFO_of fO_123_7 K
theorem fO_123_8 : fOff Tryz.prog 123 8 = some 31 := by kernel_rfl
@[go_sem ↓] theorem xFO_123_8 (K : Nat → Prop) : xFO Tryz.prog 123 8 K = K 31 := xFO_of fO_123_8 K
theorem fO_123_9 : fOff Tryz.prog 123 9 = some 32 := by kernel_rfl
@[go_sem ↓] theorem xFO_123_9 (K : Nat → Prop) : xFO Tryz.prog 123 9 K = K 32 := xFO_of fO_123_9 K
theorem fO_126_0 : fOff Tryz.prog 126 0 = some 0 := by kernel_rfl
@[go_sem ↓] theorem xFO_126_0 (K : Nat → Prop) : xFO Tryz.prog 126 0 K = K 0 := xFO_of fO_126_0 K
theorem fO_126_1 : fOff Tryz.prog 126 1 = some 1 := by kernel_rfl
@[go_sem ↓] theorem xFO_126_1 (K : Nat → Prop) : xFO Tryz.prog 126 1 K = K 1 := xFO_of fO_126_1 K
theorem fO_128_0 : fOff Tryz.prog 128 0 = some 0 := by kernel_rfl
@[go_sem ↓] theorem xFO_128_0 (K : Nat → Prop) : xFO Tryz.prog 128 0 K = K 0 := xFO_of fO_128_0 K
theorem fO_130_0 : fOff Tryz.prog 130 0 = some 0 := by kernel_rfl
@[go_sem ↓] theorem xFO_130_0 (K : Nat → Prop) : xFO Tryz.prog 130 0 K = K 0 := xFO_of fO_130_0 K
theorem fO_130_1 : fOff Tryz.prog 130 1 = some 2 := by kernel_rfl
@[go_sem ↓] theorem xFO_130_1 (K : Nat → Prop) : xFO Tryz.prog 130 1 K = K 2 := xFO_of fO_130_1 K
theorem fO_141_0 : fOff Tryz.prog 141 0 = some 0 := by kernel_rfl
@[go_sem ↓] theorem xFO_141_0 (K : Nat → Prop) : xFO Tryz.prog 141 0 K = K 0 := xFO_of fO_141_0 K
theorem fO_141_1 : fOff Tryz.prog 141 1 = some 1 := by kernel_rfl
@[go_sem ↓] theorem xFO_141_1 (K : Nat → Prop) : xFO Tryz.prog 141 1 K = K 1 := xFO_of fO_141_1 K
theorem fO_141_2 : fOff Tryz.prog 141 2 = some 2 := by kernel_rfl
@[go_sem ↓] theorem xFO_141_2 (K : Nat → Prop) : xFO Tryz.prog 141 2 K = K 2 := xFO_of fO_141_2 K
theorem fO_141_3 : fOff Tryz.prog 141 3 = some 3 := by kernel_rfl
@[go_sem ↓] theorem xFO_141_3 (K : Nat → Prop) : xFO Tryz.prog 141 3 K = K 3 := xFO_of fO_141_3 K
theorem fO_141_4 : fOff Tryz.prog 141 4 = some 4 := by kernel_rfl
@[go_sem ↓] theorem xFO_141_4 (K : Nat → Prop) : xFO Tryz.prog 141 4 K = K 4 := xFO_of fO_141_4 K
theorem fO_141_5 : fOff Tryz.prog 141 5 = some 5 := by kernel_rfl
@[go_sem ↓] theorem xFO_141_5 (K : Nat → Prop) : xFO Tryz.prog 141 5 K = K 5 := xFO_of fO_141_5 K
theorem fO_141_6 : fOff Tryz.prog 141 6 = some 6 := by kernel_rfl
@[go_sem ↓] theorem xFO_141_6 (K : Nat → Prop) : xFO Tryz.prog 141 6 K = K 6 := xFO_of fO_141_6 K
theorem fO_141_7 : fOff Tryz.prog 141 7 = some 7 := by kernel_rfl
@[go_sem ↓] theorem xFO_141_7 (K : Nat → Prop) : xFO Tryz.prog 141 7 K = K 7 := xFO_of fO_141_7 K
theorem fO_141_8 : fOff Tryz.prog 141 8 = some 8 := by kernel_rfl
@[go_sem ↓] theorem xFO_141_8 (K : Nat → Prop) : xFO Tryz.prog 141 8 K = K 8 := xFO_of fO_141_8 K
theorem fO_146_0 : fOff Tryz.prog 146 0 = some 0 := by kernel_rfl
@[go_sem ↓] theorem xFO_146_0 (K : Nat → Prop) : xFO Tryz.prog 146 0 K = K 0 := xFO_of fO_146_0 K
theorem fO_146_1 : fOff Tryz.prog 146 1 = some 1 := by kernel_rfl
@[go_sem ↓] theorem xFO_146_1 (K : Nat → Prop) : xFO Tryz.prog 146 1 K = K 1 := xFO_of fO_146_1 K
theorem fO_146_2 : fOff Tryz.prog 146 2 = some 2 := by kernel_rfl
@[go_sem ↓] theorem xFO_146_2 (K : Nat → Prop) : xFO Tryz.prog 146 2 K = K 2 := xFO_of fO_146_2 K
theorem fO_146_3 : fOff Tryz.prog 146 3 = some 3 := by kernel_rfl
@[go_sem ↓] theorem xFO_146_3 (K : Nat → Prop) : xFO Tryz.prog 146 3 K = K 3 := xFO_of fO_146_3 K
theorem fO_148_0 : fOff Tryz.prog 148 0 = some 0 := by kernel_rfl
@[go_sem ↓] theorem xFO_148_0 (K : Nat → Prop) : xFO Tryz.prog 148 0 K = K 0 := xFO_of fO_148_0 K
theorem fO_148_1 : fOff Tryz.prog 148 1 = some 4 := by kernel_rfl
@[go_sem ↓] theorem xFO_148_1 (K : Nat → Prop) : xFO Tryz.prog 148 1 K = K 4 := xFO_of fO_148_1 K
theorem fO_148_2 : fOff Tryz.prog 148 2 = some 5 := by kernel_rfl
@[go_sem ↓] theorem xFO_148_2 (K : Nat → Prop) : xFO Tryz.prog 148 2 K = K 5 := xFO_of fO_148_2 K
theorem fO_150_0 : fOff Tryz.prog 150 0 = some 0 := by kernel_rfl
@[go_sem ↓] theorem xFO_150_0 (K : Nat → Prop) : xFO Tryz.prog 150 0 K = K 0 := xFO_of fO_150_0 K
theorem fO_150_1 : fOff Tryz.prog 150 1 = some 1 := by kernel_rfl
@[go_sem ↓] theorem xFO_150_1 (K : Nat → Prop) : xFO Tryz.prog 150 1 K = K 1 := xFO_of fO_150_1 K
theorem fO_150_2 : fOff Tryz.prog 150 2 = some 2 := by kernel_rfl
@[go_sem ↓] theorem xFO_150_2 (K : Nat → Prop) : xFO Tryz.prog 150 2 K = K 2 := xFO_of fO_150_2 K
theorem fO_150_3 : fOff Tryz.prog 150 3 = some 26 := by kernel_rfl
@[go_sem ↓] theorem xFO_150_3 (K : Nat → Prop) : xFO Tryz.prog 150 3 K = K 26 := xFO_of fO_150_3 K
theorem fO_150_4 : fOff Tryz.prog 150 4 = some 27 := by kernel_rfl
@[go_sem ↓] theorem xFO_150_4 (K : Nat → Prop) : xFO Tryz.prog 150 4 K = K 27 := xFO_of fO_150_4 K
theorem fO_150_5 : fOff Tryz.prog 150 5 = some 28 := by kernel_rfl
@[go_sem ↓] theorem xFO_150_5 (K : Nat → Prop) : xFO Tryz.prog 150 5 K = K 28 := xFO_of fO_150_5 K
theorem fO_150_6 : fOff Tryz.prog 150 6 = some 29 := by kernel_rfl
@[go_sem ↓] theorem xFO_150_6 (K : Nat → Prop) : xFO Tryz.prog 150 6 K = K 29 := xFO_of fO_150_6 K
theorem fO_150_7 : fOff Tryz.prog 150 7 = some 30 := by kernel_rfl
@[go_sem ↓] theorem xFO_150_7 (K : Nat → Prop) : xFO Tryz.prog 150 7 K = K 30 := xFO_of fO_150_7 K
theorem fO_150_8 : fOff Tryz.prog 150 8 = some 31 := by kernel_rfl
@[go_sem ↓] theorem xFO_150_8 (K : Nat → Prop) : xFO Tryz.prog 150 8 K = K 31 := xFO_of fO_150_8 K
theorem fO_150_9 : fOff Tryz.prog 150 9 = some 32 := by kernel_rfl
@[go_sem ↓] theorem xFO_150_9 (K : Nat → Prop) : xFO Tryz.prog 150 9 K = K 32 := xFO_of fO_150_9 K
theorem fO_189_0 : fOff Tryz.prog 189 0 = some 0 := by kernel_rfl
@[go_sem ↓] theorem xFO_189_0 (K : Nat → Prop) : xFO Tryz.prog 189 0 K = K 0 := xFO_of fO_189_0 K
theorem fO_189_1 : fOff Tryz.prog 189 1 = some 41 := by kernel_rfl
@[go_sem ↓] theorem xFO_189_1 (K : Nat → Prop) : xFO Tryz.prog 189 1 K = K 41 := xFO_of fO_189_1 K
theorem fO_189_2 : fOff Tryz.prog 189 2 = some 42 := by kernel_rfl
@[go_sem ↓] theorem xFO_189_2 (K : Nat → Prop) : xFO Tryz.prog 189 2 K = K 42 := xFO_of fO_189_2 K
theorem fO_189_3 : fOff Tryz.prog 189 3 = some 43 := by kernel_rfl
@[go_sem ↓] theorem xFO_189_3 (K : Nat → Prop) : xFO Tryz.prog 189 3 K = K 43 := xFO_of fO_189_3 K
theorem fO_189_4 : fOff Tryz.prog 189 4 = some 44 := by kernel_rfl
@[go_sem ↓] theorem xFO_189_4 (K : Nat → Prop) : xFO Tryz.prog 189 4 K = K 44 := xFO_of fO_189_4 K
theorem fO_231_0 : fOff Tryz.prog 231 0 = some 0 := by kernel_rfl
@[go_sem ↓] theorem xFO_231_0 (K : Nat → Prop) : xFO Tryz.prog 231 0 K = K 0 := xFO_of fO_231_0 K
theorem fO_252_0 : fOff Tryz.prog 252 0 = some 0 := by kernel_rfl
@[go_sem ↓] theorem xFO_252_0 (K : Nat → Prop) : xFO Tryz.prog 252 0 K = K 0 := xFO_of fO_252_0 K
theorem fO_252_1 : fOff Tryz.prog 252 1 = some 1 := by kernel_rfl
@[go_sem ↓] theorem xFO_252_1 (K : Nat → Prop) : xFO Tryz.prog 252 1 K = K 1 := xFO_of fO_252_1 K
theorem fO_252_2 : fOff Tryz.prog 252 2 = some 2 := by kernel_rfl
@[go_sem ↓] theorem xFO_252_2 (K : Nat → Prop) : xFO Tryz.prog 252 2 K = K 2 := xFO_of fO_252_2 K
theorem fO_454_0 : fOff Tryz.prog 454 0 = some 0 := by kernel_rfl
@[go_sem ↓] theorem xFO_454_0 (K : Nat → Prop) : xFO Tryz.prog 454 0 K = K 0 := xFO_of fO_454_0 K
theorem fO_454_1 : fOff Tryz.prog 454 1 = some 1 := by kernel_rfl
@[go_sem ↓] theorem xFO_454_1 (K : Nat → Prop) : xFO Tryz.prog 454 1 K = K 1 := xFO_of fO_454_1 K
@[go_sem] theorem tSh_25 : tSh Tryz.prog 25 = .sl 22 1 8 := by kernel_rfl
@[go_sem] theorem tSh_26 : tSh Tryz.prog 26 = .sl 181 6 48 := by kernel_rfl
@[go_sem] theorem tSh_27 : tSh Tryz.prog 27 = .sl 3 1 8 := by kernel_rfl
@[go_sem] theorem tSh_28 : tSh Tryz.prog 28 = .sl 225 4 32 := by kernel_rfl
@[go_sem] theorem tSh_29 : tSh Tryz.prog 29 = .sl 64 3 24 := by kernel_rfl
@[go_sem] theorem tSh_30 : tSh Tryz.prog 30 = .sl 123 33 296 := by kernel_rfl
@[go_sem] theorem tSh_31 : tSh Tryz.prog 31 = .sl 5 1 1 := by kernel_rfl
@[go_sem] theorem tSh_32 : tSh Tryz.prog 32 = .sl 31 1 24 := by kernel_rfl
@[go_sem] theorem tSh_41 : tSh Tryz.prog 41 = .sl 148 6 48 := by kernel_rfl
@[go_sem] theorem tSh_42 : tSh Tryz.prog 42 = .sl 159 4 32 := by kernel_rfl
@[go_sem] theorem tSh_43 : tSh Tryz.prog 43 = .sl 160 3 24 := by kernel_rfl
@[go_sem] theorem tSh_44 : tSh Tryz.prog 44 = .sl 150 33 296 := by kernel_rfl
@[go_sem] theorem tSh_56 : tSh Tryz.prog 56 = .sl 61 2 16 := by kernel_rfl
@[go_sem] theorem tSh_66 : tSh Tryz.prog 66 = .sl 70 8 64 := by kernel_rfl
@[go_sem] theorem tSh_73 : tSh Tryz.prog 73 = .sl 76 8 64 := by kernel_rfl
@[go_sem] theorem tSh_95 : tSh Tryz.prog 95 = .sl 85 34 288 := by kernel_rfl
@[go_sem] theorem tSh_99 : tSh Tryz.prog 99 = .sl 98 2 32 := by kernel_rfl
@[go_sem] theorem tSh_107 : tSh Tryz.prog 107 = .sl 105 37 312 := by kernel_rfl
@[go_sem] theorem tSh_109 : tSh Tryz.prog 109 = .sl 252 36 304 := by kernel_rfl
@[go_sem] theorem tSh_112 : tSh Tryz.prog 112 = .sl 108 1 8 := by kernel_rfl
@[go_sem] theorem tSh_187 : tSh Tryz.prog 187 = .sl 179 4 32 := by kernel_rfl
@[go_sem] theorem tSh_361 : tSh Tryz.prog 361 = .sl 4 1 1 := by kernel_rfl
@[go_sem ↓] theorem xSlh_25 (a : Option Addr) (n c : Nat) (k : IntKind) (j : Int) (h0 : 0 ≤ j) (h1 : j ≤ (c : Int)) (K : Value → Prop) : xSl Tryz.prog 25 (.slice a n c) none (some (.int k j)) none K = K (.slice a j.toNat c) := xSl_hi tSh_25 a n c k j h0 h1 K
@[go_sem ↓] theorem xSlh_26 (a : Option Addr) (n c : Nat) (k : IntKind) (j : Int) (h0 : 0 ≤ j) (h1 : j ≤ (c : Int)) (K : Value → Prop) : xSl Tryz.prog 26 (.slice a n c) none (some (.int k j)) none K = K (.slice a j.toNat c) := xSl_hi tSh_26 a n c k j h0 h1 K
@[go_sem ↓] theorem xSlh_27 (a : Option Addr) (n c : Nat) (k : IntKind) (j : Int) (h0 : 0 ≤ j) (h1 : j ≤ (c : Int)) (K : Value → Prop) : xSl Tryz.prog 27 (.slice a n c) none (some (.int k j)) none K = K (.slice a j.toNat c) := xSl_hi tSh_27 a n c k j h0 h1 K
@[go_sem ↓] theorem xSlh_28 (a : Option Addr) (n c : Nat) (k : IntKind) (j : Int) (h0 : 0 ≤ j) (h1 : j ≤ (c : Int)) (K : Value → Prop) : xSl Tryz.prog 28 (.slice a n c) none (some (.int k j)) none K = K (.slice a j.toNat c) := xSl_hi tSh_28 a n c k j h0 h1 K
@[go_sem ↓] theorem xSlh_29 (a : Option Addr) (n c : Nat) (k : IntKind) (j : Int) (h0 : 0 ≤ j) (h1 : j ≤ (c : Int)) (K : Value → Prop) : xSl Tryz.prog 29 (.slice a n c) none (some (.int k j)) none K = K (.slice a j.toNat c) := xSl_hi tSh_29 a n c k j h0 h1 K
@[go_sem ↓] theorem xSlh_30 (a : Option Addr) (n c : Nat) (k : IntKind) (j : Int) (h0 : 0 ≤ j) (h1 : j ≤ (c : Int)) (K : Value → Prop) : xSl Tryz.prog 30 (.slice a n c) none (some (.int k j)) none K = K (.slice a j.toNat c) := xSl_hi tSh_30 a n c k j h0 h1 K
@[go_sem ↓] theorem xSlh_31 (a : Option Addr) (n c : Nat) (k : IntKind) (j : Int) (h0 : 0 ≤ j) (h1 : j ≤ (c : Int)) (K : Value → Prop) : xSl Tryz.prog 31 (.slice a n c) none (some (.int k j)) none K = K (.slice a j.toNat c) := xSl_hi tSh_31 a n c k j h0 h1 K
@[go_sem ↓] theorem xSlh_32 (a : Option Addr) (n c : Nat) (k : IntKind) (j : Int) (h0 : 0 ≤ j) (h1 : j ≤ (c : Int)) (K : Value → Prop) : xSl Tryz.prog 32 (.slice a n c) none (some (.int k j)) none K = K (.slice a j.toNat c) := xSl_hi tSh_32 a n c k j h0 h1 K
@[go_sem ↓] theorem xSlh_41 (a : Option Addr) (n c : Nat) (k : IntKind) (j : Int) (h0 : 0 ≤ j) (h1 : j ≤ (c : Int)) (K : Value → Prop) : xSl Tryz.prog 41 (.slice a n c) none (some (.int k j)) none K = K (.slice a j.toNat c) := xSl_hi tSh_41 a n c k j h0 h1 K
@[go_sem ↓] theorem xSlh_42 (a : Option Addr) (n c : Nat) (k : IntKind) (j : Int) (h0 : 0 ≤ j) (h1 : j ≤ (c : Int)) (K : Value → Prop) : xSl Tryz.prog 42 (.slice a n c) none (some (.int k j)) none K = K (.slice a j.toNat c) := xSl_hi tSh_42 a n c k j h0 h1 K
@[go_sem ↓] theorem xSlh_43 (a : Option Addr) (n c : Nat) (k : IntKind) (j : Int) (h0 : 0 ≤ j) (h1 : j ≤ (c : Int)) (K : Value → Prop) : xSl Tryz.prog 43 (.slice a n c) none (some (.int k j)) none K = K (.slice a j.toNat c) := xSl_hi tSh_43 a n c k j h0 h1 K
@[go_sem ↓] theorem xSlh_44 (a : Option Addr) (n c : Nat) (k : IntKind) (j : Int) (h0 : 0 ≤ j) (h1 : j ≤ (c : Int)) (K : Value → Prop) : xSl Tryz.prog 44 (.slice a n c) none (some (.int k j)) none K = K (.slice a j.toNat c) := xSl_hi tSh_44 a n c k j h0 h1 K
@[go_sem ↓] theorem xSlh_56 (a : Option Addr) (n c : Nat) (k : IntKind) (j : Int) (h0 : 0 ≤ j) (h1 : j ≤ (c : Int)) (K : Value → Prop) : xSl Tryz.prog 56 (.slice a n c) none (some (.int k j)) none K = K (.slice a j.toNat c) := xSl_hi tSh_56 a n c k j h0 h1 K
@[go_sem ↓] theorem xSlh_66 (a : Option Addr) (n c : Nat) (k : IntKind) (j : Int) (h0 : 0 ≤ j) (h1 : j ≤ (c : Int)) (K : Value → Prop) : xSl Tryz.prog 66 (.slice a n c) none (some (.int k j)) none K = K (.slice a j.toNat c) := xSl_hi tSh_66 a n c k j h0 h1 K
@[go_sem ↓] theorem xSlh_73 (a : Option Addr) (n c : Nat) (k : IntKind) (j : Int) (h0 : 0 ≤ j) (h1 : j ≤ (c : Int)) (K : Value → Prop) : xSl Tryz.prog 73 (.slice a n c) none (some (.int k j)) none K = K (.slice a j.toNat c) := xSl_hi tSh_73 a n c k j h0 h1 K
@[go_sem ↓] theorem xSlh_95 (a : Option Addr) (n c : Nat) (k : IntKind) (j : Int) (h0 : 0 ≤ j) (h1 : j ≤ (c : Int)) (K : Value → Prop) : xSl Tryz.prog 95 (.slice a n c) none (some (.int k j)) none K = K (.slice a j.toNat c) := xSl_hi tSh_95 a n c k j h0 h1 K
@[go_sem ↓] theorem xSlh_99 (a : Option Addr) (n c : Nat) (k : IntKind) (j : Int) (h0 : 0 ≤ j) (h1 : j ≤ (c : Int)) (K : Value → Prop) : xSl Tryz.prog 99 (.slice a n c) none (some (.int k j)) none K = K (.slice a j.toNat c) := xSl_hi tSh_99 a n c k j h0 h1 K
@[go_sem ↓] theorem xSlh_107 (a : Option Addr) (n c : Nat) (k : IntKind) (j : Int) (h0 : 0 ≤ j) (h1 : j ≤ (c : Int)) (K : Value → Prop) : xSl Tryz.prog 107 (.slice a n c) none (some (.int k j)) none K = K (.slice a j.toNat c) := xSl_hi tSh_107 a n c k j h0 h1 K
@[go_sem ↓] theorem xSlh_109 (a : Option Addr) (n c : Nat) (k : IntKind) (j : Int) (h0 : 0 ≤ j) (h1 : j ≤ (c : Int)) (K : Value → Prop) : xSl Tryz.prog 109 (.slice a n c) none (some (.int k j)) none K = K (.slice a j.toNat c) := xSl_hi tSh_109 a n c k j h0 h1 K
@[go_sem ↓] theorem xSlh_112 (a : Option Addr) (n c : Nat) (k : IntKind) (j : Int) (h0 : 0 ≤ j) (h1 : j ≤ (c : Int)) (K : Value → Prop) : xSl Tryz.prog 112 (.slice a n c) none (some (.int k j)) none K = K (.slice a j.toNat c) := xSl_hi tSh_112 a n c k j h0 h1 K
@[go_sem ↓] theorem xSlh_187 (a : Option Addr) (n c : Nat) (k : IntKind) (j : Int) (h0 : 0 ≤ j) (h1 : j ≤ (c : Int)) (K : Value → Prop) : xSl Tryz.prog 187 (.slice a n c) none (some (.int k j)) none K = K (.slice a j.toNat c) := xSl_hi tSh_187 a n c k j h0 h1 K
@[go_sem ↓] theorem xSlh_361 (a : Option Addr) (n c : Nat) (k : IntKind) (j : Int) (h0 : 0 ≤ j) (h1 : j ≤ (c : Int)) (K : Value → Prop) : xSl Tryz.prog 361 (.slice a n c) none (some (.int k j)) none K = K (.slice a j.toNat c) := xSl_hi tSh_361 a n c k j h0 h1 K
@[go_sem ↓] theorem xBeq_25 (x y : Operand) (a : Option Addr) (n c : Nat) (K : Value → Prop) : xBin Tryz.prog .eql 25 x y (.slice a n c) (.slice none 0 0) K = K (.bool a.isNone) := xBin_eqnil tSh_25 x y a n c K
@[go_sem ↓] theorem xBne_25 (x y : Operand) (a : Option Addr) (n c : Nat) (K : Value → Prop) : xBin Tryz.prog .neq 25 x y (.slice a n c) (.slice none 0 0) K = K (.bool (!a.isNone)) := xBin_nenil tSh_25 x y a n c K
@[go_sem ↓] theorem xBeq_26 (x y : Operand) (a : Option Addr) (n c : Nat) (K : Value → Prop) : xBin Tryz.prog .eql 26 x y (.slice a n c) (.slice none 0 0) K = K (.bool a.isNone) := xBin_eqnil tSh_26 x y a n c K
@[go_sem ↓] theorem xBne_26 (x y : Operand) (a : Option Addr) (n c : Nat) (K : Value → Prop) : xBin Tryz.prog .neq 26 x y (.slice a n c) (.slice none 0 0) K = K (.bool (!a.isNone)) := xBin_nenil tSh_26 x y a n c K
@[go_sem ↓] theorem xBeq_27 (x y : Operand) (a : Option Addr) (n c : Nat) (K : Value → Prop) : xBin Tryz.prog .eql 27 x y (.slice a n c) (.slice none 0 0) K = K (.bool a.isNone) := xBin_eqnil tSh_27 x y a n c K
@[go_sem ↓] theorem xBne_27 (x y : Operand) (a : Option Addr) (n c : Nat) (K : Value → Prop) : xBin Tryz.prog .neq 27 x y (.slice a n c) (.slice none 0 0) K = K (.bool (!a.isNone)) := xBin_nenil tSh_27 x y a n c K
@[go_sem ↓] theorem xBeq_28 (x y : Operand) (a : Option Addr) (n c : Nat) (K : Value → Prop) : xBin Tryz.prog .eql 28 x y (.slice a n c) (.slice none 0 0) K = K (.bool a.isNone) := xBin_eqnil tSh_28 x y a n c K
@[go_sem ↓] theorem xBne_28 (x y : Operand) (a : Option Addr) (n c : Nat) (K : Value → Prop) : xBin Tryz.prog .neq 28 x y (.slice a n c) (.slice none 0 0) K = K (.bool (!a.isNone)) := xBin_nenil tSh_28 x y a n c K
@[go_sem ↓] theorem xBeq_29 (x y : Operand) (a : Option Addr) (n c : Nat) (K : Value → Prop) : xBin Tryz.prog .eql 29 x y (.slice a n c) (.slice none 0 0) K = K (.bool a.isNone) := xBin_eqnil tSh_29 x y a n c K
@[go_sem ↓] theorem xBne_29 (x y : Operand) (a : Option Addr) (n c : Nat) (K : Value → Prop) : xBin Tryz.prog .neq 29 x y (.slice a n c) (.slice none 0 0) K = K (.bool (!a.isNone)) := xBin_nenil tSh_29 x y a n c K
@[go_sem ↓] theorem xBeq_30 (x y : Operand) (a : Option Addr) (n c : Nat) (K : Value → Prop) : xBin Tryz.prog .eql 30 x y (.slice a n c) (.slice none 0 0) K = K (.bool a.isNone) := xBin_eqnil tSh_30 x y a n c K
@[go_sem ↓] theorem xBne_30 (x y : Operand) (a : Option Addr) (n c : Nat) (K : Value → Prop) : xBin Tryz.prog .neq 30 x y (.slice a n c) (.slice none 0 0) K = K (.bool (!a.isNone)) := xBin_nenil tSh_30 x y a n c K
@[go_sem ↓] theorem xBeq_31 (x y : Operand) (a : Option Addr) (n c : Nat) (K : Value → Prop) : xBin Tryz.prog .eql 31 x y (.slice a n c) (.slice none 0 0) K = K (.bool a.isNone) := xBin_eqnil tSh_31 x y a n c K
@[go_sem ↓] theorem xBne_31 (x y : Operand) (a : Option Addr) (n c : Nat) (K : Value → Prop) : xBin Tryz.prog .neq 31 x y (.slice a n c) (.slice none 0 0) K = K (.bool (!a.isNone)) := xBin_nenil tSh_31 x y a n c K
@[go_sem ↓] theorem xBeq_32 (x y : Operand) (a : Option Addr) (n c : Nat) (K : Value → Prop) : xBin Tryz.prog .eql 32 x y (.slice a n c) (.slice none 0 0) K = K (.bool a.isNone) := xBin_eqnil tSh_32 x y a n c K
@[go_sem ↓] theorem xBne_32 (x y : Operand) (a : Option Addr) (n c : Nat) (K : Value → Prop) : xBin Tryz.prog .neq 32 x y (.slice a n c) (.slice none 0 0) K = K (.bool (!a.isNone)) := xBin_nenil tSh_32 x y a n c K
@[go_sem ↓] theorem xBeq_41 (x y : Operand) (a : Option Addr) (n c : Nat) (K : Value → Prop) : xBin Tryz.prog .eql 41 x y (.slice a n c) (.slice none 0 0) K = K (.bool a.isNone) := xBin_eqnil tSh_41 x y a n c K
@[go_sem ↓] theorem xBne_41 (x y : Operand) (a : Option Addr) (n c : Nat) (K : Value → Prop) : xBin Tryz.prog .neq 41 x y (.slice a n c) (.slice none 0 0) K = K (.bool (!a.isNone)) := xBin_nenil tSh_41 x y a n c K
@[go_sem ↓] theorem xBeq_42 (x y : Operand) (a : Option Addr) (n c : Nat) (K : Value → Prop) : xBin Tryz.prog .eql 42 x y (.slice a n c) (.slice none 0 0) K = K (.bool a.isNone) := xBin_eqnil tSh_42 x y a n c K
@[go_sem ↓] theorem xBne_42 (x y : Operand) (a : Option Addr) (n c : Nat) (K : Value → Prop) : xBin Tryz.prog .neq 42 x y (.slice a n c) (.slice none 0 0) K = K (.bool (!a.isNone)) := xBin_nenil tSh_42 x y a n c K
@[go_sem ↓] theorem xBeq_43 (x y : Operand) (a : Option Addr) (n c : Nat) (K : Value → Prop) : xBin Tryz.prog .eql 43 x y (.slice a n c) (.slice none 0 0) K = K (.bool a.isNone) := xBin_eqnil tSh_43 x y a n c K
@[go_sem ↓] theorem xBne_43 (x y : Operand) (a : Option Addr) (n c : Nat) (K : Value → Prop) : xBin Tryz.prog .neq 43 x y (.slice a n c) (.slice none 0 0) K = K (.bool (!a.isNone)) := xBin_nenil tSh_43 x y a n c K
@[go_sem ↓] theorem xBeq_44 (x y : Operand) (a : Option Addr) (n c : Nat) (K : Value → Prop) : xBin Tryz.prog .eql 44 x y (.slice a n c) (.slice none 0 0) K = K (.bool a.isNone) := xBin_eqnil tSh_44 x y a n c K
@[go_sem ↓] theorem xBne_44 (x y : Operand) (a : Option Addr) (n c : Nat) (K : Value → Prop) : xBin Tryz.prog .neq 44 x y (.slice a n c) (.slice none 0 0) K = K (.bool (!a.isNone)) := xBin_nenil tSh_44 x y a n c K
@[go_sem ↓] theorem xBeq_56 (x y : Operand) (a : Option Addr) (n c : Nat) (K : Value → Prop) : xBin Tryz.prog .eql 56 x y (.slice a n c) (.slice none 0 0) K = K (.bool a.isNone) := xBin_eqnil tSh_56 x y a n c K
@[go_sem ↓] theorem xBne_56 (x y : Operand) (a : Option Addr) (n c : Nat) (K : Value → Prop) : xBin Tryz.prog .neq 56 x y (.slice a n c) (.slice none 0 0) K = K (.bool (!a.isNone)) := xBin_nenil tSh_56 x y a n c K
@[go_sem ↓] theorem xBeq_66 (x y : Operand) (a : Option Addr) (n c : Nat) (K : Value → Prop) : xBin Tryz.prog .eql 66 x y (.slice a n c) (.slice none 0 0) K = K (.bool a.isNone) := xBin_eqnil tSh_66 x y a n c K
@[go_sem ↓] theorem xBne_66 (x y : Operand) (a : Option Addr) (n c : Nat) (K : Value → Prop) : xBin Tryz.prog .neq 66 x y (.slice a n c) (.slice none 0 0) K = K (.bool (!a.isNone)) := xBin_nenil tSh_66 x y a n c K
@[go_sem ↓] theorem xBeq_73 (x y : Operand) (a : Option Addr) (n c : Nat) (K : Value → Prop) : xBin Tryz.prog .eql 73 x y (.slice a n c) (.slice none 0 0) K = K (.bool a.isNone) := xBin_eqnil tSh_73 x y a n c K
@[go_sem ↓] theorem xBne_73 (x y : Operand) (a : Option Addr) (n c : Nat) (K : Value → Prop) : xBin Tryz.prog .neq 73 x y (.slice a n c) (.slice none 0 0) K = K (.bool (!a.isNone)) := xBin_nenil tSh_73 x y a n c K
@[go_sem ↓] theorem xBeq_95 (x y : Operand) (a : Option Addr) (n c : Nat) (K : Value → Prop) : xBin Tryz.prog .eql 95 x y (.slice a n c) (.slice none 0 0) K = K (.bool a.isNone) := xBin_eqnil tSh_95 x y a n c K
@[go_sem ↓] theorem xBne_95 (x y : Operand) (a : Option Addr) (n c : Nat) (K : Value → Prop) : xBin Tryz.prog .neq 95 x y (.slice a n c) (.slice none 0 0) K = K (.bool (!a.isNone)) := xBin_nenil tSh_95 x y a n c K
@[go_sem ↓] theorem xBeq_99 (x y : Operand) (a : Option Addr) (n c : Nat) (K : Value → Prop) : xBin Tryz.prog .eql 99 x y (.slice a n c) (.slice none 0 0) K = K (.bool a.isNone) := xBin_eqnil tSh_99 x y a n c K
@[go_sem ↓] theorem xBne_99 (x y : Operand) (a : Option Addr) (n c : Nat) (K : Value → Prop) : xBin Tryz.prog .neq 99 x y (.slice a n c) (.slice none 0 0) K = K (.bool (!a.isNone)) := xBin_nenil tSh_99 x y a n c K
@[go_sem ↓] theorem xBeq_107 (x y : Operand) (a : Option Addr) (n c : Nat) (K : Value → Prop) : xBin Tryz.prog .eql 107 x y (.slice a n c) (.slice none 0 0) K = K (.bool a.isNone) := xBin_eqnil tSh_107 x y a n c K
@[go_sem ↓] theorem xBne_107 (x y : Operand) (a : Option Addr) (n c : Nat) (K : Value → Prop) : xBin Tryz.prog .neq 107 x y (.slice a n c) (.slice none 0 0) K = K (.bool (!a.isNone)) := xBin_nenil tSh_107 x y a n c K
@[go_sem ↓] theorem xBeq_109 (x y : Operand) (a : Option Addr) (n c : Nat) (K : Value → Prop) : xBin Tryz.prog .eql 109 x y (.slice a n c) (.slice none 0 0) K = K (.bool a.isNone) := xBin_eqnil tSh_109 x y a n c K
@[go_sem ↓] theorem xBne_109 (x y : Operand) (a : Option Addr) (n c : Nat) (K : Value → Prop) : xBin Tryz.prog .neq 109 x y (.slice a n c) (.slice none 0 0) K = K (.bool (!a.isNone)) := xBin_nenil tSh_109 x y a n c K
@[go_sem ↓] theorem xBeq_112 (x y : Operand) (a : Option Addr) (n c : Nat) (K : Value → Prop) : xBin Tryz.prog .eql 112 x y (.slice a n c) (.slice none 0 0) K = K (.bool a.isNone) := xBin_eqnil tSh_112 x y a n c K
@[go_sem ↓] theorem xBne_112 (x y : Operand) (a : Option Addr) (n c : Nat) (K : Value → Prop) : xBin Tryz.prog .neq 112 x y (.slice a n c) (.slice none 0 0) K = K (.bool (!a.isNone)) := xBin_nenil tSh_112 x y a n c K
@[go_sem ↓] theorem xBeq_187 (x y : Operand) (a : Option Addr) (n c : Nat) (K : Value → Prop) : xBin Tryz.prog .eql 187 x y (.slice a n c) (.slice none 0 0) K = K (.bool a.isNone) := xBin_eqnil tSh_187 x y a n c K
@[go_sem ↓] theorem xBne_187 (x y : Operand) (a : Option Addr) (n c : Nat) (K : Value → Prop) : xBin Tryz.prog .neq 187 x y (.slice a n c) (.slice none 0 0) K = K (.bool (!a.isNone)) := xBin_nenil tSh_187 x y a n c K
@[go_sem ↓] theorem xBeq_361 (x y : Operand) (a : Option Addr) (n c : Nat) (K : Value → Prop) : xBin Tryz.prog .eql 361 x y (.slice a n c) (.slice none 0 0) K = K (.bool a.isNone) := xBin_eqnil tSh_361 x y a n c K
@[go_sem ↓] theorem xBne_361 (x y : Operand) (a : Option Addr) (n c : Nat) (K : Value → Prop) : xBin Tryz.prog .neq 361 x y (.slice a n c) (.slice none 0 0) K = K (.bool (!a.isNone)) := xBin_nenil tSh_361 x y a n c K
@[go_sem ↓] theorem xPeq_15 (x y : Operand) (a : Option Addr) (K : Value → Prop) : xBin Tryz.prog .eql 15 x y (.pointer a) (.pointer none) K = K (.bool a.isNone) := xBin_eqpnil (T := 15) (e := 508) (by kernel_rfl) x y a K
@[go_sem ↓] theorem xPne_15 (x y : Operand) (a : Option Addr) (K : Value → Prop) : xBin Tryz.prog .neq 15 x y (.pointer a) (.pointer none) K = K (.bool (!a.isNone)) := xBin_nepnil (T := 15) (e := 508) (by kernel_rfl) x y a K
@[go_sem ↓] theorem xPeq_16 (x y : Operand) (a : Option Addr) (K : Value → Prop) : xBin Tryz.prog .eql 16 x y (.pointer a) (.pointer none) K = K (.bool a.isNone) := xBin_eqpnil (T := 16) (e := 511) (by kernel_rfl) x y a K
@[go_sem ↓] theorem xPne_16 (x y : Operand) (a : Option Addr) (K : Value → Prop) : xBin Tryz.prog .neq 16 x y (.pointer a) (.pointer none) K = K (.bool (!a.isNone)) := xBin_nepnil (T := 16) (e := 511) (by kernel_rfl) x y a K
@[go_sem ↓] theorem xPeq_17 (x y : Operand) (a : Option Addr) (K : Value → Prop) : xBin Tryz.prog .eql 17 x y (.pointer a) (.pointer none) K = K (.bool a.isNone) := xBin_eqpnil (T := 17) (e := 519) (by kernel_rfl) x y a K
@[go_sem ↓] theorem xPne_17 (x y : Operand) (a : Option Addr) (K : Value → Prop) : xBin Tryz.prog .neq 17 x y (.pointer a) (.pointer none) K = K (.bool (!a.isNone)) := xBin_nepnil (T := 17) (e := 519) (by kernel_rfl) x y a K
@[go_sem ↓] theorem xPeq_108 (x y : Operand) (a : Option Addr) (K : Value → Prop) : xBin Tryz.prog .eql 108 x y (.pointer a) (.pointer none) K = K (.bool a.isNone) := xBin_eqpnil (T := 108) (e := 111) (by kernel_rfl) x y a K
@[go_sem ↓] theorem xPne_108 (x y : Operand) (a : Option Addr) (K : Value → Prop) : xBin Tryz.prog .neq 108 x y (.pointer a) (.pointer none) K = K (.bool (!a.isNone)) := xBin_nepnil (T := 108) (e := 111) (by kernel_rfl) x y a K
@[go_sem ↓] theorem xPeq_124 (x y : Operand) (a : Option Addr) (K : Value → Prop) : xBin Tryz.prog .eql 124 x y (.pointer a) (.pointer none) K = K (.bool a.isNone) := xBin_eqpnil (T := 124) (e := 130) (by kernel_rfl) x y a K
@[go_sem ↓] theorem xPne_124 (x y : Operand) (a : Option Addr) (K : Value → Prop) : xBin Tryz.prog .neq 124 x y (.pointer a) (.pointer none) K = K (.bool (!a.isNone)) := xBin_nepnil (T := 124) (e := 130) (by kernel_rfl) x y a K
@[go_sem ↓] theorem xPeq_132 (x y : Operand) (a : Option Addr) (K : Value → Prop) : xBin Tryz.prog .eql 132 x y (.pointer a) (.pointer none) K = K (.bool a.isNone) := xBin_eqpnil (T := 132) (e := 34) (by kernel_rfl) x y a K
@[go_sem ↓] theorem xPne_132 (x y : Operand) (a : Option Addr) (K : Value → Prop) : xBin Tryz.prog .neq 132 x y (.pointer a) (.pointer none) K = K (.bool (!a.isNone)) := xBin_nepnil (T := 132) (e := 34) (by kernel_rfl) x y a K
@[go_sem ↓] theorem xPeq_186 (x y : Operand) (a : Option Addr) (K : Value → Prop) : xBin Tryz.prog .eql 186 x y (.pointer a) (.pointer none) K = K (.bool a.isNone) := xBin_eqpnil (T := 186) (e := 189) (by kernel_rfl) x y a K
@[go_sem ↓] theorem xPne_186 (x y : Operand) (a : Option Addr) (K : Value → Prop) : xBin Tryz.prog .neq 186 x y (.pointer a) (.pointer none) K = K (.bool (!a.isNone)) := xBin_nepnil (T := 186) (e := 189) (by kernel_rfl) x y a K
@[go_sem ↓] theorem xPeq_230 (x y : Operand) (a : Option Addr) (K : Value → Prop) : xBin Tryz.prog .eql 230 x y (.pointer a) (.pointer none) K = K (.bool a.isNone) := xBin_eqpnil (T := 230) (e := 231) (by kernel_rfl) x y a K
@[go_sem ↓] theorem xPne_230 (x y : Operand) (a : Option Addr) (K : Value → Prop) : xBin Tryz.prog .neq 230 x y (.pointer a) (.pointer none) K = K (.bool (!a.isNone)) := xBin_nepnil (T := 230) (e := 231) (by kernel_rfl) x y a K
@[go_sem ↓] theorem xPeq_291 (x y : Operand) (a : Option Addr) (K : Value → Prop) : xBin Tryz.prog .eql 291 x y (.pointer a) (.pointer none) K = K (.bool a.isNone) := xBin_eqpnil (T := 291) (e := 30) (by kernel_rfl) x y a K
@[go_sem ↓] theorem xPne_291 (x y : Operand) (a : Option Addr) (K : Value → Prop) : xBin Tryz.prog .neq 291 x y (.pointer a) (.pointer none) K = K (.bool (!a.isNone)) := xBin_nepnil (T := 291) (e := 30) (by kernel_rfl) x y a K
@[go_sem ↓] theorem xPeq_346 (x y : Operand) (a : Option Addr) (K : Value → Prop) : xBin Tryz.prog .eql 346 x y (.pointer a) (.pointer none) K = K (.bool a.isNone) := xBin_eqpnil (T := 346) (e := 413) (by kernel_rfl) x y a K
@[go_sem ↓] theorem xPne_346 (x y : Operand) (a : Option Addr) (K : Value → Prop) : xBin Tryz.prog .neq 346 x y (.pointer a) (.pointer none) K = K (.bool (!a.isNone)) := xBin_nepnil (T := 346) (e := 413) (by kernel_rfl) x y a K
@[go_sem ↓] theorem xPeq_470 (x y : Operand) (a : Option Addr) (K : Value → Prop) : xBin Tryz.prog .eql 470 x y (.pointer a) (.pointer none) K = K (.bool a.isNone) := xBin_eqpnil (T := 470) (e := 411) (by kernel_rfl) x y a K
@[go_sem ↓] theorem xPne_470 (x y : Operand) (a : Option Addr) (K : Value → Prop) : xBin Tryz.prog .neq 470 x y (.pointer a) (.pointer none) K = K (.bool (!a.isNone)) := xBin_nepnil (T := 470) (e := 411) (by kernel_rfl) x y a K
@[go_sem ↓] theorem xSlm_25 (a : Option Addr) (n c : Nat) (k l : IntKind) (i j : Int) (h0 : 0 ≤ i) (h1 : i ≤ j) (h2 : j ≤ (c : Int)) (K : Value → Prop) : xSl Tryz.prog 25 (.slice a n c) (some (.int k i)) (some (.int l j)) none K = K (.slice (cutA a c i.toNat 1) (j.toNat - i.toNat) (c - i.toNat)) := xSl_mid tSh_25 a n c k l i j h0 h1 h2 K
@[go_sem ↓] theorem xSlm_26 (a : Option Addr) (n c : Nat) (k l : IntKind) (i j : Int) (h0 : 0 ≤ i) (h1 : i ≤ j) (h2 : j ≤ (c : Int)) (K : Value → Prop) : xSl Tryz.prog 26 (.slice a n c) (some (.int k i)) (some (.int l j)) none K = K (.slice (cutA a c i.toNat 6) (j.toNat - i.toNat) (c - i.toNat)) := xSl_mid tSh_26 a n c k l i j h0 h1 h2 K
@[go_sem ↓] theorem xSlm_27 (a : Option Addr) (n c : Nat) (k l : IntKind) (i j : Int) (h0 : 0 ≤ i) (h1 : i ≤ j) (h2 : j ≤ (c : Int)) (K : Value → Prop) : xSl Tryz.prog 27 (.slice a n c) (some (.int k i)) (some (.int l j)) none K = K (.slice (cutA a c i.toNat 1) (j.toNat - i.toNat) (c - i.toNat)) := xSl_mid tSh_27 a n c k l i j h0 h1 h2 K
@[go_sem ↓] theorem xSlm_28 (a : Option Addr) (n c : Nat) (k l : IntKind) (i j : Int) (h0 : 0 ≤ i) (h1 : i ≤ j) (h2 : j ≤ (c : Int)) (K : Value → Prop) : xSl Tryz.prog 28 (.slice a n c) (some (.int k i)) (some (.int l j)) none K = K (.slice (cutA a c i.toNat 4) (j.toNat - i.toNat) (c - i.toNat)) := xSl_mid tSh_28 a n c k l i j h0 h1 h2 K
@[go_sem ↓] theorem xSlm_29 (a : Option Addr) (n c : Nat) (k l : IntKind) (i j : Int) (h0 : 0 ≤ i) (h1 : i ≤ j) (h2 : j ≤ (c : Int)) (K : Value → Prop) : xSl Tryz.prog 29 (.slice a n c) (some (.int k i)) (some (.int l j)) none K = K (.slice (cutA a c i.toNat 3) (j.toNat - i.toNat) (c - i.toNat)) := xSl_mid tSh_29 a n c k l i j h0 h1 h2 K
@[go_sem ↓] theorem xSlm_30 (a : Option Addr) (n c : Nat) (k l : IntKind) (i j : Int) (h0 : 0 ≤ i) (h1 : i ≤ j) (h2 : j ≤ (c : Int)) (K : Value → Prop) : xSl Tryz.prog 30 (.slice a n c) (some (.int k i)) (some (.int l j)) none K = K (.slice (cutA a c i.toNat 33) (j.toNat - i.toNat) (c - i.toNat)) := xSl_mid tSh_30 a n c k l i j h0 h1 h2 K
@[go_sem ↓] theorem xSlm_31 (a : Option Addr) (n c : Nat) (k l : IntKind) (i j : Int) (h0 : 0 ≤ i) (h1 : i ≤ j) (h2 : j ≤ (c : Int)) (K : Value → Prop) : xSl Tryz.prog 31 (.slice a n c) (some (.int k i)) (some (.int l j)) none K = K (.slice (cutA a c i.toNat 1) (j.toNat - i.toNat) (c - i.toNat)) := xSl_mid tSh_31 a n c k l i j h0 h1 h2 K
@[go_sem ↓] theorem xSlm_32 (a : Option Addr) (n c : Nat) (k l : IntKind) (i j : Int) (h0 : 0 ≤ i) (h1 : i ≤ j) (h2 : j ≤ (c : Int)) (K : Value → Prop) : xSl Tryz.prog 32 (.slice a n c) (some (.int k i)) (some (.int l j)) none K = K (.slice (cutA a c i.toNat 1) (j.toNat - i.toNat) (c - i.toNat)) := xSl_mid tSh_32 a n c k l i j h0 h1 h2 K
@[go_sem ↓] theorem xSlm_41 (a : Option Addr) (n c : Nat) (k l : IntKind) (i j : Int) (h0 : 0 ≤ i) (h1 : i ≤ j) (h2 : j ≤ (c : Int)) (K : Value → Prop) : xSl Tryz.prog 41 (.slice a n c) (some (.int k i)) (some (.int l j)) none K = K (.slice (cutA a c i.toNat 6) (j.toNat - i.toNat) (c - i.toNat)) := xSl_mid tSh_41 a n c k l i j h0 h1 h2 K
@[go_sem ↓] theorem xSlm_42 (a : Option Addr) (n c : Nat) (k l : IntKind) (i j : Int) (h0 : 0 ≤ i) (h1 : i ≤ j) (h2 : j ≤ (c : Int)) (K : Value → Prop) : xSl Tryz.prog 42 (.slice a n c) (some (.int k i)) (some (.int l j)) none K = K (.slice (cutA a c i.toNat 4) (j.toNat - i.toNat) (c - i.toNat)) := xSl_mid tSh_42 a n c k l i j h0 h1 h2 K
@[go_sem ↓] theorem xSlm_43 (a : Option Addr) (n c : Nat) (k l : IntKind) (i j : Int) (h0 : 0 ≤ i) (h1 : i ≤ j) (h2 : j ≤ (c : Int)) (K : Value → Prop) : xSl Tryz.prog 43 (.slice a n c) (some (.int k i)) (some (.int l j)) none K = K (.slice (cutA a c i.toNat 3) (j.toNat - i.toNat) (c - i.toNat)) := xSl_mid tSh_43 a n c k l i j h0 h1 h2 K
@[go_sem ↓] theorem xSlm_44 (a : Option Addr) (n c : Nat) (k l : IntKind) (i j : Int) (h0 : 0 ≤ i) (h1 : i ≤ j) (h2 : j ≤ (c : Int)) (K : Value → Prop) : xSl Tryz.prog 44 (.slice a n c) (some (.int k i)) (some (.int l j)) none K = K (.slice (cutA a c i.toNat 33) (j.toNat - i.toNat) (c - i.toNat)) := xSl_mid tSh_44 a n c k l i j h0 h1 h2 K
@[go_sem ↓] theorem xSlm_56 (a : Option Addr) (n c : Nat) (k l : IntKind) (i j : Int) (h0 : 0 ≤ i) (h1 : i ≤ j) (h2 : j ≤ (c : Int)) (K : Value → Prop) : xSl Tryz.prog 56 (.slice a n c) (some (.int k i)) (some (.int l j)) none K = K (.slice (cutA a c i.toNat 2) (j.toNat - i.toNat) (c - i.toNat)) := xSl_mid tSh_56 a n c k l i j h0 h1 h2 K
@[go_sem ↓] theorem xSlm_66 (a : Option Addr) (n c : Nat) (k l : IntKind) (i j : Int) (h0 : 0 ≤ i) (h1 : i ≤ j) (h2 : j ≤ (c : Int)) (K : Value → Prop) : xSl Tryz.prog 66 (.slice a n c) (some (.int k i)) (some (.int l j)) none K = K (.slice (cutA a c i.toNat 8) (j.toNat - i.toNat) (c - i.toNat)) := xSl_mid tSh_66 a n c k l i j h0 h1 h2 K
@[go_sem ↓] theorem xSlm_73 (a : Option Addr) (n c : Nat) (k l : IntKind) (i j : Int) (h0 : 0 ≤ i) (h1 : i ≤ j) (h2 : j ≤ (c : Int)) (K : Value → Prop) : xSl Tryz.prog 73 (.slice a n c) (some (.int k i)) (some (.int l j)) none K = K (.slice (cutA a c i.toNat 8) (j.toNat - i.toNat) (c - i.toNat)) := xSl_mid tSh_73 a n c k l i j h0 h1 h2 K
@[go_sem ↓] theorem xSlm_95 (a : Option Addr) (n c : Nat) (k l : IntKind) (i j : Int) (h0 : 0 ≤ i) (h1 : i ≤ j) (h2 : j ≤ (c : Int)) (K : Value → Prop) : xSl Tryz.prog 95 (.slice a n c) (some (.int k i)) (some (.int l j)) none K = K (.slice (cutA a c i.toNat 34) (j.toNat - i.toNat) (c - i.toNat)) := xSl_mid tSh_95 a n c k l i j h0 h1 h2 K
@[go_sem ↓] theorem xSlm_99 (a : Option Addr) (n c : Nat) (k l : IntKind) (i j : Int) (h0 : 0 ≤ i) (h1 : i ≤ j) (h2 : j ≤ (c : Int)) (K : Value → Prop) : xSl Tryz.prog 99 (.slice a n c) (some (.int k i)) (some (.int l j)) none K = K (.slice (cutA a c i.toNat 2) (j.toNat - i.toNat) (c - i.toNat)) := xSl_mid tSh_99 a n c k l i j h0 h1 h2 K
@[go_sem ↓] theorem xSlm_107 (a : Option Addr) (n c : Nat) (k l : IntKind) (i j : Int) (h0 : 0 ≤ i) (h1 : i ≤ j) (h2 : j ≤ (c : Int)) (K : Value → Prop) : xSl Tryz.prog 107 (.slice a n c) (some (.int k i)) (some (.int l j)) none K = K (.slice (cutA a c i.toNat 37) (j.toNat - i.toNat) (c - i.toNat)) := xSl_mid tSh_107 a n c k l i j h0 h1 h2 K
@[go_sem ↓] theorem xSlm_109 (a : Option Addr) (n c : Nat) (k l : IntKind) (i j : Int) (h0 : 0 ≤ i) (h1 : i ≤ j) (h2 : j ≤ (c : Int)) (K : Value → Prop) : xSl Tryz.prog 109 (.slice a n c) (some (.int k i)) (some (.int l j)) none K = K (.slice (cutA a c i.toNat 36) (j.toNat - i.toNat) (c - i.toNat)) := xSl_mid tSh_109 a n c k l i j h0 h1 h2 K
@[go_sem ↓] theorem xSlm_112 (a : Option Addr) (n c : Nat) (k l : IntKind) (i j : Int) (h0 : 0 ≤ i) (h1 : i ≤ j) (h2 : j ≤ (c : Int)) (K : Value → Prop) : xSl Tryz.prog 112 (.slice a n c) (some (.int k i)) (some (.int l j)) none K = K (.slice (cutA a c i.toNat 1) (j.toNat - i.toNat) (c - i.toNat)) := xSl_mid tSh_112 a n c k l i j h0 h1 h2 K
@[go_sem ↓] theorem xSlm_187 (a : Option Addr) (n c : Nat) (k l : IntKind) (i j : Int) (h0 : 0 ≤ i) (h1 : i ≤ j) (h2 : j ≤ (c : Int)) (K : Value → Prop) : xSl Tryz.prog 187 (.slice a n c) (some (.int k i)) (some (.int l j)) none K = K (.slice (cutA a c i.toNat 4) (j.toNat - i.toNat) (c - i.toNat)) := xSl_mid tSh_187 a n c k l i j h0 h1 h2 K
@[go_sem ↓] theorem xSlm_361 (a : Option Addr) (n c : Nat) (k l : IntKind) (i j : Int) (h0 : 0 ≤ i) (h1 : i ≤ j) (h2 : j ≤ (c : Int)) (K : Value → Prop) : xSl Tryz.prog 361 (.slice a n c) (some (.int k i)) (some (.int l j)) none K = K (.slice (cutA a c i.toNat 1) (j.toNat - i.toNat) (c - i.toNat)) := xSl_mid tSh_361 a n c k l i j h0 h1 h2 K
@[go_sem ↓] theorem xLen_25 (ty : Nat) (a : Option Addr) (n c : Nat) (K : Value → Prop) : xLen Tryz.prog ty #[25] (.slice a n c) K = K (.int .i64 n) := xLen_slice (T := 25) (e := 22) (by kernel_rfl) a n c
@[go_sem ↓] theorem xLen_26 (ty : Nat) (a : Option Addr) (n c : Nat) (K : Value → Prop) : xLen Tryz.prog ty #[26] (.slice a n c) K = K (.int .i64 n) := xLen_slice (T := 26) (e := 181) (by kernel_rfl) a n c
@[go_sem ↓] theorem xLen_27 (ty : Nat) (a : Option Addr) (n c : Nat) (K : Value → Prop) : xLen Tryz.prog ty #[27] (.slice a n c) K = K (.int .i64 n) := xLen_slice (T := 27) (e := 3) (by kernel_rfl) a n c
@[go_sem ↓] theorem xLen_28 (ty : Nat) (a : Option Addr) (n c : Nat) (K : Value → Prop) : xLen Tryz.prog ty #[28] (.slice a n c) K = K (.int .i64 n) := xLen_slice (T := 28) (e := 225) (by kernel_rfl) a n c
@[go_sem ↓] theorem xLen_29 (ty : Nat) (a : Option Addr) (n c : Nat) (K : Value → Prop) : xLen Tryz.prog ty #[29] (.slice a n c) K = K (.int .i64 n) := xLen_slice (T := 29) (e := 64) (by kernel_rfl) a n c
@[go_sem ↓] theorem xLen_30 (ty : Nat) (a : Option Addr) (n c : Nat) (K : Value → Prop) : xLen Tryz.prog ty #[30] (.slice a n c) K = K (.int .i64 n) := xLen_slice (T := 30) (e := 123) (by kernel_rfl) a n c
@[go_sem ↓] theorem xLen_31 (ty : Nat) (a : Option Addr) (n c : Nat) (K : Value → Prop) : xLen Tryz.prog ty #[31] (.slice a n c) K = K (.int .i64 n) := xLen_slice (T := 31) (e := 5) (by kernel_rfl) a n c
@[go_sem ↓] theorem xLen_32 (ty : Nat) (a : Option Addr) (n c : Nat) (K : Value → Prop) : xLen Tryz.prog ty #[32] (.slice a n c) K = K (.int .i64 n) := xLen_slice (T := 32) (e := 31) (by kernel_rfl) a n c
@[go_sem ↓] theorem xLen_41 (ty : Nat) (a : Option Addr) (n c : Nat) (K : Value → Prop) : xLen Tryz.prog ty #[41] (.slice a n c) K = K (.int .i64 n) := xLen_slice (T := 41) (e := 148) (by kernel_rfl) a n c
@[go_sem ↓] theorem xLen_42 (ty : Nat) (a : Option Addr) (n c : Nat) (K : Value → Prop) : xLen Tryz.prog ty #[42] (.slice a n c) K = K (.int .i64 n) := xLen_slice (T := 42) (e := 159) (by kernel_rfl) a n c
@[go_sem ↓] theorem xLen_43 (ty : Nat) (a : Option Addr) (n c : Nat) (K : Value → Prop) : xLen Tryz.prog ty #[43] (.slice a n c) K = K (.int .i64 n) := xLen_slice (T := 43) (e := 160) (by kernel_rfl) a n c
@[go_sem ↓] theorem xLen_44 (ty : Nat) (a : Option Addr) (n c : Nat) (K : Value → Prop) : xLen Tryz.prog ty #[44] (.slice a n c) K = K (.int .i64 n) := xLen_slice (T := 44) (e := 150) (by kernel_rfl) a n c
@[go_sem ↓] theorem xLen_56 (ty : Nat) (a : Option Addr) (n c : Nat) (K : Value → Prop) : xLen Tryz.prog ty #[56] (.slice a n c) K = K (.int .i64 n) := xLen_slice (T := 56) (e := 61) (by kernel_rfl) a n c
@[go_sem ↓] theorem xLen_66 (ty : Nat) (a : Option Addr) (n c : Nat) (K : Value → Prop) : xLen Tryz.prog ty #[66] (.slice a n c) K = K (.int .i64 n) := xLen_slice (T := 66) (e := 70) (by kernel_rfl) a n c
@[go_sem ↓] theorem xLen_73 (ty : Nat) (a : Option Addr) (n c : Nat) (K : Value → Prop) : xLen Tryz.prog ty #[73] (.slice a n c) K = K (.int .i64 n) := xLen_slice (T := 73) (e := 76) (by kernel_rfl) a n c
@[go_sem ↓] theorem xLen_95 (ty : Nat) (a : Option Addr) (n c : Nat) (K : Value → Prop) : xLen Tryz.prog ty #[95] (.slice a n c) K = K (.int .i64 n) := xLen_slice (T := 95) (e := 85) (by kernel_rfl) a n c
@[go_sem ↓] theorem xLen_99 (ty : Nat) (a : Option Addr) (n c : Nat) (K : Value → Prop) : xLen Tryz.prog ty #[99] (.slice a n c) K = K (.int .i64 n) := xLen_slice (T := 99) (e := 98) (by kernel_rfl) a n c
@[go_sem ↓] theorem xLen_107 (ty : Nat) (a : Option Addr) (n c : Nat) (K : Value → Prop) : xLen Tryz.prog ty #[107] (.slice a n c) K = K (.int .i64 n) := xLen_slice (T := 107) (e := 105) (by kernel_rfl) a n c
@[go_sem ↓] theorem xLen_109 (ty : Nat) (a : Option Addr) (n c : Nat) (K : Value → Prop) : xLen Tryz.prog ty #[109] (.slice a n c) K = K (.int .i64 n) := xLen_slice (T := 109) (e := 252) (by kernel_rfl) a n c
@[go_sem ↓] theorem xLen_112 (ty : Nat) (a : Option Addr) (n c : Nat) (K : Value → Prop) : xLen Tryz.prog ty #[112] (.slice a n c) K = K (.int .i64 n) := xLen_slice (T := 112) (e := 108) (by kernel_rfl) a n c
@[go_sem ↓] theorem xLen_187 (ty : Nat) (a : Option Addr) (n c : Nat) (K : Value → Prop) : xLen Tryz.prog ty #[187] (.slice a n c) K = K (.int .i64 n) := xLen_slice (T := 187) (e := 179) (by kernel_rfl) a n c
@[go_sem ↓] theorem xLen_361 (ty : Nat) (a : Option Addr) (n c : Nat) (K : Value → Prop) : xLen Tryz.prog ty #[361] (.slice a n c) K = K (.int .i64 n) := xLen_slice (T := 361) (e := 4) (by kernel_rfl) a n c
@[go_sem ↓] theorem xBb_4 (x y : Operand) (a b : Bool) (K : Value → Prop) : xBin Tryz.prog .eql 4 x y (.bool a) (.bool b) K = K (.bool (a == b)) := xBin_eqbool (T := 4) (by kernel_rfl) x y a b K
@[go_sem ↓] theorem xBn_4 (x y : Operand) (a b : Bool) (K : Value → Prop) : xBin Tryz.prog .neq 4 x y (.bool a) (.bool b) K = K (.bool (!(a == b))) := xBin_nebool (T := 4) (by kernel_rfl) x y a b K
@[go_sem ↓] theorem xConv_3_5 (k : IntKind) (n : Int) (K : Value → Prop) : xConv Tryz.prog 3 5 (.int k n) K = K (.int .u8 (IntKind.u8.wrap n)) := xConv_int (s := 3) (d := 5) (ks := .i64) (kd := .u8) (by kernel_rfl) (by kernel_rfl) k n
@[go_sem ↓] theorem xConv_3_22 (k : IntKind) (n : Int) (K : Value → Prop) : xConv Tryz.prog 3 22 (.int k n) K = K (.int .u64 (IntKind.u64.wrap n)) := xConv_int (s := 3) (d := 22) (ks := .i64) (kd := .u64) (by kernel_rfl) (by kernel_rfl) k n
@[go_sem ↓] theorem xConv_3_372 (k : IntKind) (n : Int) (K : Value → Prop) : xConv Tryz.prog 3 372 (.int k n) K = K (.int .u64 (IntKind.u64.wrap n)) := xConv_int (s := 3) (d := 372) (ks := .i64) (kd := .u64) (by kernel_rfl) (by kernel_rfl) k n
@[go_sem ↓] theorem xConv_3_481 (k : IntKind) (n : Int) (K : Value → Prop) : xConv Tryz.prog 3 481 (.int k n) K = K (.int .u64 (IntKind.u64.wrap n)) := xConv_int (s := 3) (d := 481) (ks := .i64) (kd := .u64) (by kernel_rfl) (by kernel_rfl) k n
@[go_sem ↓] theorem xConv_5_3 (k : IntKind) (n : Int) (K : Value → Prop) : xConv Tryz.prog 5 3 (.int k n) K = K (.int .i64 (IntKind.i64.wrap n)) := xConv_int (s := 5) (d := 3) (ks := .u8) (kd := .i64) (by kernel_rfl) (by kernel_rfl) k n
@[go_sem ↓] theorem xConv_5_22 (k : IntKind) (n : Int) (K : Value → Prop) : xConv Tryz.prog 5 22 (.int k n) K = K (.int .u64 (IntKind.u64.wrap n)) := xConv_int (s := 5) (d := 22) (ks := .u8) (kd := .u64) (by kernel_rfl) (by kernel_rfl) k n
@[go_sem ↓] theorem xConv_22_3 (k : IntKind) (n : Int) (K : Value → Prop) : xConv Tryz.prog 22 3 (.int k n) K = K (.int .i64 (IntKind.i64.wrap n)) := xConv_int (s := 22) (d := 3) (ks := .u64) (kd := .i64) (by kernel_rfl) (by kernel_rfl) k n
@[go_sem ↓] theorem xConv_22_5 (k : IntKind) (n : Int) (K : Value → Prop) : xConv Tryz.prog 22 5 (.int k n) K = K (.int .u8 (IntKind.u8.wrap n)) := xConv_int (s := 22) (d := 5) (ks := .u64) (kd := .u8) (by kernel_rfl) (by kernel_rfl) k n
@[go_sem ↓] theorem xConv_372_3 (k : IntKind) (n : Int) (K : Value → Prop) : xConv Tryz.prog 372 3 (.int k n) K = K (.int .i64 (IntKind.i64.wrap n)) := xConv_int (s := 372) (d := 3) (ks := .u64) (kd := .i64) (by kernel_rfl) (by kernel_rfl) k n
@[go_sem ↓] theorem xConv_372_447 (k : IntKind) (n : Int) (K : Value → Prop) : xConv Tryz.prog 372 447 (.int k n) K = K (.int .u32 (IntKind.u32.wrap n)) := xConv_int (s := 372) (d := 447) (ks := .u64) (kd := .u32) (by kernel_rfl) (by kernel_rfl) k n
@[go_sem ↓] theorem xConv_447_5 (k : IntKind) (n : Int) (K : Value → Prop) : xConv Tryz.prog 447 5 (.int k n) K = K (.int .u8 (IntKind.u8.wrap n)) := xConv_int (s := 447) (d := 5) (ks := .u32) (kd := .u8) (by kernel_rfl) (by kernel_rfl) k n
theorem mixed : Tryz.prog.follows .mixedOrders = true := by kernel_rfl
end Go.X
