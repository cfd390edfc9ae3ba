/- Lemmas and contracts for a statement about the given program. Conditions: as each says. -/
import Derived.KernelRfl
import Derived.Test.YtkmojeioedjfkaaGreatProg
import Derived.Test.YtkmojeioedjfkaaGreatQ00
import Derived.Test.YtkmojeioedjfkaaGreatQ02
import Derived.Test.YtkmojeioedjfkaaGreatQ04
set_option linter.unusedVariables false
set_option linter.unusedSimpArgs false
set_option maxHeartbeats 12800000
set_option maxRecDepth 20000
namespace Go.X
open Go.Proofs
theorem tI_3 : tI Tryz.prog 3 = some ⟨1, false, [(.int .i64 0)], 8⟩ := by kernel_rfl
@[go_sem ↓] theorem xTI_3 (K : TI → Prop) : xTI Tryz.prog 3 K = K ⟨1, false, [(.int .i64 0)], 8⟩ := xTI_of tI_3 K
theorem tI_4 : tI Tryz.prog 4 = some ⟨1, false, [(.bool false)], 1⟩ := by kernel_rfl
@[go_sem ↓] theorem xTI_4 (K : TI → Prop) : xTI Tryz.prog 4 K = K ⟨1, false, [(.bool false)], 1⟩ := xTI_of tI_4 K
theorem tI_5 : tI Tryz.prog 5 = some ⟨1, false, [(.int .u8 0)], 1⟩ := by kernel_rfl
@[go_sem ↓] theorem xTI_5 (K : TI → Prop) : xTI Tryz.prog 5 K = K ⟨1, false, [(.int .u8 0)], 1⟩ := xTI_of tI_5 K
theorem tI_23 : tI Tryz.prog 23 = some ⟨1, false, [(.int .u64 0)], 8⟩ := by kernel_rfl
@[go_sem ↓] theorem xTI_23 (K : TI → Prop) : xTI Tryz.prog 23 K = K ⟨1, false, [(.int .u64 0)], 8⟩ := xTI_of tI_23 K
theorem tI_25 : tI Tryz.prog 25 = some ⟨24, true, [(.int .u64 0), (.int .u64 0), (.int .u64 0), (.int .u64 0), (.int .u64 0), (.int .u64 0), (.int .u64 0), (.int .u64 0), (.int .u64 0), (.int .u64 0), (.int .u64 0), (.int .u64 0), (.int .u64 0), (.int .u64 0), (.int .i64 0), (.int .i64 0), (.int .i64 0), (.int .i64 0), (.int .i64 0), (.int .i64 0), (.int .i64 0), (.int .i64 0), (.int .i64 0), (.int .i64 0)], 192⟩ := by kernel_rfl
@[go_sem ↓] theorem xTI_25 (K : TI → Prop) : xTI Tryz.prog 25 K = K ⟨24, true, [(.int .u64 0), (.int .u64 0), (.int .u64 0), (.int .u64 0), (.int .u64 0), (.int .u64 0), (.int .u64 0), (.int .u64 0), (.int .u64 0), (.int .u64 0), (.int .u64 0), (.int .u64 0), (.int .u64 0), (.int .u64 0), (.int .i64 0), (.int .i64 0), (.int .i64 0), (.int .i64 0), (.int .i64 0), (.int .i64 0), (.int .i64 0), (.int .i64 0), (.int .i64 0), (.int .i64 0)], 192⟩ := xTI_of tI_25 K
theorem tI_26 : tI Tryz.prog 26 = some ⟨1, false, [(.slice none 0 0)], 24⟩ := by kernel_rfl
@[go_sem ↓] theorem xTI_26 (K : TI → Prop) : xTI Tryz.prog 26 K = K ⟨1, false, [(.slice none 0 0)], 24⟩ := xTI_of tI_26 K
theorem tI_27 : tI Tryz.prog 27 = some ⟨1, false, [(.slice none 0 0)], 24⟩ := by kernel_rfl
@[go_sem ↓] theorem xTI_27 (K : TI → Prop) : xTI Tryz.prog 27 K = K ⟨1, false, [(.slice none 0 0)], 24⟩ := xTI_of tI_27 K
theorem tI_29 : tI Tryz.prog 29 = some ⟨27, true, [(.int .u64 0), (.int .u64 0), (.int .u64 0), (.int .u64 0), (.int .u64 0), (.int .u64 0), (.int .u64 0), (.int .u64 0), (.int .u64 0), (.int .u64 0), (.int .u64 0), (.int .u64 0), (.int .u64 0), (.int .u64 0), (.int .i64 0), (.int .i64 0), (.int .i64 0), (.int .i64 0), (.int .i64 0), (.int .i64 0), (.int .i64 0), (.int .i64 0), (.int .i64 0), (.int .i64 0), (.int .u64 0), (.slice none 0 0), (.slice none 0 0)], 248⟩ := by kernel_rfl
@[go_sem ↓] theorem xTI_29 (K : TI → Prop) : xTI Tryz.prog 29 K = K ⟨27, true, [(.int .u64 0), (.int .u64 0), (.int .u64 0), (.int .u64 0), (.int .u64 0), (.int .u64 0), (.int .u64 0), (.int .u64 0), (.int .u64 0), (.int .u64 0), (.int .u64 0), (.int .u64 0), (.int .u64 0), (.int .u64 0), (.int .i64 0), (.int .i64 0), (.int .i64 0), (.int .i64 0), (.int .i64 0), (.int .i64 0), (.int .i64 0), (.int .i64 0), (.int .i64 0), (.int .i64 0), (.int .u64 0), (.slice none 0 0), (.slice none 0 0)], 248⟩ := xTI_of tI_29 K
theorem tI_32 : tI Tryz.prog 32 = some ⟨2, true, [(.int .i64 0), (.int .u64 0)], 16⟩ := by kernel_rfl
@[go_sem ↓] theorem xTI_32 (K : TI → Prop) : xTI Tryz.prog 32 K = K ⟨2, true, [(.int .i64 0), (.int .u64 0)], 16⟩ := xTI_of tI_32 K
theorem tI_33 : tI Tryz.prog 33 = some ⟨1, false, [(.slice none 0 0)], 24⟩ := by kernel_rfl
@[go_sem ↓] theorem xTI_33 (K : TI → Prop) : xTI Tryz.prog 33 K = K ⟨1, false, [(.slice none 0 0)], 24⟩ := xTI_of tI_33 K
theorem tI_34 : tI Tryz.prog 34 = some ⟨1, false, [(.slice none 0 0)], 24⟩ := by kernel_rfl
@[go_sem ↓] theorem xTI_34 (K : TI → Prop) : xTI Tryz.prog 34 K = K ⟨1, false, [(.slice none 0 0)], 24⟩ := xTI_of tI_34 K
theorem tI_35 : tI Tryz.prog 35 = some ⟨1, false, [(.slice none 0 0)], 24⟩ := by kernel_rfl
@[go_sem ↓] theorem xTI_35 (K : TI → Prop) : xTI Tryz.prog 35 K = K ⟨1, false, [(.slice none 0 0)], 24⟩ := xTI_of tI_35 K
theorem tI_36 : tI Tryz.prog 36 = some ⟨1, false, [(.slice none 0 0)], 24⟩ := by kernel_rfl
@[go_sem ↓] theorem xTI_36 (K : TI → Prop) : xTI Tryz.prog 36 K = K ⟨1, false, [(.slice none 0 0)], 24⟩ := xTI_of tI_36 K
theorem tI_37 : tI Tryz.prog 37 = some ⟨1, false, [(.slice none 0 0)], 24⟩ := by kernel_rfl
@[go_sem ↓] theorem xTI_37 (K : TI → Prop) : xTI Tryz.prog 37 K = K ⟨1, false, [(.slice none 0 0)], 24⟩ := xTI_of tI_37 K
theorem tI_38 : tI Tryz.prog 38 = some ⟨1, false, [(.slice none 0 0)], 24⟩ := by kernel_rfl
@[go_sem ↓] theorem xTI_38 (K : TI → Prop) : xTI Tryz.prog 38 K = K ⟨1, false, [(.slice none 0 0)], 24⟩ := xTI_of tI_38 K
theorem tI_39 : tI Tryz.prog 39 = some ⟨1, false, [(.slice none 0 0)], 24⟩ := by kernel_rfl
@[go_sem ↓] theorem xTI_39 (K : TI → Prop) : xTI Tryz.prog 39 K = K ⟨1, false, [(.slice none 0 0)], 24⟩ := xTI_of tI_39 K
theorem tI_41 : tI Tryz.prog 41 = some ⟨41, true, [(.int .u64 0), (.int .u64 0), (.int .u64 0), (.int .u64 0), (.int .u64 0), (.int .u64 0), (.int .u64 0), (.int .u64 0), (.int .u64 0), (.int .u64 0), (.int .u64 0), (.int .u64 0), (.int .u64 0), (.int .u64 0), (.int .i64 0), (.int .i64 0), (.int .i64 0), (.int .i64 0), (.int .i64 0), (.int .i64 0), (.int .i64 0), (.int .i64 0), (.int .i64 0), (.int .i64 0), (.int .u64 0), (.int .u64 0), (.int .u64 0), (.int .u64 0), (.int .u64 0), (.int .i64 0), (.int .i64 0), (.bool false), (.slice none 0 0), (.slice none 0 0), (.slice none 0 0), (.slice none 0 0), (.slice none 0 0), (.slice none 0 0), (.slice none 0 0), (.slice none 0 0), (.slice none 0 0)], 472⟩ := by kernel_rfl
@[go_sem ↓] theorem xTI_41 (K : TI → Prop) : xTI Tryz.prog 41 K = K ⟨41, true, [(.int .u64 0), (.int .u64 0), (.int .u64 0), (.int .u64 0), (.int .u64 0), (.int .u64 0), (.int .u64 0), (.int .u64 0), (.int .u64 0), (.int .u64 0), (.int .u64 0), (.int .u64 0), (.int .u64 0), (.int .u64 0), (.int .i64 0), (.int .i64 0), (.int .i64 0), (.int .i64 0), (.int .i64 0), (.int .i64 0), (.int .i64 0), (.int .i64 0), (.int .i64 0), (.int .i64 0), (.int .u64 0), (.int .u64 0), (.int .u64 0), (.int .u64 0), (.int .u64 0), (.int .i64 0), (.int .i64 0), (.bool false), (.slice none 0 0), (.slice none 0 0), (.slice none 0 0), (.slice none 0 0), (.slice none 0 0), (.slice none 0 0), (.slice none 0 0), (.slice none 0 0), (.slice none 0 0)], 472⟩ := xTI_of tI_41 K
theorem tI_42 : tI Tryz.prog 42 = some ⟨1, false, [(.int .i64 0)], 8⟩ := by kernel_rfl
@[go_sem ↓] theorem xTI_42 (K : TI → Prop) : xTI Tryz.prog 42 K = K ⟨1, false, [(.int .i64 0)], 8⟩ := xTI_of tI_42 K
theorem tI_46 : tI Tryz.prog 46 = some ⟨3, true, [(.int .i64 0), (.int .i64 0), (.int .u64 0)], 24⟩ := by kernel_rfl
@[go_sem ↓] theorem xTI_46 (K : TI → Prop) : xTI Tryz.prog 46 K = K ⟨3, true, [(.int .i64 0), (.int .i64 0), (.int .u64 0)], 24⟩ := xTI_of tI_46 K
theorem tI_52 : tI Tryz.prog 52 = some ⟨34, true, [(.int .i64 0), (.int .i64 0), (.int .i64 0), (.int .i64 0), (.int .u64 0), (.int .i64 0), (.slice none 0 0), (.int .i64 0), (.int .u64 0), (.int .u64 0), (.int .u64 0), (.int .u64 0), (.int .u64 0), (.int .u64 0), (.int .u64 0), (.int .u64 0), (.int .u64 0), (.int .u64 0), (.int .u64 0), (.int .u64 0), (.int .u64 0), (.int .u64 0), (.int .i64 0), (.int .i64 0), (.int .i64 0), (.int .i64 0), (.int .i64 0), (.int .i64 0), (.int .i64 0), (.int .i64 0), (.int .i64 0), (.int .i64 0), (.int .i64 0), (.bool false)], 288⟩ := by kernel_rfl
@[go_sem ↓] theorem xTI_52 (K : TI → Prop) : xTI Tryz.prog 52 K = K ⟨34, true, [(.int .i64 0), (.int .i64 0), (.int .i64 0), (.int .i64 0), (.int .u64 0), (.int .i64 0), (.slice none 0 0), (.int .i64 0), (.int .u64 0), (.int .u64 0), (.int .u64 0), (.int .u64 0), (.int .u64 0), (.int .u64 0), (.int .u64 0), (.int .u64 0), (.int .u64 0), (.int .u64 0), (.int .u64 0), (.int .u64 0), (.int .u64 0), (.int .u64 0), (.int .i64 0), (.int .i64 0), (.int .i64 0), (.int .i64 0), (.int .i64 0), (.int .i64 0), (.int .i64 0), (.int .i64 0), (.int .i64 0), (.int .i64 0), (.int .i64 0), (.bool false)], 288⟩ := xTI_of tI_52 K
theorem tI_57 : tI Tryz.prog 57 = some ⟨24, true, [(.int .u64 0), (.int .u64 0), (.int .u64 0), (.int .u64 0), (.int .u64 0), (.int .u64 0), (.int .u64 0), (.int .u64 0), (.int .u64 0), (.int .u64 0), (.int .u64 0), (.int .u64 0), (.int .u64 0), (.int .u64 0), (.int .i64 0), (.int .i64 0), (.int .i64 0), (.int .i64 0), (.int .i64 0), (.int .i64 0), (.int .i64 0), (.int .i64 0), (.int .i64 0), (.int .i64 0)], 192⟩ := by kernel_rfl
@[go_sem ↓] theorem xTI_57 (K : TI → Prop) : xTI Tryz.prog 57 K = K ⟨24, true, [(.int .u64 0), (.int .u64 0), (.int .u64 0), (.int .u64 0), (.int .u64 0), (.int .u64 0), (.int .u64 0), (.int .u64 0), (.int .u64 0), (.int .u64 0), (.int .u64 0), (.int .u64 0), (.int .u64 0), (.int .u64 0), (.int .i64 0), (.int .i64 0), (.int .i64 0), (.int .i64 0), (.int .i64 0), (.int .i64 0), (.int .i64 0), (.int .i64 0), (.int .i64 0), (.int .i64 0)], 192⟩ := xTI_of tI_57 K
theorem tI_58 : tI Tryz.prog 58 = some ⟨1, false, [(.slice none 0 0)], 24⟩ := by kernel_rfl
@[go_sem ↓] theorem xTI_58 (K : TI → Prop) : xTI Tryz.prog 58 K = K ⟨1, false, [(.slice none 0 0)], 24⟩ := xTI_of tI_58 K
theorem tI_59 : tI Tryz.prog 59 = some ⟨1, false, [(.slice none 0 0)], 24⟩ := by kernel_rfl
@[go_sem ↓] theorem xTI_59 (K : TI → Prop) : xTI Tryz.prog 59 K = K ⟨1, false, [(.slice none 0 0)], 24⟩ := xTI_of tI_59 K
theorem tI_60 : tI Tryz.prog 60 = some ⟨1, false, [(.slice none 0 0)], 24⟩ := by kernel_rfl
@[go_sem ↓] theorem xTI_60 (K : TI → Prop) : xTI Tryz.prog 60 K = K ⟨1, false, [(.slice none 0 0)], 24⟩ := xTI_of tI_60 K
theorem tI_61 : tI Tryz.prog 61 = some ⟨1, false, [(.slice none 0 0)], 24⟩ := by kernel_rfl
@[go_sem ↓] theorem xTI_61 (K : TI → Prop) : xTI Tryz.prog 61 K = K ⟨1, false, [(.slice none 0 0)], 24⟩ := xTI_of tI_61 K
theorem tI_63 : tI Tryz.prog 63 = some ⟨41, true, [(.int .u64 0), (.int .u64 0), (.int .u64 0), (.int .u64 0), (.int .u64 0), (.int .u64 0), (.int .u64 0), (.int .u64 0), (.int .u64 0), (.int .u64 0), (.int .u64 0), (.int .u64 0), (.int .u64 0), (.int .u64 0), (.int .i64 0), (.int .i64 0), (.int .i64 0), (.int .i64 0), (.int .i64 0), (.int .i64 0), (.int .i64 0), (.int .i64 0), (.int .i64 0), (.int .i64 0), (.int .u64 0), (.int .u64 0), (.int .u64 0), (.int .u64 0), (.int .u64 0), (.int .i64 0), (.int .i64 0), (.bool false), (.slice none 0 0), (.slice none 0 0), (.slice none 0 0), (.slice none 0 0), (.slice none 0 0), (.slice none 0 0), (.slice none 0 0), (.slice none 0 0), (.slice none 0 0)], 472⟩ := by kernel_rfl
@[go_sem ↓] theorem xTI_63 (K : TI → Prop) : xTI Tryz.prog 63 K = K ⟨41, true, [(.int .u64 0), (.int .u64 0), (.int .u64 0), (.int .u64 0), (.int .u64 0), (.int .u64 0), (.int .u64 0), (.int .u64 0), (.int .u64 0), (.int .u64 0), (.int .u64 0), (.int .u64 0), (.int .u64 0), (.int .u64 0), (.int .i64 0), (.int .i64 0), (.int .i64 0), (.int .i64 0), (.int .i64 0), (.int .i64 0), (.int .i64 0), (.int .i64 0), (.int .i64 0), (.int .i64 0), (.int .u64 0), (.int .u64 0), (.int .u64 0), (.int .u64 0), (.int .u64 0), (.int .i64 0), (.int .i64 0), (.bool false), (.slice none 0 0), (.slice none 0 0), (.slice none 0 0), (.slice none 0 0), (.slice none 0 0), (.slice none 0 0), (.slice none 0 0), (.slice none 0 0), (.slice none 0 0)], 472⟩ := xTI_of tI_63 K
theorem tI_68 : tI Tryz.prog 68 = some ⟨34, true, [(.int .i64 0), (.int .i64 0), (.int .i64 0), (.int .i64 0), (.int .u64 0), (.int .i64 0), (.slice none 0 0), (.int .i64 0), (.int .u64 0), (.int .u64 0), (.int .u64 0), (.int .u64 0), (.int .u64 0), (.int .u64 0), (.int .u64 0), (.int .u64 0), (.int .u64 0), (.int .u64 0), (.int .u64 0), (.int .u64 0), (.int .u64 0), (.int .u64 0), (.int .i64 0), (.int .i64 0), (.int .i64 0), (.int .i64 0), (.int .i64 0), (.int .i64 0), (.int .i64 0), (.int .i64 0), (.int .i64 0), (.int .i64 0), (.int .i64 0), (.bool false)], 288⟩ := by kernel_rfl
@[go_sem ↓] theorem xTI_68 (K : TI → Prop) : xTI Tryz.prog 68 K = K ⟨34, true, [(.int .i64 0), (.int .i64 0), (.int .i64 0), (.int .i64 0), (.int .u64 0), (.int .i64 0), (.slice none 0 0), (.int .i64 0), (.int .u64 0), (.int .u64 0), (.int .u64 0), (.int .u64 0), (.int .u64 0), (.int .u64 0), (.int .u64 0), (.int .u64 0), (.int .u64 0), (.int .u64 0), (.int .u64 0), (.int .u64 0), (.int .u64 0), (.int .u64 0), (.int .i64 0), (.int .i64 0), (.int .i64 0), (.int .i64 0), (.int .i64 0), (.int .i64 0), (.int .i64 0), (.int .i64 0), (.int .i64 0), (.int .i64 0), (.int .i64 0), (.bool false)], 288⟩ := xTI_of tI_68 K
theorem tI_73 : tI Tryz.prog 73 = some ⟨1, false, [(.slice none 0 0)], 24⟩ := by kernel_rfl
@[go_sem ↓] theorem xTI_73 (K : TI → Prop) : xTI Tryz.prog 73 K = K ⟨1, false, [(.slice none 0 0)], 24⟩ := xTI_of tI_73 K
theorem tI_76 : tI Tryz.prog 76 = some ⟨2, true, [(.int .i64 0), (.slice none 0 0)], 32⟩ := by kernel_rfl
@[go_sem ↓] theorem xTI_76 (K : TI → Prop) : xTI Tryz.prog 76 K = K ⟨2, true, [(.int .i64 0), (.slice none 0 0)], 32⟩ := xTI_of tI_76 K
theorem tI_87 : tI Tryz.prog 87 = some ⟨4, true, [(.int .u64 0), (.int .u64 0), (.int .u64 0), (.int .i64 0)], 32⟩ := by kernel_rfl
@[go_sem ↓] theorem xTI_87 (K : TI → Prop) : xTI Tryz.prog 87 K = K ⟨4, true, [(.int .u64 0), (.int .u64 0), (.int .u64 0), (.int .i64 0)], 32⟩ := xTI_of tI_87 K
theorem tI_89 : tI Tryz.prog 89 = some ⟨6, true, [(.int .u64 0), (.int .u64 0), (.int .u64 0), (.int .i64 0), (.int .i64 0), (.int .i64 0)], 48⟩ := by kernel_rfl
@[go_sem ↓] theorem xTI_89 (K : TI → Prop) : xTI Tryz.prog 89 K = K ⟨6, true, [(.int .u64 0), (.int .u64 0), (.int .u64 0), (.int .i64 0), (.int .i64 0), (.int .i64 0)], 48⟩ := xTI_of tI_89 K
theorem tI_96 : tI Tryz.prog 96 = some ⟨2, true, [(.slice none 0 0), (.int .i64 0)], 32⟩ := by kernel_rfl
@[go_sem ↓] theorem xTI_96 (K : TI → Prop) : xTI Tryz.prog 96 K = K ⟨2, true, [(.slice none 0 0), (.int .i64 0)], 32⟩ := xTI_of tI_96 K
theorem tI_100 : tI Tryz.prog 100 = some ⟨3, true, [(.slice none 0 0), (.int .i64 0), (.int .i64 0)], 40⟩ := by kernel_rfl
@[go_sem ↓] theorem xTI_100 (K : TI → Prop) : xTI Tryz.prog 100 K = K ⟨3, true, [(.slice none 0 0), (.int .i64 0), (.int .i64 0)], 40⟩ := xTI_of tI_100 K
theorem tI_105 : tI Tryz.prog 105 = some ⟨1, false, [(.pointer none)], 8⟩ := by kernel_rfl
@[go_sem ↓] theorem xTI_105 (K : TI → Prop) : xTI Tryz.prog 105 K = K ⟨1, false, [(.pointer none)], 8⟩ := xTI_of tI_105 K
theorem tI_108 : tI Tryz.prog 108 = some ⟨2, true, [(.pointer none), (.int .i64 0)], 16⟩ := by kernel_rfl
@[go_sem ↓] theorem xTI_108 (K : TI → Prop) : xTI Tryz.prog 108 K = K ⟨2, true, [(.pointer none), (.int .i64 0)], 16⟩ := xTI_of tI_108 K
theorem tI_111 : tI Tryz.prog 111 = some ⟨33, true, [(.int .i64 0), (.int .i64 0), (.int .u64 0), (.int .u64 0), (.int .u64 0), (.int .u64 0), (.int .u64 0), (.int .u64 0), (.int .u64 0), (.int .u64 0), (.int .u64 0), (.int .u64 0), (.int .u64 0), (.int .u64 0), (.int .u64 0), (.int .u64 0), (.int .i64 0), (.int .i64 0), (.int .i64 0), (.int .i64 0), (.int .i64 0), (.int .i64 0), (.int .i64 0), (.int .i64 0), (.int .i64 0), (.int .i64 0), (.int .i64 0), (.int .u64 0), (.int .i64 0), (.int .i64 0), (.int .i64 0), (.slice none 0 0), (.slice none 0 0)], 296⟩ := by kernel_rfl
@[go_sem ↓] theorem xTI_111 (K : TI → Prop) : xTI Tryz.prog 111 K = K ⟨33, true, [(.int .i64 0), (.int .i64 0), (.int .u64 0), (.int .u64 0), (.int .u64 0), (.int .u64 0), (.int .u64 0), (.int .u64 0), (.int .u64 0), (.int .u64 0), (.int .u64 0), (.int .u64 0), (.int .u64 0), (.int .u64 0), (.int .u64 0), (.int .u64 0), (.int .i64 0), (.int .i64 0), (.int .i64 0), (.int .i64 0), (.int .i64 0), (.int .i64 0), (.int .i64 0), (.int .i64 0), (.int .i64 0), (.int .i64 0), (.int .i64 0), (.int .u64 0), (.int .i64 0), (.int .i64 0), (.int .i64 0), (.slice none 0 0), (.slice none 0 0)], 296⟩ := xTI_of tI_111 K
theorem tI_116 : tI Tryz.prog 116 = some ⟨4, true, [(.int .i64 0), (.int .i64 0), (.int .u64 0), (.bool false)], 32⟩ := by kernel_rfl
@[go_sem ↓] theorem xTI_116 (K : TI → Prop) : xTI Tryz.prog 116 K = K ⟨4, true, [(.int .i64 0), (.int .i64 0), (.int .u64 0), (.bool false)], 32⟩ := xTI_of tI_116 K
theorem tI_124 : tI Tryz.prog 124 = some ⟨41, true, [(.int .u64 0), (.int .u64 0), (.int .u64 0), (.int .u64 0), (.int .u64 0), (.int .u64 0), (.int .u64 0), (.int .u64 0), (.int .u64 0), (.int .u64 0), (.int .u64 0), (.int .u64 0), (.int .u64 0), (.int .u64 0), (.int .i64 0), (.int .i64 0), (.int .i64 0), (.int .i64 0), (.int .i64 0), (.int .i64 0), (.int .i64 0), (.int .i64 0), (.int .i64 0), (.int .i64 0), (.int .u64 0), (.int .u64 0), (.int .u64 0), (.int .u64 0), (.int .u64 0), (.int .i64 0), (.int .i64 0), (.bool false), (.slice none 0 0), (.slice none 0 0), (.slice none 0 0), (.slice none 0 0), (.slice none 0 0), (.slice none 0 0), (.slice none 0 0), (.slice none 0 0), (.slice none 0 0)], 472⟩ := by kernel_rfl
@[go_sem ↓] theorem xTI_124 (K : TI → Prop) : xTI Tryz.prog 124 K = K ⟨41, true, [(.int .u64 0), (.int .u64 0), (.int .u64 0), (.int .u64 0), (.int .u64 0), (.int .u64 0), (.int .u64 0), (.int .u64 0), (.int .u64 0), (.int .u64 0), (.int .u64 0), (.int .u64 0), (.int .u64 0), (.int .u64 0), (.int .i64 0), (.int .i64 0), (.int .i64 0), (.int .i64 0), (.int .i64 0), (.int .i64 0), (.int .i64 0), (.int .i64 0), (.int .i64 0), (.int .i64 0), (.int .u64 0), (.int .u64 0), (.int .u64 0), (.int .u64 0), (.int .u64 0), (.int .i64 0), (.int .i64 0), (.bool false), (.slice none 0 0), (.slice none 0 0), (.slice none 0 0), (.slice none 0 0), (.slice none 0 0), (.slice none 0 0), (.slice none 0 0), (.slice none 0 0), (.slice none 0 0)], 472⟩ := xTI_of tI_124 K
theorem tI_126 : tI Tryz.prog 126 = some ⟨4, true, [(.int .u64 0), (.int .u64 0), (.int .u64 0), (.int .i64 0)], 32⟩ := by kernel_rfl
@[go_sem ↓] theorem xTI_126 (K : TI → Prop) : xTI Tryz.prog 126 K = K ⟨4, true, [(.int .u64 0), (.int .u64 0), (.int .u64 0), (.int .i64 0)], 32⟩ := xTI_of tI_126 K
theorem tI_128 : tI Tryz.prog 128 = some ⟨6, true, [(.int .u64 0), (.int .u64 0), (.int .u64 0), (.int .i64 0), (.int .i64 0), (.int .i64 0)], 48⟩ := by kernel_rfl
@[go_sem ↓] theorem xTI_128 (K : TI → Prop) : xTI Tryz.prog 128 K = K ⟨6, true, [(.int .u64 0), (.int .u64 0), (.int .u64 0), (.int .i64 0), (.int .i64 0), (.int .i64 0)], 48⟩ := xTI_of tI_128 K
theorem tI_142 : tI Tryz.prog 142 = some ⟨9, true, [(.int .u64 0), (.int .u64 0), (.int .u64 0), (.int .u64 0), (.int .u64 0), (.slice none 0 0), (.slice none 0 0), (.slice none 0 0), (.slice none 0 0)], 136⟩ := by kernel_rfl
@[go_sem ↓] theorem xTI_142 (K : TI → Prop) : xTI Tryz.prog 142 K = K ⟨9, true, [(.int .u64 0), (.int .u64 0), (.int .u64 0), (.int .u64 0), (.int .u64 0), (.slice none 0 0), (.slice none 0 0), (.slice none 0 0), (.slice none 0 0)], 136⟩ := xTI_of tI_142 K
theorem tI_146 : tI Tryz.prog 146 = some ⟨33, true, [(.int .i64 0), (.int .i64 0), (.int .u64 0), (.int .u64 0), (.int .u64 0), (.int .u64 0), (.int .u64 0), (.int .u64 0), (.int .u64 0), (.int .u64 0), (.int .u64 0), (.int .u64 0), (.int .u64 0), (.int .u64 0), (.int .u64 0), (.int .u64 0), (.int .i64 0), (.int .i64 0), (.int .i64 0), (.int .i64 0), (.int .i64 0), (.int .i64 0), (.int .i64 0), (.int .i64 0), (.int .i64 0), (.int .i64 0), (.int .i64 0), (.int .u64 0), (.int .i64 0), (.int .i64 0), (.int .i64 0), (.slice none 0 0), (.slice none 0 0)], 296⟩ := by kernel_rfl
@[go_sem ↓] theorem xTI_146 (K : TI → Prop) : xTI Tryz.prog 146 K = K ⟨33, true, [(.int .i64 0), (.int .i64 0), (.int .u64 0), (.int .u64 0), (.int .u64 0), (.int .u64 0), (.int .u64 0), (.int .u64 0), (.int .u64 0), (.int .u64 0), (.int .u64 0), (.int .u64 0), (.int .u64 0), (.int .u64 0), (.int .u64 0), (.int .u64 0), (.int .i64 0), (.int .i64 0), (.int .i64 0), (.int .i64 0), (.int .i64 0), (.int .i64 0), (.int .i64 0), (.int .i64 0), (.int .i64 0), (.int .i64 0), (.int .i64 0), (.int .u64 0), (.int .i64 0), (.int .i64 0), (.int .i64 0), (.slice none 0 0), (.slice none 0 0)], 296⟩ := xTI_of tI_146 K
theorem tI_157 : tI Tryz.prog 157 = some ⟨4, true, [(.int .i64 0), (.int .i64 0), (.int .u64 0), (.bool false)], 32⟩ := by kernel_rfl
@[go_sem ↓] theorem xTI_157 (K : TI → Prop) : xTI Tryz.prog 157 K = K ⟨4, true, [(.int .i64 0), (.int .i64 0), (.int .u64 0), (.bool false)], 32⟩ := xTI_of tI_157 K
theorem tI_166 : tI Tryz.prog 166 = some ⟨41, true, [(.int .u64 0), (.int .u64 0), (.int .u64 0), (.int .u64 0), (.int .u64 0), (.int .u64 0), (.int .u64 0), (.int .u64 0), (.int .u64 0), (.int .u64 0), (.int .u64 0), (.int .u64 0), (.int .u64 0), (.int .u64 0), (.int .i64 0), (.int .i64 0), (.int .i64 0), (.int .i64 0), (.int .i64 0), (.int .i64 0), (.int .i64 0), (.int .i64 0), (.int .i64 0), (.int .i64 0), (.int .u64 0), (.int .u64 0), (.int .u64 0), (.int .u64 0), (.int .u64 0), (.int .i64 0), (.int .i64 0), (.bool false), (.slice none 0 0), (.slice none 0 0), (.slice none 0 0), (.slice none 0 0), (.slice none 0 0), (.slice none 0 0), (.slice none 0 0), (.slice none 0 0), (.slice none 0 0)], 472⟩ := by kernel_rfl
@[go_sem ↓] theorem xTI_166 (K : TI → Prop) : xTI Tryz.prog 166 K = K ⟨41, true, [(.int .u64 0), (.int .u64 0), (.int .u64 0), (.int .u64 0), (.int .u64 0), (.int .u64 0), (.int .u64 0), (.int .u64 0), (.int .u64 0), (.int .u64 0), (.int .u64 0), (.int .u64 0), (.int .u64 0), (.int .u64 0), (.int .i64 0), (.int .i64 0), (.int .i64 0), (.int .i64 0), (.int .i64 0), (.int .i64 0), (.int .i64 0), (.int .i64 0), (.int .i64 0), (.int .i64 0), (.int .u64 0), (.int .u64 0), (.int .u64 0), (.int .u64 0), (.int .u64 0), (.int .i64 0), (.int .i64 0), (.bool false), (.slice none 0 0), (.slice none 0 0), (.slice none 0 0), (.slice none 0 0), (.slice none 0 0), (.slice none 0 0), (.slice none 0 0), (.slice none 0 0), (.slice none 0 0)], 472⟩ := xTI_of tI_166 K
theorem tI_177 : tI Tryz.prog 177 = some ⟨1, false, [.nilIface], 16⟩ := by kernel_rfl
@[go_sem ↓] theorem xTI_177 (K : TI → Prop) : xTI Tryz.prog 177 K = K ⟨1, false, [.nilIface], 16⟩ := xTI_of tI_177 K
theorem tI_180 : tI Tryz.prog 180 = some ⟨1, false, [(.pointer none)], 8⟩ := by kernel_rfl
@[go_sem ↓] theorem xTI_180 (K : TI → Prop) : xTI Tryz.prog 180 K = K ⟨1, false, [(.pointer none)], 8⟩ := xTI_of tI_180 K
theorem tI_184 : tI Tryz.prog 184 = some ⟨1, false, [(.pointer none)], 8⟩ := by kernel_rfl
@[go_sem ↓] theorem xTI_184 (K : TI → Prop) : xTI Tryz.prog 184 K = K ⟨1, false, [(.pointer none)], 8⟩ := xTI_of tI_184 K
theorem tI_214 : tI Tryz.prog 214 = some ⟨3, true, [(.slice none 0 0), (.int .i64 0), (.int .i64 0)], 40⟩ := by kernel_rfl
@[go_sem ↓] theorem xTI_214 (K : TI → Prop) : xTI Tryz.prog 214 K = K ⟨3, true, [(.slice none 0 0), (.int .i64 0), (.int .i64 0)], 40⟩ := xTI_of tI_214 K
theorem tI_224 : tI Tryz.prog 224 = some ⟨1, true, [(.slice none 0 0)], 24⟩ := by kernel_rfl
@[go_sem ↓] theorem xTI_224 (K : TI → Prop) : xTI Tryz.prog 224 K = K ⟨1, true, [(.slice none 0 0)], 24⟩ := xTI_of tI_224 K
theorem tI_247 : tI Tryz.prog 247 = some ⟨5, true, [(.int .u64 0), (.int .u64 0), (.int .u64 0), (.int .u64 0), (.int .u64 0)], 40⟩ := by kernel_rfl
@[go_sem ↓] theorem xTI_247 (K : TI → Prop) : xTI Tryz.prog 247 K = K ⟨5, true, [(.int .u64 0), (.int .u64 0), (.int .u64 0), (.int .u64 0), (.int .u64 0)], 40⟩ := xTI_of tI_247 K
theorem tI_261 : tI Tryz.prog 261 = some ⟨24, true, [(.int .u64 0), (.int .u64 0), (.int .u64 0), (.int .u64 0), (.int .u64 0), (.int .u64 0), (.int .u64 0), (.int .u64 0), (.int .u64 0), (.int .u64 0), (.int .u64 0), (.int .u64 0), (.int .u64 0), (.int .u64 0), (.int .i64 0), (.int .i64 0), (.int .i64 0), (.int .i64 0), (.int .i64 0), (.int .i64 0), (.int .i64 0), (.int .i64 0), (.int .i64 0), (.int .i64 0)], 192⟩ := by kernel_rfl
@[go_sem ↓] theorem xTI_261 (K : TI → Prop) : xTI Tryz.prog 261 K = K ⟨24, true, [(.int .u64 0), (.int .u64 0), (.int .u64 0), (.int .u64 0), (.int .u64 0), (.int .u64 0), (.int .u64 0), (.int .u64 0), (.int .u64 0), (.int .u64 0), (.int .u64 0), (.int .u64 0), (.int .u64 0), (.int .u64 0), (.int .i64 0), (.int .i64 0), (.int .i64 0), (.int .i64 0), (.int .i64 0), (.int .i64 0), (.int .i64 0), (.int .i64 0), (.int .i64 0), (.int .i64 0)], 192⟩ := xTI_of tI_261 K
theorem tI_283 : tI Tryz.prog 283 = some ⟨6, true, [(.int .u64 0), (.int .u64 0), (.int .u64 0), (.int .i64 0), (.int .i64 0), (.int .i64 0)], 48⟩ := by kernel_rfl
@[go_sem ↓] theorem xTI_283 (K : TI → Prop) : xTI Tryz.prog 283 K = K ⟨6, true, [(.int .u64 0), (.int .u64 0), (.int .u64 0), (.int .i64 0), (.int .i64 0), (.int .i64 0)], 48⟩ := xTI_of tI_283 K
theorem tI_303 : tI Tryz.prog 303 = some ⟨2, true, [(.int .u64 0), (.int .u64 0)], 16⟩ := by kernel_rfl
@[go_sem ↓] theorem xTI_303 (K : TI → Prop) : xTI Tryz.prog 303 K = K ⟨2, true, [(.int .u64 0), (.int .u64 0)], 16⟩ := xTI_of tI_303 K
theorem tI_318 : tI Tryz.prog 318 = some ⟨28, true, [(.int .u64 0), (.int .u64 0), (.int .u64 0), (.int .i64 0), (.int .u64 0), (.int .u64 0), (.int .u64 0), (.int .u64 0), (.int .u64 0), (.int .u64 0), (.int .u64 0), (.int .u64 0), (.int .u64 0), (.int .u64 0), (.int .u64 0), (.int .u64 0), (.int .u64 0), (.int .u64 0), (.int .i64 0), (.int .i64 0), (.int .i64 0), (.int .i64 0), (.int .i64 0), (.int .i64 0), (.int .i64 0), (.int .i64 0), (.int .i64 0), (.int .i64 0)], 224⟩ := by kernel_rfl
@[go_sem ↓] theorem xTI_318 (K : TI → Prop) : xTI Tryz.prog 318 K = K ⟨28, true, [(.int .u64 0), (.int .u64 0), (.int .u64 0), (.int .i64 0), (.int .u64 0), (.int .u64 0), (.int .u64 0), (.int .u64 0), (.int .u64 0), (.int .u64 0), (.int .u64 0), (.int .u64 0), (.int .u64 0), (.int .u64 0), (.int .u64 0), (.int .u64 0), (.int .u64 0), (.int .u64 0), (.int .i64 0), (.int .i64 0), (.int .i64 0), (.int .i64 0), (.int .i64 0), (.int .i64 0), (.int .i64 0), (.int .i64 0), (.int .i64 0), (.int .i64 0)], 224⟩ := xTI_of tI_318 K
theorem bP_25 : bPl Tryz.prog 25 = some ([(.int .u64 0), (.int .u64 0), (.int .u64 0), (.int .u64 0), (.int .u64 0), (.int .u64 0), (.int .u64 0), (.int .u64 0), (.int .u64 0), (.int .u64 0), (.int .u64 0), (.int .u64 0), (.int .u64 0), (.int .u64 0), (.int .i64 0), (.int .i64 0), (.int .i64 0), (.int .i64 0), (.int .i64 0), (.int .i64 0), (.int .i64 0), (.int .i64 0), (.int .i64 0), (.int .i64 0)], [(0, 1), (1, 1), (2, 1), (3, 1), (4, 1), (5, 1), (6, 1), (7, 1), (8, 1), (9, 1), (10, 1), (11, 1), (12, 1), (13, 1), (14, 1), (15, 1), (16, 1), (17, 1), (18, 1), (19, 1), (20, 1), (21, 1), (22, 1), (23, 1)]) := by kernel_rfl
@[go_sem ↓] theorem xBuild_25 (ps : List (Nat × Value)) (K : Value → Prop) : xBuild Tryz.prog 25 ps.toArray K = xFill [(.int .u64 0), (.int .u64 0), (.int .u64 0), (.int .u64 0), (.int .u64 0), (.int .u64 0), (.int .u64 0), (.int .u64 0), (.int .u64 0), (.int .u64 0), (.int .u64 0), (.int .u64 0), (.int .u64 0), (.int .u64 0), (.int .i64 0), (.int .i64 0), (.int .i64 0), (.int .i64 0), (.int .i64 0), (.int .i64 0), (.int .i64 0), (.int .i64 0), (.int .i64 0), (.int .i64 0)] [(0, 1), (1, 1), (2, 1), (3, 1), (4, 1), (5, 1), (6, 1), (7, 1), (8, 1), (9, 1), (10, 1), (11, 1), (12, 1), (13, 1), (14, 1), (15, 1), (16, 1), (17, 1), (18, 1), (19, 1), (20, 1), (21, 1), (22, 1), (23, 1)] ps fun z' => K (.agg z'.toArray) := xBuild_of bP_25 ps K
theorem bP_29 : bPl Tryz.prog 29 = some ([(.int .u64 0), (.int .u64 0), (.int .u64 0), (.int .u64 0), (.int .u64 0), (.int .u64 0), (.int .u64 0), (.int .u64 0), (.int .u64 0), (.int .u64 0), (.int .u64 0), (.int .u64 0), (.int .u64 0), (.int .u64 0), (.int .i64 0), (.int .i64 0), (.int .i64 0), (.int .i64 0), (.int .i64 0), (.int .i64 0), (.int .i64 0), (.int .i64 0), (.int .i64 0), (.int .i64 0), (.int .u64 0), (.slice none 0 0), (.slice none 0 0)], [(0, 24), (24, 1), (25, 1), (26, 1)]) := by kernel_rfl
@[go_sem ↓] theorem xBuild_29 (ps : List (Nat × Value)) (K : Value → Prop) : xBuild Tryz.prog 29 ps.toArray K = xFill [(.int .u64 0), (.int .u64 0), (.int .u64 0), (.int .u64 0), (.int .u64 0), (.int .u64 0), (.int .u64 0), (.int .u64 0), (.int .u64 0), (.int .u64 0), (.int .u64 0), (.int .u64 0), (.int .u64 0), (.int .u64 0), (.int .i64 0), (.int .i64 0), (.int .i64 0), (.int .i64 0), (.int .i64 0), (.int .i64 0), (.int .i64 0), (.int .i64 0), (.int .i64 0), (.int .i64 0), (.int .u64 0), (.slice none 0 0), (.slice none 0 0)] [(0, 24), (24, 1), (25, 1), (26, 1)] ps fun z' => K (.agg z'.toArray) := xBuild_of bP_29 ps K
theorem bP_32 : bPl Tryz.prog 32 = some ([(.int .i64 0), (.int .u64 0)], [(0, 1), (1, 1)]) := by kernel_rfl
@[go_sem ↓] theorem xBuild_32 (ps : List (Nat × Value)) (K : Value → Prop) : xBuild Tryz.prog 32 ps.toArray K = xFill [(.int .i64 0), (.int .u64 0)] [(0, 1), (1, 1)] ps fun z' => K (.agg z'.toArray) := xBuild_of bP_32 ps K
theorem bP_41 : bPl Tryz.prog 41 = some ([(.int .u64 0), (.int .u64 0), (.int .u64 0), (.int .u64 0), (.int .u64 0), (.int .u64 0), (.int .u64 0), (.int .u64 0), (.int .u64 0), (.int .u64 0), (.int .u64 0), (.int .u64 0), (.int .u64 0), (.int .u64 0), (.int .i64 0), (.int .i64 0), (.int .i64 0), (.int .i64 0), (.int .i64 0), (.int .i64 0), (.int .i64 0), (.int .i64 0), (.int .i64 0), (.int .i64 0), (.int .u64 0), (.int .u64 0), (.int .u64 0), (.int .u64 0), (.int .u64 0), (.int .i64 0), (.int .i64 0), (.bool false), (.slice none 0 0), (.slice none 0 0), (.slice none 0 0), (.slice none 0 0), (.slice none 0 0), (.slice none 0 0), (.slice none 0 0), (.slice none 0 0), (.slice none 0 0)], [(0, 24), (24, 1), (25, 1), (26, 1), (27, 1), (28, 1), (29, 1), (30, 1), (31, 1), (32, 1), (33, 1), (34, 1), (35, 1), (36, 1), (37, 1), (38, 1), (39, 1), (40, 1)]) := by kernel_rfl
@[go_sem ↓] theorem xBuild_41 (ps : List (Nat × Value)) (K : Value → Prop) : xBuild Tryz.prog 41 ps.toArray K = xFill [(.int .u64 0), (.int .u64 0), (.int .u64 0), (.int .u64 0), (.int .u64 0), (.int .u64 0), (.int .u64 0), (.int .u64 0), (.int .u64 0), (.int .u64 0), (.int .u64 0), (.int .u64 0), (.int .u64 0), (.int .u64 0), (.int .i64 0), (.int .i64 0), (.int .i64 0), (.int .i64 0), (.int .i64 0), (.int .i64 0), (.int .i64 0), (.int .i64 0), (.int .i64 0), (.int .i64 0), (.int .u64 0), (.int .u64 0), (.int .u64 0), (.int .u64 0), (.int .u64 0), (.int .i64 0), (.int .i64 0), (.bool false), (.slice none 0 0), (.slice none 0 0), (.slice none 0 0), (.slice none 0 0), (.slice none 0 0), (.slice none 0 0), (.slice none 0 0), (.slice none 0 0), (.slice none 0 0)] [(0, 24), (24, 1), (25, 1), (26, 1), (27, 1), (28, 1), (29, 1), (30, 1), (31, 1), (32, 1), (33, 1), (34, 1), (35, 1), (36, 1), (37, 1), (38, 1), (39, 1), (40, 1)] ps fun z' => K (.agg z'.toArray) := xBuild_of bP_41 ps K
theorem bP_46 : bPl Tryz.prog 46 = some ([(.int .i64 0), (.int .i64 0), (.int .u64 0)], [(0, 1), (1, 1), (2, 1)]) := by kernel_rfl
@[go_sem ↓] theorem xBuild_46 (ps : List (Nat × Value)) (K : Value → Prop) : xBuild Tryz.prog 46 ps.toArray K = xFill [(.int .i64 0), (.int .i64 0), (.int .u64 0)] [(0, 1), (1, 1), (2, 1)] ps fun z' => K (.agg z'.toArray) := xBuild_of bP_46 ps K
theorem bP_87 : bPl Tryz.prog 87 = some ([(.int .u64 0), (.int .u64 0), (.int .u64 0), (.int .i64 0)], [(0, 1), (1, 1), (2, 1), (3, 1)]) := by kernel_rfl
@[go_sem ↓] theorem xBuild_87 (ps : List (Nat × Value)) (K : Value → Prop) : xBuild Tryz.prog 87 ps.toArray K = xFill [(.int .u64 0), (.int .u64 0), (.int .u64 0), (.int .i64 0)] [(0, 1), (1, 1), (2, 1), (3, 1)] ps fun z' => K (.agg z'.toArray) := xBuild_of bP_87 ps K
theorem bP_89 : bPl Tryz.prog 89 = some ([(.int .u64 0), (.int .u64 0), (.int .u64 0), (.int .i64 0), (.int .i64 0), (.int .i64 0)], [(0, 4), (4, 1), (5, 1)]) := by kernel_rfl
@[go_sem ↓] theorem xBuild_89 (ps : List (Nat × Value)) (K : Value → Prop) : xBuild Tryz.prog 89 ps.toArray K = xFill [(.int .u64 0), (.int .u64 0), (.int .u64 0), (.int .i64 0), (.int .i64 0), (.int .i64 0)] [(0, 4), (4, 1), (5, 1)] ps fun z' => K (.agg z'.toArray) := xBuild_of bP_89 ps K
theorem bP_96 : bPl Tryz.prog 96 = some ([(.slice none 0 0), (.int .i64 0)], [(0, 1), (1, 1)]) := by kernel_rfl
@[go_sem ↓] theorem xBuild_96 (ps : List (Nat × Value)) (K : Value → Prop) : xBuild Tryz.prog 96 ps.toArray K = xFill [(.slice none 0 0), (.int .i64 0)] [(0, 1), (1, 1)] ps fun z' => K (.agg z'.toArray) := xBuild_of bP_96 ps K
theorem bP_100 : bPl Tryz.prog 100 = some ([(.slice none 0 0), (.int .i64 0), (.int .i64 0)], [(0, 2), (2, 1)]) := by kernel_rfl
@[go_sem ↓] theorem xBuild_100 (ps : List (Nat × Value)) (K : Value → Prop) : xBuild Tryz.prog 100 ps.toArray K = xFill [(.slice none 0 0), (.int .i64 0), (.int .i64 0)] [(0, 2), (2, 1)] ps fun z' => K (.agg z'.toArray) := xBuild_of bP_100 ps K
theorem bP_108 : bPl Tryz.prog 108 = some ([(.pointer none), (.int .i64 0)], [(0, 1), (1, 1)]) := by kernel_rfl
@[go_sem ↓] theorem xBuild_108 (ps : List (Nat × Value)) (K : Value → Prop) : xBuild Tryz.prog 108 ps.toArray K = xFill [(.pointer none), (.int .i64 0)] [(0, 1), (1, 1)] ps fun z' => K (.agg z'.toArray) := xBuild_of bP_108 ps K
theorem bP_166 : bPl Tryz.prog 166 = some ([(.int .u64 0), (.int .u64 0), (.int .u64 0), (.int .u64 0), (.int .u64 0), (.int .u64 0), (.int .u64 0), (.int .u64 0), (.int .u64 0), (.int .u64 0), (.int .u64 0), (.int .u64 0), (.int .u64 0), (.int .u64 0), (.int .i64 0), (.int .i64 0), (.int .i64 0), (.int .i64 0), (.int .i64 0), (.int .i64 0), (.int .i64 0), (.int .i64 0), (.int .i64 0), (.int .i64 0), (.int .u64 0), (.int .u64 0), (.int .u64 0), (.int .u64 0), (.int .u64 0), (.int .i64 0), (.int .i64 0), (.bool false), (.slice none 0 0), (.slice none 0 0), (.slice none 0 0), (.slice none 0 0), (.slice none 0 0), (.slice none 0 0), (.slice none 0 0), (.slice none 0 0), (.slice none 0 0)], [(0, 41)]) := by kernel_rfl
@[go_sem ↓] theorem xBuild_166 (ps : List (Nat × Value)) (K : Value → Prop) : xBuild Tryz.prog 166 ps.toArray K = xFill [(.int .u64 0), (.int .u64 0), (.int .u64 0), (.int .u64 0), (.int .u64 0), (.int .u64 0), (.int .u64 0), (.int .u64 0), (.int .u64 0), (.int .u64 0), (.int .u64 0), (.int .u64 0), (.int .u64 0), (.int .u64 0), (.int .i64 0), (.int .i64 0), (.int .i64 0), (.int .i64 0), (.int .i64 0), (.int .i64 0), (.int .i64 0), (.int .i64 0), (.int .i64 0), (.int .i64 0), (.int .u64 0), (.int .u64 0), (.int .u64 0), (.int .u64 0), (.int .u64 0), (.int .i64 0), (.int .i64 0), (.bool false), (.slice none 0 0), (.slice none 0 0), (.slice none 0 0), (.slice none 0 0), (.slice none 0 0), (.slice none 0 0), (.slice none 0 0), (.slice none 0 0), (.slice none 0 0)] [(0, 41)] ps fun z' => K (.agg z'.toArray) := xBuild_of bP_166 ps K
theorem bP_214 : bPl Tryz.prog 214 = some ([(.slice none 0 0), (.int .i64 0), (.int .i64 0)], [(0, 2), (2, 1)]) := by kernel_rfl
@[go_sem ↓] theorem xBuild_214 (ps : List (Nat × Value)) (K : Value → Prop) : xBuild Tryz.prog 214 ps.toArray K = xFill [(.slice none 0 0), (.int .i64 0), (.int .i64 0)] [(0, 2), (2, 1)] ps fun z' => K (.agg z'.toArray) := xBuild_of bP_214 ps K
theorem bP_247 : bPl Tryz.prog 247 = some ([(.int .u64 0), (.int .u64 0), (.int .u64 0), (.int .u64 0), (.int .u64 0)], [(0, 1), (1, 1), (2, 1), (3, 1), (4, 1)]) := by kernel_rfl
@[go_sem ↓] theorem xBuild_247 (ps : List (Nat × Value)) (K : Value → Prop) : xBuild Tryz.prog 247 ps.toArray K = xFill [(.int .u64 0), (.int .u64 0), (.int .u64 0), (.int .u64 0), (.int .u64 0)] [(0, 1), (1, 1), (2, 1), (3, 1), (4, 1)] ps fun z' => K (.agg z'.toArray) := xBuild_of bP_247 ps K
theorem bP_261 : bPl Tryz.prog 261 = some ([(.int .u64 0), (.int .u64 0), (.int .u64 0), (.int .u64 0), (.int .u64 0), (.int .u64 0), (.int .u64 0), (.int .u64 0), (.int .u64 0), (.int .u64 0), (.int .u64 0), (.int .u64 0), (.int .u64 0), (.int .u64 0), (.int .i64 0), (.int .i64 0), (.int .i64 0), (.int .i64 0), (.int .i64 0), (.int .i64 0), (.int .i64 0), (.int .i64 0), (.int .i64 0), (.int .i64 0)], [(0, 24)]) := by kernel_rfl
@[go_sem ↓] theorem xBuild_261 (ps : List (Nat × Value)) (K : Value → Prop) : xBuild Tryz.prog 261 ps.toArray K = xFill [(.int .u64 0), (.int .u64 0), (.int .u64 0), (.int .u64 0), (.int .u64 0), (.int .u64 0), (.int .u64 0), (.int .u64 0), (.int .u64 0), (.int .u64 0), (.int .u64 0), (.int .u64 0), (.int .u64 0), (.int .u64 0), (.int .i64 0), (.int .i64 0), (.int .i64 0), (.int .i64 0), (.int .i64 0), (.int .i64 0), (.int .i64 0), (.int .i64 0), (.int .i64 0), (.int .i64 0)] [(0, 24)] ps fun z' => K (.agg z'.toArray) := xBuild_of bP_261 ps K
theorem bP_283 : bPl Tryz.prog 283 = some ([(.int .u64 0), (.int .u64 0), (.int .u64 0), (.int .i64 0), (.int .i64 0), (.int .i64 0)], [(0, 6)]) := by kernel_rfl
@[go_sem ↓] theorem xBuild_283 (ps : List (Nat × Value)) (K : Value → Prop) : xBuild Tryz.prog 283 ps.toArray K = xFill [(.int .u64 0), (.int .u64 0), (.int .u64 0), (.int .i64 0), (.int .i64 0), (.int .i64 0)] [(0, 6)] ps fun z' => K (.agg z'.toArray) := xBuild_of bP_283 ps K
theorem bP_303 : bPl Tryz.prog 303 = some ([(.int .u64 0), (.int .u64 0)], [(0, 1), (1, 1)]) := by kernel_rfl
@[go_sem ↓] theorem xBuild_303 (ps : List (Nat × Value)) (K : Value → Prop) : xBuild Tryz.prog 303 ps.toArray K = xFill [(.int .u64 0), (.int .u64 0)] [(0, 1), (1, 1)] ps fun z' => K (.agg z'.toArray) := xBuild_of bP_303 ps K
theorem bP_318 : bPl Tryz.prog 318 = some ([(.int .u64 0), (.int .u64 0), (.int .u64 0), (.int .i64 0), (.int .u64 0), (.int .u64 0), (.int .u64 0), (.int .u64 0), (.int .u64 0), (.int .u64 0), (.int .u64 0), (.int .u64 0), (.int .u64 0), (.int .u64 0), (.int .u64 0), (.int .u64 0), (.int .u64 0), (.int .u64 0), (.int .i64 0), (.int .i64 0), (.int .i64 0), (.int .i64 0), (.int .i64 0), (.int .i64 0), (.int .i64 0), (.int .i64 0), (.int .i64 0), (.int .i64 0)], [(0, 4), (4, 24)]) := by kernel_rfl
@[go_sem ↓] theorem xBuild_318 (ps : List (Nat × Value)) (K : Value → Prop) : xBuild Tryz.prog 318 ps.toArray K = xFill [(.int .u64 0), (.int .u64 0), (.int .u64 0), (.int .i64 0), (.int .u64 0), (.int .u64 0), (.int .u64 0), (.int .u64 0), (.int .u64 0), (.int .u64 0), (.int .u64 0), (.int .u64 0), (.int .u64 0), (.int .u64 0), (.int .u64 0), (.int .u64 0), (.int .u64 0), (.int .u64 0), (.int .i64 0), (.int .i64 0), (.int .i64 0), (.int .i64 0), (.int .i64 0), (.int .i64 0), (.int .i64 0), (.int .i64 0), (.int .i64 0), (.int .i64 0)] [(0, 4), (4, 24)] ps fun z' => K (.agg z'.toArray) := xBuild_of bP_318 ps K
theorem bS_26_0 : bSl Tryz.prog 26 0 = some (23, [], []) := by kernel_rfl
@[go_sem ↓] theorem xBS_26_0 (ps : List (Nat × Value)) (K : TypeId → List Value → Prop) : xBS Tryz.prog 26 0 ps.toArray K = xFill [] [] ps fun cs => K 23 cs := xBS_of bS_26_0 ps K
theorem bS_26_1 : bSl Tryz.prog 26 1 = some (23, [(.int .u64 0)], [(0, 1)]) := by kernel_rfl
@[go_sem ↓] theorem xBS_26_1 (ps : List (Nat × Value)) (K : TypeId → List Value → Prop) : xBS Tryz.prog 26 1 ps.toArray K = xFill [(.int .u64 0)] [(0, 1)] ps fun cs => K 23 cs := xBS_of bS_26_1 ps K
theorem bS_26_2 : bSl Tryz.prog 26 2 = some (23, [(.int .u64 0), (.int .u64 0)], [(0, 1), (1, 1)]) := by kernel_rfl
@[go_sem ↓] theorem xBS_26_2 (ps : List (Nat × Value)) (K : TypeId → List Value → Prop) : xBS Tryz.prog 26 2 ps.toArray K = xFill [(.int .u64 0), (.int .u64 0)] [(0, 1), (1, 1)] ps fun cs => K 23 cs := xBS_of bS_26_2 ps K
theorem bS_26_5 : bSl Tryz.prog 26 5 = some (23, [(.int .u64 0), (.int .u64 0), (.int .u64 0), (.int .u64 0), (.int .u64 0)], [(0, 1), (1, 1), (2, 1), (3, 1), (4, 1)]) := by kernel_rfl
@[go_sem ↓] theorem xBS_26_5 (ps : List (Nat × Value)) (K : TypeId → List Value → Prop) : xBS Tryz.prog 26 5 ps.toArray K = xFill [(.int .u64 0), (.int .u64 0), (.int .u64 0), (.int .u64 0), (.int .u64 0)] [(0, 1), (1, 1), (2, 1), (3, 1), (4, 1)] ps fun cs => K 23 cs := xBS_of bS_26_5 ps K
theorem bS_27_1 : bSl Tryz.prog 27 1 = some (32, [(.int .i64 0), (.int .u64 0)], [(0, 2)]) := by kernel_rfl
@[go_sem ↓] theorem xBS_27_1 (ps : List (Nat × Value)) (K : TypeId → List Value → Prop) : xBS Tryz.prog 27 1 ps.toArray K = xFill [(.int .i64 0), (.int .u64 0)] [(0, 2)] ps fun cs => K 32 cs := xBS_of bS_27_1 ps K
theorem bS_27_2 : bSl Tryz.prog 27 2 = some (32, [(.int .i64 0), (.int .u64 0), (.int .i64 0), (.int .u64 0)], [(0, 2), (2, 2)]) := by kernel_rfl
@[go_sem ↓] theorem xBS_27_2 (ps : List (Nat × Value)) (K : TypeId → List Value → Prop) : xBS Tryz.prog 27 2 ps.toArray K = xFill [(.int .i64 0), (.int .u64 0), (.int .i64 0), (.int .u64 0)] [(0, 2), (2, 2)] ps fun cs => K 32 cs := xBS_of bS_27_2 ps K
theorem bS_33_1 : bSl Tryz.prog 33 1 = some (89, [(.int .u64 0), (.int .u64 0), (.int .u64 0), (.int .i64 0), (.int .i64 0), (.int .i64 0)], [(0, 6)]) := by kernel_rfl
@[go_sem ↓] theorem xBS_33_1 (ps : List (Nat × Value)) (K : TypeId → List Value → Prop) : xBS Tryz.prog 33 1 ps.toArray K = xFill [(.int .u64 0), (.int .u64 0), (.int .u64 0), (.int .i64 0), (.int .i64 0), (.int .i64 0)] [(0, 6)] ps fun cs => K 89 cs := xBS_of bS_33_1 ps K
theorem bS_34_1 : bSl Tryz.prog 34 1 = some (3, [(.int .i64 0)], [(0, 1)]) := by kernel_rfl
@[go_sem ↓] theorem xBS_34_1 (ps : List (Nat × Value)) (K : TypeId → List Value → Prop) : xBS Tryz.prog 34 1 ps.toArray K = xFill [(.int .i64 0)] [(0, 1)] ps fun cs => K 3 cs := xBS_of bS_34_1 ps K
theorem bS_35_0 : bSl Tryz.prog 35 0 = some (116, [], []) := by kernel_rfl
@[go_sem ↓] theorem xBS_35_0 (ps : List (Nat × Value)) (K : TypeId → List Value → Prop) : xBS Tryz.prog 35 0 ps.toArray K = xFill [] [] ps fun cs => K 116 cs := xBS_of bS_35_0 ps K
theorem bS_35_1 : bSl Tryz.prog 35 1 = some (116, [(.int .i64 0), (.int .i64 0), (.int .u64 0), (.bool false)], [(0, 4)]) := by kernel_rfl
@[go_sem ↓] theorem xBS_35_1 (ps : List (Nat × Value)) (K : TypeId → List Value → Prop) : xBS Tryz.prog 35 1 ps.toArray K = xFill [(.int .i64 0), (.int .i64 0), (.int .u64 0), (.bool false)] [(0, 4)] ps fun cs => K 116 cs := xBS_of bS_35_1 ps K
theorem bS_36_1 : bSl Tryz.prog 36 1 = some (46, [(.int .i64 0), (.int .i64 0), (.int .u64 0)], [(0, 3)]) := by kernel_rfl
@[go_sem ↓] theorem xBS_36_1 (ps : List (Nat × Value)) (K : TypeId → List Value → Prop) : xBS Tryz.prog 36 1 ps.toArray K = xFill [(.int .i64 0), (.int .i64 0), (.int .u64 0)] [(0, 3)] ps fun cs => K 46 cs := xBS_of bS_36_1 ps K
theorem bS_37_1 : bSl Tryz.prog 37 1 = some (111, [(.int .i64 0), (.int .i64 0), (.int .u64 0), (.int .u64 0), (.int .u64 0), (.int .u64 0), (.int .u64 0), (.int .u64 0), (.int .u64 0), (.int .u64 0), (.int .u64 0), (.int .u64 0), (.int .u64 0), (.int .u64 0), (.int .u64 0), (.int .u64 0), (.int .i64 0), (.int .i64 0), (.int .i64 0), (.int .i64 0), (.int .i64 0), (.int .i64 0), (.int .i64 0), (.int .i64 0), (.int .i64 0), (.int .i64 0), (.int .i64 0), (.int .u64 0), (.int .i64 0), (.int .i64 0), (.int .i64 0), (.slice none 0 0), (.slice none 0 0)], [(0, 33)]) := by kernel_rfl
@[go_sem ↓] theorem xBS_37_1 (ps : List (Nat × Value)) (K : TypeId → List Value → Prop) : xBS Tryz.prog 37 1 ps.toArray K = xFill [(.int .i64 0), (.int .i64 0), (.int .u64 0), (.int .u64 0), (.int .u64 0), (.int .u64 0), (.int .u64 0), (.int .u64 0), (.int .u64 0), (.int .u64 0), (.int .u64 0), (.int .u64 0), (.int .u64 0), (.int .u64 0), (.int .u64 0), (.int .u64 0), (.int .i64 0), (.int .i64 0), (.int .i64 0), (.int .i64 0), (.int .i64 0), (.int .i64 0), (.int .i64 0), (.int .i64 0), (.int .i64 0), (.int .i64 0), (.int .i64 0), (.int .u64 0), (.int .i64 0), (.int .i64 0), (.int .i64 0), (.slice none 0 0), (.slice none 0 0)] [(0, 33)] ps fun cs => K 111 cs := xBS_of bS_37_1 ps K
theorem bS_38_1 : bSl Tryz.prog 38 1 = some (5, [(.int .u8 0)], [(0, 1)]) := by kernel_rfl
@[go_sem ↓] theorem xBS_38_1 (ps : List (Nat × Value)) (K : TypeId → List Value → Prop) : xBS Tryz.prog 38 1 ps.toArray K = xFill [(.int .u8 0)] [(0, 1)] ps fun cs => K 5 cs := xBS_of bS_38_1 ps K
theorem bS_39_1 : bSl Tryz.prog 39 1 = some (38, [(.slice none 0 0)], [(0, 1)]) := by kernel_rfl
@[go_sem ↓] theorem xBS_39_1 (ps : List (Nat × Value)) (K : TypeId → List Value → Prop) : xBS Tryz.prog 39 1 ps.toArray K = xFill [(.slice none 0 0)] [(0, 1)] ps fun cs => K 38 cs := xBS_of bS_39_1 ps K
theorem bS_181_5 : bSl Tryz.prog 181 5 = some (180, [(.pointer none), (.pointer none), (.pointer none), (.pointer none), (.pointer none)], [(0, 1), (1, 1), (2, 1), (3, 1), (4, 1)]) := by kernel_rfl
@[go_sem ↓] theorem xBS_181_5 (ps : List (Nat × Value)) (K : TypeId → List Value → Prop) : xBS Tryz.prog 181 5 ps.toArray K = xFill [(.pointer none), (.pointer none), (.pointer none), (.pointer none), (.pointer none)] [(0, 1), (1, 1), (2, 1), (3, 1), (4, 1)] ps fun cs => K 180 cs := xBS_of bS_181_5 ps K
theorem bS_181_14 : bSl Tryz.prog 181 14 = some (180, [(.pointer none), (.pointer none), (.pointer none), (.pointer none), (.pointer none), (.pointer none), (.pointer none), (.pointer none), (.pointer none), (.pointer none), (.pointer none), (.pointer none), (.pointer none), (.pointer none)], [(0, 1), (1, 1), (2, 1), (3, 1), (4, 1), (5, 1), (6, 1), (7, 1), (8, 1), (9, 1), (10, 1), (11, 1), (12, 1), (13, 1)]) := by kernel_rfl
@[go_sem ↓] theorem xBS_181_14 (ps : List (Nat × Value)) (K : TypeId → List Value → Prop) : xBS Tryz.prog 181 14 ps.toArray K = xFill [(.pointer none), (.pointer none), (.pointer none), (.pointer none), (.pointer none), (.pointer none), (.pointer none), (.pointer none), (.pointer none), (.pointer none), (.pointer none), (.pointer none), (.pointer none), (.pointer none)] [(0, 1), (1, 1), (2, 1), (3, 1), (4, 1), (5, 1), (6, 1), (7, 1), (8, 1), (9, 1), (10, 1), (11, 1), (12, 1), (13, 1)] ps fun cs => K 180 cs := xBS_of bS_181_14 ps K
theorem bS_233_6 : bSl Tryz.prog 233 6 = some (4, [(.bool false), (.bool false), (.bool false), (.bool false), (.bool false), (.bool false)], [(0, 1), (1, 1), (2, 1), (3, 1), (4, 1), (5, 1)]) := by kernel_rfl
@[go_sem ↓] theorem xBS_233_6 (ps : List (Nat × Value)) (K : TypeId → List Value → Prop) : xBS Tryz.prog 233 6 ps.toArray K = xFill [(.bool false), (.bool false), (.bool false), (.bool false), (.bool false), (.bool false)] [(0, 1), (1, 1), (2, 1), (3, 1), (4, 1), (5, 1)] ps fun cs => K 4 cs := xBS_of bS_233_6 ps K
theorem bS_233_7 : bSl Tryz.prog 233 7 = some (4, [(.bool false), (.bool false), (.bool false), (.bool false), (.bool false), (.bool false), (.bool false)], [(0, 1), (1, 1), (2, 1), (3, 1), (4, 1), (5, 1), (6, 1)]) := by kernel_rfl
@[go_sem ↓] theorem xBS_233_7 (ps : List (Nat × Value)) (K : TypeId → List Value → Prop) : xBS Tryz.prog 233 7 ps.toArray K = xFill [(.bool false), (.bool false), (.bool false), (.bool false), (.bool false), (.bool false), (.bool false)] [(0, 1), (1, 1), (2, 1), (3, 1), (4, 1), (5, 1), (6, 1)] ps fun cs => K 4 cs := xBS_of bS_233_7 ps K
theorem bS_233_12 : bSl Tryz.prog 233 12 = some (4, [(.bool false), (.bool false), (.bool false), (.bool false), (.bool false), (.bool false), (.bool false), (.bool false), (.bool false), (.bool false), (.bool false), (.bool false)], [(0, 1), (1, 1), (2, 1), (3, 1), (4, 1), (5, 1), (6, 1), (7, 1), (8, 1), (9, 1), (10, 1), (11, 1)]) := by kernel_rfl
@[go_sem ↓] theorem xBS_233_12 (ps : List (Nat × Value)) (K : TypeId → List Value → Prop) : xBS Tryz.prog 233 12 ps.toArray K = xFill [(.bool false), (.bool false), (.bool false), (.bool false), (.bool false), (.bool false), (.bool false), (.bool false), (.bool false), (.bool false), (.bool false), (.bool false)] [(0, 1), (1, 1), (2, 1), (3, 1), (4, 1), (5, 1), (6, 1), (7, 1), (8, 1), (9, 1), (10, 1), (11, 1)] ps fun cs => K 4 cs := xBS_of bS_233_12 ps K
theorem bS_291_2 : bSl Tryz.prog 291 2 = some (42, [(.int .i64 0), (.int .i64 0)], [(0, 1), (1, 1)]) := by kernel_rfl
@[go_sem ↓] theorem xBS_291_2 (ps : List (Nat × Value)) (K : TypeId → List Value → Prop) : xBS Tryz.prog 291 2 ps.toArray K = xFill [(.int .i64 0), (.int .i64 0)] [(0, 1), (1, 1)] ps fun cs => K 42 cs := xBS_of bS_291_2 ps K
theorem bS_291_4 : bSl Tryz.prog 291 4 = some (42, [(.int .i64 0), (.int .i64 0), (.int .i64 0), (.int .i64 0)], [(0, 1), (1, 1), (2, 1), (3, 1)]) := by kernel_rfl
@[go_sem ↓] theorem xBS_291_4 (ps : List (Nat × Value)) (K : TypeId → List Value → Prop) : xBS Tryz.prog 291 4 ps.toArray K = xFill [(.int .i64 0), (.int .i64 0), (.int .i64 0), (.int .i64 0)] [(0, 1), (1, 1), (2, 1), (3, 1)] ps fun cs => K 42 cs := xBS_of bS_291_4 ps K
theorem bS_333_10 : bSl Tryz.prog 333 10 = some (184, [(.pointer none), (.pointer none), (.pointer none), (.pointer none), (.pointer none), (.pointer none), (.pointer none), (.pointer none), (.pointer none), (.pointer none)], [(0, 1), (1, 1), (2, 1), (3, 1), (4, 1), (5, 1), (6, 1), (7, 1), (8, 1), (9, 1)]) := by kernel_rfl
@[go_sem ↓] theorem xBS_333_10 (ps : List (Nat × Value)) (K : TypeId → List Value → Prop) : xBS Tryz.prog 333 10 ps.toArray K = xFill [(.pointer none), (.pointer none), (.pointer none), (.pointer none), (.pointer none), (.pointer none), (.pointer none), (.pointer none), (.pointer none), (.pointer none)] [(0, 1), (1, 1), (2, 1), (3, 1), (4, 1), (5, 1), (6, 1), (7, 1), (8, 1), (9, 1)] ps fun cs => K 184 cs := xBS_of bS_333_10 ps K
theorem fO_25_0 : fOff Tryz.prog 25 0 = some 0 := by kernel_rfl
@[go_sem ↓] theorem xFO_25_0 (K : Nat → Prop) : xFO Tryz.prog 25 0 K = K 0 := xFO_of fO_25_0 K
theorem fO_25_1 : fOff Tryz.prog 25 1 = some 1 := by kernel_rfl
@[go_sem ↓] theorem xFO_25_1 (K : Nat → Prop) : xFO Tryz.prog 25 1 K = K 1 := xFO_of fO_25_1 K
theorem fO_25_2 : fOff Tryz.prog 25 2 = some 2 := by kernel_rfl
@[go_sem ↓] theorem xFO_25_2 (K : Nat → Prop) : xFO Tryz.prog 25 2 K = K 2 := xFO_of fO_25_2 K
theorem fO_25_3 : fOff Tryz.prog 25 3 = some 3 := by kernel_rfl
@[go_sem ↓] theorem xFO_25_3 (K : Nat → Prop) : xFO Tryz.prog 25 3 K = K 3 := xFO_of fO_25_3 K
theorem fO_25_4 : fOff Tryz.prog 25 4 = some 4 := by kernel_rfl
@[go_sem ↓] theorem xFO_25_4 (K : Nat → Prop) : xFO Tryz.prog 25 4 K = K 4 := xFO_of fO_25_4 K
theorem fO_25_5 : fOff Tryz.prog 25 5 = some 5 := by kernel_rfl
@[go_sem ↓] theorem xFO_25_5 (K : Nat → Prop) : xFO Tryz.prog 25 5 K = K 5 := xFO_of fO_25_5 K
theorem fO_25_6 : fOff Tryz.prog 25 6 = some 6 := by kernel_rfl
@[go_sem ↓] theorem xFO_25_6 (K : Nat → Prop) : xFO Tryz.prog 25 6 K = K 6 := xFO_of fO_25_6 K
theorem fO_25_7 : fOff Tryz.prog 25 7 = some 7 := by kernel_rfl
@[go_sem ↓] theorem xFO_25_7 (K : Nat → Prop) : xFO Tryz.prog 25 7 K = K 7 := xFO_of fO_25_7 K
theorem fO_25_8 : fOff Tryz.prog 25 8 = some 8 := by kernel_rfl
@[go_sem ↓] theorem xFO_25_8 (K : Nat → Prop) : xFO Tryz.prog 25 8 K = K 8 := xFO_of fO_25_8 K
theorem fO_25_9 : fOff Tryz.prog 25 9 = some 9 := by kernel_rfl
@[go_sem ↓] theorem xFO_25_9 (K : Nat → Prop) : xFO Tryz.prog 25 9 K = K 9 := xFO_of fO_25_9 K
theorem fO_25_10 : fOff Tryz.prog 25 10 = some 10 := by kernel_rfl
@[go_sem ↓] theorem xFO_25_10 (K : Nat → Prop) : xFO Tryz.prog 25 10 K = K 10 := xFO_of fO_25_10 K
theorem fO_25_11 : fOff Tryz.prog 25 11 = some 11 := by kernel_rfl
@[go_sem ↓] theorem xFO_25_11 (K : Nat → Prop) : xFO Tryz.prog 25 11 K = K 11 := xFO_of fO_25_11 K
theorem fO_25_12 : fOff Tryz.prog 25 12 = some 12 := by kernel_rfl
@[go_sem ↓] theorem xFO_25_12 (K : Nat → Prop) : xFO Tryz.prog 25 12 K = K 12 := xFO_of fO_25_12 K
theorem fO_25_13 : fOff Tryz.prog 25 13 = some 13 := by kernel_rfl
@[go_sem ↓] theorem xFO_25_13 (K : Nat → Prop) : xFO Tryz.prog 25 13 K = K 13 := xFO_of fO_25_13 K
theorem fO_25_14 : fOff Tryz.prog 25 14 = some 14 := by kernel_rfl
@[go_sem ↓] theorem xFO_25_14 (K : Nat → Prop) : xFO Tryz.prog 25 14 K = K 14 := xFO_of fO_25_14 K
theorem fO_25_15 : fOff Tryz.prog 25 15 = some 15 := by kernel_rfl
@[go_sem ↓] theorem xFO_25_15 (K : Nat → Prop) : xFO Tryz.prog 25 15 K = K 15 := xFO_of fO_25_15 K
theorem fO_25_16 : fOff Tryz.prog 25 16 = some 16 := by kernel_rfl
@[go_sem ↓] theorem xFO_25_16 (K : Nat → Prop) : xFO Tryz.prog 25 16 K = K 16 := xFO_of fO_25_16 K
theorem fO_25_17 : fOff Tryz.prog 25 17 = some 17 := by kernel_rfl
@[go_sem ↓] theorem xFO_25_17 (K : Nat → Prop) : xFO Tryz.prog 25 17 K = K 17 := xFO_of fO_25_17 K
theorem fO_25_18 : fOff Tryz.prog 25 18 = some 18 := by kernel_rfl
@[go_sem ↓] theorem xFO_25_18 (K : Nat → Prop) : xFO Tryz.prog 25 18 K = K 18 := xFO_of fO_25_18 K
theorem fO_25_19 : fOff Tryz.prog 25 19 = some 19 := by kernel_rfl
@[go_sem ↓] theorem xFO_25_19 (K : Nat → Prop) : xFO Tryz.prog 25 19 K = K 19 := xFO_of fO_25_19 K
theorem fO_25_20 : fOff Tryz.prog 25 20 = some 20 := by kernel_rfl
@[go_sem ↓] theorem xFO_25_20 (K : Nat → Prop) : xFO Tryz.prog 25 20 K = K 20 := xFO_of fO_25_20 K
theorem fO_25_21 : fOff Tryz.prog 25 21 = some 21 := by kernel_rfl
@[go_sem ↓] theorem xFO_25_21 (K : Nat → Prop) : xFO Tryz.prog 25 21 K = K 21 := xFO_of fO_25_21 K
theorem fO_25_22 : fOff Tryz.prog 25 22 = some 22 := by kernel_rfl
@[go_sem ↓] theorem xFO_25_22 (K : Nat → Prop) : xFO Tryz.prog 25 22 K = K 22 := xFO_of fO_25_22 K
theorem fO_25_23 : fOff Tryz.prog 25 23 = some 23 := by kernel_rfl
@[go_sem ↓] theorem xFO_25_23 (K : Nat → Prop) : xFO Tryz.prog 25 23 K = K 23 := xFO_of fO_25_23 K
theorem fO_29_0 : fOff Tryz.prog 29 0 = some 0 := by kernel_rfl
@[go_sem ↓] theorem xFO_29_0 (K : Nat → Prop) : xFO Tryz.prog 29 0 K = K 0 := xFO_of fO_29_0 K
theorem fO_29_1 : fOff Tryz.prog 29 1 = some 24 := by kernel_rfl
@[go_sem ↓] theorem xFO_29_1 (K : Nat → Prop) : xFO Tryz.prog 29 1 K = K 24 := xFO_of fO_29_1 K
theorem fO_29_2 : fOff Tryz.prog 29 2 = some 25 := by kernel_rfl
@[go_sem ↓] theorem xFO_29_2 (K : Nat → Prop) : xFO Tryz.prog 29 2 K = K 25 := xFO_of fO_29_2 K
theorem fO_29_3 : fOff Tryz.prog 29 3 = some 26 := by kernel_rfl
@[go_sem ↓] theorem xFO_29_3 (K : Nat → Prop) : xFO Tryz.prog 29 3 K = K 26 := xFO_of fO_29_3 K
theorem fO_32_0 : fOff Tryz.prog 32 0 = some 0 := by kernel_rfl
@[go_sem ↓] theorem xFO_32_0 (K : Nat → Prop) : xFO Tryz.prog 32 0 K = K 0 := xFO_of fO_32_0 K
theorem fO_32_1 : fOff Tryz.prog 32 1 = some 1 := by kernel_rfl
@[go_sem ↓] theorem xFO_32_1 (K : Nat → Prop) : xFO Tryz.prog 32 1 K = K 1 := xFO_of fO_32_1 K
theorem fO_41_0 : fOff Tryz.prog 41 0 = some 0 := by kernel_rfl
@[go_sem ↓] theorem xFO_41_0 (K : Nat → Prop) : xFO Tryz.prog 41 0 K = K 0 := xFO_of fO_41_0 K
theorem fO_41_1 : fOff Tryz.prog 41 1 = some 24 := by kernel_rfl
@[go_sem ↓] theorem xFO_41_1 (K : Nat → Prop) : xFO Tryz.prog 41 1 K = K 24 := xFO_of fO_41_1 K
theorem fO_41_2 : fOff Tryz.prog 41 2 = some 25 := by kernel_rfl
@[go_sem ↓] theorem xFO_41_2 (K : Nat → Prop) : xFO Tryz.prog 41 2 K = K 25 := xFO_of fO_41_2 K
theorem fO_41_3 : fOff Tryz.prog 41 3 = some 26 := by kernel_rfl
@[go_sem ↓] theorem xFO_41_3 (K : Nat → Prop) : xFO Tryz.prog 41 3 K = K 26 := xFO_of fO_41_3 K
theorem fO_41_4 : fOff Tryz.prog 41 4 = some 27 := by kernel_rfl
@[go_sem ↓] theorem xFO_41_4 (K : Nat → Prop) : xFO Tryz.prog 41 4 K = K 27 := xFO_of fO_41_4 K
theorem fO_41_5 : fOff Tryz.prog 41 5 = some 28 := by kernel_rfl
@[go_sem ↓] theorem xFO_41_5 (K : Nat → Prop) : xFO Tryz.prog 41 5 K = K 28 := xFO_of fO_41_5 K
theorem fO_41_6 : fOff Tryz.prog 41 6 = some 29 := by kernel_rfl
@[go_sem ↓] theorem xFO_41_6 (K : Nat → Prop) : xFO Tryz.prog 41 6 K = K 29 := xFO_of fO_41_6 K
theorem fO_41_7 : fOff Tryz.prog 41 7 = some 30 := by kernel_rfl
@[go_sem ↓] theorem xFO_41_7 (K : Nat → Prop) : xFO Tryz.prog 41 7 K = K 30 := xFO_of fO_41_7 K
theorem fO_41_8 : fOff Tryz.prog 41 8 = some 31 := by kernel_rfl
@[go_sem ↓] theorem xFO_41_8 (K : Nat → Prop) : xFO Tryz.prog 41 8 K = K 31 := xFO_of fO_41_8 K
theorem fO_41_9 : fOff Tryz.prog 41 9 = some 32 := by kernel_rfl
@[go_sem ↓] theorem xFO_41_9 (K : Nat → Prop) : xFO Tryz.prog 41 9 K = K 32 := xFO_of fO_41_9 K
theorem fO_41_10 : fOff Tryz.prog 41 10 = some 33 := by kernel_rfl
@[go_sem ↓] theorem xFO_41_10 (K : Nat → Prop) : xFO Tryz.prog 41 10 K = K 33 := xFO_of fO_41_10 K
theorem fO_41_11 : fOff Tryz.prog 41 11 = some 34 := by kernel_rfl
@[go_sem ↓] theorem xFO_41_11 (K : Nat → Prop) : xFO Tryz.prog 41 11 K = K 34 := xFO_of fO_41_11 K
theorem fO_41_12 : fOff Tryz.prog 41 12 = some 35 := by kernel_rfl
@[go_sem ↓] theorem xFO_41_12 (K : Nat → Prop) : xFO Tryz.prog 41 12 K = K 35 := xFO_of fO_41_12 K
theorem fO_41_13 : fOff Tryz.prog 41 13 = some 36 := by kernel_rfl
@[go_sem ↓] theorem xFO_41_13 (K : Nat → Prop) : xFO Tryz.prog 41 13 K = K 36 := xFO_of fO_41_13 K
theorem fO_41_14 : fOff Tryz.prog 41 14 = some 37 := by kernel_rfl
@[go_sem ↓] theorem xFO_41_14 (K : Nat → Prop) : xFO Tryz.prog 41 14 K = K 37 := xFO_of fO_41_14 K
theorem fO_41_15 : fOff Tryz.prog 41 15 = some 38 := by kernel_rfl
@[go_sem ↓] theorem xFO_41_15 (K : Nat → Prop) : xFO Tryz.prog 41 15 K = K 38 := xFO_of fO_41_15 K
theorem fO_41_16 : fOff Tryz.prog 41 16 = some 39 := by kernel_rfl
@[go_sem ↓] theorem xFO_41_16 (K : Nat → Prop) : xFO Tryz.prog 41 16 K = K 39 := xFO_of fO_41_16 K
theorem fO_41_17 : fOff Tryz.prog 41 17 = some 40 := by kernel_rfl
@[go_sem ↓] theorem xFO_41_17 (K : Nat → Prop) : xFO Tryz.prog 41 17 K = K 40 := xFO_of fO_41_17 K
theorem fO_46_0 : fOff Tryz.prog 46 0 = some 0 := by kernel_rfl
@[go_sem ↓] theorem xFO_46_0 (K : Nat → Prop) : xFO Tryz.prog 46 0 K = K 0 := xFO_of fO_46_0 K
theorem fO_46_1 : fOff Tryz.prog 46 1 = some 1 := by kernel_rfl
@[go_sem ↓] theorem xFO_46_1 (K : Nat → Prop) : xFO Tryz.prog 46 1 K = K 1 := xFO_of fO_46_1 K
theorem fO_46_2 : fOff Tryz.prog 46 2 = some 2 := by kernel_rfl
@[go_sem ↓] theorem xFO_46_2 (K : Nat → Prop) : xFO Tryz.prog 46 2 K = K 2 := xFO_of fO_46_2 K
theorem fO_87_0 : fOff Tryz.prog 87 0 = some 0 := by kernel_rfl
@[go_sem ↓] theorem xFO_87_0 (K : Nat → Prop) : xFO Tryz.prog 87 0 K = K 0 := xFO_of fO_87_0 K
theorem fO_87_1 : fOff Tryz.prog 87 1 = some 1 := by kernel_rfl
@[go_sem ↓] theorem xFO_87_1 (K : Nat → Prop) : xFO Tryz.prog 87 1 K = K 1 := xFO_of fO_87_1 K
theorem fO_87_2 : fOff Tryz.prog 87 2 = some 2 := by kernel_rfl
@[go_sem ↓] theorem xFO_87_2 (K : Nat → Prop) : xFO Tryz.prog 87 2 K = K 2 := xFO_of fO_87_2 K
theorem fO_87_3 : fOff Tryz.prog 87 3 = some 3 := by kernel_rfl
@[go_sem ↓] theorem xFO_87_3 (K : Nat → Prop) : xFO Tryz.prog 87 3 K = K 3 := xFO_of fO_87_3 K
theorem fO_89_0 : fOff Tryz.prog 89 0 = some 0 := by kernel_rfl
@[go_sem ↓] theorem xFO_89_0 (K : Nat → Prop) : xFO Tryz.prog 89 0 K = K 0 := xFO_of fO_89_0 K
theorem fO_89_1 : fOff Tryz.prog 89 1 = some 4 := by kernel_rfl
@[go_sem ↓] theorem xFO_89_1 (K : Nat → Prop) : xFO Tryz.prog 89 1 K = K 4 := xFO_of fO_89_1 K
theorem fO_89_2 : fOff Tryz.prog 89 2 = some 5 := by kernel_rfl
@[go_sem ↓] theorem xFO_89_2 (K : Nat → Prop) : xFO Tryz.prog 89 2 K = K 5 := xFO_of fO_89_2 K
theorem fO_96_0 : fOff Tryz.prog 96 0 = some 0 := by kernel_rfl
@[go_sem ↓] theorem xFO_96_0 (K : Nat → Prop) : xFO Tryz.prog 96 0 K = K 0 := xFO_of fO_96_0 K
theorem fO_96_1 : fOff Tryz.prog 96 1 = some 1 := by kernel_rfl
@[go_sem ↓] theorem xFO_96_1 (K : Nat → Prop) : xFO Tryz.prog 96 1 K = K 1 := xFO_of fO_96_1 K
theorem fO_98_0 : fOff Tryz.prog 98 0 = some 0 := by kernel_rfl
@[go_sem ↓] theorem xFO_98_0 (K : Nat → Prop) : xFO Tryz.prog 98 0 K = K 0 := xFO_of fO_98_0 K
theorem fO_100_0 : fOff Tryz.prog 100 0 = some 0 := by kernel_rfl
@[go_sem ↓] theorem xFO_100_0 (K : Nat → Prop) : xFO Tryz.prog 100 0 K = K 0 := xFO_of fO_100_0 K
theorem fO_100_1 : fOff Tryz.prog 100 1 = some 2 := by kernel_rfl
@[go_sem ↓] theorem xFO_100_1 (K : Nat → Prop) : xFO Tryz.prog 100 1 K = K 2 := xFO_of fO_100_1 K
theorem fO_108_0 : fOff Tryz.prog 108 0 = some 0 := by kernel_rfl
@[go_sem ↓] theorem xFO_108_0 (K : Nat → Prop) : xFO Tryz.prog 108 0 K = K 0 := xFO_of fO_108_0 K
theorem fO_108_1 : fOff Tryz.prog 108 1 = some 1 := by kernel_rfl
@[go_sem ↓] theorem xFO_108_1 (K : Nat → Prop) : xFO Tryz.prog 108 1 K = K 1 := xFO_of fO_108_1 K
theorem fO_111_0 : fOff Tryz.prog 111 0 = some 0 := by kernel_rfl
@[go_sem ↓] theorem xFO_111_0 (K : Nat → Prop) : xFO Tryz.prog 111 0 K = K 0 := xFO_of fO_111_0 K
theorem fO_111_1 : fOff Tryz.prog 111 1 = some 1 := by kernel_rfl
@[go_sem ↓] theorem xFO_111_1 (K : Nat → Prop) : xFO Tryz.prog 111 1 K = K 1 := xFO_of fO_111_1 K
theorem fO_111_2 : fOff Tryz.prog 111 2 = some 2 := by kernel_rfl
@[go_sem ↓] theorem xFO_111_2 (K : Nat → Prop) : xFO Tryz.prog 111 2 K = K 2 := xFO_of fO_111_2 K
theorem fO_111_3 : fOff Tryz.prog 111 3 = some 26 := by kernel_rfl
@[go_sem ↓] theorem xFO_111_3 (K : Nat → Prop) : xFO Tryz.prog 111 3 K = K 26 := xFO_of fO_111_3 K
theorem fO_111_4 : fOff Tryz.prog 111 4 = some 27 := by kernel_rfl
@[go_sem ↓] theorem xFO_111_4 (K : Nat → Prop) : xFO Tryz.prog 111 4 K = K 27 := xFO_of fO_111_4 K
theorem fO_111_5 : fOff Tryz.prog 111 5 = some 28 := by kernel_rfl
@[go_sem ↓] theorem xFO_111_5 (K : Nat → Prop) : xFO Tryz.prog 111 5 K = K 28 := xFO_of fO_111_5 K
theorem fO_111_6 : fOff Tryz.prog 111 6 = some 29 := by kernel_rfl
@[go_sem ↓] theorem xFO_111_6 (K : Nat → Prop) : xFO Tryz.prog 111 6 K = K 29 := xFO_of fO_111_6 K
theorem fO_111_7 : fOff Tryz.prog 111 7 = some 30 := by kernel_rfl
@[go_sem ↓] theorem xFO_111_7 (K : Nat → Prop) : xFO Tryz.prog 111 7 K = K 30 := xFO_of fO_111_7 K
theorem fO_111_8 : fOff Tryz.prog 111 8 = some 31 := by kernel_rfl
@[go_sem ↓] theorem xFO_111_8 (K : Nat → Prop) : xFO Tryz.prog 111 8 K = K 31 := xFO_of fO_111_8 K
theorem fO_111_9 : fOff Tryz.prog 111 9 = some 32 := by kernel_rfl
@[go_sem ↓] theorem xFO_111_9 (K : Nat → Prop) : xFO Tryz.prog 111 9 K = K 32 := xFO_of fO_111_9 K
theorem fO_116_0 : fOff Tryz.prog 116 0 = some 0 := by kernel_rfl
@[go_sem ↓] theorem xFO_116_0 (K : Nat → Prop) : xFO Tryz.prog 116 0 K = K 0 := xFO_of fO_116_0 K
theorem fO_116_1 : fOff Tryz.prog 116 1 = some 1 := by kernel_rfl
@[go_sem ↓] theorem xFO_116_1 (K : Nat → Prop) : xFO Tryz.prog 116 1 K = K 1 := xFO_of fO_116_1 K
theorem fO_116_2 : fOff Tryz.prog 116 2 = some 2 := by kernel_rfl
@[go_sem ↓] theorem xFO_116_2 (K : Nat → Prop) : xFO Tryz.prog 116 2 K = K 2 := xFO_of fO_116_2 K
theorem fO_116_3 : fOff Tryz.prog 116 3 = some 3 := by kernel_rfl
@[go_sem ↓] theorem xFO_116_3 (K : Nat → Prop) : xFO Tryz.prog 116 3 K = K 3 := xFO_of fO_116_3 K
theorem fO_166_0 : fOff Tryz.prog 166 0 = some 0 := by kernel_rfl
@[go_sem ↓] theorem xFO_166_0 (K : Nat → Prop) : xFO Tryz.prog 166 0 K = K 0 := xFO_of fO_166_0 K
theorem fO_214_0 : fOff Tryz.prog 214 0 = some 0 := by kernel_rfl
@[go_sem ↓] theorem xFO_214_0 (K : Nat → Prop) : xFO Tryz.prog 214 0 K = K 0 := xFO_of fO_214_0 K
theorem fO_214_1 : fOff Tryz.prog 214 1 = some 2 := by kernel_rfl
@[go_sem ↓] theorem xFO_214_1 (K : Nat → Prop) : xFO Tryz.prog 214 1 K = K 2 := xFO_of fO_214_1 K
theorem fO_247_0 : fOff Tryz.prog 247 0 = some 0 := by kernel_rfl
@[go_sem ↓] theorem xFO_247_0 (K : Nat → Prop) : xFO Tryz.prog 247 0 K = K 0 := xFO_of fO_247_0 K
theorem fO_247_1 : fOff Tryz.prog 247 1 = some 1 := by kernel_rfl
@[go_sem ↓] theorem xFO_247_1 (K : Nat → Prop) : xFO Tryz.prog 247 1 K = K 1 := xFO_of fO_247_1 K
theorem fO_247_2 : fOff Tryz.prog 247 2 = some 2 := by kernel_rfl
@[go_sem ↓] theorem xFO_247_2 (K : Nat → Prop) : xFO Tryz.prog 247 2 K = K 2 := xFO_of fO_247_2 K
theorem fO_247_3 : fOff Tryz.prog 247 3 = some 3 := by kernel_rfl
@[go_sem ↓] theorem xFO_247_3 (K : Nat → Prop) : xFO Tryz.prog 247 3 K = K 3 := xFO_of fO_247_3 K
theorem fO_247_4 : fOff Tryz.prog 247 4 = some 4 := by kernel_rfl
@[go_sem ↓] theorem xFO_247_4 (K : Nat → Prop) : xFO Tryz.prog 247 4 K = K 4 := xFO_of fO_247_4 K
theorem fO_261_0 : fOff Tryz.prog 261 0 = some 0 := by kernel_rfl
@[go_sem ↓] theorem xFO_261_0 (K : Nat → Prop) : xFO Tryz.prog 261 0 K = K 0 := xFO_of fO_261_0 K
theorem fO_283_0 : fOff Tryz.prog 283 0 = some 0 := by kernel_rfl
@[go_sem ↓] theorem xFO_283_0 (K : Nat → Prop) : xFO Tryz.prog 283 0 K = K 0 := xFO_of fO_283_0 K
theorem fO_303_0 : fOff Tryz.prog 303 0 = some 0 := by kernel_rfl
@[go_sem ↓] theorem xFO_303_0 (K : Nat → Prop) : xFO Tryz.prog 303 0 K = K 0 := xFO_of fO_303_0 K
theorem fO_303_1 : fOff Tryz.prog 303 1 = some 1 := by kernel_rfl
@[go_sem ↓] theorem xFO_303_1 (K : Nat → Prop) : xFO Tryz.prog 303 1 K = K 1 := xFO_of fO_303_1 K
theorem fO_318_0 : fOff Tryz.prog 318 0 = some 0 := by kernel_rfl
@[go_sem ↓] theorem xFO_318_0 (K : Nat → Prop) : xFO Tryz.prog 318 0 K = K 0 := xFO_of fO_318_0 K
theorem fO_318_1 : fOff Tryz.prog 318 1 = some 4 := by kernel_rfl
@[go_sem ↓] theorem xFO_318_1 (K : Nat → Prop) : xFO Tryz.prog 318 1 K = K 4 := xFO_of fO_318_1 K
@[go_sem] theorem tSh_26 : tSh Tryz.prog 26 = .sl 23 1 8 := by kernel_rfl
@[go_sem] theorem tSh_27 : tSh Tryz.prog 27 = .sl 32 2 16 := by kernel_rfl
@[go_sem] theorem tSh_33 : tSh Tryz.prog 33 = .sl 89 6 48 := by kernel_rfl
@[go_sem] theorem tSh_34 : tSh Tryz.prog 34 = .sl 3 1 8 := by kernel_rfl
@[go_sem] theorem tSh_35 : tSh Tryz.prog 35 = .sl 116 4 32 := by kernel_rfl
@[go_sem] theorem tSh_36 : tSh Tryz.prog 36 = .sl 46 3 24 := by kernel_rfl
@[go_sem] theorem tSh_37 : tSh Tryz.prog 37 = .sl 111 33 296 := by kernel_rfl
@[go_sem] theorem tSh_38 : tSh Tryz.prog 38 = .sl 5 1 1 := by kernel_rfl
@[go_sem] theorem tSh_39 : tSh Tryz.prog 39 = .sl 38 1 24 := by kernel_rfl
@[go_sem] theorem tSh_58 : tSh Tryz.prog 58 = .sl 128 6 48 := by kernel_rfl
@[go_sem] theorem tSh_59 : tSh Tryz.prog 59 = .sl 157 4 32 := by kernel_rfl
@[go_sem] theorem tSh_60 : tSh Tryz.prog 60 = .sl 217 3 24 := by kernel_rfl
@[go_sem] theorem tSh_61 : tSh Tryz.prog 61 = .sl 146 33 296 := by kernel_rfl
@[go_sem] theorem tSh_73 : tSh Tryz.prog 73 = .sl 52 34 288 := by kernel_rfl
@[go_sem] theorem tSh_77 : tSh Tryz.prog 77 = .sl 76 2 32 := by kernel_rfl
@[go_sem] theorem tSh_167 : tSh Tryz.prog 167 = .sl 68 34 288 := by kernel_rfl
@[go_sem] theorem tSh_181 : tSh Tryz.prog 181 = .sl 180 1 8 := by kernel_rfl
@[go_sem] theorem tSh_233 : tSh Tryz.prog 233 = .sl 4 1 1 := by kernel_rfl
@[go_sem] theorem tSh_286 : tSh Tryz.prog 286 = .sl 5 1 1 := by kernel_rfl
@[go_sem] theorem tSh_291 : tSh Tryz.prog 291 = .sl 42 1 8 := by kernel_rfl
@[go_sem] theorem tSh_333 : tSh Tryz.prog 333 = .sl 184 1 8 := by kernel_rfl
@[go_sem ↓] theorem xSlh_38 (a : Option Addr) (n c : Nat) (k : IntKind) (j : Int) (h0 : 0 ≤ j) (h1 : j ≤ (c : Int)) (K : Value → Prop) : xSl Tryz.prog 38 (.slice a n c) none (some (.int k j)) none K = K (.slice a j.toNat c) := xSl_hi tSh_38 a n c k j h0 h1 K
@[go_sem ↓] theorem xBeq_26 (x y : Operand) (a : Option Addr) (n c : Nat) (K : Value → Prop) : xBin Tryz.prog .eql 26 x y (.slice a n c) (.slice none 0 0) K = K (.bool a.isNone) := xBin_eqnil tSh_26 x y a n c K
@[go_sem ↓] theorem xBne_26 (x y : Operand) (a : Option Addr) (n c : Nat) (K : Value → Prop) : xBin Tryz.prog .neq 26 x y (.slice a n c) (.slice none 0 0) K = K (.bool (!a.isNone)) := xBin_nenil tSh_26 x y a n c K
@[go_sem ↓] theorem xBeq_27 (x y : Operand) (a : Option Addr) (n c : Nat) (K : Value → Prop) : xBin Tryz.prog .eql 27 x y (.slice a n c) (.slice none 0 0) K = K (.bool a.isNone) := xBin_eqnil tSh_27 x y a n c K
@[go_sem ↓] theorem xBne_27 (x y : Operand) (a : Option Addr) (n c : Nat) (K : Value → Prop) : xBin Tryz.prog .neq 27 x y (.slice a n c) (.slice none 0 0) K = K (.bool (!a.isNone)) := xBin_nenil tSh_27 x y a n c K
@[go_sem ↓] theorem xBeq_33 (x y : Operand) (a : Option Addr) (n c : Nat) (K : Value → Prop) : xBin Tryz.prog .eql 33 x y (.slice a n c) (.slice none 0 0) K = K (.bool a.isNone) := xBin_eqnil tSh_33 x y a n c K
@[go_sem ↓] theorem xBne_33 (x y : Operand) (a : Option Addr) (n c : Nat) (K : Value → Prop) : xBin Tryz.prog .neq 33 x y (.slice a n c) (.slice none 0 0) K = K (.bool (!a.isNone)) := xBin_nenil tSh_33 x y a n c K
@[go_sem ↓] theorem xBeq_34 (x y : Operand) (a : Option Addr) (n c : Nat) (K : Value → Prop) : xBin Tryz.prog .eql 34 x y (.slice a n c) (.slice none 0 0) K = K (.bool a.isNone) := xBin_eqnil tSh_34 x y a n c K
@[go_sem ↓] theorem xBne_34 (x y : Operand) (a : Option Addr) (n c : Nat) (K : Value → Prop) : xBin Tryz.prog .neq 34 x y (.slice a n c) (.slice none 0 0) K = K (.bool (!a.isNone)) := xBin_nenil tSh_34 x y a n c K
@[go_sem ↓] theorem xBeq_35 (x y : Operand) (a : Option Addr) (n c : Nat) (K : Value → Prop) : xBin Tryz.prog .eql 35 x y (.slice a n c) (.slice none 0 0) K = K (.bool a.isNone) := xBin_eqnil tSh_35 x y a n c K
@[go_sem ↓] theorem xBne_35 (x y : Operand) (a : Option Addr) (n c : Nat) (K : Value → Prop) : xBin Tryz.prog .neq 35 x y (.slice a n c) (.slice none 0 0) K = K (.bool (!a.isNone)) := xBin_nenil tSh_35 x y a n c K
@[go_sem ↓] theorem xBeq_36 (x y : Operand) (a : Option Addr) (n c : Nat) (K : Value → Prop) : xBin Tryz.prog .eql 36 x y (.slice a n c) (.slice none 0 0) K = K (.bool a.isNone) := xBin_eqnil tSh_36 x y a n c K
@[go_sem ↓] theorem xBne_36 (x y : Operand) (a : Option Addr) (n c : Nat) (K : Value → Prop) : xBin Tryz.prog .neq 36 x y (.slice a n c) (.slice none 0 0) K = K (.bool (!a.isNone)) := xBin_nenil tSh_36 x y a n c K
@[go_sem ↓] theorem xBeq_37 (x y : Operand) (a : Option Addr) (n c : Nat) (K : Value → Prop) : xBin Tryz.prog .eql 37 x y (.slice a n c) (.slice none 0 0) K = K (.bool a.isNone) := xBin_eqnil tSh_37 x y a n c K
@[go_sem ↓] theorem xBne_37 (x y : Operand) (a : Option Addr) (n c : Nat) (K : Value → Prop) : xBin Tryz.prog .neq 37 x y (.slice a n c) (.slice none 0 0) K = K (.bool (!a.isNone)) := xBin_nenil tSh_37 x y a n c K
@[go_sem ↓] theorem xBeq_38 (x y : Operand) (a : Option Addr) (n c : Nat) (K : Value → Prop) : xBin Tryz.prog .eql 38 x y (.slice a n c) (.slice none 0 0) K = K (.bool a.isNone) := xBin_eqnil tSh_38 x y a n c K
@[go_sem ↓] theorem xBne_38 (x y : Operand) (a : Option Addr) (n c : Nat) (K : Value → Prop) : xBin Tryz.prog .neq 38 x y (.slice a n c) (.slice none 0 0) K = K (.bool (!a.isNone)) := xBin_nenil tSh_38 x y a n c K
@[go_sem ↓] theorem xBeq_39 (x y : Operand) (a : Option Addr) (n c : Nat) (K : Value → Prop) : xBin Tryz.prog .eql 39 x y (.slice a n c) (.slice none 0 0) K = K (.bool a.isNone) := xBin_eqnil tSh_39 x y a n c K
@[go_sem ↓] theorem xBne_39 (x y : Operand) (a : Option Addr) (n c : Nat) (K : Value → Prop) : xBin Tryz.prog .neq 39 x y (.slice a n c) (.slice none 0 0) K = K (.bool (!a.isNone)) := xBin_nenil tSh_39 x y a n c K
@[go_sem ↓] theorem xBeq_58 (x y : Operand) (a : Option Addr) (n c : Nat) (K : Value → Prop) : xBin Tryz.prog .eql 58 x y (.slice a n c) (.slice none 0 0) K = K (.bool a.isNone) := xBin_eqnil tSh_58 x y a n c K
@[go_sem ↓] theorem xBne_58 (x y : Operand) (a : Option Addr) (n c : Nat) (K : Value → Prop) : xBin Tryz.prog .neq 58 x y (.slice a n c) (.slice none 0 0) K = K (.bool (!a.isNone)) := xBin_nenil tSh_58 x y a n c K
@[go_sem ↓] theorem xBeq_59 (x y : Operand) (a : Option Addr) (n c : Nat) (K : Value → Prop) : xBin Tryz.prog .eql 59 x y (.slice a n c) (.slice none 0 0) K = K (.bool a.isNone) := xBin_eqnil tSh_59 x y a n c K
@[go_sem ↓] theorem xBne_59 (x y : Operand) (a : Option Addr) (n c : Nat) (K : Value → Prop) : xBin Tryz.prog .neq 59 x y (.slice a n c) (.slice none 0 0) K = K (.bool (!a.isNone)) := xBin_nenil tSh_59 x y a n c K
@[go_sem ↓] theorem xBeq_60 (x y : Operand) (a : Option Addr) (n c : Nat) (K : Value → Prop) : xBin Tryz.prog .eql 60 x y (.slice a n c) (.slice none 0 0) K = K (.bool a.isNone) := xBin_eqnil tSh_60 x y a n c K
@[go_sem ↓] theorem xBne_60 (x y : Operand) (a : Option Addr) (n c : Nat) (K : Value → Prop) : xBin Tryz.prog .neq 60 x y (.slice a n c) (.slice none 0 0) K = K (.bool (!a.isNone)) := xBin_nenil tSh_60 x y a n c K
@[go_sem ↓] theorem xBeq_61 (x y : Operand) (a : Option Addr) (n c : Nat) (K : Value → Prop) : xBin Tryz.prog .eql 61 x y (.slice a n c) (.slice none 0 0) K = K (.bool a.isNone) := xBin_eqnil tSh_61 x y a n c K
@[go_sem ↓] theorem xBne_61 (x y : Operand) (a : Option Addr) (n c : Nat) (K : Value → Prop) : xBin Tryz.prog .neq 61 x y (.slice a n c) (.slice none 0 0) K = K (.bool (!a.isNone)) := xBin_nenil tSh_61 x y a n c K
@[go_sem ↓] theorem xBeq_73 (x y : Operand) (a : Option Addr) (n c : Nat) (K : Value → Prop) : xBin Tryz.prog .eql 73 x y (.slice a n c) (.slice none 0 0) K = K (.bool a.isNone) := xBin_eqnil tSh_73 x y a n c K
@[go_sem ↓] theorem xBne_73 (x y : Operand) (a : Option Addr) (n c : Nat) (K : Value → Prop) : xBin Tryz.prog .neq 73 x y (.slice a n c) (.slice none 0 0) K = K (.bool (!a.isNone)) := xBin_nenil tSh_73 x y a n c K
@[go_sem ↓] theorem xBeq_77 (x y : Operand) (a : Option Addr) (n c : Nat) (K : Value → Prop) : xBin Tryz.prog .eql 77 x y (.slice a n c) (.slice none 0 0) K = K (.bool a.isNone) := xBin_eqnil tSh_77 x y a n c K
@[go_sem ↓] theorem xBne_77 (x y : Operand) (a : Option Addr) (n c : Nat) (K : Value → Prop) : xBin Tryz.prog .neq 77 x y (.slice a n c) (.slice none 0 0) K = K (.bool (!a.isNone)) := xBin_nenil tSh_77 x y a n c K
@[go_sem ↓] theorem xBeq_167 (x y : Operand) (a : Option Addr) (n c : Nat) (K : Value → Prop) : xBin Tryz.prog .eql 167 x y (.slice a n c) (.slice none 0 0) K = K (.bool a.isNone) := xBin_eqnil tSh_167 x y a n c K
@[go_sem ↓] theorem xBne_167 (x y : Operand) (a : Option Addr) (n c : Nat) (K : Value → Prop) : xBin Tryz.prog .neq 167 x y (.slice a n c) (.slice none 0 0) K = K (.bool (!a.isNone)) := xBin_nenil tSh_167 x y a n c K
@[go_sem ↓] theorem xBeq_181 (x y : Operand) (a : Option Addr) (n c : Nat) (K : Value → Prop) : xBin Tryz.prog .eql 181 x y (.slice a n c) (.slice none 0 0) K = K (.bool a.isNone) := xBin_eqnil tSh_181 x y a n c K
@[go_sem ↓] theorem xBne_181 (x y : Operand) (a : Option Addr) (n c : Nat) (K : Value → Prop) : xBin Tryz.prog .neq 181 x y (.slice a n c) (.slice none 0 0) K = K (.bool (!a.isNone)) := xBin_nenil tSh_181 x y a n c K
@[go_sem ↓] theorem xBeq_233 (x y : Operand) (a : Option Addr) (n c : Nat) (K : Value → Prop) : xBin Tryz.prog .eql 233 x y (.slice a n c) (.slice none 0 0) K = K (.bool a.isNone) := xBin_eqnil tSh_233 x y a n c K
@[go_sem ↓] theorem xBne_233 (x y : Operand) (a : Option Addr) (n c : Nat) (K : Value → Prop) : xBin Tryz.prog .neq 233 x y (.slice a n c) (.slice none 0 0) K = K (.bool (!a.isNone)) := xBin_nenil tSh_233 x y a n c K
@[go_sem ↓] theorem xBeq_286 (x y : Operand) (a : Option Addr) (n c : Nat) (K : Value → Prop) : xBin Tryz.prog .eql 286 x y (.slice a n c) (.slice none 0 0) K = K (.bool a.isNone) := xBin_eqnil tSh_286 x y a n c K
@[go_sem ↓] theorem xBne_286 (x y : Operand) (a : Option Addr) (n c : Nat) (K : Value → Prop) : xBin Tryz.prog .neq 286 x y (.slice a n c) (.slice none 0 0) K = K (.bool (!a.isNone)) := xBin_nenil tSh_286 x y a n c K
@[go_sem ↓] theorem xBeq_291 (x y : Operand) (a : Option Addr) (n c : Nat) (K : Value → Prop) : xBin Tryz.prog .eql 291 x y (.slice a n c) (.slice none 0 0) K = K (.bool a.isNone) := xBin_eqnil tSh_291 x y a n c K
@[go_sem ↓] theorem xBne_291 (x y : Operand) (a : Option Addr) (n c : Nat) (K : Value → Prop) : xBin Tryz.prog .neq 291 x y (.slice a n c) (.slice none 0 0) K = K (.bool (!a.isNone)) := xBin_nenil tSh_291 x y a n c K
@[go_sem ↓] theorem xBeq_333 (x y : Operand) (a : Option Addr) (n c : Nat) (K : Value → Prop) : xBin Tryz.prog .eql 333 x y (.slice a n c) (.slice none 0 0) K = K (.bool a.isNone) := xBin_eqnil tSh_333 x y a n c K
@[go_sem ↓] theorem xBne_333 (x y : Operand) (a : Option Addr) (n c : Nat) (K : Value → Prop) : xBin Tryz.prog .neq 333 x y (.slice a n c) (.slice none 0 0) K = K (.bool (!a.isNone)) := xBin_nenil tSh_333 x y a n c K
@[go_sem ↓] theorem xPeq_15 (x y : Operand) (a : Option Addr) (K : Value → Prop) : xBin Tryz.prog .eql 15 x y (.pointer a) (.pointer none) K = K (.bool a.isNone) := xBin_eqpnil (T := 15) (e := 339) (by kernel_rfl) x y a K
@[go_sem ↓] theorem xPne_15 (x y : Operand) (a : Option Addr) (K : Value → Prop) : xBin Tryz.prog .neq 15 x y (.pointer a) (.pointer none) K = K (.bool (!a.isNone)) := xBin_nepnil (T := 15) (e := 339) (by kernel_rfl) x y a K
@[go_sem ↓] theorem xPeq_16 (x y : Operand) (a : Option Addr) (K : Value → Prop) : xBin Tryz.prog .eql 16 x y (.pointer a) (.pointer none) K = K (.bool a.isNone) := xBin_eqpnil (T := 16) (e := 342) (by kernel_rfl) x y a K
@[go_sem ↓] theorem xPne_16 (x y : Operand) (a : Option Addr) (K : Value → Prop) : xBin Tryz.prog .neq 16 x y (.pointer a) (.pointer none) K = K (.bool (!a.isNone)) := xBin_nepnil (T := 16) (e := 342) (by kernel_rfl) x y a K
@[go_sem ↓] theorem xPeq_17 (x y : Operand) (a : Option Addr) (K : Value → Prop) : xBin Tryz.prog .eql 17 x y (.pointer a) (.pointer none) K = K (.bool a.isNone) := xBin_eqpnil (T := 17) (e := 351) (by kernel_rfl) x y a K
@[go_sem ↓] theorem xPne_17 (x y : Operand) (a : Option Addr) (K : Value → Prop) : xBin Tryz.prog .neq 17 x y (.pointer a) (.pointer none) K = K (.bool (!a.isNone)) := xBin_nepnil (T := 17) (e := 351) (by kernel_rfl) x y a K
@[go_sem ↓] theorem xPeq_94 (x y : Operand) (a : Option Addr) (K : Value → Prop) : xBin Tryz.prog .eql 94 x y (.pointer a) (.pointer none) K = K (.bool a.isNone) := xBin_eqpnil (T := 94) (e := 100) (by kernel_rfl) x y a K
@[go_sem ↓] theorem xPne_94 (x y : Operand) (a : Option Addr) (K : Value → Prop) : xBin Tryz.prog .neq 94 x y (.pointer a) (.pointer none) K = K (.bool (!a.isNone)) := xBin_nepnil (T := 94) (e := 100) (by kernel_rfl) x y a K
@[go_sem ↓] theorem xPeq_102 (x y : Operand) (a : Option Addr) (K : Value → Prop) : xBin Tryz.prog .eql 102 x y (.pointer a) (.pointer none) K = K (.bool a.isNone) := xBin_eqpnil (T := 102) (e := 41) (by kernel_rfl) x y a K
@[go_sem ↓] theorem xPne_102 (x y : Operand) (a : Option Addr) (K : Value → Prop) : xBin Tryz.prog .neq 102 x y (.pointer a) (.pointer none) K = K (.bool (!a.isNone)) := xBin_nepnil (T := 102) (e := 41) (by kernel_rfl) x y a K
@[go_sem ↓] theorem xPeq_104 (x y : Operand) (a : Option Addr) (K : Value → Prop) : xBin Tryz.prog .eql 104 x y (.pointer a) (.pointer none) K = K (.bool a.isNone) := xBin_eqpnil (T := 104) (e := 108) (by kernel_rfl) x y a K
@[go_sem ↓] theorem xPne_104 (x y : Operand) (a : Option Addr) (K : Value → Prop) : xBin Tryz.prog .neq 104 x y (.pointer a) (.pointer none) K = K (.bool (!a.isNone)) := xBin_nepnil (T := 104) (e := 108) (by kernel_rfl) x y a K
@[go_sem ↓] theorem xPeq_105 (x y : Operand) (a : Option Addr) (K : Value → Prop) : xBin Tryz.prog .eql 105 x y (.pointer a) (.pointer none) K = K (.bool a.isNone) := xBin_eqpnil (T := 105) (e := 214) (by kernel_rfl) x y a K
@[go_sem ↓] theorem xPne_105 (x y : Operand) (a : Option Addr) (K : Value → Prop) : xBin Tryz.prog .neq 105 x y (.pointer a) (.pointer none) K = K (.bool (!a.isNone)) := xBin_nepnil (T := 105) (e := 214) (by kernel_rfl) x y a K
@[go_sem ↓] theorem xPeq_122 (x y : Operand) (a : Option Addr) (K : Value → Prop) : xBin Tryz.prog .eql 122 x y (.pointer a) (.pointer none) K = K (.bool a.isNone) := xBin_eqpnil (T := 122) (e := 124) (by kernel_rfl) x y a K
@[go_sem ↓] theorem xPne_122 (x y : Operand) (a : Option Addr) (K : Value → Prop) : xBin Tryz.prog .neq 122 x y (.pointer a) (.pointer none) K = K (.bool (!a.isNone)) := xBin_nepnil (T := 122) (e := 124) (by kernel_rfl) x y a K
@[go_sem ↓] theorem xPeq_179 (x y : Operand) (a : Option Addr) (K : Value → Prop) : xBin Tryz.prog .eql 179 x y (.pointer a) (.pointer none) K = K (.bool a.isNone) := xBin_eqpnil (T := 179) (e := 25) (by kernel_rfl) x y a K
@[go_sem ↓] theorem xPne_179 (x y : Operand) (a : Option Addr) (K : Value → Prop) : xBin Tryz.prog .neq 179 x y (.pointer a) (.pointer none) K = K (.bool (!a.isNone)) := xBin_nepnil (T := 179) (e := 25) (by kernel_rfl) x y a K
@[go_sem ↓] theorem xPeq_180 (x y : Operand) (a : Option Addr) (K : Value → Prop) : xBin Tryz.prog .eql 180 x y (.pointer a) (.pointer none) K = K (.bool a.isNone) := xBin_eqpnil (T := 180) (e := 23) (by kernel_rfl) x y a K
@[go_sem ↓] theorem xPne_180 (x y : Operand) (a : Option Addr) (K : Value → Prop) : xBin Tryz.prog .neq 180 x y (.pointer a) (.pointer none) K = K (.bool (!a.isNone)) := xBin_nepnil (T := 180) (e := 23) (by kernel_rfl) x y a K
@[go_sem ↓] theorem xPeq_184 (x y : Operand) (a : Option Addr) (K : Value → Prop) : xBin Tryz.prog .eql 184 x y (.pointer a) (.pointer none) K = K (.bool a.isNone) := xBin_eqpnil (T := 184) (e := 3) (by kernel_rfl) x y a K
@[go_sem ↓] theorem xPne_184 (x y : Operand) (a : Option Addr) (K : Value → Prop) : xBin Tryz.prog .neq 184 x y (.pointer a) (.pointer none) K = K (.bool (!a.isNone)) := xBin_nepnil (T := 184) (e := 3) (by kernel_rfl) x y a K
@[go_sem ↓] theorem xPeq_186 (x y : Operand) (a : Option Addr) (K : Value → Prop) : xBin Tryz.prog .eql 186 x y (.pointer a) (.pointer none) K = K (.bool a.isNone) := xBin_eqpnil (T := 186) (e := 4) (by kernel_rfl) x y a K
@[go_sem ↓] theorem xPne_186 (x y : Operand) (a : Option Addr) (K : Value → Prop) : xBin Tryz.prog .neq 186 x y (.pointer a) (.pointer none) K = K (.bool (!a.isNone)) := xBin_nepnil (T := 186) (e := 4) (by kernel_rfl) x y a K
@[go_sem ↓] theorem xPeq_188 (x y : Operand) (a : Option Addr) (K : Value → Prop) : xBin Tryz.prog .eql 188 x y (.pointer a) (.pointer none) K = K (.bool a.isNone) := xBin_eqpnil (T := 188) (e := 26) (by kernel_rfl) x y a K
@[go_sem ↓] theorem xPne_188 (x y : Operand) (a : Option Addr) (K : Value → Prop) : xBin Tryz.prog .neq 188 x y (.pointer a) (.pointer none) K = K (.bool (!a.isNone)) := xBin_nepnil (T := 188) (e := 26) (by kernel_rfl) x y a K
@[go_sem ↓] theorem xPeq_190 (x y : Operand) (a : Option Addr) (K : Value → Prop) : xBin Tryz.prog .eql 190 x y (.pointer a) (.pointer none) K = K (.bool a.isNone) := xBin_eqpnil (T := 190) (e := 33) (by kernel_rfl) x y a K
@[go_sem ↓] theorem xPne_190 (x y : Operand) (a : Option Addr) (K : Value → Prop) : xBin Tryz.prog .neq 190 x y (.pointer a) (.pointer none) K = K (.bool (!a.isNone)) := xBin_nepnil (T := 190) (e := 33) (by kernel_rfl) x y a K
@[go_sem ↓] theorem xPeq_191 (x y : Operand) (a : Option Addr) (K : Value → Prop) : xBin Tryz.prog .eql 191 x y (.pointer a) (.pointer none) K = K (.bool a.isNone) := xBin_eqpnil (T := 191) (e := 89) (by kernel_rfl) x y a K
@[go_sem ↓] theorem xPne_191 (x y : Operand) (a : Option Addr) (K : Value → Prop) : xBin Tryz.prog .neq 191 x y (.pointer a) (.pointer none) K = K (.bool (!a.isNone)) := xBin_nepnil (T := 191) (e := 89) (by kernel_rfl) x y a K
@[go_sem ↓] theorem xPeq_194 (x y : Operand) (a : Option Addr) (K : Value → Prop) : xBin Tryz.prog .eql 194 x y (.pointer a) (.pointer none) K = K (.bool a.isNone) := xBin_eqpnil (T := 194) (e := 34) (by kernel_rfl) x y a K
@[go_sem ↓] theorem xPne_194 (x y : Operand) (a : Option Addr) (K : Value → Prop) : xBin Tryz.prog .neq 194 x y (.pointer a) (.pointer none) K = K (.bool (!a.isNone)) := xBin_nepnil (T := 194) (e := 34) (by kernel_rfl) x y a K
@[go_sem ↓] theorem xPeq_196 (x y : Operand) (a : Option Addr) (K : Value → Prop) : xBin Tryz.prog .eql 196 x y (.pointer a) (.pointer none) K = K (.bool a.isNone) := xBin_eqpnil (T := 196) (e := 35) (by kernel_rfl) x y a K
@[go_sem ↓] theorem xPne_196 (x y : Operand) (a : Option Addr) (K : Value → Prop) : xBin Tryz.prog .neq 196 x y (.pointer a) (.pointer none) K = K (.bool (!a.isNone)) := xBin_nepnil (T := 196) (e := 35) (by kernel_rfl) x y a K
@[go_sem ↓] theorem xPeq_197 (x y : Operand) (a : Option Addr) (K : Value → Prop) : xBin Tryz.prog .eql 197 x y (.pointer a) (.pointer none) K = K (.bool a.isNone) := xBin_eqpnil (T := 197) (e := 116) (by kernel_rfl) x y a K
@[go_sem ↓] theorem xPne_197 (x y : Operand) (a : Option Addr) (K : Value → Prop) : xBin Tryz.prog .neq 197 x y (.pointer a) (.pointer none) K = K (.bool (!a.isNone)) := xBin_nepnil (T := 197) (e := 116) (by kernel_rfl) x y a K
@[go_sem ↓] theorem xPeq_200 (x y : Operand) (a : Option Addr) (K : Value → Prop) : xBin Tryz.prog .eql 200 x y (.pointer a) (.pointer none) K = K (.bool a.isNone) := xBin_eqpnil (T := 200) (e := 36) (by kernel_rfl) x y a K
@[go_sem ↓] theorem xPne_200 (x y : Operand) (a : Option Addr) (K : Value → Prop) : xBin Tryz.prog .neq 200 x y (.pointer a) (.pointer none) K = K (.bool (!a.isNone)) := xBin_nepnil (T := 200) (e := 36) (by kernel_rfl) x y a K
@[go_sem ↓] theorem xPeq_201 (x y : Operand) (a : Option Addr) (K : Value → Prop) : xBin Tryz.prog .eql 201 x y (.pointer a) (.pointer none) K = K (.bool a.isNone) := xBin_eqpnil (T := 201) (e := 46) (by kernel_rfl) x y a K
@[go_sem ↓] theorem xPne_201 (x y : Operand) (a : Option Addr) (K : Value → Prop) : xBin Tryz.prog .neq 201 x y (.pointer a) (.pointer none) K = K (.bool (!a.isNone)) := xBin_nepnil (T := 201) (e := 46) (by kernel_rfl) x y a K
@[go_sem ↓] theorem xPeq_204 (x y : Operand) (a : Option Addr) (K : Value → Prop) : xBin Tryz.prog .eql 204 x y (.pointer a) (.pointer none) K = K (.bool a.isNone) := xBin_eqpnil (T := 204) (e := 37) (by kernel_rfl) x y a K
@[go_sem ↓] theorem xPne_204 (x y : Operand) (a : Option Addr) (K : Value → Prop) : xBin Tryz.prog .neq 204 x y (.pointer a) (.pointer none) K = K (.bool (!a.isNone)) := xBin_nepnil (T := 204) (e := 37) (by kernel_rfl) x y a K
@[go_sem ↓] theorem xPeq_205 (x y : Operand) (a : Option Addr) (K : Value → Prop) : xBin Tryz.prog .eql 205 x y (.pointer a) (.pointer none) K = K (.bool a.isNone) := xBin_eqpnil (T := 205) (e := 111) (by kernel_rfl) x y a K
@[go_sem ↓] theorem xPne_205 (x y : Operand) (a : Option Addr) (K : Value → Prop) : xBin Tryz.prog .neq 205 x y (.pointer a) (.pointer none) K = K (.bool (!a.isNone)) := xBin_nepnil (T := 205) (e := 111) (by kernel_rfl) x y a K
@[go_sem ↓] theorem xPeq_209 (x y : Operand) (a : Option Addr) (K : Value → Prop) : xBin Tryz.prog .eql 209 x y (.pointer a) (.pointer none) K = K (.bool a.isNone) := xBin_eqpnil (T := 209) (e := 38) (by kernel_rfl) x y a K
@[go_sem ↓] theorem xPne_209 (x y : Operand) (a : Option Addr) (K : Value → Prop) : xBin Tryz.prog .neq 209 x y (.pointer a) (.pointer none) K = K (.bool (!a.isNone)) := xBin_nepnil (T := 209) (e := 38) (by kernel_rfl) x y a K
@[go_sem ↓] theorem xPeq_211 (x y : Operand) (a : Option Addr) (K : Value → Prop) : xBin Tryz.prog .eql 211 x y (.pointer a) (.pointer none) K = K (.bool a.isNone) := xBin_eqpnil (T := 211) (e := 39) (by kernel_rfl) x y a K
@[go_sem ↓] theorem xPne_211 (x y : Operand) (a : Option Addr) (K : Value → Prop) : xBin Tryz.prog .neq 211 x y (.pointer a) (.pointer none) K = K (.bool (!a.isNone)) := xBin_nepnil (T := 211) (e := 39) (by kernel_rfl) x y a K
@[go_sem ↓] theorem xPeq_212 (x y : Operand) (a : Option Addr) (K : Value → Prop) : xBin Tryz.prog .eql 212 x y (.pointer a) (.pointer none) K = K (.bool a.isNone) := xBin_eqpnil (T := 212) (e := 98) (by kernel_rfl) x y a K
@[go_sem ↓] theorem xPne_212 (x y : Operand) (a : Option Addr) (K : Value → Prop) : xBin Tryz.prog .neq 212 x y (.pointer a) (.pointer none) K = K (.bool (!a.isNone)) := xBin_nepnil (T := 212) (e := 98) (by kernel_rfl) x y a K
@[go_sem ↓] theorem xPeq_268 (x y : Operand) (a : Option Addr) (K : Value → Prop) : xBin Tryz.prog .eql 268 x y (.pointer a) (.pointer none) K = K (.bool a.isNone) := xBin_eqpnil (T := 268) (e := 96) (by kernel_rfl) x y a K
@[go_sem ↓] theorem xPne_268 (x y : Operand) (a : Option Addr) (K : Value → Prop) : xBin Tryz.prog .neq 268 x y (.pointer a) (.pointer none) K = K (.bool (!a.isNone)) := xBin_nepnil (T := 268) (e := 96) (by kernel_rfl) x y a K
@[go_sem ↓] theorem xPeq_316 (x y : Operand) (a : Option Addr) (K : Value → Prop) : xBin Tryz.prog .eql 316 x y (.pointer a) (.pointer none) K = K (.bool a.isNone) := xBin_eqpnil (T := 316) (e := 318) (by kernel_rfl) x y a K
@[go_sem ↓] theorem xPne_316 (x y : Operand) (a : Option Addr) (K : Value → Prop) : xBin Tryz.prog .neq 316 x y (.pointer a) (.pointer none) K = K (.bool (!a.isNone)) := xBin_nepnil (T := 316) (e := 318) (by kernel_rfl) x y a K
@[go_sem ↓] theorem xSlm_38 (a : Option Addr) (n c : Nat) (k l : IntKind) (i j : Int) (h0 : 0 ≤ i) (h1 : i ≤ j) (h2 : j ≤ (c : Int)) (K : Value → Prop) : xSl Tryz.prog 38 (.slice a n c) (some (.int k i)) (some (.int l j)) none K = K (.slice (cutA a c i.toNat 1) (j.toNat - i.toNat) (c - i.toNat)) := xSl_mid tSh_38 a n c k l i j h0 h1 h2 K
@[go_sem ↓] theorem xLen_26 (ty : Nat) (a : Option Addr) (n c : Nat) (K : Value → Prop) : xLen Tryz.prog ty #[26] (.slice a n c) K = K (.int .i64 n) := xLen_slice (T := 26) (e := 23) (by kernel_rfl) a n c
@[go_sem ↓] theorem xLen_27 (ty : Nat) (a : Option Addr) (n c : Nat) (K : Value → Prop) : xLen Tryz.prog ty #[27] (.slice a n c) K = K (.int .i64 n) := xLen_slice (T := 27) (e := 32) (by kernel_rfl) a n c
@[go_sem ↓] theorem xLen_33 (ty : Nat) (a : Option Addr) (n c : Nat) (K : Value → Prop) : xLen Tryz.prog ty #[33] (.slice a n c) K = K (.int .i64 n) := xLen_slice (T := 33) (e := 89) (by kernel_rfl) a n c
@[go_sem ↓] theorem xLen_34 (ty : Nat) (a : Option Addr) (n c : Nat) (K : Value → Prop) : xLen Tryz.prog ty #[34] (.slice a n c) K = K (.int .i64 n) := xLen_slice (T := 34) (e := 3) (by kernel_rfl) a n c
@[go_sem ↓] theorem xLen_35 (ty : Nat) (a : Option Addr) (n c : Nat) (K : Value → Prop) : xLen Tryz.prog ty #[35] (.slice a n c) K = K (.int .i64 n) := xLen_slice (T := 35) (e := 116) (by kernel_rfl) a n c
@[go_sem ↓] theorem xLen_36 (ty : Nat) (a : Option Addr) (n c : Nat) (K : Value → Prop) : xLen Tryz.prog ty #[36] (.slice a n c) K = K (.int .i64 n) := xLen_slice (T := 36) (e := 46) (by kernel_rfl) a n c
@[go_sem ↓] theorem xLen_37 (ty : Nat) (a : Option Addr) (n c : Nat) (K : Value → Prop) : xLen Tryz.prog ty #[37] (.slice a n c) K = K (.int .i64 n) := xLen_slice (T := 37) (e := 111) (by kernel_rfl) a n c
@[go_sem ↓] theorem xLen_38 (ty : Nat) (a : Option Addr) (n c : Nat) (K : Value → Prop) : xLen Tryz.prog ty #[38] (.slice a n c) K = K (.int .i64 n) := xLen_slice (T := 38) (e := 5) (by kernel_rfl) a n c
@[go_sem ↓] theorem xLen_39 (ty : Nat) (a : Option Addr) (n c : Nat) (K : Value → Prop) : xLen Tryz.prog ty #[39] (.slice a n c) K = K (.int .i64 n) := xLen_slice (T := 39) (e := 38) (by kernel_rfl) a n c
@[go_sem ↓] theorem xLen_58 (ty : Nat) (a : Option Addr) (n c : Nat) (K : Value → Prop) : xLen Tryz.prog ty #[58] (.slice a n c) K = K (.int .i64 n) := xLen_slice (T := 58) (e := 128) (by kernel_rfl) a n c
@[go_sem ↓] theorem xLen_59 (ty : Nat) (a : Option Addr) (n c : Nat) (K : Value → Prop) : xLen Tryz.prog ty #[59] (.slice a n c) K = K (.int .i64 n) := xLen_slice (T := 59) (e := 157) (by kernel_rfl) a n c
@[go_sem ↓] theorem xLen_60 (ty : Nat) (a : Option Addr) (n c : Nat) (K : Value → Prop) : xLen Tryz.prog ty #[60] (.slice a n c) K = K (.int .i64 n) := xLen_slice (T := 60) (e := 217) (by kernel_rfl) a n c
@[go_sem ↓] theorem xLen_61 (ty : Nat) (a : Option Addr) (n c : Nat) (K : Value → Prop) : xLen Tryz.prog ty #[61] (.slice a n c) K = K (.int .i64 n) := xLen_slice (T := 61) (e := 146) (by kernel_rfl) a n c
@[go_sem ↓] theorem xLen_73 (ty : Nat) (a : Option Addr) (n c : Nat) (K : Value → Prop) : xLen Tryz.prog ty #[73] (.slice a n c) K = K (.int .i64 n) := xLen_slice (T := 73) (e := 52) (by kernel_rfl) a n c
@[go_sem ↓] theorem xLen_77 (ty : Nat) (a : Option Addr) (n c : Nat) (K : Value → Prop) : xLen Tryz.prog ty #[77] (.slice a n c) K = K (.int .i64 n) := xLen_slice (T := 77) (e := 76) (by kernel_rfl) a n c
@[go_sem ↓] theorem xLen_167 (ty : Nat) (a : Option Addr) (n c : Nat) (K : Value → Prop) : xLen Tryz.prog ty #[167] (.slice a n c) K = K (.int .i64 n) := xLen_slice (T := 167) (e := 68) (by kernel_rfl) a n c
@[go_sem ↓] theorem xLen_181 (ty : Nat) (a : Option Addr) (n c : Nat) (K : Value → Prop) : xLen Tryz.prog ty #[181] (.slice a n c) K = K (.int .i64 n) := xLen_slice (T := 181) (e := 180) (by kernel_rfl) a n c
@[go_sem ↓] theorem xLen_233 (ty : Nat) (a : Option Addr) (n c : Nat) (K : Value → Prop) : xLen Tryz.prog ty #[233] (.slice a n c) K = K (.int .i64 n) := xLen_slice (T := 233) (e := 4) (by kernel_rfl) a n c
@[go_sem ↓] theorem xLen_286 (ty : Nat) (a : Option Addr) (n c : Nat) (K : Value → Prop) : xLen Tryz.prog ty #[286] (.slice a n c) K = K (.int .i64 n) := xLen_slice (T := 286) (e := 5) (by kernel_rfl) a n c
@[go_sem ↓] theorem xLen_291 (ty : Nat) (a : Option Addr) (n c : Nat) (K : Value → Prop) : xLen Tryz.prog ty #[291] (.slice a n c) K = K (.int .i64 n) := xLen_slice (T := 291) (e := 42) (by kernel_rfl) a n c
@[go_sem ↓] theorem xLen_333 (ty : Nat) (a : Option Addr) (n c : Nat) (K : Value → Prop) : xLen Tryz.prog ty #[333] (.slice a n c) K = K (.int .i64 n) := xLen_slice (T := 333) (e := 184) (by kernel_rfl) a n c
@[go_sem ↓] theorem xBb_4 (x y : Operand) (a b : Bool) (K : Value → Prop) : xBin Tryz.prog .eql 4 x y (.bool a) (.bool b) K = K (.bool (a == b)) := xBin_eqbool (T := 4) (by kernel_rfl) x y a b K
@[go_sem ↓] theorem xBn_4 (x y : Operand) (a b : Bool) (K : Value → Prop) : xBin Tryz.prog .neq 4 x y (.bool a) (.bool b) K = K (.bool (!(a == b))) := xBin_nebool (T := 4) (by kernel_rfl) x y a b K
@[go_sem ↓] theorem xConv_3_5 (k : IntKind) (n : Int) (K : Value → Prop) : xConv Tryz.prog 3 5 (.int k n) K = K (.int .u8 (IntKind.u8.wrap n)) := xConv_int (s := 3) (d := 5) (ks := .i64) (kd := .u8) (by kernel_rfl) (by kernel_rfl) k n
@[go_sem ↓] theorem xConv_3_23 (k : IntKind) (n : Int) (K : Value → Prop) : xConv Tryz.prog 3 23 (.int k n) K = K (.int .u64 (IntKind.u64.wrap n)) := xConv_int (s := 3) (d := 23) (ks := .i64) (kd := .u64) (by kernel_rfl) (by kernel_rfl) k n
@[go_sem ↓] theorem xConv_3_306 (k : IntKind) (n : Int) (K : Value → Prop) : xConv Tryz.prog 3 306 (.int k n) K = K (.int .u64 (IntKind.u64.wrap n)) := xConv_int (s := 3) (d := 306) (ks := .i64) (kd := .u64) (by kernel_rfl) (by kernel_rfl) k n
@[go_sem ↓] theorem xConv_5_3 (k : IntKind) (n : Int) (K : Value → Prop) : xConv Tryz.prog 5 3 (.int k n) K = K (.int .i64 (IntKind.i64.wrap n)) := xConv_int (s := 5) (d := 3) (ks := .u8) (kd := .i64) (by kernel_rfl) (by kernel_rfl) k n
@[go_sem ↓] theorem xConv_5_23 (k : IntKind) (n : Int) (K : Value → Prop) : xConv Tryz.prog 5 23 (.int k n) K = K (.int .u64 (IntKind.u64.wrap n)) := xConv_int (s := 5) (d := 23) (ks := .u8) (kd := .u64) (by kernel_rfl) (by kernel_rfl) k n
@[go_sem ↓] theorem xConv_23_3 (k : IntKind) (n : Int) (K : Value → Prop) : xConv Tryz.prog 23 3 (.int k n) K = K (.int .i64 (IntKind.i64.wrap n)) := xConv_int (s := 23) (d := 3) (ks := .u64) (kd := .i64) (by kernel_rfl) (by kernel_rfl) k n
@[go_sem ↓] theorem xConv_23_5 (k : IntKind) (n : Int) (K : Value → Prop) : xConv Tryz.prog 23 5 (.int k n) K = K (.int .u8 (IntKind.u8.wrap n)) := xConv_int (s := 23) (d := 5) (ks := .u64) (kd := .u8) (by kernel_rfl) (by kernel_rfl) k n
@[go_sem ↓] theorem xConv_306_3 (k : IntKind) (n : Int) (K : Value → Prop) : xConv Tryz.prog 306 3 (.int k n) K = K (.int .i64 (IntKind.i64.wrap n)) := xConv_int (s := 306) (d := 3) (ks := .u64) (kd := .i64) (by kernel_rfl) (by kernel_rfl) k n
theorem mixed : Tryz.prog.follows .mixedOrders = true := by kernel_rfl
end Go.X
