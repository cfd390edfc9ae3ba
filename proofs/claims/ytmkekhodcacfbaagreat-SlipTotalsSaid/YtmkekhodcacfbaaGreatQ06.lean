/- Lemmas and contracts for a statement about the given program. Conditions: as each says. -/
import Derived.KernelRfl
import Derived.Test.YtmkekhodcacfbaaGreatProg
import Derived.Test.YtmkekhodcacfbaaGreatQ00
import Derived.Test.YtmkekhodcacfbaaGreatQ02
import Derived.Test.YtmkekhodcacfbaaGreatQ04
set_option linter.unusedVariables false
set_option linter.unusedSimpArgs false
set_option maxHeartbeats 12800000
set_option maxRecDepth 20000
namespace Go.X
open Go.Proofs
theorem tI_3 : tI Tryz.prog 3 = some ⟨1, false, [(.int .i64 0)], 8⟩ := by kernel_rfl
@[go_sem ↓] theorem xTI_3 (K : TI → Prop) : xTI Tryz.prog 3 K = K ⟨1, false, [(.int .i64 0)], 8⟩ := xTI_of tI_3 K
theorem tI_4 : tI Tryz.prog 4 = some ⟨1, false, [(.bool false)], 1⟩ := by kernel_rfl
@[go_sem ↓] theorem xTI_4 (K : TI → Prop) : xTI Tryz.prog 4 K = K ⟨1, false, [(.bool false)], 1⟩ := xTI_of tI_4 K
theorem tI_5 : tI Tryz.prog 5 = some ⟨1, false, [(.int .u8 0)], 1⟩ := by kernel_rfl
@[go_sem ↓] theorem xTI_5 (K : TI → Prop) : xTI Tryz.prog 5 K = K ⟨1, false, [(.int .u8 0)], 1⟩ := xTI_of tI_5 K
theorem tI_22 : tI Tryz.prog 22 = some ⟨1, false, [(.int .u64 0)], 8⟩ := by kernel_rfl
@[go_sem ↓] theorem xTI_22 (K : TI → Prop) : xTI Tryz.prog 22 K = K ⟨1, false, [(.int .u64 0)], 8⟩ := xTI_of tI_22 K
theorem tI_24 : tI Tryz.prog 24 = some ⟨24, true, [(.int .u64 0), (.int .u64 0), (.int .u64 0), (.int .u64 0), (.int .u64 0), (.int .u64 0), (.int .u64 0), (.int .u64 0), (.int .u64 0), (.int .u64 0), (.int .u64 0), (.int .u64 0), (.int .u64 0), (.int .u64 0), (.int .i64 0), (.int .i64 0), (.int .i64 0), (.int .i64 0), (.int .i64 0), (.int .i64 0), (.int .i64 0), (.int .i64 0), (.int .i64 0), (.int .i64 0)], 192⟩ := by kernel_rfl
@[go_sem ↓] theorem xTI_24 (K : TI → Prop) : xTI Tryz.prog 24 K = K ⟨24, true, [(.int .u64 0), (.int .u64 0), (.int .u64 0), (.int .u64 0), (.int .u64 0), (.int .u64 0), (.int .u64 0), (.int .u64 0), (.int .u64 0), (.int .u64 0), (.int .u64 0), (.int .u64 0), (.int .u64 0), (.int .u64 0), (.int .i64 0), (.int .i64 0), (.int .i64 0), (.int .i64 0), (.int .i64 0), (.int .i64 0), (.int .i64 0), (.int .i64 0), (.int .i64 0), (.int .i64 0)], 192⟩ := xTI_of tI_24 K
theorem tI_25 : tI Tryz.prog 25 = some ⟨1, false, [(.slice none 0 0)], 24⟩ := by kernel_rfl
@[go_sem ↓] theorem xTI_25 (K : TI → Prop) : xTI Tryz.prog 25 K = K ⟨1, false, [(.slice none 0 0)], 24⟩ := xTI_of tI_25 K
theorem tI_26 : tI Tryz.prog 26 = some ⟨1, false, [(.slice none 0 0)], 24⟩ := by kernel_rfl
@[go_sem ↓] theorem xTI_26 (K : TI → Prop) : xTI Tryz.prog 26 K = K ⟨1, false, [(.slice none 0 0)], 24⟩ := xTI_of tI_26 K
theorem tI_27 : tI Tryz.prog 27 = some ⟨1, false, [(.slice none 0 0)], 24⟩ := by kernel_rfl
@[go_sem ↓] theorem xTI_27 (K : TI → Prop) : xTI Tryz.prog 27 K = K ⟨1, false, [(.slice none 0 0)], 24⟩ := xTI_of tI_27 K
theorem tI_28 : tI Tryz.prog 28 = some ⟨1, false, [(.slice none 0 0)], 24⟩ := by kernel_rfl
@[go_sem ↓] theorem xTI_28 (K : TI → Prop) : xTI Tryz.prog 28 K = K ⟨1, false, [(.slice none 0 0)], 24⟩ := xTI_of tI_28 K
theorem tI_29 : tI Tryz.prog 29 = some ⟨1, false, [(.slice none 0 0)], 24⟩ := by kernel_rfl
@[go_sem ↓] theorem xTI_29 (K : TI → Prop) : xTI Tryz.prog 29 K = K ⟨1, false, [(.slice none 0 0)], 24⟩ := xTI_of tI_29 K
theorem tI_30 : tI Tryz.prog 30 = some ⟨1, false, [(.slice none 0 0)], 24⟩ := by kernel_rfl
@[go_sem ↓] theorem xTI_30 (K : TI → Prop) : xTI Tryz.prog 30 K = K ⟨1, false, [(.slice none 0 0)], 24⟩ := xTI_of tI_30 K
theorem tI_31 : tI Tryz.prog 31 = some ⟨1, false, [(.slice none 0 0)], 24⟩ := by kernel_rfl
@[go_sem ↓] theorem xTI_31 (K : TI → Prop) : xTI Tryz.prog 31 K = K ⟨1, false, [(.slice none 0 0)], 24⟩ := xTI_of tI_31 K
theorem tI_32 : tI Tryz.prog 32 = some ⟨1, false, [(.slice none 0 0)], 24⟩ := by kernel_rfl
@[go_sem ↓] theorem xTI_32 (K : TI → Prop) : xTI Tryz.prog 32 K = K ⟨1, false, [(.slice none 0 0)], 24⟩ := xTI_of tI_32 K
theorem tI_34 : tI Tryz.prog 34 = some ⟨41, true, [(.int .u64 0), (.int .u64 0), (.int .u64 0), (.int .u64 0), (.int .u64 0), (.int .u64 0), (.int .u64 0), (.int .u64 0), (.int .u64 0), (.int .u64 0), (.int .u64 0), (.int .u64 0), (.int .u64 0), (.int .u64 0), (.int .i64 0), (.int .i64 0), (.int .i64 0), (.int .i64 0), (.int .i64 0), (.int .i64 0), (.int .i64 0), (.int .i64 0), (.int .i64 0), (.int .i64 0), (.int .u64 0), (.int .u64 0), (.int .u64 0), (.int .u64 0), (.int .u64 0), (.int .i64 0), (.int .i64 0), (.bool false), (.slice none 0 0), (.slice none 0 0), (.slice none 0 0), (.slice none 0 0), (.slice none 0 0), (.slice none 0 0), (.slice none 0 0), (.slice none 0 0), (.slice none 0 0)], 472⟩ := by kernel_rfl
@[go_sem ↓] theorem xTI_34 (K : TI → Prop) : xTI Tryz.prog 34 K = K ⟨41, true, [(.int .u64 0), (.int .u64 0), (.int .u64 0), (.int .u64 0), (.int .u64 0), (.int .u64 0), (.int .u64 0), (.int .u64 0), (.int .u64 0), (.int .u64 0), (.int .u64 0), (.int .u64 0), (.int .u64 0), (.int .u64 0), (.int .i64 0), (.int .i64 0), (.int .i64 0), (.int .i64 0), (.int .i64 0), (.int .i64 0), (.int .i64 0), (.int .i64 0), (.int .i64 0), (.int .i64 0), (.int .u64 0), (.int .u64 0), (.int .u64 0), (.int .u64 0), (.int .u64 0), (.int .i64 0), (.int .i64 0), (.bool false), (.slice none 0 0), (.slice none 0 0), (.slice none 0 0), (.slice none 0 0), (.slice none 0 0), (.slice none 0 0), (.slice none 0 0), (.slice none 0 0), (.slice none 0 0)], 472⟩ := xTI_of tI_34 K
theorem tI_37 : tI Tryz.prog 37 = some ⟨1, false, [(.slice none 0 0)], 24⟩ := by kernel_rfl
@[go_sem ↓] theorem xTI_37 (K : TI → Prop) : xTI Tryz.prog 37 K = K ⟨1, false, [(.slice none 0 0)], 24⟩ := xTI_of tI_37 K
theorem tI_38 : tI Tryz.prog 38 = some ⟨1, false, [(.int .i64 0)], 8⟩ := by kernel_rfl
@[go_sem ↓] theorem xTI_38 (K : TI → Prop) : xTI Tryz.prog 38 K = K ⟨1, false, [(.int .i64 0)], 8⟩ := xTI_of tI_38 K
theorem tI_42 : tI Tryz.prog 42 = some ⟨8, true, [(.int .i64 0), (.bool false), (.int .u64 0), (.int .u64 0), (.int .u64 0), (.int .u64 0), (.int .i64 0), (.int .u64 0)], 64⟩ := by kernel_rfl
@[go_sem ↓] theorem xTI_42 (K : TI → Prop) : xTI Tryz.prog 42 K = K ⟨8, true, [(.int .i64 0), (.bool false), (.int .u64 0), (.int .u64 0), (.int .u64 0), (.int .u64 0), (.int .i64 0), (.int .u64 0)], 64⟩ := xTI_of tI_42 K
theorem tI_48 : tI Tryz.prog 48 = some ⟨24, true, [(.int .u64 0), (.int .u64 0), (.int .u64 0), (.int .u64 0), (.int .u64 0), (.int .u64 0), (.int .u64 0), (.int .u64 0), (.int .u64 0), (.int .u64 0), (.int .u64 0), (.int .u64 0), (.int .u64 0), (.int .u64 0), (.int .i64 0), (.int .i64 0), (.int .i64 0), (.int .i64 0), (.int .i64 0), (.int .i64 0), (.int .i64 0), (.int .i64 0), (.int .i64 0), (.int .i64 0)], 192⟩ := by kernel_rfl
@[go_sem ↓] theorem xTI_48 (K : TI → Prop) : xTI Tryz.prog 48 K = K ⟨24, true, [(.int .u64 0), (.int .u64 0), (.int .u64 0), (.int .u64 0), (.int .u64 0), (.int .u64 0), (.int .u64 0), (.int .u64 0), (.int .u64 0), (.int .u64 0), (.int .u64 0), (.int .u64 0), (.int .u64 0), (.int .u64 0), (.int .i64 0), (.int .i64 0), (.int .i64 0), (.int .i64 0), (.int .i64 0), (.int .i64 0), (.int .i64 0), (.int .i64 0), (.int .i64 0), (.int .i64 0)], 192⟩ := xTI_of tI_48 K
theorem tI_49 : tI Tryz.prog 49 = some ⟨1, false, [(.slice none 0 0)], 24⟩ := by kernel_rfl
@[go_sem ↓] theorem xTI_49 (K : TI → Prop) : xTI Tryz.prog 49 K = K ⟨1, false, [(.slice none 0 0)], 24⟩ := xTI_of tI_49 K
theorem tI_50 : tI Tryz.prog 50 = some ⟨1, false, [(.slice none 0 0)], 24⟩ := by kernel_rfl
@[go_sem ↓] theorem xTI_50 (K : TI → Prop) : xTI Tryz.prog 50 K = K ⟨1, false, [(.slice none 0 0)], 24⟩ := xTI_of tI_50 K
theorem tI_51 : tI Tryz.prog 51 = some ⟨1, false, [(.slice none 0 0)], 24⟩ := by kernel_rfl
@[go_sem ↓] theorem xTI_51 (K : TI → Prop) : xTI Tryz.prog 51 K = K ⟨1, false, [(.slice none 0 0)], 24⟩ := xTI_of tI_51 K
theorem tI_52 : tI Tryz.prog 52 = some ⟨1, false, [(.slice none 0 0)], 24⟩ := by kernel_rfl
@[go_sem ↓] theorem xTI_52 (K : TI → Prop) : xTI Tryz.prog 52 K = K ⟨1, false, [(.slice none 0 0)], 24⟩ := xTI_of tI_52 K
theorem tI_54 : tI Tryz.prog 54 = some ⟨41, true, [(.int .u64 0), (.int .u64 0), (.int .u64 0), (.int .u64 0), (.int .u64 0), (.int .u64 0), (.int .u64 0), (.int .u64 0), (.int .u64 0), (.int .u64 0), (.int .u64 0), (.int .u64 0), (.int .u64 0), (.int .u64 0), (.int .i64 0), (.int .i64 0), (.int .i64 0), (.int .i64 0), (.int .i64 0), (.int .i64 0), (.int .i64 0), (.int .i64 0), (.int .i64 0), (.int .i64 0), (.int .u64 0), (.int .u64 0), (.int .u64 0), (.int .u64 0), (.int .u64 0), (.int .i64 0), (.int .i64 0), (.bool false), (.slice none 0 0), (.slice none 0 0), (.slice none 0 0), (.slice none 0 0), (.slice none 0 0), (.slice none 0 0), (.slice none 0 0), (.slice none 0 0), (.slice none 0 0)], 472⟩ := by kernel_rfl
@[go_sem ↓] theorem xTI_54 (K : TI → Prop) : xTI Tryz.prog 54 K = K ⟨41, true, [(.int .u64 0), (.int .u64 0), (.int .u64 0), (.int .u64 0), (.int .u64 0), (.int .u64 0), (.int .u64 0), (.int .u64 0), (.int .u64 0), (.int .u64 0), (.int .u64 0), (.int .u64 0), (.int .u64 0), (.int .u64 0), (.int .i64 0), (.int .i64 0), (.int .i64 0), (.int .i64 0), (.int .i64 0), (.int .i64 0), (.int .i64 0), (.int .i64 0), (.int .i64 0), (.int .i64 0), (.int .u64 0), (.int .u64 0), (.int .u64 0), (.int .u64 0), (.int .u64 0), (.int .i64 0), (.int .i64 0), (.bool false), (.slice none 0 0), (.slice none 0 0), (.slice none 0 0), (.slice none 0 0), (.slice none 0 0), (.slice none 0 0), (.slice none 0 0), (.slice none 0 0), (.slice none 0 0)], 472⟩ := xTI_of tI_54 K
theorem tI_56 : tI Tryz.prog 56 = some ⟨8, true, [(.int .i64 0), (.bool false), (.int .u64 0), (.int .u64 0), (.int .u64 0), (.int .u64 0), (.int .i64 0), (.int .u64 0)], 64⟩ := by kernel_rfl
@[go_sem ↓] theorem xTI_56 (K : TI → Prop) : xTI Tryz.prog 56 K = K ⟨8, true, [(.int .i64 0), (.bool false), (.int .u64 0), (.int .u64 0), (.int .u64 0), (.int .u64 0), (.int .i64 0), (.int .u64 0)], 64⟩ := xTI_of tI_56 K
theorem tI_64 : tI Tryz.prog 64 = some ⟨1, false, [(.slice none 0 0)], 24⟩ := by kernel_rfl
@[go_sem ↓] theorem xTI_64 (K : TI → Prop) : xTI Tryz.prog 64 K = K ⟨1, false, [(.slice none 0 0)], 24⟩ := xTI_of tI_64 K
theorem tI_66 : tI Tryz.prog 66 = some ⟨27, true, [(.int .u64 0), (.int .u64 0), (.int .u64 0), (.int .u64 0), (.int .u64 0), (.int .u64 0), (.int .u64 0), (.int .u64 0), (.int .u64 0), (.int .u64 0), (.int .u64 0), (.int .u64 0), (.int .u64 0), (.int .u64 0), (.int .i64 0), (.int .i64 0), (.int .i64 0), (.int .i64 0), (.int .i64 0), (.int .i64 0), (.int .i64 0), (.int .i64 0), (.int .i64 0), (.int .i64 0), (.int .u64 0), (.slice none 0 0), (.slice none 0 0)], 248⟩ := by kernel_rfl
@[go_sem ↓] theorem xTI_66 (K : TI → Prop) : xTI Tryz.prog 66 K = K ⟨27, true, [(.int .u64 0), (.int .u64 0), (.int .u64 0), (.int .u64 0), (.int .u64 0), (.int .u64 0), (.int .u64 0), (.int .u64 0), (.int .u64 0), (.int .u64 0), (.int .u64 0), (.int .u64 0), (.int .u64 0), (.int .u64 0), (.int .i64 0), (.int .i64 0), (.int .i64 0), (.int .i64 0), (.int .i64 0), (.int .i64 0), (.int .i64 0), (.int .i64 0), (.int .i64 0), (.int .i64 0), (.int .u64 0), (.slice none 0 0), (.slice none 0 0)], 248⟩ := xTI_of tI_66 K
theorem tI_72 : tI Tryz.prog 72 = some ⟨1, false, [(.slice none 0 0)], 24⟩ := by kernel_rfl
@[go_sem ↓] theorem xTI_72 (K : TI → Prop) : xTI Tryz.prog 72 K = K ⟨1, false, [(.slice none 0 0)], 24⟩ := xTI_of tI_72 K
theorem tI_74 : tI Tryz.prog 74 = some ⟨27, true, [(.int .u64 0), (.int .u64 0), (.int .u64 0), (.int .u64 0), (.int .u64 0), (.int .u64 0), (.int .u64 0), (.int .u64 0), (.int .u64 0), (.int .u64 0), (.int .u64 0), (.int .u64 0), (.int .u64 0), (.int .u64 0), (.int .i64 0), (.int .i64 0), (.int .i64 0), (.int .i64 0), (.int .i64 0), (.int .i64 0), (.int .i64 0), (.int .i64 0), (.int .i64 0), (.int .i64 0), (.int .u64 0), (.slice none 0 0), (.slice none 0 0)], 248⟩ := by kernel_rfl
@[go_sem ↓] theorem xTI_74 (K : TI → Prop) : xTI Tryz.prog 74 K = K ⟨27, true, [(.int .u64 0), (.int .u64 0), (.int .u64 0), (.int .u64 0), (.int .u64 0), (.int .u64 0), (.int .u64 0), (.int .u64 0), (.int .u64 0), (.int .u64 0), (.int .u64 0), (.int .u64 0), (.int .u64 0), (.int .u64 0), (.int .i64 0), (.int .i64 0), (.int .i64 0), (.int .i64 0), (.int .i64 0), (.int .i64 0), (.int .i64 0), (.int .i64 0), (.int .i64 0), (.int .i64 0), (.int .u64 0), (.slice none 0 0), (.slice none 0 0)], 248⟩ := xTI_of tI_74 K
theorem tI_79 : tI Tryz.prog 79 = some ⟨14, true, [(.int .i64 0), (.int .i64 0), (.bool false), (.int .u64 0), (.int .u64 0), (.int .u64 0), (.int .u64 0), (.int .u64 0), (.int .u64 0), (.int .u64 0), (.slice none 0 0), (.slice none 0 0), (.slice none 0 0), (.slice none 0 0)], 176⟩ := by kernel_rfl
@[go_sem ↓] theorem xTI_79 (K : TI → Prop) : xTI Tryz.prog 79 K = K ⟨14, true, [(.int .i64 0), (.int .i64 0), (.bool false), (.int .u64 0), (.int .u64 0), (.int .u64 0), (.int .u64 0), (.int .u64 0), (.int .u64 0), (.int .u64 0), (.slice none 0 0), (.slice none 0 0), (.slice none 0 0), (.slice none 0 0)], 176⟩ := xTI_of tI_79 K
theorem tI_82 : tI Tryz.prog 82 = some ⟨14, true, [(.int .i64 0), (.int .i64 0), (.bool false), (.int .u64 0), (.int .u64 0), (.int .u64 0), (.int .u64 0), (.int .u64 0), (.int .u64 0), (.int .u64 0), (.slice none 0 0), (.slice none 0 0), (.slice none 0 0), (.slice none 0 0)], 176⟩ := by kernel_rfl
@[go_sem ↓] theorem xTI_82 (K : TI → Prop) : xTI Tryz.prog 82 K = K ⟨14, true, [(.int .i64 0), (.int .i64 0), (.bool false), (.int .u64 0), (.int .u64 0), (.int .u64 0), (.int .u64 0), (.int .u64 0), (.int .u64 0), (.int .u64 0), (.slice none 0 0), (.slice none 0 0), (.slice none 0 0), (.slice none 0 0)], 176⟩ := xTI_of tI_82 K
theorem tI_89 : tI Tryz.prog 89 = some ⟨4, true, [(.int .u64 0), (.int .u64 0), (.int .u64 0), (.int .i64 0)], 32⟩ := by kernel_rfl
@[go_sem ↓] theorem xTI_89 (K : TI → Prop) : xTI Tryz.prog 89 K = K ⟨4, true, [(.int .u64 0), (.int .u64 0), (.int .u64 0), (.int .i64 0)], 32⟩ := xTI_of tI_89 K
theorem tI_91 : tI Tryz.prog 91 = some ⟨6, true, [(.int .u64 0), (.int .u64 0), (.int .u64 0), (.int .i64 0), (.int .i64 0), (.int .i64 0)], 48⟩ := by kernel_rfl
@[go_sem ↓] theorem xTI_91 (K : TI → Prop) : xTI Tryz.prog 91 K = K ⟨6, true, [(.int .u64 0), (.int .u64 0), (.int .u64 0), (.int .i64 0), (.int .i64 0), (.int .i64 0)], 48⟩ := xTI_of tI_91 K
theorem tI_93 : tI Tryz.prog 93 = some ⟨33, true, [(.int .i64 0), (.int .i64 0), (.int .u64 0), (.int .u64 0), (.int .u64 0), (.int .u64 0), (.int .u64 0), (.int .u64 0), (.int .u64 0), (.int .u64 0), (.int .u64 0), (.int .u64 0), (.int .u64 0), (.int .u64 0), (.int .u64 0), (.int .u64 0), (.int .i64 0), (.int .i64 0), (.int .i64 0), (.int .i64 0), (.int .i64 0), (.int .i64 0), (.int .i64 0), (.int .i64 0), (.int .i64 0), (.int .i64 0), (.int .i64 0), (.int .u64 0), (.int .i64 0), (.int .i64 0), (.int .i64 0), (.slice none 0 0), (.slice none 0 0)], 296⟩ := by kernel_rfl
@[go_sem ↓] theorem xTI_93 (K : TI → Prop) : xTI Tryz.prog 93 K = K ⟨33, true, [(.int .i64 0), (.int .i64 0), (.int .u64 0), (.int .u64 0), (.int .u64 0), (.int .u64 0), (.int .u64 0), (.int .u64 0), (.int .u64 0), (.int .u64 0), (.int .u64 0), (.int .u64 0), (.int .u64 0), (.int .u64 0), (.int .u64 0), (.int .u64 0), (.int .i64 0), (.int .i64 0), (.int .i64 0), (.int .i64 0), (.int .i64 0), (.int .i64 0), (.int .i64 0), (.int .i64 0), (.int .i64 0), (.int .i64 0), (.int .i64 0), (.int .u64 0), (.int .i64 0), (.int .i64 0), (.int .i64 0), (.slice none 0 0), (.slice none 0 0)], 296⟩ := xTI_of tI_93 K
theorem tI_96 : tI Tryz.prog 96 = some ⟨1, false, [(.slice none 0 0)], 24⟩ := by kernel_rfl
@[go_sem ↓] theorem xTI_96 (K : TI → Prop) : xTI Tryz.prog 96 K = K ⟨1, false, [(.slice none 0 0)], 24⟩ := xTI_of tI_96 K
theorem tI_98 : tI Tryz.prog 98 = some ⟨45, true, [(.int .u64 0), (.int .u64 0), (.int .u64 0), (.int .u64 0), (.int .u64 0), (.int .u64 0), (.int .u64 0), (.int .u64 0), (.int .u64 0), (.int .u64 0), (.int .u64 0), (.int .u64 0), (.int .u64 0), (.int .u64 0), (.int .i64 0), (.int .i64 0), (.int .i64 0), (.int .i64 0), (.int .i64 0), (.int .i64 0), (.int .i64 0), (.int .i64 0), (.int .i64 0), (.int .i64 0), (.int .u64 0), (.int .u64 0), (.int .u64 0), (.int .u64 0), (.int .u64 0), (.int .i64 0), (.int .i64 0), (.bool false), (.slice none 0 0), (.slice none 0 0), (.slice none 0 0), (.slice none 0 0), (.slice none 0 0), (.slice none 0 0), (.slice none 0 0), (.slice none 0 0), (.slice none 0 0), (.int .i64 0), (.int .u64 0), (.slice none 0 0), (.slice none 0 0)], 536⟩ := by kernel_rfl
@[go_sem ↓] theorem xTI_98 (K : TI → Prop) : xTI Tryz.prog 98 K = K ⟨45, true, [(.int .u64 0), (.int .u64 0), (.int .u64 0), (.int .u64 0), (.int .u64 0), (.int .u64 0), (.int .u64 0), (.int .u64 0), (.int .u64 0), (.int .u64 0), (.int .u64 0), (.int .u64 0), (.int .u64 0), (.int .u64 0), (.int .i64 0), (.int .i64 0), (.int .i64 0), (.int .i64 0), (.int .i64 0), (.int .i64 0), (.int .i64 0), (.int .i64 0), (.int .i64 0), (.int .i64 0), (.int .u64 0), (.int .u64 0), (.int .u64 0), (.int .u64 0), (.int .u64 0), (.int .i64 0), (.int .i64 0), (.bool false), (.slice none 0 0), (.slice none 0 0), (.slice none 0 0), (.slice none 0 0), (.slice none 0 0), (.slice none 0 0), (.slice none 0 0), (.slice none 0 0), (.slice none 0 0), (.int .i64 0), (.int .u64 0), (.slice none 0 0), (.slice none 0 0)], 536⟩ := xTI_of tI_98 K
theorem tI_108 : tI Tryz.prog 108 = some ⟨4, true, [(.int .u64 0), (.int .u64 0), (.int .u64 0), (.int .i64 0)], 32⟩ := by kernel_rfl
@[go_sem ↓] theorem xTI_108 (K : TI → Prop) : xTI Tryz.prog 108 K = K ⟨4, true, [(.int .u64 0), (.int .u64 0), (.int .u64 0), (.int .i64 0)], 32⟩ := xTI_of tI_108 K
theorem tI_110 : tI Tryz.prog 110 = some ⟨6, true, [(.int .u64 0), (.int .u64 0), (.int .u64 0), (.int .i64 0), (.int .i64 0), (.int .i64 0)], 48⟩ := by kernel_rfl
@[go_sem ↓] theorem xTI_110 (K : TI → Prop) : xTI Tryz.prog 110 K = K ⟨6, true, [(.int .u64 0), (.int .u64 0), (.int .u64 0), (.int .i64 0), (.int .i64 0), (.int .i64 0)], 48⟩ := xTI_of tI_110 K
theorem tI_129 : tI Tryz.prog 129 = some ⟨5, true, [(.int .u64 0), (.int .u64 0), (.int .u64 0), (.int .u64 0), (.int .u64 0)], 40⟩ := by kernel_rfl
@[go_sem ↓] theorem xTI_129 (K : TI → Prop) : xTI Tryz.prog 129 K = K ⟨5, true, [(.int .u64 0), (.int .u64 0), (.int .u64 0), (.int .u64 0), (.int .u64 0)], 40⟩ := xTI_of tI_129 K
theorem tI_130 : tI Tryz.prog 130 = some ⟨1, false, [.nilFunc], 8⟩ := by kernel_rfl
@[go_sem ↓] theorem xTI_130 (K : TI → Prop) : xTI Tryz.prog 130 K = K ⟨1, false, [.nilFunc], 8⟩ := xTI_of tI_130 K
theorem tI_136 : tI Tryz.prog 136 = some ⟨1, true, [(.slice none 0 0)], 24⟩ := by kernel_rfl
@[go_sem ↓] theorem xTI_136 (K : TI → Prop) : xTI Tryz.prog 136 K = K ⟨1, true, [(.slice none 0 0)], 24⟩ := xTI_of tI_136 K
theorem tI_145 : tI Tryz.prog 145 = some ⟨2, true, [(.int .i64 0), (.int .u64 0)], 16⟩ := by kernel_rfl
@[go_sem ↓] theorem xTI_145 (K : TI → Prop) : xTI Tryz.prog 145 K = K ⟨2, true, [(.int .i64 0), (.int .u64 0)], 16⟩ := xTI_of tI_145 K
theorem tI_151 : tI Tryz.prog 151 = some ⟨2, true, [(.int .i64 0), (.int .u64 0)], 16⟩ := by kernel_rfl
@[go_sem ↓] theorem xTI_151 (K : TI → Prop) : xTI Tryz.prog 151 K = K ⟨2, true, [(.int .i64 0), (.int .u64 0)], 16⟩ := xTI_of tI_151 K
theorem tI_158 : tI Tryz.prog 158 = some ⟨41, true, [(.int .u64 0), (.int .u64 0), (.int .u64 0), (.int .u64 0), (.int .u64 0), (.int .u64 0), (.int .u64 0), (.int .u64 0), (.int .u64 0), (.int .u64 0), (.int .u64 0), (.int .u64 0), (.int .u64 0), (.int .u64 0), (.int .i64 0), (.int .i64 0), (.int .i64 0), (.int .i64 0), (.int .i64 0), (.int .i64 0), (.int .i64 0), (.int .i64 0), (.int .i64 0), (.int .i64 0), (.int .u64 0), (.int .u64 0), (.int .u64 0), (.int .u64 0), (.int .u64 0), (.int .i64 0), (.int .i64 0), (.bool false), (.slice none 0 0), (.slice none 0 0), (.slice none 0 0), (.slice none 0 0), (.slice none 0 0), (.slice none 0 0), (.slice none 0 0), (.slice none 0 0), (.slice none 0 0)], 472⟩ := by kernel_rfl
@[go_sem ↓] theorem xTI_158 (K : TI → Prop) : xTI Tryz.prog 158 K = K ⟨41, true, [(.int .u64 0), (.int .u64 0), (.int .u64 0), (.int .u64 0), (.int .u64 0), (.int .u64 0), (.int .u64 0), (.int .u64 0), (.int .u64 0), (.int .u64 0), (.int .u64 0), (.int .u64 0), (.int .u64 0), (.int .u64 0), (.int .i64 0), (.int .i64 0), (.int .i64 0), (.int .i64 0), (.int .i64 0), (.int .i64 0), (.int .i64 0), (.int .i64 0), (.int .i64 0), (.int .i64 0), (.int .u64 0), (.int .u64 0), (.int .u64 0), (.int .u64 0), (.int .u64 0), (.int .i64 0), (.int .i64 0), (.bool false), (.slice none 0 0), (.slice none 0 0), (.slice none 0 0), (.slice none 0 0), (.slice none 0 0), (.slice none 0 0), (.slice none 0 0), (.slice none 0 0), (.slice none 0 0)], 472⟩ := xTI_of tI_158 K
theorem tI_163 : tI Tryz.prog 163 = some ⟨4, true, [(.int .i64 0), (.int .i64 0), (.int .u64 0), (.bool false)], 32⟩ := by kernel_rfl
@[go_sem ↓] theorem xTI_163 (K : TI → Prop) : xTI Tryz.prog 163 K = K ⟨4, true, [(.int .i64 0), (.int .i64 0), (.int .u64 0), (.bool false)], 32⟩ := xTI_of tI_163 K
theorem tI_166 : tI Tryz.prog 166 = some ⟨3, true, [(.int .i64 0), (.int .i64 0), (.int .u64 0)], 24⟩ := by kernel_rfl
@[go_sem ↓] theorem xTI_166 (K : TI → Prop) : xTI Tryz.prog 166 K = K ⟨3, true, [(.int .i64 0), (.int .i64 0), (.int .u64 0)], 24⟩ := xTI_of tI_166 K
theorem tI_218 : tI Tryz.prog 218 = some ⟨4, true, [(.int .i64 0), (.int .i64 0), (.int .u64 0), (.bool false)], 32⟩ := by kernel_rfl
@[go_sem ↓] theorem xTI_218 (K : TI → Prop) : xTI Tryz.prog 218 K = K ⟨4, true, [(.int .i64 0), (.int .i64 0), (.int .u64 0), (.bool false)], 32⟩ := xTI_of tI_218 K
theorem tI_219 : tI Tryz.prog 219 = some ⟨3, true, [(.int .i64 0), (.int .i64 0), (.int .u64 0)], 24⟩ := by kernel_rfl
@[go_sem ↓] theorem xTI_219 (K : TI → Prop) : xTI Tryz.prog 219 K = K ⟨3, true, [(.int .i64 0), (.int .i64 0), (.int .u64 0)], 24⟩ := xTI_of tI_219 K
theorem tI_237 : tI Tryz.prog 237 = some ⟨5, true, [(.int .u64 0), (.int .u64 0), (.int .u64 0), (.int .u64 0), (.int .u64 0)], 40⟩ := by kernel_rfl
@[go_sem ↓] theorem xTI_237 (K : TI → Prop) : xTI Tryz.prog 237 K = K ⟨5, true, [(.int .u64 0), (.int .u64 0), (.int .u64 0), (.int .u64 0), (.int .u64 0)], 40⟩ := xTI_of tI_237 K
theorem tI_288 : tI Tryz.prog 288 = some ⟨28, true, [(.int .u64 0), (.int .u64 0), (.int .u64 0), (.int .i64 0), (.int .u64 0), (.int .u64 0), (.int .u64 0), (.int .u64 0), (.int .u64 0), (.int .u64 0), (.int .u64 0), (.int .u64 0), (.int .u64 0), (.int .u64 0), (.int .u64 0), (.int .u64 0), (.int .u64 0), (.int .u64 0), (.int .i64 0), (.int .i64 0), (.int .i64 0), (.int .i64 0), (.int .i64 0), (.int .i64 0), (.int .i64 0), (.int .i64 0), (.int .i64 0), (.int .i64 0)], 224⟩ := by kernel_rfl
@[go_sem ↓] theorem xTI_288 (K : TI → Prop) : xTI Tryz.prog 288 K = K ⟨28, true, [(.int .u64 0), (.int .u64 0), (.int .u64 0), (.int .i64 0), (.int .u64 0), (.int .u64 0), (.int .u64 0), (.int .u64 0), (.int .u64 0), (.int .u64 0), (.int .u64 0), (.int .u64 0), (.int .u64 0), (.int .u64 0), (.int .u64 0), (.int .u64 0), (.int .u64 0), (.int .u64 0), (.int .i64 0), (.int .i64 0), (.int .i64 0), (.int .i64 0), (.int .i64 0), (.int .i64 0), (.int .i64 0), (.int .i64 0), (.int .i64 0), (.int .i64 0)], 224⟩ := xTI_of tI_288 K
theorem tI_299 : tI Tryz.prog 299 = some ⟨1, true, [(.slice none 0 0)], 24⟩ := by kernel_rfl
@[go_sem ↓] theorem xTI_299 (K : TI → Prop) : xTI Tryz.prog 299 K = K ⟨1, true, [(.slice none 0 0)], 24⟩ := xTI_of tI_299 K
theorem tI_313 : tI Tryz.prog 313 = some ⟨24, true, [(.int .u64 0), (.int .u64 0), (.int .u64 0), (.int .u64 0), (.int .u64 0), (.int .u64 0), (.int .u64 0), (.int .u64 0), (.int .u64 0), (.int .u64 0), (.int .u64 0), (.int .u64 0), (.int .u64 0), (.int .u64 0), (.int .i64 0), (.int .i64 0), (.int .i64 0), (.int .i64 0), (.int .i64 0), (.int .i64 0), (.int .i64 0), (.int .i64 0), (.int .i64 0), (.int .i64 0)], 192⟩ := by kernel_rfl
@[go_sem ↓] theorem xTI_313 (K : TI → Prop) : xTI Tryz.prog 313 K = K ⟨24, true, [(.int .u64 0), (.int .u64 0), (.int .u64 0), (.int .u64 0), (.int .u64 0), (.int .u64 0), (.int .u64 0), (.int .u64 0), (.int .u64 0), (.int .u64 0), (.int .u64 0), (.int .u64 0), (.int .u64 0), (.int .u64 0), (.int .i64 0), (.int .i64 0), (.int .i64 0), (.int .i64 0), (.int .i64 0), (.int .i64 0), (.int .i64 0), (.int .i64 0), (.int .i64 0), (.int .i64 0)], 192⟩ := xTI_of tI_313 K
theorem tI_319 : tI Tryz.prog 319 = some ⟨6, true, [(.int .u64 0), (.int .u64 0), (.int .u64 0), (.int .i64 0), (.int .i64 0), (.int .i64 0)], 48⟩ := by kernel_rfl
@[go_sem ↓] theorem xTI_319 (K : TI → Prop) : xTI Tryz.prog 319 K = K ⟨6, true, [(.int .u64 0), (.int .u64 0), (.int .u64 0), (.int .i64 0), (.int .i64 0), (.int .i64 0)], 48⟩ := xTI_of tI_319 K
theorem tI_353 : tI Tryz.prog 353 = some ⟨29, true, [(.int .u64 0), (.int .u64 0), (.int .u64 0), (.int .i64 0), (.int .u64 0), (.int .u64 0), (.int .u64 0), (.int .u64 0), (.int .u64 0), (.int .u64 0), (.int .u64 0), (.int .u64 0), (.int .u64 0), (.int .u64 0), (.int .u64 0), (.int .u64 0), (.int .u64 0), (.int .u64 0), (.int .i64 0), (.int .i64 0), (.int .i64 0), (.int .i64 0), (.int .i64 0), (.int .i64 0), (.int .i64 0), (.int .i64 0), (.int .i64 0), (.int .i64 0), (.int .i64 0)], 232⟩ := by kernel_rfl
@[go_sem ↓] theorem xTI_353 (K : TI → Prop) : xTI Tryz.prog 353 K = K ⟨29, true, [(.int .u64 0), (.int .u64 0), (.int .u64 0), (.int .i64 0), (.int .u64 0), (.int .u64 0), (.int .u64 0), (.int .u64 0), (.int .u64 0), (.int .u64 0), (.int .u64 0), (.int .u64 0), (.int .u64 0), (.int .u64 0), (.int .u64 0), (.int .u64 0), (.int .u64 0), (.int .u64 0), (.int .i64 0), (.int .i64 0), (.int .i64 0), (.int .i64 0), (.int .i64 0), (.int .i64 0), (.int .i64 0), (.int .i64 0), (.int .i64 0), (.int .i64 0), (.int .i64 0)], 232⟩ := xTI_of tI_353 K
theorem tI_361 : tI Tryz.prog 361 = some ⟨2, true, [(.int .u64 0), (.int .u64 0)], 16⟩ := by kernel_rfl
@[go_sem ↓] theorem xTI_361 (K : TI → Prop) : xTI Tryz.prog 361 K = K ⟨2, true, [(.int .u64 0), (.int .u64 0)], 16⟩ := xTI_of tI_361 K
theorem tI_385 : tI Tryz.prog 385 = some ⟨3, true, [(.int .u64 0), (.int .u64 0), (.int .u64 0)], 24⟩ := by kernel_rfl
@[go_sem ↓] theorem xTI_385 (K : TI → Prop) : xTI Tryz.prog 385 K = K ⟨3, true, [(.int .u64 0), (.int .u64 0), (.int .u64 0)], 24⟩ := xTI_of tI_385 K
theorem tI_393 : tI Tryz.prog 393 = some ⟨1, false, [.nilIface], 16⟩ := by kernel_rfl
@[go_sem ↓] theorem xTI_393 (K : TI → Prop) : xTI Tryz.prog 393 K = K ⟨1, false, [.nilIface], 16⟩ := xTI_of tI_393 K
theorem bP_24 : bPl Tryz.prog 24 = some ([(.int .u64 0), (.int .u64 0), (.int .u64 0), (.int .u64 0), (.int .u64 0), (.int .u64 0), (.int .u64 0), (.int .u64 0), (.int .u64 0), (.int .u64 0), (.int .u64 0), (.int .u64 0), (.int .u64 0), (.int .u64 0), (.int .i64 0), (.int .i64 0), (.int .i64 0), (.int .i64 0), (.int .i64 0), (.int .i64 0), (.int .i64 0), (.int .i64 0), (.int .i64 0), (.int .i64 0)], [(0, 1), (1, 1), (2, 1), (3, 1), (4, 1), (5, 1), (6, 1), (7, 1), (8, 1), (9, 1), (10, 1), (11, 1), (12, 1), (13, 1), (14, 1), (15, 1), (16, 1), (17, 1), (18, 1), (19, 1), (20, 1), (21, 1), (22, 1), (23, 1)]) := by kernel_rfl
@[go_sem ↓] theorem xBuild_24 (ps : List (Nat × Value)) (K : Value → Prop) : xBuild Tryz.prog 24 ps.toArray K = xFill [(.int .u64 0), (.int .u64 0), (.int .u64 0), (.int .u64 0), (.int .u64 0), (.int .u64 0), (.int .u64 0), (.int .u64 0), (.int .u64 0), (.int .u64 0), (.int .u64 0), (.int .u64 0), (.int .u64 0), (.int .u64 0), (.int .i64 0), (.int .i64 0), (.int .i64 0), (.int .i64 0), (.int .i64 0), (.int .i64 0), (.int .i64 0), (.int .i64 0), (.int .i64 0), (.int .i64 0)] [(0, 1), (1, 1), (2, 1), (3, 1), (4, 1), (5, 1), (6, 1), (7, 1), (8, 1), (9, 1), (10, 1), (11, 1), (12, 1), (13, 1), (14, 1), (15, 1), (16, 1), (17, 1), (18, 1), (19, 1), (20, 1), (21, 1), (22, 1), (23, 1)] ps fun z' => K (.agg z'.toArray) := xBuild_of bP_24 ps K
theorem bP_34 : bPl Tryz.prog 34 = some ([(.int .u64 0), (.int .u64 0), (.int .u64 0), (.int .u64 0), (.int .u64 0), (.int .u64 0), (.int .u64 0), (.int .u64 0), (.int .u64 0), (.int .u64 0), (.int .u64 0), (.int .u64 0), (.int .u64 0), (.int .u64 0), (.int .i64 0), (.int .i64 0), (.int .i64 0), (.int .i64 0), (.int .i64 0), (.int .i64 0), (.int .i64 0), (.int .i64 0), (.int .i64 0), (.int .i64 0), (.int .u64 0), (.int .u64 0), (.int .u64 0), (.int .u64 0), (.int .u64 0), (.int .i64 0), (.int .i64 0), (.bool false), (.slice none 0 0), (.slice none 0 0), (.slice none 0 0), (.slice none 0 0), (.slice none 0 0), (.slice none 0 0), (.slice none 0 0), (.slice none 0 0), (.slice none 0 0)], [(0, 24), (24, 1), (25, 1), (26, 1), (27, 1), (28, 1), (29, 1), (30, 1), (31, 1), (32, 1), (33, 1), (34, 1), (35, 1), (36, 1), (37, 1), (38, 1), (39, 1), (40, 1)]) := by kernel_rfl
@[go_sem ↓] theorem xBuild_34 (ps : List (Nat × Value)) (K : Value → Prop) : xBuild Tryz.prog 34 ps.toArray K = xFill [(.int .u64 0), (.int .u64 0), (.int .u64 0), (.int .u64 0), (.int .u64 0), (.int .u64 0), (.int .u64 0), (.int .u64 0), (.int .u64 0), (.int .u64 0), (.int .u64 0), (.int .u64 0), (.int .u64 0), (.int .u64 0), (.int .i64 0), (.int .i64 0), (.int .i64 0), (.int .i64 0), (.int .i64 0), (.int .i64 0), (.int .i64 0), (.int .i64 0), (.int .i64 0), (.int .i64 0), (.int .u64 0), (.int .u64 0), (.int .u64 0), (.int .u64 0), (.int .u64 0), (.int .i64 0), (.int .i64 0), (.bool false), (.slice none 0 0), (.slice none 0 0), (.slice none 0 0), (.slice none 0 0), (.slice none 0 0), (.slice none 0 0), (.slice none 0 0), (.slice none 0 0), (.slice none 0 0)] [(0, 24), (24, 1), (25, 1), (26, 1), (27, 1), (28, 1), (29, 1), (30, 1), (31, 1), (32, 1), (33, 1), (34, 1), (35, 1), (36, 1), (37, 1), (38, 1), (39, 1), (40, 1)] ps fun z' => K (.agg z'.toArray) := xBuild_of bP_34 ps K
theorem bP_42 : bPl Tryz.prog 42 = some ([(.int .i64 0), (.bool false), (.int .u64 0), (.int .u64 0), (.int .u64 0), (.int .u64 0), (.int .i64 0), (.int .u64 0)], [(0, 1), (1, 1), (2, 1), (3, 1), (4, 1), (5, 1), (6, 1), (7, 1)]) := by kernel_rfl
@[go_sem ↓] theorem xBuild_42 (ps : List (Nat × Value)) (K : Value → Prop) : xBuild Tryz.prog 42 ps.toArray K = xFill [(.int .i64 0), (.bool false), (.int .u64 0), (.int .u64 0), (.int .u64 0), (.int .u64 0), (.int .i64 0), (.int .u64 0)] [(0, 1), (1, 1), (2, 1), (3, 1), (4, 1), (5, 1), (6, 1), (7, 1)] ps fun z' => K (.agg z'.toArray) := xBuild_of bP_42 ps K
theorem bP_66 : bPl Tryz.prog 66 = some ([(.int .u64 0), (.int .u64 0), (.int .u64 0), (.int .u64 0), (.int .u64 0), (.int .u64 0), (.int .u64 0), (.int .u64 0), (.int .u64 0), (.int .u64 0), (.int .u64 0), (.int .u64 0), (.int .u64 0), (.int .u64 0), (.int .i64 0), (.int .i64 0), (.int .i64 0), (.int .i64 0), (.int .i64 0), (.int .i64 0), (.int .i64 0), (.int .i64 0), (.int .i64 0), (.int .i64 0), (.int .u64 0), (.slice none 0 0), (.slice none 0 0)], [(0, 24), (24, 1), (25, 1), (26, 1)]) := by kernel_rfl
@[go_sem ↓] theorem xBuild_66 (ps : List (Nat × Value)) (K : Value → Prop) : xBuild Tryz.prog 66 ps.toArray K = xFill [(.int .u64 0), (.int .u64 0), (.int .u64 0), (.int .u64 0), (.int .u64 0), (.int .u64 0), (.int .u64 0), (.int .u64 0), (.int .u64 0), (.int .u64 0), (.int .u64 0), (.int .u64 0), (.int .u64 0), (.int .u64 0), (.int .i64 0), (.int .i64 0), (.int .i64 0), (.int .i64 0), (.int .i64 0), (.int .i64 0), (.int .i64 0), (.int .i64 0), (.int .i64 0), (.int .i64 0), (.int .u64 0), (.slice none 0 0), (.slice none 0 0)] [(0, 24), (24, 1), (25, 1), (26, 1)] ps fun z' => K (.agg z'.toArray) := xBuild_of bP_66 ps K
theorem bP_89 : bPl Tryz.prog 89 = some ([(.int .u64 0), (.int .u64 0), (.int .u64 0), (.int .i64 0)], [(0, 1), (1, 1), (2, 1), (3, 1)]) := by kernel_rfl
@[go_sem ↓] theorem xBuild_89 (ps : List (Nat × Value)) (K : Value → Prop) : xBuild Tryz.prog 89 ps.toArray K = xFill [(.int .u64 0), (.int .u64 0), (.int .u64 0), (.int .i64 0)] [(0, 1), (1, 1), (2, 1), (3, 1)] ps fun z' => K (.agg z'.toArray) := xBuild_of bP_89 ps K
theorem bP_91 : bPl Tryz.prog 91 = some ([(.int .u64 0), (.int .u64 0), (.int .u64 0), (.int .i64 0), (.int .i64 0), (.int .i64 0)], [(0, 4), (4, 1), (5, 1)]) := by kernel_rfl
@[go_sem ↓] theorem xBuild_91 (ps : List (Nat × Value)) (K : Value → Prop) : xBuild Tryz.prog 91 ps.toArray K = xFill [(.int .u64 0), (.int .u64 0), (.int .u64 0), (.int .i64 0), (.int .i64 0), (.int .i64 0)] [(0, 4), (4, 1), (5, 1)] ps fun z' => K (.agg z'.toArray) := xBuild_of bP_91 ps K
theorem bP_98 : bPl Tryz.prog 98 = some ([(.int .u64 0), (.int .u64 0), (.int .u64 0), (.int .u64 0), (.int .u64 0), (.int .u64 0), (.int .u64 0), (.int .u64 0), (.int .u64 0), (.int .u64 0), (.int .u64 0), (.int .u64 0), (.int .u64 0), (.int .u64 0), (.int .i64 0), (.int .i64 0), (.int .i64 0), (.int .i64 0), (.int .i64 0), (.int .i64 0), (.int .i64 0), (.int .i64 0), (.int .i64 0), (.int .i64 0), (.int .u64 0), (.int .u64 0), (.int .u64 0), (.int .u64 0), (.int .u64 0), (.int .i64 0), (.int .i64 0), (.bool false), (.slice none 0 0), (.slice none 0 0), (.slice none 0 0), (.slice none 0 0), (.slice none 0 0), (.slice none 0 0), (.slice none 0 0), (.slice none 0 0), (.slice none 0 0), (.int .i64 0), (.int .u64 0), (.slice none 0 0), (.slice none 0 0)], [(0, 41), (41, 1), (42, 1), (43, 1), (44, 1)]) := by kernel_rfl
@[go_sem ↓] theorem xBuild_98 (ps : List (Nat × Value)) (K : Value → Prop) : xBuild Tryz.prog 98 ps.toArray K = xFill [(.int .u64 0), (.int .u64 0), (.int .u64 0), (.int .u64 0), (.int .u64 0), (.int .u64 0), (.int .u64 0), (.int .u64 0), (.int .u64 0), (.int .u64 0), (.int .u64 0), (.int .u64 0), (.int .u64 0), (.int .u64 0), (.int .i64 0), (.int .i64 0), (.int .i64 0), (.int .i64 0), (.int .i64 0), (.int .i64 0), (.int .i64 0), (.int .i64 0), (.int .i64 0), (.int .i64 0), (.int .u64 0), (.int .u64 0), (.int .u64 0), (.int .u64 0), (.int .u64 0), (.int .i64 0), (.int .i64 0), (.bool false), (.slice none 0 0), (.slice none 0 0), (.slice none 0 0), (.slice none 0 0), (.slice none 0 0), (.slice none 0 0), (.slice none 0 0), (.slice none 0 0), (.slice none 0 0), (.int .i64 0), (.int .u64 0), (.slice none 0 0), (.slice none 0 0)] [(0, 41), (41, 1), (42, 1), (43, 1), (44, 1)] ps fun z' => K (.agg z'.toArray) := xBuild_of bP_98 ps K
theorem bP_136 : bPl Tryz.prog 136 = some ([(.slice none 0 0)], [(0, 1)]) := by kernel_rfl
@[go_sem ↓] theorem xBuild_136 (ps : List (Nat × Value)) (K : Value → Prop) : xBuild Tryz.prog 136 ps.toArray K = xFill [(.slice none 0 0)] [(0, 1)] ps fun z' => K (.agg z'.toArray) := xBuild_of bP_136 ps K
theorem bP_145 : bPl Tryz.prog 145 = some ([(.int .i64 0), (.int .u64 0)], [(0, 1), (1, 1)]) := by kernel_rfl
@[go_sem ↓] theorem xBuild_145 (ps : List (Nat × Value)) (K : Value → Prop) : xBuild Tryz.prog 145 ps.toArray K = xFill [(.int .i64 0), (.int .u64 0)] [(0, 1), (1, 1)] ps fun z' => K (.agg z'.toArray) := xBuild_of bP_145 ps K
theorem bP_158 : bPl Tryz.prog 158 = some ([(.int .u64 0), (.int .u64 0), (.int .u64 0), (.int .u64 0), (.int .u64 0), (.int .u64 0), (.int .u64 0), (.int .u64 0), (.int .u64 0), (.int .u64 0), (.int .u64 0), (.int .u64 0), (.int .u64 0), (.int .u64 0), (.int .i64 0), (.int .i64 0), (.int .i64 0), (.int .i64 0), (.int .i64 0), (.int .i64 0), (.int .i64 0), (.int .i64 0), (.int .i64 0), (.int .i64 0), (.int .u64 0), (.int .u64 0), (.int .u64 0), (.int .u64 0), (.int .u64 0), (.int .i64 0), (.int .i64 0), (.bool false), (.slice none 0 0), (.slice none 0 0), (.slice none 0 0), (.slice none 0 0), (.slice none 0 0), (.slice none 0 0), (.slice none 0 0), (.slice none 0 0), (.slice none 0 0)], [(0, 41)]) := by kernel_rfl
@[go_sem ↓] theorem xBuild_158 (ps : List (Nat × Value)) (K : Value → Prop) : xBuild Tryz.prog 158 ps.toArray K = xFill [(.int .u64 0), (.int .u64 0), (.int .u64 0), (.int .u64 0), (.int .u64 0), (.int .u64 0), (.int .u64 0), (.int .u64 0), (.int .u64 0), (.int .u64 0), (.int .u64 0), (.int .u64 0), (.int .u64 0), (.int .u64 0), (.int .i64 0), (.int .i64 0), (.int .i64 0), (.int .i64 0), (.int .i64 0), (.int .i64 0), (.int .i64 0), (.int .i64 0), (.int .i64 0), (.int .i64 0), (.int .u64 0), (.int .u64 0), (.int .u64 0), (.int .u64 0), (.int .u64 0), (.int .i64 0), (.int .i64 0), (.bool false), (.slice none 0 0), (.slice none 0 0), (.slice none 0 0), (.slice none 0 0), (.slice none 0 0), (.slice none 0 0), (.slice none 0 0), (.slice none 0 0), (.slice none 0 0)] [(0, 41)] ps fun z' => K (.agg z'.toArray) := xBuild_of bP_158 ps K
theorem bP_166 : bPl Tryz.prog 166 = some ([(.int .i64 0), (.int .i64 0), (.int .u64 0)], [(0, 1), (1, 1), (2, 1)]) := by kernel_rfl
@[go_sem ↓] theorem xBuild_166 (ps : List (Nat × Value)) (K : Value → Prop) : xBuild Tryz.prog 166 ps.toArray K = xFill [(.int .i64 0), (.int .i64 0), (.int .u64 0)] [(0, 1), (1, 1), (2, 1)] ps fun z' => K (.agg z'.toArray) := xBuild_of bP_166 ps K
theorem bP_237 : bPl Tryz.prog 237 = some ([(.int .u64 0), (.int .u64 0), (.int .u64 0), (.int .u64 0), (.int .u64 0)], [(0, 1), (1, 1), (2, 1), (3, 1), (4, 1)]) := by kernel_rfl
@[go_sem ↓] theorem xBuild_237 (ps : List (Nat × Value)) (K : Value → Prop) : xBuild Tryz.prog 237 ps.toArray K = xFill [(.int .u64 0), (.int .u64 0), (.int .u64 0), (.int .u64 0), (.int .u64 0)] [(0, 1), (1, 1), (2, 1), (3, 1), (4, 1)] ps fun z' => K (.agg z'.toArray) := xBuild_of bP_237 ps K
theorem bP_288 : bPl Tryz.prog 288 = some ([(.int .u64 0), (.int .u64 0), (.int .u64 0), (.int .i64 0), (.int .u64 0), (.int .u64 0), (.int .u64 0), (.int .u64 0), (.int .u64 0), (.int .u64 0), (.int .u64 0), (.int .u64 0), (.int .u64 0), (.int .u64 0), (.int .u64 0), (.int .u64 0), (.int .u64 0), (.int .u64 0), (.int .i64 0), (.int .i64 0), (.int .i64 0), (.int .i64 0), (.int .i64 0), (.int .i64 0), (.int .i64 0), (.int .i64 0), (.int .i64 0), (.int .i64 0)], [(0, 4), (4, 24)]) := by kernel_rfl
@[go_sem ↓] theorem xBuild_288 (ps : List (Nat × Value)) (K : Value → Prop) : xBuild Tryz.prog 288 ps.toArray K = xFill [(.int .u64 0), (.int .u64 0), (.int .u64 0), (.int .i64 0), (.int .u64 0), (.int .u64 0), (.int .u64 0), (.int .u64 0), (.int .u64 0), (.int .u64 0), (.int .u64 0), (.int .u64 0), (.int .u64 0), (.int .u64 0), (.int .u64 0), (.int .u64 0), (.int .u64 0), (.int .u64 0), (.int .i64 0), (.int .i64 0), (.int .i64 0), (.int .i64 0), (.int .i64 0), (.int .i64 0), (.int .i64 0), (.int .i64 0), (.int .i64 0), (.int .i64 0)] [(0, 4), (4, 24)] ps fun z' => K (.agg z'.toArray) := xBuild_of bP_288 ps K
theorem bP_299 : bPl Tryz.prog 299 = some ([(.slice none 0 0)], [(0, 1)]) := by kernel_rfl
@[go_sem ↓] theorem xBuild_299 (ps : List (Nat × Value)) (K : Value → Prop) : xBuild Tryz.prog 299 ps.toArray K = xFill [(.slice none 0 0)] [(0, 1)] ps fun z' => K (.agg z'.toArray) := xBuild_of bP_299 ps K
theorem bP_313 : bPl Tryz.prog 313 = some ([(.int .u64 0), (.int .u64 0), (.int .u64 0), (.int .u64 0), (.int .u64 0), (.int .u64 0), (.int .u64 0), (.int .u64 0), (.int .u64 0), (.int .u64 0), (.int .u64 0), (.int .u64 0), (.int .u64 0), (.int .u64 0), (.int .i64 0), (.int .i64 0), (.int .i64 0), (.int .i64 0), (.int .i64 0), (.int .i64 0), (.int .i64 0), (.int .i64 0), (.int .i64 0), (.int .i64 0)], [(0, 24)]) := by kernel_rfl
@[go_sem ↓] theorem xBuild_313 (ps : List (Nat × Value)) (K : Value → Prop) : xBuild Tryz.prog 313 ps.toArray K = xFill [(.int .u64 0), (.int .u64 0), (.int .u64 0), (.int .u64 0), (.int .u64 0), (.int .u64 0), (.int .u64 0), (.int .u64 0), (.int .u64 0), (.int .u64 0), (.int .u64 0), (.int .u64 0), (.int .u64 0), (.int .u64 0), (.int .i64 0), (.int .i64 0), (.int .i64 0), (.int .i64 0), (.int .i64 0), (.int .i64 0), (.int .i64 0), (.int .i64 0), (.int .i64 0), (.int .i64 0)] [(0, 24)] ps fun z' => K (.agg z'.toArray) := xBuild_of bP_313 ps K
theorem bP_319 : bPl Tryz.prog 319 = some ([(.int .u64 0), (.int .u64 0), (.int .u64 0), (.int .i64 0), (.int .i64 0), (.int .i64 0)], [(0, 6)]) := by kernel_rfl
@[go_sem ↓] theorem xBuild_319 (ps : List (Nat × Value)) (K : Value → Prop) : xBuild Tryz.prog 319 ps.toArray K = xFill [(.int .u64 0), (.int .u64 0), (.int .u64 0), (.int .i64 0), (.int .i64 0), (.int .i64 0)] [(0, 6)] ps fun z' => K (.agg z'.toArray) := xBuild_of bP_319 ps K
theorem bP_353 : bPl Tryz.prog 353 = some ([(.int .u64 0), (.int .u64 0), (.int .u64 0), (.int .i64 0), (.int .u64 0), (.int .u64 0), (.int .u64 0), (.int .u64 0), (.int .u64 0), (.int .u64 0), (.int .u64 0), (.int .u64 0), (.int .u64 0), (.int .u64 0), (.int .u64 0), (.int .u64 0), (.int .u64 0), (.int .u64 0), (.int .i64 0), (.int .i64 0), (.int .i64 0), (.int .i64 0), (.int .i64 0), (.int .i64 0), (.int .i64 0), (.int .i64 0), (.int .i64 0), (.int .i64 0), (.int .i64 0)], [(0, 4), (4, 24), (28, 1)]) := by kernel_rfl
@[go_sem ↓] theorem xBuild_353 (ps : List (Nat × Value)) (K : Value → Prop) : xBuild Tryz.prog 353 ps.toArray K = xFill [(.int .u64 0), (.int .u64 0), (.int .u64 0), (.int .i64 0), (.int .u64 0), (.int .u64 0), (.int .u64 0), (.int .u64 0), (.int .u64 0), (.int .u64 0), (.int .u64 0), (.int .u64 0), (.int .u64 0), (.int .u64 0), (.int .u64 0), (.int .u64 0), (.int .u64 0), (.int .u64 0), (.int .i64 0), (.int .i64 0), (.int .i64 0), (.int .i64 0), (.int .i64 0), (.int .i64 0), (.int .i64 0), (.int .i64 0), (.int .i64 0), (.int .i64 0), (.int .i64 0)] [(0, 4), (4, 24), (28, 1)] ps fun z' => K (.agg z'.toArray) := xBuild_of bP_353 ps K
theorem bP_361 : bPl Tryz.prog 361 = some ([(.int .u64 0), (.int .u64 0)], [(0, 1), (1, 1)]) := by kernel_rfl
@[go_sem ↓] theorem xBuild_361 (ps : List (Nat × Value)) (K : Value → Prop) : xBuild Tryz.prog 361 ps.toArray K = xFill [(.int .u64 0), (.int .u64 0)] [(0, 1), (1, 1)] ps fun z' => K (.agg z'.toArray) := xBuild_of bP_361 ps K
theorem bP_385 : bPl Tryz.prog 385 = some ([(.int .u64 0), (.int .u64 0), (.int .u64 0)], [(0, 2), (2, 1)]) := by kernel_rfl
@[go_sem ↓] theorem xBuild_385 (ps : List (Nat × Value)) (K : Value → Prop) : xBuild Tryz.prog 385 ps.toArray K = xFill [(.int .u64 0), (.int .u64 0), (.int .u64 0)] [(0, 2), (2, 1)] ps fun z' => K (.agg z'.toArray) := xBuild_of bP_385 ps K
theorem bS_25_0 : bSl Tryz.prog 25 0 = some (22, [], []) := by kernel_rfl
@[go_sem ↓] theorem xBS_25_0 (ps : List (Nat × Value)) (K : TypeId → List Value → Prop) : xBS Tryz.prog 25 0 ps.toArray K = xFill [] [] ps fun cs => K 22 cs := xBS_of bS_25_0 ps K
theorem bS_25_1 : bSl Tryz.prog 25 1 = some (22, [(.int .u64 0)], [(0, 1)]) := by kernel_rfl
@[go_sem ↓] theorem xBS_25_1 (ps : List (Nat × Value)) (K : TypeId → List Value → Prop) : xBS Tryz.prog 25 1 ps.toArray K = xFill [(.int .u64 0)] [(0, 1)] ps fun cs => K 22 cs := xBS_of bS_25_1 ps K
theorem bS_25_2 : bSl Tryz.prog 25 2 = some (22, [(.int .u64 0), (.int .u64 0)], [(0, 1), (1, 1)]) := by kernel_rfl
@[go_sem ↓] theorem xBS_25_2 (ps : List (Nat × Value)) (K : TypeId → List Value → Prop) : xBS Tryz.prog 25 2 ps.toArray K = xFill [(.int .u64 0), (.int .u64 0)] [(0, 1), (1, 1)] ps fun cs => K 22 cs := xBS_of bS_25_2 ps K
theorem bS_25_5 : bSl Tryz.prog 25 5 = some (22, [(.int .u64 0), (.int .u64 0), (.int .u64 0), (.int .u64 0), (.int .u64 0)], [(0, 1), (1, 1), (2, 1), (3, 1), (4, 1)]) := by kernel_rfl
@[go_sem ↓] theorem xBS_25_5 (ps : List (Nat × Value)) (K : TypeId → List Value → Prop) : xBS Tryz.prog 25 5 ps.toArray K = xFill [(.int .u64 0), (.int .u64 0), (.int .u64 0), (.int .u64 0), (.int .u64 0)] [(0, 1), (1, 1), (2, 1), (3, 1), (4, 1)] ps fun cs => K 22 cs := xBS_of bS_25_5 ps K
theorem bS_26_1 : bSl Tryz.prog 26 1 = some (91, [(.int .u64 0), (.int .u64 0), (.int .u64 0), (.int .i64 0), (.int .i64 0), (.int .i64 0)], [(0, 6)]) := by kernel_rfl
@[go_sem ↓] theorem xBS_26_1 (ps : List (Nat × Value)) (K : TypeId → List Value → Prop) : xBS Tryz.prog 26 1 ps.toArray K = xFill [(.int .u64 0), (.int .u64 0), (.int .u64 0), (.int .i64 0), (.int .i64 0), (.int .i64 0)] [(0, 6)] ps fun cs => K 91 cs := xBS_of bS_26_1 ps K
theorem bS_27_1 : bSl Tryz.prog 27 1 = some (3, [(.int .i64 0)], [(0, 1)]) := by kernel_rfl
@[go_sem ↓] theorem xBS_27_1 (ps : List (Nat × Value)) (K : TypeId → List Value → Prop) : xBS Tryz.prog 27 1 ps.toArray K = xFill [(.int .i64 0)] [(0, 1)] ps fun cs => K 3 cs := xBS_of bS_27_1 ps K
theorem bS_28_0 : bSl Tryz.prog 28 0 = some (163, [], []) := by kernel_rfl
@[go_sem ↓] theorem xBS_28_0 (ps : List (Nat × Value)) (K : TypeId → List Value → Prop) : xBS Tryz.prog 28 0 ps.toArray K = xFill [] [] ps fun cs => K 163 cs := xBS_of bS_28_0 ps K
theorem bS_28_1 : bSl Tryz.prog 28 1 = some (163, [(.int .i64 0), (.int .i64 0), (.int .u64 0), (.bool false)], [(0, 4)]) := by kernel_rfl
@[go_sem ↓] theorem xBS_28_1 (ps : List (Nat × Value)) (K : TypeId → List Value → Prop) : xBS Tryz.prog 28 1 ps.toArray K = xFill [(.int .i64 0), (.int .i64 0), (.int .u64 0), (.bool false)] [(0, 4)] ps fun cs => K 163 cs := xBS_of bS_28_1 ps K
theorem bS_37_1 : bSl Tryz.prog 37 1 = some (42, [(.int .i64 0), (.bool false), (.int .u64 0), (.int .u64 0), (.int .u64 0), (.int .u64 0), (.int .i64 0), (.int .u64 0)], [(0, 8)]) := by kernel_rfl
@[go_sem ↓] theorem xBS_37_1 (ps : List (Nat × Value)) (K : TypeId → List Value → Prop) : xBS Tryz.prog 37 1 ps.toArray K = xFill [(.int .i64 0), (.bool false), (.int .u64 0), (.int .u64 0), (.int .u64 0), (.int .u64 0), (.int .i64 0), (.int .u64 0)] [(0, 8)] ps fun cs => K 42 cs := xBS_of bS_37_1 ps K
theorem bS_45_1 : bSl Tryz.prog 45 1 = some (56, [(.int .i64 0), (.bool false), (.int .u64 0), (.int .u64 0), (.int .u64 0), (.int .u64 0), (.int .i64 0), (.int .u64 0)], [(0, 8)]) := by kernel_rfl
@[go_sem ↓] theorem xBS_45_1 (ps : List (Nat × Value)) (K : TypeId → List Value → Prop) : xBS Tryz.prog 45 1 ps.toArray K = xFill [(.int .i64 0), (.bool false), (.int .u64 0), (.int .u64 0), (.int .u64 0), (.int .u64 0), (.int .i64 0), (.int .u64 0)] [(0, 8)] ps fun cs => K 56 cs := xBS_of bS_45_1 ps K
theorem bS_64_2 : bSl Tryz.prog 64 2 = some (145, [(.int .i64 0), (.int .u64 0), (.int .i64 0), (.int .u64 0)], [(0, 2), (2, 2)]) := by kernel_rfl
@[go_sem ↓] theorem xBS_64_2 (ps : List (Nat × Value)) (K : TypeId → List Value → Prop) : xBS Tryz.prog 64 2 ps.toArray K = xFill [(.int .i64 0), (.int .u64 0), (.int .i64 0), (.int .u64 0)] [(0, 2), (2, 2)] ps fun cs => K 145 cs := xBS_of bS_64_2 ps K
theorem bS_96_1 : bSl Tryz.prog 96 1 = some (89, [(.int .u64 0), (.int .u64 0), (.int .u64 0), (.int .i64 0)], [(0, 4)]) := by kernel_rfl
@[go_sem ↓] theorem xBS_96_1 (ps : List (Nat × Value)) (K : TypeId → List Value → Prop) : xBS Tryz.prog 96 1 ps.toArray K = xFill [(.int .u64 0), (.int .u64 0), (.int .u64 0), (.int .i64 0)] [(0, 4)] ps fun cs => K 89 cs := xBS_of bS_96_1 ps K
theorem bS_131_5 : bSl Tryz.prog 131 5 = some (130, [.nilFunc, .nilFunc, .nilFunc, .nilFunc, .nilFunc], [(0, 1), (1, 1), (2, 1), (3, 1), (4, 1)]) := by kernel_rfl
@[go_sem ↓] theorem xBS_131_5 (ps : List (Nat × Value)) (K : TypeId → List Value → Prop) : xBS Tryz.prog 131 5 ps.toArray K = xFill [.nilFunc, .nilFunc, .nilFunc, .nilFunc, .nilFunc] [(0, 1), (1, 1), (2, 1), (3, 1), (4, 1)] ps fun cs => K 130 cs := xBS_of bS_131_5 ps K
theorem bS_324_2 : bSl Tryz.prog 324 2 = some (38, [(.int .i64 0), (.int .i64 0)], [(0, 1), (1, 1)]) := by kernel_rfl
@[go_sem ↓] theorem xBS_324_2 (ps : List (Nat × Value)) (K : TypeId → List Value → Prop) : xBS Tryz.prog 324 2 ps.toArray K = xFill [(.int .i64 0), (.int .i64 0)] [(0, 1), (1, 1)] ps fun cs => K 38 cs := xBS_of bS_324_2 ps K
theorem bS_324_4 : bSl Tryz.prog 324 4 = some (38, [(.int .i64 0), (.int .i64 0), (.int .i64 0), (.int .i64 0)], [(0, 1), (1, 1), (2, 1), (3, 1)]) := by kernel_rfl
@[go_sem ↓] theorem xBS_324_4 (ps : List (Nat × Value)) (K : TypeId → List Value → Prop) : xBS Tryz.prog 324 4 ps.toArray K = xFill [(.int .i64 0), (.int .i64 0), (.int .i64 0), (.int .i64 0)] [(0, 1), (1, 1), (2, 1), (3, 1)] ps fun cs => K 38 cs := xBS_of bS_324_4 ps K
theorem bS_359_6 : bSl Tryz.prog 359 6 = some (4, [(.bool false), (.bool false), (.bool false), (.bool false), (.bool false), (.bool false)], [(0, 1), (1, 1), (2, 1), (3, 1), (4, 1), (5, 1)]) := by kernel_rfl
@[go_sem ↓] theorem xBS_359_6 (ps : List (Nat × Value)) (K : TypeId → List Value → Prop) : xBS Tryz.prog 359 6 ps.toArray K = xFill [(.bool false), (.bool false), (.bool false), (.bool false), (.bool false), (.bool false)] [(0, 1), (1, 1), (2, 1), (3, 1), (4, 1), (5, 1)] ps fun cs => K 4 cs := xBS_of bS_359_6 ps K
theorem bS_359_7 : bSl Tryz.prog 359 7 = some (4, [(.bool false), (.bool false), (.bool false), (.bool false), (.bool false), (.bool false), (.bool false)], [(0, 1), (1, 1), (2, 1), (3, 1), (4, 1), (5, 1), (6, 1)]) := by kernel_rfl
@[go_sem ↓] theorem xBS_359_7 (ps : List (Nat × Value)) (K : TypeId → List Value → Prop) : xBS Tryz.prog 359 7 ps.toArray K = xFill [(.bool false), (.bool false), (.bool false), (.bool false), (.bool false), (.bool false), (.bool false)] [(0, 1), (1, 1), (2, 1), (3, 1), (4, 1), (5, 1), (6, 1)] ps fun cs => K 4 cs := xBS_of bS_359_7 ps K
theorem bS_359_12 : bSl Tryz.prog 359 12 = some (4, [(.bool false), (.bool false), (.bool false), (.bool false), (.bool false), (.bool false), (.bool false), (.bool false), (.bool false), (.bool false), (.bool false), (.bool false)], [(0, 1), (1, 1), (2, 1), (3, 1), (4, 1), (5, 1), (6, 1), (7, 1), (8, 1), (9, 1), (10, 1), (11, 1)]) := by kernel_rfl
@[go_sem ↓] theorem xBS_359_12 (ps : List (Nat × Value)) (K : TypeId → List Value → Prop) : xBS Tryz.prog 359 12 ps.toArray K = xFill [(.bool false), (.bool false), (.bool false), (.bool false), (.bool false), (.bool false), (.bool false), (.bool false), (.bool false), (.bool false), (.bool false), (.bool false)] [(0, 1), (1, 1), (2, 1), (3, 1), (4, 1), (5, 1), (6, 1), (7, 1), (8, 1), (9, 1), (10, 1), (11, 1)] ps fun cs => K 4 cs := xBS_of bS_359_12 ps K
theorem fO_24_0 : fOff Tryz.prog 24 0 = some 0 := by kernel_rfl
@[go_sem ↓] theorem xFO_24_0 (K : Nat → Prop) : xFO Tryz.prog 24 0 K = K 0 := xFO_of fO_24_0 K
theorem fO_24_1 : fOff Tryz.prog 24 1 = some 1 := by kernel_rfl
@[go_sem ↓] theorem xFO_24_1 (K : Nat → Prop) : xFO Tryz.prog 24 1 K = K 1 := xFO_of fO_24_1 K
theorem fO_24_2 : fOff Tryz.prog 24 2 = some 2 := by kernel_rfl
@[go_sem ↓] theorem xFO_24_2 (K : Nat → Prop) : xFO Tryz.prog 24 2 K = K 2 := xFO_of fO_24_2 K
theorem fO_24_3 : fOff Tryz.prog 24 3 = some 3 := by kernel_rfl
@[go_sem ↓] theorem xFO_24_3 (K : Nat → Prop) : xFO Tryz.prog 24 3 K = K 3 := xFO_of fO_24_3 K
theorem fO_24_4 : fOff Tryz.prog 24 4 = some 4 := by kernel_rfl
@[go_sem ↓] theorem xFO_24_4 (K : Nat → Prop) : xFO Tryz.prog 24 4 K = K 4 := xFO_of fO_24_4 K
theorem fO_24_5 : fOff Tryz.prog 24 5 = some 5 := by kernel_rfl
@[go_sem ↓] theorem xFO_24_5 (K : Nat → Prop) : xFO Tryz.prog 24 5 K = K 5 := xFO_of fO_24_5 K
theorem fO_24_6 : fOff Tryz.prog 24 6 = some 6 := by kernel_rfl
@[go_sem ↓] theorem xFO_24_6 (K : Nat → Prop) : xFO Tryz.prog 24 6 K = K 6 := xFO_of fO_24_6 K
theorem fO_24_7 : fOff Tryz.prog 24 7 = some 7 := by kernel_rfl
@[go_sem ↓] theorem xFO_24_7 (K : Nat → Prop) : xFO Tryz.prog 24 7 K = K 7 := xFO_of fO_24_7 K
theorem fO_24_8 : fOff Tryz.prog 24 8 = some 8 := by kernel_rfl
@[go_sem ↓] theorem xFO_24_8 (K : Nat → Prop) : xFO Tryz.prog 24 8 K = K 8 := xFO_of fO_24_8 K
theorem fO_24_9 : fOff Tryz.prog 24 9 = some 9 := by kernel_rfl
@[go_sem ↓] theorem xFO_24_9 (K : Nat → Prop) : xFO Tryz.prog 24 9 K = K 9 := xFO_of fO_24_9 K
theorem fO_24_10 : fOff Tryz.prog 24 10 = some 10 := by kernel_rfl
@[go_sem ↓] theorem xFO_24_10 (K : Nat → Prop) : xFO Tryz.prog 24 10 K = K 10 := xFO_of fO_24_10 K
theorem fO_24_11 : fOff Tryz.prog 24 11 = some 11 := by kernel_rfl
@[go_sem ↓] theorem xFO_24_11 (K : Nat → Prop) : xFO Tryz.prog 24 11 K = K 11 := xFO_of fO_24_11 K
theorem fO_24_12 : fOff Tryz.prog 24 12 = some 12 := by kernel_rfl
@[go_sem ↓] theorem xFO_24_12 (K : Nat → Prop) : xFO Tryz.prog 24 12 K = K 12 := xFO_of fO_24_12 K
theorem fO_24_13 : fOff Tryz.prog 24 13 = some 13 := by kernel_rfl
@[go_sem ↓] theorem xFO_24_13 (K : Nat → Prop) : xFO Tryz.prog 24 13 K = K 13 := xFO_of fO_24_13 K
theorem fO_24_14 : fOff Tryz.prog 24 14 = some 14 := by kernel_rfl
@[go_sem ↓] theorem xFO_24_14 (K : Nat → Prop) : xFO Tryz.prog 24 14 K = K 14 := xFO_of fO_24_14 K
theorem fO_24_15 : fOff Tryz.prog 24 15 = some 15 := by kernel_rfl
@[go_sem ↓] theorem xFO_24_15 (K : Nat → Prop) : xFO Tryz.prog 24 15 K = K 15 := xFO_of fO_24_15 K
theorem fO_24_16 : fOff Tryz.prog 24 16 = some 16 := by kernel_rfl
@[go_sem ↓] theorem xFO_24_16 (K : Nat → Prop) : xFO Tryz.prog 24 16 K = K 16 := xFO_of fO_24_16 K
theorem fO_24_17 : fOff Tryz.prog 24 17 = some 17 := by kernel_rfl
@[go_sem ↓] theorem xFO_24_17 (K : Nat → Prop) : xFO Tryz.prog 24 17 K = K 17 := xFO_of fO_24_17 K
theorem fO_24_18 : fOff Tryz.prog 24 18 = some 18 := by kernel_rfl
@[go_sem ↓] theorem xFO_24_18 (K : Nat → Prop) : xFO Tryz.prog 24 18 K = K 18 := xFO_of fO_24_18 K
theorem fO_24_19 : fOff Tryz.prog 24 19 = some 19 := by kernel_rfl
@[go_sem ↓] theorem xFO_24_19 (K : Nat → Prop) : xFO Tryz.prog 24 19 K = K 19 := xFO_of fO_24_19 K
theorem fO_24_20 : fOff Tryz.prog 24 20 = some 20 := by kernel_rfl
@[go_sem ↓] theorem xFO_24_20 (K : Nat → Prop) : xFO Tryz.prog 24 20 K = K 20 := xFO_of fO_24_20 K
theorem fO_24_21 : fOff Tryz.prog 24 21 = some 21 := by kernel_rfl
@[go_sem ↓] theorem xFO_24_21 (K : Nat → Prop) : xFO Tryz.prog 24 21 K = K 21 := xFO_of fO_24_21 K
theorem fO_24_22 : fOff Tryz.prog 24 22 = some 22 := by kernel_rfl
@[go_sem ↓] theorem xFO_24_22 (K : Nat → Prop) : xFO Tryz.prog 24 22 K = K 22 := xFO_of fO_24_22 K
theorem fO_24_23 : fOff Tryz.prog 24 23 = some 23 := by kernel_rfl
@[go_sem ↓] theorem xFO_24_23 (K : Nat → Prop) : xFO Tryz.prog 24 23 K = K 23 := xFO_of fO_24_23 K
theorem fO_34_0 : fOff Tryz.prog 34 0 = some 0 := by kernel_rfl
@[go_sem ↓] theorem xFO_34_0 (K : Nat → Prop) : xFO Tryz.prog 34 0 K = K 0 := xFO_of fO_34_0 K
theorem fO_34_1 : fOff Tryz.prog 34 1 = some 24 := by kernel_rfl
@[go_sem ↓] theorem xFO_34_1 (K : Nat → Prop) : xFO Tryz.prog 34 1 K = K 24 := xFO_of fO_34_1 K
theorem fO_34_2 : fOff Tryz.prog 34 2 = some 25 := by kernel_rfl
@[go_sem ↓] theorem xFO_34_2 (K : Nat → Prop) : xFO Tryz.prog 34 2 K = K 25 := xFO_of fO_34_2 K
theorem fO_34_3 : fOff Tryz.prog 34 3 = some 26 := by kernel_rfl
@[go_sem ↓] theorem xFO_34_3 (K : Nat → Prop) : xFO Tryz.prog 34 3 K = K 26 := xFO_of fO_34_3 K
theorem fO_34_4 : fOff Tryz.prog 34 4 = some 27 := by kernel_rfl
@[go_sem ↓] theorem xFO_34_4 (K : Nat → Prop) : xFO Tryz.prog 34 4 K = K 27 := xFO_of fO_34_4 K
theorem fO_34_5 : fOff Tryz.prog 34 5 = some 28 := by kernel_rfl
@[go_sem ↓] theorem xFO_34_5 (K : Nat → Prop) : xFO Tryz.prog 34 5 K = K 28 := xFO_of fO_34_5 K
theorem fO_34_6 : fOff Tryz.prog 34 6 = some 29 := by kernel_rfl
@[go_sem ↓] theorem xFO_34_6 (K : Nat → Prop) : xFO Tryz.prog 34 6 K = K 29 := xFO_of fO_34_6 K
theorem fO_34_7 : fOff Tryz.prog 34 7 = some 30 := by kernel_rfl
@[go_sem ↓] theorem xFO_34_7 (K : Nat → Prop) : xFO Tryz.prog 34 7 K = K 30 := xFO_of fO_34_7 K
theorem fO_34_8 : fOff Tryz.prog 34 8 = some 31 := by kernel_rfl
@[go_sem ↓] theorem xFO_34_8 (K : Nat → Prop) : xFO Tryz.prog 34 8 K = K 31 := xFO_of fO_34_8 K
theorem fO_34_9 : fOff Tryz.prog 34 9 = some 32 := by kernel_rfl
@[go_sem ↓] theorem xFO_34_9 (K : Nat → Prop) : xFO Tryz.prog 34 9 K = K 32 := xFO_of fO_34_9 K
theorem fO_34_10 : fOff Tryz.prog 34 10 = some 33 := by kernel_rfl
@[go_sem ↓] theorem xFO_34_10 (K : Nat → Prop) : xFO Tryz.prog 34 10 K = K 33 := xFO_of fO_34_10 K
theorem fO_34_11 : fOff Tryz.prog 34 11 = some 34 := by kernel_rfl
@[go_sem ↓] theorem xFO_34_11 (K : Nat → Prop) : xFO Tryz.prog 34 11 K = K 34 := xFO_of fO_34_11 K
theorem fO_34_12 : fOff Tryz.prog 34 12 = some 35 := by kernel_rfl
@[go_sem ↓] theorem xFO_34_12 (K : Nat → Prop) : xFO Tryz.prog 34 12 K = K 35 := xFO_of fO_34_12 K
theorem fO_34_13 : fOff Tryz.prog 34 13 = some 36 := by kernel_rfl
@[go_sem ↓] theorem xFO_34_13 (K : Nat → Prop) : xFO Tryz.prog 34 13 K = K 36 := xFO_of fO_34_13 K
theorem fO_34_14 : fOff Tryz.prog 34 14 = some 37 := by kernel_rfl
@[go_sem ↓] theorem xFO_34_14 (K : Nat → Prop) : xFO Tryz.prog 34 14 K = K 37 := xFO_of fO_34_14 K
theorem fO_34_15 : fOff Tryz.prog 34 15 = some 38 := by kernel_rfl
@[go_sem ↓] theorem xFO_34_15 (K : Nat → Prop) : xFO Tryz.prog 34 15 K = K 38 := xFO_of fO_34_15 K
theorem fO_34_16 : fOff Tryz.prog 34 16 = some 39 := by kernel_rfl
@[go_sem ↓] theorem xFO_34_16 (K : Nat → Prop) : xFO Tryz.prog 34 16 K = K 39 := xFO_of fO_34_16 K
theorem fO_34_17 : fOff Tryz.prog 34 17 = some 40 := by kernel_rfl
@[go_sem ↓] theorem xFO_34_17 (K : Nat → Prop) : xFO Tryz.prog 34 17 K = K 40 := xFO_of fO_34_17 K
theorem fO_42_0 : fOff Tryz.prog 42 0 = some 0 := by kernel_rfl
@[go_sem ↓] theorem xFO_42_0 (K : Nat → Prop) : xFO Tryz.prog 42 0 K = K 0 := xFO_of fO_42_0 K
theorem fO_42_1 : fOff Tryz.prog 42 1 = some 1 := by kernel_rfl
@[go_sem ↓] theorem xFO_42_1 (K : Nat → Prop) : xFO Tryz.prog 42 1 K = K 1 := xFO_of fO_42_1 K
theorem fO_42_2 : fOff Tryz.prog 42 2 = some 2 := by kernel_rfl
@[go_sem ↓] theorem xFO_42_2 (K : Nat → Prop) : xFO Tryz.prog 42 2 K = K 2 := xFO_of fO_42_2 K
theorem fO_42_3 : fOff Tryz.prog 42 3 = some 3 := by kernel_rfl
@[go_sem ↓] theorem xFO_42_3 (K : Nat → Prop) : xFO Tryz.prog 42 3 K = K 3 := xFO_of fO_42_3 K
theorem fO_42_4 : fOff Tryz.prog 42 4 = some 4 := by kernel_rfl
@[go_sem ↓] theorem xFO_42_4 (K : Nat → Prop) : xFO Tryz.prog 42 4 K = K 4 := xFO_of fO_42_4 K
theorem fO_42_5 : fOff Tryz.prog 42 5 = some 5 := by kernel_rfl
@[go_sem ↓] theorem xFO_42_5 (K : Nat → Prop) : xFO Tryz.prog 42 5 K = K 5 := xFO_of fO_42_5 K
theorem fO_42_6 : fOff Tryz.prog 42 6 = some 6 := by kernel_rfl
@[go_sem ↓] theorem xFO_42_6 (K : Nat → Prop) : xFO Tryz.prog 42 6 K = K 6 := xFO_of fO_42_6 K
theorem fO_42_7 : fOff Tryz.prog 42 7 = some 7 := by kernel_rfl
@[go_sem ↓] theorem xFO_42_7 (K : Nat → Prop) : xFO Tryz.prog 42 7 K = K 7 := xFO_of fO_42_7 K
theorem fO_56_2 : fOff Tryz.prog 56 2 = some 2 := by kernel_rfl
@[go_sem ↓] theorem xFO_56_2 (K : Nat → Prop) : xFO Tryz.prog 56 2 K = K 2 := xFO_of fO_56_2 K
theorem fO_56_3 : fOff Tryz.prog 56 3 = some 3 := by kernel_rfl
@[go_sem ↓] theorem xFO_56_3 (K : Nat → Prop) : xFO Tryz.prog 56 3 K = K 3 := xFO_of fO_56_3 K
theorem fO_56_4 : fOff Tryz.prog 56 4 = some 4 := by kernel_rfl
@[go_sem ↓] theorem xFO_56_4 (K : Nat → Prop) : xFO Tryz.prog 56 4 K = K 4 := xFO_of fO_56_4 K
theorem fO_56_5 : fOff Tryz.prog 56 5 = some 5 := by kernel_rfl
@[go_sem ↓] theorem xFO_56_5 (K : Nat → Prop) : xFO Tryz.prog 56 5 K = K 5 := xFO_of fO_56_5 K
theorem fO_56_7 : fOff Tryz.prog 56 7 = some 7 := by kernel_rfl
@[go_sem ↓] theorem xFO_56_7 (K : Nat → Prop) : xFO Tryz.prog 56 7 K = K 7 := xFO_of fO_56_7 K
theorem fO_66_0 : fOff Tryz.prog 66 0 = some 0 := by kernel_rfl
@[go_sem ↓] theorem xFO_66_0 (K : Nat → Prop) : xFO Tryz.prog 66 0 K = K 0 := xFO_of fO_66_0 K
theorem fO_66_1 : fOff Tryz.prog 66 1 = some 24 := by kernel_rfl
@[go_sem ↓] theorem xFO_66_1 (K : Nat → Prop) : xFO Tryz.prog 66 1 K = K 24 := xFO_of fO_66_1 K
theorem fO_66_2 : fOff Tryz.prog 66 2 = some 25 := by kernel_rfl
@[go_sem ↓] theorem xFO_66_2 (K : Nat → Prop) : xFO Tryz.prog 66 2 K = K 25 := xFO_of fO_66_2 K
theorem fO_66_3 : fOff Tryz.prog 66 3 = some 26 := by kernel_rfl
@[go_sem ↓] theorem xFO_66_3 (K : Nat → Prop) : xFO Tryz.prog 66 3 K = K 26 := xFO_of fO_66_3 K
theorem fO_89_0 : fOff Tryz.prog 89 0 = some 0 := by kernel_rfl
@[go_sem ↓] theorem xFO_89_0 (K : Nat → Prop) : xFO Tryz.prog 89 0 K = K 0 := xFO_of fO_89_0 K
theorem fO_89_1 : fOff Tryz.prog 89 1 = some 1 := by kernel_rfl
@[go_sem ↓] theorem xFO_89_1 (K : Nat → Prop) : xFO Tryz.prog 89 1 K = K 1 := xFO_of fO_89_1 K
theorem fO_89_2 : fOff Tryz.prog 89 2 = some 2 := by kernel_rfl
@[go_sem ↓] theorem xFO_89_2 (K : Nat → Prop) : xFO Tryz.prog 89 2 K = K 2 := xFO_of fO_89_2 K
theorem fO_89_3 : fOff Tryz.prog 89 3 = some 3 := by kernel_rfl
@[go_sem ↓] theorem xFO_89_3 (K : Nat → Prop) : xFO Tryz.prog 89 3 K = K 3 := xFO_of fO_89_3 K
theorem fO_91_0 : fOff Tryz.prog 91 0 = some 0 := by kernel_rfl
@[go_sem ↓] theorem xFO_91_0 (K : Nat → Prop) : xFO Tryz.prog 91 0 K = K 0 := xFO_of fO_91_0 K
theorem fO_91_1 : fOff Tryz.prog 91 1 = some 4 := by kernel_rfl
@[go_sem ↓] theorem xFO_91_1 (K : Nat → Prop) : xFO Tryz.prog 91 1 K = K 4 := xFO_of fO_91_1 K
theorem fO_91_2 : fOff Tryz.prog 91 2 = some 5 := by kernel_rfl
@[go_sem ↓] theorem xFO_91_2 (K : Nat → Prop) : xFO Tryz.prog 91 2 K = K 5 := xFO_of fO_91_2 K
theorem fO_93_0 : fOff Tryz.prog 93 0 = some 0 := by kernel_rfl
@[go_sem ↓] theorem xFO_93_0 (K : Nat → Prop) : xFO Tryz.prog 93 0 K = K 0 := xFO_of fO_93_0 K
theorem fO_93_1 : fOff Tryz.prog 93 1 = some 1 := by kernel_rfl
@[go_sem ↓] theorem xFO_93_1 (K : Nat → Prop) : xFO Tryz.prog 93 1 K = K 1 := xFO_of fO_93_1 K
theorem fO_93_2 : fOff Tryz.prog 93 2 = some 2 := by kernel_rfl
@[go_sem ↓] theorem xFO_93_2 (K : Nat → Prop) : xFO Tryz.prog 93 2 K = K 2 := xFO_of fO_93_2 K
theorem fO_93_3 : fOff Tryz.prog 93 3 = some 26 := by kernel_rfl
@[go_sem ↓] theorem xFO_93_3 (K : Nat → Prop) : xFO Tryz.prog 93 3 K = K 26 := xFO_of fO_93_3 K
theorem fO_93_4 : fOff Tryz.prog 93 4 = some 27 := by kernel_rfl
@[go_sem ↓] theorem xFO_93_4 (K : Nat → Prop) : xFO Tryz.prog 93 4 K = K 27 := xFO_of fO_93_4 K
theorem fO_93_5 : fOff Tryz.prog 93 5 = some 28 := by kernel_rfl
@[go_sem ↓] theorem xFO_93_5 (K : Nat → Prop) : xFO Tryz.prog 93 5 K = K 28 := xFO_of fO_93_5 K
theorem fO_93_6 : fOff Tryz.prog 93 6 = some 29 := by kernel_rfl
@[go_sem ↓] theorem xFO_93_6 (K : Nat → Prop) : xFO Tryz.prog 93 6 K = K 29 := xFO_of fO_93_6 K
theorem fO_93_7 : fOff Tryz.prog 93 7 = some 30 := by kernel_rfl
@[go_sem ↓] theorem xFO_93_7 (K : Nat → Prop) : xFO Tryz.prog 93 7 K = K 30 := xFO_of fO_93_7 K
theorem fO_93_8 : fOff Tryz.prog 93 8 = some 31 := by kernel_rfl
@[go_sem ↓] theorem xFO_93_8 (K : Nat → Prop) : xFO Tryz.prog 93 8 K = K 31 := xFO_of fO_93_8 K
theorem fO_93_9 : fOff Tryz.prog 93 9 = some 32 := by kernel_rfl
@[go_sem ↓] theorem xFO_93_9 (K : Nat → Prop) : xFO Tryz.prog 93 9 K = K 32 := xFO_of fO_93_9 K
theorem fO_98_0 : fOff Tryz.prog 98 0 = some 0 := by kernel_rfl
@[go_sem ↓] theorem xFO_98_0 (K : Nat → Prop) : xFO Tryz.prog 98 0 K = K 0 := xFO_of fO_98_0 K
theorem fO_98_1 : fOff Tryz.prog 98 1 = some 41 := by kernel_rfl
@[go_sem ↓] theorem xFO_98_1 (K : Nat → Prop) : xFO Tryz.prog 98 1 K = K 41 := xFO_of fO_98_1 K
theorem fO_98_2 : fOff Tryz.prog 98 2 = some 42 := by kernel_rfl
@[go_sem ↓] theorem xFO_98_2 (K : Nat → Prop) : xFO Tryz.prog 98 2 K = K 42 := xFO_of fO_98_2 K
theorem fO_98_3 : fOff Tryz.prog 98 3 = some 43 := by kernel_rfl
@[go_sem ↓] theorem xFO_98_3 (K : Nat → Prop) : xFO Tryz.prog 98 3 K = K 43 := xFO_of fO_98_3 K
theorem fO_98_4 : fOff Tryz.prog 98 4 = some 44 := by kernel_rfl
@[go_sem ↓] theorem xFO_98_4 (K : Nat → Prop) : xFO Tryz.prog 98 4 K = K 44 := xFO_of fO_98_4 K
theorem fO_136_0 : fOff Tryz.prog 136 0 = some 0 := by kernel_rfl
@[go_sem ↓] theorem xFO_136_0 (K : Nat → Prop) : xFO Tryz.prog 136 0 K = K 0 := xFO_of fO_136_0 K
theorem fO_145_0 : fOff Tryz.prog 145 0 = some 0 := by kernel_rfl
@[go_sem ↓] theorem xFO_145_0 (K : Nat → Prop) : xFO Tryz.prog 145 0 K = K 0 := xFO_of fO_145_0 K
theorem fO_145_1 : fOff Tryz.prog 145 1 = some 1 := by kernel_rfl
@[go_sem ↓] theorem xFO_145_1 (K : Nat → Prop) : xFO Tryz.prog 145 1 K = K 1 := xFO_of fO_145_1 K
theorem fO_158_0 : fOff Tryz.prog 158 0 = some 0 := by kernel_rfl
@[go_sem ↓] theorem xFO_158_0 (K : Nat → Prop) : xFO Tryz.prog 158 0 K = K 0 := xFO_of fO_158_0 K
theorem fO_163_0 : fOff Tryz.prog 163 0 = some 0 := by kernel_rfl
@[go_sem ↓] theorem xFO_163_0 (K : Nat → Prop) : xFO Tryz.prog 163 0 K = K 0 := xFO_of fO_163_0 K
theorem fO_163_1 : fOff Tryz.prog 163 1 = some 1 := by kernel_rfl
@[go_sem ↓] theorem xFO_163_1 (K : Nat → Prop) : xFO Tryz.prog 163 1 K = K 1 := xFO_of fO_163_1 K
theorem fO_163_2 : fOff Tryz.prog 163 2 = some 2 := by kernel_rfl
@[go_sem ↓] theorem xFO_163_2 (K : Nat → Prop) : xFO Tryz.prog 163 2 K = K 2 := xFO_of fO_163_2 K
theorem fO_163_3 : fOff Tryz.prog 163 3 = some 3 := by kernel_rfl
@[go_sem ↓] theorem xFO_163_3 (K : Nat → Prop) : xFO Tryz.prog 163 3 K = K 3 := xFO_of fO_163_3 K
theorem fO_166_0 : fOff Tryz.prog 166 0 = some 0 := by kernel_rfl
@[go_sem ↓] theorem xFO_166_0 (K : Nat → Prop) : xFO Tryz.prog 166 0 K = K 0 := xFO_of fO_166_0 K
theorem fO_166_1 : fOff Tryz.prog 166 1 = some 1 := by kernel_rfl
@[go_sem ↓] theorem xFO_166_1 (K : Nat → Prop) : xFO Tryz.prog 166 1 K = K 1 := xFO_of fO_166_1 K
theorem fO_166_2 : fOff Tryz.prog 166 2 = some 2 := by kernel_rfl
@[go_sem ↓] theorem xFO_166_2 (K : Nat → Prop) : xFO Tryz.prog 166 2 K = K 2 := xFO_of fO_166_2 K
theorem fO_237_0 : fOff Tryz.prog 237 0 = some 0 := by kernel_rfl
@[go_sem ↓] theorem xFO_237_0 (K : Nat → Prop) : xFO Tryz.prog 237 0 K = K 0 := xFO_of fO_237_0 K
theorem fO_237_1 : fOff Tryz.prog 237 1 = some 1 := by kernel_rfl
@[go_sem ↓] theorem xFO_237_1 (K : Nat → Prop) : xFO Tryz.prog 237 1 K = K 1 := xFO_of fO_237_1 K
theorem fO_237_2 : fOff Tryz.prog 237 2 = some 2 := by kernel_rfl
@[go_sem ↓] theorem xFO_237_2 (K : Nat → Prop) : xFO Tryz.prog 237 2 K = K 2 := xFO_of fO_237_2 K
theorem fO_237_3 : fOff Tryz.prog 237 3 = some 3 := by kernel_rfl
@[go_sem ↓] theorem xFO_237_3 (K : Nat → Prop) : xFO Tryz.prog 237 3 K = K 3 := xFO_of fO_237_3 K
theorem fO_237_4 : fOff Tryz.prog 237 4 = some 4 := by kernel_rfl
@[go_sem ↓] theorem xFO_237_4 (K : Nat → Prop) : xFO Tryz.prog 237 4 K = K 4 := xFO_of fO_237_4 K
theorem fO_288_0 : fOff Tryz.prog 288 0 = some 0 := by kernel_rfl
@[go_sem ↓] theorem xFO_288_0 (K : Nat → Prop) : xFO Tryz.prog 288 0 K = K 0 := xFO_of fO_288_0 K
theorem fO_288_1 : fOff Tryz.prog 288 1 = some 4 := by kernel_rfl
@[go_sem ↓] theorem xFO_288_1 (K : Nat → Prop) : xFO Tryz.prog 288 1 K = K 4 := xFO_of fO_288_1 K
theorem fO_297_0 : fOff Tryz.prog 297 0 = some 0 := by kernel_rfl
@[go_sem ↓] theorem xFO_297_0 (K : Nat → Prop) : xFO Tryz.prog 297 0 K = K 0 := xFO_of fO_297_0 K
theorem fO_299_0 : fOff Tryz.prog 299 0 = some 0 := by kernel_rfl
@[go_sem ↓] theorem xFO_299_0 (K : Nat → Prop) : xFO Tryz.prog 299 0 K = K 0 := xFO_of fO_299_0 K
theorem fO_313_0 : fOff Tryz.prog 313 0 = some 0 := by kernel_rfl
@[go_sem ↓] theorem xFO_313_0 (K : Nat → Prop) : xFO Tryz.prog 313 0 K = K 0 := xFO_of fO_313_0 K
theorem fO_319_0 : fOff Tryz.prog 319 0 = some 0 := by kernel_rfl
@[go_sem ↓] theorem xFO_319_0 (K : Nat → Prop) : xFO Tryz.prog 319 0 K = K 0 := xFO_of fO_319_0 K
theorem fO_353_0 : fOff Tryz.prog 353 0 = some 0 := by kernel_rfl
@[go_sem ↓] theorem xFO_353_0 (K : Nat → Prop) : xFO Tryz.prog 353 0 K = K 0 := xFO_of fO_353_0 K
theorem fO_353_1 : fOff Tryz.prog 353 1 = some 4 := by kernel_rfl
@[go_sem ↓] theorem xFO_353_1 (K : Nat → Prop) : xFO Tryz.prog 353 1 K = K 4 := xFO_of fO_353_1 K
theorem fO_353_2 : fOff Tryz.prog 353 2 = some 28 := by kernel_rfl
@[go_sem ↓] theorem xFO_353_2 (K : Nat → Prop) : xFO Tryz.prog 353 2 K = K 28 := xFO_of fO_353_2 K
theorem fO_361_0 : fOff Tryz.prog 361 0 = some 0 := by kernel_rfl
@[go_sem ↓] theorem xFO_361_0 (K : Nat → Prop) : xFO Tryz.prog 361 0 K = K 0 := xFO_of fO_361_0 K
theorem fO_361_1 : fOff Tryz.prog 361 1 = some 1 := by kernel_rfl
@[go_sem ↓] theorem xFO_361_1 (K : Nat → Prop) : xFO Tryz.prog 361 1 K = K 1 := xFO_of fO_361_1 K
theorem fO_385_0 : fOff Tryz.prog 385 0 = some 0 := by kernel_rfl
@[go_sem ↓] theorem xFO_385_0 (K : Nat → Prop) : xFO Tryz.prog 385 0 K = K 0 := xFO_of fO_385_0 K
theorem fO_385_1 : fOff Tryz.prog 385 1 = some 2 := by kernel_rfl
@[go_sem ↓] theorem xFO_385_1 (K : Nat → Prop) : xFO Tryz.prog 385 1 K = K 2 := xFO_of fO_385_1 K
@[go_sem] theorem tSh_25 : tSh Tryz.prog 25 = .sl 22 1 8 := by kernel_rfl
@[go_sem] theorem tSh_26 : tSh Tryz.prog 26 = .sl 91 6 48 := by kernel_rfl
@[go_sem] theorem tSh_27 : tSh Tryz.prog 27 = .sl 3 1 8 := by kernel_rfl
@[go_sem] theorem tSh_28 : tSh Tryz.prog 28 = .sl 163 4 32 := by kernel_rfl
@[go_sem] theorem tSh_29 : tSh Tryz.prog 29 = .sl 166 3 24 := by kernel_rfl
@[go_sem] theorem tSh_30 : tSh Tryz.prog 30 = .sl 93 33 296 := by kernel_rfl
@[go_sem] theorem tSh_31 : tSh Tryz.prog 31 = .sl 5 1 1 := by kernel_rfl
@[go_sem] theorem tSh_32 : tSh Tryz.prog 32 = .sl 31 1 24 := by kernel_rfl
@[go_sem] theorem tSh_37 : tSh Tryz.prog 37 = .sl 42 8 64 := by kernel_rfl
@[go_sem] theorem tSh_45 : tSh Tryz.prog 45 = .sl 56 8 64 := by kernel_rfl
@[go_sem] theorem tSh_49 : tSh Tryz.prog 49 = .sl 110 6 48 := by kernel_rfl
@[go_sem] theorem tSh_50 : tSh Tryz.prog 50 = .sl 218 4 32 := by kernel_rfl
@[go_sem] theorem tSh_51 : tSh Tryz.prog 51 = .sl 219 3 24 := by kernel_rfl
@[go_sem] theorem tSh_52 : tSh Tryz.prog 52 = .sl 185 33 296 := by kernel_rfl
@[go_sem] theorem tSh_64 : tSh Tryz.prog 64 = .sl 145 2 16 := by kernel_rfl
@[go_sem] theorem tSh_72 : tSh Tryz.prog 72 = .sl 151 2 16 := by kernel_rfl
@[go_sem] theorem tSh_96 : tSh Tryz.prog 96 = .sl 89 4 32 := by kernel_rfl
@[go_sem] theorem tSh_106 : tSh Tryz.prog 106 = .sl 108 4 32 := by kernel_rfl
@[go_sem] theorem tSh_129 : tSh Tryz.prog 129 = .ar 5 22 1 := by kernel_rfl
@[go_sem] theorem tSh_131 : tSh Tryz.prog 131 = .sl 130 1 8 := by kernel_rfl
@[go_sem] theorem tSh_134 : tSh Tryz.prog 134 = .sl 136 1 24 := by kernel_rfl
@[go_sem] theorem tSh_284 : tSh Tryz.prog 284 = .sl 5 1 1 := by kernel_rfl
@[go_sem] theorem tSh_324 : tSh Tryz.prog 324 = .sl 38 1 8 := by kernel_rfl
@[go_sem] theorem tSh_359 : tSh Tryz.prog 359 = .sl 4 1 1 := by kernel_rfl
@[go_sem ↓] theorem xSlh_25 (a : Option Addr) (n c : Nat) (k : IntKind) (j : Int) (h0 : 0 ≤ j) (h1 : j ≤ (c : Int)) (K : Value → Prop) : xSl Tryz.prog 25 (.slice a n c) none (some (.int k j)) none K = K (.slice a j.toNat c) := xSl_hi tSh_25 a n c k j h0 h1 K
@[go_sem ↓] theorem xSlh_27 (a : Option Addr) (n c : Nat) (k : IntKind) (j : Int) (h0 : 0 ≤ j) (h1 : j ≤ (c : Int)) (K : Value → Prop) : xSl Tryz.prog 27 (.slice a n c) none (some (.int k j)) none K = K (.slice a j.toNat c) := xSl_hi tSh_27 a n c k j h0 h1 K
@[go_sem ↓] theorem xBeq_25 (x y : Operand) (a : Option Addr) (n c : Nat) (K : Value → Prop) : xBin Tryz.prog .eql 25 x y (.slice a n c) (.slice none 0 0) K = K (.bool a.isNone) := xBin_eqnil tSh_25 x y a n c K
@[go_sem ↓] theorem xBne_25 (x y : Operand) (a : Option Addr) (n c : Nat) (K : Value → Prop) : xBin Tryz.prog .neq 25 x y (.slice a n c) (.slice none 0 0) K = K (.bool (!a.isNone)) := xBin_nenil tSh_25 x y a n c K
@[go_sem ↓] theorem xBeq_26 (x y : Operand) (a : Option Addr) (n c : Nat) (K : Value → Prop) : xBin Tryz.prog .eql 26 x y (.slice a n c) (.slice none 0 0) K = K (.bool a.isNone) := xBin_eqnil tSh_26 x y a n c K
@[go_sem ↓] theorem xBne_26 (x y : Operand) (a : Option Addr) (n c : Nat) (K : Value → Prop) : xBin Tryz.prog .neq 26 x y (.slice a n c) (.slice none 0 0) K = K (.bool (!a.isNone)) := xBin_nenil tSh_26 x y a n c K
@[go_sem ↓] theorem xBeq_27 (x y : Operand) (a : Option Addr) (n c : Nat) (K : Value → Prop) : xBin Tryz.prog .eql 27 x y (.slice a n c) (.slice none 0 0) K = K (.bool a.isNone) := xBin_eqnil tSh_27 x y a n c K
@[go_sem ↓] theorem xBne_27 (x y : Operand) (a : Option Addr) (n c : Nat) (K : Value → Prop) : xBin Tryz.prog .neq 27 x y (.slice a n c) (.slice none 0 0) K = K (.bool (!a.isNone)) := xBin_nenil tSh_27 x y a n c K
@[go_sem ↓] theorem xBeq_28 (x y : Operand) (a : Option Addr) (n c : Nat) (K : Value → Prop) : xBin Tryz.prog .eql 28 x y (.slice a n c) (.slice none 0 0) K = K (.bool a.isNone) := xBin_eqnil tSh_28 x y a n c K
@[go_sem ↓] theorem xBne_28 (x y : Operand) (a : Option Addr) (n c : Nat) (K : Value → Prop) : xBin Tryz.prog .neq 28 x y (.slice a n c) (.slice none 0 0) K = K (.bool (!a.isNone)) := xBin_nenil tSh_28 x y a n c K
@[go_sem ↓] theorem xBeq_29 (x y : Operand) (a : Option Addr) (n c : Nat) (K : Value → Prop) : xBin Tryz.prog .eql 29 x y (.slice a n c) (.slice none 0 0) K = K (.bool a.isNone) := xBin_eqnil tSh_29 x y a n c K
@[go_sem ↓] theorem xBne_29 (x y : Operand) (a : Option Addr) (n c : Nat) (K : Value → Prop) : xBin Tryz.prog .neq 29 x y (.slice a n c) (.slice none 0 0) K = K (.bool (!a.isNone)) := xBin_nenil tSh_29 x y a n c K
@[go_sem ↓] theorem xBeq_30 (x y : Operand) (a : Option Addr) (n c : Nat) (K : Value → Prop) : xBin Tryz.prog .eql 30 x y (.slice a n c) (.slice none 0 0) K = K (.bool a.isNone) := xBin_eqnil tSh_30 x y a n c K
@[go_sem ↓] theorem xBne_30 (x y : Operand) (a : Option Addr) (n c : Nat) (K : Value → Prop) : xBin Tryz.prog .neq 30 x y (.slice a n c) (.slice none 0 0) K = K (.bool (!a.isNone)) := xBin_nenil tSh_30 x y a n c K
@[go_sem ↓] theorem xBeq_31 (x y : Operand) (a : Option Addr) (n c : Nat) (K : Value → Prop) : xBin Tryz.prog .eql 31 x y (.slice a n c) (.slice none 0 0) K = K (.bool a.isNone) := xBin_eqnil tSh_31 x y a n c K
@[go_sem ↓] theorem xBne_31 (x y : Operand) (a : Option Addr) (n c : Nat) (K : Value → Prop) : xBin Tryz.prog .neq 31 x y (.slice a n c) (.slice none 0 0) K = K (.bool (!a.isNone)) := xBin_nenil tSh_31 x y a n c K
@[go_sem ↓] theorem xBeq_32 (x y : Operand) (a : Option Addr) (n c : Nat) (K : Value → Prop) : xBin Tryz.prog .eql 32 x y (.slice a n c) (.slice none 0 0) K = K (.bool a.isNone) := xBin_eqnil tSh_32 x y a n c K
@[go_sem ↓] theorem xBne_32 (x y : Operand) (a : Option Addr) (n c : Nat) (K : Value → Prop) : xBin Tryz.prog .neq 32 x y (.slice a n c) (.slice none 0 0) K = K (.bool (!a.isNone)) := xBin_nenil tSh_32 x y a n c K
@[go_sem ↓] theorem xBeq_37 (x y : Operand) (a : Option Addr) (n c : Nat) (K : Value → Prop) : xBin Tryz.prog .eql 37 x y (.slice a n c) (.slice none 0 0) K = K (.bool a.isNone) := xBin_eqnil tSh_37 x y a n c K
@[go_sem ↓] theorem xBne_37 (x y : Operand) (a : Option Addr) (n c : Nat) (K : Value → Prop) : xBin Tryz.prog .neq 37 x y (.slice a n c) (.slice none 0 0) K = K (.bool (!a.isNone)) := xBin_nenil tSh_37 x y a n c K
@[go_sem ↓] theorem xBeq_45 (x y : Operand) (a : Option Addr) (n c : Nat) (K : Value → Prop) : xBin Tryz.prog .eql 45 x y (.slice a n c) (.slice none 0 0) K = K (.bool a.isNone) := xBin_eqnil tSh_45 x y a n c K
@[go_sem ↓] theorem xBne_45 (x y : Operand) (a : Option Addr) (n c : Nat) (K : Value → Prop) : xBin Tryz.prog .neq 45 x y (.slice a n c) (.slice none 0 0) K = K (.bool (!a.isNone)) := xBin_nenil tSh_45 x y a n c K
@[go_sem ↓] theorem xBeq_49 (x y : Operand) (a : Option Addr) (n c : Nat) (K : Value → Prop) : xBin Tryz.prog .eql 49 x y (.slice a n c) (.slice none 0 0) K = K (.bool a.isNone) := xBin_eqnil tSh_49 x y a n c K
@[go_sem ↓] theorem xBne_49 (x y : Operand) (a : Option Addr) (n c : Nat) (K : Value → Prop) : xBin Tryz.prog .neq 49 x y (.slice a n c) (.slice none 0 0) K = K (.bool (!a.isNone)) := xBin_nenil tSh_49 x y a n c K
@[go_sem ↓] theorem xBeq_50 (x y : Operand) (a : Option Addr) (n c : Nat) (K : Value → Prop) : xBin Tryz.prog .eql 50 x y (.slice a n c) (.slice none 0 0) K = K (.bool a.isNone) := xBin_eqnil tSh_50 x y a n c K
@[go_sem ↓] theorem xBne_50 (x y : Operand) (a : Option Addr) (n c : Nat) (K : Value → Prop) : xBin Tryz.prog .neq 50 x y (.slice a n c) (.slice none 0 0) K = K (.bool (!a.isNone)) := xBin_nenil tSh_50 x y a n c K
@[go_sem ↓] theorem xBeq_51 (x y : Operand) (a : Option Addr) (n c : Nat) (K : Value → Prop) : xBin Tryz.prog .eql 51 x y (.slice a n c) (.slice none 0 0) K = K (.bool a.isNone) := xBin_eqnil tSh_51 x y a n c K
@[go_sem ↓] theorem xBne_51 (x y : Operand) (a : Option Addr) (n c : Nat) (K : Value → Prop) : xBin Tryz.prog .neq 51 x y (.slice a n c) (.slice none 0 0) K = K (.bool (!a.isNone)) := xBin_nenil tSh_51 x y a n c K
@[go_sem ↓] theorem xBeq_52 (x y : Operand) (a : Option Addr) (n c : Nat) (K : Value → Prop) : xBin Tryz.prog .eql 52 x y (.slice a n c) (.slice none 0 0) K = K (.bool a.isNone) := xBin_eqnil tSh_52 x y a n c K
@[go_sem ↓] theorem xBne_52 (x y : Operand) (a : Option Addr) (n c : Nat) (K : Value → Prop) : xBin Tryz.prog .neq 52 x y (.slice a n c) (.slice none 0 0) K = K (.bool (!a.isNone)) := xBin_nenil tSh_52 x y a n c K
@[go_sem ↓] theorem xBeq_64 (x y : Operand) (a : Option Addr) (n c : Nat) (K : Value → Prop) : xBin Tryz.prog .eql 64 x y (.slice a n c) (.slice none 0 0) K = K (.bool a.isNone) := xBin_eqnil tSh_64 x y a n c K
@[go_sem ↓] theorem xBne_64 (x y : Operand) (a : Option Addr) (n c : Nat) (K : Value → Prop) : xBin Tryz.prog .neq 64 x y (.slice a n c) (.slice none 0 0) K = K (.bool (!a.isNone)) := xBin_nenil tSh_64 x y a n c K
@[go_sem ↓] theorem xBeq_72 (x y : Operand) (a : Option Addr) (n c : Nat) (K : Value → Prop) : xBin Tryz.prog .eql 72 x y (.slice a n c) (.slice none 0 0) K = K (.bool a.isNone) := xBin_eqnil tSh_72 x y a n c K
@[go_sem ↓] theorem xBne_72 (x y : Operand) (a : Option Addr) (n c : Nat) (K : Value → Prop) : xBin Tryz.prog .neq 72 x y (.slice a n c) (.slice none 0 0) K = K (.bool (!a.isNone)) := xBin_nenil tSh_72 x y a n c K
@[go_sem ↓] theorem xBeq_96 (x y : Operand) (a : Option Addr) (n c : Nat) (K : Value → Prop) : xBin Tryz.prog .eql 96 x y (.slice a n c) (.slice none 0 0) K = K (.bool a.isNone) := xBin_eqnil tSh_96 x y a n c K
@[go_sem ↓] theorem xBne_96 (x y : Operand) (a : Option Addr) (n c : Nat) (K : Value → Prop) : xBin Tryz.prog .neq 96 x y (.slice a n c) (.slice none 0 0) K = K (.bool (!a.isNone)) := xBin_nenil tSh_96 x y a n c K
@[go_sem ↓] theorem xBeq_106 (x y : Operand) (a : Option Addr) (n c : Nat) (K : Value → Prop) : xBin Tryz.prog .eql 106 x y (.slice a n c) (.slice none 0 0) K = K (.bool a.isNone) := xBin_eqnil tSh_106 x y a n c K
@[go_sem ↓] theorem xBne_106 (x y : Operand) (a : Option Addr) (n c : Nat) (K : Value → Prop) : xBin Tryz.prog .neq 106 x y (.slice a n c) (.slice none 0 0) K = K (.bool (!a.isNone)) := xBin_nenil tSh_106 x y a n c K
@[go_sem ↓] theorem xBeq_131 (x y : Operand) (a : Option Addr) (n c : Nat) (K : Value → Prop) : xBin Tryz.prog .eql 131 x y (.slice a n c) (.slice none 0 0) K = K (.bool a.isNone) := xBin_eqnil tSh_131 x y a n c K
@[go_sem ↓] theorem xBne_131 (x y : Operand) (a : Option Addr) (n c : Nat) (K : Value → Prop) : xBin Tryz.prog .neq 131 x y (.slice a n c) (.slice none 0 0) K = K (.bool (!a.isNone)) := xBin_nenil tSh_131 x y a n c K
@[go_sem ↓] theorem xBeq_134 (x y : Operand) (a : Option Addr) (n c : Nat) (K : Value → Prop) : xBin Tryz.prog .eql 134 x y (.slice a n c) (.slice none 0 0) K = K (.bool a.isNone) := xBin_eqnil tSh_134 x y a n c K
@[go_sem ↓] theorem xBne_134 (x y : Operand) (a : Option Addr) (n c : Nat) (K : Value → Prop) : xBin Tryz.prog .neq 134 x y (.slice a n c) (.slice none 0 0) K = K (.bool (!a.isNone)) := xBin_nenil tSh_134 x y a n c K
@[go_sem ↓] theorem xBeq_284 (x y : Operand) (a : Option Addr) (n c : Nat) (K : Value → Prop) : xBin Tryz.prog .eql 284 x y (.slice a n c) (.slice none 0 0) K = K (.bool a.isNone) := xBin_eqnil tSh_284 x y a n c K
@[go_sem ↓] theorem xBne_284 (x y : Operand) (a : Option Addr) (n c : Nat) (K : Value → Prop) : xBin Tryz.prog .neq 284 x y (.slice a n c) (.slice none 0 0) K = K (.bool (!a.isNone)) := xBin_nenil tSh_284 x y a n c K
@[go_sem ↓] theorem xBeq_324 (x y : Operand) (a : Option Addr) (n c : Nat) (K : Value → Prop) : xBin Tryz.prog .eql 324 x y (.slice a n c) (.slice none 0 0) K = K (.bool a.isNone) := xBin_eqnil tSh_324 x y a n c K
@[go_sem ↓] theorem xBne_324 (x y : Operand) (a : Option Addr) (n c : Nat) (K : Value → Prop) : xBin Tryz.prog .neq 324 x y (.slice a n c) (.slice none 0 0) K = K (.bool (!a.isNone)) := xBin_nenil tSh_324 x y a n c K
@[go_sem ↓] theorem xBeq_359 (x y : Operand) (a : Option Addr) (n c : Nat) (K : Value → Prop) : xBin Tryz.prog .eql 359 x y (.slice a n c) (.slice none 0 0) K = K (.bool a.isNone) := xBin_eqnil tSh_359 x y a n c K
@[go_sem ↓] theorem xBne_359 (x y : Operand) (a : Option Addr) (n c : Nat) (K : Value → Prop) : xBin Tryz.prog .neq 359 x y (.slice a n c) (.slice none 0 0) K = K (.bool (!a.isNone)) := xBin_nenil tSh_359 x y a n c K
@[go_sem ↓] theorem xPeq_15 (x y : Operand) (a : Option Addr) (K : Value → Prop) : xBin Tryz.prog .eql 15 x y (.pointer a) (.pointer none) K = K (.bool a.isNone) := xBin_eqpnil (T := 15) (e := 397) (by kernel_rfl) x y a K
@[go_sem ↓] theorem xPne_15 (x y : Operand) (a : Option Addr) (K : Value → Prop) : xBin Tryz.prog .neq 15 x y (.pointer a) (.pointer none) K = K (.bool (!a.isNone)) := xBin_nepnil (T := 15) (e := 397) (by kernel_rfl) x y a K
@[go_sem ↓] theorem xPeq_16 (x y : Operand) (a : Option Addr) (K : Value → Prop) : xBin Tryz.prog .eql 16 x y (.pointer a) (.pointer none) K = K (.bool a.isNone) := xBin_eqpnil (T := 16) (e := 400) (by kernel_rfl) x y a K
@[go_sem ↓] theorem xPne_16 (x y : Operand) (a : Option Addr) (K : Value → Prop) : xBin Tryz.prog .neq 16 x y (.pointer a) (.pointer none) K = K (.bool (!a.isNone)) := xBin_nepnil (T := 16) (e := 400) (by kernel_rfl) x y a K
@[go_sem ↓] theorem xPeq_17 (x y : Operand) (a : Option Addr) (K : Value → Prop) : xBin Tryz.prog .eql 17 x y (.pointer a) (.pointer none) K = K (.bool a.isNone) := xBin_eqpnil (T := 17) (e := 410) (by kernel_rfl) x y a K
@[go_sem ↓] theorem xPne_17 (x y : Operand) (a : Option Addr) (K : Value → Prop) : xBin Tryz.prog .neq 17 x y (.pointer a) (.pointer none) K = K (.bool (!a.isNone)) := xBin_nepnil (T := 17) (e := 410) (by kernel_rfl) x y a K
@[go_sem ↓] theorem xPeq_95 (x y : Operand) (a : Option Addr) (K : Value → Prop) : xBin Tryz.prog .eql 95 x y (.pointer a) (.pointer none) K = K (.bool a.isNone) := xBin_eqpnil (T := 95) (e := 98) (by kernel_rfl) x y a K
@[go_sem ↓] theorem xPne_95 (x y : Operand) (a : Option Addr) (K : Value → Prop) : xBin Tryz.prog .neq 95 x y (.pointer a) (.pointer none) K = K (.bool (!a.isNone)) := xBin_nepnil (T := 95) (e := 98) (by kernel_rfl) x y a K
@[go_sem ↓] theorem xPeq_199 (x y : Operand) (a : Option Addr) (K : Value → Prop) : xBin Tryz.prog .eql 199 x y (.pointer a) (.pointer none) K = K (.bool a.isNone) := xBin_eqpnil (T := 199) (e := 42) (by kernel_rfl) x y a K
@[go_sem ↓] theorem xPne_199 (x y : Operand) (a : Option Addr) (K : Value → Prop) : xBin Tryz.prog .neq 199 x y (.pointer a) (.pointer none) K = K (.bool (!a.isNone)) := xBin_nepnil (T := 199) (e := 42) (by kernel_rfl) x y a K
@[go_sem ↓] theorem xPeq_204 (x y : Operand) (a : Option Addr) (K : Value → Prop) : xBin Tryz.prog .eql 204 x y (.pointer a) (.pointer none) K = K (.bool a.isNone) := xBin_eqpnil (T := 204) (e := 299) (by kernel_rfl) x y a K
@[go_sem ↓] theorem xPne_204 (x y : Operand) (a : Option Addr) (K : Value → Prop) : xBin Tryz.prog .neq 204 x y (.pointer a) (.pointer none) K = K (.bool (!a.isNone)) := xBin_nepnil (T := 204) (e := 299) (by kernel_rfl) x y a K
@[go_sem ↓] theorem xPeq_244 (x y : Operand) (a : Option Addr) (K : Value → Prop) : xBin Tryz.prog .eql 244 x y (.pointer a) (.pointer none) K = K (.bool a.isNone) := xBin_eqpnil (T := 244) (e := 91) (by kernel_rfl) x y a K
@[go_sem ↓] theorem xPne_244 (x y : Operand) (a : Option Addr) (K : Value → Prop) : xBin Tryz.prog .neq 244 x y (.pointer a) (.pointer none) K = K (.bool (!a.isNone)) := xBin_nepnil (T := 244) (e := 91) (by kernel_rfl) x y a K
@[go_sem ↓] theorem xPeq_286 (x y : Operand) (a : Option Addr) (K : Value → Prop) : xBin Tryz.prog .eql 286 x y (.pointer a) (.pointer none) K = K (.bool a.isNone) := xBin_eqpnil (T := 286) (e := 288) (by kernel_rfl) x y a K
@[go_sem ↓] theorem xPne_286 (x y : Operand) (a : Option Addr) (K : Value → Prop) : xBin Tryz.prog .neq 286 x y (.pointer a) (.pointer none) K = K (.bool (!a.isNone)) := xBin_nepnil (T := 286) (e := 288) (by kernel_rfl) x y a K
@[go_sem ↓] theorem xPeq_356 (x y : Operand) (a : Option Addr) (K : Value → Prop) : xBin Tryz.prog .eql 356 x y (.pointer a) (.pointer none) K = K (.bool a.isNone) := xBin_eqpnil (T := 356) (e := 297) (by kernel_rfl) x y a K
@[go_sem ↓] theorem xPne_356 (x y : Operand) (a : Option Addr) (K : Value → Prop) : xBin Tryz.prog .neq 356 x y (.pointer a) (.pointer none) K = K (.bool (!a.isNone)) := xBin_nepnil (T := 356) (e := 297) (by kernel_rfl) x y a K
@[go_sem ↓] theorem xSlm_25 (a : Option Addr) (n c : Nat) (k l : IntKind) (i j : Int) (h0 : 0 ≤ i) (h1 : i ≤ j) (h2 : j ≤ (c : Int)) (K : Value → Prop) : xSl Tryz.prog 25 (.slice a n c) (some (.int k i)) (some (.int l j)) none K = K (.slice (cutA a c i.toNat 1) (j.toNat - i.toNat) (c - i.toNat)) := xSl_mid tSh_25 a n c k l i j h0 h1 h2 K
@[go_sem ↓] theorem xSlm_27 (a : Option Addr) (n c : Nat) (k l : IntKind) (i j : Int) (h0 : 0 ≤ i) (h1 : i ≤ j) (h2 : j ≤ (c : Int)) (K : Value → Prop) : xSl Tryz.prog 27 (.slice a n c) (some (.int k i)) (some (.int l j)) none K = K (.slice (cutA a c i.toNat 1) (j.toNat - i.toNat) (c - i.toNat)) := xSl_mid tSh_27 a n c k l i j h0 h1 h2 K
@[go_sem ↓] theorem xLen_25 (ty : Nat) (a : Option Addr) (n c : Nat) (K : Value → Prop) : xLen Tryz.prog ty #[25] (.slice a n c) K = K (.int .i64 n) := xLen_slice (T := 25) (e := 22) (by kernel_rfl) a n c
@[go_sem ↓] theorem xLen_26 (ty : Nat) (a : Option Addr) (n c : Nat) (K : Value → Prop) : xLen Tryz.prog ty #[26] (.slice a n c) K = K (.int .i64 n) := xLen_slice (T := 26) (e := 91) (by kernel_rfl) a n c
@[go_sem ↓] theorem xLen_27 (ty : Nat) (a : Option Addr) (n c : Nat) (K : Value → Prop) : xLen Tryz.prog ty #[27] (.slice a n c) K = K (.int .i64 n) := xLen_slice (T := 27) (e := 3) (by kernel_rfl) a n c
@[go_sem ↓] theorem xLen_28 (ty : Nat) (a : Option Addr) (n c : Nat) (K : Value → Prop) : xLen Tryz.prog ty #[28] (.slice a n c) K = K (.int .i64 n) := xLen_slice (T := 28) (e := 163) (by kernel_rfl) a n c
@[go_sem ↓] theorem xLen_29 (ty : Nat) (a : Option Addr) (n c : Nat) (K : Value → Prop) : xLen Tryz.prog ty #[29] (.slice a n c) K = K (.int .i64 n) := xLen_slice (T := 29) (e := 166) (by kernel_rfl) a n c
@[go_sem ↓] theorem xLen_30 (ty : Nat) (a : Option Addr) (n c : Nat) (K : Value → Prop) : xLen Tryz.prog ty #[30] (.slice a n c) K = K (.int .i64 n) := xLen_slice (T := 30) (e := 93) (by kernel_rfl) a n c
@[go_sem ↓] theorem xLen_31 (ty : Nat) (a : Option Addr) (n c : Nat) (K : Value → Prop) : xLen Tryz.prog ty #[31] (.slice a n c) K = K (.int .i64 n) := xLen_slice (T := 31) (e := 5) (by kernel_rfl) a n c
@[go_sem ↓] theorem xLen_32 (ty : Nat) (a : Option Addr) (n c : Nat) (K : Value → Prop) : xLen Tryz.prog ty #[32] (.slice a n c) K = K (.int .i64 n) := xLen_slice (T := 32) (e := 31) (by kernel_rfl) a n c
@[go_sem ↓] theorem xLen_37 (ty : Nat) (a : Option Addr) (n c : Nat) (K : Value → Prop) : xLen Tryz.prog ty #[37] (.slice a n c) K = K (.int .i64 n) := xLen_slice (T := 37) (e := 42) (by kernel_rfl) a n c
@[go_sem ↓] theorem xLen_45 (ty : Nat) (a : Option Addr) (n c : Nat) (K : Value → Prop) : xLen Tryz.prog ty #[45] (.slice a n c) K = K (.int .i64 n) := xLen_slice (T := 45) (e := 56) (by kernel_rfl) a n c
@[go_sem ↓] theorem xLen_49 (ty : Nat) (a : Option Addr) (n c : Nat) (K : Value → Prop) : xLen Tryz.prog ty #[49] (.slice a n c) K = K (.int .i64 n) := xLen_slice (T := 49) (e := 110) (by kernel_rfl) a n c
@[go_sem ↓] theorem xLen_50 (ty : Nat) (a : Option Addr) (n c : Nat) (K : Value → Prop) : xLen Tryz.prog ty #[50] (.slice a n c) K = K (.int .i64 n) := xLen_slice (T := 50) (e := 218) (by kernel_rfl) a n c
@[go_sem ↓] theorem xLen_51 (ty : Nat) (a : Option Addr) (n c : Nat) (K : Value → Prop) : xLen Tryz.prog ty #[51] (.slice a n c) K = K (.int .i64 n) := xLen_slice (T := 51) (e := 219) (by kernel_rfl) a n c
@[go_sem ↓] theorem xLen_52 (ty : Nat) (a : Option Addr) (n c : Nat) (K : Value → Prop) : xLen Tryz.prog ty #[52] (.slice a n c) K = K (.int .i64 n) := xLen_slice (T := 52) (e := 185) (by kernel_rfl) a n c
@[go_sem ↓] theorem xLen_64 (ty : Nat) (a : Option Addr) (n c : Nat) (K : Value → Prop) : xLen Tryz.prog ty #[64] (.slice a n c) K = K (.int .i64 n) := xLen_slice (T := 64) (e := 145) (by kernel_rfl) a n c
@[go_sem ↓] theorem xLen_72 (ty : Nat) (a : Option Addr) (n c : Nat) (K : Value → Prop) : xLen Tryz.prog ty #[72] (.slice a n c) K = K (.int .i64 n) := xLen_slice (T := 72) (e := 151) (by kernel_rfl) a n c
@[go_sem ↓] theorem xLen_96 (ty : Nat) (a : Option Addr) (n c : Nat) (K : Value → Prop) : xLen Tryz.prog ty #[96] (.slice a n c) K = K (.int .i64 n) := xLen_slice (T := 96) (e := 89) (by kernel_rfl) a n c
@[go_sem ↓] theorem xLen_106 (ty : Nat) (a : Option Addr) (n c : Nat) (K : Value → Prop) : xLen Tryz.prog ty #[106] (.slice a n c) K = K (.int .i64 n) := xLen_slice (T := 106) (e := 108) (by kernel_rfl) a n c
@[go_sem ↓] theorem xLen_131 (ty : Nat) (a : Option Addr) (n c : Nat) (K : Value → Prop) : xLen Tryz.prog ty #[131] (.slice a n c) K = K (.int .i64 n) := xLen_slice (T := 131) (e := 130) (by kernel_rfl) a n c
@[go_sem ↓] theorem xLen_134 (ty : Nat) (a : Option Addr) (n c : Nat) (K : Value → Prop) : xLen Tryz.prog ty #[134] (.slice a n c) K = K (.int .i64 n) := xLen_slice (T := 134) (e := 136) (by kernel_rfl) a n c
@[go_sem ↓] theorem xLen_284 (ty : Nat) (a : Option Addr) (n c : Nat) (K : Value → Prop) : xLen Tryz.prog ty #[284] (.slice a n c) K = K (.int .i64 n) := xLen_slice (T := 284) (e := 5) (by kernel_rfl) a n c
@[go_sem ↓] theorem xLen_324 (ty : Nat) (a : Option Addr) (n c : Nat) (K : Value → Prop) : xLen Tryz.prog ty #[324] (.slice a n c) K = K (.int .i64 n) := xLen_slice (T := 324) (e := 38) (by kernel_rfl) a n c
@[go_sem ↓] theorem xLen_359 (ty : Nat) (a : Option Addr) (n c : Nat) (K : Value → Prop) : xLen Tryz.prog ty #[359] (.slice a n c) K = K (.int .i64 n) := xLen_slice (T := 359) (e := 4) (by kernel_rfl) a n c
@[go_sem ↓] theorem xBb_4 (x y : Operand) (a b : Bool) (K : Value → Prop) : xBin Tryz.prog .eql 4 x y (.bool a) (.bool b) K = K (.bool (a == b)) := xBin_eqbool (T := 4) (by kernel_rfl) x y a b K
@[go_sem ↓] theorem xBn_4 (x y : Operand) (a b : Bool) (K : Value → Prop) : xBin Tryz.prog .neq 4 x y (.bool a) (.bool b) K = K (.bool (!(a == b))) := xBin_nebool (T := 4) (by kernel_rfl) x y a b K
@[go_sem ↓] theorem xConv_3_22 (k : IntKind) (n : Int) (K : Value → Prop) : xConv Tryz.prog 3 22 (.int k n) K = K (.int .u64 (IntKind.u64.wrap n)) := xConv_int (s := 3) (d := 22) (ks := .i64) (kd := .u64) (by kernel_rfl) (by kernel_rfl) k n
@[go_sem ↓] theorem xConv_3_364 (k : IntKind) (n : Int) (K : Value → Prop) : xConv Tryz.prog 3 364 (.int k n) K = K (.int .u64 (IntKind.u64.wrap n)) := xConv_int (s := 3) (d := 364) (ks := .i64) (kd := .u64) (by kernel_rfl) (by kernel_rfl) k n
@[go_sem ↓] theorem xConv_5_3 (k : IntKind) (n : Int) (K : Value → Prop) : xConv Tryz.prog 5 3 (.int k n) K = K (.int .i64 (IntKind.i64.wrap n)) := xConv_int (s := 5) (d := 3) (ks := .u8) (kd := .i64) (by kernel_rfl) (by kernel_rfl) k n
@[go_sem ↓] theorem xConv_22_3 (k : IntKind) (n : Int) (K : Value → Prop) : xConv Tryz.prog 22 3 (.int k n) K = K (.int .i64 (IntKind.i64.wrap n)) := xConv_int (s := 22) (d := 3) (ks := .u64) (kd := .i64) (by kernel_rfl) (by kernel_rfl) k n
@[go_sem ↓] theorem xConv_22_5 (k : IntKind) (n : Int) (K : Value → Prop) : xConv Tryz.prog 22 5 (.int k n) K = K (.int .u8 (IntKind.u8.wrap n)) := xConv_int (s := 22) (d := 5) (ks := .u64) (kd := .u8) (by kernel_rfl) (by kernel_rfl) k n
@[go_sem ↓] theorem xConv_364_3 (k : IntKind) (n : Int) (K : Value → Prop) : xConv Tryz.prog 364 3 (.int k n) K = K (.int .i64 (IntKind.i64.wrap n)) := xConv_int (s := 364) (d := 3) (ks := .u64) (kd := .i64) (by kernel_rfl) (by kernel_rfl) k n
theorem mixed : Tryz.prog.follows .mixedOrders = true := by kernel_rfl
end Go.X
