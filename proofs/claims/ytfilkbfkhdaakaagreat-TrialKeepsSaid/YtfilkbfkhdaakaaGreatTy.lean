/- Facts on the types of this seat's program, by program: sizes, zero values, fields' places. Conditions: none. -/
import Derived.Test.YtfilkbfkhdaakaaGreatProg
import Derived.Test.YtfilkbfkhdaakaaGreatXV
import Derived.Test.YtfilkbfkhdaakaaGreatX
import Derived.Test.YtfilkbfkhdaakaaGreatXA
import Derived.KernelRfl
set_option linter.unusedVariables false
set_option linter.unusedSimpArgs false
namespace Go.X
open Go.Proofs
theorem tI_3 : tI Tryz.prog 3 = some ⟨1, false, [(.int .i64 0)], 8⟩ := by kernel_rfl
@[go_sem ↓] theorem xTI_3 (K : TI → Prop) : xTI Tryz.prog 3 K = K ⟨1, false, [(.int .i64 0)], 8⟩ := xTI_of tI_3 K
theorem tI_4 : tI Tryz.prog 4 = some ⟨1, false, [(.bool false)], 1⟩ := by kernel_rfl
@[go_sem ↓] theorem xTI_4 (K : TI → Prop) : xTI Tryz.prog 4 K = K ⟨1, false, [(.bool false)], 1⟩ := xTI_of tI_4 K
theorem tI_5 : tI Tryz.prog 5 = some ⟨1, false, [(.int .u8 0)], 1⟩ := by kernel_rfl
@[go_sem ↓] theorem xTI_5 (K : TI → Prop) : xTI Tryz.prog 5 K = K ⟨1, false, [(.int .u8 0)], 1⟩ := xTI_of tI_5 K
theorem tI_22 : tI Tryz.prog 22 = some ⟨1, false, [(.int .u64 0)], 8⟩ := by kernel_rfl
@[go_sem ↓] theorem xTI_22 (K : TI → Prop) : xTI Tryz.prog 22 K = K ⟨1, false, [(.int .u64 0)], 8⟩ := xTI_of tI_22 K
theorem tI_24 : tI Tryz.prog 24 = some ⟨24, true, [(.int .u64 0), (.int .u64 0), (.int .u64 0), (.int .u64 0), (.int .u64 0), (.int .u64 0), (.int .u64 0), (.int .u64 0), (.int .u64 0), (.int .u64 0), (.int .u64 0), (.int .u64 0), (.int .u64 0), (.int .u64 0), (.int .i64 0), (.int .i64 0), (.int .i64 0), (.int .i64 0), (.int .i64 0), (.int .i64 0), (.int .i64 0), (.int .i64 0), (.int .i64 0), (.int .i64 0)], 192⟩ := by kernel_rfl
@[go_sem ↓] theorem xTI_24 (K : TI → Prop) : xTI Tryz.prog 24 K = K ⟨24, true, [(.int .u64 0), (.int .u64 0), (.int .u64 0), (.int .u64 0), (.int .u64 0), (.int .u64 0), (.int .u64 0), (.int .u64 0), (.int .u64 0), (.int .u64 0), (.int .u64 0), (.int .u64 0), (.int .u64 0), (.int .u64 0), (.int .i64 0), (.int .i64 0), (.int .i64 0), (.int .i64 0), (.int .i64 0), (.int .i64 0), (.int .i64 0), (.int .i64 0), (.int .i64 0), (.int .i64 0)], 192⟩ := xTI_of tI_24 K
theorem tI_25 : tI Tryz.prog 25 = some ⟨1, false, [(.slice none 0 0)], 24⟩ := by kernel_rfl
@[go_sem ↓] theorem xTI_25 (K : TI → Prop) : xTI Tryz.prog 25 K = K ⟨1, false, [(.slice none 0 0)], 24⟩ := xTI_of tI_25 K
theorem tI_26 : tI Tryz.prog 26 = some ⟨1, false, [(.slice none 0 0)], 24⟩ := by kernel_rfl
@[go_sem ↓] theorem xTI_26 (K : TI → Prop) : xTI Tryz.prog 26 K = K ⟨1, false, [(.slice none 0 0)], 24⟩ := xTI_of tI_26 K
theorem tI_27 : tI Tryz.prog 27 = some ⟨1, false, [(.slice none 0 0)], 24⟩ := by kernel_rfl
@[go_sem ↓] theorem xTI_27 (K : TI → Prop) : xTI Tryz.prog 27 K = K ⟨1, false, [(.slice none 0 0)], 24⟩ := xTI_of tI_27 K
theorem tI_28 : tI Tryz.prog 28 = some ⟨1, false, [(.slice none 0 0)], 24⟩ := by kernel_rfl
@[go_sem ↓] theorem xTI_28 (K : TI → Prop) : xTI Tryz.prog 28 K = K ⟨1, false, [(.slice none 0 0)], 24⟩ := xTI_of tI_28 K
theorem tI_29 : tI Tryz.prog 29 = some ⟨1, false, [(.slice none 0 0)], 24⟩ := by kernel_rfl
@[go_sem ↓] theorem xTI_29 (K : TI → Prop) : xTI Tryz.prog 29 K = K ⟨1, false, [(.slice none 0 0)], 24⟩ := xTI_of tI_29 K
theorem tI_30 : tI Tryz.prog 30 = some ⟨1, false, [(.slice none 0 0)], 24⟩ := by kernel_rfl
@[go_sem ↓] theorem xTI_30 (K : TI → Prop) : xTI Tryz.prog 30 K = K ⟨1, false, [(.slice none 0 0)], 24⟩ := xTI_of tI_30 K
theorem tI_31 : tI Tryz.prog 31 = some ⟨1, false, [(.slice none 0 0)], 24⟩ := by kernel_rfl
@[go_sem ↓] theorem xTI_31 (K : TI → Prop) : xTI Tryz.prog 31 K = K ⟨1, false, [(.slice none 0 0)], 24⟩ := xTI_of tI_31 K
theorem tI_32 : tI Tryz.prog 32 = some ⟨1, false, [(.slice none 0 0)], 24⟩ := by kernel_rfl
@[go_sem ↓] theorem xTI_32 (K : TI → Prop) : xTI Tryz.prog 32 K = K ⟨1, false, [(.slice none 0 0)], 24⟩ := xTI_of tI_32 K
theorem tI_34 : tI Tryz.prog 34 = some ⟨41, true, [(.int .u64 0), (.int .u64 0), (.int .u64 0), (.int .u64 0), (.int .u64 0), (.int .u64 0), (.int .u64 0), (.int .u64 0), (.int .u64 0), (.int .u64 0), (.int .u64 0), (.int .u64 0), (.int .u64 0), (.int .u64 0), (.int .i64 0), (.int .i64 0), (.int .i64 0), (.int .i64 0), (.int .i64 0), (.int .i64 0), (.int .i64 0), (.int .i64 0), (.int .i64 0), (.int .i64 0), (.int .u64 0), (.int .u64 0), (.int .u64 0), (.int .u64 0), (.int .u64 0), (.int .i64 0), (.int .i64 0), (.bool false), (.slice none 0 0), (.slice none 0 0), (.slice none 0 0), (.slice none 0 0), (.slice none 0 0), (.slice none 0 0), (.slice none 0 0), (.slice none 0 0), (.slice none 0 0)], 472⟩ := by kernel_rfl
@[go_sem ↓] theorem xTI_34 (K : TI → Prop) : xTI Tryz.prog 34 K = K ⟨41, true, [(.int .u64 0), (.int .u64 0), (.int .u64 0), (.int .u64 0), (.int .u64 0), (.int .u64 0), (.int .u64 0), (.int .u64 0), (.int .u64 0), (.int .u64 0), (.int .u64 0), (.int .u64 0), (.int .u64 0), (.int .u64 0), (.int .i64 0), (.int .i64 0), (.int .i64 0), (.int .i64 0), (.int .i64 0), (.int .i64 0), (.int .i64 0), (.int .i64 0), (.int .i64 0), (.int .i64 0), (.int .u64 0), (.int .u64 0), (.int .u64 0), (.int .u64 0), (.int .u64 0), (.int .i64 0), (.int .i64 0), (.bool false), (.slice none 0 0), (.slice none 0 0), (.slice none 0 0), (.slice none 0 0), (.slice none 0 0), (.slice none 0 0), (.slice none 0 0), (.slice none 0 0), (.slice none 0 0)], 472⟩ := xTI_of tI_34 K
theorem tI_36 : tI Tryz.prog 36 = some ⟨4, true, [(.int .i64 0), (.int .i64 0), (.slice none 0 0), (.slice none 0 0)], 64⟩ := by kernel_rfl
@[go_sem ↓] theorem xTI_36 (K : TI → Prop) : xTI Tryz.prog 36 K = K ⟨4, true, [(.int .i64 0), (.int .i64 0), (.slice none 0 0), (.slice none 0 0)], 64⟩ := xTI_of tI_36 K
theorem tI_40 : tI Tryz.prog 40 = some ⟨1, false, [(.int .i64 0)], 8⟩ := by kernel_rfl
@[go_sem ↓] theorem xTI_40 (K : TI → Prop) : xTI Tryz.prog 40 K = K ⟨1, false, [(.int .i64 0)], 8⟩ := xTI_of tI_40 K
theorem tI_43 : tI Tryz.prog 43 = some ⟨24, true, [(.int .u64 0), (.int .u64 0), (.int .u64 0), (.int .u64 0), (.int .u64 0), (.int .u64 0), (.int .u64 0), (.int .u64 0), (.int .u64 0), (.int .u64 0), (.int .u64 0), (.int .u64 0), (.int .u64 0), (.int .u64 0), (.int .i64 0), (.int .i64 0), (.int .i64 0), (.int .i64 0), (.int .i64 0), (.int .i64 0), (.int .i64 0), (.int .i64 0), (.int .i64 0), (.int .i64 0)], 192⟩ := by kernel_rfl
@[go_sem ↓] theorem xTI_43 (K : TI → Prop) : xTI Tryz.prog 43 K = K ⟨24, true, [(.int .u64 0), (.int .u64 0), (.int .u64 0), (.int .u64 0), (.int .u64 0), (.int .u64 0), (.int .u64 0), (.int .u64 0), (.int .u64 0), (.int .u64 0), (.int .u64 0), (.int .u64 0), (.int .u64 0), (.int .u64 0), (.int .i64 0), (.int .i64 0), (.int .i64 0), (.int .i64 0), (.int .i64 0), (.int .i64 0), (.int .i64 0), (.int .i64 0), (.int .i64 0), (.int .i64 0)], 192⟩ := xTI_of tI_43 K
theorem tI_44 : tI Tryz.prog 44 = some ⟨1, false, [(.slice none 0 0)], 24⟩ := by kernel_rfl
@[go_sem ↓] theorem xTI_44 (K : TI → Prop) : xTI Tryz.prog 44 K = K ⟨1, false, [(.slice none 0 0)], 24⟩ := xTI_of tI_44 K
theorem tI_45 : tI Tryz.prog 45 = some ⟨1, false, [(.slice none 0 0)], 24⟩ := by kernel_rfl
@[go_sem ↓] theorem xTI_45 (K : TI → Prop) : xTI Tryz.prog 45 K = K ⟨1, false, [(.slice none 0 0)], 24⟩ := xTI_of tI_45 K
theorem tI_46 : tI Tryz.prog 46 = some ⟨1, false, [(.slice none 0 0)], 24⟩ := by kernel_rfl
@[go_sem ↓] theorem xTI_46 (K : TI → Prop) : xTI Tryz.prog 46 K = K ⟨1, false, [(.slice none 0 0)], 24⟩ := xTI_of tI_46 K
theorem tI_47 : tI Tryz.prog 47 = some ⟨1, false, [(.slice none 0 0)], 24⟩ := by kernel_rfl
@[go_sem ↓] theorem xTI_47 (K : TI → Prop) : xTI Tryz.prog 47 K = K ⟨1, false, [(.slice none 0 0)], 24⟩ := xTI_of tI_47 K
theorem tI_49 : tI Tryz.prog 49 = some ⟨41, true, [(.int .u64 0), (.int .u64 0), (.int .u64 0), (.int .u64 0), (.int .u64 0), (.int .u64 0), (.int .u64 0), (.int .u64 0), (.int .u64 0), (.int .u64 0), (.int .u64 0), (.int .u64 0), (.int .u64 0), (.int .u64 0), (.int .i64 0), (.int .i64 0), (.int .i64 0), (.int .i64 0), (.int .i64 0), (.int .i64 0), (.int .i64 0), (.int .i64 0), (.int .i64 0), (.int .i64 0), (.int .u64 0), (.int .u64 0), (.int .u64 0), (.int .u64 0), (.int .u64 0), (.int .i64 0), (.int .i64 0), (.bool false), (.slice none 0 0), (.slice none 0 0), (.slice none 0 0), (.slice none 0 0), (.slice none 0 0), (.slice none 0 0), (.slice none 0 0), (.slice none 0 0), (.slice none 0 0)], 472⟩ := by kernel_rfl
@[go_sem ↓] theorem xTI_49 (K : TI → Prop) : xTI Tryz.prog 49 K = K ⟨41, true, [(.int .u64 0), (.int .u64 0), (.int .u64 0), (.int .u64 0), (.int .u64 0), (.int .u64 0), (.int .u64 0), (.int .u64 0), (.int .u64 0), (.int .u64 0), (.int .u64 0), (.int .u64 0), (.int .u64 0), (.int .u64 0), (.int .i64 0), (.int .i64 0), (.int .i64 0), (.int .i64 0), (.int .i64 0), (.int .i64 0), (.int .i64 0), (.int .i64 0), (.int .i64 0), (.int .i64 0), (.int .u64 0), (.int .u64 0), (.int .u64 0), (.int .u64 0), (.int .u64 0), (.int .i64 0), (.int .i64 0), (.bool false), (.slice none 0 0), (.slice none 0 0), (.slice none 0 0), (.slice none 0 0), (.slice none 0 0), (.slice none 0 0), (.slice none 0 0), (.slice none 0 0), (.slice none 0 0)], 472⟩ := xTI_of tI_49 K
theorem tI_53 : tI Tryz.prog 53 = some ⟨4, true, [(.int .i64 0), (.int .i64 0), (.slice none 0 0), (.slice none 0 0)], 64⟩ := by kernel_rfl
@[go_sem ↓] theorem xTI_53 (K : TI → Prop) : xTI Tryz.prog 53 K = K ⟨4, true, [(.int .i64 0), (.int .i64 0), (.slice none 0 0), (.slice none 0 0)], 64⟩ := xTI_of tI_53 K
theorem tI_86 : tI Tryz.prog 86 = some ⟨6, true, [(.int .i64 0), (.int .i64 0), (.int .u64 0), (.int .u64 0), (.int .u64 0), (.int .u64 0)], 48⟩ := by kernel_rfl
@[go_sem ↓] theorem xTI_86 (K : TI → Prop) : xTI Tryz.prog 86 K = K ⟨6, true, [(.int .i64 0), (.int .i64 0), (.int .u64 0), (.int .u64 0), (.int .u64 0), (.int .u64 0)], 48⟩ := xTI_of tI_86 K
theorem tI_87 : tI Tryz.prog 87 = some ⟨6, true, [(.int .i64 0), (.int .i64 0), (.int .u64 0), (.int .u64 0), (.int .u64 0), (.int .u64 0)], 48⟩ := by kernel_rfl
@[go_sem ↓] theorem xTI_87 (K : TI → Prop) : xTI Tryz.prog 87 K = K ⟨6, true, [(.int .i64 0), (.int .i64 0), (.int .u64 0), (.int .u64 0), (.int .u64 0), (.int .u64 0)], 48⟩ := xTI_of tI_87 K
theorem tI_92 : tI Tryz.prog 92 = some ⟨4, true, [(.int .u64 0), (.int .u64 0), (.int .u64 0), (.int .i64 0)], 32⟩ := by kernel_rfl
@[go_sem ↓] theorem xTI_92 (K : TI → Prop) : xTI Tryz.prog 92 K = K ⟨4, true, [(.int .u64 0), (.int .u64 0), (.int .u64 0), (.int .i64 0)], 32⟩ := xTI_of tI_92 K
theorem tI_94 : tI Tryz.prog 94 = some ⟨6, true, [(.int .u64 0), (.int .u64 0), (.int .u64 0), (.int .i64 0), (.int .i64 0), (.int .i64 0)], 48⟩ := by kernel_rfl
@[go_sem ↓] theorem xTI_94 (K : TI → Prop) : xTI Tryz.prog 94 K = K ⟨6, true, [(.int .u64 0), (.int .u64 0), (.int .u64 0), (.int .i64 0), (.int .i64 0), (.int .i64 0)], 48⟩ := xTI_of tI_94 K
theorem tI_101 : tI Tryz.prog 101 = some ⟨1, false, [(.slice none 0 0)], 24⟩ := by kernel_rfl
@[go_sem ↓] theorem xTI_101 (K : TI → Prop) : xTI Tryz.prog 101 K = K ⟨1, false, [(.slice none 0 0)], 24⟩ := xTI_of tI_101 K
theorem tI_103 : tI Tryz.prog 103 = some ⟨27, true, [(.int .u64 0), (.int .u64 0), (.int .u64 0), (.int .u64 0), (.int .u64 0), (.int .u64 0), (.int .u64 0), (.int .u64 0), (.int .u64 0), (.int .u64 0), (.int .u64 0), (.int .u64 0), (.int .u64 0), (.int .u64 0), (.int .i64 0), (.int .i64 0), (.int .i64 0), (.int .i64 0), (.int .i64 0), (.int .i64 0), (.int .i64 0), (.int .i64 0), (.int .i64 0), (.int .i64 0), (.int .u64 0), (.slice none 0 0), (.slice none 0 0)], 248⟩ := by kernel_rfl
@[go_sem ↓] theorem xTI_103 (K : TI → Prop) : xTI Tryz.prog 103 K = K ⟨27, true, [(.int .u64 0), (.int .u64 0), (.int .u64 0), (.int .u64 0), (.int .u64 0), (.int .u64 0), (.int .u64 0), (.int .u64 0), (.int .u64 0), (.int .u64 0), (.int .u64 0), (.int .u64 0), (.int .u64 0), (.int .u64 0), (.int .i64 0), (.int .i64 0), (.int .i64 0), (.int .i64 0), (.int .i64 0), (.int .i64 0), (.int .i64 0), (.int .i64 0), (.int .i64 0), (.int .i64 0), (.int .u64 0), (.slice none 0 0), (.slice none 0 0)], 248⟩ := xTI_of tI_103 K
theorem tI_106 : tI Tryz.prog 106 = some ⟨2, true, [(.int .i64 0), (.int .u64 0)], 16⟩ := by kernel_rfl
@[go_sem ↓] theorem xTI_106 (K : TI → Prop) : xTI Tryz.prog 106 K = K ⟨2, true, [(.int .i64 0), (.int .u64 0)], 16⟩ := xTI_of tI_106 K
theorem tI_109 : tI Tryz.prog 109 = some ⟨3, true, [(.int .i64 0), (.int .i64 0), (.int .u64 0)], 24⟩ := by kernel_rfl
@[go_sem ↓] theorem xTI_109 (K : TI → Prop) : xTI Tryz.prog 109 K = K ⟨3, true, [(.int .i64 0), (.int .i64 0), (.int .u64 0)], 24⟩ := xTI_of tI_109 K
theorem tI_112 : tI Tryz.prog 112 = some ⟨1, false, [(.pointer none)], 8⟩ := by kernel_rfl
@[go_sem ↓] theorem xTI_112 (K : TI → Prop) : xTI Tryz.prog 112 K = K ⟨1, false, [(.pointer none)], 8⟩ := xTI_of tI_112 K
theorem tI_114 : tI Tryz.prog 114 = some ⟨3, true, [(.int .u64 0), (.int .i64 0), (.int .i64 0)], 24⟩ := by kernel_rfl
@[go_sem ↓] theorem xTI_114 (K : TI → Prop) : xTI Tryz.prog 114 K = K ⟨3, true, [(.int .u64 0), (.int .i64 0), (.int .i64 0)], 24⟩ := xTI_of tI_114 K
theorem tI_115 : tI Tryz.prog 115 = some ⟨1, false, [(.map none)], 8⟩ := by kernel_rfl
@[go_sem ↓] theorem xTI_115 (K : TI → Prop) : xTI Tryz.prog 115 K = K ⟨1, false, [(.map none)], 8⟩ := xTI_of tI_115 K
theorem tI_117 : tI Tryz.prog 117 = some ⟨5, true, [(.int .u64 0), (.int .i64 0), (.int .i64 0), (.map none), (.int .i64 0)], 40⟩ := by kernel_rfl
@[go_sem ↓] theorem xTI_117 (K : TI → Prop) : xTI Tryz.prog 117 K = K ⟨5, true, [(.int .u64 0), (.int .i64 0), (.int .i64 0), (.map none), (.int .i64 0)], 40⟩ := xTI_of tI_117 K
theorem tI_127 : tI Tryz.prog 127 = some ⟨33, true, [(.int .i64 0), (.int .i64 0), (.int .u64 0), (.int .u64 0), (.int .u64 0), (.int .u64 0), (.int .u64 0), (.int .u64 0), (.int .u64 0), (.int .u64 0), (.int .u64 0), (.int .u64 0), (.int .u64 0), (.int .u64 0), (.int .u64 0), (.int .u64 0), (.int .i64 0), (.int .i64 0), (.int .i64 0), (.int .i64 0), (.int .i64 0), (.int .i64 0), (.int .i64 0), (.int .i64 0), (.int .i64 0), (.int .i64 0), (.int .i64 0), (.int .u64 0), (.int .i64 0), (.int .i64 0), (.int .i64 0), (.slice none 0 0), (.slice none 0 0)], 296⟩ := by kernel_rfl
@[go_sem ↓] theorem xTI_127 (K : TI → Prop) : xTI Tryz.prog 127 K = K ⟨33, true, [(.int .i64 0), (.int .i64 0), (.int .u64 0), (.int .u64 0), (.int .u64 0), (.int .u64 0), (.int .u64 0), (.int .u64 0), (.int .u64 0), (.int .u64 0), (.int .u64 0), (.int .u64 0), (.int .u64 0), (.int .u64 0), (.int .u64 0), (.int .u64 0), (.int .i64 0), (.int .i64 0), (.int .i64 0), (.int .i64 0), (.int .i64 0), (.int .i64 0), (.int .i64 0), (.int .i64 0), (.int .i64 0), (.int .i64 0), (.int .i64 0), (.int .u64 0), (.int .i64 0), (.int .i64 0), (.int .i64 0), (.slice none 0 0), (.slice none 0 0)], 296⟩ := xTI_of tI_127 K
theorem tI_136 : tI Tryz.prog 136 = some ⟨9, true, [(.int .u64 0), (.int .u64 0), (.int .u64 0), (.int .u64 0), (.int .u64 0), (.slice none 0 0), (.slice none 0 0), (.slice none 0 0), (.slice none 0 0)], 136⟩ := by kernel_rfl
@[go_sem ↓] theorem xTI_136 (K : TI → Prop) : xTI Tryz.prog 136 K = K ⟨9, true, [(.int .u64 0), (.int .u64 0), (.int .u64 0), (.int .u64 0), (.int .u64 0), (.slice none 0 0), (.slice none 0 0), (.slice none 0 0), (.slice none 0 0)], 136⟩ := xTI_of tI_136 K
theorem tI_140 : tI Tryz.prog 140 = some ⟨4, true, [(.int .u64 0), (.int .u64 0), (.int .u64 0), (.int .i64 0)], 32⟩ := by kernel_rfl
@[go_sem ↓] theorem xTI_140 (K : TI → Prop) : xTI Tryz.prog 140 K = K ⟨4, true, [(.int .u64 0), (.int .u64 0), (.int .u64 0), (.int .i64 0)], 32⟩ := xTI_of tI_140 K
theorem tI_142 : tI Tryz.prog 142 = some ⟨6, true, [(.int .u64 0), (.int .u64 0), (.int .u64 0), (.int .i64 0), (.int .i64 0), (.int .i64 0)], 48⟩ := by kernel_rfl
@[go_sem ↓] theorem xTI_142 (K : TI → Prop) : xTI Tryz.prog 142 K = K ⟨6, true, [(.int .u64 0), (.int .u64 0), (.int .u64 0), (.int .i64 0), (.int .i64 0), (.int .i64 0)], 48⟩ := xTI_of tI_142 K
theorem tI_144 : tI Tryz.prog 144 = some ⟨33, true, [(.int .i64 0), (.int .i64 0), (.int .u64 0), (.int .u64 0), (.int .u64 0), (.int .u64 0), (.int .u64 0), (.int .u64 0), (.int .u64 0), (.int .u64 0), (.int .u64 0), (.int .u64 0), (.int .u64 0), (.int .u64 0), (.int .u64 0), (.int .u64 0), (.int .i64 0), (.int .i64 0), (.int .i64 0), (.int .i64 0), (.int .i64 0), (.int .i64 0), (.int .i64 0), (.int .i64 0), (.int .i64 0), (.int .i64 0), (.int .i64 0), (.int .u64 0), (.int .i64 0), (.int .i64 0), (.int .i64 0), (.slice none 0 0), (.slice none 0 0)], 296⟩ := by kernel_rfl
@[go_sem ↓] theorem xTI_144 (K : TI → Prop) : xTI Tryz.prog 144 K = K ⟨33, true, [(.int .i64 0), (.int .i64 0), (.int .u64 0), (.int .u64 0), (.int .u64 0), (.int .u64 0), (.int .u64 0), (.int .u64 0), (.int .u64 0), (.int .u64 0), (.int .u64 0), (.int .u64 0), (.int .u64 0), (.int .u64 0), (.int .u64 0), (.int .u64 0), (.int .i64 0), (.int .i64 0), (.int .i64 0), (.int .i64 0), (.int .i64 0), (.int .i64 0), (.int .i64 0), (.int .i64 0), (.int .i64 0), (.int .i64 0), (.int .i64 0), (.int .u64 0), (.int .i64 0), (.int .i64 0), (.int .i64 0), (.slice none 0 0), (.slice none 0 0)], 296⟩ := xTI_of tI_144 K
theorem tI_153 : tI Tryz.prog 153 = some ⟨2, true, [(.slice none 0 0), (.int .i64 0)], 32⟩ := by kernel_rfl
@[go_sem ↓] theorem xTI_153 (K : TI → Prop) : xTI Tryz.prog 153 K = K ⟨2, true, [(.slice none 0 0), (.int .i64 0)], 32⟩ := xTI_of tI_153 K
theorem tI_155 : tI Tryz.prog 155 = some ⟨2, true, [(.slice none 0 0), (.int .i64 0)], 32⟩ := by kernel_rfl
@[go_sem ↓] theorem xTI_155 (K : TI → Prop) : xTI Tryz.prog 155 K = K ⟨2, true, [(.slice none 0 0), (.int .i64 0)], 32⟩ := xTI_of tI_155 K
theorem tI_161 : tI Tryz.prog 161 = some ⟨1, false, [(.pointer none)], 8⟩ := by kernel_rfl
@[go_sem ↓] theorem xTI_161 (K : TI → Prop) : xTI Tryz.prog 161 K = K ⟨1, false, [(.pointer none)], 8⟩ := xTI_of tI_161 K
theorem tI_167 : tI Tryz.prog 167 = some ⟨3, true, [(.slice none 0 0), (.int .i64 0), (.int .i64 0)], 40⟩ := by kernel_rfl
@[go_sem ↓] theorem xTI_167 (K : TI → Prop) : xTI Tryz.prog 167 K = K ⟨3, true, [(.slice none 0 0), (.int .i64 0), (.int .i64 0)], 40⟩ := xTI_of tI_167 K
theorem tI_178 : tI Tryz.prog 178 = some ⟨1, false, [.nilFunc], 8⟩ := by kernel_rfl
@[go_sem ↓] theorem xTI_178 (K : TI → Prop) : xTI Tryz.prog 178 K = K ⟨1, false, [.nilFunc], 8⟩ := xTI_of tI_178 K
theorem tI_180 : tI Tryz.prog 180 = some ⟨1, true, [.nilFunc], 8⟩ := by kernel_rfl
@[go_sem ↓] theorem xTI_180 (K : TI → Prop) : xTI Tryz.prog 180 K = K ⟨1, true, [.nilFunc], 8⟩ := xTI_of tI_180 K
theorem tI_192 : tI Tryz.prog 192 = some ⟨43, true, [(.int .u64 0), (.int .u64 0), (.int .u64 0), (.int .u64 0), (.int .u64 0), (.int .u64 0), (.int .u64 0), (.int .u64 0), (.int .u64 0), (.int .u64 0), (.int .u64 0), (.int .u64 0), (.int .u64 0), (.int .u64 0), (.int .i64 0), (.int .i64 0), (.int .i64 0), (.int .i64 0), (.int .i64 0), (.int .i64 0), (.int .i64 0), (.int .i64 0), (.int .i64 0), (.int .i64 0), (.int .u64 0), (.int .u64 0), (.int .u64 0), (.int .u64 0), (.int .u64 0), (.int .i64 0), (.int .i64 0), (.bool false), (.slice none 0 0), (.slice none 0 0), (.slice none 0 0), (.slice none 0 0), (.slice none 0 0), (.slice none 0 0), (.slice none 0 0), (.slice none 0 0), (.slice none 0 0), (.int .i64 0), (.slice none 0 0)], 504⟩ := by kernel_rfl
@[go_sem ↓] theorem xTI_192 (K : TI → Prop) : xTI Tryz.prog 192 K = K ⟨43, true, [(.int .u64 0), (.int .u64 0), (.int .u64 0), (.int .u64 0), (.int .u64 0), (.int .u64 0), (.int .u64 0), (.int .u64 0), (.int .u64 0), (.int .u64 0), (.int .u64 0), (.int .u64 0), (.int .u64 0), (.int .u64 0), (.int .i64 0), (.int .i64 0), (.int .i64 0), (.int .i64 0), (.int .i64 0), (.int .i64 0), (.int .i64 0), (.int .i64 0), (.int .i64 0), (.int .i64 0), (.int .u64 0), (.int .u64 0), (.int .u64 0), (.int .u64 0), (.int .u64 0), (.int .i64 0), (.int .i64 0), (.bool false), (.slice none 0 0), (.slice none 0 0), (.slice none 0 0), (.slice none 0 0), (.slice none 0 0), (.slice none 0 0), (.slice none 0 0), (.slice none 0 0), (.slice none 0 0), (.int .i64 0), (.slice none 0 0)], 504⟩ := xTI_of tI_192 K
theorem tI_204 : tI Tryz.prog 204 = some ⟨3, true, [(.int .i64 0), (.int .i64 0), (.int .u64 0)], 24⟩ := by kernel_rfl
@[go_sem ↓] theorem xTI_204 (K : TI → Prop) : xTI Tryz.prog 204 K = K ⟨3, true, [(.int .i64 0), (.int .i64 0), (.int .u64 0)], 24⟩ := xTI_of tI_204 K
theorem tI_211 : tI Tryz.prog 211 = some ⟨1, false, [.nilFunc], 8⟩ := by kernel_rfl
@[go_sem ↓] theorem xTI_211 (K : TI → Prop) : xTI Tryz.prog 211 K = K ⟨1, false, [.nilFunc], 8⟩ := xTI_of tI_211 K
theorem tI_214 : tI Tryz.prog 214 = some ⟨41, true, [(.int .u64 0), (.int .u64 0), (.int .u64 0), (.int .u64 0), (.int .u64 0), (.int .u64 0), (.int .u64 0), (.int .u64 0), (.int .u64 0), (.int .u64 0), (.int .u64 0), (.int .u64 0), (.int .u64 0), (.int .u64 0), (.int .i64 0), (.int .i64 0), (.int .i64 0), (.int .i64 0), (.int .i64 0), (.int .i64 0), (.int .i64 0), (.int .i64 0), (.int .i64 0), (.int .i64 0), (.int .u64 0), (.int .u64 0), (.int .u64 0), (.int .u64 0), (.int .u64 0), (.int .i64 0), (.int .i64 0), (.bool false), (.slice none 0 0), (.slice none 0 0), (.slice none 0 0), (.slice none 0 0), (.slice none 0 0), (.slice none 0 0), (.slice none 0 0), (.slice none 0 0), (.slice none 0 0)], 472⟩ := by kernel_rfl
@[go_sem ↓] theorem xTI_214 (K : TI → Prop) : xTI Tryz.prog 214 K = K ⟨41, true, [(.int .u64 0), (.int .u64 0), (.int .u64 0), (.int .u64 0), (.int .u64 0), (.int .u64 0), (.int .u64 0), (.int .u64 0), (.int .u64 0), (.int .u64 0), (.int .u64 0), (.int .u64 0), (.int .u64 0), (.int .u64 0), (.int .i64 0), (.int .i64 0), (.int .i64 0), (.int .i64 0), (.int .i64 0), (.int .i64 0), (.int .i64 0), (.int .i64 0), (.int .i64 0), (.int .i64 0), (.int .u64 0), (.int .u64 0), (.int .u64 0), (.int .u64 0), (.int .u64 0), (.int .i64 0), (.int .i64 0), (.bool false), (.slice none 0 0), (.slice none 0 0), (.slice none 0 0), (.slice none 0 0), (.slice none 0 0), (.slice none 0 0), (.slice none 0 0), (.slice none 0 0), (.slice none 0 0)], 472⟩ := xTI_of tI_214 K
theorem tI_218 : tI Tryz.prog 218 = some ⟨5, true, [(.int .u64 0), (.int .u64 0), (.int .u64 0), (.int .u64 0), (.int .u64 0)], 40⟩ := by kernel_rfl
@[go_sem ↓] theorem xTI_218 (K : TI → Prop) : xTI Tryz.prog 218 K = K ⟨5, true, [(.int .u64 0), (.int .u64 0), (.int .u64 0), (.int .u64 0), (.int .u64 0)], 40⟩ := xTI_of tI_218 K
theorem tI_228 : tI Tryz.prog 228 = some ⟨3, true, [(.slice none 0 0), (.int .i64 0), (.int .i64 0)], 40⟩ := by kernel_rfl
@[go_sem ↓] theorem xTI_228 (K : TI → Prop) : xTI Tryz.prog 228 K = K ⟨3, true, [(.slice none 0 0), (.int .i64 0), (.int .i64 0)], 40⟩ := xTI_of tI_228 K
theorem tI_236 : tI Tryz.prog 236 = some ⟨4, true, [(.int .i64 0), (.int .i64 0), (.int .u64 0), (.bool false)], 32⟩ := by kernel_rfl
@[go_sem ↓] theorem xTI_236 (K : TI → Prop) : xTI Tryz.prog 236 K = K ⟨4, true, [(.int .i64 0), (.int .i64 0), (.int .u64 0), (.bool false)], 32⟩ := xTI_of tI_236 K
theorem tI_240 : tI Tryz.prog 240 = some ⟨2, true, [(.pointer none), (.int .i64 0)], 16⟩ := by kernel_rfl
@[go_sem ↓] theorem xTI_240 (K : TI → Prop) : xTI Tryz.prog 240 K = K ⟨2, true, [(.pointer none), (.int .i64 0)], 16⟩ := xTI_of tI_240 K
theorem tI_249 : tI Tryz.prog 249 = some ⟨5, true, [(.int .u64 0), (.int .i64 0), (.int .i64 0), (.int .i64 0), (.slice none 0 0)], 56⟩ := by kernel_rfl
@[go_sem ↓] theorem xTI_249 (K : TI → Prop) : xTI Tryz.prog 249 K = K ⟨5, true, [(.int .u64 0), (.int .i64 0), (.int .i64 0), (.int .i64 0), (.slice none 0 0)], 56⟩ := xTI_of tI_249 K
theorem tI_253 : tI Tryz.prog 253 = some ⟨5, true, [(.int .u64 0), (.int .i64 0), (.int .i64 0), (.int .i64 0), (.slice none 0 0)], 56⟩ := by kernel_rfl
@[go_sem ↓] theorem xTI_253 (K : TI → Prop) : xTI Tryz.prog 253 K = K ⟨5, true, [(.int .u64 0), (.int .i64 0), (.int .i64 0), (.int .i64 0), (.slice none 0 0)], 56⟩ := xTI_of tI_253 K
theorem tI_263 : tI Tryz.prog 263 = some ⟨4, true, [(.int .i64 0), (.int .i64 0), (.int .u64 0), (.bool false)], 32⟩ := by kernel_rfl
@[go_sem ↓] theorem xTI_263 (K : TI → Prop) : xTI Tryz.prog 263 K = K ⟨4, true, [(.int .i64 0), (.int .i64 0), (.int .u64 0), (.bool false)], 32⟩ := xTI_of tI_263 K
theorem tI_266 : tI Tryz.prog 266 = some ⟨1, true, [(.slice none 0 0)], 24⟩ := by kernel_rfl
@[go_sem ↓] theorem xTI_266 (K : TI → Prop) : xTI Tryz.prog 266 K = K ⟨1, true, [(.slice none 0 0)], 24⟩ := xTI_of tI_266 K
theorem tI_278 : tI Tryz.prog 278 = some ⟨3, true, [(.slice none 0 0), (.int .i64 0), (.int .i64 0)], 40⟩ := by kernel_rfl
@[go_sem ↓] theorem xTI_278 (K : TI → Prop) : xTI Tryz.prog 278 K = K ⟨3, true, [(.slice none 0 0), (.int .i64 0), (.int .i64 0)], 40⟩ := xTI_of tI_278 K
theorem tI_326 : tI Tryz.prog 326 = some ⟨1, false, [.nilIface], 16⟩ := by kernel_rfl
@[go_sem ↓] theorem xTI_326 (K : TI → Prop) : xTI Tryz.prog 326 K = K ⟨1, false, [.nilIface], 16⟩ := xTI_of tI_326 K
theorem tI_329 : tI Tryz.prog 329 = some ⟨1, false, [(.pointer none)], 8⟩ := by kernel_rfl
@[go_sem ↓] theorem xTI_329 (K : TI → Prop) : xTI Tryz.prog 329 K = K ⟨1, false, [(.pointer none)], 8⟩ := xTI_of tI_329 K
theorem tI_333 : tI Tryz.prog 333 = some ⟨1, false, [(.pointer none)], 8⟩ := by kernel_rfl
@[go_sem ↓] theorem xTI_333 (K : TI → Prop) : xTI Tryz.prog 333 K = K ⟨1, false, [(.pointer none)], 8⟩ := xTI_of tI_333 K
theorem tI_374 : tI Tryz.prog 374 = some ⟨24, true, [(.int .u64 0), (.int .u64 0), (.int .u64 0), (.int .u64 0), (.int .u64 0), (.int .u64 0), (.int .u64 0), (.int .u64 0), (.int .u64 0), (.int .u64 0), (.int .u64 0), (.int .u64 0), (.int .u64 0), (.int .u64 0), (.int .i64 0), (.int .i64 0), (.int .i64 0), (.int .i64 0), (.int .i64 0), (.int .i64 0), (.int .i64 0), (.int .i64 0), (.int .i64 0), (.int .i64 0)], 192⟩ := by kernel_rfl
@[go_sem ↓] theorem xTI_374 (K : TI → Prop) : xTI Tryz.prog 374 K = K ⟨24, true, [(.int .u64 0), (.int .u64 0), (.int .u64 0), (.int .u64 0), (.int .u64 0), (.int .u64 0), (.int .u64 0), (.int .u64 0), (.int .u64 0), (.int .u64 0), (.int .u64 0), (.int .u64 0), (.int .u64 0), (.int .u64 0), (.int .i64 0), (.int .i64 0), (.int .i64 0), (.int .i64 0), (.int .i64 0), (.int .i64 0), (.int .i64 0), (.int .i64 0), (.int .i64 0), (.int .i64 0)], 192⟩ := xTI_of tI_374 K
theorem tI_380 : tI Tryz.prog 380 = some ⟨28, true, [(.int .u64 0), (.int .u64 0), (.int .u64 0), (.int .i64 0), (.int .u64 0), (.int .u64 0), (.int .u64 0), (.int .u64 0), (.int .u64 0), (.int .u64 0), (.int .u64 0), (.int .u64 0), (.int .u64 0), (.int .u64 0), (.int .u64 0), (.int .u64 0), (.int .u64 0), (.int .u64 0), (.int .i64 0), (.int .i64 0), (.int .i64 0), (.int .i64 0), (.int .i64 0), (.int .i64 0), (.int .i64 0), (.int .i64 0), (.int .i64 0), (.int .i64 0)], 224⟩ := by kernel_rfl
@[go_sem ↓] theorem xTI_380 (K : TI → Prop) : xTI Tryz.prog 380 K = K ⟨28, true, [(.int .u64 0), (.int .u64 0), (.int .u64 0), (.int .i64 0), (.int .u64 0), (.int .u64 0), (.int .u64 0), (.int .u64 0), (.int .u64 0), (.int .u64 0), (.int .u64 0), (.int .u64 0), (.int .u64 0), (.int .u64 0), (.int .u64 0), (.int .u64 0), (.int .u64 0), (.int .u64 0), (.int .i64 0), (.int .i64 0), (.int .i64 0), (.int .i64 0), (.int .i64 0), (.int .i64 0), (.int .i64 0), (.int .i64 0), (.int .i64 0), (.int .i64 0)], 224⟩ := xTI_of tI_380 K
theorem tI_389 : tI Tryz.prog 389 = some ⟨6, true, [(.int .u64 0), (.int .u64 0), (.int .u64 0), (.int .i64 0), (.int .i64 0), (.int .i64 0)], 48⟩ := by kernel_rfl
@[go_sem ↓] theorem xTI_389 (K : TI → Prop) : xTI Tryz.prog 389 K = K ⟨6, true, [(.int .u64 0), (.int .u64 0), (.int .u64 0), (.int .i64 0), (.int .i64 0), (.int .i64 0)], 48⟩ := xTI_of tI_389 K
theorem tI_397 : tI Tryz.prog 397 = some ⟨2, true, [(.int .u64 0), (.int .u64 0)], 16⟩ := by kernel_rfl
@[go_sem ↓] theorem xTI_397 (K : TI → Prop) : xTI Tryz.prog 397 K = K ⟨2, true, [(.int .u64 0), (.int .u64 0)], 16⟩ := xTI_of tI_397 K
theorem tI_413 : tI Tryz.prog 413 = some ⟨3, true, [(.int .u64 0), (.int .u64 0), (.int .u64 0)], 24⟩ := by kernel_rfl
@[go_sem ↓] theorem xTI_413 (K : TI → Prop) : xTI Tryz.prog 413 K = K ⟨3, true, [(.int .u64 0), (.int .u64 0), (.int .u64 0)], 24⟩ := xTI_of tI_413 K
theorem tI_418 : tI Tryz.prog 418 = some ⟨1, false, [.nilIface], 16⟩ := by kernel_rfl
@[go_sem ↓] theorem xTI_418 (K : TI → Prop) : xTI Tryz.prog 418 K = K ⟨1, false, [.nilIface], 16⟩ := xTI_of tI_418 K
theorem bP_24 : bPl Tryz.prog 24 = some ([(.int .u64 0), (.int .u64 0), (.int .u64 0), (.int .u64 0), (.int .u64 0), (.int .u64 0), (.int .u64 0), (.int .u64 0), (.int .u64 0), (.int .u64 0), (.int .u64 0), (.int .u64 0), (.int .u64 0), (.int .u64 0), (.int .i64 0), (.int .i64 0), (.int .i64 0), (.int .i64 0), (.int .i64 0), (.int .i64 0), (.int .i64 0), (.int .i64 0), (.int .i64 0), (.int .i64 0)], [(0, 1), (1, 1), (2, 1), (3, 1), (4, 1), (5, 1), (6, 1), (7, 1), (8, 1), (9, 1), (10, 1), (11, 1), (12, 1), (13, 1), (14, 1), (15, 1), (16, 1), (17, 1), (18, 1), (19, 1), (20, 1), (21, 1), (22, 1), (23, 1)]) := by kernel_rfl
@[go_sem ↓] theorem xBuild_24 (ps : List (Nat × Value)) (K : Value → Prop) : xBuild Tryz.prog 24 ps.toArray K = xFill [(.int .u64 0), (.int .u64 0), (.int .u64 0), (.int .u64 0), (.int .u64 0), (.int .u64 0), (.int .u64 0), (.int .u64 0), (.int .u64 0), (.int .u64 0), (.int .u64 0), (.int .u64 0), (.int .u64 0), (.int .u64 0), (.int .i64 0), (.int .i64 0), (.int .i64 0), (.int .i64 0), (.int .i64 0), (.int .i64 0), (.int .i64 0), (.int .i64 0), (.int .i64 0), (.int .i64 0)] [(0, 1), (1, 1), (2, 1), (3, 1), (4, 1), (5, 1), (6, 1), (7, 1), (8, 1), (9, 1), (10, 1), (11, 1), (12, 1), (13, 1), (14, 1), (15, 1), (16, 1), (17, 1), (18, 1), (19, 1), (20, 1), (21, 1), (22, 1), (23, 1)] ps fun z' => K (.agg z'.toArray) := xBuild_of bP_24 ps K
theorem bP_34 : bPl Tryz.prog 34 = some ([(.int .u64 0), (.int .u64 0), (.int .u64 0), (.int .u64 0), (.int .u64 0), (.int .u64 0), (.int .u64 0), (.int .u64 0), (.int .u64 0), (.int .u64 0), (.int .u64 0), (.int .u64 0), (.int .u64 0), (.int .u64 0), (.int .i64 0), (.int .i64 0), (.int .i64 0), (.int .i64 0), (.int .i64 0), (.int .i64 0), (.int .i64 0), (.int .i64 0), (.int .i64 0), (.int .i64 0), (.int .u64 0), (.int .u64 0), (.int .u64 0), (.int .u64 0), (.int .u64 0), (.int .i64 0), (.int .i64 0), (.bool false), (.slice none 0 0), (.slice none 0 0), (.slice none 0 0), (.slice none 0 0), (.slice none 0 0), (.slice none 0 0), (.slice none 0 0), (.slice none 0 0), (.slice none 0 0)], [(0, 24), (24, 1), (25, 1), (26, 1), (27, 1), (28, 1), (29, 1), (30, 1), (31, 1), (32, 1), (33, 1), (34, 1), (35, 1), (36, 1), (37, 1), (38, 1), (39, 1), (40, 1)]) := by kernel_rfl
@[go_sem ↓] theorem xBuild_34 (ps : List (Nat × Value)) (K : Value → Prop) : xBuild Tryz.prog 34 ps.toArray K = xFill [(.int .u64 0), (.int .u64 0), (.int .u64 0), (.int .u64 0), (.int .u64 0), (.int .u64 0), (.int .u64 0), (.int .u64 0), (.int .u64 0), (.int .u64 0), (.int .u64 0), (.int .u64 0), (.int .u64 0), (.int .u64 0), (.int .i64 0), (.int .i64 0), (.int .i64 0), (.int .i64 0), (.int .i64 0), (.int .i64 0), (.int .i64 0), (.int .i64 0), (.int .i64 0), (.int .i64 0), (.int .u64 0), (.int .u64 0), (.int .u64 0), (.int .u64 0), (.int .u64 0), (.int .i64 0), (.int .i64 0), (.bool false), (.slice none 0 0), (.slice none 0 0), (.slice none 0 0), (.slice none 0 0), (.slice none 0 0), (.slice none 0 0), (.slice none 0 0), (.slice none 0 0), (.slice none 0 0)] [(0, 24), (24, 1), (25, 1), (26, 1), (27, 1), (28, 1), (29, 1), (30, 1), (31, 1), (32, 1), (33, 1), (34, 1), (35, 1), (36, 1), (37, 1), (38, 1), (39, 1), (40, 1)] ps fun z' => K (.agg z'.toArray) := xBuild_of bP_34 ps K
theorem bP_36 : bPl Tryz.prog 36 = some ([(.int .i64 0), (.int .i64 0), (.slice none 0 0), (.slice none 0 0)], [(0, 1), (1, 1), (2, 1), (3, 1)]) := by kernel_rfl
@[go_sem ↓] theorem xBuild_36 (ps : List (Nat × Value)) (K : Value → Prop) : xBuild Tryz.prog 36 ps.toArray K = xFill [(.int .i64 0), (.int .i64 0), (.slice none 0 0), (.slice none 0 0)] [(0, 1), (1, 1), (2, 1), (3, 1)] ps fun z' => K (.agg z'.toArray) := xBuild_of bP_36 ps K
theorem bP_43 : bPl Tryz.prog 43 = some ([(.int .u64 0), (.int .u64 0), (.int .u64 0), (.int .u64 0), (.int .u64 0), (.int .u64 0), (.int .u64 0), (.int .u64 0), (.int .u64 0), (.int .u64 0), (.int .u64 0), (.int .u64 0), (.int .u64 0), (.int .u64 0), (.int .i64 0), (.int .i64 0), (.int .i64 0), (.int .i64 0), (.int .i64 0), (.int .i64 0), (.int .i64 0), (.int .i64 0), (.int .i64 0), (.int .i64 0)], [(0, 1), (1, 1), (2, 1), (3, 1), (4, 1), (5, 1), (6, 1), (7, 1), (8, 1), (9, 1), (10, 1), (11, 1), (12, 1), (13, 1), (14, 1), (15, 1), (16, 1), (17, 1), (18, 1), (19, 1), (20, 1), (21, 1), (22, 1), (23, 1)]) := by kernel_rfl
@[go_sem ↓] theorem xBuild_43 (ps : List (Nat × Value)) (K : Value → Prop) : xBuild Tryz.prog 43 ps.toArray K = xFill [(.int .u64 0), (.int .u64 0), (.int .u64 0), (.int .u64 0), (.int .u64 0), (.int .u64 0), (.int .u64 0), (.int .u64 0), (.int .u64 0), (.int .u64 0), (.int .u64 0), (.int .u64 0), (.int .u64 0), (.int .u64 0), (.int .i64 0), (.int .i64 0), (.int .i64 0), (.int .i64 0), (.int .i64 0), (.int .i64 0), (.int .i64 0), (.int .i64 0), (.int .i64 0), (.int .i64 0)] [(0, 1), (1, 1), (2, 1), (3, 1), (4, 1), (5, 1), (6, 1), (7, 1), (8, 1), (9, 1), (10, 1), (11, 1), (12, 1), (13, 1), (14, 1), (15, 1), (16, 1), (17, 1), (18, 1), (19, 1), (20, 1), (21, 1), (22, 1), (23, 1)] ps fun z' => K (.agg z'.toArray) := xBuild_of bP_43 ps K
theorem bP_49 : bPl Tryz.prog 49 = some ([(.int .u64 0), (.int .u64 0), (.int .u64 0), (.int .u64 0), (.int .u64 0), (.int .u64 0), (.int .u64 0), (.int .u64 0), (.int .u64 0), (.int .u64 0), (.int .u64 0), (.int .u64 0), (.int .u64 0), (.int .u64 0), (.int .i64 0), (.int .i64 0), (.int .i64 0), (.int .i64 0), (.int .i64 0), (.int .i64 0), (.int .i64 0), (.int .i64 0), (.int .i64 0), (.int .i64 0), (.int .u64 0), (.int .u64 0), (.int .u64 0), (.int .u64 0), (.int .u64 0), (.int .i64 0), (.int .i64 0), (.bool false), (.slice none 0 0), (.slice none 0 0), (.slice none 0 0), (.slice none 0 0), (.slice none 0 0), (.slice none 0 0), (.slice none 0 0), (.slice none 0 0), (.slice none 0 0)], [(0, 24), (24, 1), (25, 1), (26, 1), (27, 1), (28, 1), (29, 1), (30, 1), (31, 1), (32, 1), (33, 1), (34, 1), (35, 1), (36, 1), (37, 1), (38, 1), (39, 1), (40, 1)]) := by kernel_rfl
@[go_sem ↓] theorem xBuild_49 (ps : List (Nat × Value)) (K : Value → Prop) : xBuild Tryz.prog 49 ps.toArray K = xFill [(.int .u64 0), (.int .u64 0), (.int .u64 0), (.int .u64 0), (.int .u64 0), (.int .u64 0), (.int .u64 0), (.int .u64 0), (.int .u64 0), (.int .u64 0), (.int .u64 0), (.int .u64 0), (.int .u64 0), (.int .u64 0), (.int .i64 0), (.int .i64 0), (.int .i64 0), (.int .i64 0), (.int .i64 0), (.int .i64 0), (.int .i64 0), (.int .i64 0), (.int .i64 0), (.int .i64 0), (.int .u64 0), (.int .u64 0), (.int .u64 0), (.int .u64 0), (.int .u64 0), (.int .i64 0), (.int .i64 0), (.bool false), (.slice none 0 0), (.slice none 0 0), (.slice none 0 0), (.slice none 0 0), (.slice none 0 0), (.slice none 0 0), (.slice none 0 0), (.slice none 0 0), (.slice none 0 0)] [(0, 24), (24, 1), (25, 1), (26, 1), (27, 1), (28, 1), (29, 1), (30, 1), (31, 1), (32, 1), (33, 1), (34, 1), (35, 1), (36, 1), (37, 1), (38, 1), (39, 1), (40, 1)] ps fun z' => K (.agg z'.toArray) := xBuild_of bP_49 ps K
theorem bP_53 : bPl Tryz.prog 53 = some ([(.int .i64 0), (.int .i64 0), (.slice none 0 0), (.slice none 0 0)], [(0, 1), (1, 1), (2, 1), (3, 1)]) := by kernel_rfl
@[go_sem ↓] theorem xBuild_53 (ps : List (Nat × Value)) (K : Value → Prop) : xBuild Tryz.prog 53 ps.toArray K = xFill [(.int .i64 0), (.int .i64 0), (.slice none 0 0), (.slice none 0 0)] [(0, 1), (1, 1), (2, 1), (3, 1)] ps fun z' => K (.agg z'.toArray) := xBuild_of bP_53 ps K
theorem bP_86 : bPl Tryz.prog 86 = some ([(.int .i64 0), (.int .i64 0), (.int .u64 0), (.int .u64 0), (.int .u64 0), (.int .u64 0)], [(0, 1), (1, 1), (2, 1), (3, 1), (4, 1), (5, 1)]) := by kernel_rfl
@[go_sem ↓] theorem xBuild_86 (ps : List (Nat × Value)) (K : Value → Prop) : xBuild Tryz.prog 86 ps.toArray K = xFill [(.int .i64 0), (.int .i64 0), (.int .u64 0), (.int .u64 0), (.int .u64 0), (.int .u64 0)] [(0, 1), (1, 1), (2, 1), (3, 1), (4, 1), (5, 1)] ps fun z' => K (.agg z'.toArray) := xBuild_of bP_86 ps K
theorem bP_92 : bPl Tryz.prog 92 = some ([(.int .u64 0), (.int .u64 0), (.int .u64 0), (.int .i64 0)], [(0, 1), (1, 1), (2, 1), (3, 1)]) := by kernel_rfl
@[go_sem ↓] theorem xBuild_92 (ps : List (Nat × Value)) (K : Value → Prop) : xBuild Tryz.prog 92 ps.toArray K = xFill [(.int .u64 0), (.int .u64 0), (.int .u64 0), (.int .i64 0)] [(0, 1), (1, 1), (2, 1), (3, 1)] ps fun z' => K (.agg z'.toArray) := xBuild_of bP_92 ps K
theorem bP_94 : bPl Tryz.prog 94 = some ([(.int .u64 0), (.int .u64 0), (.int .u64 0), (.int .i64 0), (.int .i64 0), (.int .i64 0)], [(0, 4), (4, 1), (5, 1)]) := by kernel_rfl
@[go_sem ↓] theorem xBuild_94 (ps : List (Nat × Value)) (K : Value → Prop) : xBuild Tryz.prog 94 ps.toArray K = xFill [(.int .u64 0), (.int .u64 0), (.int .u64 0), (.int .i64 0), (.int .i64 0), (.int .i64 0)] [(0, 4), (4, 1), (5, 1)] ps fun z' => K (.agg z'.toArray) := xBuild_of bP_94 ps K
theorem bP_103 : bPl Tryz.prog 103 = some ([(.int .u64 0), (.int .u64 0), (.int .u64 0), (.int .u64 0), (.int .u64 0), (.int .u64 0), (.int .u64 0), (.int .u64 0), (.int .u64 0), (.int .u64 0), (.int .u64 0), (.int .u64 0), (.int .u64 0), (.int .u64 0), (.int .i64 0), (.int .i64 0), (.int .i64 0), (.int .i64 0), (.int .i64 0), (.int .i64 0), (.int .i64 0), (.int .i64 0), (.int .i64 0), (.int .i64 0), (.int .u64 0), (.slice none 0 0), (.slice none 0 0)], [(0, 24), (24, 1), (25, 1), (26, 1)]) := by kernel_rfl
@[go_sem ↓] theorem xBuild_103 (ps : List (Nat × Value)) (K : Value → Prop) : xBuild Tryz.prog 103 ps.toArray K = xFill [(.int .u64 0), (.int .u64 0), (.int .u64 0), (.int .u64 0), (.int .u64 0), (.int .u64 0), (.int .u64 0), (.int .u64 0), (.int .u64 0), (.int .u64 0), (.int .u64 0), (.int .u64 0), (.int .u64 0), (.int .u64 0), (.int .i64 0), (.int .i64 0), (.int .i64 0), (.int .i64 0), (.int .i64 0), (.int .i64 0), (.int .i64 0), (.int .i64 0), (.int .i64 0), (.int .i64 0), (.int .u64 0), (.slice none 0 0), (.slice none 0 0)] [(0, 24), (24, 1), (25, 1), (26, 1)] ps fun z' => K (.agg z'.toArray) := xBuild_of bP_103 ps K
theorem bP_106 : bPl Tryz.prog 106 = some ([(.int .i64 0), (.int .u64 0)], [(0, 1), (1, 1)]) := by kernel_rfl
@[go_sem ↓] theorem xBuild_106 (ps : List (Nat × Value)) (K : Value → Prop) : xBuild Tryz.prog 106 ps.toArray K = xFill [(.int .i64 0), (.int .u64 0)] [(0, 1), (1, 1)] ps fun z' => K (.agg z'.toArray) := xBuild_of bP_106 ps K
theorem bP_109 : bPl Tryz.prog 109 = some ([(.int .i64 0), (.int .i64 0), (.int .u64 0)], [(0, 1), (1, 1), (2, 1)]) := by kernel_rfl
@[go_sem ↓] theorem xBuild_109 (ps : List (Nat × Value)) (K : Value → Prop) : xBuild Tryz.prog 109 ps.toArray K = xFill [(.int .i64 0), (.int .i64 0), (.int .u64 0)] [(0, 1), (1, 1), (2, 1)] ps fun z' => K (.agg z'.toArray) := xBuild_of bP_109 ps K
theorem bP_114 : bPl Tryz.prog 114 = some ([(.int .u64 0), (.int .i64 0), (.int .i64 0)], [(0, 1), (1, 1), (2, 1)]) := by kernel_rfl
@[go_sem ↓] theorem xBuild_114 (ps : List (Nat × Value)) (K : Value → Prop) : xBuild Tryz.prog 114 ps.toArray K = xFill [(.int .u64 0), (.int .i64 0), (.int .i64 0)] [(0, 1), (1, 1), (2, 1)] ps fun z' => K (.agg z'.toArray) := xBuild_of bP_114 ps K
theorem bP_117 : bPl Tryz.prog 117 = some ([(.int .u64 0), (.int .i64 0), (.int .i64 0), (.map none), (.int .i64 0)], [(0, 3), (3, 1), (4, 1)]) := by kernel_rfl
@[go_sem ↓] theorem xBuild_117 (ps : List (Nat × Value)) (K : Value → Prop) : xBuild Tryz.prog 117 ps.toArray K = xFill [(.int .u64 0), (.int .i64 0), (.int .i64 0), (.map none), (.int .i64 0)] [(0, 3), (3, 1), (4, 1)] ps fun z' => K (.agg z'.toArray) := xBuild_of bP_117 ps K
theorem bP_136 : bPl Tryz.prog 136 = some ([(.int .u64 0), (.int .u64 0), (.int .u64 0), (.int .u64 0), (.int .u64 0), (.slice none 0 0), (.slice none 0 0), (.slice none 0 0), (.slice none 0 0)], [(0, 1), (1, 1), (2, 1), (3, 1), (4, 1), (5, 1), (6, 1), (7, 1), (8, 1)]) := by kernel_rfl
@[go_sem ↓] theorem xBuild_136 (ps : List (Nat × Value)) (K : Value → Prop) : xBuild Tryz.prog 136 ps.toArray K = xFill [(.int .u64 0), (.int .u64 0), (.int .u64 0), (.int .u64 0), (.int .u64 0), (.slice none 0 0), (.slice none 0 0), (.slice none 0 0), (.slice none 0 0)] [(0, 1), (1, 1), (2, 1), (3, 1), (4, 1), (5, 1), (6, 1), (7, 1), (8, 1)] ps fun z' => K (.agg z'.toArray) := xBuild_of bP_136 ps K
theorem bP_140 : bPl Tryz.prog 140 = some ([(.int .u64 0), (.int .u64 0), (.int .u64 0), (.int .i64 0)], [(0, 1), (1, 1), (2, 1), (3, 1)]) := by kernel_rfl
@[go_sem ↓] theorem xBuild_140 (ps : List (Nat × Value)) (K : Value → Prop) : xBuild Tryz.prog 140 ps.toArray K = xFill [(.int .u64 0), (.int .u64 0), (.int .u64 0), (.int .i64 0)] [(0, 1), (1, 1), (2, 1), (3, 1)] ps fun z' => K (.agg z'.toArray) := xBuild_of bP_140 ps K
theorem bP_142 : bPl Tryz.prog 142 = some ([(.int .u64 0), (.int .u64 0), (.int .u64 0), (.int .i64 0), (.int .i64 0), (.int .i64 0)], [(0, 4), (4, 1), (5, 1)]) := by kernel_rfl
@[go_sem ↓] theorem xBuild_142 (ps : List (Nat × Value)) (K : Value → Prop) : xBuild Tryz.prog 142 ps.toArray K = xFill [(.int .u64 0), (.int .u64 0), (.int .u64 0), (.int .i64 0), (.int .i64 0), (.int .i64 0)] [(0, 4), (4, 1), (5, 1)] ps fun z' => K (.agg z'.toArray) := xBuild_of bP_142 ps K
theorem bP_144 : bPl Tryz.prog 144 = some ([(.int .i64 0), (.int .i64 0), (.int .u64 0), (.int .u64 0), (.int .u64 0), (.int .u64 0), (.int .u64 0), (.int .u64 0), (.int .u64 0), (.int .u64 0), (.int .u64 0), (.int .u64 0), (.int .u64 0), (.int .u64 0), (.int .u64 0), (.int .u64 0), (.int .i64 0), (.int .i64 0), (.int .i64 0), (.int .i64 0), (.int .i64 0), (.int .i64 0), (.int .i64 0), (.int .i64 0), (.int .i64 0), (.int .i64 0), (.int .i64 0), (.int .u64 0), (.int .i64 0), (.int .i64 0), (.int .i64 0), (.slice none 0 0), (.slice none 0 0)], [(0, 1), (1, 1), (2, 24), (26, 1), (27, 1), (28, 1), (29, 1), (30, 1), (31, 1), (32, 1)]) := by kernel_rfl
@[go_sem ↓] theorem xBuild_144 (ps : List (Nat × Value)) (K : Value → Prop) : xBuild Tryz.prog 144 ps.toArray K = xFill [(.int .i64 0), (.int .i64 0), (.int .u64 0), (.int .u64 0), (.int .u64 0), (.int .u64 0), (.int .u64 0), (.int .u64 0), (.int .u64 0), (.int .u64 0), (.int .u64 0), (.int .u64 0), (.int .u64 0), (.int .u64 0), (.int .u64 0), (.int .u64 0), (.int .i64 0), (.int .i64 0), (.int .i64 0), (.int .i64 0), (.int .i64 0), (.int .i64 0), (.int .i64 0), (.int .i64 0), (.int .i64 0), (.int .i64 0), (.int .i64 0), (.int .u64 0), (.int .i64 0), (.int .i64 0), (.int .i64 0), (.slice none 0 0), (.slice none 0 0)] [(0, 1), (1, 1), (2, 24), (26, 1), (27, 1), (28, 1), (29, 1), (30, 1), (31, 1), (32, 1)] ps fun z' => K (.agg z'.toArray) := xBuild_of bP_144 ps K
theorem bP_153 : bPl Tryz.prog 153 = some ([(.slice none 0 0), (.int .i64 0)], [(0, 1), (1, 1)]) := by kernel_rfl
@[go_sem ↓] theorem xBuild_153 (ps : List (Nat × Value)) (K : Value → Prop) : xBuild Tryz.prog 153 ps.toArray K = xFill [(.slice none 0 0), (.int .i64 0)] [(0, 1), (1, 1)] ps fun z' => K (.agg z'.toArray) := xBuild_of bP_153 ps K
theorem bP_155 : bPl Tryz.prog 155 = some ([(.slice none 0 0), (.int .i64 0)], [(0, 2)]) := by kernel_rfl
@[go_sem ↓] theorem xBuild_155 (ps : List (Nat × Value)) (K : Value → Prop) : xBuild Tryz.prog 155 ps.toArray K = xFill [(.slice none 0 0), (.int .i64 0)] [(0, 2)] ps fun z' => K (.agg z'.toArray) := xBuild_of bP_155 ps K
theorem bP_167 : bPl Tryz.prog 167 = some ([(.slice none 0 0), (.int .i64 0), (.int .i64 0)], [(0, 1), (1, 1), (2, 1)]) := by kernel_rfl
@[go_sem ↓] theorem xBuild_167 (ps : List (Nat × Value)) (K : Value → Prop) : xBuild Tryz.prog 167 ps.toArray K = xFill [(.slice none 0 0), (.int .i64 0), (.int .i64 0)] [(0, 1), (1, 1), (2, 1)] ps fun z' => K (.agg z'.toArray) := xBuild_of bP_167 ps K
theorem bP_180 : bPl Tryz.prog 180 = some ([.nilFunc], [(0, 1)]) := by kernel_rfl
@[go_sem ↓] theorem xBuild_180 (ps : List (Nat × Value)) (K : Value → Prop) : xBuild Tryz.prog 180 ps.toArray K = xFill [.nilFunc] [(0, 1)] ps fun z' => K (.agg z'.toArray) := xBuild_of bP_180 ps K
theorem bP_192 : bPl Tryz.prog 192 = some ([(.int .u64 0), (.int .u64 0), (.int .u64 0), (.int .u64 0), (.int .u64 0), (.int .u64 0), (.int .u64 0), (.int .u64 0), (.int .u64 0), (.int .u64 0), (.int .u64 0), (.int .u64 0), (.int .u64 0), (.int .u64 0), (.int .i64 0), (.int .i64 0), (.int .i64 0), (.int .i64 0), (.int .i64 0), (.int .i64 0), (.int .i64 0), (.int .i64 0), (.int .i64 0), (.int .i64 0), (.int .u64 0), (.int .u64 0), (.int .u64 0), (.int .u64 0), (.int .u64 0), (.int .i64 0), (.int .i64 0), (.bool false), (.slice none 0 0), (.slice none 0 0), (.slice none 0 0), (.slice none 0 0), (.slice none 0 0), (.slice none 0 0), (.slice none 0 0), (.slice none 0 0), (.slice none 0 0), (.int .i64 0), (.slice none 0 0)], [(0, 41), (41, 1), (42, 1)]) := by kernel_rfl
@[go_sem ↓] theorem xBuild_192 (ps : List (Nat × Value)) (K : Value → Prop) : xBuild Tryz.prog 192 ps.toArray K = xFill [(.int .u64 0), (.int .u64 0), (.int .u64 0), (.int .u64 0), (.int .u64 0), (.int .u64 0), (.int .u64 0), (.int .u64 0), (.int .u64 0), (.int .u64 0), (.int .u64 0), (.int .u64 0), (.int .u64 0), (.int .u64 0), (.int .i64 0), (.int .i64 0), (.int .i64 0), (.int .i64 0), (.int .i64 0), (.int .i64 0), (.int .i64 0), (.int .i64 0), (.int .i64 0), (.int .i64 0), (.int .u64 0), (.int .u64 0), (.int .u64 0), (.int .u64 0), (.int .u64 0), (.int .i64 0), (.int .i64 0), (.bool false), (.slice none 0 0), (.slice none 0 0), (.slice none 0 0), (.slice none 0 0), (.slice none 0 0), (.slice none 0 0), (.slice none 0 0), (.slice none 0 0), (.slice none 0 0), (.int .i64 0), (.slice none 0 0)] [(0, 41), (41, 1), (42, 1)] ps fun z' => K (.agg z'.toArray) := xBuild_of bP_192 ps K
theorem bP_204 : bPl Tryz.prog 204 = some ([(.int .i64 0), (.int .i64 0), (.int .u64 0)], [(0, 1), (1, 1), (2, 1)]) := by kernel_rfl
@[go_sem ↓] theorem xBuild_204 (ps : List (Nat × Value)) (K : Value → Prop) : xBuild Tryz.prog 204 ps.toArray K = xFill [(.int .i64 0), (.int .i64 0), (.int .u64 0)] [(0, 1), (1, 1), (2, 1)] ps fun z' => K (.agg z'.toArray) := xBuild_of bP_204 ps K
theorem bP_214 : bPl Tryz.prog 214 = some ([(.int .u64 0), (.int .u64 0), (.int .u64 0), (.int .u64 0), (.int .u64 0), (.int .u64 0), (.int .u64 0), (.int .u64 0), (.int .u64 0), (.int .u64 0), (.int .u64 0), (.int .u64 0), (.int .u64 0), (.int .u64 0), (.int .i64 0), (.int .i64 0), (.int .i64 0), (.int .i64 0), (.int .i64 0), (.int .i64 0), (.int .i64 0), (.int .i64 0), (.int .i64 0), (.int .i64 0), (.int .u64 0), (.int .u64 0), (.int .u64 0), (.int .u64 0), (.int .u64 0), (.int .i64 0), (.int .i64 0), (.bool false), (.slice none 0 0), (.slice none 0 0), (.slice none 0 0), (.slice none 0 0), (.slice none 0 0), (.slice none 0 0), (.slice none 0 0), (.slice none 0 0), (.slice none 0 0)], [(0, 41)]) := by kernel_rfl
@[go_sem ↓] theorem xBuild_214 (ps : List (Nat × Value)) (K : Value → Prop) : xBuild Tryz.prog 214 ps.toArray K = xFill [(.int .u64 0), (.int .u64 0), (.int .u64 0), (.int .u64 0), (.int .u64 0), (.int .u64 0), (.int .u64 0), (.int .u64 0), (.int .u64 0), (.int .u64 0), (.int .u64 0), (.int .u64 0), (.int .u64 0), (.int .u64 0), (.int .i64 0), (.int .i64 0), (.int .i64 0), (.int .i64 0), (.int .i64 0), (.int .i64 0), (.int .i64 0), (.int .i64 0), (.int .i64 0), (.int .i64 0), (.int .u64 0), (.int .u64 0), (.int .u64 0), (.int .u64 0), (.int .u64 0), (.int .i64 0), (.int .i64 0), (.bool false), (.slice none 0 0), (.slice none 0 0), (.slice none 0 0), (.slice none 0 0), (.slice none 0 0), (.slice none 0 0), (.slice none 0 0), (.slice none 0 0), (.slice none 0 0)] [(0, 41)] ps fun z' => K (.agg z'.toArray) := xBuild_of bP_214 ps K
theorem bP_218 : bPl Tryz.prog 218 = some ([(.int .u64 0), (.int .u64 0), (.int .u64 0), (.int .u64 0), (.int .u64 0)], [(0, 1), (1, 1), (2, 1), (3, 1), (4, 1)]) := by kernel_rfl
@[go_sem ↓] theorem xBuild_218 (ps : List (Nat × Value)) (K : Value → Prop) : xBuild Tryz.prog 218 ps.toArray K = xFill [(.int .u64 0), (.int .u64 0), (.int .u64 0), (.int .u64 0), (.int .u64 0)] [(0, 1), (1, 1), (2, 1), (3, 1), (4, 1)] ps fun z' => K (.agg z'.toArray) := xBuild_of bP_218 ps K
theorem bP_228 : bPl Tryz.prog 228 = some ([(.slice none 0 0), (.int .i64 0), (.int .i64 0)], [(0, 2), (2, 1)]) := by kernel_rfl
@[go_sem ↓] theorem xBuild_228 (ps : List (Nat × Value)) (K : Value → Prop) : xBuild Tryz.prog 228 ps.toArray K = xFill [(.slice none 0 0), (.int .i64 0), (.int .i64 0)] [(0, 2), (2, 1)] ps fun z' => K (.agg z'.toArray) := xBuild_of bP_228 ps K
theorem bP_240 : bPl Tryz.prog 240 = some ([(.pointer none), (.int .i64 0)], [(0, 1), (1, 1)]) := by kernel_rfl
@[go_sem ↓] theorem xBuild_240 (ps : List (Nat × Value)) (K : Value → Prop) : xBuild Tryz.prog 240 ps.toArray K = xFill [(.pointer none), (.int .i64 0)] [(0, 1), (1, 1)] ps fun z' => K (.agg z'.toArray) := xBuild_of bP_240 ps K
theorem bP_249 : bPl Tryz.prog 249 = some ([(.int .u64 0), (.int .i64 0), (.int .i64 0), (.int .i64 0), (.slice none 0 0)], [(0, 1), (1, 1), (2, 1), (3, 1), (4, 1)]) := by kernel_rfl
@[go_sem ↓] theorem xBuild_249 (ps : List (Nat × Value)) (K : Value → Prop) : xBuild Tryz.prog 249 ps.toArray K = xFill [(.int .u64 0), (.int .i64 0), (.int .i64 0), (.int .i64 0), (.slice none 0 0)] [(0, 1), (1, 1), (2, 1), (3, 1), (4, 1)] ps fun z' => K (.agg z'.toArray) := xBuild_of bP_249 ps K
theorem bP_253 : bPl Tryz.prog 253 = some ([(.int .u64 0), (.int .i64 0), (.int .i64 0), (.int .i64 0), (.slice none 0 0)], [(0, 3), (3, 1), (4, 1)]) := by kernel_rfl
@[go_sem ↓] theorem xBuild_253 (ps : List (Nat × Value)) (K : Value → Prop) : xBuild Tryz.prog 253 ps.toArray K = xFill [(.int .u64 0), (.int .i64 0), (.int .i64 0), (.int .i64 0), (.slice none 0 0)] [(0, 3), (3, 1), (4, 1)] ps fun z' => K (.agg z'.toArray) := xBuild_of bP_253 ps K
theorem bP_266 : bPl Tryz.prog 266 = some ([(.slice none 0 0)], [(0, 1)]) := by kernel_rfl
@[go_sem ↓] theorem xBuild_266 (ps : List (Nat × Value)) (K : Value → Prop) : xBuild Tryz.prog 266 ps.toArray K = xFill [(.slice none 0 0)] [(0, 1)] ps fun z' => K (.agg z'.toArray) := xBuild_of bP_266 ps K
theorem bP_278 : bPl Tryz.prog 278 = some ([(.slice none 0 0), (.int .i64 0), (.int .i64 0)], [(0, 2), (2, 1)]) := by kernel_rfl
@[go_sem ↓] theorem xBuild_278 (ps : List (Nat × Value)) (K : Value → Prop) : xBuild Tryz.prog 278 ps.toArray K = xFill [(.slice none 0 0), (.int .i64 0), (.int .i64 0)] [(0, 2), (2, 1)] ps fun z' => K (.agg z'.toArray) := xBuild_of bP_278 ps K
theorem bP_374 : bPl Tryz.prog 374 = some ([(.int .u64 0), (.int .u64 0), (.int .u64 0), (.int .u64 0), (.int .u64 0), (.int .u64 0), (.int .u64 0), (.int .u64 0), (.int .u64 0), (.int .u64 0), (.int .u64 0), (.int .u64 0), (.int .u64 0), (.int .u64 0), (.int .i64 0), (.int .i64 0), (.int .i64 0), (.int .i64 0), (.int .i64 0), (.int .i64 0), (.int .i64 0), (.int .i64 0), (.int .i64 0), (.int .i64 0)], [(0, 24)]) := by kernel_rfl
@[go_sem ↓] theorem xBuild_374 (ps : List (Nat × Value)) (K : Value → Prop) : xBuild Tryz.prog 374 ps.toArray K = xFill [(.int .u64 0), (.int .u64 0), (.int .u64 0), (.int .u64 0), (.int .u64 0), (.int .u64 0), (.int .u64 0), (.int .u64 0), (.int .u64 0), (.int .u64 0), (.int .u64 0), (.int .u64 0), (.int .u64 0), (.int .u64 0), (.int .i64 0), (.int .i64 0), (.int .i64 0), (.int .i64 0), (.int .i64 0), (.int .i64 0), (.int .i64 0), (.int .i64 0), (.int .i64 0), (.int .i64 0)] [(0, 24)] ps fun z' => K (.agg z'.toArray) := xBuild_of bP_374 ps K
theorem bP_380 : bPl Tryz.prog 380 = some ([(.int .u64 0), (.int .u64 0), (.int .u64 0), (.int .i64 0), (.int .u64 0), (.int .u64 0), (.int .u64 0), (.int .u64 0), (.int .u64 0), (.int .u64 0), (.int .u64 0), (.int .u64 0), (.int .u64 0), (.int .u64 0), (.int .u64 0), (.int .u64 0), (.int .u64 0), (.int .u64 0), (.int .i64 0), (.int .i64 0), (.int .i64 0), (.int .i64 0), (.int .i64 0), (.int .i64 0), (.int .i64 0), (.int .i64 0), (.int .i64 0), (.int .i64 0)], [(0, 4), (4, 24)]) := by kernel_rfl
@[go_sem ↓] theorem xBuild_380 (ps : List (Nat × Value)) (K : Value → Prop) : xBuild Tryz.prog 380 ps.toArray K = xFill [(.int .u64 0), (.int .u64 0), (.int .u64 0), (.int .i64 0), (.int .u64 0), (.int .u64 0), (.int .u64 0), (.int .u64 0), (.int .u64 0), (.int .u64 0), (.int .u64 0), (.int .u64 0), (.int .u64 0), (.int .u64 0), (.int .u64 0), (.int .u64 0), (.int .u64 0), (.int .u64 0), (.int .i64 0), (.int .i64 0), (.int .i64 0), (.int .i64 0), (.int .i64 0), (.int .i64 0), (.int .i64 0), (.int .i64 0), (.int .i64 0), (.int .i64 0)] [(0, 4), (4, 24)] ps fun z' => K (.agg z'.toArray) := xBuild_of bP_380 ps K
theorem bP_389 : bPl Tryz.prog 389 = some ([(.int .u64 0), (.int .u64 0), (.int .u64 0), (.int .i64 0), (.int .i64 0), (.int .i64 0)], [(0, 6)]) := by kernel_rfl
@[go_sem ↓] theorem xBuild_389 (ps : List (Nat × Value)) (K : Value → Prop) : xBuild Tryz.prog 389 ps.toArray K = xFill [(.int .u64 0), (.int .u64 0), (.int .u64 0), (.int .i64 0), (.int .i64 0), (.int .i64 0)] [(0, 6)] ps fun z' => K (.agg z'.toArray) := xBuild_of bP_389 ps K
theorem bP_397 : bPl Tryz.prog 397 = some ([(.int .u64 0), (.int .u64 0)], [(0, 1), (1, 1)]) := by kernel_rfl
@[go_sem ↓] theorem xBuild_397 (ps : List (Nat × Value)) (K : Value → Prop) : xBuild Tryz.prog 397 ps.toArray K = xFill [(.int .u64 0), (.int .u64 0)] [(0, 1), (1, 1)] ps fun z' => K (.agg z'.toArray) := xBuild_of bP_397 ps K
theorem bP_413 : bPl Tryz.prog 413 = some ([(.int .u64 0), (.int .u64 0), (.int .u64 0)], [(0, 2), (2, 1)]) := by kernel_rfl
@[go_sem ↓] theorem xBuild_413 (ps : List (Nat × Value)) (K : Value → Prop) : xBuild Tryz.prog 413 ps.toArray K = xFill [(.int .u64 0), (.int .u64 0), (.int .u64 0)] [(0, 2), (2, 1)] ps fun z' => K (.agg z'.toArray) := xBuild_of bP_413 ps K
theorem bS_25_0 : bSl Tryz.prog 25 0 = some (22, [], []) := by kernel_rfl
@[go_sem ↓] theorem xBS_25_0 (ps : List (Nat × Value)) (K : TypeId → List Value → Prop) : xBS Tryz.prog 25 0 ps.toArray K = xFill [] [] ps fun cs => K 22 cs := xBS_of bS_25_0 ps K
theorem bS_25_1 : bSl Tryz.prog 25 1 = some (22, [(.int .u64 0)], [(0, 1)]) := by kernel_rfl
@[go_sem ↓] theorem xBS_25_1 (ps : List (Nat × Value)) (K : TypeId → List Value → Prop) : xBS Tryz.prog 25 1 ps.toArray K = xFill [(.int .u64 0)] [(0, 1)] ps fun cs => K 22 cs := xBS_of bS_25_1 ps K
theorem bS_25_2 : bSl Tryz.prog 25 2 = some (22, [(.int .u64 0), (.int .u64 0)], [(0, 1), (1, 1)]) := by kernel_rfl
@[go_sem ↓] theorem xBS_25_2 (ps : List (Nat × Value)) (K : TypeId → List Value → Prop) : xBS Tryz.prog 25 2 ps.toArray K = xFill [(.int .u64 0), (.int .u64 0)] [(0, 1), (1, 1)] ps fun cs => K 22 cs := xBS_of bS_25_2 ps K
theorem bS_25_3 : bSl Tryz.prog 25 3 = some (22, [(.int .u64 0), (.int .u64 0), (.int .u64 0)], [(0, 1), (1, 1), (2, 1)]) := by kernel_rfl
@[go_sem ↓] theorem xBS_25_3 (ps : List (Nat × Value)) (K : TypeId → List Value → Prop) : xBS Tryz.prog 25 3 ps.toArray K = xFill [(.int .u64 0), (.int .u64 0), (.int .u64 0)] [(0, 1), (1, 1), (2, 1)] ps fun cs => K 22 cs := xBS_of bS_25_3 ps K
theorem bS_25_5 : bSl Tryz.prog 25 5 = some (22, [(.int .u64 0), (.int .u64 0), (.int .u64 0), (.int .u64 0), (.int .u64 0)], [(0, 1), (1, 1), (2, 1), (3, 1), (4, 1)]) := by kernel_rfl
@[go_sem ↓] theorem xBS_25_5 (ps : List (Nat × Value)) (K : TypeId → List Value → Prop) : xBS Tryz.prog 25 5 ps.toArray K = xFill [(.int .u64 0), (.int .u64 0), (.int .u64 0), (.int .u64 0), (.int .u64 0)] [(0, 1), (1, 1), (2, 1), (3, 1), (4, 1)] ps fun cs => K 22 cs := xBS_of bS_25_5 ps K
theorem bS_25_14 : bSl Tryz.prog 25 14 = some (22, [(.int .u64 0), (.int .u64 0), (.int .u64 0), (.int .u64 0), (.int .u64 0), (.int .u64 0), (.int .u64 0), (.int .u64 0), (.int .u64 0), (.int .u64 0), (.int .u64 0), (.int .u64 0), (.int .u64 0), (.int .u64 0)], [(0, 1), (1, 1), (2, 1), (3, 1), (4, 1), (5, 1), (6, 1), (7, 1), (8, 1), (9, 1), (10, 1), (11, 1), (12, 1), (13, 1)]) := by kernel_rfl
@[go_sem ↓] theorem xBS_25_14 (ps : List (Nat × Value)) (K : TypeId → List Value → Prop) : xBS Tryz.prog 25 14 ps.toArray K = xFill [(.int .u64 0), (.int .u64 0), (.int .u64 0), (.int .u64 0), (.int .u64 0), (.int .u64 0), (.int .u64 0), (.int .u64 0), (.int .u64 0), (.int .u64 0), (.int .u64 0), (.int .u64 0), (.int .u64 0), (.int .u64 0)] [(0, 1), (1, 1), (2, 1), (3, 1), (4, 1), (5, 1), (6, 1), (7, 1), (8, 1), (9, 1), (10, 1), (11, 1), (12, 1), (13, 1)] ps fun cs => K 22 cs := xBS_of bS_25_14 ps K
theorem bS_26_0 : bSl Tryz.prog 26 0 = some (94, [], []) := by kernel_rfl
@[go_sem ↓] theorem xBS_26_0 (ps : List (Nat × Value)) (K : TypeId → List Value → Prop) : xBS Tryz.prog 26 0 ps.toArray K = xFill [] [] ps fun cs => K 94 cs := xBS_of bS_26_0 ps K
theorem bS_26_1 : bSl Tryz.prog 26 1 = some (94, [(.int .u64 0), (.int .u64 0), (.int .u64 0), (.int .i64 0), (.int .i64 0), (.int .i64 0)], [(0, 6)]) := by kernel_rfl
@[go_sem ↓] theorem xBS_26_1 (ps : List (Nat × Value)) (K : TypeId → List Value → Prop) : xBS Tryz.prog 26 1 ps.toArray K = xFill [(.int .u64 0), (.int .u64 0), (.int .u64 0), (.int .i64 0), (.int .i64 0), (.int .i64 0)] [(0, 6)] ps fun cs => K 94 cs := xBS_of bS_26_1 ps K
theorem bS_27_0 : bSl Tryz.prog 27 0 = some (3, [], []) := by kernel_rfl
@[go_sem ↓] theorem xBS_27_0 (ps : List (Nat × Value)) (K : TypeId → List Value → Prop) : xBS Tryz.prog 27 0 ps.toArray K = xFill [] [] ps fun cs => K 3 cs := xBS_of bS_27_0 ps K
theorem bS_27_1 : bSl Tryz.prog 27 1 = some (3, [(.int .i64 0)], [(0, 1)]) := by kernel_rfl
@[go_sem ↓] theorem xBS_27_1 (ps : List (Nat × Value)) (K : TypeId → List Value → Prop) : xBS Tryz.prog 27 1 ps.toArray K = xFill [(.int .i64 0)] [(0, 1)] ps fun cs => K 3 cs := xBS_of bS_27_1 ps K
theorem bS_27_2 : bSl Tryz.prog 27 2 = some (3, [(.int .i64 0), (.int .i64 0)], [(0, 1), (1, 1)]) := by kernel_rfl
@[go_sem ↓] theorem xBS_27_2 (ps : List (Nat × Value)) (K : TypeId → List Value → Prop) : xBS Tryz.prog 27 2 ps.toArray K = xFill [(.int .i64 0), (.int .i64 0)] [(0, 1), (1, 1)] ps fun cs => K 3 cs := xBS_of bS_27_2 ps K
theorem bS_27_10 : bSl Tryz.prog 27 10 = some (3, [(.int .i64 0), (.int .i64 0), (.int .i64 0), (.int .i64 0), (.int .i64 0), (.int .i64 0), (.int .i64 0), (.int .i64 0), (.int .i64 0), (.int .i64 0)], [(0, 1), (1, 1), (2, 1), (3, 1), (4, 1), (5, 1), (6, 1), (7, 1), (8, 1), (9, 1)]) := by kernel_rfl
@[go_sem ↓] theorem xBS_27_10 (ps : List (Nat × Value)) (K : TypeId → List Value → Prop) : xBS Tryz.prog 27 10 ps.toArray K = xFill [(.int .i64 0), (.int .i64 0), (.int .i64 0), (.int .i64 0), (.int .i64 0), (.int .i64 0), (.int .i64 0), (.int .i64 0), (.int .i64 0), (.int .i64 0)] [(0, 1), (1, 1), (2, 1), (3, 1), (4, 1), (5, 1), (6, 1), (7, 1), (8, 1), (9, 1)] ps fun cs => K 3 cs := xBS_of bS_27_10 ps K
theorem bS_28_0 : bSl Tryz.prog 28 0 = some (263, [], []) := by kernel_rfl
@[go_sem ↓] theorem xBS_28_0 (ps : List (Nat × Value)) (K : TypeId → List Value → Prop) : xBS Tryz.prog 28 0 ps.toArray K = xFill [] [] ps fun cs => K 263 cs := xBS_of bS_28_0 ps K
theorem bS_28_1 : bSl Tryz.prog 28 1 = some (263, [(.int .i64 0), (.int .i64 0), (.int .u64 0), (.bool false)], [(0, 4)]) := by kernel_rfl
@[go_sem ↓] theorem xBS_28_1 (ps : List (Nat × Value)) (K : TypeId → List Value → Prop) : xBS Tryz.prog 28 1 ps.toArray K = xFill [(.int .i64 0), (.int .i64 0), (.int .u64 0), (.bool false)] [(0, 4)] ps fun cs => K 263 cs := xBS_of bS_28_1 ps K
theorem bS_29_0 : bSl Tryz.prog 29 0 = some (109, [], []) := by kernel_rfl
@[go_sem ↓] theorem xBS_29_0 (ps : List (Nat × Value)) (K : TypeId → List Value → Prop) : xBS Tryz.prog 29 0 ps.toArray K = xFill [] [] ps fun cs => K 109 cs := xBS_of bS_29_0 ps K
theorem bS_29_1 : bSl Tryz.prog 29 1 = some (109, [(.int .i64 0), (.int .i64 0), (.int .u64 0)], [(0, 3)]) := by kernel_rfl
@[go_sem ↓] theorem xBS_29_1 (ps : List (Nat × Value)) (K : TypeId → List Value → Prop) : xBS Tryz.prog 29 1 ps.toArray K = xFill [(.int .i64 0), (.int .i64 0), (.int .u64 0)] [(0, 3)] ps fun cs => K 109 cs := xBS_of bS_29_1 ps K
theorem bS_30_0 : bSl Tryz.prog 30 0 = some (127, [], []) := by kernel_rfl
@[go_sem ↓] theorem xBS_30_0 (ps : List (Nat × Value)) (K : TypeId → List Value → Prop) : xBS Tryz.prog 30 0 ps.toArray K = xFill [] [] ps fun cs => K 127 cs := xBS_of bS_30_0 ps K
theorem bS_30_1 : bSl Tryz.prog 30 1 = some (127, [(.int .i64 0), (.int .i64 0), (.int .u64 0), (.int .u64 0), (.int .u64 0), (.int .u64 0), (.int .u64 0), (.int .u64 0), (.int .u64 0), (.int .u64 0), (.int .u64 0), (.int .u64 0), (.int .u64 0), (.int .u64 0), (.int .u64 0), (.int .u64 0), (.int .i64 0), (.int .i64 0), (.int .i64 0), (.int .i64 0), (.int .i64 0), (.int .i64 0), (.int .i64 0), (.int .i64 0), (.int .i64 0), (.int .i64 0), (.int .i64 0), (.int .u64 0), (.int .i64 0), (.int .i64 0), (.int .i64 0), (.slice none 0 0), (.slice none 0 0)], [(0, 33)]) := by kernel_rfl
@[go_sem ↓] theorem xBS_30_1 (ps : List (Nat × Value)) (K : TypeId → List Value → Prop) : xBS Tryz.prog 30 1 ps.toArray K = xFill [(.int .i64 0), (.int .i64 0), (.int .u64 0), (.int .u64 0), (.int .u64 0), (.int .u64 0), (.int .u64 0), (.int .u64 0), (.int .u64 0), (.int .u64 0), (.int .u64 0), (.int .u64 0), (.int .u64 0), (.int .u64 0), (.int .u64 0), (.int .u64 0), (.int .i64 0), (.int .i64 0), (.int .i64 0), (.int .i64 0), (.int .i64 0), (.int .i64 0), (.int .i64 0), (.int .i64 0), (.int .i64 0), (.int .i64 0), (.int .i64 0), (.int .u64 0), (.int .i64 0), (.int .i64 0), (.int .i64 0), (.slice none 0 0), (.slice none 0 0)] [(0, 33)] ps fun cs => K 127 cs := xBS_of bS_30_1 ps K
theorem bS_31_0 : bSl Tryz.prog 31 0 = some (5, [], []) := by kernel_rfl
@[go_sem ↓] theorem xBS_31_0 (ps : List (Nat × Value)) (K : TypeId → List Value → Prop) : xBS Tryz.prog 31 0 ps.toArray K = xFill [] [] ps fun cs => K 5 cs := xBS_of bS_31_0 ps K
theorem bS_31_1 : bSl Tryz.prog 31 1 = some (5, [(.int .u8 0)], [(0, 1)]) := by kernel_rfl
@[go_sem ↓] theorem xBS_31_1 (ps : List (Nat × Value)) (K : TypeId → List Value → Prop) : xBS Tryz.prog 31 1 ps.toArray K = xFill [(.int .u8 0)] [(0, 1)] ps fun cs => K 5 cs := xBS_of bS_31_1 ps K
theorem bS_31_5 : bSl Tryz.prog 31 5 = some (5, [(.int .u8 0), (.int .u8 0), (.int .u8 0), (.int .u8 0), (.int .u8 0)], [(0, 1), (1, 1), (2, 1), (3, 1), (4, 1)]) := by kernel_rfl
@[go_sem ↓] theorem xBS_31_5 (ps : List (Nat × Value)) (K : TypeId → List Value → Prop) : xBS Tryz.prog 31 5 ps.toArray K = xFill [(.int .u8 0), (.int .u8 0), (.int .u8 0), (.int .u8 0), (.int .u8 0)] [(0, 1), (1, 1), (2, 1), (3, 1), (4, 1)] ps fun cs => K 5 cs := xBS_of bS_31_5 ps K
theorem bS_32_0 : bSl Tryz.prog 32 0 = some (31, [], []) := by kernel_rfl
@[go_sem ↓] theorem xBS_32_0 (ps : List (Nat × Value)) (K : TypeId → List Value → Prop) : xBS Tryz.prog 32 0 ps.toArray K = xFill [] [] ps fun cs => K 31 cs := xBS_of bS_32_0 ps K
theorem bS_32_1 : bSl Tryz.prog 32 1 = some (31, [(.slice none 0 0)], [(0, 1)]) := by kernel_rfl
@[go_sem ↓] theorem xBS_32_1 (ps : List (Nat × Value)) (K : TypeId → List Value → Prop) : xBS Tryz.prog 32 1 ps.toArray K = xFill [(.slice none 0 0)] [(0, 1)] ps fun cs => K 31 cs := xBS_of bS_32_1 ps K
theorem bS_44_1 : bSl Tryz.prog 44 1 = some (142, [(.int .u64 0), (.int .u64 0), (.int .u64 0), (.int .i64 0), (.int .i64 0), (.int .i64 0)], [(0, 6)]) := by kernel_rfl
@[go_sem ↓] theorem xBS_44_1 (ps : List (Nat × Value)) (K : TypeId → List Value → Prop) : xBS Tryz.prog 44 1 ps.toArray K = xFill [(.int .u64 0), (.int .u64 0), (.int .u64 0), (.int .i64 0), (.int .i64 0), (.int .i64 0)] [(0, 6)] ps fun cs => K 142 cs := xBS_of bS_44_1 ps K
theorem bS_45_1 : bSl Tryz.prog 45 1 = some (236, [(.int .i64 0), (.int .i64 0), (.int .u64 0), (.bool false)], [(0, 4)]) := by kernel_rfl
@[go_sem ↓] theorem xBS_45_1 (ps : List (Nat × Value)) (K : TypeId → List Value → Prop) : xBS Tryz.prog 45 1 ps.toArray K = xFill [(.int .i64 0), (.int .i64 0), (.int .u64 0), (.bool false)] [(0, 4)] ps fun cs => K 236 cs := xBS_of bS_45_1 ps K
theorem bS_46_1 : bSl Tryz.prog 46 1 = some (204, [(.int .i64 0), (.int .i64 0), (.int .u64 0)], [(0, 3)]) := by kernel_rfl
@[go_sem ↓] theorem xBS_46_1 (ps : List (Nat × Value)) (K : TypeId → List Value → Prop) : xBS Tryz.prog 46 1 ps.toArray K = xFill [(.int .i64 0), (.int .i64 0), (.int .u64 0)] [(0, 3)] ps fun cs => K 204 cs := xBS_of bS_46_1 ps K
theorem bS_47_1 : bSl Tryz.prog 47 1 = some (144, [(.int .i64 0), (.int .i64 0), (.int .u64 0), (.int .u64 0), (.int .u64 0), (.int .u64 0), (.int .u64 0), (.int .u64 0), (.int .u64 0), (.int .u64 0), (.int .u64 0), (.int .u64 0), (.int .u64 0), (.int .u64 0), (.int .u64 0), (.int .u64 0), (.int .i64 0), (.int .i64 0), (.int .i64 0), (.int .i64 0), (.int .i64 0), (.int .i64 0), (.int .i64 0), (.int .i64 0), (.int .i64 0), (.int .i64 0), (.int .i64 0), (.int .u64 0), (.int .i64 0), (.int .i64 0), (.int .i64 0), (.slice none 0 0), (.slice none 0 0)], [(0, 33)]) := by kernel_rfl
@[go_sem ↓] theorem xBS_47_1 (ps : List (Nat × Value)) (K : TypeId → List Value → Prop) : xBS Tryz.prog 47 1 ps.toArray K = xFill [(.int .i64 0), (.int .i64 0), (.int .u64 0), (.int .u64 0), (.int .u64 0), (.int .u64 0), (.int .u64 0), (.int .u64 0), (.int .u64 0), (.int .u64 0), (.int .u64 0), (.int .u64 0), (.int .u64 0), (.int .u64 0), (.int .u64 0), (.int .u64 0), (.int .i64 0), (.int .i64 0), (.int .i64 0), (.int .i64 0), (.int .i64 0), (.int .i64 0), (.int .i64 0), (.int .i64 0), (.int .i64 0), (.int .i64 0), (.int .i64 0), (.int .u64 0), (.int .i64 0), (.int .i64 0), (.int .i64 0), (.slice none 0 0), (.slice none 0 0)] [(0, 33)] ps fun cs => K 144 cs := xBS_of bS_47_1 ps K
theorem bS_101_1 : bSl Tryz.prog 101 1 = some (106, [(.int .i64 0), (.int .u64 0)], [(0, 2)]) := by kernel_rfl
@[go_sem ↓] theorem xBS_101_1 (ps : List (Nat × Value)) (K : TypeId → List Value → Prop) : xBS Tryz.prog 101 1 ps.toArray K = xFill [(.int .i64 0), (.int .u64 0)] [(0, 2)] ps fun cs => K 106 cs := xBS_of bS_101_1 ps K
theorem bS_101_2 : bSl Tryz.prog 101 2 = some (106, [(.int .i64 0), (.int .u64 0), (.int .i64 0), (.int .u64 0)], [(0, 2), (2, 2)]) := by kernel_rfl
@[go_sem ↓] theorem xBS_101_2 (ps : List (Nat × Value)) (K : TypeId → List Value → Prop) : xBS Tryz.prog 101 2 ps.toArray K = xFill [(.int .i64 0), (.int .u64 0), (.int .i64 0), (.int .u64 0)] [(0, 2), (2, 2)] ps fun cs => K 106 cs := xBS_of bS_101_2 ps K
theorem bS_118_2 : bSl Tryz.prog 118 2 = some (112, [(.pointer none), (.pointer none)], [(0, 1), (1, 1)]) := by kernel_rfl
@[go_sem ↓] theorem xBS_118_2 (ps : List (Nat × Value)) (K : TypeId → List Value → Prop) : xBS Tryz.prog 118 2 ps.toArray K = xFill [(.pointer none), (.pointer none)] [(0, 1), (1, 1)] ps fun cs => K 112 cs := xBS_of bS_118_2 ps K
theorem bS_312_3 : bSl Tryz.prog 312 3 = some (211, [.nilFunc, .nilFunc, .nilFunc], [(0, 1), (1, 1), (2, 1)]) := by kernel_rfl
@[go_sem ↓] theorem xBS_312_3 (ps : List (Nat × Value)) (K : TypeId → List Value → Prop) : xBS Tryz.prog 312 3 ps.toArray K = xFill [.nilFunc, .nilFunc, .nilFunc] [(0, 1), (1, 1), (2, 1)] ps fun cs => K 211 cs := xBS_of bS_312_3 ps K
theorem bS_324_2 : bSl Tryz.prog 324 2 = some (40, [(.int .i64 0), (.int .i64 0)], [(0, 1), (1, 1)]) := by kernel_rfl
@[go_sem ↓] theorem xBS_324_2 (ps : List (Nat × Value)) (K : TypeId → List Value → Prop) : xBS Tryz.prog 324 2 ps.toArray K = xFill [(.int .i64 0), (.int .i64 0)] [(0, 1), (1, 1)] ps fun cs => K 40 cs := xBS_of bS_324_2 ps K
theorem bS_324_4 : bSl Tryz.prog 324 4 = some (40, [(.int .i64 0), (.int .i64 0), (.int .i64 0), (.int .i64 0)], [(0, 1), (1, 1), (2, 1), (3, 1)]) := by kernel_rfl
@[go_sem ↓] theorem xBS_324_4 (ps : List (Nat × Value)) (K : TypeId → List Value → Prop) : xBS Tryz.prog 324 4 ps.toArray K = xFill [(.int .i64 0), (.int .i64 0), (.int .i64 0), (.int .i64 0)] [(0, 1), (1, 1), (2, 1), (3, 1)] ps fun cs => K 40 cs := xBS_of bS_324_4 ps K
theorem bS_330_5 : bSl Tryz.prog 330 5 = some (329, [(.pointer none), (.pointer none), (.pointer none), (.pointer none), (.pointer none)], [(0, 1), (1, 1), (2, 1), (3, 1), (4, 1)]) := by kernel_rfl
@[go_sem ↓] theorem xBS_330_5 (ps : List (Nat × Value)) (K : TypeId → List Value → Prop) : xBS Tryz.prog 330 5 ps.toArray K = xFill [(.pointer none), (.pointer none), (.pointer none), (.pointer none), (.pointer none)] [(0, 1), (1, 1), (2, 1), (3, 1), (4, 1)] ps fun cs => K 329 cs := xBS_of bS_330_5 ps K
theorem bS_330_14 : bSl Tryz.prog 330 14 = some (329, [(.pointer none), (.pointer none), (.pointer none), (.pointer none), (.pointer none), (.pointer none), (.pointer none), (.pointer none), (.pointer none), (.pointer none), (.pointer none), (.pointer none), (.pointer none), (.pointer none)], [(0, 1), (1, 1), (2, 1), (3, 1), (4, 1), (5, 1), (6, 1), (7, 1), (8, 1), (9, 1), (10, 1), (11, 1), (12, 1), (13, 1)]) := by kernel_rfl
@[go_sem ↓] theorem xBS_330_14 (ps : List (Nat × Value)) (K : TypeId → List Value → Prop) : xBS Tryz.prog 330 14 ps.toArray K = xFill [(.pointer none), (.pointer none), (.pointer none), (.pointer none), (.pointer none), (.pointer none), (.pointer none), (.pointer none), (.pointer none), (.pointer none), (.pointer none), (.pointer none), (.pointer none), (.pointer none)] [(0, 1), (1, 1), (2, 1), (3, 1), (4, 1), (5, 1), (6, 1), (7, 1), (8, 1), (9, 1), (10, 1), (11, 1), (12, 1), (13, 1)] ps fun cs => K 329 cs := xBS_of bS_330_14 ps K
theorem bS_406_6 : bSl Tryz.prog 406 6 = some (4, [(.bool false), (.bool false), (.bool false), (.bool false), (.bool false), (.bool false)], [(0, 1), (1, 1), (2, 1), (3, 1), (4, 1), (5, 1)]) := by kernel_rfl
@[go_sem ↓] theorem xBS_406_6 (ps : List (Nat × Value)) (K : TypeId → List Value → Prop) : xBS Tryz.prog 406 6 ps.toArray K = xFill [(.bool false), (.bool false), (.bool false), (.bool false), (.bool false), (.bool false)] [(0, 1), (1, 1), (2, 1), (3, 1), (4, 1), (5, 1)] ps fun cs => K 4 cs := xBS_of bS_406_6 ps K
theorem bS_406_7 : bSl Tryz.prog 406 7 = some (4, [(.bool false), (.bool false), (.bool false), (.bool false), (.bool false), (.bool false), (.bool false)], [(0, 1), (1, 1), (2, 1), (3, 1), (4, 1), (5, 1), (6, 1)]) := by kernel_rfl
@[go_sem ↓] theorem xBS_406_7 (ps : List (Nat × Value)) (K : TypeId → List Value → Prop) : xBS Tryz.prog 406 7 ps.toArray K = xFill [(.bool false), (.bool false), (.bool false), (.bool false), (.bool false), (.bool false), (.bool false)] [(0, 1), (1, 1), (2, 1), (3, 1), (4, 1), (5, 1), (6, 1)] ps fun cs => K 4 cs := xBS_of bS_406_7 ps K
theorem bS_406_12 : bSl Tryz.prog 406 12 = some (4, [(.bool false), (.bool false), (.bool false), (.bool false), (.bool false), (.bool false), (.bool false), (.bool false), (.bool false), (.bool false), (.bool false), (.bool false)], [(0, 1), (1, 1), (2, 1), (3, 1), (4, 1), (5, 1), (6, 1), (7, 1), (8, 1), (9, 1), (10, 1), (11, 1)]) := by kernel_rfl
@[go_sem ↓] theorem xBS_406_12 (ps : List (Nat × Value)) (K : TypeId → List Value → Prop) : xBS Tryz.prog 406 12 ps.toArray K = xFill [(.bool false), (.bool false), (.bool false), (.bool false), (.bool false), (.bool false), (.bool false), (.bool false), (.bool false), (.bool false), (.bool false), (.bool false)] [(0, 1), (1, 1), (2, 1), (3, 1), (4, 1), (5, 1), (6, 1), (7, 1), (8, 1), (9, 1), (10, 1), (11, 1)] ps fun cs => K 4 cs := xBS_of bS_406_12 ps K
theorem bS_438_10 : bSl Tryz.prog 438 10 = some (333, [(.pointer none), (.pointer none), (.pointer none), (.pointer none), (.pointer none), (.pointer none), (.pointer none), (.pointer none), (.pointer none), (.pointer none)], [(0, 1), (1, 1), (2, 1), (3, 1), (4, 1), (5, 1), (6, 1), (7, 1), (8, 1), (9, 1)]) := by kernel_rfl
@[go_sem ↓] theorem xBS_438_10 (ps : List (Nat × Value)) (K : TypeId → List Value → Prop) : xBS Tryz.prog 438 10 ps.toArray K = xFill [(.pointer none), (.pointer none), (.pointer none), (.pointer none), (.pointer none), (.pointer none), (.pointer none), (.pointer none), (.pointer none), (.pointer none)] [(0, 1), (1, 1), (2, 1), (3, 1), (4, 1), (5, 1), (6, 1), (7, 1), (8, 1), (9, 1)] ps fun cs => K 333 cs := xBS_of bS_438_10 ps K
theorem fO_24_0 : fOff Tryz.prog 24 0 = some 0 := by kernel_rfl
@[go_sem ↓] theorem xFO_24_0 (K : Nat → Prop) : xFO Tryz.prog 24 0 K = K 0 := xFO_of fO_24_0 K
theorem fO_24_1 : fOff Tryz.prog 24 1 = some 1 := by kernel_rfl
@[go_sem ↓] theorem xFO_24_1 (K : Nat → Prop) : xFO Tryz.prog 24 1 K = K 1 := xFO_of fO_24_1 K
theorem fO_24_2 : fOff Tryz.prog 24 2 = some 2 := by kernel_rfl
@[go_sem ↓] theorem xFO_24_2 (K : Nat → Prop) : xFO Tryz.prog 24 2 K = K 2 := xFO_of fO_24_2 K
theorem fO_24_3 : fOff Tryz.prog 24 3 = some 3 := by kernel_rfl
@[go_sem ↓] theorem xFO_24_3 (K : Nat → Prop) : xFO Tryz.prog 24 3 K = K 3 := xFO_of fO_24_3 K
theorem fO_24_4 : fOff Tryz.prog 24 4 = some 4 := by kernel_rfl
@[go_sem ↓] theorem xFO_24_4 (K : Nat → Prop) : xFO Tryz.prog 24 4 K = K 4 := xFO_of fO_24_4 K
theorem fO_24_5 : fOff Tryz.prog 24 5 = some 5 := by kernel_rfl
@[go_sem ↓] theorem xFO_24_5 (K : Nat → Prop) : xFO Tryz.prog 24 5 K = K 5 := xFO_of fO_24_5 K
theorem fO_24_6 : fOff Tryz.prog 24 6 = some 6 := by kernel_rfl
@[go_sem ↓] theorem xFO_24_6 (K : Nat → Prop) : xFO Tryz.prog 24 6 K = K 6 := xFO_of fO_24_6 K
theorem fO_24_7 : fOff Tryz.prog 24 7 = some 7 := by kernel_rfl
@[go_sem ↓] theorem xFO_24_7 (K : Nat → Prop) : xFO Tryz.prog 24 7 K = K 7 := xFO_of fO_24_7 K
theorem fO_24_8 : fOff Tryz.prog 24 8 = some 8 := by kernel_rfl
@[go_sem ↓] theorem xFO_24_8 (K : Nat → Prop) : xFO Tryz.prog 24 8 K = K 8 := xFO_of fO_24_8 K
theorem fO_24_9 : fOff Tryz.prog 24 9 = some 9 := by kernel_rfl
@[go_sem ↓] theorem xFO_24_9 (K : Nat → Prop) : xFO Tryz.prog 24 9 K = K 9 := xFO_of fO_24_9 K
theorem fO_24_10 : fOff Tryz.prog 24 10 = some 10 := by kernel_rfl
@[go_sem ↓] theorem xFO_24_10 (K : Nat → Prop) : xFO Tryz.prog 24 10 K = K 10 := xFO_of fO_24_10 K
theorem fO_24_11 : fOff Tryz.prog 24 11 = some 11 := by kernel_rfl
@[go_sem ↓] theorem xFO_24_11 (K : Nat → Prop) : xFO Tryz.prog 24 11 K = K 11 := xFO_of fO_24_11 K
theorem fO_24_12 : fOff Tryz.prog 24 12 = some 12 := by kernel_rfl
@[go_sem ↓] theorem xFO_24_12 (K : Nat → Prop) : xFO Tryz.prog 24 12 K = K 12 := xFO_of fO_24_12 K
theorem fO_24_13 : fOff Tryz.prog 24 13 = some 13 := by kernel_rfl
@[go_sem ↓] theorem xFO_24_13 (K : Nat → Prop) : xFO Tryz.prog 24 13 K = K 13 := xFO_of fO_24_13 K
theorem fO_24_14 : fOff Tryz.prog 24 14 = some 14 := by kernel_rfl
@[go_sem ↓] theorem xFO_24_14 (K : Nat → Prop) : xFO Tryz.prog 24 14 K = K 14 := xFO_of fO_24_14 K
theorem fO_24_15 : fOff Tryz.prog 24 15 = some 15 := by kernel_rfl
@[go_sem ↓] theorem xFO_24_15 (K : Nat → Prop) : xFO Tryz.prog 24 15 K = K 15 := xFO_of fO_24_15 K
theorem fO_24_16 : fOff Tryz.prog 24 16 = some 16 := by kernel_rfl
@[go_sem ↓] theorem xFO_24_16 (K : Nat → Prop) : xFO Tryz.prog 24 16 K = K 16 := xFO_of fO_24_16 K
theorem fO_24_17 : fOff Tryz.prog 24 17 = some 17 := by kernel_rfl
@[go_sem ↓] theorem xFO_24_17 (K : Nat → Prop) : xFO Tryz.prog 24 17 K = K 17 := xFO_of fO_24_17 K
theorem fO_24_18 : fOff Tryz.prog 24 18 = some 18 := by kernel_rfl
@[go_sem ↓] theorem xFO_24_18 (K : Nat → Prop) : xFO Tryz.prog 24 18 K = K 18 := xFO_of fO_24_18 K
theorem fO_24_19 : fOff Tryz.prog 24 19 = some 19 := by kernel_rfl
@[go_sem ↓] theorem xFO_24_19 (K : Nat → Prop) : xFO Tryz.prog 24 19 K = K 19 := xFO_of fO_24_19 K
theorem fO_24_20 : fOff Tryz.prog 24 20 = some 20 := by kernel_rfl
@[go_sem ↓] theorem xFO_24_20 (K : Nat → Prop) : xFO Tryz.prog 24 20 K = K 20 := xFO_of fO_24_20 K
theorem fO_24_21 : fOff Tryz.prog 24 21 = some 21 := by kernel_rfl
@[go_sem ↓] theorem xFO_24_21 (K : Nat → Prop) : xFO Tryz.prog 24 21 K = K 21 := xFO_of fO_24_21 K
theorem fO_24_22 : fOff Tryz.prog 24 22 = some 22 := by kernel_rfl
@[go_sem ↓] theorem xFO_24_22 (K : Nat → Prop) : xFO Tryz.prog 24 22 K = K 22 := xFO_of fO_24_22 K
theorem fO_24_23 : fOff Tryz.prog 24 23 = some 23 := by kernel_rfl
@[go_sem ↓] theorem xFO_24_23 (K : Nat → Prop) : xFO Tryz.prog 24 23 K = K 23 := xFO_of fO_24_23 K
theorem fO_34_0 : fOff Tryz.prog 34 0 = some 0 := by kernel_rfl
@[go_sem ↓] theorem xFO_34_0 (K : Nat → Prop) : xFO Tryz.prog 34 0 K = K 0 := xFO_of fO_34_0 K
theorem fO_34_1 : fOff Tryz.prog 34 1 = some 24 := by kernel_rfl
@[go_sem ↓] theorem xFO_34_1 (K : Nat → Prop) : xFO Tryz.prog 34 1 K = K 24 := xFO_of fO_34_1 K
theorem fO_34_2 : fOff Tryz.prog 34 2 = some 25 := by kernel_rfl
@[go_sem ↓] theorem xFO_34_2 (K : Nat → Prop) : xFO Tryz.prog 34 2 K = K 25 := xFO_of fO_34_2 K
theorem fO_34_3 : fOff Tryz.prog 34 3 = some 26 := by kernel_rfl
@[go_sem ↓] theorem xFO_34_3 (K : Nat → Prop) : xFO Tryz.prog 34 3 K = K 26 := xFO_of fO_34_3 K
theorem fO_34_4 : fOff Tryz.prog 34 4 = some 27 := by kernel_rfl
@[go_sem ↓] theorem xFO_34_4 (K : Nat → Prop) : xFO Tryz.prog 34 4 K = K 27 := xFO_of fO_34_4 K
theorem fO_34_5 : fOff Tryz.prog 34 5 = some 28 := by kernel_rfl
@[go_sem ↓] theorem xFO_34_5 (K : Nat → Prop) : xFO Tryz.prog 34 5 K = K 28 := xFO_of fO_34_5 K
theorem fO_34_6 : fOff Tryz.prog 34 6 = some 29 := by kernel_rfl
@[go_sem ↓] theorem xFO_34_6 (K : Nat → Prop) : xFO Tryz.prog 34 6 K = K 29 := xFO_of fO_34_6 K
theorem fO_34_7 : fOff Tryz.prog 34 7 = some 30 := by kernel_rfl
@[go_sem ↓] theorem xFO_34_7 (K : Nat → Prop) : xFO Tryz.prog 34 7 K = K 30 := xFO_of fO_34_7 K
theorem fO_34_8 : fOff Tryz.prog 34 8 = some 31 := by kernel_rfl
@[go_sem ↓] theorem xFO_34_8 (K : Nat → Prop) : xFO Tryz.prog 34 8 K = K 31 := xFO_of fO_34_8 K
theorem fO_34_9 : fOff Tryz.prog 34 9 = some 32 := by kernel_rfl
@[go_sem ↓] theorem xFO_34_9 (K : Nat → Prop) : xFO Tryz.prog 34 9 K = K 32 := xFO_of fO_34_9 K
theorem fO_34_10 : fOff Tryz.prog 34 10 = some 33 := by kernel_rfl
@[go_sem ↓] theorem xFO_34_10 (K : Nat → Prop) : xFO Tryz.prog 34 10 K = K 33 := xFO_of fO_34_10 K
theorem fO_34_11 : fOff Tryz.prog 34 11 = some 34 := by kernel_rfl
@[go_sem ↓] theorem xFO_34_11 (K : Nat → Prop) : xFO Tryz.prog 34 11 K = K 34 := xFO_of fO_34_11 K
theorem fO_34_12 : fOff Tryz.prog 34 12 = some 35 := by kernel_rfl
@[go_sem ↓] theorem xFO_34_12 (K : Nat → Prop) : xFO Tryz.prog 34 12 K = K 35 := xFO_of fO_34_12 K
theorem fO_34_13 : fOff Tryz.prog 34 13 = some 36 := by kernel_rfl
@[go_sem ↓] theorem xFO_34_13 (K : Nat → Prop) : xFO Tryz.prog 34 13 K = K 36 := xFO_of fO_34_13 K
theorem fO_34_14 : fOff Tryz.prog 34 14 = some 37 := by kernel_rfl
@[go_sem ↓] theorem xFO_34_14 (K : Nat → Prop) : xFO Tryz.prog 34 14 K = K 37 := xFO_of fO_34_14 K
theorem fO_34_15 : fOff Tryz.prog 34 15 = some 38 := by kernel_rfl
@[go_sem ↓] theorem xFO_34_15 (K : Nat → Prop) : xFO Tryz.prog 34 15 K = K 38 := xFO_of fO_34_15 K
theorem fO_34_16 : fOff Tryz.prog 34 16 = some 39 := by kernel_rfl
@[go_sem ↓] theorem xFO_34_16 (K : Nat → Prop) : xFO Tryz.prog 34 16 K = K 39 := xFO_of fO_34_16 K
theorem fO_34_17 : fOff Tryz.prog 34 17 = some 40 := by kernel_rfl
@[go_sem ↓] theorem xFO_34_17 (K : Nat → Prop) : xFO Tryz.prog 34 17 K = K 40 := xFO_of fO_34_17 K
theorem fO_36_0 : fOff Tryz.prog 36 0 = some 0 := by kernel_rfl
@[go_sem ↓] theorem xFO_36_0 (K : Nat → Prop) : xFO Tryz.prog 36 0 K = K 0 := xFO_of fO_36_0 K
theorem fO_36_1 : fOff Tryz.prog 36 1 = some 1 := by kernel_rfl
@[go_sem ↓] theorem xFO_36_1 (K : Nat → Prop) : xFO Tryz.prog 36 1 K = K 1 := xFO_of fO_36_1 K
theorem fO_36_2 : fOff Tryz.prog 36 2 = some 2 := by kernel_rfl
@[go_sem ↓] theorem xFO_36_2 (K : Nat → Prop) : xFO Tryz.prog 36 2 K = K 2 := xFO_of fO_36_2 K
theorem fO_36_3 : fOff Tryz.prog 36 3 = some 3 := by kernel_rfl
@[go_sem ↓] theorem xFO_36_3 (K : Nat → Prop) : xFO Tryz.prog 36 3 K = K 3 := xFO_of fO_36_3 K
theorem fO_43_0 : fOff Tryz.prog 43 0 = some 0 := by kernel_rfl
@[go_sem ↓] theorem xFO_43_0 (K : Nat → Prop) : xFO Tryz.prog 43 0 K = K 0 := xFO_of fO_43_0 K
theorem fO_43_1 : fOff Tryz.prog 43 1 = some 1 := by kernel_rfl
@[go_sem ↓] theorem xFO_43_1 (K : Nat → Prop) : xFO Tryz.prog 43 1 K = K 1 := xFO_of fO_43_1 K
theorem fO_43_2 : fOff Tryz.prog 43 2 = some 2 := by kernel_rfl
@[go_sem ↓] theorem xFO_43_2 (K : Nat → Prop) : xFO Tryz.prog 43 2 K = K 2 := xFO_of fO_43_2 K
theorem fO_43_3 : fOff Tryz.prog 43 3 = some 3 := by kernel_rfl
@[go_sem ↓] theorem xFO_43_3 (K : Nat → Prop) : xFO Tryz.prog 43 3 K = K 3 := xFO_of fO_43_3 K
theorem fO_43_4 : fOff Tryz.prog 43 4 = some 4 := by kernel_rfl
@[go_sem ↓] theorem xFO_43_4 (K : Nat → Prop) : xFO Tryz.prog 43 4 K = K 4 := xFO_of fO_43_4 K
theorem fO_43_5 : fOff Tryz.prog 43 5 = some 5 := by kernel_rfl
@[go_sem ↓] theorem xFO_43_5 (K : Nat → Prop) : xFO Tryz.prog 43 5 K = K 5 := xFO_of fO_43_5 K
theorem fO_43_6 : fOff Tryz.prog 43 6 = some 6 := by kernel_rfl
@[go_sem ↓] theorem xFO_43_6 (K : Nat → Prop) : xFO Tryz.prog 43 6 K = K 6 := xFO_of fO_43_6 K
theorem fO_43_7 : fOff Tryz.prog 43 7 = some 7 := by kernel_rfl
@[go_sem ↓] theorem xFO_43_7 (K : Nat → Prop) : xFO Tryz.prog 43 7 K = K 7 := xFO_of fO_43_7 K
theorem fO_43_8 : fOff Tryz.prog 43 8 = some 8 := by kernel_rfl
@[go_sem ↓] theorem xFO_43_8 (K : Nat → Prop) : xFO Tryz.prog 43 8 K = K 8 := xFO_of fO_43_8 K
theorem fO_43_9 : fOff Tryz.prog 43 9 = some 9 := by kernel_rfl
@[go_sem ↓] theorem xFO_43_9 (K : Nat → Prop) : xFO Tryz.prog 43 9 K = K 9 := xFO_of fO_43_9 K
theorem fO_43_10 : fOff Tryz.prog 43 10 = some 10 := by kernel_rfl
@[go_sem ↓] theorem xFO_43_10 (K : Nat → Prop) : xFO Tryz.prog 43 10 K = K 10 := xFO_of fO_43_10 K
theorem fO_43_11 : fOff Tryz.prog 43 11 = some 11 := by kernel_rfl
@[go_sem ↓] theorem xFO_43_11 (K : Nat → Prop) : xFO Tryz.prog 43 11 K = K 11 := xFO_of fO_43_11 K
theorem fO_43_12 : fOff Tryz.prog 43 12 = some 12 := by kernel_rfl
@[go_sem ↓] theorem xFO_43_12 (K : Nat → Prop) : xFO Tryz.prog 43 12 K = K 12 := xFO_of fO_43_12 K
theorem fO_43_13 : fOff Tryz.prog 43 13 = some 13 := by kernel_rfl
@[go_sem ↓] theorem xFO_43_13 (K : Nat → Prop) : xFO Tryz.prog 43 13 K = K 13 := xFO_of fO_43_13 K
theorem fO_43_14 : fOff Tryz.prog 43 14 = some 14 := by kernel_rfl
@[go_sem ↓] theorem xFO_43_14 (K : Nat → Prop) : xFO Tryz.prog 43 14 K = K 14 := xFO_of fO_43_14 K
theorem fO_43_15 : fOff Tryz.prog 43 15 = some 15 := by kernel_rfl
@[go_sem ↓] theorem xFO_43_15 (K : Nat → Prop) : xFO Tryz.prog 43 15 K = K 15 := xFO_of fO_43_15 K
theorem fO_43_16 : fOff Tryz.prog 43 16 = some 16 := by kernel_rfl
@[go_sem ↓] theorem xFO_43_16 (K : Nat → Prop) : xFO Tryz.prog 43 16 K = K 16 := xFO_of fO_43_16 K
theorem fO_43_17 : fOff Tryz.prog 43 17 = some 17 := by kernel_rfl
@[go_sem ↓] theorem xFO_43_17 (K : Nat → Prop) : xFO Tryz.prog 43 17 K = K 17 := xFO_of fO_43_17 K
theorem fO_43_18 : fOff Tryz.prog 43 18 = some 18 := by kernel_rfl
@[go_sem ↓] theorem xFO_43_18 (K : Nat → Prop) : xFO Tryz.prog 43 18 K = K 18 := xFO_of fO_43_18 K
theorem fO_43_19 : fOff Tryz.prog 43 19 = some 19 := by kernel_rfl
@[go_sem ↓] theorem xFO_43_19 (K : Nat → Prop) : xFO Tryz.prog 43 19 K = K 19 := xFO_of fO_43_19 K
theorem fO_43_20 : fOff Tryz.prog 43 20 = some 20 := by kernel_rfl
@[go_sem ↓] theorem xFO_43_20 (K : Nat → Prop) : xFO Tryz.prog 43 20 K = K 20 := xFO_of fO_43_20 K
theorem fO_43_21 : fOff Tryz.prog 43 21 = some 21 := by kernel_rfl
@[go_sem ↓] theorem xFO_43_21 (K : Nat → Prop) : xFO Tryz.prog 43 21 K = K 21 := xFO_of fO_43_21 K
theorem fO_43_22 : fOff Tryz.prog 43 22 = some 22 := by kernel_rfl
@[go_sem ↓] theorem xFO_43_22 (K : Nat → Prop) : xFO Tryz.prog 43 22 K = K 22 := xFO_of fO_43_22 K
theorem fO_43_23 : fOff Tryz.prog 43 23 = some 23 := by kernel_rfl
@[go_sem ↓] theorem xFO_43_23 (K : Nat → Prop) : xFO Tryz.prog 43 23 K = K 23 := xFO_of fO_43_23 K
theorem fO_49_0 : fOff Tryz.prog 49 0 = some 0 := by kernel_rfl
@[go_sem ↓] theorem xFO_49_0 (K : Nat → Prop) : xFO Tryz.prog 49 0 K = K 0 := xFO_of fO_49_0 K
theorem fO_49_1 : fOff Tryz.prog 49 1 = some 24 := by kernel_rfl
@[go_sem ↓] theorem xFO_49_1 (K : Nat → Prop) : xFO Tryz.prog 49 1 K = K 24 := xFO_of fO_49_1 K
theorem fO_49_2 : fOff Tryz.prog 49 2 = some 25 := by kernel_rfl
@[go_sem ↓] theorem xFO_49_2 (K : Nat → Prop) : xFO Tryz.prog 49 2 K = K 25 := xFO_of fO_49_2 K
theorem fO_49_3 : fOff Tryz.prog 49 3 = some 26 := by kernel_rfl
@[go_sem ↓] theorem xFO_49_3 (K : Nat → Prop) : xFO Tryz.prog 49 3 K = K 26 := xFO_of fO_49_3 K
theorem fO_49_4 : fOff Tryz.prog 49 4 = some 27 := by kernel_rfl
@[go_sem ↓] theorem xFO_49_4 (K : Nat → Prop) : xFO Tryz.prog 49 4 K = K 27 := xFO_of fO_49_4 K
theorem fO_49_5 : fOff Tryz.prog 49 5 = some 28 := by kernel_rfl
@[go_sem ↓] theorem xFO_49_5 (K : Nat → Prop) : xFO Tryz.prog 49 5 K = K 28 := xFO_of fO_49_5 K
theorem fO_49_6 : fOff Tryz.prog 49 6 = some 29 := by kernel_rfl
@[go_sem ↓] theorem xFO_49_6 (K : Nat → Prop) : xFO Tryz.prog 49 6 K = K 29 := xFO_of fO_49_6 K
theorem fO_49_7 : fOff Tryz.prog 49 7 = some 30 := by kernel_rfl
@[go_sem ↓] theorem xFO_49_7 (K : Nat → Prop) : xFO Tryz.prog 49 7 K = K 30 := xFO_of fO_49_7 K
theorem fO_49_8 : fOff Tryz.prog 49 8 = some 31 := by kernel_rfl
@[go_sem ↓] theorem xFO_49_8 (K : Nat → Prop) : xFO Tryz.prog 49 8 K = K 31 := xFO_of fO_49_8 K
theorem fO_49_9 : fOff Tryz.prog 49 9 = some 32 := by kernel_rfl
@[go_sem ↓] theorem xFO_49_9 (K : Nat → Prop) : xFO Tryz.prog 49 9 K = K 32 := xFO_of fO_49_9 K
theorem fO_49_10 : fOff Tryz.prog 49 10 = some 33 := by kernel_rfl
@[go_sem ↓] theorem xFO_49_10 (K : Nat → Prop) : xFO Tryz.prog 49 10 K = K 33 := xFO_of fO_49_10 K
theorem fO_49_11 : fOff Tryz.prog 49 11 = some 34 := by kernel_rfl
@[go_sem ↓] theorem xFO_49_11 (K : Nat → Prop) : xFO Tryz.prog 49 11 K = K 34 := xFO_of fO_49_11 K
theorem fO_49_12 : fOff Tryz.prog 49 12 = some 35 := by kernel_rfl
@[go_sem ↓] theorem xFO_49_12 (K : Nat → Prop) : xFO Tryz.prog 49 12 K = K 35 := xFO_of fO_49_12 K
theorem fO_49_13 : fOff Tryz.prog 49 13 = some 36 := by kernel_rfl
@[go_sem ↓] theorem xFO_49_13 (K : Nat → Prop) : xFO Tryz.prog 49 13 K = K 36 := xFO_of fO_49_13 K
theorem fO_49_14 : fOff Tryz.prog 49 14 = some 37 := by kernel_rfl
@[go_sem ↓] theorem xFO_49_14 (K : Nat → Prop) : xFO Tryz.prog 49 14 K = K 37 := xFO_of fO_49_14 K
theorem fO_49_15 : fOff Tryz.prog 49 15 = some 38 := by kernel_rfl
@[go_sem ↓] theorem xFO_49_15 (K : Nat → Prop) : xFO Tryz.prog 49 15 K = K 38 := xFO_of fO_49_15 K
theorem fO_49_16 : fOff Tryz.prog 49 16 = some 39 := by kernel_rfl
@[go_sem ↓] theorem xFO_49_16 (K : Nat → Prop) : xFO Tryz.prog 49 16 K = K 39 := xFO_of fO_49_16 K
theorem fO_49_17 : fOff Tryz.prog 49 17 = some 40 := by kernel_rfl
@[go_sem ↓] theorem xFO_49_17 (K : Nat → Prop) : xFO Tryz.prog 49 17 K = K 40 := xFO_of fO_49_17 K
theorem fO_53_0 : fOff Tryz.prog 53 0 = some 0 := by kernel_rfl
@[go_sem ↓] theorem xFO_53_0 (K : Nat → Prop) : xFO Tryz.prog 53 0 K = K 0 := xFO_of fO_53_0 K
theorem fO_53_1 : fOff Tryz.prog 53 1 = some 1 := by kernel_rfl
@[go_sem ↓] theorem xFO_53_1 (K : Nat → Prop) : xFO Tryz.prog 53 1 K = K 1 := xFO_of fO_53_1 K
theorem fO_53_2 : fOff Tryz.prog 53 2 = some 2 := by kernel_rfl
@[go_sem ↓] theorem xFO_53_2 (K : Nat → Prop) : xFO Tryz.prog 53 2 K = K 2 := xFO_of fO_53_2 K
theorem fO_53_3 : fOff Tryz.prog 53 3 = some 3 := by kernel_rfl
@[go_sem ↓] theorem xFO_53_3 (K : Nat → Prop) : xFO Tryz.prog 53 3 K = K 3 := xFO_of fO_53_3 K
theorem fO_86_0 : fOff Tryz.prog 86 0 = some 0 := by kernel_rfl
@[go_sem ↓] theorem xFO_86_0 (K : Nat → Prop) : xFO Tryz.prog 86 0 K = K 0 := xFO_of fO_86_0 K
theorem fO_86_1 : fOff Tryz.prog 86 1 = some 1 := by kernel_rfl
@[go_sem ↓] theorem xFO_86_1 (K : Nat → Prop) : xFO Tryz.prog 86 1 K = K 1 := xFO_of fO_86_1 K
theorem fO_86_4 : fOff Tryz.prog 86 4 = some 4 := by kernel_rfl
@[go_sem ↓] theorem xFO_86_4 (K : Nat → Prop) : xFO Tryz.prog 86 4 K = K 4 := xFO_of fO_86_4 K
theorem fO_87_0 : fOff Tryz.prog 87 0 = some 0 := by kernel_rfl
@[go_sem ↓] theorem xFO_87_0 (K : Nat → Prop) : xFO Tryz.prog 87 0 K = K 0 := xFO_of fO_87_0 K
theorem fO_87_1 : fOff Tryz.prog 87 1 = some 1 := by kernel_rfl
@[go_sem ↓] theorem xFO_87_1 (K : Nat → Prop) : xFO Tryz.prog 87 1 K = K 1 := xFO_of fO_87_1 K
theorem fO_87_4 : fOff Tryz.prog 87 4 = some 4 := by kernel_rfl
@[go_sem ↓] theorem xFO_87_4 (K : Nat → Prop) : xFO Tryz.prog 87 4 K = K 4 := xFO_of fO_87_4 K
theorem fO_92_0 : fOff Tryz.prog 92 0 = some 0 := by kernel_rfl
@[go_sem ↓] theorem xFO_92_0 (K : Nat → Prop) : xFO Tryz.prog 92 0 K = K 0 := xFO_of fO_92_0 K
theorem fO_92_1 : fOff Tryz.prog 92 1 = some 1 := by kernel_rfl
@[go_sem ↓] theorem xFO_92_1 (K : Nat → Prop) : xFO Tryz.prog 92 1 K = K 1 := xFO_of fO_92_1 K
theorem fO_92_2 : fOff Tryz.prog 92 2 = some 2 := by kernel_rfl
@[go_sem ↓] theorem xFO_92_2 (K : Nat → Prop) : xFO Tryz.prog 92 2 K = K 2 := xFO_of fO_92_2 K
theorem fO_92_3 : fOff Tryz.prog 92 3 = some 3 := by kernel_rfl
@[go_sem ↓] theorem xFO_92_3 (K : Nat → Prop) : xFO Tryz.prog 92 3 K = K 3 := xFO_of fO_92_3 K
theorem fO_94_0 : fOff Tryz.prog 94 0 = some 0 := by kernel_rfl
@[go_sem ↓] theorem xFO_94_0 (K : Nat → Prop) : xFO Tryz.prog 94 0 K = K 0 := xFO_of fO_94_0 K
theorem fO_94_1 : fOff Tryz.prog 94 1 = some 4 := by kernel_rfl
@[go_sem ↓] theorem xFO_94_1 (K : Nat → Prop) : xFO Tryz.prog 94 1 K = K 4 := xFO_of fO_94_1 K
theorem fO_94_2 : fOff Tryz.prog 94 2 = some 5 := by kernel_rfl
@[go_sem ↓] theorem xFO_94_2 (K : Nat → Prop) : xFO Tryz.prog 94 2 K = K 5 := xFO_of fO_94_2 K
theorem fO_103_0 : fOff Tryz.prog 103 0 = some 0 := by kernel_rfl
@[go_sem ↓] theorem xFO_103_0 (K : Nat → Prop) : xFO Tryz.prog 103 0 K = K 0 := xFO_of fO_103_0 K
theorem fO_103_1 : fOff Tryz.prog 103 1 = some 24 := by kernel_rfl
@[go_sem ↓] theorem xFO_103_1 (K : Nat → Prop) : xFO Tryz.prog 103 1 K = K 24 := xFO_of fO_103_1 K
theorem fO_103_2 : fOff Tryz.prog 103 2 = some 25 := by kernel_rfl
@[go_sem ↓] theorem xFO_103_2 (K : Nat → Prop) : xFO Tryz.prog 103 2 K = K 25 := xFO_of fO_103_2 K
theorem fO_103_3 : fOff Tryz.prog 103 3 = some 26 := by kernel_rfl
@[go_sem ↓] theorem xFO_103_3 (K : Nat → Prop) : xFO Tryz.prog 103 3 K = K 26 := xFO_of fO_103_3 K
theorem fO_106_0 : fOff Tryz.prog 106 0 = some 0 := by kernel_rfl
@[go_sem ↓] theorem xFO_106_0 (K : Nat → Prop) : xFO Tryz.prog 106 0 K = K 0 := xFO_of fO_106_0 K
theorem fO_106_1 : fOff Tryz.prog 106 1 = some 1 := by kernel_rfl
@[go_sem ↓] theorem xFO_106_1 (K : Nat → Prop) : xFO Tryz.prog 106 1 K = K 1 := xFO_of fO_106_1 K
theorem fO_109_0 : fOff Tryz.prog 109 0 = some 0 := by kernel_rfl
@[go_sem ↓] theorem xFO_109_0 (K : Nat → Prop) : xFO Tryz.prog 109 0 K = K 0 := xFO_of fO_109_0 K
theorem fO_109_1 : fOff Tryz.prog 109 1 = some 1 := by kernel_rfl
@[go_sem ↓] theorem xFO_109_1 (K : Nat → Prop) : xFO Tryz.prog 109 1 K = K 1 := xFO_of fO_109_1 K
theorem fO_109_2 : fOff Tryz.prog 109 2 = some 2 := by kernel_rfl
@[go_sem ↓] theorem xFO_109_2 (K : Nat → Prop) : xFO Tryz.prog 109 2 K = K 2 := xFO_of fO_109_2 K
theorem fO_114_0 : fOff Tryz.prog 114 0 = some 0 := by kernel_rfl
@[go_sem ↓] theorem xFO_114_0 (K : Nat → Prop) : xFO Tryz.prog 114 0 K = K 0 := xFO_of fO_114_0 K
theorem fO_114_1 : fOff Tryz.prog 114 1 = some 1 := by kernel_rfl
@[go_sem ↓] theorem xFO_114_1 (K : Nat → Prop) : xFO Tryz.prog 114 1 K = K 1 := xFO_of fO_114_1 K
theorem fO_114_2 : fOff Tryz.prog 114 2 = some 2 := by kernel_rfl
@[go_sem ↓] theorem xFO_114_2 (K : Nat → Prop) : xFO Tryz.prog 114 2 K = K 2 := xFO_of fO_114_2 K
theorem fO_117_0 : fOff Tryz.prog 117 0 = some 0 := by kernel_rfl
@[go_sem ↓] theorem xFO_117_0 (K : Nat → Prop) : xFO Tryz.prog 117 0 K = K 0 := xFO_of fO_117_0 K
theorem fO_117_1 : fOff Tryz.prog 117 1 = some 3 := by kernel_rfl
@[go_sem ↓] theorem xFO_117_1 (K : Nat → Prop) : xFO Tryz.prog 117 1 K = K 3 := xFO_of fO_117_1 K
theorem fO_117_2 : fOff Tryz.prog 117 2 = some 4 := by kernel_rfl
@[go_sem ↓] theorem xFO_117_2 (K : Nat → Prop) : xFO Tryz.prog 117 2 K = K 4 := xFO_of fO_117_2 K
theorem fO_127_0 : fOff Tryz.prog 127 0 = some 0 := by kernel_rfl
@[go_sem ↓] theorem xFO_127_0 (K : Nat → Prop) : xFO Tryz.prog 127 0 K = K 0 := xFO_of fO_127_0 K
theorem fO_127_1 : fOff Tryz.prog 127 1 = some 1 := by kernel_rfl
@[go_sem ↓] theorem xFO_127_1 (K : Nat → Prop) : xFO Tryz.prog 127 1 K = K 1 := xFO_of fO_127_1 K
theorem fO_127_2 : fOff Tryz.prog 127 2 = some 2 := by kernel_rfl
@[go_sem ↓] theorem xFO_127_2 (K : Nat → Prop) : xFO Tryz.prog 127 2 K = K 2 := xFO_of fO_127_2 K
theorem fO_127_3 : fOff Tryz.prog 127 3 = some 26 := by kernel_rfl
@[go_sem ↓] theorem xFO_127_3 (K : Nat → Prop) : xFO Tryz.prog 127 3 K = K 26 := xFO_of fO_127_3 K
theorem fO_127_4 : fOff Tryz.prog 127 4 = some 27 := by kernel_rfl
@[go_sem ↓] theorem xFO_127_4 (K : Nat → Prop) : xFO Tryz.prog 127 4 K = K 27 := xFO_of fO_127_4 K
theorem fO_127_5 : fOff Tryz.prog 127 5 = some 28 := by kernel_rfl
@[go_sem ↓] theorem xFO_127_5 (K : Nat → Prop) : xFO Tryz.prog 127 5 K = K 28 := xFO_of fO_127_5 K
theorem fO_127_6 : fOff Tryz.prog 127 6 = some 29 := by kernel_rfl
@[go_sem ↓] theorem xFO_127_6 (K : Nat → Prop) : xFO Tryz.prog 127 6 K = K 29 := xFO_of fO_127_6 K
theorem fO_127_7 : fOff Tryz.prog 127 7 = some 30 := by kernel_rfl
@[go_sem ↓] theorem xFO_127_7 (K : Nat → Prop) : xFO Tryz.prog 127 7 K = K 30 := xFO_of fO_127_7 K
theorem fO_127_8 : fOff Tryz.prog 127 8 = some 31 := by kernel_rfl
@[go_sem ↓] theorem xFO_127_8 (K : Nat → Prop) : xFO Tryz.prog 127 8 K = K 31 := xFO_of fO_127_8 K
theorem fO_127_9 : fOff Tryz.prog 127 9 = some 32 := by kernel_rfl
@[go_sem ↓] theorem xFO_127_9 (K : Nat → Prop) : xFO Tryz.prog 127 9 K = K 32 := xFO_of fO_127_9 K
theorem fO_136_0 : fOff Tryz.prog 136 0 = some 0 := by kernel_rfl
@[go_sem ↓] theorem xFO_136_0 (K : Nat → Prop) : xFO Tryz.prog 136 0 K = K 0 := xFO_of fO_136_0 K
theorem fO_136_1 : fOff Tryz.prog 136 1 = some 1 := by kernel_rfl
@[go_sem ↓] theorem xFO_136_1 (K : Nat → Prop) : xFO Tryz.prog 136 1 K = K 1 := xFO_of fO_136_1 K
theorem fO_136_2 : fOff Tryz.prog 136 2 = some 2 := by kernel_rfl
@[go_sem ↓] theorem xFO_136_2 (K : Nat → Prop) : xFO Tryz.prog 136 2 K = K 2 := xFO_of fO_136_2 K
theorem fO_136_3 : fOff Tryz.prog 136 3 = some 3 := by kernel_rfl
@[go_sem ↓] theorem xFO_136_3 (K : Nat → Prop) : xFO Tryz.prog 136 3 K = K 3 := xFO_of fO_136_3 K
theorem fO_136_4 : fOff Tryz.prog 136 4 = some 4 := by kernel_rfl
@[go_sem ↓] theorem xFO_136_4 (K : Nat → Prop) : xFO Tryz.prog 136 4 K = K 4 := xFO_of fO_136_4 K
theorem fO_136_5 : fOff Tryz.prog 136 5 = some 5 := by kernel_rfl
@[go_sem ↓] theorem xFO_136_5 (K : Nat → Prop) : xFO Tryz.prog 136 5 K = K 5 := xFO_of fO_136_5 K
theorem fO_136_6 : fOff Tryz.prog 136 6 = some 6 := by kernel_rfl
@[go_sem ↓] theorem xFO_136_6 (K : Nat → Prop) : xFO Tryz.prog 136 6 K = K 6 := xFO_of fO_136_6 K
theorem fO_136_7 : fOff Tryz.prog 136 7 = some 7 := by kernel_rfl
@[go_sem ↓] theorem xFO_136_7 (K : Nat → Prop) : xFO Tryz.prog 136 7 K = K 7 := xFO_of fO_136_7 K
theorem fO_136_8 : fOff Tryz.prog 136 8 = some 8 := by kernel_rfl
@[go_sem ↓] theorem xFO_136_8 (K : Nat → Prop) : xFO Tryz.prog 136 8 K = K 8 := xFO_of fO_136_8 K
theorem fO_140_0 : fOff Tryz.prog 140 0 = some 0 := by kernel_rfl
@[go_sem ↓] theorem xFO_140_0 (K : Nat → Prop) : xFO Tryz.prog 140 0 K = K 0 := xFO_of fO_140_0 K
theorem fO_140_1 : fOff Tryz.prog 140 1 = some 1 := by kernel_rfl
@[go_sem ↓] theorem xFO_140_1 (K : Nat → Prop) : xFO Tryz.prog 140 1 K = K 1 := xFO_of fO_140_1 K
theorem fO_140_2 : fOff Tryz.prog 140 2 = some 2 := by kernel_rfl
@[go_sem ↓] theorem xFO_140_2 (K : Nat → Prop) : xFO Tryz.prog 140 2 K = K 2 := xFO_of fO_140_2 K
theorem fO_140_3 : fOff Tryz.prog 140 3 = some 3 := by kernel_rfl
@[go_sem ↓] theorem xFO_140_3 (K : Nat → Prop) : xFO Tryz.prog 140 3 K = K 3 := xFO_of fO_140_3 K
theorem fO_142_0 : fOff Tryz.prog 142 0 = some 0 := by kernel_rfl
@[go_sem ↓] theorem xFO_142_0 (K : Nat → Prop) : xFO Tryz.prog 142 0 K = K 0 := xFO_of fO_142_0 K
theorem fO_142_1 : fOff Tryz.prog 142 1 = some 4 := by kernel_rfl
@[go_sem ↓] theorem xFO_142_1 (K : Nat → Prop) : xFO Tryz.prog 142 1 K = K 4 := xFO_of fO_142_1 K
theorem fO_142_2 : fOff Tryz.prog 142 2 = some 5 := by kernel_rfl
@[go_sem ↓] theorem xFO_142_2 (K : Nat → Prop) : xFO Tryz.prog 142 2 K = K 5 := xFO_of fO_142_2 K
theorem fO_144_0 : fOff Tryz.prog 144 0 = some 0 := by kernel_rfl
@[go_sem ↓] theorem xFO_144_0 (K : Nat → Prop) : xFO Tryz.prog 144 0 K = K 0 := xFO_of fO_144_0 K
theorem fO_144_1 : fOff Tryz.prog 144 1 = some 1 := by kernel_rfl
@[go_sem ↓] theorem xFO_144_1 (K : Nat → Prop) : xFO Tryz.prog 144 1 K = K 1 := xFO_of fO_144_1 K
theorem fO_144_2 : fOff Tryz.prog 144 2 = some 2 := by kernel_rfl
@[go_sem ↓] theorem xFO_144_2 (K : Nat → Prop) : xFO Tryz.prog 144 2 K = K 2 := xFO_of fO_144_2 K
theorem fO_144_3 : fOff Tryz.prog 144 3 = some 26 := by kernel_rfl
@[go_sem ↓] theorem xFO_144_3 (K : Nat → Prop) : xFO Tryz.prog 144 3 K = K 26 := xFO_of fO_144_3 K
theorem fO_144_4 : fOff Tryz.prog 144 4 = some 27 := by kernel_rfl
@[go_sem ↓] theorem xFO_144_4 (K : Nat → Prop) : xFO Tryz.prog 144 4 K = K 27 := xFO_of fO_144_4 K
theorem fO_144_5 : fOff Tryz.prog 144 5 = some 28 := by kernel_rfl
@[go_sem ↓] theorem xFO_144_5 (K : Nat → Prop) : xFO Tryz.prog 144 5 K = K 28 := xFO_of fO_144_5 K
theorem fO_144_6 : fOff Tryz.prog 144 6 = some 29 := by kernel_rfl
@[go_sem ↓] theorem xFO_144_6 (K : Nat → Prop) : xFO Tryz.prog 144 6 K = K 29 := xFO_of fO_144_6 K
theorem fO_144_7 : fOff Tryz.prog 144 7 = some 30 := by kernel_rfl
@[go_sem ↓] theorem xFO_144_7 (K : Nat → Prop) : xFO Tryz.prog 144 7 K = K 30 := xFO_of fO_144_7 K
theorem fO_144_8 : fOff Tryz.prog 144 8 = some 31 := by kernel_rfl
@[go_sem ↓] theorem xFO_144_8 (K : Nat → Prop) : xFO Tryz.prog 144 8 K = K 31 := xFO_of fO_144_8 K
theorem fO_144_9 : fOff Tryz.prog 144 9 = some 32 := by kernel_rfl
@[go_sem ↓] theorem xFO_144_9 (K : Nat → Prop) : xFO Tryz.prog 144 9 K = K 32 := xFO_of fO_144_9 K
theorem fO_153_0 : fOff Tryz.prog 153 0 = some 0 := by kernel_rfl
@[go_sem ↓] theorem xFO_153_0 (K : Nat → Prop) : xFO Tryz.prog 153 0 K = K 0 := xFO_of fO_153_0 K
theorem fO_153_1 : fOff Tryz.prog 153 1 = some 1 := by kernel_rfl
@[go_sem ↓] theorem xFO_153_1 (K : Nat → Prop) : xFO Tryz.prog 153 1 K = K 1 := xFO_of fO_153_1 K
theorem fO_155_0 : fOff Tryz.prog 155 0 = some 0 := by kernel_rfl
@[go_sem ↓] theorem xFO_155_0 (K : Nat → Prop) : xFO Tryz.prog 155 0 K = K 0 := xFO_of fO_155_0 K
theorem fO_167_0 : fOff Tryz.prog 167 0 = some 0 := by kernel_rfl
@[go_sem ↓] theorem xFO_167_0 (K : Nat → Prop) : xFO Tryz.prog 167 0 K = K 0 := xFO_of fO_167_0 K
theorem fO_167_1 : fOff Tryz.prog 167 1 = some 1 := by kernel_rfl
@[go_sem ↓] theorem xFO_167_1 (K : Nat → Prop) : xFO Tryz.prog 167 1 K = K 1 := xFO_of fO_167_1 K
theorem fO_167_2 : fOff Tryz.prog 167 2 = some 2 := by kernel_rfl
@[go_sem ↓] theorem xFO_167_2 (K : Nat → Prop) : xFO Tryz.prog 167 2 K = K 2 := xFO_of fO_167_2 K
theorem fO_180_0 : fOff Tryz.prog 180 0 = some 0 := by kernel_rfl
@[go_sem ↓] theorem xFO_180_0 (K : Nat → Prop) : xFO Tryz.prog 180 0 K = K 0 := xFO_of fO_180_0 K
theorem fO_192_0 : fOff Tryz.prog 192 0 = some 0 := by kernel_rfl
@[go_sem ↓] theorem xFO_192_0 (K : Nat → Prop) : xFO Tryz.prog 192 0 K = K 0 := xFO_of fO_192_0 K
theorem fO_192_1 : fOff Tryz.prog 192 1 = some 41 := by kernel_rfl
@[go_sem ↓] theorem xFO_192_1 (K : Nat → Prop) : xFO Tryz.prog 192 1 K = K 41 := xFO_of fO_192_1 K
theorem fO_192_2 : fOff Tryz.prog 192 2 = some 42 := by kernel_rfl
@[go_sem ↓] theorem xFO_192_2 (K : Nat → Prop) : xFO Tryz.prog 192 2 K = K 42 := xFO_of fO_192_2 K
theorem fO_204_0 : fOff Tryz.prog 204 0 = some 0 := by kernel_rfl
@[go_sem ↓] theorem xFO_204_0 (K : Nat → Prop) : xFO Tryz.prog 204 0 K = K 0 := xFO_of fO_204_0 K
theorem fO_204_1 : fOff Tryz.prog 204 1 = some 1 := by kernel_rfl
@[go_sem ↓] theorem xFO_204_1 (K : Nat → Prop) : xFO Tryz.prog 204 1 K = K 1 := xFO_of fO_204_1 K
theorem fO_204_2 : fOff Tryz.prog 204 2 = some 2 := by kernel_rfl
@[go_sem ↓] theorem xFO_204_2 (K : Nat → Prop) : xFO Tryz.prog 204 2 K = K 2 := xFO_of fO_204_2 K
theorem fO_214_0 : fOff Tryz.prog 214 0 = some 0 := by kernel_rfl
@[go_sem ↓] theorem xFO_214_0 (K : Nat → Prop) : xFO Tryz.prog 214 0 K = K 0 := xFO_of fO_214_0 K
theorem fO_218_0 : fOff Tryz.prog 218 0 = some 0 := by kernel_rfl
@[go_sem ↓] theorem xFO_218_0 (K : Nat → Prop) : xFO Tryz.prog 218 0 K = K 0 := xFO_of fO_218_0 K
theorem fO_218_1 : fOff Tryz.prog 218 1 = some 1 := by kernel_rfl
@[go_sem ↓] theorem xFO_218_1 (K : Nat → Prop) : xFO Tryz.prog 218 1 K = K 1 := xFO_of fO_218_1 K
theorem fO_218_2 : fOff Tryz.prog 218 2 = some 2 := by kernel_rfl
@[go_sem ↓] theorem xFO_218_2 (K : Nat → Prop) : xFO Tryz.prog 218 2 K = K 2 := xFO_of fO_218_2 K
theorem fO_218_3 : fOff Tryz.prog 218 3 = some 3 := by kernel_rfl
@[go_sem ↓] theorem xFO_218_3 (K : Nat → Prop) : xFO Tryz.prog 218 3 K = K 3 := xFO_of fO_218_3 K
theorem fO_218_4 : fOff Tryz.prog 218 4 = some 4 := by kernel_rfl
@[go_sem ↓] theorem xFO_218_4 (K : Nat → Prop) : xFO Tryz.prog 218 4 K = K 4 := xFO_of fO_218_4 K
theorem fO_228_0 : fOff Tryz.prog 228 0 = some 0 := by kernel_rfl
@[go_sem ↓] theorem xFO_228_0 (K : Nat → Prop) : xFO Tryz.prog 228 0 K = K 0 := xFO_of fO_228_0 K
theorem fO_228_1 : fOff Tryz.prog 228 1 = some 2 := by kernel_rfl
@[go_sem ↓] theorem xFO_228_1 (K : Nat → Prop) : xFO Tryz.prog 228 1 K = K 2 := xFO_of fO_228_1 K
theorem fO_236_0 : fOff Tryz.prog 236 0 = some 0 := by kernel_rfl
@[go_sem ↓] theorem xFO_236_0 (K : Nat → Prop) : xFO Tryz.prog 236 0 K = K 0 := xFO_of fO_236_0 K
theorem fO_236_1 : fOff Tryz.prog 236 1 = some 1 := by kernel_rfl
@[go_sem ↓] theorem xFO_236_1 (K : Nat → Prop) : xFO Tryz.prog 236 1 K = K 1 := xFO_of fO_236_1 K
theorem fO_236_2 : fOff Tryz.prog 236 2 = some 2 := by kernel_rfl
@[go_sem ↓] theorem xFO_236_2 (K : Nat → Prop) : xFO Tryz.prog 236 2 K = K 2 := xFO_of fO_236_2 K
theorem fO_236_3 : fOff Tryz.prog 236 3 = some 3 := by kernel_rfl
@[go_sem ↓] theorem xFO_236_3 (K : Nat → Prop) : xFO Tryz.prog 236 3 K = K 3 := xFO_of fO_236_3 K
theorem fO_240_0 : fOff Tryz.prog 240 0 = some 0 := by kernel_rfl
@[go_sem ↓] theorem xFO_240_0 (K : Nat → Prop) : xFO Tryz.prog 240 0 K = K 0 := xFO_of fO_240_0 K
theorem fO_240_1 : fOff Tryz.prog 240 1 = some 1 := by kernel_rfl
@[go_sem ↓] theorem xFO_240_1 (K : Nat → Prop) : xFO Tryz.prog 240 1 K = K 1 := xFO_of fO_240_1 K
theorem fO_249_0 : fOff Tryz.prog 249 0 = some 0 := by kernel_rfl
@[go_sem ↓] theorem xFO_249_0 (K : Nat → Prop) : xFO Tryz.prog 249 0 K = K 0 := xFO_of fO_249_0 K
theorem fO_249_1 : fOff Tryz.prog 249 1 = some 1 := by kernel_rfl
@[go_sem ↓] theorem xFO_249_1 (K : Nat → Prop) : xFO Tryz.prog 249 1 K = K 1 := xFO_of fO_249_1 K
theorem fO_249_2 : fOff Tryz.prog 249 2 = some 2 := by kernel_rfl
@[go_sem ↓] theorem xFO_249_2 (K : Nat → Prop) : xFO Tryz.prog 249 2 K = K 2 := xFO_of fO_249_2 K
theorem fO_249_3 : fOff Tryz.prog 249 3 = some 3 := by kernel_rfl
@[go_sem ↓] theorem xFO_249_3 (K : Nat → Prop) : xFO Tryz.prog 249 3 K = K 3 := xFO_of fO_249_3 K
theorem fO_249_4 : fOff Tryz.prog 249 4 = some 4 := by kernel_rfl
@[go_sem ↓] theorem xFO_249_4 (K : Nat → Prop) : xFO Tryz.prog 249 4 K = K 4 := xFO_of fO_249_4 K
theorem fO_253_0 : fOff Tryz.prog 253 0 = some 0 := by kernel_rfl
@[go_sem ↓] theorem xFO_253_0 (K : Nat → Prop) : xFO Tryz.prog 253 0 K = K 0 := xFO_of fO_253_0 K
theorem fO_253_1 : fOff Tryz.prog 253 1 = some 3 := by kernel_rfl
@[go_sem ↓] theorem xFO_253_1 (K : Nat → Prop) : xFO Tryz.prog 253 1 K = K 3 := xFO_of fO_253_1 K
theorem fO_253_2 : fOff Tryz.prog 253 2 = some 4 := by kernel_rfl
@[go_sem ↓] theorem xFO_253_2 (K : Nat → Prop) : xFO Tryz.prog 253 2 K = K 4 := xFO_of fO_253_2 K
theorem fO_263_0 : fOff Tryz.prog 263 0 = some 0 := by kernel_rfl
@[go_sem ↓] theorem xFO_263_0 (K : Nat → Prop) : xFO Tryz.prog 263 0 K = K 0 := xFO_of fO_263_0 K
theorem fO_263_1 : fOff Tryz.prog 263 1 = some 1 := by kernel_rfl
@[go_sem ↓] theorem xFO_263_1 (K : Nat → Prop) : xFO Tryz.prog 263 1 K = K 1 := xFO_of fO_263_1 K
theorem fO_263_2 : fOff Tryz.prog 263 2 = some 2 := by kernel_rfl
@[go_sem ↓] theorem xFO_263_2 (K : Nat → Prop) : xFO Tryz.prog 263 2 K = K 2 := xFO_of fO_263_2 K
theorem fO_263_3 : fOff Tryz.prog 263 3 = some 3 := by kernel_rfl
@[go_sem ↓] theorem xFO_263_3 (K : Nat → Prop) : xFO Tryz.prog 263 3 K = K 3 := xFO_of fO_263_3 K
theorem fO_266_0 : fOff Tryz.prog 266 0 = some 0 := by kernel_rfl
@[go_sem ↓] theorem xFO_266_0 (K : Nat → Prop) : xFO Tryz.prog 266 0 K = K 0 := xFO_of fO_266_0 K
theorem fO_278_0 : fOff Tryz.prog 278 0 = some 0 := by kernel_rfl
@[go_sem ↓] theorem xFO_278_0 (K : Nat → Prop) : xFO Tryz.prog 278 0 K = K 0 := xFO_of fO_278_0 K
theorem fO_278_1 : fOff Tryz.prog 278 1 = some 2 := by kernel_rfl
@[go_sem ↓] theorem xFO_278_1 (K : Nat → Prop) : xFO Tryz.prog 278 1 K = K 2 := xFO_of fO_278_1 K
theorem fO_374_0 : fOff Tryz.prog 374 0 = some 0 := by kernel_rfl
@[go_sem ↓] theorem xFO_374_0 (K : Nat → Prop) : xFO Tryz.prog 374 0 K = K 0 := xFO_of fO_374_0 K
theorem fO_380_0 : fOff Tryz.prog 380 0 = some 0 := by kernel_rfl
@[go_sem ↓] theorem xFO_380_0 (K : Nat → Prop) : xFO Tryz.prog 380 0 K = K 0 := xFO_of fO_380_0 K
theorem fO_380_1 : fOff Tryz.prog 380 1 = some 4 := by kernel_rfl
@[go_sem ↓] theorem xFO_380_1 (K : Nat → Prop) : xFO Tryz.prog 380 1 K = K 4 := xFO_of fO_380_1 K
theorem fO_389_0 : fOff Tryz.prog 389 0 = some 0 := by kernel_rfl
@[go_sem ↓] theorem xFO_389_0 (K : Nat → Prop) : xFO Tryz.prog 389 0 K = K 0 := xFO_of fO_389_0 K
theorem fO_397_0 : fOff Tryz.prog 397 0 = some 0 := by kernel_rfl
@[go_sem ↓] theorem xFO_397_0 (K : Nat → Prop) : xFO Tryz.prog 397 0 K = K 0 := xFO_of fO_397_0 K
theorem fO_397_1 : fOff Tryz.prog 397 1 = some 1 := by kernel_rfl
@[go_sem ↓] theorem xFO_397_1 (K : Nat → Prop) : xFO Tryz.prog 397 1 K = K 1 := xFO_of fO_397_1 K
theorem fO_413_0 : fOff Tryz.prog 413 0 = some 0 := by kernel_rfl
@[go_sem ↓] theorem xFO_413_0 (K : Nat → Prop) : xFO Tryz.prog 413 0 K = K 0 := xFO_of fO_413_0 K
theorem fO_413_1 : fOff Tryz.prog 413 1 = some 2 := by kernel_rfl
@[go_sem ↓] theorem xFO_413_1 (K : Nat → Prop) : xFO Tryz.prog 413 1 K = K 2 := xFO_of fO_413_1 K
@[go_sem] theorem tSh_25 : tSh Tryz.prog 25 = .sl 22 1 8 := by kernel_rfl
@[go_sem] theorem tSh_26 : tSh Tryz.prog 26 = .sl 94 6 48 := by kernel_rfl
@[go_sem] theorem tSh_27 : tSh Tryz.prog 27 = .sl 3 1 8 := by kernel_rfl
@[go_sem] theorem tSh_28 : tSh Tryz.prog 28 = .sl 263 4 32 := by kernel_rfl
@[go_sem] theorem tSh_29 : tSh Tryz.prog 29 = .sl 109 3 24 := by kernel_rfl
@[go_sem] theorem tSh_30 : tSh Tryz.prog 30 = .sl 127 33 296 := by kernel_rfl
@[go_sem] theorem tSh_31 : tSh Tryz.prog 31 = .sl 5 1 1 := by kernel_rfl
@[go_sem] theorem tSh_32 : tSh Tryz.prog 32 = .sl 31 1 24 := by kernel_rfl
@[go_sem] theorem tSh_44 : tSh Tryz.prog 44 = .sl 142 6 48 := by kernel_rfl
@[go_sem] theorem tSh_45 : tSh Tryz.prog 45 = .sl 236 4 32 := by kernel_rfl
@[go_sem] theorem tSh_46 : tSh Tryz.prog 46 = .sl 204 3 24 := by kernel_rfl
@[go_sem] theorem tSh_47 : tSh Tryz.prog 47 = .sl 144 33 296 := by kernel_rfl
@[go_sem] theorem tSh_101 : tSh Tryz.prog 101 = .sl 106 2 16 := by kernel_rfl
@[go_sem] theorem tSh_118 : tSh Tryz.prog 118 = .sl 112 1 8 := by kernel_rfl
@[go_sem] theorem tSh_274 : tSh Tryz.prog 274 = .sl 5 1 1 := by kernel_rfl
@[go_sem] theorem tSh_312 : tSh Tryz.prog 312 = .sl 211 1 8 := by kernel_rfl
@[go_sem] theorem tSh_324 : tSh Tryz.prog 324 = .sl 40 1 8 := by kernel_rfl
@[go_sem] theorem tSh_330 : tSh Tryz.prog 330 = .sl 329 1 8 := by kernel_rfl
@[go_sem] theorem tSh_406 : tSh Tryz.prog 406 = .sl 4 1 1 := by kernel_rfl
@[go_sem] theorem tSh_438 : tSh Tryz.prog 438 = .sl 333 1 8 := by kernel_rfl
@[go_sem ↓] theorem xSlh_25 (a : Option Addr) (n c : Nat) (k : IntKind) (j : Int) (h0 : 0 ≤ j) (h1 : j ≤ (c : Int)) (K : Value → Prop) : xSl Tryz.prog 25 (.slice a n c) none (some (.int k j)) none K = K (.slice a j.toNat c) := xSl_hi tSh_25 a n c k j h0 h1 K
@[go_sem ↓] theorem xSlh_26 (a : Option Addr) (n c : Nat) (k : IntKind) (j : Int) (h0 : 0 ≤ j) (h1 : j ≤ (c : Int)) (K : Value → Prop) : xSl Tryz.prog 26 (.slice a n c) none (some (.int k j)) none K = K (.slice a j.toNat c) := xSl_hi tSh_26 a n c k j h0 h1 K
@[go_sem ↓] theorem xSlh_27 (a : Option Addr) (n c : Nat) (k : IntKind) (j : Int) (h0 : 0 ≤ j) (h1 : j ≤ (c : Int)) (K : Value → Prop) : xSl Tryz.prog 27 (.slice a n c) none (some (.int k j)) none K = K (.slice a j.toNat c) := xSl_hi tSh_27 a n c k j h0 h1 K
@[go_sem ↓] theorem xSlh_28 (a : Option Addr) (n c : Nat) (k : IntKind) (j : Int) (h0 : 0 ≤ j) (h1 : j ≤ (c : Int)) (K : Value → Prop) : xSl Tryz.prog 28 (.slice a n c) none (some (.int k j)) none K = K (.slice a j.toNat c) := xSl_hi tSh_28 a n c k j h0 h1 K
@[go_sem ↓] theorem xSlh_29 (a : Option Addr) (n c : Nat) (k : IntKind) (j : Int) (h0 : 0 ≤ j) (h1 : j ≤ (c : Int)) (K : Value → Prop) : xSl Tryz.prog 29 (.slice a n c) none (some (.int k j)) none K = K (.slice a j.toNat c) := xSl_hi tSh_29 a n c k j h0 h1 K
@[go_sem ↓] theorem xSlh_30 (a : Option Addr) (n c : Nat) (k : IntKind) (j : Int) (h0 : 0 ≤ j) (h1 : j ≤ (c : Int)) (K : Value → Prop) : xSl Tryz.prog 30 (.slice a n c) none (some (.int k j)) none K = K (.slice a j.toNat c) := xSl_hi tSh_30 a n c k j h0 h1 K
@[go_sem ↓] theorem xSlh_31 (a : Option Addr) (n c : Nat) (k : IntKind) (j : Int) (h0 : 0 ≤ j) (h1 : j ≤ (c : Int)) (K : Value → Prop) : xSl Tryz.prog 31 (.slice a n c) none (some (.int k j)) none K = K (.slice a j.toNat c) := xSl_hi tSh_31 a n c k j h0 h1 K
@[go_sem ↓] theorem xSlh_32 (a : Option Addr) (n c : Nat) (k : IntKind) (j : Int) (h0 : 0 ≤ j) (h1 : j ≤ (c : Int)) (K : Value → Prop) : xSl Tryz.prog 32 (.slice a n c) none (some (.int k j)) none K = K (.slice a j.toNat c) := xSl_hi tSh_32 a n c k j h0 h1 K
@[go_sem ↓] theorem xSlh_44 (a : Option Addr) (n c : Nat) (k : IntKind) (j : Int) (h0 : 0 ≤ j) (h1 : j ≤ (c : Int)) (K : Value → Prop) : xSl Tryz.prog 44 (.slice a n c) none (some (.int k j)) none K = K (.slice a j.toNat c) := xSl_hi tSh_44 a n c k j h0 h1 K
@[go_sem ↓] theorem xSlh_45 (a : Option Addr) (n c : Nat) (k : IntKind) (j : Int) (h0 : 0 ≤ j) (h1 : j ≤ (c : Int)) (K : Value → Prop) : xSl Tryz.prog 45 (.slice a n c) none (some (.int k j)) none K = K (.slice a j.toNat c) := xSl_hi tSh_45 a n c k j h0 h1 K
@[go_sem ↓] theorem xSlh_46 (a : Option Addr) (n c : Nat) (k : IntKind) (j : Int) (h0 : 0 ≤ j) (h1 : j ≤ (c : Int)) (K : Value → Prop) : xSl Tryz.prog 46 (.slice a n c) none (some (.int k j)) none K = K (.slice a j.toNat c) := xSl_hi tSh_46 a n c k j h0 h1 K
@[go_sem ↓] theorem xSlh_47 (a : Option Addr) (n c : Nat) (k : IntKind) (j : Int) (h0 : 0 ≤ j) (h1 : j ≤ (c : Int)) (K : Value → Prop) : xSl Tryz.prog 47 (.slice a n c) none (some (.int k j)) none K = K (.slice a j.toNat c) := xSl_hi tSh_47 a n c k j h0 h1 K
@[go_sem ↓] theorem xSlh_101 (a : Option Addr) (n c : Nat) (k : IntKind) (j : Int) (h0 : 0 ≤ j) (h1 : j ≤ (c : Int)) (K : Value → Prop) : xSl Tryz.prog 101 (.slice a n c) none (some (.int k j)) none K = K (.slice a j.toNat c) := xSl_hi tSh_101 a n c k j h0 h1 K
@[go_sem ↓] theorem xSlh_118 (a : Option Addr) (n c : Nat) (k : IntKind) (j : Int) (h0 : 0 ≤ j) (h1 : j ≤ (c : Int)) (K : Value → Prop) : xSl Tryz.prog 118 (.slice a n c) none (some (.int k j)) none K = K (.slice a j.toNat c) := xSl_hi tSh_118 a n c k j h0 h1 K
@[go_sem ↓] theorem xSlh_274 (a : Option Addr) (n c : Nat) (k : IntKind) (j : Int) (h0 : 0 ≤ j) (h1 : j ≤ (c : Int)) (K : Value → Prop) : xSl Tryz.prog 274 (.slice a n c) none (some (.int k j)) none K = K (.slice a j.toNat c) := xSl_hi tSh_274 a n c k j h0 h1 K
@[go_sem ↓] theorem xSlh_312 (a : Option Addr) (n c : Nat) (k : IntKind) (j : Int) (h0 : 0 ≤ j) (h1 : j ≤ (c : Int)) (K : Value → Prop) : xSl Tryz.prog 312 (.slice a n c) none (some (.int k j)) none K = K (.slice a j.toNat c) := xSl_hi tSh_312 a n c k j h0 h1 K
@[go_sem ↓] theorem xSlh_324 (a : Option Addr) (n c : Nat) (k : IntKind) (j : Int) (h0 : 0 ≤ j) (h1 : j ≤ (c : Int)) (K : Value → Prop) : xSl Tryz.prog 324 (.slice a n c) none (some (.int k j)) none K = K (.slice a j.toNat c) := xSl_hi tSh_324 a n c k j h0 h1 K
@[go_sem ↓] theorem xSlh_330 (a : Option Addr) (n c : Nat) (k : IntKind) (j : Int) (h0 : 0 ≤ j) (h1 : j ≤ (c : Int)) (K : Value → Prop) : xSl Tryz.prog 330 (.slice a n c) none (some (.int k j)) none K = K (.slice a j.toNat c) := xSl_hi tSh_330 a n c k j h0 h1 K
@[go_sem ↓] theorem xSlh_406 (a : Option Addr) (n c : Nat) (k : IntKind) (j : Int) (h0 : 0 ≤ j) (h1 : j ≤ (c : Int)) (K : Value → Prop) : xSl Tryz.prog 406 (.slice a n c) none (some (.int k j)) none K = K (.slice a j.toNat c) := xSl_hi tSh_406 a n c k j h0 h1 K
@[go_sem ↓] theorem xSlh_438 (a : Option Addr) (n c : Nat) (k : IntKind) (j : Int) (h0 : 0 ≤ j) (h1 : j ≤ (c : Int)) (K : Value → Prop) : xSl Tryz.prog 438 (.slice a n c) none (some (.int k j)) none K = K (.slice a j.toNat c) := xSl_hi tSh_438 a n c k j h0 h1 K
@[go_sem ↓] theorem xBeq_25 (x y : Operand) (a : Option Addr) (n c : Nat) (K : Value → Prop) : xBin Tryz.prog .eql 25 x y (.slice a n c) (.slice none 0 0) K = K (.bool a.isNone) := xBin_eqnil tSh_25 x y a n c K
@[go_sem ↓] theorem xBne_25 (x y : Operand) (a : Option Addr) (n c : Nat) (K : Value → Prop) : xBin Tryz.prog .neq 25 x y (.slice a n c) (.slice none 0 0) K = K (.bool (!a.isNone)) := xBin_nenil tSh_25 x y a n c K
@[go_sem ↓] theorem xBeq_26 (x y : Operand) (a : Option Addr) (n c : Nat) (K : Value → Prop) : xBin Tryz.prog .eql 26 x y (.slice a n c) (.slice none 0 0) K = K (.bool a.isNone) := xBin_eqnil tSh_26 x y a n c K
@[go_sem ↓] theorem xBne_26 (x y : Operand) (a : Option Addr) (n c : Nat) (K : Value → Prop) : xBin Tryz.prog .neq 26 x y (.slice a n c) (.slice none 0 0) K = K (.bool (!a.isNone)) := xBin_nenil tSh_26 x y a n c K
@[go_sem ↓] theorem xBeq_27 (x y : Operand) (a : Option Addr) (n c : Nat) (K : Value → Prop) : xBin Tryz.prog .eql 27 x y (.slice a n c) (.slice none 0 0) K = K (.bool a.isNone) := xBin_eqnil tSh_27 x y a n c K
@[go_sem ↓] theorem xBne_27 (x y : Operand) (a : Option Addr) (n c : Nat) (K : Value → Prop) : xBin Tryz.prog .neq 27 x y (.slice a n c) (.slice none 0 0) K = K (.bool (!a.isNone)) := xBin_nenil tSh_27 x y a n c K
@[go_sem ↓] theorem xBeq_28 (x y : Operand) (a : Option Addr) (n c : Nat) (K : Value → Prop) : xBin Tryz.prog .eql 28 x y (.slice a n c) (.slice none 0 0) K = K (.bool a.isNone) := xBin_eqnil tSh_28 x y a n c K
@[go_sem ↓] theorem xBne_28 (x y : Operand) (a : Option Addr) (n c : Nat) (K : Value → Prop) : xBin Tryz.prog .neq 28 x y (.slice a n c) (.slice none 0 0) K = K (.bool (!a.isNone)) := xBin_nenil tSh_28 x y a n c K
@[go_sem ↓] theorem xBeq_29 (x y : Operand) (a : Option Addr) (n c : Nat) (K : Value → Prop) : xBin Tryz.prog .eql 29 x y (.slice a n c) (.slice none 0 0) K = K (.bool a.isNone) := xBin_eqnil tSh_29 x y a n c K
@[go_sem ↓] theorem xBne_29 (x y : Operand) (a : Option Addr) (n c : Nat) (K : Value → Prop) : xBin Tryz.prog .neq 29 x y (.slice a n c) (.slice none 0 0) K = K (.bool (!a.isNone)) := xBin_nenil tSh_29 x y a n c K
@[go_sem ↓] theorem xBeq_30 (x y : Operand) (a : Option Addr) (n c : Nat) (K : Value → Prop) : xBin Tryz.prog .eql 30 x y (.slice a n c) (.slice none 0 0) K = K (.bool a.isNone) := xBin_eqnil tSh_30 x y a n c K
@[go_sem ↓] theorem xBne_30 (x y : Operand) (a : Option Addr) (n c : Nat) (K : Value → Prop) : xBin Tryz.prog .neq 30 x y (.slice a n c) (.slice none 0 0) K = K (.bool (!a.isNone)) := xBin_nenil tSh_30 x y a n c K
@[go_sem ↓] theorem xBeq_31 (x y : Operand) (a : Option Addr) (n c : Nat) (K : Value → Prop) : xBin Tryz.prog .eql 31 x y (.slice a n c) (.slice none 0 0) K = K (.bool a.isNone) := xBin_eqnil tSh_31 x y a n c K
@[go_sem ↓] theorem xBne_31 (x y : Operand) (a : Option Addr) (n c : Nat) (K : Value → Prop) : xBin Tryz.prog .neq 31 x y (.slice a n c) (.slice none 0 0) K = K (.bool (!a.isNone)) := xBin_nenil tSh_31 x y a n c K
@[go_sem ↓] theorem xBeq_32 (x y : Operand) (a : Option Addr) (n c : Nat) (K : Value → Prop) : xBin Tryz.prog .eql 32 x y (.slice a n c) (.slice none 0 0) K = K (.bool a.isNone) := xBin_eqnil tSh_32 x y a n c K
@[go_sem ↓] theorem xBne_32 (x y : Operand) (a : Option Addr) (n c : Nat) (K : Value → Prop) : xBin Tryz.prog .neq 32 x y (.slice a n c) (.slice none 0 0) K = K (.bool (!a.isNone)) := xBin_nenil tSh_32 x y a n c K
@[go_sem ↓] theorem xBeq_44 (x y : Operand) (a : Option Addr) (n c : Nat) (K : Value → Prop) : xBin Tryz.prog .eql 44 x y (.slice a n c) (.slice none 0 0) K = K (.bool a.isNone) := xBin_eqnil tSh_44 x y a n c K
@[go_sem ↓] theorem xBne_44 (x y : Operand) (a : Option Addr) (n c : Nat) (K : Value → Prop) : xBin Tryz.prog .neq 44 x y (.slice a n c) (.slice none 0 0) K = K (.bool (!a.isNone)) := xBin_nenil tSh_44 x y a n c K
@[go_sem ↓] theorem xBeq_45 (x y : Operand) (a : Option Addr) (n c : Nat) (K : Value → Prop) : xBin Tryz.prog .eql 45 x y (.slice a n c) (.slice none 0 0) K = K (.bool a.isNone) := xBin_eqnil tSh_45 x y a n c K
@[go_sem ↓] theorem xBne_45 (x y : Operand) (a : Option Addr) (n c : Nat) (K : Value → Prop) : xBin Tryz.prog .neq 45 x y (.slice a n c) (.slice none 0 0) K = K (.bool (!a.isNone)) := xBin_nenil tSh_45 x y a n c K
@[go_sem ↓] theorem xBeq_46 (x y : Operand) (a : Option Addr) (n c : Nat) (K : Value → Prop) : xBin Tryz.prog .eql 46 x y (.slice a n c) (.slice none 0 0) K = K (.bool a.isNone) := xBin_eqnil tSh_46 x y a n c K
@[go_sem ↓] theorem xBne_46 (x y : Operand) (a : Option Addr) (n c : Nat) (K : Value → Prop) : xBin Tryz.prog .neq 46 x y (.slice a n c) (.slice none 0 0) K = K (.bool (!a.isNone)) := xBin_nenil tSh_46 x y a n c K
@[go_sem ↓] theorem xBeq_47 (x y : Operand) (a : Option Addr) (n c : Nat) (K : Value → Prop) : xBin Tryz.prog .eql 47 x y (.slice a n c) (.slice none 0 0) K = K (.bool a.isNone) := xBin_eqnil tSh_47 x y a n c K
@[go_sem ↓] theorem xBne_47 (x y : Operand) (a : Option Addr) (n c : Nat) (K : Value → Prop) : xBin Tryz.prog .neq 47 x y (.slice a n c) (.slice none 0 0) K = K (.bool (!a.isNone)) := xBin_nenil tSh_47 x y a n c K
@[go_sem ↓] theorem xBeq_101 (x y : Operand) (a : Option Addr) (n c : Nat) (K : Value → Prop) : xBin Tryz.prog .eql 101 x y (.slice a n c) (.slice none 0 0) K = K (.bool a.isNone) := xBin_eqnil tSh_101 x y a n c K
@[go_sem ↓] theorem xBne_101 (x y : Operand) (a : Option Addr) (n c : Nat) (K : Value → Prop) : xBin Tryz.prog .neq 101 x y (.slice a n c) (.slice none 0 0) K = K (.bool (!a.isNone)) := xBin_nenil tSh_101 x y a n c K
@[go_sem ↓] theorem xBeq_118 (x y : Operand) (a : Option Addr) (n c : Nat) (K : Value → Prop) : xBin Tryz.prog .eql 118 x y (.slice a n c) (.slice none 0 0) K = K (.bool a.isNone) := xBin_eqnil tSh_118 x y a n c K
@[go_sem ↓] theorem xBne_118 (x y : Operand) (a : Option Addr) (n c : Nat) (K : Value → Prop) : xBin Tryz.prog .neq 118 x y (.slice a n c) (.slice none 0 0) K = K (.bool (!a.isNone)) := xBin_nenil tSh_118 x y a n c K
@[go_sem ↓] theorem xBeq_274 (x y : Operand) (a : Option Addr) (n c : Nat) (K : Value → Prop) : xBin Tryz.prog .eql 274 x y (.slice a n c) (.slice none 0 0) K = K (.bool a.isNone) := xBin_eqnil tSh_274 x y a n c K
@[go_sem ↓] theorem xBne_274 (x y : Operand) (a : Option Addr) (n c : Nat) (K : Value → Prop) : xBin Tryz.prog .neq 274 x y (.slice a n c) (.slice none 0 0) K = K (.bool (!a.isNone)) := xBin_nenil tSh_274 x y a n c K
@[go_sem ↓] theorem xBeq_312 (x y : Operand) (a : Option Addr) (n c : Nat) (K : Value → Prop) : xBin Tryz.prog .eql 312 x y (.slice a n c) (.slice none 0 0) K = K (.bool a.isNone) := xBin_eqnil tSh_312 x y a n c K
@[go_sem ↓] theorem xBne_312 (x y : Operand) (a : Option Addr) (n c : Nat) (K : Value → Prop) : xBin Tryz.prog .neq 312 x y (.slice a n c) (.slice none 0 0) K = K (.bool (!a.isNone)) := xBin_nenil tSh_312 x y a n c K
@[go_sem ↓] theorem xBeq_324 (x y : Operand) (a : Option Addr) (n c : Nat) (K : Value → Prop) : xBin Tryz.prog .eql 324 x y (.slice a n c) (.slice none 0 0) K = K (.bool a.isNone) := xBin_eqnil tSh_324 x y a n c K
@[go_sem ↓] theorem xBne_324 (x y : Operand) (a : Option Addr) (n c : Nat) (K : Value → Prop) : xBin Tryz.prog .neq 324 x y (.slice a n c) (.slice none 0 0) K = K (.bool (!a.isNone)) := xBin_nenil tSh_324 x y a n c K
@[go_sem ↓] theorem xBeq_330 (x y : Operand) (a : Option Addr) (n c : Nat) (K : Value → Prop) : xBin Tryz.prog .eql 330 x y (.slice a n c) (.slice none 0 0) K = K (.bool a.isNone) := xBin_eqnil tSh_330 x y a n c K
@[go_sem ↓] theorem xBne_330 (x y : Operand) (a : Option Addr) (n c : Nat) (K : Value → Prop) : xBin Tryz.prog .neq 330 x y (.slice a n c) (.slice none 0 0) K = K (.bool (!a.isNone)) := xBin_nenil tSh_330 x y a n c K
@[go_sem ↓] theorem xBeq_406 (x y : Operand) (a : Option Addr) (n c : Nat) (K : Value → Prop) : xBin Tryz.prog .eql 406 x y (.slice a n c) (.slice none 0 0) K = K (.bool a.isNone) := xBin_eqnil tSh_406 x y a n c K
@[go_sem ↓] theorem xBne_406 (x y : Operand) (a : Option Addr) (n c : Nat) (K : Value → Prop) : xBin Tryz.prog .neq 406 x y (.slice a n c) (.slice none 0 0) K = K (.bool (!a.isNone)) := xBin_nenil tSh_406 x y a n c K
@[go_sem ↓] theorem xBeq_438 (x y : Operand) (a : Option Addr) (n c : Nat) (K : Value → Prop) : xBin Tryz.prog .eql 438 x y (.slice a n c) (.slice none 0 0) K = K (.bool a.isNone) := xBin_eqnil tSh_438 x y a n c K
@[go_sem ↓] theorem xBne_438 (x y : Operand) (a : Option Addr) (n c : Nat) (K : Value → Prop) : xBin Tryz.prog .neq 438 x y (.slice a n c) (.slice none 0 0) K = K (.bool (!a.isNone)) := xBin_nenil tSh_438 x y a n c K
@[go_sem ↓] theorem xPeq_15 (x y : Operand) (a : Option Addr) (K : Value → Prop) : xBin Tryz.prog .eql 15 x y (.pointer a) (.pointer none) K = K (.bool a.isNone) := xBin_eqpnil (T := 15) (e := 422) (by kernel_rfl) x y a K
@[go_sem ↓] theorem xPne_15 (x y : Operand) (a : Option Addr) (K : Value → Prop) : xBin Tryz.prog .neq 15 x y (.pointer a) (.pointer none) K = K (.bool (!a.isNone)) := xBin_nepnil (T := 15) (e := 422) (by kernel_rfl) x y a K
@[go_sem ↓] theorem xPeq_16 (x y : Operand) (a : Option Addr) (K : Value → Prop) : xBin Tryz.prog .eql 16 x y (.pointer a) (.pointer none) K = K (.bool a.isNone) := xBin_eqpnil (T := 16) (e := 425) (by kernel_rfl) x y a K
@[go_sem ↓] theorem xPne_16 (x y : Operand) (a : Option Addr) (K : Value → Prop) : xBin Tryz.prog .neq 16 x y (.pointer a) (.pointer none) K = K (.bool (!a.isNone)) := xBin_nepnil (T := 16) (e := 425) (by kernel_rfl) x y a K
@[go_sem ↓] theorem xPeq_17 (x y : Operand) (a : Option Addr) (K : Value → Prop) : xBin Tryz.prog .eql 17 x y (.pointer a) (.pointer none) K = K (.bool a.isNone) := xBin_eqpnil (T := 17) (e := 434) (by kernel_rfl) x y a K
@[go_sem ↓] theorem xPne_17 (x y : Operand) (a : Option Addr) (K : Value → Prop) : xBin Tryz.prog .neq 17 x y (.pointer a) (.pointer none) K = K (.bool (!a.isNone)) := xBin_nepnil (T := 17) (e := 434) (by kernel_rfl) x y a K
@[go_sem ↓] theorem xPeq_112 (x y : Operand) (a : Option Addr) (K : Value → Prop) : xBin Tryz.prog .eql 112 x y (.pointer a) (.pointer none) K = K (.bool a.isNone) := xBin_eqpnil (T := 112) (e := 117) (by kernel_rfl) x y a K
@[go_sem ↓] theorem xPne_112 (x y : Operand) (a : Option Addr) (K : Value → Prop) : xBin Tryz.prog .neq 112 x y (.pointer a) (.pointer none) K = K (.bool (!a.isNone)) := xBin_nepnil (T := 112) (e := 117) (by kernel_rfl) x y a K
@[go_sem ↓] theorem xPeq_151 (x y : Operand) (a : Option Addr) (K : Value → Prop) : xBin Tryz.prog .eql 151 x y (.pointer a) (.pointer none) K = K (.bool a.isNone) := xBin_eqpnil (T := 151) (e := 155) (by kernel_rfl) x y a K
@[go_sem ↓] theorem xPne_151 (x y : Operand) (a : Option Addr) (K : Value → Prop) : xBin Tryz.prog .neq 151 x y (.pointer a) (.pointer none) K = K (.bool (!a.isNone)) := xBin_nepnil (T := 151) (e := 155) (by kernel_rfl) x y a K
@[go_sem ↓] theorem xPeq_161 (x y : Operand) (a : Option Addr) (K : Value → Prop) : xBin Tryz.prog .eql 161 x y (.pointer a) (.pointer none) K = K (.bool a.isNone) := xBin_eqpnil (T := 161) (e := 278) (by kernel_rfl) x y a K
@[go_sem ↓] theorem xPne_161 (x y : Operand) (a : Option Addr) (K : Value → Prop) : xBin Tryz.prog .neq 161 x y (.pointer a) (.pointer none) K = K (.bool (!a.isNone)) := xBin_nepnil (T := 161) (e := 278) (by kernel_rfl) x y a K
@[go_sem ↓] theorem xPeq_165 (x y : Operand) (a : Option Addr) (K : Value → Prop) : xBin Tryz.prog .eql 165 x y (.pointer a) (.pointer none) K = K (.bool a.isNone) := xBin_eqpnil (T := 165) (e := 167) (by kernel_rfl) x y a K
@[go_sem ↓] theorem xPne_165 (x y : Operand) (a : Option Addr) (K : Value → Prop) : xBin Tryz.prog .neq 165 x y (.pointer a) (.pointer none) K = K (.bool (!a.isNone)) := xBin_nepnil (T := 165) (e := 167) (by kernel_rfl) x y a K
@[go_sem ↓] theorem xPeq_189 (x y : Operand) (a : Option Addr) (K : Value → Prop) : xBin Tryz.prog .eql 189 x y (.pointer a) (.pointer none) K = K (.bool a.isNone) := xBin_eqpnil (T := 189) (e := 192) (by kernel_rfl) x y a K
@[go_sem ↓] theorem xPne_189 (x y : Operand) (a : Option Addr) (K : Value → Prop) : xBin Tryz.prog .neq 189 x y (.pointer a) (.pointer none) K = K (.bool (!a.isNone)) := xBin_nepnil (T := 189) (e := 192) (by kernel_rfl) x y a K
@[go_sem ↓] theorem xPeq_226 (x y : Operand) (a : Option Addr) (K : Value → Prop) : xBin Tryz.prog .eql 226 x y (.pointer a) (.pointer none) K = K (.bool a.isNone) := xBin_eqpnil (T := 226) (e := 228) (by kernel_rfl) x y a K
@[go_sem ↓] theorem xPne_226 (x y : Operand) (a : Option Addr) (K : Value → Prop) : xBin Tryz.prog .neq 226 x y (.pointer a) (.pointer none) K = K (.bool (!a.isNone)) := xBin_nepnil (T := 226) (e := 228) (by kernel_rfl) x y a K
@[go_sem ↓] theorem xPeq_230 (x y : Operand) (a : Option Addr) (K : Value → Prop) : xBin Tryz.prog .eql 230 x y (.pointer a) (.pointer none) K = K (.bool a.isNone) := xBin_eqpnil (T := 230) (e := 34) (by kernel_rfl) x y a K
@[go_sem ↓] theorem xPne_230 (x y : Operand) (a : Option Addr) (K : Value → Prop) : xBin Tryz.prog .neq 230 x y (.pointer a) (.pointer none) K = K (.bool (!a.isNone)) := xBin_nepnil (T := 230) (e := 34) (by kernel_rfl) x y a K
@[go_sem ↓] theorem xPeq_238 (x y : Operand) (a : Option Addr) (K : Value → Prop) : xBin Tryz.prog .eql 238 x y (.pointer a) (.pointer none) K = K (.bool a.isNone) := xBin_eqpnil (T := 238) (e := 240) (by kernel_rfl) x y a K
@[go_sem ↓] theorem xPne_238 (x y : Operand) (a : Option Addr) (K : Value → Prop) : xBin Tryz.prog .neq 238 x y (.pointer a) (.pointer none) K = K (.bool (!a.isNone)) := xBin_nepnil (T := 238) (e := 240) (by kernel_rfl) x y a K
@[go_sem ↓] theorem xPeq_298 (x y : Operand) (a : Option Addr) (K : Value → Prop) : xBin Tryz.prog .eql 298 x y (.pointer a) (.pointer none) K = K (.bool a.isNone) := xBin_eqpnil (T := 298) (e := 94) (by kernel_rfl) x y a K
@[go_sem ↓] theorem xPne_298 (x y : Operand) (a : Option Addr) (K : Value → Prop) : xBin Tryz.prog .neq 298 x y (.pointer a) (.pointer none) K = K (.bool (!a.isNone)) := xBin_nepnil (T := 298) (e := 94) (by kernel_rfl) x y a K
@[go_sem ↓] theorem xPeq_328 (x y : Operand) (a : Option Addr) (K : Value → Prop) : xBin Tryz.prog .eql 328 x y (.pointer a) (.pointer none) K = K (.bool a.isNone) := xBin_eqpnil (T := 328) (e := 24) (by kernel_rfl) x y a K
@[go_sem ↓] theorem xPne_328 (x y : Operand) (a : Option Addr) (K : Value → Prop) : xBin Tryz.prog .neq 328 x y (.pointer a) (.pointer none) K = K (.bool (!a.isNone)) := xBin_nepnil (T := 328) (e := 24) (by kernel_rfl) x y a K
@[go_sem ↓] theorem xPeq_329 (x y : Operand) (a : Option Addr) (K : Value → Prop) : xBin Tryz.prog .eql 329 x y (.pointer a) (.pointer none) K = K (.bool a.isNone) := xBin_eqpnil (T := 329) (e := 22) (by kernel_rfl) x y a K
@[go_sem ↓] theorem xPne_329 (x y : Operand) (a : Option Addr) (K : Value → Prop) : xBin Tryz.prog .neq 329 x y (.pointer a) (.pointer none) K = K (.bool (!a.isNone)) := xBin_nepnil (T := 329) (e := 22) (by kernel_rfl) x y a K
@[go_sem ↓] theorem xPeq_333 (x y : Operand) (a : Option Addr) (K : Value → Prop) : xBin Tryz.prog .eql 333 x y (.pointer a) (.pointer none) K = K (.bool a.isNone) := xBin_eqpnil (T := 333) (e := 3) (by kernel_rfl) x y a K
@[go_sem ↓] theorem xPne_333 (x y : Operand) (a : Option Addr) (K : Value → Prop) : xBin Tryz.prog .neq 333 x y (.pointer a) (.pointer none) K = K (.bool (!a.isNone)) := xBin_nepnil (T := 333) (e := 3) (by kernel_rfl) x y a K
@[go_sem ↓] theorem xPeq_335 (x y : Operand) (a : Option Addr) (K : Value → Prop) : xBin Tryz.prog .eql 335 x y (.pointer a) (.pointer none) K = K (.bool a.isNone) := xBin_eqpnil (T := 335) (e := 4) (by kernel_rfl) x y a K
@[go_sem ↓] theorem xPne_335 (x y : Operand) (a : Option Addr) (K : Value → Prop) : xBin Tryz.prog .neq 335 x y (.pointer a) (.pointer none) K = K (.bool (!a.isNone)) := xBin_nepnil (T := 335) (e := 4) (by kernel_rfl) x y a K
@[go_sem ↓] theorem xPeq_337 (x y : Operand) (a : Option Addr) (K : Value → Prop) : xBin Tryz.prog .eql 337 x y (.pointer a) (.pointer none) K = K (.bool a.isNone) := xBin_eqpnil (T := 337) (e := 25) (by kernel_rfl) x y a K
@[go_sem ↓] theorem xPne_337 (x y : Operand) (a : Option Addr) (K : Value → Prop) : xBin Tryz.prog .neq 337 x y (.pointer a) (.pointer none) K = K (.bool (!a.isNone)) := xBin_nepnil (T := 337) (e := 25) (by kernel_rfl) x y a K
@[go_sem ↓] theorem xPeq_339 (x y : Operand) (a : Option Addr) (K : Value → Prop) : xBin Tryz.prog .eql 339 x y (.pointer a) (.pointer none) K = K (.bool a.isNone) := xBin_eqpnil (T := 339) (e := 26) (by kernel_rfl) x y a K
@[go_sem ↓] theorem xPne_339 (x y : Operand) (a : Option Addr) (K : Value → Prop) : xBin Tryz.prog .neq 339 x y (.pointer a) (.pointer none) K = K (.bool (!a.isNone)) := xBin_nepnil (T := 339) (e := 26) (by kernel_rfl) x y a K
@[go_sem ↓] theorem xPeq_342 (x y : Operand) (a : Option Addr) (K : Value → Prop) : xBin Tryz.prog .eql 342 x y (.pointer a) (.pointer none) K = K (.bool a.isNone) := xBin_eqpnil (T := 342) (e := 27) (by kernel_rfl) x y a K
@[go_sem ↓] theorem xPne_342 (x y : Operand) (a : Option Addr) (K : Value → Prop) : xBin Tryz.prog .neq 342 x y (.pointer a) (.pointer none) K = K (.bool (!a.isNone)) := xBin_nepnil (T := 342) (e := 27) (by kernel_rfl) x y a K
@[go_sem ↓] theorem xPeq_344 (x y : Operand) (a : Option Addr) (K : Value → Prop) : xBin Tryz.prog .eql 344 x y (.pointer a) (.pointer none) K = K (.bool a.isNone) := xBin_eqpnil (T := 344) (e := 28) (by kernel_rfl) x y a K
@[go_sem ↓] theorem xPne_344 (x y : Operand) (a : Option Addr) (K : Value → Prop) : xBin Tryz.prog .neq 344 x y (.pointer a) (.pointer none) K = K (.bool (!a.isNone)) := xBin_nepnil (T := 344) (e := 28) (by kernel_rfl) x y a K
@[go_sem ↓] theorem xPeq_345 (x y : Operand) (a : Option Addr) (K : Value → Prop) : xBin Tryz.prog .eql 345 x y (.pointer a) (.pointer none) K = K (.bool a.isNone) := xBin_eqpnil (T := 345) (e := 263) (by kernel_rfl) x y a K
@[go_sem ↓] theorem xPne_345 (x y : Operand) (a : Option Addr) (K : Value → Prop) : xBin Tryz.prog .neq 345 x y (.pointer a) (.pointer none) K = K (.bool (!a.isNone)) := xBin_nepnil (T := 345) (e := 263) (by kernel_rfl) x y a K
@[go_sem ↓] theorem xPeq_348 (x y : Operand) (a : Option Addr) (K : Value → Prop) : xBin Tryz.prog .eql 348 x y (.pointer a) (.pointer none) K = K (.bool a.isNone) := xBin_eqpnil (T := 348) (e := 29) (by kernel_rfl) x y a K
@[go_sem ↓] theorem xPne_348 (x y : Operand) (a : Option Addr) (K : Value → Prop) : xBin Tryz.prog .neq 348 x y (.pointer a) (.pointer none) K = K (.bool (!a.isNone)) := xBin_nepnil (T := 348) (e := 29) (by kernel_rfl) x y a K
@[go_sem ↓] theorem xPeq_349 (x y : Operand) (a : Option Addr) (K : Value → Prop) : xBin Tryz.prog .eql 349 x y (.pointer a) (.pointer none) K = K (.bool a.isNone) := xBin_eqpnil (T := 349) (e := 109) (by kernel_rfl) x y a K
@[go_sem ↓] theorem xPne_349 (x y : Operand) (a : Option Addr) (K : Value → Prop) : xBin Tryz.prog .neq 349 x y (.pointer a) (.pointer none) K = K (.bool (!a.isNone)) := xBin_nepnil (T := 349) (e := 109) (by kernel_rfl) x y a K
@[go_sem ↓] theorem xPeq_352 (x y : Operand) (a : Option Addr) (K : Value → Prop) : xBin Tryz.prog .eql 352 x y (.pointer a) (.pointer none) K = K (.bool a.isNone) := xBin_eqpnil (T := 352) (e := 30) (by kernel_rfl) x y a K
@[go_sem ↓] theorem xPne_352 (x y : Operand) (a : Option Addr) (K : Value → Prop) : xBin Tryz.prog .neq 352 x y (.pointer a) (.pointer none) K = K (.bool (!a.isNone)) := xBin_nepnil (T := 352) (e := 30) (by kernel_rfl) x y a K
@[go_sem ↓] theorem xPeq_353 (x y : Operand) (a : Option Addr) (K : Value → Prop) : xBin Tryz.prog .eql 353 x y (.pointer a) (.pointer none) K = K (.bool a.isNone) := xBin_eqpnil (T := 353) (e := 127) (by kernel_rfl) x y a K
@[go_sem ↓] theorem xPne_353 (x y : Operand) (a : Option Addr) (K : Value → Prop) : xBin Tryz.prog .neq 353 x y (.pointer a) (.pointer none) K = K (.bool (!a.isNone)) := xBin_nepnil (T := 353) (e := 127) (by kernel_rfl) x y a K
@[go_sem ↓] theorem xPeq_357 (x y : Operand) (a : Option Addr) (K : Value → Prop) : xBin Tryz.prog .eql 357 x y (.pointer a) (.pointer none) K = K (.bool a.isNone) := xBin_eqpnil (T := 357) (e := 31) (by kernel_rfl) x y a K
@[go_sem ↓] theorem xPne_357 (x y : Operand) (a : Option Addr) (K : Value → Prop) : xBin Tryz.prog .neq 357 x y (.pointer a) (.pointer none) K = K (.bool (!a.isNone)) := xBin_nepnil (T := 357) (e := 31) (by kernel_rfl) x y a K
@[go_sem ↓] theorem xPeq_359 (x y : Operand) (a : Option Addr) (K : Value → Prop) : xBin Tryz.prog .eql 359 x y (.pointer a) (.pointer none) K = K (.bool a.isNone) := xBin_eqpnil (T := 359) (e := 32) (by kernel_rfl) x y a K
@[go_sem ↓] theorem xPne_359 (x y : Operand) (a : Option Addr) (K : Value → Prop) : xBin Tryz.prog .neq 359 x y (.pointer a) (.pointer none) K = K (.bool (!a.isNone)) := xBin_nepnil (T := 359) (e := 32) (by kernel_rfl) x y a K
@[go_sem ↓] theorem xPeq_364 (x y : Operand) (a : Option Addr) (K : Value → Prop) : xBin Tryz.prog .eql 364 x y (.pointer a) (.pointer none) K = K (.bool a.isNone) := xBin_eqpnil (T := 364) (e := 153) (by kernel_rfl) x y a K
@[go_sem ↓] theorem xPne_364 (x y : Operand) (a : Option Addr) (K : Value → Prop) : xBin Tryz.prog .neq 364 x y (.pointer a) (.pointer none) K = K (.bool (!a.isNone)) := xBin_nepnil (T := 364) (e := 153) (by kernel_rfl) x y a K
@[go_sem ↓] theorem xPeq_378 (x y : Operand) (a : Option Addr) (K : Value → Prop) : xBin Tryz.prog .eql 378 x y (.pointer a) (.pointer none) K = K (.bool a.isNone) := xBin_eqpnil (T := 378) (e := 380) (by kernel_rfl) x y a K
@[go_sem ↓] theorem xPne_378 (x y : Operand) (a : Option Addr) (K : Value → Prop) : xBin Tryz.prog .neq 378 x y (.pointer a) (.pointer none) K = K (.bool (!a.isNone)) := xBin_nepnil (T := 378) (e := 380) (by kernel_rfl) x y a K
@[go_sem ↓] theorem xPeq_430 (x y : Operand) (a : Option Addr) (K : Value → Prop) : xBin Tryz.prog .eql 430 x y (.pointer a) (.pointer none) K = K (.bool a.isNone) := xBin_eqpnil (T := 430) (e := 5) (by kernel_rfl) x y a K
@[go_sem ↓] theorem xPne_430 (x y : Operand) (a : Option Addr) (K : Value → Prop) : xBin Tryz.prog .neq 430 x y (.pointer a) (.pointer none) K = K (.bool (!a.isNone)) := xBin_nepnil (T := 430) (e := 5) (by kernel_rfl) x y a K
@[go_sem ↓] theorem xSlm_25 (a : Option Addr) (n c : Nat) (k l : IntKind) (i j : Int) (h0 : 0 ≤ i) (h1 : i ≤ j) (h2 : j ≤ (c : Int)) (K : Value → Prop) : xSl Tryz.prog 25 (.slice a n c) (some (.int k i)) (some (.int l j)) none K = K (.slice (cutA a c i.toNat 1) (j.toNat - i.toNat) (c - i.toNat)) := xSl_mid tSh_25 a n c k l i j h0 h1 h2 K
@[go_sem ↓] theorem xSlm_26 (a : Option Addr) (n c : Nat) (k l : IntKind) (i j : Int) (h0 : 0 ≤ i) (h1 : i ≤ j) (h2 : j ≤ (c : Int)) (K : Value → Prop) : xSl Tryz.prog 26 (.slice a n c) (some (.int k i)) (some (.int l j)) none K = K (.slice (cutA a c i.toNat 6) (j.toNat - i.toNat) (c - i.toNat)) := xSl_mid tSh_26 a n c k l i j h0 h1 h2 K
@[go_sem ↓] theorem xSlm_27 (a : Option Addr) (n c : Nat) (k l : IntKind) (i j : Int) (h0 : 0 ≤ i) (h1 : i ≤ j) (h2 : j ≤ (c : Int)) (K : Value → Prop) : xSl Tryz.prog 27 (.slice a n c) (some (.int k i)) (some (.int l j)) none K = K (.slice (cutA a c i.toNat 1) (j.toNat - i.toNat) (c - i.toNat)) := xSl_mid tSh_27 a n c k l i j h0 h1 h2 K
@[go_sem ↓] theorem xSlm_28 (a : Option Addr) (n c : Nat) (k l : IntKind) (i j : Int) (h0 : 0 ≤ i) (h1 : i ≤ j) (h2 : j ≤ (c : Int)) (K : Value → Prop) : xSl Tryz.prog 28 (.slice a n c) (some (.int k i)) (some (.int l j)) none K = K (.slice (cutA a c i.toNat 4) (j.toNat - i.toNat) (c - i.toNat)) := xSl_mid tSh_28 a n c k l i j h0 h1 h2 K
@[go_sem ↓] theorem xSlm_29 (a : Option Addr) (n c : Nat) (k l : IntKind) (i j : Int) (h0 : 0 ≤ i) (h1 : i ≤ j) (h2 : j ≤ (c : Int)) (K : Value → Prop) : xSl Tryz.prog 29 (.slice a n c) (some (.int k i)) (some (.int l j)) none K = K (.slice (cutA a c i.toNat 3) (j.toNat - i.toNat) (c - i.toNat)) := xSl_mid tSh_29 a n c k l i j h0 h1 h2 K
@[go_sem ↓] theorem xSlm_30 (a : Option Addr) (n c : Nat) (k l : IntKind) (i j : Int) (h0 : 0 ≤ i) (h1 : i ≤ j) (h2 : j ≤ (c : Int)) (K : Value → Prop) : xSl Tryz.prog 30 (.slice a n c) (some (.int k i)) (some (.int l j)) none K = K (.slice (cutA a c i.toNat 33) (j.toNat - i.toNat) (c - i.toNat)) := xSl_mid tSh_30 a n c k l i j h0 h1 h2 K
@[go_sem ↓] theorem xSlm_31 (a : Option Addr) (n c : Nat) (k l : IntKind) (i j : Int) (h0 : 0 ≤ i) (h1 : i ≤ j) (h2 : j ≤ (c : Int)) (K : Value → Prop) : xSl Tryz.prog 31 (.slice a n c) (some (.int k i)) (some (.int l j)) none K = K (.slice (cutA a c i.toNat 1) (j.toNat - i.toNat) (c - i.toNat)) := xSl_mid tSh_31 a n c k l i j h0 h1 h2 K
@[go_sem ↓] theorem xSlm_32 (a : Option Addr) (n c : Nat) (k l : IntKind) (i j : Int) (h0 : 0 ≤ i) (h1 : i ≤ j) (h2 : j ≤ (c : Int)) (K : Value → Prop) : xSl Tryz.prog 32 (.slice a n c) (some (.int k i)) (some (.int l j)) none K = K (.slice (cutA a c i.toNat 1) (j.toNat - i.toNat) (c - i.toNat)) := xSl_mid tSh_32 a n c k l i j h0 h1 h2 K
@[go_sem ↓] theorem xSlm_44 (a : Option Addr) (n c : Nat) (k l : IntKind) (i j : Int) (h0 : 0 ≤ i) (h1 : i ≤ j) (h2 : j ≤ (c : Int)) (K : Value → Prop) : xSl Tryz.prog 44 (.slice a n c) (some (.int k i)) (some (.int l j)) none K = K (.slice (cutA a c i.toNat 6) (j.toNat - i.toNat) (c - i.toNat)) := xSl_mid tSh_44 a n c k l i j h0 h1 h2 K
@[go_sem ↓] theorem xSlm_45 (a : Option Addr) (n c : Nat) (k l : IntKind) (i j : Int) (h0 : 0 ≤ i) (h1 : i ≤ j) (h2 : j ≤ (c : Int)) (K : Value → Prop) : xSl Tryz.prog 45 (.slice a n c) (some (.int k i)) (some (.int l j)) none K = K (.slice (cutA a c i.toNat 4) (j.toNat - i.toNat) (c - i.toNat)) := xSl_mid tSh_45 a n c k l i j h0 h1 h2 K
@[go_sem ↓] theorem xSlm_46 (a : Option Addr) (n c : Nat) (k l : IntKind) (i j : Int) (h0 : 0 ≤ i) (h1 : i ≤ j) (h2 : j ≤ (c : Int)) (K : Value → Prop) : xSl Tryz.prog 46 (.slice a n c) (some (.int k i)) (some (.int l j)) none K = K (.slice (cutA a c i.toNat 3) (j.toNat - i.toNat) (c - i.toNat)) := xSl_mid tSh_46 a n c k l i j h0 h1 h2 K
@[go_sem ↓] theorem xSlm_47 (a : Option Addr) (n c : Nat) (k l : IntKind) (i j : Int) (h0 : 0 ≤ i) (h1 : i ≤ j) (h2 : j ≤ (c : Int)) (K : Value → Prop) : xSl Tryz.prog 47 (.slice a n c) (some (.int k i)) (some (.int l j)) none K = K (.slice (cutA a c i.toNat 33) (j.toNat - i.toNat) (c - i.toNat)) := xSl_mid tSh_47 a n c k l i j h0 h1 h2 K
@[go_sem ↓] theorem xSlm_101 (a : Option Addr) (n c : Nat) (k l : IntKind) (i j : Int) (h0 : 0 ≤ i) (h1 : i ≤ j) (h2 : j ≤ (c : Int)) (K : Value → Prop) : xSl Tryz.prog 101 (.slice a n c) (some (.int k i)) (some (.int l j)) none K = K (.slice (cutA a c i.toNat 2) (j.toNat - i.toNat) (c - i.toNat)) := xSl_mid tSh_101 a n c k l i j h0 h1 h2 K
@[go_sem ↓] theorem xSlm_118 (a : Option Addr) (n c : Nat) (k l : IntKind) (i j : Int) (h0 : 0 ≤ i) (h1 : i ≤ j) (h2 : j ≤ (c : Int)) (K : Value → Prop) : xSl Tryz.prog 118 (.slice a n c) (some (.int k i)) (some (.int l j)) none K = K (.slice (cutA a c i.toNat 1) (j.toNat - i.toNat) (c - i.toNat)) := xSl_mid tSh_118 a n c k l i j h0 h1 h2 K
@[go_sem ↓] theorem xSlm_274 (a : Option Addr) (n c : Nat) (k l : IntKind) (i j : Int) (h0 : 0 ≤ i) (h1 : i ≤ j) (h2 : j ≤ (c : Int)) (K : Value → Prop) : xSl Tryz.prog 274 (.slice a n c) (some (.int k i)) (some (.int l j)) none K = K (.slice (cutA a c i.toNat 1) (j.toNat - i.toNat) (c - i.toNat)) := xSl_mid tSh_274 a n c k l i j h0 h1 h2 K
@[go_sem ↓] theorem xSlm_312 (a : Option Addr) (n c : Nat) (k l : IntKind) (i j : Int) (h0 : 0 ≤ i) (h1 : i ≤ j) (h2 : j ≤ (c : Int)) (K : Value → Prop) : xSl Tryz.prog 312 (.slice a n c) (some (.int k i)) (some (.int l j)) none K = K (.slice (cutA a c i.toNat 1) (j.toNat - i.toNat) (c - i.toNat)) := xSl_mid tSh_312 a n c k l i j h0 h1 h2 K
@[go_sem ↓] theorem xSlm_324 (a : Option Addr) (n c : Nat) (k l : IntKind) (i j : Int) (h0 : 0 ≤ i) (h1 : i ≤ j) (h2 : j ≤ (c : Int)) (K : Value → Prop) : xSl Tryz.prog 324 (.slice a n c) (some (.int k i)) (some (.int l j)) none K = K (.slice (cutA a c i.toNat 1) (j.toNat - i.toNat) (c - i.toNat)) := xSl_mid tSh_324 a n c k l i j h0 h1 h2 K
@[go_sem ↓] theorem xSlm_330 (a : Option Addr) (n c : Nat) (k l : IntKind) (i j : Int) (h0 : 0 ≤ i) (h1 : i ≤ j) (h2 : j ≤ (c : Int)) (K : Value → Prop) : xSl Tryz.prog 330 (.slice a n c) (some (.int k i)) (some (.int l j)) none K = K (.slice (cutA a c i.toNat 1) (j.toNat - i.toNat) (c - i.toNat)) := xSl_mid tSh_330 a n c k l i j h0 h1 h2 K
@[go_sem ↓] theorem xSlm_406 (a : Option Addr) (n c : Nat) (k l : IntKind) (i j : Int) (h0 : 0 ≤ i) (h1 : i ≤ j) (h2 : j ≤ (c : Int)) (K : Value → Prop) : xSl Tryz.prog 406 (.slice a n c) (some (.int k i)) (some (.int l j)) none K = K (.slice (cutA a c i.toNat 1) (j.toNat - i.toNat) (c - i.toNat)) := xSl_mid tSh_406 a n c k l i j h0 h1 h2 K
@[go_sem ↓] theorem xSlm_438 (a : Option Addr) (n c : Nat) (k l : IntKind) (i j : Int) (h0 : 0 ≤ i) (h1 : i ≤ j) (h2 : j ≤ (c : Int)) (K : Value → Prop) : xSl Tryz.prog 438 (.slice a n c) (some (.int k i)) (some (.int l j)) none K = K (.slice (cutA a c i.toNat 1) (j.toNat - i.toNat) (c - i.toNat)) := xSl_mid tSh_438 a n c k l i j h0 h1 h2 K
@[go_sem ↓] theorem xLen_25 (ty : Nat) (a : Option Addr) (n c : Nat) (K : Value → Prop) : xLen Tryz.prog ty #[25] (.slice a n c) K = K (.int .i64 n) := xLen_slice (T := 25) (e := 22) (by kernel_rfl) a n c
@[go_sem ↓] theorem xLen_26 (ty : Nat) (a : Option Addr) (n c : Nat) (K : Value → Prop) : xLen Tryz.prog ty #[26] (.slice a n c) K = K (.int .i64 n) := xLen_slice (T := 26) (e := 94) (by kernel_rfl) a n c
@[go_sem ↓] theorem xLen_27 (ty : Nat) (a : Option Addr) (n c : Nat) (K : Value → Prop) : xLen Tryz.prog ty #[27] (.slice a n c) K = K (.int .i64 n) := xLen_slice (T := 27) (e := 3) (by kernel_rfl) a n c
@[go_sem ↓] theorem xLen_28 (ty : Nat) (a : Option Addr) (n c : Nat) (K : Value → Prop) : xLen Tryz.prog ty #[28] (.slice a n c) K = K (.int .i64 n) := xLen_slice (T := 28) (e := 263) (by kernel_rfl) a n c
@[go_sem ↓] theorem xLen_29 (ty : Nat) (a : Option Addr) (n c : Nat) (K : Value → Prop) : xLen Tryz.prog ty #[29] (.slice a n c) K = K (.int .i64 n) := xLen_slice (T := 29) (e := 109) (by kernel_rfl) a n c
@[go_sem ↓] theorem xLen_30 (ty : Nat) (a : Option Addr) (n c : Nat) (K : Value → Prop) : xLen Tryz.prog ty #[30] (.slice a n c) K = K (.int .i64 n) := xLen_slice (T := 30) (e := 127) (by kernel_rfl) a n c
@[go_sem ↓] theorem xLen_31 (ty : Nat) (a : Option Addr) (n c : Nat) (K : Value → Prop) : xLen Tryz.prog ty #[31] (.slice a n c) K = K (.int .i64 n) := xLen_slice (T := 31) (e := 5) (by kernel_rfl) a n c
@[go_sem ↓] theorem xLen_32 (ty : Nat) (a : Option Addr) (n c : Nat) (K : Value → Prop) : xLen Tryz.prog ty #[32] (.slice a n c) K = K (.int .i64 n) := xLen_slice (T := 32) (e := 31) (by kernel_rfl) a n c
@[go_sem ↓] theorem xLen_44 (ty : Nat) (a : Option Addr) (n c : Nat) (K : Value → Prop) : xLen Tryz.prog ty #[44] (.slice a n c) K = K (.int .i64 n) := xLen_slice (T := 44) (e := 142) (by kernel_rfl) a n c
@[go_sem ↓] theorem xLen_45 (ty : Nat) (a : Option Addr) (n c : Nat) (K : Value → Prop) : xLen Tryz.prog ty #[45] (.slice a n c) K = K (.int .i64 n) := xLen_slice (T := 45) (e := 236) (by kernel_rfl) a n c
@[go_sem ↓] theorem xLen_46 (ty : Nat) (a : Option Addr) (n c : Nat) (K : Value → Prop) : xLen Tryz.prog ty #[46] (.slice a n c) K = K (.int .i64 n) := xLen_slice (T := 46) (e := 204) (by kernel_rfl) a n c
@[go_sem ↓] theorem xLen_47 (ty : Nat) (a : Option Addr) (n c : Nat) (K : Value → Prop) : xLen Tryz.prog ty #[47] (.slice a n c) K = K (.int .i64 n) := xLen_slice (T := 47) (e := 144) (by kernel_rfl) a n c
@[go_sem ↓] theorem xLen_101 (ty : Nat) (a : Option Addr) (n c : Nat) (K : Value → Prop) : xLen Tryz.prog ty #[101] (.slice a n c) K = K (.int .i64 n) := xLen_slice (T := 101) (e := 106) (by kernel_rfl) a n c
@[go_sem ↓] theorem xLen_118 (ty : Nat) (a : Option Addr) (n c : Nat) (K : Value → Prop) : xLen Tryz.prog ty #[118] (.slice a n c) K = K (.int .i64 n) := xLen_slice (T := 118) (e := 112) (by kernel_rfl) a n c
@[go_sem ↓] theorem xLen_274 (ty : Nat) (a : Option Addr) (n c : Nat) (K : Value → Prop) : xLen Tryz.prog ty #[274] (.slice a n c) K = K (.int .i64 n) := xLen_slice (T := 274) (e := 5) (by kernel_rfl) a n c
@[go_sem ↓] theorem xLen_312 (ty : Nat) (a : Option Addr) (n c : Nat) (K : Value → Prop) : xLen Tryz.prog ty #[312] (.slice a n c) K = K (.int .i64 n) := xLen_slice (T := 312) (e := 211) (by kernel_rfl) a n c
@[go_sem ↓] theorem xLen_324 (ty : Nat) (a : Option Addr) (n c : Nat) (K : Value → Prop) : xLen Tryz.prog ty #[324] (.slice a n c) K = K (.int .i64 n) := xLen_slice (T := 324) (e := 40) (by kernel_rfl) a n c
@[go_sem ↓] theorem xLen_330 (ty : Nat) (a : Option Addr) (n c : Nat) (K : Value → Prop) : xLen Tryz.prog ty #[330] (.slice a n c) K = K (.int .i64 n) := xLen_slice (T := 330) (e := 329) (by kernel_rfl) a n c
@[go_sem ↓] theorem xLen_406 (ty : Nat) (a : Option Addr) (n c : Nat) (K : Value → Prop) : xLen Tryz.prog ty #[406] (.slice a n c) K = K (.int .i64 n) := xLen_slice (T := 406) (e := 4) (by kernel_rfl) a n c
@[go_sem ↓] theorem xLen_438 (ty : Nat) (a : Option Addr) (n c : Nat) (K : Value → Prop) : xLen Tryz.prog ty #[438] (.slice a n c) K = K (.int .i64 n) := xLen_slice (T := 438) (e := 333) (by kernel_rfl) a n c
@[go_sem ↓] theorem xBb_4 (x y : Operand) (a b : Bool) (K : Value → Prop) : xBin Tryz.prog .eql 4 x y (.bool a) (.bool b) K = K (.bool (a == b)) := xBin_eqbool (T := 4) (by kernel_rfl) x y a b K
@[go_sem ↓] theorem xBn_4 (x y : Operand) (a b : Bool) (K : Value → Prop) : xBin Tryz.prog .neq 4 x y (.bool a) (.bool b) K = K (.bool (!(a == b))) := xBin_nebool (T := 4) (by kernel_rfl) x y a b K
@[go_sem ↓] theorem xConv_3_22 (k : IntKind) (n : Int) (K : Value → Prop) : xConv Tryz.prog 3 22 (.int k n) K = K (.int .u64 (IntKind.u64.wrap n)) := xConv_int (s := 3) (d := 22) (ks := .i64) (kd := .u64) (by kernel_rfl) (by kernel_rfl) k n
@[go_sem ↓] theorem xConv_3_285 (k : IntKind) (n : Int) (K : Value → Prop) : xConv Tryz.prog 3 285 (.int k n) K = K (.int .u64 (IntKind.u64.wrap n)) := xConv_int (s := 3) (d := 285) (ks := .i64) (kd := .u64) (by kernel_rfl) (by kernel_rfl) k n
@[go_sem ↓] theorem xConv_5_3 (k : IntKind) (n : Int) (K : Value → Prop) : xConv Tryz.prog 5 3 (.int k n) K = K (.int .i64 (IntKind.i64.wrap n)) := xConv_int (s := 5) (d := 3) (ks := .u8) (kd := .i64) (by kernel_rfl) (by kernel_rfl) k n
@[go_sem ↓] theorem xConv_5_22 (k : IntKind) (n : Int) (K : Value → Prop) : xConv Tryz.prog 5 22 (.int k n) K = K (.int .u64 (IntKind.u64.wrap n)) := xConv_int (s := 5) (d := 22) (ks := .u8) (kd := .u64) (by kernel_rfl) (by kernel_rfl) k n
@[go_sem ↓] theorem xConv_22_3 (k : IntKind) (n : Int) (K : Value → Prop) : xConv Tryz.prog 22 3 (.int k n) K = K (.int .i64 (IntKind.i64.wrap n)) := xConv_int (s := 22) (d := 3) (ks := .u64) (kd := .i64) (by kernel_rfl) (by kernel_rfl) k n
@[go_sem ↓] theorem xConv_22_5 (k : IntKind) (n : Int) (K : Value → Prop) : xConv Tryz.prog 22 5 (.int k n) K = K (.int .u8 (IntKind.u8.wrap n)) := xConv_int (s := 22) (d := 5) (ks := .u64) (kd := .u8) (by kernel_rfl) (by kernel_rfl) k n
@[go_sem ↓] theorem xConv_285_3 (k : IntKind) (n : Int) (K : Value → Prop) : xConv Tryz.prog 285 3 (.int k n) K = K (.int .i64 (IntKind.i64.wrap n)) := xConv_int (s := 285) (d := 3) (ks := .u64) (kd := .i64) (by kernel_rfl) (by kernel_rfl) k n
theorem mixed : Tryz.prog.follows .mixedOrders = true := by kernel_rfl
end Go.X
