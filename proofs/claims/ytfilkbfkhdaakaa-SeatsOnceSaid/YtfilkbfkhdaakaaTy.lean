/- Facts on the types of this seat's program, by program: sizes, zero values, fields' places. Conditions: none. -/
import Derived.Test.YtfilkbfkhdaakaaProg
import Derived.Test.YtfilkbfkhdaakaaXV
import Derived.Test.YtfilkbfkhdaakaaX
import Derived.Test.YtfilkbfkhdaakaaXA
import Derived.KernelRfl
set_option linter.unusedVariables false
set_option linter.unusedSimpArgs false
namespace Go.X
open Go.Proofs
theorem tI_3 : tI Try.prog 3 = some ⟨1, false, [(.int .i64 0)], 8⟩ := by kernel_rfl
@[go_sem ↓] theorem xTI_3 (K : TI → Prop) : xTI Try.prog 3 K = K ⟨1, false, [(.int .i64 0)], 8⟩ := xTI_of tI_3 K
theorem tI_4 : tI Try.prog 4 = some ⟨1, false, [(.bool false)], 1⟩ := by kernel_rfl
@[go_sem ↓] theorem xTI_4 (K : TI → Prop) : xTI Try.prog 4 K = K ⟨1, false, [(.bool false)], 1⟩ := xTI_of tI_4 K
theorem tI_5 : tI Try.prog 5 = some ⟨1, false, [(.int .u8 0)], 1⟩ := by kernel_rfl
@[go_sem ↓] theorem xTI_5 (K : TI → Prop) : xTI Try.prog 5 K = K ⟨1, false, [(.int .u8 0)], 1⟩ := xTI_of tI_5 K
theorem tI_22 : tI Try.prog 22 = some ⟨1, false, [(.int .u64 0)], 8⟩ := by kernel_rfl
@[go_sem ↓] theorem xTI_22 (K : TI → Prop) : xTI Try.prog 22 K = K ⟨1, false, [(.int .u64 0)], 8⟩ := xTI_of tI_22 K
theorem tI_24 : tI Try.prog 24 = some ⟨1, false, [(.slice none 0 0)], 24⟩ := by kernel_rfl
@[go_sem ↓] theorem xTI_24 (K : TI → Prop) : xTI Try.prog 24 K = K ⟨1, false, [(.slice none 0 0)], 24⟩ := xTI_of tI_24 K
theorem tI_25 : tI Try.prog 25 = some ⟨1, false, [(.int .i64 0)], 8⟩ := by kernel_rfl
@[go_sem ↓] theorem xTI_25 (K : TI → Prop) : xTI Try.prog 25 K = K ⟨1, false, [(.int .i64 0)], 8⟩ := xTI_of tI_25 K
theorem tI_28 : tI Try.prog 28 = some ⟨1, false, [(.slice none 0 0)], 24⟩ := by kernel_rfl
@[go_sem ↓] theorem xTI_28 (K : TI → Prop) : xTI Try.prog 28 K = K ⟨1, false, [(.slice none 0 0)], 24⟩ := xTI_of tI_28 K
theorem tI_37 : tI Try.prog 37 = some ⟨24, true, [(.int .u64 0), (.int .u64 0), (.int .u64 0), (.int .u64 0), (.int .u64 0), (.int .u64 0), (.int .u64 0), (.int .u64 0), (.int .u64 0), (.int .u64 0), (.int .u64 0), (.int .u64 0), (.int .u64 0), (.int .u64 0), (.int .i64 0), (.int .i64 0), (.int .i64 0), (.int .i64 0), (.int .i64 0), (.int .i64 0), (.int .i64 0), (.int .i64 0), (.int .i64 0), (.int .i64 0)], 192⟩ := by kernel_rfl
@[go_sem ↓] theorem xTI_37 (K : TI → Prop) : xTI Try.prog 37 K = K ⟨24, true, [(.int .u64 0), (.int .u64 0), (.int .u64 0), (.int .u64 0), (.int .u64 0), (.int .u64 0), (.int .u64 0), (.int .u64 0), (.int .u64 0), (.int .u64 0), (.int .u64 0), (.int .u64 0), (.int .u64 0), (.int .u64 0), (.int .i64 0), (.int .i64 0), (.int .i64 0), (.int .i64 0), (.int .i64 0), (.int .i64 0), (.int .i64 0), (.int .i64 0), (.int .i64 0), (.int .i64 0)], 192⟩ := xTI_of tI_37 K
theorem tI_38 : tI Try.prog 38 = some ⟨1, false, [(.slice none 0 0)], 24⟩ := by kernel_rfl
@[go_sem ↓] theorem xTI_38 (K : TI → Prop) : xTI Try.prog 38 K = K ⟨1, false, [(.slice none 0 0)], 24⟩ := xTI_of tI_38 K
theorem tI_39 : tI Try.prog 39 = some ⟨1, false, [(.slice none 0 0)], 24⟩ := by kernel_rfl
@[go_sem ↓] theorem xTI_39 (K : TI → Prop) : xTI Try.prog 39 K = K ⟨1, false, [(.slice none 0 0)], 24⟩ := xTI_of tI_39 K
theorem tI_40 : tI Try.prog 40 = some ⟨1, false, [(.slice none 0 0)], 24⟩ := by kernel_rfl
@[go_sem ↓] theorem xTI_40 (K : TI → Prop) : xTI Try.prog 40 K = K ⟨1, false, [(.slice none 0 0)], 24⟩ := xTI_of tI_40 K
theorem tI_41 : tI Try.prog 41 = some ⟨1, false, [(.slice none 0 0)], 24⟩ := by kernel_rfl
@[go_sem ↓] theorem xTI_41 (K : TI → Prop) : xTI Try.prog 41 K = K ⟨1, false, [(.slice none 0 0)], 24⟩ := xTI_of tI_41 K
theorem tI_42 : tI Try.prog 42 = some ⟨1, false, [(.slice none 0 0)], 24⟩ := by kernel_rfl
@[go_sem ↓] theorem xTI_42 (K : TI → Prop) : xTI Try.prog 42 K = K ⟨1, false, [(.slice none 0 0)], 24⟩ := xTI_of tI_42 K
theorem tI_43 : tI Try.prog 43 = some ⟨1, false, [(.slice none 0 0)], 24⟩ := by kernel_rfl
@[go_sem ↓] theorem xTI_43 (K : TI → Prop) : xTI Try.prog 43 K = K ⟨1, false, [(.slice none 0 0)], 24⟩ := xTI_of tI_43 K
theorem tI_45 : tI Try.prog 45 = some ⟨41, true, [(.int .u64 0), (.int .u64 0), (.int .u64 0), (.int .u64 0), (.int .u64 0), (.int .u64 0), (.int .u64 0), (.int .u64 0), (.int .u64 0), (.int .u64 0), (.int .u64 0), (.int .u64 0), (.int .u64 0), (.int .u64 0), (.int .i64 0), (.int .i64 0), (.int .i64 0), (.int .i64 0), (.int .i64 0), (.int .i64 0), (.int .i64 0), (.int .i64 0), (.int .i64 0), (.int .i64 0), (.int .u64 0), (.int .u64 0), (.int .u64 0), (.int .u64 0), (.int .u64 0), (.int .i64 0), (.int .i64 0), (.bool false), (.slice none 0 0), (.slice none 0 0), (.slice none 0 0), (.slice none 0 0), (.slice none 0 0), (.slice none 0 0), (.slice none 0 0), (.slice none 0 0), (.slice none 0 0)], 472⟩ := by kernel_rfl
@[go_sem ↓] theorem xTI_45 (K : TI → Prop) : xTI Try.prog 45 K = K ⟨41, true, [(.int .u64 0), (.int .u64 0), (.int .u64 0), (.int .u64 0), (.int .u64 0), (.int .u64 0), (.int .u64 0), (.int .u64 0), (.int .u64 0), (.int .u64 0), (.int .u64 0), (.int .u64 0), (.int .u64 0), (.int .u64 0), (.int .i64 0), (.int .i64 0), (.int .i64 0), (.int .i64 0), (.int .i64 0), (.int .i64 0), (.int .i64 0), (.int .i64 0), (.int .i64 0), (.int .i64 0), (.int .u64 0), (.int .u64 0), (.int .u64 0), (.int .u64 0), (.int .u64 0), (.int .i64 0), (.int .i64 0), (.bool false), (.slice none 0 0), (.slice none 0 0), (.slice none 0 0), (.slice none 0 0), (.slice none 0 0), (.slice none 0 0), (.slice none 0 0), (.slice none 0 0), (.slice none 0 0)], 472⟩ := xTI_of tI_45 K
theorem tI_54 : tI Try.prog 54 = some ⟨4, true, [(.int .u64 0), (.int .u64 0), (.int .u64 0), (.int .i64 0)], 32⟩ := by kernel_rfl
@[go_sem ↓] theorem xTI_54 (K : TI → Prop) : xTI Try.prog 54 K = K ⟨4, true, [(.int .u64 0), (.int .u64 0), (.int .u64 0), (.int .i64 0)], 32⟩ := xTI_of tI_54 K
theorem tI_56 : tI Try.prog 56 = some ⟨6, true, [(.int .u64 0), (.int .u64 0), (.int .u64 0), (.int .i64 0), (.int .i64 0), (.int .i64 0)], 48⟩ := by kernel_rfl
@[go_sem ↓] theorem xTI_56 (K : TI → Prop) : xTI Try.prog 56 K = K ⟨6, true, [(.int .u64 0), (.int .u64 0), (.int .u64 0), (.int .i64 0), (.int .i64 0), (.int .i64 0)], 48⟩ := xTI_of tI_56 K
theorem tI_60 : tI Try.prog 60 = some ⟨1, false, [(.slice none 0 0)], 24⟩ := by kernel_rfl
@[go_sem ↓] theorem xTI_60 (K : TI → Prop) : xTI Try.prog 60 K = K ⟨1, false, [(.slice none 0 0)], 24⟩ := xTI_of tI_60 K
theorem tI_62 : tI Try.prog 62 = some ⟨27, true, [(.int .u64 0), (.int .u64 0), (.int .u64 0), (.int .u64 0), (.int .u64 0), (.int .u64 0), (.int .u64 0), (.int .u64 0), (.int .u64 0), (.int .u64 0), (.int .u64 0), (.int .u64 0), (.int .u64 0), (.int .u64 0), (.int .i64 0), (.int .i64 0), (.int .i64 0), (.int .i64 0), (.int .i64 0), (.int .i64 0), (.int .i64 0), (.int .i64 0), (.int .i64 0), (.int .i64 0), (.int .u64 0), (.slice none 0 0), (.slice none 0 0)], 248⟩ := by kernel_rfl
@[go_sem ↓] theorem xTI_62 (K : TI → Prop) : xTI Try.prog 62 K = K ⟨27, true, [(.int .u64 0), (.int .u64 0), (.int .u64 0), (.int .u64 0), (.int .u64 0), (.int .u64 0), (.int .u64 0), (.int .u64 0), (.int .u64 0), (.int .u64 0), (.int .u64 0), (.int .u64 0), (.int .u64 0), (.int .u64 0), (.int .i64 0), (.int .i64 0), (.int .i64 0), (.int .i64 0), (.int .i64 0), (.int .i64 0), (.int .i64 0), (.int .i64 0), (.int .i64 0), (.int .i64 0), (.int .u64 0), (.slice none 0 0), (.slice none 0 0)], 248⟩ := xTI_of tI_62 K
theorem tI_64 : tI Try.prog 64 = some ⟨1, false, [.nilFunc], 8⟩ := by kernel_rfl
@[go_sem ↓] theorem xTI_64 (K : TI → Prop) : xTI Try.prog 64 K = K ⟨1, false, [.nilFunc], 8⟩ := xTI_of tI_64 K
theorem tI_66 : tI Try.prog 66 = some ⟨1, true, [.nilFunc], 8⟩ := by kernel_rfl
@[go_sem ↓] theorem xTI_66 (K : TI → Prop) : xTI Try.prog 66 K = K ⟨1, true, [.nilFunc], 8⟩ := xTI_of tI_66 K
theorem tI_70 : tI Try.prog 70 = some ⟨33, true, [(.int .i64 0), (.int .i64 0), (.int .u64 0), (.int .u64 0), (.int .u64 0), (.int .u64 0), (.int .u64 0), (.int .u64 0), (.int .u64 0), (.int .u64 0), (.int .u64 0), (.int .u64 0), (.int .u64 0), (.int .u64 0), (.int .u64 0), (.int .u64 0), (.int .i64 0), (.int .i64 0), (.int .i64 0), (.int .i64 0), (.int .i64 0), (.int .i64 0), (.int .i64 0), (.int .i64 0), (.int .i64 0), (.int .i64 0), (.int .i64 0), (.int .u64 0), (.int .i64 0), (.int .i64 0), (.int .i64 0), (.slice none 0 0), (.slice none 0 0)], 296⟩ := by kernel_rfl
@[go_sem ↓] theorem xTI_70 (K : TI → Prop) : xTI Try.prog 70 K = K ⟨33, true, [(.int .i64 0), (.int .i64 0), (.int .u64 0), (.int .u64 0), (.int .u64 0), (.int .u64 0), (.int .u64 0), (.int .u64 0), (.int .u64 0), (.int .u64 0), (.int .u64 0), (.int .u64 0), (.int .u64 0), (.int .u64 0), (.int .u64 0), (.int .u64 0), (.int .i64 0), (.int .i64 0), (.int .i64 0), (.int .i64 0), (.int .i64 0), (.int .i64 0), (.int .i64 0), (.int .i64 0), (.int .i64 0), (.int .i64 0), (.int .i64 0), (.int .u64 0), (.int .i64 0), (.int .i64 0), (.int .i64 0), (.slice none 0 0), (.slice none 0 0)], 296⟩ := xTI_of tI_70 K
theorem tI_72 : tI Try.prog 72 = some ⟨41, true, [(.int .u64 0), (.int .u64 0), (.int .u64 0), (.int .u64 0), (.int .u64 0), (.int .u64 0), (.int .u64 0), (.int .u64 0), (.int .u64 0), (.int .u64 0), (.int .u64 0), (.int .u64 0), (.int .u64 0), (.int .u64 0), (.int .i64 0), (.int .i64 0), (.int .i64 0), (.int .i64 0), (.int .i64 0), (.int .i64 0), (.int .i64 0), (.int .i64 0), (.int .i64 0), (.int .i64 0), (.int .u64 0), (.int .u64 0), (.int .u64 0), (.int .u64 0), (.int .u64 0), (.int .i64 0), (.int .i64 0), (.bool false), (.slice none 0 0), (.slice none 0 0), (.slice none 0 0), (.slice none 0 0), (.slice none 0 0), (.slice none 0 0), (.slice none 0 0), (.slice none 0 0), (.slice none 0 0)], 472⟩ := by kernel_rfl
@[go_sem ↓] theorem xTI_72 (K : TI → Prop) : xTI Try.prog 72 K = K ⟨41, true, [(.int .u64 0), (.int .u64 0), (.int .u64 0), (.int .u64 0), (.int .u64 0), (.int .u64 0), (.int .u64 0), (.int .u64 0), (.int .u64 0), (.int .u64 0), (.int .u64 0), (.int .u64 0), (.int .u64 0), (.int .u64 0), (.int .i64 0), (.int .i64 0), (.int .i64 0), (.int .i64 0), (.int .i64 0), (.int .i64 0), (.int .i64 0), (.int .i64 0), (.int .i64 0), (.int .i64 0), (.int .u64 0), (.int .u64 0), (.int .u64 0), (.int .u64 0), (.int .u64 0), (.int .i64 0), (.int .i64 0), (.bool false), (.slice none 0 0), (.slice none 0 0), (.slice none 0 0), (.slice none 0 0), (.slice none 0 0), (.slice none 0 0), (.slice none 0 0), (.slice none 0 0), (.slice none 0 0)], 472⟩ := xTI_of tI_72 K
theorem tI_84 : tI Try.prog 84 = some ⟨2, true, [(.int .i64 0), (.int .u64 0)], 16⟩ := by kernel_rfl
@[go_sem ↓] theorem xTI_84 (K : TI → Prop) : xTI Try.prog 84 K = K ⟨2, true, [(.int .i64 0), (.int .u64 0)], 16⟩ := xTI_of tI_84 K
theorem tI_96 : tI Try.prog 96 = some ⟨4, true, [(.int .i64 0), (.int .i64 0), (.int .u64 0), (.bool false)], 32⟩ := by kernel_rfl
@[go_sem ↓] theorem xTI_96 (K : TI → Prop) : xTI Try.prog 96 K = K ⟨4, true, [(.int .i64 0), (.int .i64 0), (.int .u64 0), (.bool false)], 32⟩ := xTI_of tI_96 K
theorem tI_101 : tI Try.prog 101 = some ⟨3, true, [(.int .i64 0), (.int .i64 0), (.int .u64 0)], 24⟩ := by kernel_rfl
@[go_sem ↓] theorem xTI_101 (K : TI → Prop) : xTI Try.prog 101 K = K ⟨3, true, [(.int .i64 0), (.int .i64 0), (.int .u64 0)], 24⟩ := xTI_of tI_101 K
theorem tI_106 : tI Try.prog 106 = some ⟨5, true, [(.int .u64 0), (.int .u64 0), (.int .u64 0), (.int .u64 0), (.int .u64 0)], 40⟩ := by kernel_rfl
@[go_sem ↓] theorem xTI_106 (K : TI → Prop) : xTI Try.prog 106 K = K ⟨5, true, [(.int .u64 0), (.int .u64 0), (.int .u64 0), (.int .u64 0), (.int .u64 0)], 40⟩ := xTI_of tI_106 K
theorem tI_124 : tI Try.prog 124 = some ⟨6, true, [(.int .u64 0), (.int .u64 0), (.int .u64 0), (.int .i64 0), (.int .i64 0), (.int .i64 0)], 48⟩ := by kernel_rfl
@[go_sem ↓] theorem xTI_124 (K : TI → Prop) : xTI Try.prog 124 K = K ⟨6, true, [(.int .u64 0), (.int .u64 0), (.int .u64 0), (.int .i64 0), (.int .i64 0), (.int .i64 0)], 48⟩ := xTI_of tI_124 K
theorem tI_140 : tI Try.prog 140 = some ⟨24, true, [(.int .u64 0), (.int .u64 0), (.int .u64 0), (.int .u64 0), (.int .u64 0), (.int .u64 0), (.int .u64 0), (.int .u64 0), (.int .u64 0), (.int .u64 0), (.int .u64 0), (.int .u64 0), (.int .u64 0), (.int .u64 0), (.int .i64 0), (.int .i64 0), (.int .i64 0), (.int .i64 0), (.int .i64 0), (.int .i64 0), (.int .i64 0), (.int .i64 0), (.int .i64 0), (.int .i64 0)], 192⟩ := by kernel_rfl
@[go_sem ↓] theorem xTI_140 (K : TI → Prop) : xTI Try.prog 140 K = K ⟨24, true, [(.int .u64 0), (.int .u64 0), (.int .u64 0), (.int .u64 0), (.int .u64 0), (.int .u64 0), (.int .u64 0), (.int .u64 0), (.int .u64 0), (.int .u64 0), (.int .u64 0), (.int .u64 0), (.int .u64 0), (.int .u64 0), (.int .i64 0), (.int .i64 0), (.int .i64 0), (.int .i64 0), (.int .i64 0), (.int .i64 0), (.int .i64 0), (.int .i64 0), (.int .i64 0), (.int .i64 0)], 192⟩ := xTI_of tI_140 K
theorem tI_144 : tI Try.prog 144 = some ⟨2, true, [(.int .u64 0), (.int .u64 0)], 16⟩ := by kernel_rfl
@[go_sem ↓] theorem xTI_144 (K : TI → Prop) : xTI Try.prog 144 K = K ⟨2, true, [(.int .u64 0), (.int .u64 0)], 16⟩ := xTI_of tI_144 K
theorem tI_149 : tI Try.prog 149 = some ⟨28, true, [(.int .u64 0), (.int .u64 0), (.int .u64 0), (.int .i64 0), (.int .u64 0), (.int .u64 0), (.int .u64 0), (.int .u64 0), (.int .u64 0), (.int .u64 0), (.int .u64 0), (.int .u64 0), (.int .u64 0), (.int .u64 0), (.int .u64 0), (.int .u64 0), (.int .u64 0), (.int .u64 0), (.int .i64 0), (.int .i64 0), (.int .i64 0), (.int .i64 0), (.int .i64 0), (.int .i64 0), (.int .i64 0), (.int .i64 0), (.int .i64 0), (.int .i64 0)], 224⟩ := by kernel_rfl
@[go_sem ↓] theorem xTI_149 (K : TI → Prop) : xTI Try.prog 149 K = K ⟨28, true, [(.int .u64 0), (.int .u64 0), (.int .u64 0), (.int .i64 0), (.int .u64 0), (.int .u64 0), (.int .u64 0), (.int .u64 0), (.int .u64 0), (.int .u64 0), (.int .u64 0), (.int .u64 0), (.int .u64 0), (.int .u64 0), (.int .u64 0), (.int .u64 0), (.int .u64 0), (.int .u64 0), (.int .i64 0), (.int .i64 0), (.int .i64 0), (.int .i64 0), (.int .i64 0), (.int .i64 0), (.int .i64 0), (.int .i64 0), (.int .i64 0), (.int .i64 0)], 224⟩ := xTI_of tI_149 K
theorem tI_164 : tI Try.prog 164 = some ⟨3, true, [(.int .u64 0), (.int .u64 0), (.int .u64 0)], 24⟩ := by kernel_rfl
@[go_sem ↓] theorem xTI_164 (K : TI → Prop) : xTI Try.prog 164 K = K ⟨3, true, [(.int .u64 0), (.int .u64 0), (.int .u64 0)], 24⟩ := xTI_of tI_164 K
theorem tI_169 : tI Try.prog 169 = some ⟨1, false, [.nilIface], 16⟩ := by kernel_rfl
@[go_sem ↓] theorem xTI_169 (K : TI → Prop) : xTI Try.prog 169 K = K ⟨1, false, [.nilIface], 16⟩ := xTI_of tI_169 K
theorem bP_37 : bPl Try.prog 37 = some ([(.int .u64 0), (.int .u64 0), (.int .u64 0), (.int .u64 0), (.int .u64 0), (.int .u64 0), (.int .u64 0), (.int .u64 0), (.int .u64 0), (.int .u64 0), (.int .u64 0), (.int .u64 0), (.int .u64 0), (.int .u64 0), (.int .i64 0), (.int .i64 0), (.int .i64 0), (.int .i64 0), (.int .i64 0), (.int .i64 0), (.int .i64 0), (.int .i64 0), (.int .i64 0), (.int .i64 0)], [(0, 1), (1, 1), (2, 1), (3, 1), (4, 1), (5, 1), (6, 1), (7, 1), (8, 1), (9, 1), (10, 1), (11, 1), (12, 1), (13, 1), (14, 1), (15, 1), (16, 1), (17, 1), (18, 1), (19, 1), (20, 1), (21, 1), (22, 1), (23, 1)]) := by kernel_rfl
@[go_sem ↓] theorem xBuild_37 (ps : List (Nat × Value)) (K : Value → Prop) : xBuild Try.prog 37 ps.toArray K = xFill [(.int .u64 0), (.int .u64 0), (.int .u64 0), (.int .u64 0), (.int .u64 0), (.int .u64 0), (.int .u64 0), (.int .u64 0), (.int .u64 0), (.int .u64 0), (.int .u64 0), (.int .u64 0), (.int .u64 0), (.int .u64 0), (.int .i64 0), (.int .i64 0), (.int .i64 0), (.int .i64 0), (.int .i64 0), (.int .i64 0), (.int .i64 0), (.int .i64 0), (.int .i64 0), (.int .i64 0)] [(0, 1), (1, 1), (2, 1), (3, 1), (4, 1), (5, 1), (6, 1), (7, 1), (8, 1), (9, 1), (10, 1), (11, 1), (12, 1), (13, 1), (14, 1), (15, 1), (16, 1), (17, 1), (18, 1), (19, 1), (20, 1), (21, 1), (22, 1), (23, 1)] ps fun z' => K (.agg z'.toArray) := xBuild_of bP_37 ps K
theorem bP_45 : bPl Try.prog 45 = some ([(.int .u64 0), (.int .u64 0), (.int .u64 0), (.int .u64 0), (.int .u64 0), (.int .u64 0), (.int .u64 0), (.int .u64 0), (.int .u64 0), (.int .u64 0), (.int .u64 0), (.int .u64 0), (.int .u64 0), (.int .u64 0), (.int .i64 0), (.int .i64 0), (.int .i64 0), (.int .i64 0), (.int .i64 0), (.int .i64 0), (.int .i64 0), (.int .i64 0), (.int .i64 0), (.int .i64 0), (.int .u64 0), (.int .u64 0), (.int .u64 0), (.int .u64 0), (.int .u64 0), (.int .i64 0), (.int .i64 0), (.bool false), (.slice none 0 0), (.slice none 0 0), (.slice none 0 0), (.slice none 0 0), (.slice none 0 0), (.slice none 0 0), (.slice none 0 0), (.slice none 0 0), (.slice none 0 0)], [(0, 24), (24, 1), (25, 1), (26, 1), (27, 1), (28, 1), (29, 1), (30, 1), (31, 1), (32, 1), (33, 1), (34, 1), (35, 1), (36, 1), (37, 1), (38, 1), (39, 1), (40, 1)]) := by kernel_rfl
@[go_sem ↓] theorem xBuild_45 (ps : List (Nat × Value)) (K : Value → Prop) : xBuild Try.prog 45 ps.toArray K = xFill [(.int .u64 0), (.int .u64 0), (.int .u64 0), (.int .u64 0), (.int .u64 0), (.int .u64 0), (.int .u64 0), (.int .u64 0), (.int .u64 0), (.int .u64 0), (.int .u64 0), (.int .u64 0), (.int .u64 0), (.int .u64 0), (.int .i64 0), (.int .i64 0), (.int .i64 0), (.int .i64 0), (.int .i64 0), (.int .i64 0), (.int .i64 0), (.int .i64 0), (.int .i64 0), (.int .i64 0), (.int .u64 0), (.int .u64 0), (.int .u64 0), (.int .u64 0), (.int .u64 0), (.int .i64 0), (.int .i64 0), (.bool false), (.slice none 0 0), (.slice none 0 0), (.slice none 0 0), (.slice none 0 0), (.slice none 0 0), (.slice none 0 0), (.slice none 0 0), (.slice none 0 0), (.slice none 0 0)] [(0, 24), (24, 1), (25, 1), (26, 1), (27, 1), (28, 1), (29, 1), (30, 1), (31, 1), (32, 1), (33, 1), (34, 1), (35, 1), (36, 1), (37, 1), (38, 1), (39, 1), (40, 1)] ps fun z' => K (.agg z'.toArray) := xBuild_of bP_45 ps K
theorem bP_54 : bPl Try.prog 54 = some ([(.int .u64 0), (.int .u64 0), (.int .u64 0), (.int .i64 0)], [(0, 1), (1, 1), (2, 1), (3, 1)]) := by kernel_rfl
@[go_sem ↓] theorem xBuild_54 (ps : List (Nat × Value)) (K : Value → Prop) : xBuild Try.prog 54 ps.toArray K = xFill [(.int .u64 0), (.int .u64 0), (.int .u64 0), (.int .i64 0)] [(0, 1), (1, 1), (2, 1), (3, 1)] ps fun z' => K (.agg z'.toArray) := xBuild_of bP_54 ps K
theorem bP_56 : bPl Try.prog 56 = some ([(.int .u64 0), (.int .u64 0), (.int .u64 0), (.int .i64 0), (.int .i64 0), (.int .i64 0)], [(0, 4), (4, 1), (5, 1)]) := by kernel_rfl
@[go_sem ↓] theorem xBuild_56 (ps : List (Nat × Value)) (K : Value → Prop) : xBuild Try.prog 56 ps.toArray K = xFill [(.int .u64 0), (.int .u64 0), (.int .u64 0), (.int .i64 0), (.int .i64 0), (.int .i64 0)] [(0, 4), (4, 1), (5, 1)] ps fun z' => K (.agg z'.toArray) := xBuild_of bP_56 ps K
theorem bP_62 : bPl Try.prog 62 = some ([(.int .u64 0), (.int .u64 0), (.int .u64 0), (.int .u64 0), (.int .u64 0), (.int .u64 0), (.int .u64 0), (.int .u64 0), (.int .u64 0), (.int .u64 0), (.int .u64 0), (.int .u64 0), (.int .u64 0), (.int .u64 0), (.int .i64 0), (.int .i64 0), (.int .i64 0), (.int .i64 0), (.int .i64 0), (.int .i64 0), (.int .i64 0), (.int .i64 0), (.int .i64 0), (.int .i64 0), (.int .u64 0), (.slice none 0 0), (.slice none 0 0)], [(0, 24), (24, 1), (25, 1), (26, 1)]) := by kernel_rfl
@[go_sem ↓] theorem xBuild_62 (ps : List (Nat × Value)) (K : Value → Prop) : xBuild Try.prog 62 ps.toArray K = xFill [(.int .u64 0), (.int .u64 0), (.int .u64 0), (.int .u64 0), (.int .u64 0), (.int .u64 0), (.int .u64 0), (.int .u64 0), (.int .u64 0), (.int .u64 0), (.int .u64 0), (.int .u64 0), (.int .u64 0), (.int .u64 0), (.int .i64 0), (.int .i64 0), (.int .i64 0), (.int .i64 0), (.int .i64 0), (.int .i64 0), (.int .i64 0), (.int .i64 0), (.int .i64 0), (.int .i64 0), (.int .u64 0), (.slice none 0 0), (.slice none 0 0)] [(0, 24), (24, 1), (25, 1), (26, 1)] ps fun z' => K (.agg z'.toArray) := xBuild_of bP_62 ps K
theorem bP_66 : bPl Try.prog 66 = some ([.nilFunc], [(0, 1)]) := by kernel_rfl
@[go_sem ↓] theorem xBuild_66 (ps : List (Nat × Value)) (K : Value → Prop) : xBuild Try.prog 66 ps.toArray K = xFill [.nilFunc] [(0, 1)] ps fun z' => K (.agg z'.toArray) := xBuild_of bP_66 ps K
theorem bP_72 : bPl Try.prog 72 = some ([(.int .u64 0), (.int .u64 0), (.int .u64 0), (.int .u64 0), (.int .u64 0), (.int .u64 0), (.int .u64 0), (.int .u64 0), (.int .u64 0), (.int .u64 0), (.int .u64 0), (.int .u64 0), (.int .u64 0), (.int .u64 0), (.int .i64 0), (.int .i64 0), (.int .i64 0), (.int .i64 0), (.int .i64 0), (.int .i64 0), (.int .i64 0), (.int .i64 0), (.int .i64 0), (.int .i64 0), (.int .u64 0), (.int .u64 0), (.int .u64 0), (.int .u64 0), (.int .u64 0), (.int .i64 0), (.int .i64 0), (.bool false), (.slice none 0 0), (.slice none 0 0), (.slice none 0 0), (.slice none 0 0), (.slice none 0 0), (.slice none 0 0), (.slice none 0 0), (.slice none 0 0), (.slice none 0 0)], [(0, 41)]) := by kernel_rfl
@[go_sem ↓] theorem xBuild_72 (ps : List (Nat × Value)) (K : Value → Prop) : xBuild Try.prog 72 ps.toArray K = xFill [(.int .u64 0), (.int .u64 0), (.int .u64 0), (.int .u64 0), (.int .u64 0), (.int .u64 0), (.int .u64 0), (.int .u64 0), (.int .u64 0), (.int .u64 0), (.int .u64 0), (.int .u64 0), (.int .u64 0), (.int .u64 0), (.int .i64 0), (.int .i64 0), (.int .i64 0), (.int .i64 0), (.int .i64 0), (.int .i64 0), (.int .i64 0), (.int .i64 0), (.int .i64 0), (.int .i64 0), (.int .u64 0), (.int .u64 0), (.int .u64 0), (.int .u64 0), (.int .u64 0), (.int .i64 0), (.int .i64 0), (.bool false), (.slice none 0 0), (.slice none 0 0), (.slice none 0 0), (.slice none 0 0), (.slice none 0 0), (.slice none 0 0), (.slice none 0 0), (.slice none 0 0), (.slice none 0 0)] [(0, 41)] ps fun z' => K (.agg z'.toArray) := xBuild_of bP_72 ps K
theorem bP_84 : bPl Try.prog 84 = some ([(.int .i64 0), (.int .u64 0)], [(0, 1), (1, 1)]) := by kernel_rfl
@[go_sem ↓] theorem xBuild_84 (ps : List (Nat × Value)) (K : Value → Prop) : xBuild Try.prog 84 ps.toArray K = xFill [(.int .i64 0), (.int .u64 0)] [(0, 1), (1, 1)] ps fun z' => K (.agg z'.toArray) := xBuild_of bP_84 ps K
theorem bP_101 : bPl Try.prog 101 = some ([(.int .i64 0), (.int .i64 0), (.int .u64 0)], [(0, 1), (1, 1), (2, 1)]) := by kernel_rfl
@[go_sem ↓] theorem xBuild_101 (ps : List (Nat × Value)) (K : Value → Prop) : xBuild Try.prog 101 ps.toArray K = xFill [(.int .i64 0), (.int .i64 0), (.int .u64 0)] [(0, 1), (1, 1), (2, 1)] ps fun z' => K (.agg z'.toArray) := xBuild_of bP_101 ps K
theorem bP_106 : bPl Try.prog 106 = some ([(.int .u64 0), (.int .u64 0), (.int .u64 0), (.int .u64 0), (.int .u64 0)], [(0, 1), (1, 1), (2, 1), (3, 1), (4, 1)]) := by kernel_rfl
@[go_sem ↓] theorem xBuild_106 (ps : List (Nat × Value)) (K : Value → Prop) : xBuild Try.prog 106 ps.toArray K = xFill [(.int .u64 0), (.int .u64 0), (.int .u64 0), (.int .u64 0), (.int .u64 0)] [(0, 1), (1, 1), (2, 1), (3, 1), (4, 1)] ps fun z' => K (.agg z'.toArray) := xBuild_of bP_106 ps K
theorem bP_124 : bPl Try.prog 124 = some ([(.int .u64 0), (.int .u64 0), (.int .u64 0), (.int .i64 0), (.int .i64 0), (.int .i64 0)], [(0, 6)]) := by kernel_rfl
@[go_sem ↓] theorem xBuild_124 (ps : List (Nat × Value)) (K : Value → Prop) : xBuild Try.prog 124 ps.toArray K = xFill [(.int .u64 0), (.int .u64 0), (.int .u64 0), (.int .i64 0), (.int .i64 0), (.int .i64 0)] [(0, 6)] ps fun z' => K (.agg z'.toArray) := xBuild_of bP_124 ps K
theorem bP_140 : bPl Try.prog 140 = some ([(.int .u64 0), (.int .u64 0), (.int .u64 0), (.int .u64 0), (.int .u64 0), (.int .u64 0), (.int .u64 0), (.int .u64 0), (.int .u64 0), (.int .u64 0), (.int .u64 0), (.int .u64 0), (.int .u64 0), (.int .u64 0), (.int .i64 0), (.int .i64 0), (.int .i64 0), (.int .i64 0), (.int .i64 0), (.int .i64 0), (.int .i64 0), (.int .i64 0), (.int .i64 0), (.int .i64 0)], [(0, 24)]) := by kernel_rfl
@[go_sem ↓] theorem xBuild_140 (ps : List (Nat × Value)) (K : Value → Prop) : xBuild Try.prog 140 ps.toArray K = xFill [(.int .u64 0), (.int .u64 0), (.int .u64 0), (.int .u64 0), (.int .u64 0), (.int .u64 0), (.int .u64 0), (.int .u64 0), (.int .u64 0), (.int .u64 0), (.int .u64 0), (.int .u64 0), (.int .u64 0), (.int .u64 0), (.int .i64 0), (.int .i64 0), (.int .i64 0), (.int .i64 0), (.int .i64 0), (.int .i64 0), (.int .i64 0), (.int .i64 0), (.int .i64 0), (.int .i64 0)] [(0, 24)] ps fun z' => K (.agg z'.toArray) := xBuild_of bP_140 ps K
theorem bP_144 : bPl Try.prog 144 = some ([(.int .u64 0), (.int .u64 0)], [(0, 1), (1, 1)]) := by kernel_rfl
@[go_sem ↓] theorem xBuild_144 (ps : List (Nat × Value)) (K : Value → Prop) : xBuild Try.prog 144 ps.toArray K = xFill [(.int .u64 0), (.int .u64 0)] [(0, 1), (1, 1)] ps fun z' => K (.agg z'.toArray) := xBuild_of bP_144 ps K
theorem bP_149 : bPl Try.prog 149 = some ([(.int .u64 0), (.int .u64 0), (.int .u64 0), (.int .i64 0), (.int .u64 0), (.int .u64 0), (.int .u64 0), (.int .u64 0), (.int .u64 0), (.int .u64 0), (.int .u64 0), (.int .u64 0), (.int .u64 0), (.int .u64 0), (.int .u64 0), (.int .u64 0), (.int .u64 0), (.int .u64 0), (.int .i64 0), (.int .i64 0), (.int .i64 0), (.int .i64 0), (.int .i64 0), (.int .i64 0), (.int .i64 0), (.int .i64 0), (.int .i64 0), (.int .i64 0)], [(0, 4), (4, 24)]) := by kernel_rfl
@[go_sem ↓] theorem xBuild_149 (ps : List (Nat × Value)) (K : Value → Prop) : xBuild Try.prog 149 ps.toArray K = xFill [(.int .u64 0), (.int .u64 0), (.int .u64 0), (.int .i64 0), (.int .u64 0), (.int .u64 0), (.int .u64 0), (.int .u64 0), (.int .u64 0), (.int .u64 0), (.int .u64 0), (.int .u64 0), (.int .u64 0), (.int .u64 0), (.int .u64 0), (.int .u64 0), (.int .u64 0), (.int .u64 0), (.int .i64 0), (.int .i64 0), (.int .i64 0), (.int .i64 0), (.int .i64 0), (.int .i64 0), (.int .i64 0), (.int .i64 0), (.int .i64 0), (.int .i64 0)] [(0, 4), (4, 24)] ps fun z' => K (.agg z'.toArray) := xBuild_of bP_149 ps K
theorem bP_164 : bPl Try.prog 164 = some ([(.int .u64 0), (.int .u64 0), (.int .u64 0)], [(0, 2), (2, 1)]) := by kernel_rfl
@[go_sem ↓] theorem xBuild_164 (ps : List (Nat × Value)) (K : Value → Prop) : xBuild Try.prog 164 ps.toArray K = xFill [(.int .u64 0), (.int .u64 0), (.int .u64 0)] [(0, 2), (2, 1)] ps fun z' => K (.agg z'.toArray) := xBuild_of bP_164 ps K
theorem bS_24_0 : bSl Try.prog 24 0 = some (22, [], []) := by kernel_rfl
@[go_sem ↓] theorem xBS_24_0 (ps : List (Nat × Value)) (K : TypeId → List Value → Prop) : xBS Try.prog 24 0 ps.toArray K = xFill [] [] ps fun cs => K 22 cs := xBS_of bS_24_0 ps K
theorem bS_24_1 : bSl Try.prog 24 1 = some (22, [(.int .u64 0)], [(0, 1)]) := by kernel_rfl
@[go_sem ↓] theorem xBS_24_1 (ps : List (Nat × Value)) (K : TypeId → List Value → Prop) : xBS Try.prog 24 1 ps.toArray K = xFill [(.int .u64 0)] [(0, 1)] ps fun cs => K 22 cs := xBS_of bS_24_1 ps K
theorem bS_24_2 : bSl Try.prog 24 2 = some (22, [(.int .u64 0), (.int .u64 0)], [(0, 1), (1, 1)]) := by kernel_rfl
@[go_sem ↓] theorem xBS_24_2 (ps : List (Nat × Value)) (K : TypeId → List Value → Prop) : xBS Try.prog 24 2 ps.toArray K = xFill [(.int .u64 0), (.int .u64 0)] [(0, 1), (1, 1)] ps fun cs => K 22 cs := xBS_of bS_24_2 ps K
theorem bS_24_5 : bSl Try.prog 24 5 = some (22, [(.int .u64 0), (.int .u64 0), (.int .u64 0), (.int .u64 0), (.int .u64 0)], [(0, 1), (1, 1), (2, 1), (3, 1), (4, 1)]) := by kernel_rfl
@[go_sem ↓] theorem xBS_24_5 (ps : List (Nat × Value)) (K : TypeId → List Value → Prop) : xBS Try.prog 24 5 ps.toArray K = xFill [(.int .u64 0), (.int .u64 0), (.int .u64 0), (.int .u64 0), (.int .u64 0)] [(0, 1), (1, 1), (2, 1), (3, 1), (4, 1)] ps fun cs => K 22 cs := xBS_of bS_24_5 ps K
theorem bS_28_1 : bSl Try.prog 28 1 = some (3, [(.int .i64 0)], [(0, 1)]) := by kernel_rfl
@[go_sem ↓] theorem xBS_28_1 (ps : List (Nat × Value)) (K : TypeId → List Value → Prop) : xBS Try.prog 28 1 ps.toArray K = xFill [(.int .i64 0)] [(0, 1)] ps fun cs => K 3 cs := xBS_of bS_28_1 ps K
theorem bS_28_2 : bSl Try.prog 28 2 = some (3, [(.int .i64 0), (.int .i64 0)], [(0, 1), (1, 1)]) := by kernel_rfl
@[go_sem ↓] theorem xBS_28_2 (ps : List (Nat × Value)) (K : TypeId → List Value → Prop) : xBS Try.prog 28 2 ps.toArray K = xFill [(.int .i64 0), (.int .i64 0)] [(0, 1), (1, 1)] ps fun cs => K 3 cs := xBS_of bS_28_2 ps K
theorem bS_38_1 : bSl Try.prog 38 1 = some (56, [(.int .u64 0), (.int .u64 0), (.int .u64 0), (.int .i64 0), (.int .i64 0), (.int .i64 0)], [(0, 6)]) := by kernel_rfl
@[go_sem ↓] theorem xBS_38_1 (ps : List (Nat × Value)) (K : TypeId → List Value → Prop) : xBS Try.prog 38 1 ps.toArray K = xFill [(.int .u64 0), (.int .u64 0), (.int .u64 0), (.int .i64 0), (.int .i64 0), (.int .i64 0)] [(0, 6)] ps fun cs => K 56 cs := xBS_of bS_38_1 ps K
theorem bS_39_0 : bSl Try.prog 39 0 = some (96, [], []) := by kernel_rfl
@[go_sem ↓] theorem xBS_39_0 (ps : List (Nat × Value)) (K : TypeId → List Value → Prop) : xBS Try.prog 39 0 ps.toArray K = xFill [] [] ps fun cs => K 96 cs := xBS_of bS_39_0 ps K
theorem bS_39_1 : bSl Try.prog 39 1 = some (96, [(.int .i64 0), (.int .i64 0), (.int .u64 0), (.bool false)], [(0, 4)]) := by kernel_rfl
@[go_sem ↓] theorem xBS_39_1 (ps : List (Nat × Value)) (K : TypeId → List Value → Prop) : xBS Try.prog 39 1 ps.toArray K = xFill [(.int .i64 0), (.int .i64 0), (.int .u64 0), (.bool false)] [(0, 4)] ps fun cs => K 96 cs := xBS_of bS_39_1 ps K
theorem bS_60_2 : bSl Try.prog 60 2 = some (84, [(.int .i64 0), (.int .u64 0), (.int .i64 0), (.int .u64 0)], [(0, 2), (2, 2)]) := by kernel_rfl
@[go_sem ↓] theorem xBS_60_2 (ps : List (Nat × Value)) (K : TypeId → List Value → Prop) : xBS Try.prog 60 2 ps.toArray K = xFill [(.int .i64 0), (.int .u64 0), (.int .i64 0), (.int .u64 0)] [(0, 2), (2, 2)] ps fun cs => K 84 cs := xBS_of bS_60_2 ps K
theorem bS_75_6 : bSl Try.prog 75 6 = some (4, [(.bool false), (.bool false), (.bool false), (.bool false), (.bool false), (.bool false)], [(0, 1), (1, 1), (2, 1), (3, 1), (4, 1), (5, 1)]) := by kernel_rfl
@[go_sem ↓] theorem xBS_75_6 (ps : List (Nat × Value)) (K : TypeId → List Value → Prop) : xBS Try.prog 75 6 ps.toArray K = xFill [(.bool false), (.bool false), (.bool false), (.bool false), (.bool false), (.bool false)] [(0, 1), (1, 1), (2, 1), (3, 1), (4, 1), (5, 1)] ps fun cs => K 4 cs := xBS_of bS_75_6 ps K
theorem bS_75_7 : bSl Try.prog 75 7 = some (4, [(.bool false), (.bool false), (.bool false), (.bool false), (.bool false), (.bool false), (.bool false)], [(0, 1), (1, 1), (2, 1), (3, 1), (4, 1), (5, 1), (6, 1)]) := by kernel_rfl
@[go_sem ↓] theorem xBS_75_7 (ps : List (Nat × Value)) (K : TypeId → List Value → Prop) : xBS Try.prog 75 7 ps.toArray K = xFill [(.bool false), (.bool false), (.bool false), (.bool false), (.bool false), (.bool false), (.bool false)] [(0, 1), (1, 1), (2, 1), (3, 1), (4, 1), (5, 1), (6, 1)] ps fun cs => K 4 cs := xBS_of bS_75_7 ps K
theorem bS_75_12 : bSl Try.prog 75 12 = some (4, [(.bool false), (.bool false), (.bool false), (.bool false), (.bool false), (.bool false), (.bool false), (.bool false), (.bool false), (.bool false), (.bool false), (.bool false)], [(0, 1), (1, 1), (2, 1), (3, 1), (4, 1), (5, 1), (6, 1), (7, 1), (8, 1), (9, 1), (10, 1), (11, 1)]) := by kernel_rfl
@[go_sem ↓] theorem xBS_75_12 (ps : List (Nat × Value)) (K : TypeId → List Value → Prop) : xBS Try.prog 75 12 ps.toArray K = xFill [(.bool false), (.bool false), (.bool false), (.bool false), (.bool false), (.bool false), (.bool false), (.bool false), (.bool false), (.bool false), (.bool false), (.bool false)] [(0, 1), (1, 1), (2, 1), (3, 1), (4, 1), (5, 1), (6, 1), (7, 1), (8, 1), (9, 1), (10, 1), (11, 1)] ps fun cs => K 4 cs := xBS_of bS_75_12 ps K
theorem bS_135_2 : bSl Try.prog 135 2 = some (25, [(.int .i64 0), (.int .i64 0)], [(0, 1), (1, 1)]) := by kernel_rfl
@[go_sem ↓] theorem xBS_135_2 (ps : List (Nat × Value)) (K : TypeId → List Value → Prop) : xBS Try.prog 135 2 ps.toArray K = xFill [(.int .i64 0), (.int .i64 0)] [(0, 1), (1, 1)] ps fun cs => K 25 cs := xBS_of bS_135_2 ps K
theorem bS_135_4 : bSl Try.prog 135 4 = some (25, [(.int .i64 0), (.int .i64 0), (.int .i64 0), (.int .i64 0)], [(0, 1), (1, 1), (2, 1), (3, 1)]) := by kernel_rfl
@[go_sem ↓] theorem xBS_135_4 (ps : List (Nat × Value)) (K : TypeId → List Value → Prop) : xBS Try.prog 135 4 ps.toArray K = xFill [(.int .i64 0), (.int .i64 0), (.int .i64 0), (.int .i64 0)] [(0, 1), (1, 1), (2, 1), (3, 1)] ps fun cs => K 25 cs := xBS_of bS_135_4 ps K
theorem fO_37_0 : fOff Try.prog 37 0 = some 0 := by kernel_rfl
@[go_sem ↓] theorem xFO_37_0 (K : Nat → Prop) : xFO Try.prog 37 0 K = K 0 := xFO_of fO_37_0 K
theorem fO_37_1 : fOff Try.prog 37 1 = some 1 := by kernel_rfl
@[go_sem ↓] theorem xFO_37_1 (K : Nat → Prop) : xFO Try.prog 37 1 K = K 1 := xFO_of fO_37_1 K
theorem fO_37_2 : fOff Try.prog 37 2 = some 2 := by kernel_rfl
@[go_sem ↓] theorem xFO_37_2 (K : Nat → Prop) : xFO Try.prog 37 2 K = K 2 := xFO_of fO_37_2 K
theorem fO_37_3 : fOff Try.prog 37 3 = some 3 := by kernel_rfl
@[go_sem ↓] theorem xFO_37_3 (K : Nat → Prop) : xFO Try.prog 37 3 K = K 3 := xFO_of fO_37_3 K
theorem fO_37_4 : fOff Try.prog 37 4 = some 4 := by kernel_rfl
@[go_sem ↓] theorem xFO_37_4 (K : Nat → Prop) : xFO Try.prog 37 4 K = K 4 := xFO_of fO_37_4 K
theorem fO_37_5 : fOff Try.prog 37 5 = some 5 := by kernel_rfl
@[go_sem ↓] theorem xFO_37_5 (K : Nat → Prop) : xFO Try.prog 37 5 K = K 5 := xFO_of fO_37_5 K
theorem fO_37_6 : fOff Try.prog 37 6 = some 6 := by kernel_rfl
@[go_sem ↓] theorem xFO_37_6 (K : Nat → Prop) : xFO Try.prog 37 6 K = K 6 := xFO_of fO_37_6 K
theorem fO_37_7 : fOff Try.prog 37 7 = some 7 := by kernel_rfl
@[go_sem ↓] theorem xFO_37_7 (K : Nat → Prop) : xFO Try.prog 37 7 K = K 7 := xFO_of fO_37_7 K
theorem fO_37_8 : fOff Try.prog 37 8 = some 8 := by kernel_rfl
@[go_sem ↓] theorem xFO_37_8 (K : Nat → Prop) : xFO Try.prog 37 8 K = K 8 := xFO_of fO_37_8 K
theorem fO_37_9 : fOff Try.prog 37 9 = some 9 := by kernel_rfl
@[go_sem ↓] theorem xFO_37_9 (K : Nat → Prop) : xFO Try.prog 37 9 K = K 9 := xFO_of fO_37_9 K
theorem fO_37_10 : fOff Try.prog 37 10 = some 10 := by kernel_rfl
@[go_sem ↓] theorem xFO_37_10 (K : Nat → Prop) : xFO Try.prog 37 10 K = K 10 := xFO_of fO_37_10 K
theorem fO_37_11 : fOff Try.prog 37 11 = some 11 := by kernel_rfl
@[go_sem ↓] theorem xFO_37_11 (K : Nat → Prop) : xFO Try.prog 37 11 K = K 11 := xFO_of fO_37_11 K
theorem fO_37_12 : fOff Try.prog 37 12 = some 12 := by kernel_rfl
@[go_sem ↓] theorem xFO_37_12 (K : Nat → Prop) : xFO Try.prog 37 12 K = K 12 := xFO_of fO_37_12 K
theorem fO_37_13 : fOff Try.prog 37 13 = some 13 := by kernel_rfl
@[go_sem ↓] theorem xFO_37_13 (K : Nat → Prop) : xFO Try.prog 37 13 K = K 13 := xFO_of fO_37_13 K
theorem fO_37_14 : fOff Try.prog 37 14 = some 14 := by kernel_rfl
@[go_sem ↓] theorem xFO_37_14 (K : Nat → Prop) : xFO Try.prog 37 14 K = K 14 := xFO_of fO_37_14 K
theorem fO_37_15 : fOff Try.prog 37 15 = some 15 := by kernel_rfl
@[go_sem ↓] theorem xFO_37_15 (K : Nat → Prop) : xFO Try.prog 37 15 K = K 15 := xFO_of fO_37_15 K
theorem fO_37_16 : fOff Try.prog 37 16 = some 16 := by kernel_rfl
@[go_sem ↓] theorem xFO_37_16 (K : Nat → Prop) : xFO Try.prog 37 16 K = K 16 := xFO_of fO_37_16 K
theorem fO_37_17 : fOff Try.prog 37 17 = some 17 := by kernel_rfl
@[go_sem ↓] theorem xFO_37_17 (K : Nat → Prop) : xFO Try.prog 37 17 K = K 17 := xFO_of fO_37_17 K
theorem fO_37_18 : fOff Try.prog 37 18 = some 18 := by kernel_rfl
@[go_sem ↓] theorem xFO_37_18 (K : Nat → Prop) : xFO Try.prog 37 18 K = K 18 := xFO_of fO_37_18 K
theorem fO_37_19 : fOff Try.prog 37 19 = some 19 := by kernel_rfl
@[go_sem ↓] theorem xFO_37_19 (K : Nat → Prop) : xFO Try.prog 37 19 K = K 19 := xFO_of fO_37_19 K
theorem fO_37_20 : fOff Try.prog 37 20 = some 20 := by kernel_rfl
@[go_sem ↓] theorem xFO_37_20 (K : Nat → Prop) : xFO Try.prog 37 20 K = K 20 := xFO_of fO_37_20 K
theorem fO_37_21 : fOff Try.prog 37 21 = some 21 := by kernel_rfl
@[go_sem ↓] theorem xFO_37_21 (K : Nat → Prop) : xFO Try.prog 37 21 K = K 21 := xFO_of fO_37_21 K
theorem fO_37_22 : fOff Try.prog 37 22 = some 22 := by kernel_rfl
@[go_sem ↓] theorem xFO_37_22 (K : Nat → Prop) : xFO Try.prog 37 22 K = K 22 := xFO_of fO_37_22 K
theorem fO_37_23 : fOff Try.prog 37 23 = some 23 := by kernel_rfl
@[go_sem ↓] theorem xFO_37_23 (K : Nat → Prop) : xFO Try.prog 37 23 K = K 23 := xFO_of fO_37_23 K
theorem fO_45_0 : fOff Try.prog 45 0 = some 0 := by kernel_rfl
@[go_sem ↓] theorem xFO_45_0 (K : Nat → Prop) : xFO Try.prog 45 0 K = K 0 := xFO_of fO_45_0 K
theorem fO_45_1 : fOff Try.prog 45 1 = some 24 := by kernel_rfl
@[go_sem ↓] theorem xFO_45_1 (K : Nat → Prop) : xFO Try.prog 45 1 K = K 24 := xFO_of fO_45_1 K
theorem fO_45_2 : fOff Try.prog 45 2 = some 25 := by kernel_rfl
@[go_sem ↓] theorem xFO_45_2 (K : Nat → Prop) : xFO Try.prog 45 2 K = K 25 := xFO_of fO_45_2 K
theorem fO_45_3 : fOff Try.prog 45 3 = some 26 := by kernel_rfl
@[go_sem ↓] theorem xFO_45_3 (K : Nat → Prop) : xFO Try.prog 45 3 K = K 26 := xFO_of fO_45_3 K
theorem fO_45_4 : fOff Try.prog 45 4 = some 27 := by kernel_rfl
@[go_sem ↓] theorem xFO_45_4 (K : Nat → Prop) : xFO Try.prog 45 4 K = K 27 := xFO_of fO_45_4 K
theorem fO_45_5 : fOff Try.prog 45 5 = some 28 := by kernel_rfl
@[go_sem ↓] theorem xFO_45_5 (K : Nat → Prop) : xFO Try.prog 45 5 K = K 28 := xFO_of fO_45_5 K
theorem fO_45_6 : fOff Try.prog 45 6 = some 29 := by kernel_rfl
@[go_sem ↓] theorem xFO_45_6 (K : Nat → Prop) : xFO Try.prog 45 6 K = K 29 := xFO_of fO_45_6 K
theorem fO_45_7 : fOff Try.prog 45 7 = some 30 := by kernel_rfl
@[go_sem ↓] theorem xFO_45_7 (K : Nat → Prop) : xFO Try.prog 45 7 K = K 30 := xFO_of fO_45_7 K
theorem fO_45_9 : fOff Try.prog 45 9 = some 32 := by kernel_rfl
@[go_sem ↓] theorem xFO_45_9 (K : Nat → Prop) : xFO Try.prog 45 9 K = K 32 := xFO_of fO_45_9 K
theorem fO_45_10 : fOff Try.prog 45 10 = some 33 := by kernel_rfl
@[go_sem ↓] theorem xFO_45_10 (K : Nat → Prop) : xFO Try.prog 45 10 K = K 33 := xFO_of fO_45_10 K
theorem fO_45_11 : fOff Try.prog 45 11 = some 34 := by kernel_rfl
@[go_sem ↓] theorem xFO_45_11 (K : Nat → Prop) : xFO Try.prog 45 11 K = K 34 := xFO_of fO_45_11 K
theorem fO_45_12 : fOff Try.prog 45 12 = some 35 := by kernel_rfl
@[go_sem ↓] theorem xFO_45_12 (K : Nat → Prop) : xFO Try.prog 45 12 K = K 35 := xFO_of fO_45_12 K
theorem fO_45_13 : fOff Try.prog 45 13 = some 36 := by kernel_rfl
@[go_sem ↓] theorem xFO_45_13 (K : Nat → Prop) : xFO Try.prog 45 13 K = K 36 := xFO_of fO_45_13 K
theorem fO_45_14 : fOff Try.prog 45 14 = some 37 := by kernel_rfl
@[go_sem ↓] theorem xFO_45_14 (K : Nat → Prop) : xFO Try.prog 45 14 K = K 37 := xFO_of fO_45_14 K
theorem fO_45_15 : fOff Try.prog 45 15 = some 38 := by kernel_rfl
@[go_sem ↓] theorem xFO_45_15 (K : Nat → Prop) : xFO Try.prog 45 15 K = K 38 := xFO_of fO_45_15 K
theorem fO_45_16 : fOff Try.prog 45 16 = some 39 := by kernel_rfl
@[go_sem ↓] theorem xFO_45_16 (K : Nat → Prop) : xFO Try.prog 45 16 K = K 39 := xFO_of fO_45_16 K
theorem fO_45_17 : fOff Try.prog 45 17 = some 40 := by kernel_rfl
@[go_sem ↓] theorem xFO_45_17 (K : Nat → Prop) : xFO Try.prog 45 17 K = K 40 := xFO_of fO_45_17 K
theorem fO_54_0 : fOff Try.prog 54 0 = some 0 := by kernel_rfl
@[go_sem ↓] theorem xFO_54_0 (K : Nat → Prop) : xFO Try.prog 54 0 K = K 0 := xFO_of fO_54_0 K
theorem fO_54_1 : fOff Try.prog 54 1 = some 1 := by kernel_rfl
@[go_sem ↓] theorem xFO_54_1 (K : Nat → Prop) : xFO Try.prog 54 1 K = K 1 := xFO_of fO_54_1 K
theorem fO_54_2 : fOff Try.prog 54 2 = some 2 := by kernel_rfl
@[go_sem ↓] theorem xFO_54_2 (K : Nat → Prop) : xFO Try.prog 54 2 K = K 2 := xFO_of fO_54_2 K
theorem fO_54_3 : fOff Try.prog 54 3 = some 3 := by kernel_rfl
@[go_sem ↓] theorem xFO_54_3 (K : Nat → Prop) : xFO Try.prog 54 3 K = K 3 := xFO_of fO_54_3 K
theorem fO_56_0 : fOff Try.prog 56 0 = some 0 := by kernel_rfl
@[go_sem ↓] theorem xFO_56_0 (K : Nat → Prop) : xFO Try.prog 56 0 K = K 0 := xFO_of fO_56_0 K
theorem fO_56_1 : fOff Try.prog 56 1 = some 4 := by kernel_rfl
@[go_sem ↓] theorem xFO_56_1 (K : Nat → Prop) : xFO Try.prog 56 1 K = K 4 := xFO_of fO_56_1 K
theorem fO_56_2 : fOff Try.prog 56 2 = some 5 := by kernel_rfl
@[go_sem ↓] theorem xFO_56_2 (K : Nat → Prop) : xFO Try.prog 56 2 K = K 5 := xFO_of fO_56_2 K
theorem fO_62_0 : fOff Try.prog 62 0 = some 0 := by kernel_rfl
@[go_sem ↓] theorem xFO_62_0 (K : Nat → Prop) : xFO Try.prog 62 0 K = K 0 := xFO_of fO_62_0 K
theorem fO_62_1 : fOff Try.prog 62 1 = some 24 := by kernel_rfl
@[go_sem ↓] theorem xFO_62_1 (K : Nat → Prop) : xFO Try.prog 62 1 K = K 24 := xFO_of fO_62_1 K
theorem fO_62_2 : fOff Try.prog 62 2 = some 25 := by kernel_rfl
@[go_sem ↓] theorem xFO_62_2 (K : Nat → Prop) : xFO Try.prog 62 2 K = K 25 := xFO_of fO_62_2 K
theorem fO_62_3 : fOff Try.prog 62 3 = some 26 := by kernel_rfl
@[go_sem ↓] theorem xFO_62_3 (K : Nat → Prop) : xFO Try.prog 62 3 K = K 26 := xFO_of fO_62_3 K
theorem fO_66_0 : fOff Try.prog 66 0 = some 0 := by kernel_rfl
@[go_sem ↓] theorem xFO_66_0 (K : Nat → Prop) : xFO Try.prog 66 0 K = K 0 := xFO_of fO_66_0 K
theorem fO_70_0 : fOff Try.prog 70 0 = some 0 := by kernel_rfl
@[go_sem ↓] theorem xFO_70_0 (K : Nat → Prop) : xFO Try.prog 70 0 K = K 0 := xFO_of fO_70_0 K
theorem fO_70_1 : fOff Try.prog 70 1 = some 1 := by kernel_rfl
@[go_sem ↓] theorem xFO_70_1 (K : Nat → Prop) : xFO Try.prog 70 1 K = K 1 := xFO_of fO_70_1 K
theorem fO_70_2 : fOff Try.prog 70 2 = some 2 := by kernel_rfl
@[go_sem ↓] theorem xFO_70_2 (K : Nat → Prop) : xFO Try.prog 70 2 K = K 2 := xFO_of fO_70_2 K
theorem fO_70_3 : fOff Try.prog 70 3 = some 26 := by kernel_rfl
@[go_sem ↓] theorem xFO_70_3 (K : Nat → Prop) : xFO Try.prog 70 3 K = K 26 := xFO_of fO_70_3 K
theorem fO_70_4 : fOff Try.prog 70 4 = some 27 := by kernel_rfl
@[go_sem ↓] theorem xFO_70_4 (K : Nat → Prop) : xFO Try.prog 70 4 K = K 27 := xFO_of fO_70_4 K
theorem fO_70_5 : fOff Try.prog 70 5 = some 28 := by kernel_rfl
@[go_sem ↓] theorem xFO_70_5 (K : Nat → Prop) : xFO Try.prog 70 5 K = K 28 := xFO_of fO_70_5 K
theorem fO_70_6 : fOff Try.prog 70 6 = some 29 := by kernel_rfl
@[go_sem ↓] theorem xFO_70_6 (K : Nat → Prop) : xFO Try.prog 70 6 K = K 29 := xFO_of fO_70_6 K
theorem fO_70_7 : fOff Try.prog 70 7 = some 30 := by kernel_rfl
@[go_sem ↓] theorem xFO_70_7 (K : Nat → Prop) : xFO Try.prog 70 7 K = K 30 := xFO_of fO_70_7 K
theorem fO_70_8 : fOff Try.prog 70 8 = some 31 := by kernel_rfl
@[go_sem ↓] theorem xFO_70_8 (K : Nat → Prop) : xFO Try.prog 70 8 K = K 31 := xFO_of fO_70_8 K
theorem fO_70_9 : fOff Try.prog 70 9 = some 32 := by kernel_rfl
@[go_sem ↓] theorem xFO_70_9 (K : Nat → Prop) : xFO Try.prog 70 9 K = K 32 := xFO_of fO_70_9 K
theorem fO_72_0 : fOff Try.prog 72 0 = some 0 := by kernel_rfl
@[go_sem ↓] theorem xFO_72_0 (K : Nat → Prop) : xFO Try.prog 72 0 K = K 0 := xFO_of fO_72_0 K
theorem fO_84_0 : fOff Try.prog 84 0 = some 0 := by kernel_rfl
@[go_sem ↓] theorem xFO_84_0 (K : Nat → Prop) : xFO Try.prog 84 0 K = K 0 := xFO_of fO_84_0 K
theorem fO_84_1 : fOff Try.prog 84 1 = some 1 := by kernel_rfl
@[go_sem ↓] theorem xFO_84_1 (K : Nat → Prop) : xFO Try.prog 84 1 K = K 1 := xFO_of fO_84_1 K
theorem fO_96_0 : fOff Try.prog 96 0 = some 0 := by kernel_rfl
@[go_sem ↓] theorem xFO_96_0 (K : Nat → Prop) : xFO Try.prog 96 0 K = K 0 := xFO_of fO_96_0 K
theorem fO_96_1 : fOff Try.prog 96 1 = some 1 := by kernel_rfl
@[go_sem ↓] theorem xFO_96_1 (K : Nat → Prop) : xFO Try.prog 96 1 K = K 1 := xFO_of fO_96_1 K
theorem fO_96_2 : fOff Try.prog 96 2 = some 2 := by kernel_rfl
@[go_sem ↓] theorem xFO_96_2 (K : Nat → Prop) : xFO Try.prog 96 2 K = K 2 := xFO_of fO_96_2 K
theorem fO_96_3 : fOff Try.prog 96 3 = some 3 := by kernel_rfl
@[go_sem ↓] theorem xFO_96_3 (K : Nat → Prop) : xFO Try.prog 96 3 K = K 3 := xFO_of fO_96_3 K
theorem fO_101_0 : fOff Try.prog 101 0 = some 0 := by kernel_rfl
@[go_sem ↓] theorem xFO_101_0 (K : Nat → Prop) : xFO Try.prog 101 0 K = K 0 := xFO_of fO_101_0 K
theorem fO_101_1 : fOff Try.prog 101 1 = some 1 := by kernel_rfl
@[go_sem ↓] theorem xFO_101_1 (K : Nat → Prop) : xFO Try.prog 101 1 K = K 1 := xFO_of fO_101_1 K
theorem fO_101_2 : fOff Try.prog 101 2 = some 2 := by kernel_rfl
@[go_sem ↓] theorem xFO_101_2 (K : Nat → Prop) : xFO Try.prog 101 2 K = K 2 := xFO_of fO_101_2 K
theorem fO_106_0 : fOff Try.prog 106 0 = some 0 := by kernel_rfl
@[go_sem ↓] theorem xFO_106_0 (K : Nat → Prop) : xFO Try.prog 106 0 K = K 0 := xFO_of fO_106_0 K
theorem fO_106_1 : fOff Try.prog 106 1 = some 1 := by kernel_rfl
@[go_sem ↓] theorem xFO_106_1 (K : Nat → Prop) : xFO Try.prog 106 1 K = K 1 := xFO_of fO_106_1 K
theorem fO_106_2 : fOff Try.prog 106 2 = some 2 := by kernel_rfl
@[go_sem ↓] theorem xFO_106_2 (K : Nat → Prop) : xFO Try.prog 106 2 K = K 2 := xFO_of fO_106_2 K
theorem fO_106_3 : fOff Try.prog 106 3 = some 3 := by kernel_rfl
@[go_sem ↓] theorem xFO_106_3 (K : Nat → Prop) : xFO Try.prog 106 3 K = K 3 := xFO_of fO_106_3 K
theorem fO_106_4 : fOff Try.prog 106 4 = some 4 := by kernel_rfl
@[go_sem ↓] theorem xFO_106_4 (K : Nat → Prop) : xFO Try.prog 106 4 K = K 4 := xFO_of fO_106_4 K
theorem fO_124_0 : fOff Try.prog 124 0 = some 0 := by kernel_rfl
@[go_sem ↓] theorem xFO_124_0 (K : Nat → Prop) : xFO Try.prog 124 0 K = K 0 := xFO_of fO_124_0 K
theorem fO_140_0 : fOff Try.prog 140 0 = some 0 := by kernel_rfl
@[go_sem ↓] theorem xFO_140_0 (K : Nat → Prop) : xFO Try.prog 140 0 K = K 0 := xFO_of fO_140_0 K
theorem fO_144_0 : fOff Try.prog 144 0 = some 0 := by kernel_rfl
@[go_sem ↓] theorem xFO_144_0 (K : Nat → Prop) : xFO Try.prog 144 0 K = K 0 := xFO_of fO_144_0 K
theorem fO_144_1 : fOff Try.prog 144 1 = some 1 := by kernel_rfl
@[go_sem ↓] theorem xFO_144_1 (K : Nat → Prop) : xFO Try.prog 144 1 K = K 1 := xFO_of fO_144_1 K
theorem fO_149_0 : fOff Try.prog 149 0 = some 0 := by kernel_rfl
@[go_sem ↓] theorem xFO_149_0 (K : Nat → Prop) : xFO Try.prog 149 0 K = K 0 := xFO_of fO_149_0 K
theorem fO_149_1 : fOff Try.prog 149 1 = some 4 := by kernel_rfl
@[go_sem ↓] theorem xFO_149_1 (K : Nat → Prop) : xFO Try.prog 149 1 K = K 4 := xFO_of fO_149_1 K
theorem fO_164_0 : fOff Try.prog 164 0 = some 0 := by kernel_rfl
@[go_sem ↓] theorem xFO_164_0 (K : Nat → Prop) : xFO Try.prog 164 0 K = K 0 := xFO_of fO_164_0 K
theorem fO_164_1 : fOff Try.prog 164 1 = some 2 := by kernel_rfl
@[go_sem ↓] theorem xFO_164_1 (K : Nat → Prop) : xFO Try.prog 164 1 K = K 2 := xFO_of fO_164_1 K
@[go_sem] theorem tSh_24 : tSh Try.prog 24 = .sl 22 1 8 := by kernel_rfl
@[go_sem] theorem tSh_28 : tSh Try.prog 28 = .sl 3 1 8 := by kernel_rfl
@[go_sem] theorem tSh_38 : tSh Try.prog 38 = .sl 56 6 48 := by kernel_rfl
@[go_sem] theorem tSh_39 : tSh Try.prog 39 = .sl 96 4 32 := by kernel_rfl
@[go_sem] theorem tSh_40 : tSh Try.prog 40 = .sl 101 3 24 := by kernel_rfl
@[go_sem] theorem tSh_41 : tSh Try.prog 41 = .sl 70 33 296 := by kernel_rfl
@[go_sem] theorem tSh_42 : tSh Try.prog 42 = .sl 5 1 1 := by kernel_rfl
@[go_sem] theorem tSh_43 : tSh Try.prog 43 = .sl 42 1 24 := by kernel_rfl
@[go_sem] theorem tSh_60 : tSh Try.prog 60 = .sl 84 2 16 := by kernel_rfl
@[go_sem] theorem tSh_75 : tSh Try.prog 75 = .sl 4 1 1 := by kernel_rfl
@[go_sem] theorem tSh_129 : tSh Try.prog 129 = .sl 5 1 1 := by kernel_rfl
@[go_sem] theorem tSh_135 : tSh Try.prog 135 = .sl 25 1 8 := by kernel_rfl
@[go_sem ↓] theorem xSlh_24 (a : Option Addr) (n c : Nat) (k : IntKind) (j : Int) (h0 : 0 ≤ j) (h1 : j ≤ (c : Int)) (K : Value → Prop) : xSl Try.prog 24 (.slice a n c) none (some (.int k j)) none K = K (.slice a j.toNat c) := xSl_hi tSh_24 a n c k j h0 h1 K
@[go_sem ↓] theorem xSlh_28 (a : Option Addr) (n c : Nat) (k : IntKind) (j : Int) (h0 : 0 ≤ j) (h1 : j ≤ (c : Int)) (K : Value → Prop) : xSl Try.prog 28 (.slice a n c) none (some (.int k j)) none K = K (.slice a j.toNat c) := xSl_hi tSh_28 a n c k j h0 h1 K
@[go_sem ↓] theorem xSlh_38 (a : Option Addr) (n c : Nat) (k : IntKind) (j : Int) (h0 : 0 ≤ j) (h1 : j ≤ (c : Int)) (K : Value → Prop) : xSl Try.prog 38 (.slice a n c) none (some (.int k j)) none K = K (.slice a j.toNat c) := xSl_hi tSh_38 a n c k j h0 h1 K
@[go_sem ↓] theorem xSlh_39 (a : Option Addr) (n c : Nat) (k : IntKind) (j : Int) (h0 : 0 ≤ j) (h1 : j ≤ (c : Int)) (K : Value → Prop) : xSl Try.prog 39 (.slice a n c) none (some (.int k j)) none K = K (.slice a j.toNat c) := xSl_hi tSh_39 a n c k j h0 h1 K
@[go_sem ↓] theorem xSlh_40 (a : Option Addr) (n c : Nat) (k : IntKind) (j : Int) (h0 : 0 ≤ j) (h1 : j ≤ (c : Int)) (K : Value → Prop) : xSl Try.prog 40 (.slice a n c) none (some (.int k j)) none K = K (.slice a j.toNat c) := xSl_hi tSh_40 a n c k j h0 h1 K
@[go_sem ↓] theorem xSlh_41 (a : Option Addr) (n c : Nat) (k : IntKind) (j : Int) (h0 : 0 ≤ j) (h1 : j ≤ (c : Int)) (K : Value → Prop) : xSl Try.prog 41 (.slice a n c) none (some (.int k j)) none K = K (.slice a j.toNat c) := xSl_hi tSh_41 a n c k j h0 h1 K
@[go_sem ↓] theorem xSlh_42 (a : Option Addr) (n c : Nat) (k : IntKind) (j : Int) (h0 : 0 ≤ j) (h1 : j ≤ (c : Int)) (K : Value → Prop) : xSl Try.prog 42 (.slice a n c) none (some (.int k j)) none K = K (.slice a j.toNat c) := xSl_hi tSh_42 a n c k j h0 h1 K
@[go_sem ↓] theorem xSlh_43 (a : Option Addr) (n c : Nat) (k : IntKind) (j : Int) (h0 : 0 ≤ j) (h1 : j ≤ (c : Int)) (K : Value → Prop) : xSl Try.prog 43 (.slice a n c) none (some (.int k j)) none K = K (.slice a j.toNat c) := xSl_hi tSh_43 a n c k j h0 h1 K
@[go_sem ↓] theorem xSlh_60 (a : Option Addr) (n c : Nat) (k : IntKind) (j : Int) (h0 : 0 ≤ j) (h1 : j ≤ (c : Int)) (K : Value → Prop) : xSl Try.prog 60 (.slice a n c) none (some (.int k j)) none K = K (.slice a j.toNat c) := xSl_hi tSh_60 a n c k j h0 h1 K
@[go_sem ↓] theorem xSlh_75 (a : Option Addr) (n c : Nat) (k : IntKind) (j : Int) (h0 : 0 ≤ j) (h1 : j ≤ (c : Int)) (K : Value → Prop) : xSl Try.prog 75 (.slice a n c) none (some (.int k j)) none K = K (.slice a j.toNat c) := xSl_hi tSh_75 a n c k j h0 h1 K
@[go_sem ↓] theorem xSlh_129 (a : Option Addr) (n c : Nat) (k : IntKind) (j : Int) (h0 : 0 ≤ j) (h1 : j ≤ (c : Int)) (K : Value → Prop) : xSl Try.prog 129 (.slice a n c) none (some (.int k j)) none K = K (.slice a j.toNat c) := xSl_hi tSh_129 a n c k j h0 h1 K
@[go_sem ↓] theorem xSlh_135 (a : Option Addr) (n c : Nat) (k : IntKind) (j : Int) (h0 : 0 ≤ j) (h1 : j ≤ (c : Int)) (K : Value → Prop) : xSl Try.prog 135 (.slice a n c) none (some (.int k j)) none K = K (.slice a j.toNat c) := xSl_hi tSh_135 a n c k j h0 h1 K
@[go_sem ↓] theorem xBeq_24 (x y : Operand) (a : Option Addr) (n c : Nat) (K : Value → Prop) : xBin Try.prog .eql 24 x y (.slice a n c) (.slice none 0 0) K = K (.bool a.isNone) := xBin_eqnil tSh_24 x y a n c K
@[go_sem ↓] theorem xBne_24 (x y : Operand) (a : Option Addr) (n c : Nat) (K : Value → Prop) : xBin Try.prog .neq 24 x y (.slice a n c) (.slice none 0 0) K = K (.bool (!a.isNone)) := xBin_nenil tSh_24 x y a n c K
@[go_sem ↓] theorem xBeq_28 (x y : Operand) (a : Option Addr) (n c : Nat) (K : Value → Prop) : xBin Try.prog .eql 28 x y (.slice a n c) (.slice none 0 0) K = K (.bool a.isNone) := xBin_eqnil tSh_28 x y a n c K
@[go_sem ↓] theorem xBne_28 (x y : Operand) (a : Option Addr) (n c : Nat) (K : Value → Prop) : xBin Try.prog .neq 28 x y (.slice a n c) (.slice none 0 0) K = K (.bool (!a.isNone)) := xBin_nenil tSh_28 x y a n c K
@[go_sem ↓] theorem xBeq_38 (x y : Operand) (a : Option Addr) (n c : Nat) (K : Value → Prop) : xBin Try.prog .eql 38 x y (.slice a n c) (.slice none 0 0) K = K (.bool a.isNone) := xBin_eqnil tSh_38 x y a n c K
@[go_sem ↓] theorem xBne_38 (x y : Operand) (a : Option Addr) (n c : Nat) (K : Value → Prop) : xBin Try.prog .neq 38 x y (.slice a n c) (.slice none 0 0) K = K (.bool (!a.isNone)) := xBin_nenil tSh_38 x y a n c K
@[go_sem ↓] theorem xBeq_39 (x y : Operand) (a : Option Addr) (n c : Nat) (K : Value → Prop) : xBin Try.prog .eql 39 x y (.slice a n c) (.slice none 0 0) K = K (.bool a.isNone) := xBin_eqnil tSh_39 x y a n c K
@[go_sem ↓] theorem xBne_39 (x y : Operand) (a : Option Addr) (n c : Nat) (K : Value → Prop) : xBin Try.prog .neq 39 x y (.slice a n c) (.slice none 0 0) K = K (.bool (!a.isNone)) := xBin_nenil tSh_39 x y a n c K
@[go_sem ↓] theorem xBeq_40 (x y : Operand) (a : Option Addr) (n c : Nat) (K : Value → Prop) : xBin Try.prog .eql 40 x y (.slice a n c) (.slice none 0 0) K = K (.bool a.isNone) := xBin_eqnil tSh_40 x y a n c K
@[go_sem ↓] theorem xBne_40 (x y : Operand) (a : Option Addr) (n c : Nat) (K : Value → Prop) : xBin Try.prog .neq 40 x y (.slice a n c) (.slice none 0 0) K = K (.bool (!a.isNone)) := xBin_nenil tSh_40 x y a n c K
@[go_sem ↓] theorem xBeq_41 (x y : Operand) (a : Option Addr) (n c : Nat) (K : Value → Prop) : xBin Try.prog .eql 41 x y (.slice a n c) (.slice none 0 0) K = K (.bool a.isNone) := xBin_eqnil tSh_41 x y a n c K
@[go_sem ↓] theorem xBne_41 (x y : Operand) (a : Option Addr) (n c : Nat) (K : Value → Prop) : xBin Try.prog .neq 41 x y (.slice a n c) (.slice none 0 0) K = K (.bool (!a.isNone)) := xBin_nenil tSh_41 x y a n c K
@[go_sem ↓] theorem xBeq_42 (x y : Operand) (a : Option Addr) (n c : Nat) (K : Value → Prop) : xBin Try.prog .eql 42 x y (.slice a n c) (.slice none 0 0) K = K (.bool a.isNone) := xBin_eqnil tSh_42 x y a n c K
@[go_sem ↓] theorem xBne_42 (x y : Operand) (a : Option Addr) (n c : Nat) (K : Value → Prop) : xBin Try.prog .neq 42 x y (.slice a n c) (.slice none 0 0) K = K (.bool (!a.isNone)) := xBin_nenil tSh_42 x y a n c K
@[go_sem ↓] theorem xBeq_43 (x y : Operand) (a : Option Addr) (n c : Nat) (K : Value → Prop) : xBin Try.prog .eql 43 x y (.slice a n c) (.slice none 0 0) K = K (.bool a.isNone) := xBin_eqnil tSh_43 x y a n c K
@[go_sem ↓] theorem xBne_43 (x y : Operand) (a : Option Addr) (n c : Nat) (K : Value → Prop) : xBin Try.prog .neq 43 x y (.slice a n c) (.slice none 0 0) K = K (.bool (!a.isNone)) := xBin_nenil tSh_43 x y a n c K
@[go_sem ↓] theorem xBeq_60 (x y : Operand) (a : Option Addr) (n c : Nat) (K : Value → Prop) : xBin Try.prog .eql 60 x y (.slice a n c) (.slice none 0 0) K = K (.bool a.isNone) := xBin_eqnil tSh_60 x y a n c K
@[go_sem ↓] theorem xBne_60 (x y : Operand) (a : Option Addr) (n c : Nat) (K : Value → Prop) : xBin Try.prog .neq 60 x y (.slice a n c) (.slice none 0 0) K = K (.bool (!a.isNone)) := xBin_nenil tSh_60 x y a n c K
@[go_sem ↓] theorem xBeq_75 (x y : Operand) (a : Option Addr) (n c : Nat) (K : Value → Prop) : xBin Try.prog .eql 75 x y (.slice a n c) (.slice none 0 0) K = K (.bool a.isNone) := xBin_eqnil tSh_75 x y a n c K
@[go_sem ↓] theorem xBne_75 (x y : Operand) (a : Option Addr) (n c : Nat) (K : Value → Prop) : xBin Try.prog .neq 75 x y (.slice a n c) (.slice none 0 0) K = K (.bool (!a.isNone)) := xBin_nenil tSh_75 x y a n c K
@[go_sem ↓] theorem xBeq_129 (x y : Operand) (a : Option Addr) (n c : Nat) (K : Value → Prop) : xBin Try.prog .eql 129 x y (.slice a n c) (.slice none 0 0) K = K (.bool a.isNone) := xBin_eqnil tSh_129 x y a n c K
@[go_sem ↓] theorem xBne_129 (x y : Operand) (a : Option Addr) (n c : Nat) (K : Value → Prop) : xBin Try.prog .neq 129 x y (.slice a n c) (.slice none 0 0) K = K (.bool (!a.isNone)) := xBin_nenil tSh_129 x y a n c K
@[go_sem ↓] theorem xBeq_135 (x y : Operand) (a : Option Addr) (n c : Nat) (K : Value → Prop) : xBin Try.prog .eql 135 x y (.slice a n c) (.slice none 0 0) K = K (.bool a.isNone) := xBin_eqnil tSh_135 x y a n c K
@[go_sem ↓] theorem xBne_135 (x y : Operand) (a : Option Addr) (n c : Nat) (K : Value → Prop) : xBin Try.prog .neq 135 x y (.slice a n c) (.slice none 0 0) K = K (.bool (!a.isNone)) := xBin_nenil tSh_135 x y a n c K
@[go_sem ↓] theorem xPeq_15 (x y : Operand) (a : Option Addr) (K : Value → Prop) : xBin Try.prog .eql 15 x y (.pointer a) (.pointer none) K = K (.bool a.isNone) := xBin_eqpnil (T := 15) (e := 173) (by kernel_rfl) x y a K
@[go_sem ↓] theorem xPne_15 (x y : Operand) (a : Option Addr) (K : Value → Prop) : xBin Try.prog .neq 15 x y (.pointer a) (.pointer none) K = K (.bool (!a.isNone)) := xBin_nepnil (T := 15) (e := 173) (by kernel_rfl) x y a K
@[go_sem ↓] theorem xPeq_16 (x y : Operand) (a : Option Addr) (K : Value → Prop) : xBin Try.prog .eql 16 x y (.pointer a) (.pointer none) K = K (.bool a.isNone) := xBin_eqpnil (T := 16) (e := 176) (by kernel_rfl) x y a K
@[go_sem ↓] theorem xPne_16 (x y : Operand) (a : Option Addr) (K : Value → Prop) : xBin Try.prog .neq 16 x y (.pointer a) (.pointer none) K = K (.bool (!a.isNone)) := xBin_nepnil (T := 16) (e := 176) (by kernel_rfl) x y a K
@[go_sem ↓] theorem xPeq_17 (x y : Operand) (a : Option Addr) (K : Value → Prop) : xBin Try.prog .eql 17 x y (.pointer a) (.pointer none) K = K (.bool a.isNone) := xBin_eqpnil (T := 17) (e := 186) (by kernel_rfl) x y a K
@[go_sem ↓] theorem xPne_17 (x y : Operand) (a : Option Addr) (K : Value → Prop) : xBin Try.prog .neq 17 x y (.pointer a) (.pointer none) K = K (.bool (!a.isNone)) := xBin_nepnil (T := 17) (e := 186) (by kernel_rfl) x y a K
@[go_sem ↓] theorem xPeq_147 (x y : Operand) (a : Option Addr) (K : Value → Prop) : xBin Try.prog .eql 147 x y (.pointer a) (.pointer none) K = K (.bool a.isNone) := xBin_eqpnil (T := 147) (e := 149) (by kernel_rfl) x y a K
@[go_sem ↓] theorem xPne_147 (x y : Operand) (a : Option Addr) (K : Value → Prop) : xBin Try.prog .neq 147 x y (.pointer a) (.pointer none) K = K (.bool (!a.isNone)) := xBin_nepnil (T := 147) (e := 149) (by kernel_rfl) x y a K
@[go_sem ↓] theorem xPeq_182 (x y : Operand) (a : Option Addr) (K : Value → Prop) : xBin Try.prog .eql 182 x y (.pointer a) (.pointer none) K = K (.bool a.isNone) := xBin_eqpnil (T := 182) (e := 5) (by kernel_rfl) x y a K
@[go_sem ↓] theorem xPne_182 (x y : Operand) (a : Option Addr) (K : Value → Prop) : xBin Try.prog .neq 182 x y (.pointer a) (.pointer none) K = K (.bool (!a.isNone)) := xBin_nepnil (T := 182) (e := 5) (by kernel_rfl) x y a K
@[go_sem ↓] theorem xSlm_24 (a : Option Addr) (n c : Nat) (k l : IntKind) (i j : Int) (h0 : 0 ≤ i) (h1 : i ≤ j) (h2 : j ≤ (c : Int)) (K : Value → Prop) : xSl Try.prog 24 (.slice a n c) (some (.int k i)) (some (.int l j)) none K = K (.slice (cutA a c i.toNat 1) (j.toNat - i.toNat) (c - i.toNat)) := xSl_mid tSh_24 a n c k l i j h0 h1 h2 K
@[go_sem ↓] theorem xSlm_28 (a : Option Addr) (n c : Nat) (k l : IntKind) (i j : Int) (h0 : 0 ≤ i) (h1 : i ≤ j) (h2 : j ≤ (c : Int)) (K : Value → Prop) : xSl Try.prog 28 (.slice a n c) (some (.int k i)) (some (.int l j)) none K = K (.slice (cutA a c i.toNat 1) (j.toNat - i.toNat) (c - i.toNat)) := xSl_mid tSh_28 a n c k l i j h0 h1 h2 K
@[go_sem ↓] theorem xSlm_38 (a : Option Addr) (n c : Nat) (k l : IntKind) (i j : Int) (h0 : 0 ≤ i) (h1 : i ≤ j) (h2 : j ≤ (c : Int)) (K : Value → Prop) : xSl Try.prog 38 (.slice a n c) (some (.int k i)) (some (.int l j)) none K = K (.slice (cutA a c i.toNat 6) (j.toNat - i.toNat) (c - i.toNat)) := xSl_mid tSh_38 a n c k l i j h0 h1 h2 K
@[go_sem ↓] theorem xSlm_39 (a : Option Addr) (n c : Nat) (k l : IntKind) (i j : Int) (h0 : 0 ≤ i) (h1 : i ≤ j) (h2 : j ≤ (c : Int)) (K : Value → Prop) : xSl Try.prog 39 (.slice a n c) (some (.int k i)) (some (.int l j)) none K = K (.slice (cutA a c i.toNat 4) (j.toNat - i.toNat) (c - i.toNat)) := xSl_mid tSh_39 a n c k l i j h0 h1 h2 K
@[go_sem ↓] theorem xSlm_40 (a : Option Addr) (n c : Nat) (k l : IntKind) (i j : Int) (h0 : 0 ≤ i) (h1 : i ≤ j) (h2 : j ≤ (c : Int)) (K : Value → Prop) : xSl Try.prog 40 (.slice a n c) (some (.int k i)) (some (.int l j)) none K = K (.slice (cutA a c i.toNat 3) (j.toNat - i.toNat) (c - i.toNat)) := xSl_mid tSh_40 a n c k l i j h0 h1 h2 K
@[go_sem ↓] theorem xSlm_41 (a : Option Addr) (n c : Nat) (k l : IntKind) (i j : Int) (h0 : 0 ≤ i) (h1 : i ≤ j) (h2 : j ≤ (c : Int)) (K : Value → Prop) : xSl Try.prog 41 (.slice a n c) (some (.int k i)) (some (.int l j)) none K = K (.slice (cutA a c i.toNat 33) (j.toNat - i.toNat) (c - i.toNat)) := xSl_mid tSh_41 a n c k l i j h0 h1 h2 K
@[go_sem ↓] theorem xSlm_42 (a : Option Addr) (n c : Nat) (k l : IntKind) (i j : Int) (h0 : 0 ≤ i) (h1 : i ≤ j) (h2 : j ≤ (c : Int)) (K : Value → Prop) : xSl Try.prog 42 (.slice a n c) (some (.int k i)) (some (.int l j)) none K = K (.slice (cutA a c i.toNat 1) (j.toNat - i.toNat) (c - i.toNat)) := xSl_mid tSh_42 a n c k l i j h0 h1 h2 K
@[go_sem ↓] theorem xSlm_43 (a : Option Addr) (n c : Nat) (k l : IntKind) (i j : Int) (h0 : 0 ≤ i) (h1 : i ≤ j) (h2 : j ≤ (c : Int)) (K : Value → Prop) : xSl Try.prog 43 (.slice a n c) (some (.int k i)) (some (.int l j)) none K = K (.slice (cutA a c i.toNat 1) (j.toNat - i.toNat) (c - i.toNat)) := xSl_mid tSh_43 a n c k l i j h0 h1 h2 K
@[go_sem ↓] theorem xSlm_60 (a : Option Addr) (n c : Nat) (k l : IntKind) (i j : Int) (h0 : 0 ≤ i) (h1 : i ≤ j) (h2 : j ≤ (c : Int)) (K : Value → Prop) : xSl Try.prog 60 (.slice a n c) (some (.int k i)) (some (.int l j)) none K = K (.slice (cutA a c i.toNat 2) (j.toNat - i.toNat) (c - i.toNat)) := xSl_mid tSh_60 a n c k l i j h0 h1 h2 K
@[go_sem ↓] theorem xSlm_75 (a : Option Addr) (n c : Nat) (k l : IntKind) (i j : Int) (h0 : 0 ≤ i) (h1 : i ≤ j) (h2 : j ≤ (c : Int)) (K : Value → Prop) : xSl Try.prog 75 (.slice a n c) (some (.int k i)) (some (.int l j)) none K = K (.slice (cutA a c i.toNat 1) (j.toNat - i.toNat) (c - i.toNat)) := xSl_mid tSh_75 a n c k l i j h0 h1 h2 K
@[go_sem ↓] theorem xSlm_129 (a : Option Addr) (n c : Nat) (k l : IntKind) (i j : Int) (h0 : 0 ≤ i) (h1 : i ≤ j) (h2 : j ≤ (c : Int)) (K : Value → Prop) : xSl Try.prog 129 (.slice a n c) (some (.int k i)) (some (.int l j)) none K = K (.slice (cutA a c i.toNat 1) (j.toNat - i.toNat) (c - i.toNat)) := xSl_mid tSh_129 a n c k l i j h0 h1 h2 K
@[go_sem ↓] theorem xSlm_135 (a : Option Addr) (n c : Nat) (k l : IntKind) (i j : Int) (h0 : 0 ≤ i) (h1 : i ≤ j) (h2 : j ≤ (c : Int)) (K : Value → Prop) : xSl Try.prog 135 (.slice a n c) (some (.int k i)) (some (.int l j)) none K = K (.slice (cutA a c i.toNat 1) (j.toNat - i.toNat) (c - i.toNat)) := xSl_mid tSh_135 a n c k l i j h0 h1 h2 K
@[go_sem ↓] theorem xLen_24 (ty : Nat) (a : Option Addr) (n c : Nat) (K : Value → Prop) : xLen Try.prog ty #[24] (.slice a n c) K = K (.int .i64 n) := xLen_slice (T := 24) (e := 22) (by kernel_rfl) a n c
@[go_sem ↓] theorem xLen_28 (ty : Nat) (a : Option Addr) (n c : Nat) (K : Value → Prop) : xLen Try.prog ty #[28] (.slice a n c) K = K (.int .i64 n) := xLen_slice (T := 28) (e := 3) (by kernel_rfl) a n c
@[go_sem ↓] theorem xLen_38 (ty : Nat) (a : Option Addr) (n c : Nat) (K : Value → Prop) : xLen Try.prog ty #[38] (.slice a n c) K = K (.int .i64 n) := xLen_slice (T := 38) (e := 56) (by kernel_rfl) a n c
@[go_sem ↓] theorem xLen_39 (ty : Nat) (a : Option Addr) (n c : Nat) (K : Value → Prop) : xLen Try.prog ty #[39] (.slice a n c) K = K (.int .i64 n) := xLen_slice (T := 39) (e := 96) (by kernel_rfl) a n c
@[go_sem ↓] theorem xLen_40 (ty : Nat) (a : Option Addr) (n c : Nat) (K : Value → Prop) : xLen Try.prog ty #[40] (.slice a n c) K = K (.int .i64 n) := xLen_slice (T := 40) (e := 101) (by kernel_rfl) a n c
@[go_sem ↓] theorem xLen_41 (ty : Nat) (a : Option Addr) (n c : Nat) (K : Value → Prop) : xLen Try.prog ty #[41] (.slice a n c) K = K (.int .i64 n) := xLen_slice (T := 41) (e := 70) (by kernel_rfl) a n c
@[go_sem ↓] theorem xLen_42 (ty : Nat) (a : Option Addr) (n c : Nat) (K : Value → Prop) : xLen Try.prog ty #[42] (.slice a n c) K = K (.int .i64 n) := xLen_slice (T := 42) (e := 5) (by kernel_rfl) a n c
@[go_sem ↓] theorem xLen_43 (ty : Nat) (a : Option Addr) (n c : Nat) (K : Value → Prop) : xLen Try.prog ty #[43] (.slice a n c) K = K (.int .i64 n) := xLen_slice (T := 43) (e := 42) (by kernel_rfl) a n c
@[go_sem ↓] theorem xLen_60 (ty : Nat) (a : Option Addr) (n c : Nat) (K : Value → Prop) : xLen Try.prog ty #[60] (.slice a n c) K = K (.int .i64 n) := xLen_slice (T := 60) (e := 84) (by kernel_rfl) a n c
@[go_sem ↓] theorem xLen_75 (ty : Nat) (a : Option Addr) (n c : Nat) (K : Value → Prop) : xLen Try.prog ty #[75] (.slice a n c) K = K (.int .i64 n) := xLen_slice (T := 75) (e := 4) (by kernel_rfl) a n c
@[go_sem ↓] theorem xLen_129 (ty : Nat) (a : Option Addr) (n c : Nat) (K : Value → Prop) : xLen Try.prog ty #[129] (.slice a n c) K = K (.int .i64 n) := xLen_slice (T := 129) (e := 5) (by kernel_rfl) a n c
@[go_sem ↓] theorem xLen_135 (ty : Nat) (a : Option Addr) (n c : Nat) (K : Value → Prop) : xLen Try.prog ty #[135] (.slice a n c) K = K (.int .i64 n) := xLen_slice (T := 135) (e := 25) (by kernel_rfl) a n c
@[go_sem ↓] theorem xBb_4 (x y : Operand) (a b : Bool) (K : Value → Prop) : xBin Try.prog .eql 4 x y (.bool a) (.bool b) K = K (.bool (a == b)) := xBin_eqbool (T := 4) (by kernel_rfl) x y a b K
@[go_sem ↓] theorem xBn_4 (x y : Operand) (a b : Bool) (K : Value → Prop) : xBin Try.prog .neq 4 x y (.bool a) (.bool b) K = K (.bool (!(a == b))) := xBin_nebool (T := 4) (by kernel_rfl) x y a b K
@[go_sem ↓] theorem xConv_3_22 (k : IntKind) (n : Int) (K : Value → Prop) : xConv Try.prog 3 22 (.int k n) K = K (.int .u64 (IntKind.u64.wrap n)) := xConv_int (s := 3) (d := 22) (ks := .i64) (kd := .u64) (by kernel_rfl) (by kernel_rfl) k n
@[go_sem ↓] theorem xConv_3_90 (k : IntKind) (n : Int) (K : Value → Prop) : xConv Try.prog 3 90 (.int k n) K = K (.int .u64 (IntKind.u64.wrap n)) := xConv_int (s := 3) (d := 90) (ks := .i64) (kd := .u64) (by kernel_rfl) (by kernel_rfl) k n
@[go_sem ↓] theorem xConv_5_3 (k : IntKind) (n : Int) (K : Value → Prop) : xConv Try.prog 5 3 (.int k n) K = K (.int .i64 (IntKind.i64.wrap n)) := xConv_int (s := 5) (d := 3) (ks := .u8) (kd := .i64) (by kernel_rfl) (by kernel_rfl) k n
@[go_sem ↓] theorem xConv_22_3 (k : IntKind) (n : Int) (K : Value → Prop) : xConv Try.prog 22 3 (.int k n) K = K (.int .i64 (IntKind.i64.wrap n)) := xConv_int (s := 22) (d := 3) (ks := .u64) (kd := .i64) (by kernel_rfl) (by kernel_rfl) k n
@[go_sem ↓] theorem xConv_22_5 (k : IntKind) (n : Int) (K : Value → Prop) : xConv Try.prog 22 5 (.int k n) K = K (.int .u8 (IntKind.u8.wrap n)) := xConv_int (s := 22) (d := 5) (ks := .u64) (kd := .u8) (by kernel_rfl) (by kernel_rfl) k n
@[go_sem ↓] theorem xConv_90_3 (k : IntKind) (n : Int) (K : Value → Prop) : xConv Try.prog 90 3 (.int k n) K = K (.int .i64 (IntKind.i64.wrap n)) := xConv_int (s := 90) (d := 3) (ks := .u64) (kd := .i64) (by kernel_rfl) (by kernel_rfl) k n
theorem mixed : Try.prog.follows .mixedOrders = true := by kernel_rfl
end Go.X
