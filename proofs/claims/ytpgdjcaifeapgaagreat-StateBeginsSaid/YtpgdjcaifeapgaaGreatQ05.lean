/- Lemmas and contracts for a statement about the given program. Conditions: as each says. -/
import Derived.KernelRfl
import Derived.Test.YtpgdjcaifeapgaaGreatProg
import Derived.Test.YtpgdjcaifeapgaaGreatQ00
import Derived.Test.YtpgdjcaifeapgaaGreatQ02
import Derived.Test.YtpgdjcaifeapgaaGreatQ04
set_option linter.unusedVariables false
set_option linter.unusedSimpArgs false
set_option maxHeartbeats 12800000
set_option maxRecDepth 20000
namespace Go.X
open Go.Proofs
theorem tI_3 : tI Tryz.prog 3 = some ⟨1,false,[(.int .i64 0)],8⟩ := by kernel_rfl
@[go_sem ↓] theorem xTI_3 (K : TI → Prop) : xTI Tryz.prog 3 K = K ⟨1,false,[(.int .i64 0)],8⟩ := xTI_of tI_3 K
theorem tI_4 : tI Tryz.prog 4 = some ⟨1,false,[(.bool false)],1⟩ := by kernel_rfl
@[go_sem ↓] theorem xTI_4 (K : TI → Prop) : xTI Tryz.prog 4 K = K ⟨1,false,[(.bool false)],1⟩ := xTI_of tI_4 K
theorem tI_5 : tI Tryz.prog 5 = some ⟨1,false,[(.int .u8 0)],1⟩ := by kernel_rfl
@[go_sem ↓] theorem xTI_5 (K : TI → Prop) : xTI Tryz.prog 5 K = K ⟨1,false,[(.int .u8 0)],1⟩ := xTI_of tI_5 K
theorem tI_22 : tI Tryz.prog 22 = some ⟨1,false,[(.int .u64 0)],8⟩ := by kernel_rfl
@[go_sem ↓] theorem xTI_22 (K : TI → Prop) : xTI Tryz.prog 22 K = K ⟨1,false,[(.int .u64 0)],8⟩ := xTI_of tI_22 K
theorem tI_24 : tI Tryz.prog 24 = some ⟨24,true,[(.int .u64 0),(.int .u64 0),(.int .u64 0),(.int .u64 0),(.int .u64 0),(.int .u64 0),(.int .u64 0),(.int .u64 0),(.int .u64 0),(.int .u64 0),(.int .u64 0),(.int .u64 0),(.int .u64 0),(.int .u64 0),(.int .i64 0),(.int .i64 0),(.int .i64 0),(.int .i64 0),(.int .i64 0),(.int .i64 0),(.int .i64 0),(.int .i64 0),(.int .i64 0),(.int .i64 0)],192⟩ := by kernel_rfl
@[go_sem ↓] theorem xTI_24 (K : TI → Prop) : xTI Tryz.prog 24 K = K ⟨24,true,[(.int .u64 0),(.int .u64 0),(.int .u64 0),(.int .u64 0),(.int .u64 0),(.int .u64 0),(.int .u64 0),(.int .u64 0),(.int .u64 0),(.int .u64 0),(.int .u64 0),(.int .u64 0),(.int .u64 0),(.int .u64 0),(.int .i64 0),(.int .i64 0),(.int .i64 0),(.int .i64 0),(.int .i64 0),(.int .i64 0),(.int .i64 0),(.int .i64 0),(.int .i64 0),(.int .i64 0)],192⟩ := xTI_of tI_24 K
theorem tI_25 : tI Tryz.prog 25 = some ⟨1,false,[(.slice none 0 0)],24⟩ := by kernel_rfl
@[go_sem ↓] theorem xTI_25 (K : TI → Prop) : xTI Tryz.prog 25 K = K ⟨1,false,[(.slice none 0 0)],24⟩ := xTI_of tI_25 K
theorem tI_26 : tI Tryz.prog 26 = some ⟨1,false,[(.slice none 0 0)],24⟩ := by kernel_rfl
@[go_sem ↓] theorem xTI_26 (K : TI → Prop) : xTI Tryz.prog 26 K = K ⟨1,false,[(.slice none 0 0)],24⟩ := xTI_of tI_26 K
theorem tI_28 : tI Tryz.prog 28 = some ⟨27,true,[(.int .u64 0),(.int .u64 0),(.int .u64 0),(.int .u64 0),(.int .u64 0),(.int .u64 0),(.int .u64 0),(.int .u64 0),(.int .u64 0),(.int .u64 0),(.int .u64 0),(.int .u64 0),(.int .u64 0),(.int .u64 0),(.int .i64 0),(.int .i64 0),(.int .i64 0),(.int .i64 0),(.int .i64 0),(.int .i64 0),(.int .i64 0),(.int .i64 0),(.int .i64 0),(.int .i64 0),(.int .u64 0),(.slice none 0 0),(.slice none 0 0)],248⟩ := by kernel_rfl
@[go_sem ↓] theorem xTI_28 (K : TI → Prop) : xTI Tryz.prog 28 K = K ⟨27,true,[(.int .u64 0),(.int .u64 0),(.int .u64 0),(.int .u64 0),(.int .u64 0),(.int .u64 0),(.int .u64 0),(.int .u64 0),(.int .u64 0),(.int .u64 0),(.int .u64 0),(.int .u64 0),(.int .u64 0),(.int .u64 0),(.int .i64 0),(.int .i64 0),(.int .i64 0),(.int .i64 0),(.int .i64 0),(.int .i64 0),(.int .i64 0),(.int .i64 0),(.int .i64 0),(.int .i64 0),(.int .u64 0),(.slice none 0 0),(.slice none 0 0)],248⟩ := xTI_of tI_28 K
theorem tI_31 : tI Tryz.prog 31 = some ⟨1,false,[(.slice none 0 0)],24⟩ := by kernel_rfl
@[go_sem ↓] theorem xTI_31 (K : TI → Prop) : xTI Tryz.prog 31 K = K ⟨1,false,[(.slice none 0 0)],24⟩ := xTI_of tI_31 K
theorem tI_32 : tI Tryz.prog 32 = some ⟨1,false,[(.slice none 0 0)],24⟩ := by kernel_rfl
@[go_sem ↓] theorem xTI_32 (K : TI → Prop) : xTI Tryz.prog 32 K = K ⟨1,false,[(.slice none 0 0)],24⟩ := xTI_of tI_32 K
theorem tI_33 : tI Tryz.prog 33 = some ⟨1,false,[(.slice none 0 0)],24⟩ := by kernel_rfl
@[go_sem ↓] theorem xTI_33 (K : TI → Prop) : xTI Tryz.prog 33 K = K ⟨1,false,[(.slice none 0 0)],24⟩ := xTI_of tI_33 K
theorem tI_34 : tI Tryz.prog 34 = some ⟨1,false,[(.slice none 0 0)],24⟩ := by kernel_rfl
@[go_sem ↓] theorem xTI_34 (K : TI → Prop) : xTI Tryz.prog 34 K = K ⟨1,false,[(.slice none 0 0)],24⟩ := xTI_of tI_34 K
theorem tI_35 : tI Tryz.prog 35 = some ⟨1,false,[(.slice none 0 0)],24⟩ := by kernel_rfl
@[go_sem ↓] theorem xTI_35 (K : TI → Prop) : xTI Tryz.prog 35 K = K ⟨1,false,[(.slice none 0 0)],24⟩ := xTI_of tI_35 K
theorem tI_36 : tI Tryz.prog 36 = some ⟨1,false,[(.slice none 0 0)],24⟩ := by kernel_rfl
@[go_sem ↓] theorem xTI_36 (K : TI → Prop) : xTI Tryz.prog 36 K = K ⟨1,false,[(.slice none 0 0)],24⟩ := xTI_of tI_36 K
theorem tI_37 : tI Tryz.prog 37 = some ⟨1,false,[(.slice none 0 0)],24⟩ := by kernel_rfl
@[go_sem ↓] theorem xTI_37 (K : TI → Prop) : xTI Tryz.prog 37 K = K ⟨1,false,[(.slice none 0 0)],24⟩ := xTI_of tI_37 K
theorem tI_39 : tI Tryz.prog 39 = some ⟨41,true,[(.int .u64 0),(.int .u64 0),(.int .u64 0),(.int .u64 0),(.int .u64 0),(.int .u64 0),(.int .u64 0),(.int .u64 0),(.int .u64 0),(.int .u64 0),(.int .u64 0),(.int .u64 0),(.int .u64 0),(.int .u64 0),(.int .i64 0),(.int .i64 0),(.int .i64 0),(.int .i64 0),(.int .i64 0),(.int .i64 0),(.int .i64 0),(.int .i64 0),(.int .i64 0),(.int .i64 0),(.int .u64 0),(.int .u64 0),(.int .u64 0),(.int .u64 0),(.int .u64 0),(.int .i64 0),(.int .i64 0),(.bool false),(.slice none 0 0),(.slice none 0 0),(.slice none 0 0),(.slice none 0 0),(.slice none 0 0),(.slice none 0 0),(.slice none 0 0),(.slice none 0 0),(.slice none 0 0)],472⟩ := by kernel_rfl
@[go_sem ↓] theorem xTI_39 (K : TI → Prop) : xTI Tryz.prog 39 K = K ⟨41,true,[(.int .u64 0),(.int .u64 0),(.int .u64 0),(.int .u64 0),(.int .u64 0),(.int .u64 0),(.int .u64 0),(.int .u64 0),(.int .u64 0),(.int .u64 0),(.int .u64 0),(.int .u64 0),(.int .u64 0),(.int .u64 0),(.int .i64 0),(.int .i64 0),(.int .i64 0),(.int .i64 0),(.int .i64 0),(.int .i64 0),(.int .i64 0),(.int .i64 0),(.int .i64 0),(.int .i64 0),(.int .u64 0),(.int .u64 0),(.int .u64 0),(.int .u64 0),(.int .u64 0),(.int .i64 0),(.int .i64 0),(.bool false),(.slice none 0 0),(.slice none 0 0),(.slice none 0 0),(.slice none 0 0),(.slice none 0 0),(.slice none 0 0),(.slice none 0 0),(.slice none 0 0),(.slice none 0 0)],472⟩ := xTI_of tI_39 K
theorem tI_40 : tI Tryz.prog 40 = some ⟨1,false,[(.int .i64 0)],8⟩ := by kernel_rfl
@[go_sem ↓] theorem xTI_40 (K : TI → Prop) : xTI Tryz.prog 40 K = K ⟨1,false,[(.int .i64 0)],8⟩ := xTI_of tI_40 K
theorem tI_43 : tI Tryz.prog 43 = some ⟨24,true,[(.int .u64 0),(.int .u64 0),(.int .u64 0),(.int .u64 0),(.int .u64 0),(.int .u64 0),(.int .u64 0),(.int .u64 0),(.int .u64 0),(.int .u64 0),(.int .u64 0),(.int .u64 0),(.int .u64 0),(.int .u64 0),(.int .i64 0),(.int .i64 0),(.int .i64 0),(.int .i64 0),(.int .i64 0),(.int .i64 0),(.int .i64 0),(.int .i64 0),(.int .i64 0),(.int .i64 0)],192⟩ := by kernel_rfl
@[go_sem ↓] theorem xTI_43 (K : TI → Prop) : xTI Tryz.prog 43 K = K ⟨24,true,[(.int .u64 0),(.int .u64 0),(.int .u64 0),(.int .u64 0),(.int .u64 0),(.int .u64 0),(.int .u64 0),(.int .u64 0),(.int .u64 0),(.int .u64 0),(.int .u64 0),(.int .u64 0),(.int .u64 0),(.int .u64 0),(.int .i64 0),(.int .i64 0),(.int .i64 0),(.int .i64 0),(.int .i64 0),(.int .i64 0),(.int .i64 0),(.int .i64 0),(.int .i64 0),(.int .i64 0)],192⟩ := xTI_of tI_43 K
theorem tI_44 : tI Tryz.prog 44 = some ⟨1,false,[(.slice none 0 0)],24⟩ := by kernel_rfl
@[go_sem ↓] theorem xTI_44 (K : TI → Prop) : xTI Tryz.prog 44 K = K ⟨1,false,[(.slice none 0 0)],24⟩ := xTI_of tI_44 K
theorem tI_45 : tI Tryz.prog 45 = some ⟨1,false,[(.slice none 0 0)],24⟩ := by kernel_rfl
@[go_sem ↓] theorem xTI_45 (K : TI → Prop) : xTI Tryz.prog 45 K = K ⟨1,false,[(.slice none 0 0)],24⟩ := xTI_of tI_45 K
theorem tI_46 : tI Tryz.prog 46 = some ⟨1,false,[(.slice none 0 0)],24⟩ := by kernel_rfl
@[go_sem ↓] theorem xTI_46 (K : TI → Prop) : xTI Tryz.prog 46 K = K ⟨1,false,[(.slice none 0 0)],24⟩ := xTI_of tI_46 K
theorem tI_47 : tI Tryz.prog 47 = some ⟨1,false,[(.slice none 0 0)],24⟩ := by kernel_rfl
@[go_sem ↓] theorem xTI_47 (K : TI → Prop) : xTI Tryz.prog 47 K = K ⟨1,false,[(.slice none 0 0)],24⟩ := xTI_of tI_47 K
theorem tI_49 : tI Tryz.prog 49 = some ⟨41,true,[(.int .u64 0),(.int .u64 0),(.int .u64 0),(.int .u64 0),(.int .u64 0),(.int .u64 0),(.int .u64 0),(.int .u64 0),(.int .u64 0),(.int .u64 0),(.int .u64 0),(.int .u64 0),(.int .u64 0),(.int .u64 0),(.int .i64 0),(.int .i64 0),(.int .i64 0),(.int .i64 0),(.int .i64 0),(.int .i64 0),(.int .i64 0),(.int .i64 0),(.int .i64 0),(.int .i64 0),(.int .u64 0),(.int .u64 0),(.int .u64 0),(.int .u64 0),(.int .u64 0),(.int .i64 0),(.int .i64 0),(.bool false),(.slice none 0 0),(.slice none 0 0),(.slice none 0 0),(.slice none 0 0),(.slice none 0 0),(.slice none 0 0),(.slice none 0 0),(.slice none 0 0),(.slice none 0 0)],472⟩ := by kernel_rfl
@[go_sem ↓] theorem xTI_49 (K : TI → Prop) : xTI Tryz.prog 49 K = K ⟨41,true,[(.int .u64 0),(.int .u64 0),(.int .u64 0),(.int .u64 0),(.int .u64 0),(.int .u64 0),(.int .u64 0),(.int .u64 0),(.int .u64 0),(.int .u64 0),(.int .u64 0),(.int .u64 0),(.int .u64 0),(.int .u64 0),(.int .i64 0),(.int .i64 0),(.int .i64 0),(.int .i64 0),(.int .i64 0),(.int .i64 0),(.int .i64 0),(.int .i64 0),(.int .i64 0),(.int .i64 0),(.int .u64 0),(.int .u64 0),(.int .u64 0),(.int .u64 0),(.int .u64 0),(.int .i64 0),(.int .i64 0),(.bool false),(.slice none 0 0),(.slice none 0 0),(.slice none 0 0),(.slice none 0 0),(.slice none 0 0),(.slice none 0 0),(.slice none 0 0),(.slice none 0 0),(.slice none 0 0)],472⟩ := xTI_of tI_49 K
theorem tI_52 : tI Tryz.prog 52 = some ⟨1,false,[(.slice none 0 0)],24⟩ := by kernel_rfl
@[go_sem ↓] theorem xTI_52 (K : TI → Prop) : xTI Tryz.prog 52 K = K ⟨1,false,[(.slice none 0 0)],24⟩ := xTI_of tI_52 K
theorem tI_54 : tI Tryz.prog 54 = some ⟨27,true,[(.int .u64 0),(.int .u64 0),(.int .u64 0),(.int .u64 0),(.int .u64 0),(.int .u64 0),(.int .u64 0),(.int .u64 0),(.int .u64 0),(.int .u64 0),(.int .u64 0),(.int .u64 0),(.int .u64 0),(.int .u64 0),(.int .i64 0),(.int .i64 0),(.int .i64 0),(.int .i64 0),(.int .i64 0),(.int .i64 0),(.int .i64 0),(.int .i64 0),(.int .i64 0),(.int .i64 0),(.int .u64 0),(.slice none 0 0),(.slice none 0 0)],248⟩ := by kernel_rfl
@[go_sem ↓] theorem xTI_54 (K : TI → Prop) : xTI Tryz.prog 54 K = K ⟨27,true,[(.int .u64 0),(.int .u64 0),(.int .u64 0),(.int .u64 0),(.int .u64 0),(.int .u64 0),(.int .u64 0),(.int .u64 0),(.int .u64 0),(.int .u64 0),(.int .u64 0),(.int .u64 0),(.int .u64 0),(.int .u64 0),(.int .i64 0),(.int .i64 0),(.int .i64 0),(.int .i64 0),(.int .i64 0),(.int .i64 0),(.int .i64 0),(.int .i64 0),(.int .i64 0),(.int .i64 0),(.int .u64 0),(.slice none 0 0),(.slice none 0 0)],248⟩ := xTI_of tI_54 K
theorem tI_61 : tI Tryz.prog 61 = some ⟨14,true,[(.int .i64 0),(.int .i64 0),(.bool false),(.int .u64 0),(.int .u64 0),(.int .u64 0),(.int .u64 0),(.int .u64 0),(.int .u64 0),(.int .u64 0),(.slice none 0 0),(.slice none 0 0),(.slice none 0 0),(.slice none 0 0)],176⟩ := by kernel_rfl
@[go_sem ↓] theorem xTI_61 (K : TI → Prop) : xTI Tryz.prog 61 K = K ⟨14,true,[(.int .i64 0),(.int .i64 0),(.bool false),(.int .u64 0),(.int .u64 0),(.int .u64 0),(.int .u64 0),(.int .u64 0),(.int .u64 0),(.int .u64 0),(.slice none 0 0),(.slice none 0 0),(.slice none 0 0),(.slice none 0 0)],176⟩ := xTI_of tI_61 K
theorem tI_64 : tI Tryz.prog 64 = some ⟨14,true,[(.int .i64 0),(.int .i64 0),(.bool false),(.int .u64 0),(.int .u64 0),(.int .u64 0),(.int .u64 0),(.int .u64 0),(.int .u64 0),(.int .u64 0),(.slice none 0 0),(.slice none 0 0),(.slice none 0 0),(.slice none 0 0)],176⟩ := by kernel_rfl
@[go_sem ↓] theorem xTI_64 (K : TI → Prop) : xTI Tryz.prog 64 K = K ⟨14,true,[(.int .i64 0),(.int .i64 0),(.bool false),(.int .u64 0),(.int .u64 0),(.int .u64 0),(.int .u64 0),(.int .u64 0),(.int .u64 0),(.int .u64 0),(.slice none 0 0),(.slice none 0 0),(.slice none 0 0),(.slice none 0 0)],176⟩ := xTI_of tI_64 K
theorem tI_71 : tI Tryz.prog 71 = some ⟨4,true,[(.int .u64 0),(.int .u64 0),(.int .u64 0),(.int .i64 0)],32⟩ := by kernel_rfl
@[go_sem ↓] theorem xTI_71 (K : TI → Prop) : xTI Tryz.prog 71 K = K ⟨4,true,[(.int .u64 0),(.int .u64 0),(.int .u64 0),(.int .i64 0)],32⟩ := xTI_of tI_71 K
theorem tI_73 : tI Tryz.prog 73 = some ⟨6,true,[(.int .u64 0),(.int .u64 0),(.int .u64 0),(.int .i64 0),(.int .i64 0),(.int .i64 0)],48⟩ := by kernel_rfl
@[go_sem ↓] theorem xTI_73 (K : TI → Prop) : xTI Tryz.prog 73 K = K ⟨6,true,[(.int .u64 0),(.int .u64 0),(.int .u64 0),(.int .i64 0),(.int .i64 0),(.int .i64 0)],48⟩ := xTI_of tI_73 K
theorem tI_75 : tI Tryz.prog 75 = some ⟨33,true,[(.int .i64 0),(.int .i64 0),(.int .u64 0),(.int .u64 0),(.int .u64 0),(.int .u64 0),(.int .u64 0),(.int .u64 0),(.int .u64 0),(.int .u64 0),(.int .u64 0),(.int .u64 0),(.int .u64 0),(.int .u64 0),(.int .u64 0),(.int .u64 0),(.int .i64 0),(.int .i64 0),(.int .i64 0),(.int .i64 0),(.int .i64 0),(.int .i64 0),(.int .i64 0),(.int .i64 0),(.int .i64 0),(.int .i64 0),(.int .i64 0),(.int .u64 0),(.int .i64 0),(.int .i64 0),(.int .i64 0),(.slice none 0 0),(.slice none 0 0)],296⟩ := by kernel_rfl
@[go_sem ↓] theorem xTI_75 (K : TI → Prop) : xTI Tryz.prog 75 K = K ⟨33,true,[(.int .i64 0),(.int .i64 0),(.int .u64 0),(.int .u64 0),(.int .u64 0),(.int .u64 0),(.int .u64 0),(.int .u64 0),(.int .u64 0),(.int .u64 0),(.int .u64 0),(.int .u64 0),(.int .u64 0),(.int .u64 0),(.int .u64 0),(.int .u64 0),(.int .i64 0),(.int .i64 0),(.int .i64 0),(.int .i64 0),(.int .i64 0),(.int .i64 0),(.int .i64 0),(.int .i64 0),(.int .i64 0),(.int .i64 0),(.int .i64 0),(.int .u64 0),(.int .i64 0),(.int .i64 0),(.int .i64 0),(.slice none 0 0),(.slice none 0 0)],296⟩ := xTI_of tI_75 K
theorem tI_87 : tI Tryz.prog 87 = some ⟨2,true,[(.int .i64 0),(.int .u64 0)],16⟩ := by kernel_rfl
@[go_sem ↓] theorem xTI_87 (K : TI → Prop) : xTI Tryz.prog 87 K = K ⟨2,true,[(.int .i64 0),(.int .u64 0)],16⟩ := xTI_of tI_87 K
theorem tI_93 : tI Tryz.prog 93 = some ⟨1,true,[(.slice none 0 0)],24⟩ := by kernel_rfl
@[go_sem ↓] theorem xTI_93 (K : TI → Prop) : xTI Tryz.prog 93 K = K ⟨1,true,[(.slice none 0 0)],24⟩ := xTI_of tI_93 K
theorem tI_95 : tI Tryz.prog 95 = some ⟨2,true,[(.int .i64 0),(.int .u64 0)],16⟩ := by kernel_rfl
@[go_sem ↓] theorem xTI_95 (K : TI → Prop) : xTI Tryz.prog 95 K = K ⟨2,true,[(.int .i64 0),(.int .u64 0)],16⟩ := xTI_of tI_95 K
theorem tI_99 : tI Tryz.prog 99 = some ⟨4,true,[(.int .u64 0),(.int .u64 0),(.int .u64 0),(.int .i64 0)],32⟩ := by kernel_rfl
@[go_sem ↓] theorem xTI_99 (K : TI → Prop) : xTI Tryz.prog 99 K = K ⟨4,true,[(.int .u64 0),(.int .u64 0),(.int .u64 0),(.int .i64 0)],32⟩ := xTI_of tI_99 K
theorem tI_101 : tI Tryz.prog 101 = some ⟨6,true,[(.int .u64 0),(.int .u64 0),(.int .u64 0),(.int .i64 0),(.int .i64 0),(.int .i64 0)],48⟩ := by kernel_rfl
@[go_sem ↓] theorem xTI_101 (K : TI → Prop) : xTI Tryz.prog 101 K = K ⟨6,true,[(.int .u64 0),(.int .u64 0),(.int .u64 0),(.int .i64 0),(.int .i64 0),(.int .i64 0)],48⟩ := xTI_of tI_101 K
theorem tI_115 : tI Tryz.prog 115 = some ⟨41,true,[(.int .u64 0),(.int .u64 0),(.int .u64 0),(.int .u64 0),(.int .u64 0),(.int .u64 0),(.int .u64 0),(.int .u64 0),(.int .u64 0),(.int .u64 0),(.int .u64 0),(.int .u64 0),(.int .u64 0),(.int .u64 0),(.int .i64 0),(.int .i64 0),(.int .i64 0),(.int .i64 0),(.int .i64 0),(.int .i64 0),(.int .i64 0),(.int .i64 0),(.int .i64 0),(.int .i64 0),(.int .u64 0),(.int .u64 0),(.int .u64 0),(.int .u64 0),(.int .u64 0),(.int .i64 0),(.int .i64 0),(.bool false),(.slice none 0 0),(.slice none 0 0),(.slice none 0 0),(.slice none 0 0),(.slice none 0 0),(.slice none 0 0),(.slice none 0 0),(.slice none 0 0),(.slice none 0 0)],472⟩ := by kernel_rfl
@[go_sem ↓] theorem xTI_115 (K : TI → Prop) : xTI Tryz.prog 115 K = K ⟨41,true,[(.int .u64 0),(.int .u64 0),(.int .u64 0),(.int .u64 0),(.int .u64 0),(.int .u64 0),(.int .u64 0),(.int .u64 0),(.int .u64 0),(.int .u64 0),(.int .u64 0),(.int .u64 0),(.int .u64 0),(.int .u64 0),(.int .i64 0),(.int .i64 0),(.int .i64 0),(.int .i64 0),(.int .i64 0),(.int .i64 0),(.int .i64 0),(.int .i64 0),(.int .i64 0),(.int .i64 0),(.int .u64 0),(.int .u64 0),(.int .u64 0),(.int .u64 0),(.int .u64 0),(.int .i64 0),(.int .i64 0),(.bool false),(.slice none 0 0),(.slice none 0 0),(.slice none 0 0),(.slice none 0 0),(.slice none 0 0),(.slice none 0 0),(.slice none 0 0),(.slice none 0 0),(.slice none 0 0)],472⟩ := xTI_of tI_115 K
theorem tI_120 : tI Tryz.prog 120 = some ⟨4,true,[(.int .i64 0),(.int .i64 0),(.int .u64 0),(.bool false)],32⟩ := by kernel_rfl
@[go_sem ↓] theorem xTI_120 (K : TI → Prop) : xTI Tryz.prog 120 K = K ⟨4,true,[(.int .i64 0),(.int .i64 0),(.int .u64 0),(.bool false)],32⟩ := xTI_of tI_120 K
theorem tI_123 : tI Tryz.prog 123 = some ⟨3,true,[(.int .i64 0),(.int .i64 0),(.int .u64 0)],24⟩ := by kernel_rfl
@[go_sem ↓] theorem xTI_123 (K : TI → Prop) : xTI Tryz.prog 123 K = K ⟨3,true,[(.int .i64 0),(.int .i64 0),(.int .u64 0)],24⟩ := xTI_of tI_123 K
theorem tI_127 : tI Tryz.prog 127 = some ⟨1,false,[(.pointer none)],8⟩ := by kernel_rfl
@[go_sem ↓] theorem xTI_127 (K : TI → Prop) : xTI Tryz.prog 127 K = K ⟨1,false,[(.pointer none)],8⟩ := xTI_of tI_127 K
theorem tI_129 : tI Tryz.prog 129 = some ⟨56,true,[(.int .u64 0),(.int .u64 0),(.int .u64 0),(.int .u64 0),(.int .u64 0),(.int .u64 0),(.int .u64 0),(.int .u64 0),(.int .u64 0),(.int .u64 0),(.int .u64 0),(.int .u64 0),(.int .u64 0),(.int .u64 0),(.int .i64 0),(.int .i64 0),(.int .i64 0),(.int .i64 0),(.int .i64 0),(.int .i64 0),(.int .i64 0),(.int .i64 0),(.int .i64 0),(.int .i64 0),(.int .u64 0),(.int .u64 0),(.int .u64 0),(.int .u64 0),(.int .u64 0),(.int .i64 0),(.int .i64 0),(.bool false),(.slice none 0 0),(.slice none 0 0),(.slice none 0 0),(.slice none 0 0),(.slice none 0 0),(.slice none 0 0),(.slice none 0 0),(.slice none 0 0),(.slice none 0 0),(.int .i64 0),(.int .i64 0),(.bool false),(.int .u64 0),(.int .u64 0),(.int .u64 0),(.int .u64 0),(.int .u64 0),(.int .u64 0),(.int .u64 0),(.slice none 0 0),(.slice none 0 0),(.slice none 0 0),(.slice none 0 0),(.int .i64 0)],656⟩ := by kernel_rfl
@[go_sem ↓] theorem xTI_129 (K : TI → Prop) : xTI Tryz.prog 129 K = K ⟨56,true,[(.int .u64 0),(.int .u64 0),(.int .u64 0),(.int .u64 0),(.int .u64 0),(.int .u64 0),(.int .u64 0),(.int .u64 0),(.int .u64 0),(.int .u64 0),(.int .u64 0),(.int .u64 0),(.int .u64 0),(.int .u64 0),(.int .i64 0),(.int .i64 0),(.int .i64 0),(.int .i64 0),(.int .i64 0),(.int .i64 0),(.int .i64 0),(.int .i64 0),(.int .i64 0),(.int .i64 0),(.int .u64 0),(.int .u64 0),(.int .u64 0),(.int .u64 0),(.int .u64 0),(.int .i64 0),(.int .i64 0),(.bool false),(.slice none 0 0),(.slice none 0 0),(.slice none 0 0),(.slice none 0 0),(.slice none 0 0),(.slice none 0 0),(.slice none 0 0),(.slice none 0 0),(.slice none 0 0),(.int .i64 0),(.int .i64 0),(.bool false),(.int .u64 0),(.int .u64 0),(.int .u64 0),(.int .u64 0),(.int .u64 0),(.int .u64 0),(.int .u64 0),(.slice none 0 0),(.slice none 0 0),(.slice none 0 0),(.slice none 0 0),(.int .i64 0)],656⟩ := xTI_of tI_129 K
theorem tI_138 : tI Tryz.prog 138 = some ⟨9,true,[(.int .u64 0),(.int .u64 0),(.int .u64 0),(.int .u64 0),(.int .u64 0),(.slice none 0 0),(.slice none 0 0),(.slice none 0 0),(.slice none 0 0)],136⟩ := by kernel_rfl
@[go_sem ↓] theorem xTI_138 (K : TI → Prop) : xTI Tryz.prog 138 K = K ⟨9,true,[(.int .u64 0),(.int .u64 0),(.int .u64 0),(.int .u64 0),(.int .u64 0),(.slice none 0 0),(.slice none 0 0),(.slice none 0 0),(.slice none 0 0)],136⟩ := xTI_of tI_138 K
theorem tI_142 : tI Tryz.prog 142 = some ⟨33,true,[(.int .i64 0),(.int .i64 0),(.int .u64 0),(.int .u64 0),(.int .u64 0),(.int .u64 0),(.int .u64 0),(.int .u64 0),(.int .u64 0),(.int .u64 0),(.int .u64 0),(.int .u64 0),(.int .u64 0),(.int .u64 0),(.int .u64 0),(.int .u64 0),(.int .i64 0),(.int .i64 0),(.int .i64 0),(.int .i64 0),(.int .i64 0),(.int .i64 0),(.int .i64 0),(.int .i64 0),(.int .i64 0),(.int .i64 0),(.int .i64 0),(.int .u64 0),(.int .i64 0),(.int .i64 0),(.int .i64 0),(.slice none 0 0),(.slice none 0 0)],296⟩ := by kernel_rfl
@[go_sem ↓] theorem xTI_142 (K : TI → Prop) : xTI Tryz.prog 142 K = K ⟨33,true,[(.int .i64 0),(.int .i64 0),(.int .u64 0),(.int .u64 0),(.int .u64 0),(.int .u64 0),(.int .u64 0),(.int .u64 0),(.int .u64 0),(.int .u64 0),(.int .u64 0),(.int .u64 0),(.int .u64 0),(.int .u64 0),(.int .u64 0),(.int .u64 0),(.int .i64 0),(.int .i64 0),(.int .i64 0),(.int .i64 0),(.int .i64 0),(.int .i64 0),(.int .i64 0),(.int .i64 0),(.int .i64 0),(.int .i64 0),(.int .i64 0),(.int .u64 0),(.int .i64 0),(.int .i64 0),(.int .i64 0),(.slice none 0 0),(.slice none 0 0)],296⟩ := xTI_of tI_142 K
theorem tI_148 : tI Tryz.prog 148 = some ⟨5,true,[(.int .u64 0),(.int .u64 0),(.int .u64 0),(.int .u64 0),(.int .u64 0)],40⟩ := by kernel_rfl
@[go_sem ↓] theorem xTI_148 (K : TI → Prop) : xTI Tryz.prog 148 K = K ⟨5,true,[(.int .u64 0),(.int .u64 0),(.int .u64 0),(.int .u64 0),(.int .u64 0)],40⟩ := xTI_of tI_148 K
theorem tI_155 : tI Tryz.prog 155 = some ⟨24,true,[(.int .u64 0),(.int .u64 0),(.int .u64 0),(.int .u64 0),(.int .u64 0),(.int .u64 0),(.int .u64 0),(.int .u64 0),(.int .u64 0),(.int .u64 0),(.int .u64 0),(.int .u64 0),(.int .u64 0),(.int .u64 0),(.int .i64 0),(.int .i64 0),(.int .i64 0),(.int .i64 0),(.int .i64 0),(.int .i64 0),(.int .i64 0),(.int .i64 0),(.int .i64 0),(.int .i64 0)],192⟩ := by kernel_rfl
@[go_sem ↓] theorem xTI_155 (K : TI → Prop) : xTI Tryz.prog 155 K = K ⟨24,true,[(.int .u64 0),(.int .u64 0),(.int .u64 0),(.int .u64 0),(.int .u64 0),(.int .u64 0),(.int .u64 0),(.int .u64 0),(.int .u64 0),(.int .u64 0),(.int .u64 0),(.int .u64 0),(.int .u64 0),(.int .u64 0),(.int .i64 0),(.int .i64 0),(.int .i64 0),(.int .i64 0),(.int .i64 0),(.int .i64 0),(.int .i64 0),(.int .i64 0),(.int .i64 0),(.int .i64 0)],192⟩ := xTI_of tI_155 K
theorem tI_172 : tI Tryz.prog 172 = some ⟨4,true,[(.int .i64 0),(.int .i64 0),(.int .u64 0),(.bool false)],32⟩ := by kernel_rfl
@[go_sem ↓] theorem xTI_172 (K : TI → Prop) : xTI Tryz.prog 172 K = K ⟨4,true,[(.int .i64 0),(.int .i64 0),(.int .u64 0),(.bool false)],32⟩ := xTI_of tI_172 K
theorem tI_173 : tI Tryz.prog 173 = some ⟨3,true,[(.int .i64 0),(.int .i64 0),(.int .u64 0)],24⟩ := by kernel_rfl
@[go_sem ↓] theorem xTI_173 (K : TI → Prop) : xTI Tryz.prog 173 K = K ⟨3,true,[(.int .i64 0),(.int .i64 0),(.int .u64 0)],24⟩ := xTI_of tI_173 K
theorem tI_195 : tI Tryz.prog 195 = some ⟨1,false,[(.slice none 0 0)],24⟩ := by kernel_rfl
@[go_sem ↓] theorem xTI_195 (K : TI → Prop) : xTI Tryz.prog 195 K = K ⟨1,false,[(.slice none 0 0)],24⟩ := xTI_of tI_195 K
theorem tI_262 : tI Tryz.prog 262 = some ⟨6,true,[(.int .u64 0),(.int .u64 0),(.int .u64 0),(.int .i64 0),(.int .i64 0),(.int .i64 0)],48⟩ := by kernel_rfl
@[go_sem ↓] theorem xTI_262 (K : TI → Prop) : xTI Tryz.prog 262 K = K ⟨6,true,[(.int .u64 0),(.int .u64 0),(.int .u64 0),(.int .i64 0),(.int .i64 0),(.int .i64 0)],48⟩ := xTI_of tI_262 K
theorem tI_269 : tI Tryz.prog 269 = some ⟨28,true,[(.int .u64 0),(.int .u64 0),(.int .u64 0),(.int .i64 0),(.int .u64 0),(.int .u64 0),(.int .u64 0),(.int .u64 0),(.int .u64 0),(.int .u64 0),(.int .u64 0),(.int .u64 0),(.int .u64 0),(.int .u64 0),(.int .u64 0),(.int .u64 0),(.int .u64 0),(.int .u64 0),(.int .i64 0),(.int .i64 0),(.int .i64 0),(.int .i64 0),(.int .i64 0),(.int .i64 0),(.int .i64 0),(.int .i64 0),(.int .i64 0),(.int .i64 0)],224⟩ := by kernel_rfl
@[go_sem ↓] theorem xTI_269 (K : TI → Prop) : xTI Tryz.prog 269 K = K ⟨28,true,[(.int .u64 0),(.int .u64 0),(.int .u64 0),(.int .i64 0),(.int .u64 0),(.int .u64 0),(.int .u64 0),(.int .u64 0),(.int .u64 0),(.int .u64 0),(.int .u64 0),(.int .u64 0),(.int .u64 0),(.int .u64 0),(.int .u64 0),(.int .u64 0),(.int .u64 0),(.int .u64 0),(.int .i64 0),(.int .i64 0),(.int .i64 0),(.int .i64 0),(.int .i64 0),(.int .i64 0),(.int .i64 0),(.int .i64 0),(.int .i64 0),(.int .i64 0)],224⟩ := xTI_of tI_269 K
theorem tI_289 : tI Tryz.prog 289 = some ⟨3,true,[(.int .u64 0),(.int .u64 0),(.int .u64 0)],24⟩ := by kernel_rfl
@[go_sem ↓] theorem xTI_289 (K : TI → Prop) : xTI Tryz.prog 289 K = K ⟨3,true,[(.int .u64 0),(.int .u64 0),(.int .u64 0)],24⟩ := xTI_of tI_289 K
theorem tI_316 : tI Tryz.prog 316 = some ⟨2,true,[(.int .u64 0),(.int .u64 0)],16⟩ := by kernel_rfl
@[go_sem ↓] theorem xTI_316 (K : TI → Prop) : xTI Tryz.prog 316 K = K ⟨2,true,[(.int .u64 0),(.int .u64 0)],16⟩ := xTI_of tI_316 K
theorem tI_327 : tI Tryz.prog 327 = some ⟨29,true,[(.int .u64 0),(.int .u64 0),(.int .u64 0),(.int .i64 0),(.int .u64 0),(.int .u64 0),(.int .u64 0),(.int .u64 0),(.int .u64 0),(.int .u64 0),(.int .u64 0),(.int .u64 0),(.int .u64 0),(.int .u64 0),(.int .u64 0),(.int .u64 0),(.int .u64 0),(.int .u64 0),(.int .i64 0),(.int .i64 0),(.int .i64 0),(.int .i64 0),(.int .i64 0),(.int .i64 0),(.int .i64 0),(.int .i64 0),(.int .i64 0),(.int .i64 0),(.int .i64 0)],232⟩ := by kernel_rfl
@[go_sem ↓] theorem xTI_327 (K : TI → Prop) : xTI Tryz.prog 327 K = K ⟨29,true,[(.int .u64 0),(.int .u64 0),(.int .u64 0),(.int .i64 0),(.int .u64 0),(.int .u64 0),(.int .u64 0),(.int .u64 0),(.int .u64 0),(.int .u64 0),(.int .u64 0),(.int .u64 0),(.int .u64 0),(.int .u64 0),(.int .u64 0),(.int .u64 0),(.int .u64 0),(.int .u64 0),(.int .i64 0),(.int .i64 0),(.int .i64 0),(.int .i64 0),(.int .i64 0),(.int .i64 0),(.int .i64 0),(.int .i64 0),(.int .i64 0),(.int .i64 0),(.int .i64 0)],232⟩ := xTI_of tI_327 K
theorem tI_334 : tI Tryz.prog 334 = some ⟨1,true,[(.slice none 0 0)],24⟩ := by kernel_rfl
@[go_sem ↓] theorem xTI_334 (K : TI → Prop) : xTI Tryz.prog 334 K = K ⟨1,true,[(.slice none 0 0)],24⟩ := xTI_of tI_334 K
theorem tI_358 : tI Tryz.prog 358 = some ⟨3,true,[(.int .u64 0),(.int .u64 0),(.int .u64 0)],24⟩ := by kernel_rfl
@[go_sem ↓] theorem xTI_358 (K : TI → Prop) : xTI Tryz.prog 358 K = K ⟨3,true,[(.int .u64 0),(.int .u64 0),(.int .u64 0)],24⟩ := xTI_of tI_358 K
theorem tI_366 : tI Tryz.prog 366 = some ⟨1,false,[.nilIface],16⟩ := by kernel_rfl
@[go_sem ↓] theorem xTI_366 (K : TI → Prop) : xTI Tryz.prog 366 K = K ⟨1,false,[.nilIface],16⟩ := xTI_of tI_366 K
theorem bP_24 : bPl Tryz.prog 24 = some ([(.int .u64 0),(.int .u64 0),(.int .u64 0),(.int .u64 0),(.int .u64 0),(.int .u64 0),(.int .u64 0),(.int .u64 0),(.int .u64 0),(.int .u64 0),(.int .u64 0),(.int .u64 0),(.int .u64 0),(.int .u64 0),(.int .i64 0),(.int .i64 0),(.int .i64 0),(.int .i64 0),(.int .i64 0),(.int .i64 0),(.int .i64 0),(.int .i64 0),(.int .i64 0),(.int .i64 0)],[(0,1),(1,1),(2,1),(3,1),(4,1),(5,1),(6,1),(7,1),(8,1),(9,1),(10,1),(11,1),(12,1),(13,1),(14,1),(15,1),(16,1),(17,1),(18,1),(19,1),(20,1),(21,1),(22,1),(23,1)]) := by kernel_rfl
@[go_sem ↓] theorem xBuild_24 (ps : List (Nat × Value)) (K : Value → Prop) : xBuild Tryz.prog 24 ps.toArray K = xFill [(.int .u64 0),(.int .u64 0),(.int .u64 0),(.int .u64 0),(.int .u64 0),(.int .u64 0),(.int .u64 0),(.int .u64 0),(.int .u64 0),(.int .u64 0),(.int .u64 0),(.int .u64 0),(.int .u64 0),(.int .u64 0),(.int .i64 0),(.int .i64 0),(.int .i64 0),(.int .i64 0),(.int .i64 0),(.int .i64 0),(.int .i64 0),(.int .i64 0),(.int .i64 0),(.int .i64 0)] [(0,1),(1,1),(2,1),(3,1),(4,1),(5,1),(6,1),(7,1),(8,1),(9,1),(10,1),(11,1),(12,1),(13,1),(14,1),(15,1),(16,1),(17,1),(18,1),(19,1),(20,1),(21,1),(22,1),(23,1)] ps fun z' => K (.agg z'.toArray) := xBuild_of bP_24 ps K
theorem bP_28 : bPl Tryz.prog 28 = some ([(.int .u64 0),(.int .u64 0),(.int .u64 0),(.int .u64 0),(.int .u64 0),(.int .u64 0),(.int .u64 0),(.int .u64 0),(.int .u64 0),(.int .u64 0),(.int .u64 0),(.int .u64 0),(.int .u64 0),(.int .u64 0),(.int .i64 0),(.int .i64 0),(.int .i64 0),(.int .i64 0),(.int .i64 0),(.int .i64 0),(.int .i64 0),(.int .i64 0),(.int .i64 0),(.int .i64 0),(.int .u64 0),(.slice none 0 0),(.slice none 0 0)],[(0,24),(24,1),(25,1),(26,1)]) := by kernel_rfl
@[go_sem ↓] theorem xBuild_28 (ps : List (Nat × Value)) (K : Value → Prop) : xBuild Tryz.prog 28 ps.toArray K = xFill [(.int .u64 0),(.int .u64 0),(.int .u64 0),(.int .u64 0),(.int .u64 0),(.int .u64 0),(.int .u64 0),(.int .u64 0),(.int .u64 0),(.int .u64 0),(.int .u64 0),(.int .u64 0),(.int .u64 0),(.int .u64 0),(.int .i64 0),(.int .i64 0),(.int .i64 0),(.int .i64 0),(.int .i64 0),(.int .i64 0),(.int .i64 0),(.int .i64 0),(.int .i64 0),(.int .i64 0),(.int .u64 0),(.slice none 0 0),(.slice none 0 0)] [(0,24),(24,1),(25,1),(26,1)] ps fun z' => K (.agg z'.toArray) := xBuild_of bP_28 ps K
theorem bP_39 : bPl Tryz.prog 39 = some ([(.int .u64 0),(.int .u64 0),(.int .u64 0),(.int .u64 0),(.int .u64 0),(.int .u64 0),(.int .u64 0),(.int .u64 0),(.int .u64 0),(.int .u64 0),(.int .u64 0),(.int .u64 0),(.int .u64 0),(.int .u64 0),(.int .i64 0),(.int .i64 0),(.int .i64 0),(.int .i64 0),(.int .i64 0),(.int .i64 0),(.int .i64 0),(.int .i64 0),(.int .i64 0),(.int .i64 0),(.int .u64 0),(.int .u64 0),(.int .u64 0),(.int .u64 0),(.int .u64 0),(.int .i64 0),(.int .i64 0),(.bool false),(.slice none 0 0),(.slice none 0 0),(.slice none 0 0),(.slice none 0 0),(.slice none 0 0),(.slice none 0 0),(.slice none 0 0),(.slice none 0 0),(.slice none 0 0)],[(0,24),(24,1),(25,1),(26,1),(27,1),(28,1),(29,1),(30,1),(31,1),(32,1),(33,1),(34,1),(35,1),(36,1),(37,1),(38,1),(39,1),(40,1)]) := by kernel_rfl
@[go_sem ↓] theorem xBuild_39 (ps : List (Nat × Value)) (K : Value → Prop) : xBuild Tryz.prog 39 ps.toArray K = xFill [(.int .u64 0),(.int .u64 0),(.int .u64 0),(.int .u64 0),(.int .u64 0),(.int .u64 0),(.int .u64 0),(.int .u64 0),(.int .u64 0),(.int .u64 0),(.int .u64 0),(.int .u64 0),(.int .u64 0),(.int .u64 0),(.int .i64 0),(.int .i64 0),(.int .i64 0),(.int .i64 0),(.int .i64 0),(.int .i64 0),(.int .i64 0),(.int .i64 0),(.int .i64 0),(.int .i64 0),(.int .u64 0),(.int .u64 0),(.int .u64 0),(.int .u64 0),(.int .u64 0),(.int .i64 0),(.int .i64 0),(.bool false),(.slice none 0 0),(.slice none 0 0),(.slice none 0 0),(.slice none 0 0),(.slice none 0 0),(.slice none 0 0),(.slice none 0 0),(.slice none 0 0),(.slice none 0 0)] [(0,24),(24,1),(25,1),(26,1),(27,1),(28,1),(29,1),(30,1),(31,1),(32,1),(33,1),(34,1),(35,1),(36,1),(37,1),(38,1),(39,1),(40,1)] ps fun z' => K (.agg z'.toArray) := xBuild_of bP_39 ps K
theorem bP_49 : bPl Tryz.prog 49 = some ([(.int .u64 0),(.int .u64 0),(.int .u64 0),(.int .u64 0),(.int .u64 0),(.int .u64 0),(.int .u64 0),(.int .u64 0),(.int .u64 0),(.int .u64 0),(.int .u64 0),(.int .u64 0),(.int .u64 0),(.int .u64 0),(.int .i64 0),(.int .i64 0),(.int .i64 0),(.int .i64 0),(.int .i64 0),(.int .i64 0),(.int .i64 0),(.int .i64 0),(.int .i64 0),(.int .i64 0),(.int .u64 0),(.int .u64 0),(.int .u64 0),(.int .u64 0),(.int .u64 0),(.int .i64 0),(.int .i64 0),(.bool false),(.slice none 0 0),(.slice none 0 0),(.slice none 0 0),(.slice none 0 0),(.slice none 0 0),(.slice none 0 0),(.slice none 0 0),(.slice none 0 0),(.slice none 0 0)],[(0,24),(24,1),(25,1),(26,1),(27,1),(28,1),(29,1),(30,1),(31,1),(32,1),(33,1),(34,1),(35,1),(36,1),(37,1),(38,1),(39,1),(40,1)]) := by kernel_rfl
@[go_sem ↓] theorem xBuild_49 (ps : List (Nat × Value)) (K : Value → Prop) : xBuild Tryz.prog 49 ps.toArray K = xFill [(.int .u64 0),(.int .u64 0),(.int .u64 0),(.int .u64 0),(.int .u64 0),(.int .u64 0),(.int .u64 0),(.int .u64 0),(.int .u64 0),(.int .u64 0),(.int .u64 0),(.int .u64 0),(.int .u64 0),(.int .u64 0),(.int .i64 0),(.int .i64 0),(.int .i64 0),(.int .i64 0),(.int .i64 0),(.int .i64 0),(.int .i64 0),(.int .i64 0),(.int .i64 0),(.int .i64 0),(.int .u64 0),(.int .u64 0),(.int .u64 0),(.int .u64 0),(.int .u64 0),(.int .i64 0),(.int .i64 0),(.bool false),(.slice none 0 0),(.slice none 0 0),(.slice none 0 0),(.slice none 0 0),(.slice none 0 0),(.slice none 0 0),(.slice none 0 0),(.slice none 0 0),(.slice none 0 0)] [(0,24),(24,1),(25,1),(26,1),(27,1),(28,1),(29,1),(30,1),(31,1),(32,1),(33,1),(34,1),(35,1),(36,1),(37,1),(38,1),(39,1),(40,1)] ps fun z' => K (.agg z'.toArray) := xBuild_of bP_49 ps K
theorem bP_54 : bPl Tryz.prog 54 = some ([(.int .u64 0),(.int .u64 0),(.int .u64 0),(.int .u64 0),(.int .u64 0),(.int .u64 0),(.int .u64 0),(.int .u64 0),(.int .u64 0),(.int .u64 0),(.int .u64 0),(.int .u64 0),(.int .u64 0),(.int .u64 0),(.int .i64 0),(.int .i64 0),(.int .i64 0),(.int .i64 0),(.int .i64 0),(.int .i64 0),(.int .i64 0),(.int .i64 0),(.int .i64 0),(.int .i64 0),(.int .u64 0),(.slice none 0 0),(.slice none 0 0)],[(0,24),(24,1),(25,1),(26,1)]) := by kernel_rfl
@[go_sem ↓] theorem xBuild_54 (ps : List (Nat × Value)) (K : Value → Prop) : xBuild Tryz.prog 54 ps.toArray K = xFill [(.int .u64 0),(.int .u64 0),(.int .u64 0),(.int .u64 0),(.int .u64 0),(.int .u64 0),(.int .u64 0),(.int .u64 0),(.int .u64 0),(.int .u64 0),(.int .u64 0),(.int .u64 0),(.int .u64 0),(.int .u64 0),(.int .i64 0),(.int .i64 0),(.int .i64 0),(.int .i64 0),(.int .i64 0),(.int .i64 0),(.int .i64 0),(.int .i64 0),(.int .i64 0),(.int .i64 0),(.int .u64 0),(.slice none 0 0),(.slice none 0 0)] [(0,24),(24,1),(25,1),(26,1)] ps fun z' => K (.agg z'.toArray) := xBuild_of bP_54 ps K
theorem bP_61 : bPl Tryz.prog 61 = some ([(.int .i64 0),(.int .i64 0),(.bool false),(.int .u64 0),(.int .u64 0),(.int .u64 0),(.int .u64 0),(.int .u64 0),(.int .u64 0),(.int .u64 0),(.slice none 0 0),(.slice none 0 0),(.slice none 0 0),(.slice none 0 0)],[(0,1),(1,1),(2,1),(3,1),(4,1),(5,1),(6,1),(7,1),(8,1),(9,1),(10,1),(11,1),(12,1),(13,1)]) := by kernel_rfl
@[go_sem ↓] theorem xBuild_61 (ps : List (Nat × Value)) (K : Value → Prop) : xBuild Tryz.prog 61 ps.toArray K = xFill [(.int .i64 0),(.int .i64 0),(.bool false),(.int .u64 0),(.int .u64 0),(.int .u64 0),(.int .u64 0),(.int .u64 0),(.int .u64 0),(.int .u64 0),(.slice none 0 0),(.slice none 0 0),(.slice none 0 0),(.slice none 0 0)] [(0,1),(1,1),(2,1),(3,1),(4,1),(5,1),(6,1),(7,1),(8,1),(9,1),(10,1),(11,1),(12,1),(13,1)] ps fun z' => K (.agg z'.toArray) := xBuild_of bP_61 ps K
theorem bP_71 : bPl Tryz.prog 71 = some ([(.int .u64 0),(.int .u64 0),(.int .u64 0),(.int .i64 0)],[(0,1),(1,1),(2,1),(3,1)]) := by kernel_rfl
@[go_sem ↓] theorem xBuild_71 (ps : List (Nat × Value)) (K : Value → Prop) : xBuild Tryz.prog 71 ps.toArray K = xFill [(.int .u64 0),(.int .u64 0),(.int .u64 0),(.int .i64 0)] [(0,1),(1,1),(2,1),(3,1)] ps fun z' => K (.agg z'.toArray) := xBuild_of bP_71 ps K
theorem bP_73 : bPl Tryz.prog 73 = some ([(.int .u64 0),(.int .u64 0),(.int .u64 0),(.int .i64 0),(.int .i64 0),(.int .i64 0)],[(0,4),(4,1),(5,1)]) := by kernel_rfl
@[go_sem ↓] theorem xBuild_73 (ps : List (Nat × Value)) (K : Value → Prop) : xBuild Tryz.prog 73 ps.toArray K = xFill [(.int .u64 0),(.int .u64 0),(.int .u64 0),(.int .i64 0),(.int .i64 0),(.int .i64 0)] [(0,4),(4,1),(5,1)] ps fun z' => K (.agg z'.toArray) := xBuild_of bP_73 ps K
theorem bP_87 : bPl Tryz.prog 87 = some ([(.int .i64 0),(.int .u64 0)],[(0,1),(1,1)]) := by kernel_rfl
@[go_sem ↓] theorem xBuild_87 (ps : List (Nat × Value)) (K : Value → Prop) : xBuild Tryz.prog 87 ps.toArray K = xFill [(.int .i64 0),(.int .u64 0)] [(0,1),(1,1)] ps fun z' => K (.agg z'.toArray) := xBuild_of bP_87 ps K
theorem bP_93 : bPl Tryz.prog 93 = some ([(.slice none 0 0)],[(0,1)]) := by kernel_rfl
@[go_sem ↓] theorem xBuild_93 (ps : List (Nat × Value)) (K : Value → Prop) : xBuild Tryz.prog 93 ps.toArray K = xFill [(.slice none 0 0)] [(0,1)] ps fun z' => K (.agg z'.toArray) := xBuild_of bP_93 ps K
theorem bP_99 : bPl Tryz.prog 99 = some ([(.int .u64 0),(.int .u64 0),(.int .u64 0),(.int .i64 0)],[(0,1),(1,1),(2,1),(3,1)]) := by kernel_rfl
@[go_sem ↓] theorem xBuild_99 (ps : List (Nat × Value)) (K : Value → Prop) : xBuild Tryz.prog 99 ps.toArray K = xFill [(.int .u64 0),(.int .u64 0),(.int .u64 0),(.int .i64 0)] [(0,1),(1,1),(2,1),(3,1)] ps fun z' => K (.agg z'.toArray) := xBuild_of bP_99 ps K
theorem bP_101 : bPl Tryz.prog 101 = some ([(.int .u64 0),(.int .u64 0),(.int .u64 0),(.int .i64 0),(.int .i64 0),(.int .i64 0)],[(0,4),(4,1),(5,1)]) := by kernel_rfl
@[go_sem ↓] theorem xBuild_101 (ps : List (Nat × Value)) (K : Value → Prop) : xBuild Tryz.prog 101 ps.toArray K = xFill [(.int .u64 0),(.int .u64 0),(.int .u64 0),(.int .i64 0),(.int .i64 0),(.int .i64 0)] [(0,4),(4,1),(5,1)] ps fun z' => K (.agg z'.toArray) := xBuild_of bP_101 ps K
theorem bP_115 : bPl Tryz.prog 115 = some ([(.int .u64 0),(.int .u64 0),(.int .u64 0),(.int .u64 0),(.int .u64 0),(.int .u64 0),(.int .u64 0),(.int .u64 0),(.int .u64 0),(.int .u64 0),(.int .u64 0),(.int .u64 0),(.int .u64 0),(.int .u64 0),(.int .i64 0),(.int .i64 0),(.int .i64 0),(.int .i64 0),(.int .i64 0),(.int .i64 0),(.int .i64 0),(.int .i64 0),(.int .i64 0),(.int .i64 0),(.int .u64 0),(.int .u64 0),(.int .u64 0),(.int .u64 0),(.int .u64 0),(.int .i64 0),(.int .i64 0),(.bool false),(.slice none 0 0),(.slice none 0 0),(.slice none 0 0),(.slice none 0 0),(.slice none 0 0),(.slice none 0 0),(.slice none 0 0),(.slice none 0 0),(.slice none 0 0)],[(0,41)]) := by kernel_rfl
@[go_sem ↓] theorem xBuild_115 (ps : List (Nat × Value)) (K : Value → Prop) : xBuild Tryz.prog 115 ps.toArray K = xFill [(.int .u64 0),(.int .u64 0),(.int .u64 0),(.int .u64 0),(.int .u64 0),(.int .u64 0),(.int .u64 0),(.int .u64 0),(.int .u64 0),(.int .u64 0),(.int .u64 0),(.int .u64 0),(.int .u64 0),(.int .u64 0),(.int .i64 0),(.int .i64 0),(.int .i64 0),(.int .i64 0),(.int .i64 0),(.int .i64 0),(.int .i64 0),(.int .i64 0),(.int .i64 0),(.int .i64 0),(.int .u64 0),(.int .u64 0),(.int .u64 0),(.int .u64 0),(.int .u64 0),(.int .i64 0),(.int .i64 0),(.bool false),(.slice none 0 0),(.slice none 0 0),(.slice none 0 0),(.slice none 0 0),(.slice none 0 0),(.slice none 0 0),(.slice none 0 0),(.slice none 0 0),(.slice none 0 0)] [(0,41)] ps fun z' => K (.agg z'.toArray) := xBuild_of bP_115 ps K
theorem bP_123 : bPl Tryz.prog 123 = some ([(.int .i64 0),(.int .i64 0),(.int .u64 0)],[(0,1),(1,1),(2,1)]) := by kernel_rfl
@[go_sem ↓] theorem xBuild_123 (ps : List (Nat × Value)) (K : Value → Prop) : xBuild Tryz.prog 123 ps.toArray K = xFill [(.int .i64 0),(.int .i64 0),(.int .u64 0)] [(0,1),(1,1),(2,1)] ps fun z' => K (.agg z'.toArray) := xBuild_of bP_123 ps K
theorem bP_129 : bPl Tryz.prog 129 = some ([(.int .u64 0),(.int .u64 0),(.int .u64 0),(.int .u64 0),(.int .u64 0),(.int .u64 0),(.int .u64 0),(.int .u64 0),(.int .u64 0),(.int .u64 0),(.int .u64 0),(.int .u64 0),(.int .u64 0),(.int .u64 0),(.int .i64 0),(.int .i64 0),(.int .i64 0),(.int .i64 0),(.int .i64 0),(.int .i64 0),(.int .i64 0),(.int .i64 0),(.int .i64 0),(.int .i64 0),(.int .u64 0),(.int .u64 0),(.int .u64 0),(.int .u64 0),(.int .u64 0),(.int .i64 0),(.int .i64 0),(.bool false),(.slice none 0 0),(.slice none 0 0),(.slice none 0 0),(.slice none 0 0),(.slice none 0 0),(.slice none 0 0),(.slice none 0 0),(.slice none 0 0),(.slice none 0 0),(.int .i64 0),(.int .i64 0),(.bool false),(.int .u64 0),(.int .u64 0),(.int .u64 0),(.int .u64 0),(.int .u64 0),(.int .u64 0),(.int .u64 0),(.slice none 0 0),(.slice none 0 0),(.slice none 0 0),(.slice none 0 0),(.int .i64 0)],[(0,41),(41,14),(55,1)]) := by kernel_rfl
@[go_sem ↓] theorem xBuild_129 (ps : List (Nat × Value)) (K : Value → Prop) : xBuild Tryz.prog 129 ps.toArray K = xFill [(.int .u64 0),(.int .u64 0),(.int .u64 0),(.int .u64 0),(.int .u64 0),(.int .u64 0),(.int .u64 0),(.int .u64 0),(.int .u64 0),(.int .u64 0),(.int .u64 0),(.int .u64 0),(.int .u64 0),(.int .u64 0),(.int .i64 0),(.int .i64 0),(.int .i64 0),(.int .i64 0),(.int .i64 0),(.int .i64 0),(.int .i64 0),(.int .i64 0),(.int .i64 0),(.int .i64 0),(.int .u64 0),(.int .u64 0),(.int .u64 0),(.int .u64 0),(.int .u64 0),(.int .i64 0),(.int .i64 0),(.bool false),(.slice none 0 0),(.slice none 0 0),(.slice none 0 0),(.slice none 0 0),(.slice none 0 0),(.slice none 0 0),(.slice none 0 0),(.slice none 0 0),(.slice none 0 0),(.int .i64 0),(.int .i64 0),(.bool false),(.int .u64 0),(.int .u64 0),(.int .u64 0),(.int .u64 0),(.int .u64 0),(.int .u64 0),(.int .u64 0),(.slice none 0 0),(.slice none 0 0),(.slice none 0 0),(.slice none 0 0),(.int .i64 0)] [(0,41),(41,14),(55,1)] ps fun z' => K (.agg z'.toArray) := xBuild_of bP_129 ps K
theorem bP_142 : bPl Tryz.prog 142 = some ([(.int .i64 0),(.int .i64 0),(.int .u64 0),(.int .u64 0),(.int .u64 0),(.int .u64 0),(.int .u64 0),(.int .u64 0),(.int .u64 0),(.int .u64 0),(.int .u64 0),(.int .u64 0),(.int .u64 0),(.int .u64 0),(.int .u64 0),(.int .u64 0),(.int .i64 0),(.int .i64 0),(.int .i64 0),(.int .i64 0),(.int .i64 0),(.int .i64 0),(.int .i64 0),(.int .i64 0),(.int .i64 0),(.int .i64 0),(.int .i64 0),(.int .u64 0),(.int .i64 0),(.int .i64 0),(.int .i64 0),(.slice none 0 0),(.slice none 0 0)],[(0,1),(1,1),(2,24),(26,1),(27,1),(28,1),(29,1),(30,1),(31,1),(32,1)]) := by kernel_rfl
@[go_sem ↓] theorem xBuild_142 (ps : List (Nat × Value)) (K : Value → Prop) : xBuild Tryz.prog 142 ps.toArray K = xFill [(.int .i64 0),(.int .i64 0),(.int .u64 0),(.int .u64 0),(.int .u64 0),(.int .u64 0),(.int .u64 0),(.int .u64 0),(.int .u64 0),(.int .u64 0),(.int .u64 0),(.int .u64 0),(.int .u64 0),(.int .u64 0),(.int .u64 0),(.int .u64 0),(.int .i64 0),(.int .i64 0),(.int .i64 0),(.int .i64 0),(.int .i64 0),(.int .i64 0),(.int .i64 0),(.int .i64 0),(.int .i64 0),(.int .i64 0),(.int .i64 0),(.int .u64 0),(.int .i64 0),(.int .i64 0),(.int .i64 0),(.slice none 0 0),(.slice none 0 0)] [(0,1),(1,1),(2,24),(26,1),(27,1),(28,1),(29,1),(30,1),(31,1),(32,1)] ps fun z' => K (.agg z'.toArray) := xBuild_of bP_142 ps K
theorem bP_148 : bPl Tryz.prog 148 = some ([(.int .u64 0),(.int .u64 0),(.int .u64 0),(.int .u64 0),(.int .u64 0)],[(0,1),(1,1),(2,1),(3,1),(4,1)]) := by kernel_rfl
@[go_sem ↓] theorem xBuild_148 (ps : List (Nat × Value)) (K : Value → Prop) : xBuild Tryz.prog 148 ps.toArray K = xFill [(.int .u64 0),(.int .u64 0),(.int .u64 0),(.int .u64 0),(.int .u64 0)] [(0,1),(1,1),(2,1),(3,1),(4,1)] ps fun z' => K (.agg z'.toArray) := xBuild_of bP_148 ps K
theorem bP_155 : bPl Tryz.prog 155 = some ([(.int .u64 0),(.int .u64 0),(.int .u64 0),(.int .u64 0),(.int .u64 0),(.int .u64 0),(.int .u64 0),(.int .u64 0),(.int .u64 0),(.int .u64 0),(.int .u64 0),(.int .u64 0),(.int .u64 0),(.int .u64 0),(.int .i64 0),(.int .i64 0),(.int .i64 0),(.int .i64 0),(.int .i64 0),(.int .i64 0),(.int .i64 0),(.int .i64 0),(.int .i64 0),(.int .i64 0)],[(0,24)]) := by kernel_rfl
@[go_sem ↓] theorem xBuild_155 (ps : List (Nat × Value)) (K : Value → Prop) : xBuild Tryz.prog 155 ps.toArray K = xFill [(.int .u64 0),(.int .u64 0),(.int .u64 0),(.int .u64 0),(.int .u64 0),(.int .u64 0),(.int .u64 0),(.int .u64 0),(.int .u64 0),(.int .u64 0),(.int .u64 0),(.int .u64 0),(.int .u64 0),(.int .u64 0),(.int .i64 0),(.int .i64 0),(.int .i64 0),(.int .i64 0),(.int .i64 0),(.int .i64 0),(.int .i64 0),(.int .i64 0),(.int .i64 0),(.int .i64 0)] [(0,24)] ps fun z' => K (.agg z'.toArray) := xBuild_of bP_155 ps K
theorem bP_262 : bPl Tryz.prog 262 = some ([(.int .u64 0),(.int .u64 0),(.int .u64 0),(.int .i64 0),(.int .i64 0),(.int .i64 0)],[(0,6)]) := by kernel_rfl
@[go_sem ↓] theorem xBuild_262 (ps : List (Nat × Value)) (K : Value → Prop) : xBuild Tryz.prog 262 ps.toArray K = xFill [(.int .u64 0),(.int .u64 0),(.int .u64 0),(.int .i64 0),(.int .i64 0),(.int .i64 0)] [(0,6)] ps fun z' => K (.agg z'.toArray) := xBuild_of bP_262 ps K
theorem bP_269 : bPl Tryz.prog 269 = some ([(.int .u64 0),(.int .u64 0),(.int .u64 0),(.int .i64 0),(.int .u64 0),(.int .u64 0),(.int .u64 0),(.int .u64 0),(.int .u64 0),(.int .u64 0),(.int .u64 0),(.int .u64 0),(.int .u64 0),(.int .u64 0),(.int .u64 0),(.int .u64 0),(.int .u64 0),(.int .u64 0),(.int .i64 0),(.int .i64 0),(.int .i64 0),(.int .i64 0),(.int .i64 0),(.int .i64 0),(.int .i64 0),(.int .i64 0),(.int .i64 0),(.int .i64 0)],[(0,4),(4,24)]) := by kernel_rfl
@[go_sem ↓] theorem xBuild_269 (ps : List (Nat × Value)) (K : Value → Prop) : xBuild Tryz.prog 269 ps.toArray K = xFill [(.int .u64 0),(.int .u64 0),(.int .u64 0),(.int .i64 0),(.int .u64 0),(.int .u64 0),(.int .u64 0),(.int .u64 0),(.int .u64 0),(.int .u64 0),(.int .u64 0),(.int .u64 0),(.int .u64 0),(.int .u64 0),(.int .u64 0),(.int .u64 0),(.int .u64 0),(.int .u64 0),(.int .i64 0),(.int .i64 0),(.int .i64 0),(.int .i64 0),(.int .i64 0),(.int .i64 0),(.int .i64 0),(.int .i64 0),(.int .i64 0),(.int .i64 0)] [(0,4),(4,24)] ps fun z' => K (.agg z'.toArray) := xBuild_of bP_269 ps K
theorem bP_289 : bPl Tryz.prog 289 = some ([(.int .u64 0),(.int .u64 0),(.int .u64 0)],[(0,1),(1,1),(2,1)]) := by kernel_rfl
@[go_sem ↓] theorem xBuild_289 (ps : List (Nat × Value)) (K : Value → Prop) : xBuild Tryz.prog 289 ps.toArray K = xFill [(.int .u64 0),(.int .u64 0),(.int .u64 0)] [(0,1),(1,1),(2,1)] ps fun z' => K (.agg z'.toArray) := xBuild_of bP_289 ps K
theorem bP_316 : bPl Tryz.prog 316 = some ([(.int .u64 0),(.int .u64 0)],[(0,1),(1,1)]) := by kernel_rfl
@[go_sem ↓] theorem xBuild_316 (ps : List (Nat × Value)) (K : Value → Prop) : xBuild Tryz.prog 316 ps.toArray K = xFill [(.int .u64 0),(.int .u64 0)] [(0,1),(1,1)] ps fun z' => K (.agg z'.toArray) := xBuild_of bP_316 ps K
theorem bP_327 : bPl Tryz.prog 327 = some ([(.int .u64 0),(.int .u64 0),(.int .u64 0),(.int .i64 0),(.int .u64 0),(.int .u64 0),(.int .u64 0),(.int .u64 0),(.int .u64 0),(.int .u64 0),(.int .u64 0),(.int .u64 0),(.int .u64 0),(.int .u64 0),(.int .u64 0),(.int .u64 0),(.int .u64 0),(.int .u64 0),(.int .i64 0),(.int .i64 0),(.int .i64 0),(.int .i64 0),(.int .i64 0),(.int .i64 0),(.int .i64 0),(.int .i64 0),(.int .i64 0),(.int .i64 0),(.int .i64 0)],[(0,4),(4,24),(28,1)]) := by kernel_rfl
@[go_sem ↓] theorem xBuild_327 (ps : List (Nat × Value)) (K : Value → Prop) : xBuild Tryz.prog 327 ps.toArray K = xFill [(.int .u64 0),(.int .u64 0),(.int .u64 0),(.int .i64 0),(.int .u64 0),(.int .u64 0),(.int .u64 0),(.int .u64 0),(.int .u64 0),(.int .u64 0),(.int .u64 0),(.int .u64 0),(.int .u64 0),(.int .u64 0),(.int .u64 0),(.int .u64 0),(.int .u64 0),(.int .u64 0),(.int .i64 0),(.int .i64 0),(.int .i64 0),(.int .i64 0),(.int .i64 0),(.int .i64 0),(.int .i64 0),(.int .i64 0),(.int .i64 0),(.int .i64 0),(.int .i64 0)] [(0,4),(4,24),(28,1)] ps fun z' => K (.agg z'.toArray) := xBuild_of bP_327 ps K
theorem bP_334 : bPl Tryz.prog 334 = some ([(.slice none 0 0)],[(0,1)]) := by kernel_rfl
@[go_sem ↓] theorem xBuild_334 (ps : List (Nat × Value)) (K : Value → Prop) : xBuild Tryz.prog 334 ps.toArray K = xFill [(.slice none 0 0)] [(0,1)] ps fun z' => K (.agg z'.toArray) := xBuild_of bP_334 ps K
theorem bP_358 : bPl Tryz.prog 358 = some ([(.int .u64 0),(.int .u64 0),(.int .u64 0)],[(0,2),(2,1)]) := by kernel_rfl
@[go_sem ↓] theorem xBuild_358 (ps : List (Nat × Value)) (K : Value → Prop) : xBuild Tryz.prog 358 ps.toArray K = xFill [(.int .u64 0),(.int .u64 0),(.int .u64 0)] [(0,2),(2,1)] ps fun z' => K (.agg z'.toArray) := xBuild_of bP_358 ps K
theorem bS_25_0 : bSl Tryz.prog 25 0 = some (22,[],[]) := by kernel_rfl
@[go_sem ↓] theorem xBS_25_0 (ps : List (Nat × Value)) (K : TypeId → List Value → Prop) : xBS Tryz.prog 25 0 ps.toArray K = xFill [] [] ps fun cs => K 22 cs := xBS_of bS_25_0 ps K
theorem bS_25_1 : bSl Tryz.prog 25 1 = some (22,[(.int .u64 0)],[(0,1)]) := by kernel_rfl
@[go_sem ↓] theorem xBS_25_1 (ps : List (Nat × Value)) (K : TypeId → List Value → Prop) : xBS Tryz.prog 25 1 ps.toArray K = xFill [(.int .u64 0)] [(0,1)] ps fun cs => K 22 cs := xBS_of bS_25_1 ps K
theorem bS_25_2 : bSl Tryz.prog 25 2 = some (22,[(.int .u64 0),(.int .u64 0)],[(0,1),(1,1)]) := by kernel_rfl
@[go_sem ↓] theorem xBS_25_2 (ps : List (Nat × Value)) (K : TypeId → List Value → Prop) : xBS Tryz.prog 25 2 ps.toArray K = xFill [(.int .u64 0),(.int .u64 0)] [(0,1),(1,1)] ps fun cs => K 22 cs := xBS_of bS_25_2 ps K
theorem bS_25_3 : bSl Tryz.prog 25 3 = some (22,[(.int .u64 0),(.int .u64 0),(.int .u64 0)],[(0,1),(1,1),(2,1)]) := by kernel_rfl
@[go_sem ↓] theorem xBS_25_3 (ps : List (Nat × Value)) (K : TypeId → List Value → Prop) : xBS Tryz.prog 25 3 ps.toArray K = xFill [(.int .u64 0),(.int .u64 0),(.int .u64 0)] [(0,1),(1,1),(2,1)] ps fun cs => K 22 cs := xBS_of bS_25_3 ps K
theorem bS_25_5 : bSl Tryz.prog 25 5 = some (22,[(.int .u64 0),(.int .u64 0),(.int .u64 0),(.int .u64 0),(.int .u64 0)],[(0,1),(1,1),(2,1),(3,1),(4,1)]) := by kernel_rfl
@[go_sem ↓] theorem xBS_25_5 (ps : List (Nat × Value)) (K : TypeId → List Value → Prop) : xBS Tryz.prog 25 5 ps.toArray K = xFill [(.int .u64 0),(.int .u64 0),(.int .u64 0),(.int .u64 0),(.int .u64 0)] [(0,1),(1,1),(2,1),(3,1),(4,1)] ps fun cs => K 22 cs := xBS_of bS_25_5 ps K
theorem bS_26_2 : bSl Tryz.prog 26 2 = some (87,[(.int .i64 0),(.int .u64 0),(.int .i64 0),(.int .u64 0)],[(0,2),(2,2)]) := by kernel_rfl
@[go_sem ↓] theorem xBS_26_2 (ps : List (Nat × Value)) (K : TypeId → List Value → Prop) : xBS Tryz.prog 26 2 ps.toArray K = xFill [(.int .i64 0),(.int .u64 0),(.int .i64 0),(.int .u64 0)] [(0,2),(2,2)] ps fun cs => K 87 cs := xBS_of bS_26_2 ps K
theorem bS_31_0 : bSl Tryz.prog 31 0 = some (73,[],[]) := by kernel_rfl
@[go_sem ↓] theorem xBS_31_0 (ps : List (Nat × Value)) (K : TypeId → List Value → Prop) : xBS Tryz.prog 31 0 ps.toArray K = xFill [] [] ps fun cs => K 73 cs := xBS_of bS_31_0 ps K
theorem bS_31_1 : bSl Tryz.prog 31 1 = some (73,[(.int .u64 0),(.int .u64 0),(.int .u64 0),(.int .i64 0),(.int .i64 0),(.int .i64 0)],[(0,6)]) := by kernel_rfl
@[go_sem ↓] theorem xBS_31_1 (ps : List (Nat × Value)) (K : TypeId → List Value → Prop) : xBS Tryz.prog 31 1 ps.toArray K = xFill [(.int .u64 0),(.int .u64 0),(.int .u64 0),(.int .i64 0),(.int .i64 0),(.int .i64 0)] [(0,6)] ps fun cs => K 73 cs := xBS_of bS_31_1 ps K
theorem bS_32_0 : bSl Tryz.prog 32 0 = some (3,[],[]) := by kernel_rfl
@[go_sem ↓] theorem xBS_32_0 (ps : List (Nat × Value)) (K : TypeId → List Value → Prop) : xBS Tryz.prog 32 0 ps.toArray K = xFill [] [] ps fun cs => K 3 cs := xBS_of bS_32_0 ps K
theorem bS_32_1 : bSl Tryz.prog 32 1 = some (3,[(.int .i64 0)],[(0,1)]) := by kernel_rfl
@[go_sem ↓] theorem xBS_32_1 (ps : List (Nat × Value)) (K : TypeId → List Value → Prop) : xBS Tryz.prog 32 1 ps.toArray K = xFill [(.int .i64 0)] [(0,1)] ps fun cs => K 3 cs := xBS_of bS_32_1 ps K
theorem bS_33_0 : bSl Tryz.prog 33 0 = some (120,[],[]) := by kernel_rfl
@[go_sem ↓] theorem xBS_33_0 (ps : List (Nat × Value)) (K : TypeId → List Value → Prop) : xBS Tryz.prog 33 0 ps.toArray K = xFill [] [] ps fun cs => K 120 cs := xBS_of bS_33_0 ps K
theorem bS_33_1 : bSl Tryz.prog 33 1 = some (120,[(.int .i64 0),(.int .i64 0),(.int .u64 0),(.bool false)],[(0,4)]) := by kernel_rfl
@[go_sem ↓] theorem xBS_33_1 (ps : List (Nat × Value)) (K : TypeId → List Value → Prop) : xBS Tryz.prog 33 1 ps.toArray K = xFill [(.int .i64 0),(.int .i64 0),(.int .u64 0),(.bool false)] [(0,4)] ps fun cs => K 120 cs := xBS_of bS_33_1 ps K
theorem bS_34_0 : bSl Tryz.prog 34 0 = some (123,[],[]) := by kernel_rfl
@[go_sem ↓] theorem xBS_34_0 (ps : List (Nat × Value)) (K : TypeId → List Value → Prop) : xBS Tryz.prog 34 0 ps.toArray K = xFill [] [] ps fun cs => K 123 cs := xBS_of bS_34_0 ps K
theorem bS_34_1 : bSl Tryz.prog 34 1 = some (123,[(.int .i64 0),(.int .i64 0),(.int .u64 0)],[(0,3)]) := by kernel_rfl
@[go_sem ↓] theorem xBS_34_1 (ps : List (Nat × Value)) (K : TypeId → List Value → Prop) : xBS Tryz.prog 34 1 ps.toArray K = xFill [(.int .i64 0),(.int .i64 0),(.int .u64 0)] [(0,3)] ps fun cs => K 123 cs := xBS_of bS_34_1 ps K
theorem bS_35_0 : bSl Tryz.prog 35 0 = some (75,[],[]) := by kernel_rfl
@[go_sem ↓] theorem xBS_35_0 (ps : List (Nat × Value)) (K : TypeId → List Value → Prop) : xBS Tryz.prog 35 0 ps.toArray K = xFill [] [] ps fun cs => K 75 cs := xBS_of bS_35_0 ps K
theorem bS_36_0 : bSl Tryz.prog 36 0 = some (5,[],[]) := by kernel_rfl
@[go_sem ↓] theorem xBS_36_0 (ps : List (Nat × Value)) (K : TypeId → List Value → Prop) : xBS Tryz.prog 36 0 ps.toArray K = xFill [] [] ps fun cs => K 5 cs := xBS_of bS_36_0 ps K
theorem bS_37_0 : bSl Tryz.prog 37 0 = some (36,[],[]) := by kernel_rfl
@[go_sem ↓] theorem xBS_37_0 (ps : List (Nat × Value)) (K : TypeId → List Value → Prop) : xBS Tryz.prog 37 0 ps.toArray K = xFill [] [] ps fun cs => K 36 cs := xBS_of bS_37_0 ps K
theorem bS_37_1 : bSl Tryz.prog 37 1 = some (36,[(.slice none 0 0)],[(0,1)]) := by kernel_rfl
@[go_sem ↓] theorem xBS_37_1 (ps : List (Nat × Value)) (K : TypeId → List Value → Prop) : xBS Tryz.prog 37 1 ps.toArray K = xFill [(.slice none 0 0)] [(0,1)] ps fun cs => K 36 cs := xBS_of bS_37_1 ps K
theorem bS_44_1 : bSl Tryz.prog 44 1 = some (101,[(.int .u64 0),(.int .u64 0),(.int .u64 0),(.int .i64 0),(.int .i64 0),(.int .i64 0)],[(0,6)]) := by kernel_rfl
@[go_sem ↓] theorem xBS_44_1 (ps : List (Nat × Value)) (K : TypeId → List Value → Prop) : xBS Tryz.prog 44 1 ps.toArray K = xFill [(.int .u64 0),(.int .u64 0),(.int .u64 0),(.int .i64 0),(.int .i64 0),(.int .i64 0)] [(0,6)] ps fun cs => K 101 cs := xBS_of bS_44_1 ps K
theorem bS_45_1 : bSl Tryz.prog 45 1 = some (172,[(.int .i64 0),(.int .i64 0),(.int .u64 0),(.bool false)],[(0,4)]) := by kernel_rfl
@[go_sem ↓] theorem xBS_45_1 (ps : List (Nat × Value)) (K : TypeId → List Value → Prop) : xBS Tryz.prog 45 1 ps.toArray K = xFill [(.int .i64 0),(.int .i64 0),(.int .u64 0),(.bool false)] [(0,4)] ps fun cs => K 172 cs := xBS_of bS_45_1 ps K
theorem bS_46_1 : bSl Tryz.prog 46 1 = some (173,[(.int .i64 0),(.int .i64 0),(.int .u64 0)],[(0,3)]) := by kernel_rfl
@[go_sem ↓] theorem xBS_46_1 (ps : List (Nat × Value)) (K : TypeId → List Value → Prop) : xBS Tryz.prog 46 1 ps.toArray K = xFill [(.int .i64 0),(.int .i64 0),(.int .u64 0)] [(0,3)] ps fun cs => K 173 cs := xBS_of bS_46_1 ps K
theorem bS_47_1 : bSl Tryz.prog 47 1 = some (142,[(.int .i64 0),(.int .i64 0),(.int .u64 0),(.int .u64 0),(.int .u64 0),(.int .u64 0),(.int .u64 0),(.int .u64 0),(.int .u64 0),(.int .u64 0),(.int .u64 0),(.int .u64 0),(.int .u64 0),(.int .u64 0),(.int .u64 0),(.int .u64 0),(.int .i64 0),(.int .i64 0),(.int .i64 0),(.int .i64 0),(.int .i64 0),(.int .i64 0),(.int .i64 0),(.int .i64 0),(.int .i64 0),(.int .i64 0),(.int .i64 0),(.int .u64 0),(.int .i64 0),(.int .i64 0),(.int .i64 0),(.slice none 0 0),(.slice none 0 0)],[(0,33)]) := by kernel_rfl
@[go_sem ↓] theorem xBS_47_1 (ps : List (Nat × Value)) (K : TypeId → List Value → Prop) : xBS Tryz.prog 47 1 ps.toArray K = xFill [(.int .i64 0),(.int .i64 0),(.int .u64 0),(.int .u64 0),(.int .u64 0),(.int .u64 0),(.int .u64 0),(.int .u64 0),(.int .u64 0),(.int .u64 0),(.int .u64 0),(.int .u64 0),(.int .u64 0),(.int .u64 0),(.int .u64 0),(.int .u64 0),(.int .i64 0),(.int .i64 0),(.int .i64 0),(.int .i64 0),(.int .i64 0),(.int .i64 0),(.int .i64 0),(.int .i64 0),(.int .i64 0),(.int .i64 0),(.int .i64 0),(.int .u64 0),(.int .i64 0),(.int .i64 0),(.int .i64 0),(.slice none 0 0),(.slice none 0 0)] [(0,33)] ps fun cs => K 142 cs := xBS_of bS_47_1 ps K
theorem bS_52_1 : bSl Tryz.prog 52 1 = some (95,[(.int .i64 0),(.int .u64 0)],[(0,2)]) := by kernel_rfl
@[go_sem ↓] theorem xBS_52_1 (ps : List (Nat × Value)) (K : TypeId → List Value → Prop) : xBS Tryz.prog 52 1 ps.toArray K = xFill [(.int .i64 0),(.int .u64 0)] [(0,2)] ps fun cs => K 95 cs := xBS_of bS_52_1 ps K
theorem bS_195_1 : bSl Tryz.prog 195 1 = some (71,[(.int .u64 0),(.int .u64 0),(.int .u64 0),(.int .i64 0)],[(0,4)]) := by kernel_rfl
@[go_sem ↓] theorem xBS_195_1 (ps : List (Nat × Value)) (K : TypeId → List Value → Prop) : xBS Tryz.prog 195 1 ps.toArray K = xFill [(.int .u64 0),(.int .u64 0),(.int .u64 0),(.int .i64 0)] [(0,4)] ps fun cs => K 71 cs := xBS_of bS_195_1 ps K
theorem bS_254_2 : bSl Tryz.prog 254 2 = some (40,[(.int .i64 0),(.int .i64 0)],[(0,1),(1,1)]) := by kernel_rfl
@[go_sem ↓] theorem xBS_254_2 (ps : List (Nat × Value)) (K : TypeId → List Value → Prop) : xBS Tryz.prog 254 2 ps.toArray K = xFill [(.int .i64 0),(.int .i64 0)] [(0,1),(1,1)] ps fun cs => K 40 cs := xBS_of bS_254_2 ps K
theorem bS_254_4 : bSl Tryz.prog 254 4 = some (40,[(.int .i64 0),(.int .i64 0),(.int .i64 0),(.int .i64 0)],[(0,1),(1,1),(2,1),(3,1)]) := by kernel_rfl
@[go_sem ↓] theorem xBS_254_4 (ps : List (Nat × Value)) (K : TypeId → List Value → Prop) : xBS Tryz.prog 254 4 ps.toArray K = xFill [(.int .i64 0),(.int .i64 0),(.int .i64 0),(.int .i64 0)] [(0,1),(1,1),(2,1),(3,1)] ps fun cs => K 40 cs := xBS_of bS_254_4 ps K
theorem bS_314_6 : bSl Tryz.prog 314 6 = some (4,[(.bool false),(.bool false),(.bool false),(.bool false),(.bool false),(.bool false)],[(0,1),(1,1),(2,1),(3,1),(4,1),(5,1)]) := by kernel_rfl
@[go_sem ↓] theorem xBS_314_6 (ps : List (Nat × Value)) (K : TypeId → List Value → Prop) : xBS Tryz.prog 314 6 ps.toArray K = xFill [(.bool false),(.bool false),(.bool false),(.bool false),(.bool false),(.bool false)] [(0,1),(1,1),(2,1),(3,1),(4,1),(5,1)] ps fun cs => K 4 cs := xBS_of bS_314_6 ps K
theorem bS_314_7 : bSl Tryz.prog 314 7 = some (4,[(.bool false),(.bool false),(.bool false),(.bool false),(.bool false),(.bool false),(.bool false)],[(0,1),(1,1),(2,1),(3,1),(4,1),(5,1),(6,1)]) := by kernel_rfl
@[go_sem ↓] theorem xBS_314_7 (ps : List (Nat × Value)) (K : TypeId → List Value → Prop) : xBS Tryz.prog 314 7 ps.toArray K = xFill [(.bool false),(.bool false),(.bool false),(.bool false),(.bool false),(.bool false),(.bool false)] [(0,1),(1,1),(2,1),(3,1),(4,1),(5,1),(6,1)] ps fun cs => K 4 cs := xBS_of bS_314_7 ps K
theorem bS_314_12 : bSl Tryz.prog 314 12 = some (4,[(.bool false),(.bool false),(.bool false),(.bool false),(.bool false),(.bool false),(.bool false),(.bool false),(.bool false),(.bool false),(.bool false),(.bool false)],[(0,1),(1,1),(2,1),(3,1),(4,1),(5,1),(6,1),(7,1),(8,1),(9,1),(10,1),(11,1)]) := by kernel_rfl
@[go_sem ↓] theorem xBS_314_12 (ps : List (Nat × Value)) (K : TypeId → List Value → Prop) : xBS Tryz.prog 314 12 ps.toArray K = xFill [(.bool false),(.bool false),(.bool false),(.bool false),(.bool false),(.bool false),(.bool false),(.bool false),(.bool false),(.bool false),(.bool false),(.bool false)] [(0,1),(1,1),(2,1),(3,1),(4,1),(5,1),(6,1),(7,1),(8,1),(9,1),(10,1),(11,1)] ps fun cs => K 4 cs := xBS_of bS_314_12 ps K
theorem fO_24_0 : fOff Tryz.prog 24 0 = some 0 := by kernel_rfl
@[go_sem ↓] theorem xFO_24_0 (K : Nat → Prop) : xFO Tryz.prog 24 0 K = K 0 := xFO_of fO_24_0 K
theorem fO_24_1 : fOff Tryz.prog 24 1 = some 1 := by kernel_rfl
@[go_sem ↓] theorem xFO_24_1 (K : Nat → Prop) : xFO Tryz.prog 24 1 K = K 1 := xFO_of fO_24_1 K
theorem fO_24_2 : fOff Tryz.prog 24 2 = some 2 := by kernel_rfl
@[go_sem ↓] theorem xFO_24_2 (K : Nat → Prop) : xFO Tryz.prog 24 2 K = K 2 := xFO_of fO_24_2 K
theorem fO_24_3 : fOff Tryz.prog 24 3 = some 3 := by kernel_rfl
@[go_sem ↓] theorem xFO_24_3 (K : Nat → Prop) : xFO Tryz.prog 24 3 K = K 3 := xFO_of fO_24_3 K
theorem fO_24_4 : fOff Tryz.prog 24 4 = some 4 := by kernel_rfl
@[go_sem ↓] theorem xFO_24_4 (K : Nat → Prop) : xFO Tryz.prog 24 4 K = K 4 := xFO_of fO_24_4 K
theorem fO_24_5 : fOff Tryz.prog 24 5 = some 5 := by kernel_rfl
@[go_sem ↓] theorem xFO_24_5 (K : Nat → Prop) : xFO Tryz.prog 24 5 K = K 5 := xFO_of fO_24_5 K
theorem fO_24_6 : fOff Tryz.prog 24 6 = some 6 := by kernel_rfl
@[go_sem ↓] theorem xFO_24_6 (K : Nat → Prop) : xFO Tryz.prog 24 6 K = K 6 := xFO_of fO_24_6 K
theorem fO_24_7 : fOff Tryz.prog 24 7 = some 7 := by kernel_rfl
@[go_sem ↓] theorem xFO_24_7 (K : Nat → Prop) : xFO Tryz.prog 24 7 K = K 7 := xFO_of fO_24_7 K
theorem fO_24_8 : fOff Tryz.prog 24 8 = some 8 := by kernel_rfl
@[go_sem ↓] theorem xFO_24_8 (K : Nat → Prop) : xFO Tryz.prog 24 8 K = K 8 := xFO_of fO_24_8 K
theorem fO_24_9 : fOff Tryz.prog 24 9 = some 9 := by kernel_rfl
@[go_sem ↓] theorem xFO_24_9 (K : Nat → Prop) : xFO Tryz.prog 24 9 K = K 9 := xFO_of fO_24_9 K
theorem fO_24_10 : fOff Tryz.prog 24 10 = some 10 := by kernel_rfl
@[go_sem ↓] theorem xFO_24_10 (K : Nat → Prop) : xFO Tryz.prog 24 10 K = K 10 := xFO_of fO_24_10 K
theorem fO_24_11 : fOff Tryz.prog 24 11 = some 11 := by kernel_rfl
@[go_sem ↓] theorem xFO_24_11 (K : Nat → Prop) : xFO Tryz.prog 24 11 K = K 11 := xFO_of fO_24_11 K
theorem fO_24_12 : fOff Tryz.prog 24 12 = some 12 := by kernel_rfl
@[go_sem ↓] theorem xFO_24_12 (K : Nat → Prop) : xFO Tryz.prog 24 12 K = K 12 := xFO_of fO_24_12 K
theorem fO_24_13 : fOff Tryz.prog 24 13 = some 13 := by kernel_rfl
@[go_sem ↓] theorem xFO_24_13 (K : Nat → Prop) : xFO Tryz.prog 24 13 K = K 13 := xFO_of fO_24_13 K
theorem fO_24_14 : fOff Tryz.prog 24 14 = some 14 := by kernel_rfl
@[go_sem ↓] theorem xFO_24_14 (K : Nat → Prop) : xFO Tryz.prog 24 14 K = K 14 := xFO_of fO_24_14 K
theorem fO_24_15 : fOff Tryz.prog 24 15 = some 15 := by kernel_rfl
@[go_sem ↓] theorem xFO_24_15 (K : Nat → Prop) : xFO Tryz.prog 24 15 K = K 15 := xFO_of fO_24_15 K
theorem fO_24_16 : fOff Tryz.prog 24 16 = some 16 := by kernel_rfl
@[go_sem ↓] theorem xFO_24_16 (K : Nat → Prop) : xFO Tryz.prog 24 16 K = K 16 := xFO_of fO_24_16 K
theorem fO_24_17 : fOff Tryz.prog 24 17 = some 17 := by kernel_rfl
@[go_sem ↓] theorem xFO_24_17 (K : Nat → Prop) : xFO Tryz.prog 24 17 K = K 17 := xFO_of fO_24_17 K
theorem fO_24_18 : fOff Tryz.prog 24 18 = some 18 := by kernel_rfl
@[go_sem ↓] theorem xFO_24_18 (K : Nat → Prop) : xFO Tryz.prog 24 18 K = K 18 := xFO_of fO_24_18 K
theorem fO_24_19 : fOff Tryz.prog 24 19 = some 19 := by kernel_rfl
@[go_sem ↓] theorem xFO_24_19 (K : Nat → Prop) : xFO Tryz.prog 24 19 K = K 19 := xFO_of fO_24_19 K
theorem fO_24_20 : fOff Tryz.prog 24 20 = some 20 := by kernel_rfl
@[go_sem ↓] theorem xFO_24_20 (K : Nat → Prop) : xFO Tryz.prog 24 20 K = K 20 := xFO_of fO_24_20 K
theorem fO_24_21 : fOff Tryz.prog 24 21 = some 21 := by kernel_rfl
@[go_sem ↓] theorem xFO_24_21 (K : Nat → Prop) : xFO Tryz.prog 24 21 K = K 21 := xFO_of fO_24_21 K
theorem fO_24_22 : fOff Tryz.prog 24 22 = some 22 := by kernel_rfl
@[go_sem ↓] theorem xFO_24_22 (K : Nat → Prop) : xFO Tryz.prog 24 22 K = K 22 := xFO_of fO_24_22 K
theorem fO_24_23 : fOff Tryz.prog 24 23 = some 23 := by kernel_rfl
@[go_sem ↓] theorem xFO_24_23 (K : Nat → Prop) : xFO Tryz.prog 24 23 K = K 23 := xFO_of fO_24_23 K
theorem fO_28_0 : fOff Tryz.prog 28 0 = some 0 := by kernel_rfl
@[go_sem ↓] theorem xFO_28_0 (K : Nat → Prop) : xFO Tryz.prog 28 0 K = K 0 := xFO_of fO_28_0 K
theorem fO_28_1 : fOff Tryz.prog 28 1 = some 24 := by kernel_rfl
@[go_sem ↓] theorem xFO_28_1 (K : Nat → Prop) : xFO Tryz.prog 28 1 K = K 24 := xFO_of fO_28_1 K
theorem fO_28_2 : fOff Tryz.prog 28 2 = some 25 := by kernel_rfl
@[go_sem ↓] theorem xFO_28_2 (K : Nat → Prop) : xFO Tryz.prog 28 2 K = K 25 := xFO_of fO_28_2 K
theorem fO_28_3 : fOff Tryz.prog 28 3 = some 26 := by kernel_rfl
@[go_sem ↓] theorem xFO_28_3 (K : Nat → Prop) : xFO Tryz.prog 28 3 K = K 26 := xFO_of fO_28_3 K
theorem fO_39_0 : fOff Tryz.prog 39 0 = some 0 := by kernel_rfl
@[go_sem ↓] theorem xFO_39_0 (K : Nat → Prop) : xFO Tryz.prog 39 0 K = K 0 := xFO_of fO_39_0 K
theorem fO_39_1 : fOff Tryz.prog 39 1 = some 24 := by kernel_rfl
@[go_sem ↓] theorem xFO_39_1 (K : Nat → Prop) : xFO Tryz.prog 39 1 K = K 24 := xFO_of fO_39_1 K
theorem fO_39_2 : fOff Tryz.prog 39 2 = some 25 := by kernel_rfl
@[go_sem ↓] theorem xFO_39_2 (K : Nat → Prop) : xFO Tryz.prog 39 2 K = K 25 := xFO_of fO_39_2 K
theorem fO_39_3 : fOff Tryz.prog 39 3 = some 26 := by kernel_rfl
@[go_sem ↓] theorem xFO_39_3 (K : Nat → Prop) : xFO Tryz.prog 39 3 K = K 26 := xFO_of fO_39_3 K
theorem fO_39_4 : fOff Tryz.prog 39 4 = some 27 := by kernel_rfl
@[go_sem ↓] theorem xFO_39_4 (K : Nat → Prop) : xFO Tryz.prog 39 4 K = K 27 := xFO_of fO_39_4 K
theorem fO_39_5 : fOff Tryz.prog 39 5 = some 28 := by kernel_rfl
@[go_sem ↓] theorem xFO_39_5 (K : Nat → Prop) : xFO Tryz.prog 39 5 K = K 28 := xFO_of fO_39_5 K
theorem fO_39_6 : fOff Tryz.prog 39 6 = some 29 := by kernel_rfl
@[go_sem ↓] theorem xFO_39_6 (K : Nat → Prop) : xFO Tryz.prog 39 6 K = K 29 := xFO_of fO_39_6 K
theorem fO_39_7 : fOff Tryz.prog 39 7 = some 30 := by kernel_rfl
@[go_sem ↓] theorem xFO_39_7 (K : Nat → Prop) : xFO Tryz.prog 39 7 K = K 30 := xFO_of fO_39_7 K
theorem fO_39_8 : fOff Tryz.prog 39 8 = some 31 := by kernel_rfl
@[go_sem ↓] theorem xFO_39_8 (K : Nat → Prop) : xFO Tryz.prog 39 8 K = K 31 := xFO_of fO_39_8 K
theorem fO_39_9 : fOff Tryz.prog 39 9 = some 32 := by kernel_rfl
@[go_sem ↓] theorem xFO_39_9 (K : Nat → Prop) : xFO Tryz.prog 39 9 K = K 32 := xFO_of fO_39_9 K
theorem fO_39_10 : fOff Tryz.prog 39 10 = some 33 := by kernel_rfl
@[go_sem ↓] theorem xFO_39_10 (K : Nat → Prop) : xFO Tryz.prog 39 10 K = K 33 := xFO_of fO_39_10 K
theorem fO_39_11 : fOff Tryz.prog 39 11 = some 34 := by kernel_rfl
@[go_sem ↓] theorem xFO_39_11 (K : Nat → Prop) : xFO Tryz.prog 39 11 K = K 34 := xFO_of fO_39_11 K
theorem fO_39_12 : fOff Tryz.prog 39 12 = some 35 := by kernel_rfl
@[go_sem ↓] theorem xFO_39_12 (K : Nat → Prop) : xFO Tryz.prog 39 12 K = K 35 := xFO_of fO_39_12 K
theorem fO_39_13 : fOff Tryz.prog 39 13 = some 36 := by kernel_rfl
@[go_sem ↓] theorem xFO_39_13 (K : Nat → Prop) : xFO Tryz.prog 39 13 K = K 36 := xFO_of fO_39_13 K
theorem fO_39_14 : fOff Tryz.prog 39 14 = some 37 := by kernel_rfl
@[go_sem ↓] theorem xFO_39_14 (K : Nat → Prop) : xFO Tryz.prog 39 14 K = K 37 := xFO_of fO_39_14 K
theorem fO_39_15 : fOff Tryz.prog 39 15 = some 38 := by kernel_rfl
@[go_sem ↓] theorem xFO_39_15 (K : Nat → Prop) : xFO Tryz.prog 39 15 K = K 38 := xFO_of fO_39_15 K
theorem fO_39_16 : fOff Tryz.prog 39 16 = some 39 := by kernel_rfl
@[go_sem ↓] theorem xFO_39_16 (K : Nat → Prop) : xFO Tryz.prog 39 16 K = K 39 := xFO_of fO_39_16 K
theorem fO_39_17 : fOff Tryz.prog 39 17 = some 40 := by kernel_rfl
@[go_sem ↓] theorem xFO_39_17 (K : Nat → Prop) : xFO Tryz.prog 39 17 K = K 40 := xFO_of fO_39_17 K
theorem fO_43_0 : fOff Tryz.prog 43 0 = some 0 := by kernel_rfl
@[go_sem ↓] theorem xFO_43_0 (K : Nat → Prop) : xFO Tryz.prog 43 0 K = K 0 := xFO_of fO_43_0 K
theorem fO_43_1 : fOff Tryz.prog 43 1 = some 1 := by kernel_rfl
@[go_sem ↓] theorem xFO_43_1 (K : Nat → Prop) : xFO Tryz.prog 43 1 K = K 1 := xFO_of fO_43_1 K
theorem fO_43_2 : fOff Tryz.prog 43 2 = some 2 := by kernel_rfl
@[go_sem ↓] theorem xFO_43_2 (K : Nat → Prop) : xFO Tryz.prog 43 2 K = K 2 := xFO_of fO_43_2 K
theorem fO_43_3 : fOff Tryz.prog 43 3 = some 3 := by kernel_rfl
@[go_sem ↓] theorem xFO_43_3 (K : Nat → Prop) : xFO Tryz.prog 43 3 K = K 3 := xFO_of fO_43_3 K
theorem fO_43_4 : fOff Tryz.prog 43 4 = some 4 := by kernel_rfl
@[go_sem ↓] theorem xFO_43_4 (K : Nat → Prop) : xFO Tryz.prog 43 4 K = K 4 := xFO_of fO_43_4 K
theorem fO_43_5 : fOff Tryz.prog 43 5 = some 5 := by kernel_rfl
@[go_sem ↓] theorem xFO_43_5 (K : Nat → Prop) : xFO Tryz.prog 43 5 K = K 5 := xFO_of fO_43_5 K
theorem fO_43_6 : fOff Tryz.prog 43 6 = some 6 := by kernel_rfl
@[go_sem ↓] theorem xFO_43_6 (K : Nat → Prop) : xFO Tryz.prog 43 6 K = K 6 := xFO_of fO_43_6 K
theorem fO_43_7 : fOff Tryz.prog 43 7 = some 7 := by kernel_rfl
@[go_sem ↓] theorem xFO_43_7 (K : Nat → Prop) : xFO Tryz.prog 43 7 K = K 7 := xFO_of fO_43_7 K
theorem fO_43_8 : fOff Tryz.prog 43 8 = some 8 := by kernel_rfl
@[go_sem ↓] theorem xFO_43_8 (K : Nat → Prop) : xFO Tryz.prog 43 8 K = K 8 := xFO_of fO_43_8 K
theorem fO_43_9 : fOff Tryz.prog 43 9 = some 9 := by kernel_rfl
@[go_sem ↓] theorem xFO_43_9 (K : Nat → Prop) : xFO Tryz.prog 43 9 K = K 9 := xFO_of fO_43_9 K
theorem fO_43_10 : fOff Tryz.prog 43 10 = some 10 := by kernel_rfl
@[go_sem ↓] theorem xFO_43_10 (K : Nat → Prop) : xFO Tryz.prog 43 10 K = K 10 := xFO_of fO_43_10 K
theorem fO_43_11 : fOff Tryz.prog 43 11 = some 11 := by kernel_rfl
@[go_sem ↓] theorem xFO_43_11 (K : Nat → Prop) : xFO Tryz.prog 43 11 K = K 11 := xFO_of fO_43_11 K
theorem fO_43_12 : fOff Tryz.prog 43 12 = some 12 := by kernel_rfl
@[go_sem ↓] theorem xFO_43_12 (K : Nat → Prop) : xFO Tryz.prog 43 12 K = K 12 := xFO_of fO_43_12 K
theorem fO_43_13 : fOff Tryz.prog 43 13 = some 13 := by kernel_rfl
@[go_sem ↓] theorem xFO_43_13 (K : Nat → Prop) : xFO Tryz.prog 43 13 K = K 13 := xFO_of fO_43_13 K
theorem fO_43_14 : fOff Tryz.prog 43 14 = some 14 := by kernel_rfl
@[go_sem ↓] theorem xFO_43_14 (K : Nat → Prop) : xFO Tryz.prog 43 14 K = K 14 := xFO_of fO_43_14 K
theorem fO_43_15 : fOff Tryz.prog 43 15 = some 15 := by kernel_rfl
@[go_sem ↓] theorem xFO_43_15 (K : Nat → Prop) : xFO Tryz.prog 43 15 K = K 15 := xFO_of fO_43_15 K
theorem fO_43_16 : fOff Tryz.prog 43 16 = some 16 := by kernel_rfl
@[go_sem ↓] theorem xFO_43_16 (K : Nat → Prop) : xFO Tryz.prog 43 16 K = K 16 := xFO_of fO_43_16 K
theorem fO_43_17 : fOff Tryz.prog 43 17 = some 17 := by kernel_rfl
@[go_sem ↓] theorem xFO_43_17 (K : Nat → Prop) : xFO Tryz.prog 43 17 K = K 17 := xFO_of fO_43_17 K
theorem fO_43_18 : fOff Tryz.prog 43 18 = some 18 := by kernel_rfl
@[go_sem ↓] theorem xFO_43_18 (K : Nat → Prop) : xFO Tryz.prog 43 18 K = K 18 := xFO_of fO_43_18 K
theorem fO_43_19 : fOff Tryz.prog 43 19 = some 19 := by kernel_rfl
@[go_sem ↓] theorem xFO_43_19 (K : Nat → Prop) : xFO Tryz.prog 43 19 K = K 19 := xFO_of fO_43_19 K
theorem fO_43_20 : fOff Tryz.prog 43 20 = some 20 := by kernel_rfl
@[go_sem ↓] theorem xFO_43_20 (K : Nat → Prop) : xFO Tryz.prog 43 20 K = K 20 := xFO_of fO_43_20 K
theorem fO_43_21 : fOff Tryz.prog 43 21 = some 21 := by kernel_rfl
@[go_sem ↓] theorem xFO_43_21 (K : Nat → Prop) : xFO Tryz.prog 43 21 K = K 21 := xFO_of fO_43_21 K
theorem fO_43_22 : fOff Tryz.prog 43 22 = some 22 := by kernel_rfl
@[go_sem ↓] theorem xFO_43_22 (K : Nat → Prop) : xFO Tryz.prog 43 22 K = K 22 := xFO_of fO_43_22 K
theorem fO_43_23 : fOff Tryz.prog 43 23 = some 23 := by kernel_rfl
@[go_sem ↓] theorem xFO_43_23 (K : Nat → Prop) : xFO Tryz.prog 43 23 K = K 23 := xFO_of fO_43_23 K
theorem fO_49_0 : fOff Tryz.prog 49 0 = some 0 := by kernel_rfl
@[go_sem ↓] theorem xFO_49_0 (K : Nat → Prop) : xFO Tryz.prog 49 0 K = K 0 := xFO_of fO_49_0 K
theorem fO_49_1 : fOff Tryz.prog 49 1 = some 24 := by kernel_rfl
@[go_sem ↓] theorem xFO_49_1 (K : Nat → Prop) : xFO Tryz.prog 49 1 K = K 24 := xFO_of fO_49_1 K
theorem fO_49_2 : fOff Tryz.prog 49 2 = some 25 := by kernel_rfl
@[go_sem ↓] theorem xFO_49_2 (K : Nat → Prop) : xFO Tryz.prog 49 2 K = K 25 := xFO_of fO_49_2 K
theorem fO_49_3 : fOff Tryz.prog 49 3 = some 26 := by kernel_rfl
@[go_sem ↓] theorem xFO_49_3 (K : Nat → Prop) : xFO Tryz.prog 49 3 K = K 26 := xFO_of fO_49_3 K
theorem fO_49_4 : fOff Tryz.prog 49 4 = some 27 := by kernel_rfl
@[go_sem ↓] theorem xFO_49_4 (K : Nat → Prop) : xFO Tryz.prog 49 4 K = K 27 := xFO_of fO_49_4 K
theorem fO_49_5 : fOff Tryz.prog 49 5 = some 28 := by kernel_rfl
@[go_sem ↓] theorem xFO_49_5 (K : Nat → Prop) : xFO Tryz.prog 49 5 K = K 28 := xFO_of fO_49_5 K
theorem fO_49_6 : fOff Tryz.prog 49 6 = some 29 := by kernel_rfl
@[go_sem ↓] theorem xFO_49_6 (K : Nat → Prop) : xFO Tryz.prog 49 6 K = K 29 := xFO_of fO_49_6 K
theorem fO_49_7 : fOff Tryz.prog 49 7 = some 30 := by kernel_rfl
@[go_sem ↓] theorem xFO_49_7 (K : Nat → Prop) : xFO Tryz.prog 49 7 K = K 30 := xFO_of fO_49_7 K
theorem fO_49_8 : fOff Tryz.prog 49 8 = some 31 := by kernel_rfl
@[go_sem ↓] theorem xFO_49_8 (K : Nat → Prop) : xFO Tryz.prog 49 8 K = K 31 := xFO_of fO_49_8 K
theorem fO_49_9 : fOff Tryz.prog 49 9 = some 32 := by kernel_rfl
@[go_sem ↓] theorem xFO_49_9 (K : Nat → Prop) : xFO Tryz.prog 49 9 K = K 32 := xFO_of fO_49_9 K
theorem fO_49_10 : fOff Tryz.prog 49 10 = some 33 := by kernel_rfl
@[go_sem ↓] theorem xFO_49_10 (K : Nat → Prop) : xFO Tryz.prog 49 10 K = K 33 := xFO_of fO_49_10 K
theorem fO_49_11 : fOff Tryz.prog 49 11 = some 34 := by kernel_rfl
@[go_sem ↓] theorem xFO_49_11 (K : Nat → Prop) : xFO Tryz.prog 49 11 K = K 34 := xFO_of fO_49_11 K
theorem fO_49_12 : fOff Tryz.prog 49 12 = some 35 := by kernel_rfl
@[go_sem ↓] theorem xFO_49_12 (K : Nat → Prop) : xFO Tryz.prog 49 12 K = K 35 := xFO_of fO_49_12 K
theorem fO_49_13 : fOff Tryz.prog 49 13 = some 36 := by kernel_rfl
@[go_sem ↓] theorem xFO_49_13 (K : Nat → Prop) : xFO Tryz.prog 49 13 K = K 36 := xFO_of fO_49_13 K
theorem fO_49_14 : fOff Tryz.prog 49 14 = some 37 := by kernel_rfl
@[go_sem ↓] theorem xFO_49_14 (K : Nat → Prop) : xFO Tryz.prog 49 14 K = K 37 := xFO_of fO_49_14 K
theorem fO_49_15 : fOff Tryz.prog 49 15 = some 38 := by kernel_rfl
@[go_sem ↓] theorem xFO_49_15 (K : Nat → Prop) : xFO Tryz.prog 49 15 K = K 38 := xFO_of fO_49_15 K
theorem fO_49_16 : fOff Tryz.prog 49 16 = some 39 := by kernel_rfl
@[go_sem ↓] theorem xFO_49_16 (K : Nat → Prop) : xFO Tryz.prog 49 16 K = K 39 := xFO_of fO_49_16 K
theorem fO_49_17 : fOff Tryz.prog 49 17 = some 40 := by kernel_rfl
@[go_sem ↓] theorem xFO_49_17 (K : Nat → Prop) : xFO Tryz.prog 49 17 K = K 40 := xFO_of fO_49_17 K
theorem fO_54_0 : fOff Tryz.prog 54 0 = some 0 := by kernel_rfl
@[go_sem ↓] theorem xFO_54_0 (K : Nat → Prop) : xFO Tryz.prog 54 0 K = K 0 := xFO_of fO_54_0 K
theorem fO_54_1 : fOff Tryz.prog 54 1 = some 24 := by kernel_rfl
@[go_sem ↓] theorem xFO_54_1 (K : Nat → Prop) : xFO Tryz.prog 54 1 K = K 24 := xFO_of fO_54_1 K
theorem fO_54_2 : fOff Tryz.prog 54 2 = some 25 := by kernel_rfl
@[go_sem ↓] theorem xFO_54_2 (K : Nat → Prop) : xFO Tryz.prog 54 2 K = K 25 := xFO_of fO_54_2 K
theorem fO_54_3 : fOff Tryz.prog 54 3 = some 26 := by kernel_rfl
@[go_sem ↓] theorem xFO_54_3 (K : Nat → Prop) : xFO Tryz.prog 54 3 K = K 26 := xFO_of fO_54_3 K
theorem fO_61_1 : fOff Tryz.prog 61 1 = some 1 := by kernel_rfl
@[go_sem ↓] theorem xFO_61_1 (K : Nat → Prop) : xFO Tryz.prog 61 1 K = K 1 := xFO_of fO_61_1 K
theorem fO_61_2 : fOff Tryz.prog 61 2 = some 2 := by kernel_rfl
@[go_sem ↓] theorem xFO_61_2 (K : Nat → Prop) : xFO Tryz.prog 61 2 K = K 2 := xFO_of fO_61_2 K
theorem fO_61_3 : fOff Tryz.prog 61 3 = some 3 := by kernel_rfl
@[go_sem ↓] theorem xFO_61_3 (K : Nat → Prop) : xFO Tryz.prog 61 3 K = K 3 := xFO_of fO_61_3 K
theorem fO_61_4 : fOff Tryz.prog 61 4 = some 4 := by kernel_rfl
@[go_sem ↓] theorem xFO_61_4 (K : Nat → Prop) : xFO Tryz.prog 61 4 K = K 4 := xFO_of fO_61_4 K
theorem fO_61_5 : fOff Tryz.prog 61 5 = some 5 := by kernel_rfl
@[go_sem ↓] theorem xFO_61_5 (K : Nat → Prop) : xFO Tryz.prog 61 5 K = K 5 := xFO_of fO_61_5 K
theorem fO_61_6 : fOff Tryz.prog 61 6 = some 6 := by kernel_rfl
@[go_sem ↓] theorem xFO_61_6 (K : Nat → Prop) : xFO Tryz.prog 61 6 K = K 6 := xFO_of fO_61_6 K
theorem fO_61_7 : fOff Tryz.prog 61 7 = some 7 := by kernel_rfl
@[go_sem ↓] theorem xFO_61_7 (K : Nat → Prop) : xFO Tryz.prog 61 7 K = K 7 := xFO_of fO_61_7 K
theorem fO_61_8 : fOff Tryz.prog 61 8 = some 8 := by kernel_rfl
@[go_sem ↓] theorem xFO_61_8 (K : Nat → Prop) : xFO Tryz.prog 61 8 K = K 8 := xFO_of fO_61_8 K
theorem fO_61_9 : fOff Tryz.prog 61 9 = some 9 := by kernel_rfl
@[go_sem ↓] theorem xFO_61_9 (K : Nat → Prop) : xFO Tryz.prog 61 9 K = K 9 := xFO_of fO_61_9 K
theorem fO_61_10 : fOff Tryz.prog 61 10 = some 10 := by kernel_rfl
@[go_sem ↓] theorem xFO_61_10 (K : Nat → Prop) : xFO Tryz.prog 61 10 K = K 10 := xFO_of fO_61_10 K
theorem fO_61_11 : fOff Tryz.prog 61 11 = some 11 := by kernel_rfl
@[go_sem ↓] theorem xFO_61_11 (K : Nat → Prop) : xFO Tryz.prog 61 11 K = K 11 := xFO_of fO_61_11 K
theorem fO_61_12 : fOff Tryz.prog 61 12 = some 12 := by kernel_rfl
@[go_sem ↓] theorem xFO_61_12 (K : Nat → Prop) : xFO Tryz.prog 61 12 K = K 12 := xFO_of fO_61_12 K
theorem fO_61_13 : fOff Tryz.prog 61 13 = some 13 := by kernel_rfl
@[go_sem ↓] theorem xFO_61_13 (K : Nat → Prop) : xFO Tryz.prog 61 13 K = K 13 := xFO_of fO_61_13 K
theorem fO_71_0 : fOff Tryz.prog 71 0 = some 0 := by kernel_rfl
@[go_sem ↓] theorem xFO_71_0 (K : Nat → Prop) : xFO Tryz.prog 71 0 K = K 0 := xFO_of fO_71_0 K
theorem fO_71_1 : fOff Tryz.prog 71 1 = some 1 := by kernel_rfl
@[go_sem ↓] theorem xFO_71_1 (K : Nat → Prop) : xFO Tryz.prog 71 1 K = K 1 := xFO_of fO_71_1 K
theorem fO_71_2 : fOff Tryz.prog 71 2 = some 2 := by kernel_rfl
@[go_sem ↓] theorem xFO_71_2 (K : Nat → Prop) : xFO Tryz.prog 71 2 K = K 2 := xFO_of fO_71_2 K
theorem fO_71_3 : fOff Tryz.prog 71 3 = some 3 := by kernel_rfl
@[go_sem ↓] theorem xFO_71_3 (K : Nat → Prop) : xFO Tryz.prog 71 3 K = K 3 := xFO_of fO_71_3 K
theorem fO_73_0 : fOff Tryz.prog 73 0 = some 0 := by kernel_rfl
@[go_sem ↓] theorem xFO_73_0 (K : Nat → Prop) : xFO Tryz.prog 73 0 K = K 0 := xFO_of fO_73_0 K
theorem fO_73_1 : fOff Tryz.prog 73 1 = some 4 := by kernel_rfl
@[go_sem ↓] theorem xFO_73_1 (K : Nat → Prop) : xFO Tryz.prog 73 1 K = K 4 := xFO_of fO_73_1 K
theorem fO_73_2 : fOff Tryz.prog 73 2 = some 5 := by kernel_rfl
@[go_sem ↓] theorem xFO_73_2 (K : Nat → Prop) : xFO Tryz.prog 73 2 K = K 5 := xFO_of fO_73_2 K
theorem fO_75_0 : fOff Tryz.prog 75 0 = some 0 := by kernel_rfl
@[go_sem ↓] theorem xFO_75_0 (K : Nat → Prop) : xFO Tryz.prog 75 0 K = K 0 := xFO_of fO_75_0 K
theorem fO_75_1 : fOff Tryz.prog 75 1 = some 1 := by kernel_rfl
@[go_sem ↓] theorem xFO_75_1 (K : Nat → Prop) : xFO Tryz.prog 75 1 K = K 1 := xFO_of fO_75_1 K
theorem fO_75_2 : fOff Tryz.prog 75 2 = some 2 := by kernel_rfl
@[go_sem ↓] theorem xFO_75_2 (K : Nat → Prop) : xFO Tryz.prog 75 2 K = K 2 := xFO_of fO_75_2 K
theorem fO_75_3 : fOff Tryz.prog 75 3 = some 26 := by kernel_rfl
@[go_sem ↓] theorem xFO_75_3 (K : Nat → Prop) : xFO Tryz.prog 75 3 K = K 26 := xFO_of fO_75_3 K
theorem fO_75_4 : fOff Tryz.prog 75 4 = some 27 := by kernel_rfl
@[go_sem ↓] theorem xFO_75_4 (K : Nat → Prop) : xFO Tryz.prog 75 4 K = K 27 := xFO_of fO_75_4 K
theorem fO_75_5 : fOff Tryz.prog 75 5 = some 28 := by kernel_rfl
@[go_sem ↓] theorem xFO_75_5 (K : Nat → Prop) : xFO Tryz.prog 75 5 K = K 28 := xFO_of fO_75_5 K
theorem fO_75_6 : fOff Tryz.prog 75 6 = some 29 := by kernel_rfl
@[go_sem ↓] theorem xFO_75_6 (K : Nat → Prop) : xFO Tryz.prog 75 6 K = K 29 := xFO_of fO_75_6 K
theorem fO_75_7 : fOff Tryz.prog 75 7 = some 30 := by kernel_rfl
@[go_sem ↓] theorem xFO_75_7 (K : Nat → Prop) : xFO Tryz.prog 75 7 K = K 30 := xFO_of fO_75_7 K
theorem fO_75_8 : fOff Tryz.prog 75 8 = some 31 := by kernel_rfl
@[go_sem ↓] theorem xFO_75_8 (K : Nat → Prop) : xFO Tryz.prog 75 8 K = K 31 := xFO_of fO_75_8 K
theorem fO_75_9 : fOff Tryz.prog 75 9 = some 32 := by kernel_rfl
@[go_sem ↓] theorem xFO_75_9 (K : Nat → Prop) : xFO Tryz.prog 75 9 K = K 32 := xFO_of fO_75_9 K
theorem fO_87_0 : fOff Tryz.prog 87 0 = some 0 := by kernel_rfl
@[go_sem ↓] theorem xFO_87_0 (K : Nat → Prop) : xFO Tryz.prog 87 0 K = K 0 := xFO_of fO_87_0 K
theorem fO_87_1 : fOff Tryz.prog 87 1 = some 1 := by kernel_rfl
@[go_sem ↓] theorem xFO_87_1 (K : Nat → Prop) : xFO Tryz.prog 87 1 K = K 1 := xFO_of fO_87_1 K
theorem fO_93_0 : fOff Tryz.prog 93 0 = some 0 := by kernel_rfl
@[go_sem ↓] theorem xFO_93_0 (K : Nat → Prop) : xFO Tryz.prog 93 0 K = K 0 := xFO_of fO_93_0 K
theorem fO_95_0 : fOff Tryz.prog 95 0 = some 0 := by kernel_rfl
@[go_sem ↓] theorem xFO_95_0 (K : Nat → Prop) : xFO Tryz.prog 95 0 K = K 0 := xFO_of fO_95_0 K
theorem fO_95_1 : fOff Tryz.prog 95 1 = some 1 := by kernel_rfl
@[go_sem ↓] theorem xFO_95_1 (K : Nat → Prop) : xFO Tryz.prog 95 1 K = K 1 := xFO_of fO_95_1 K
theorem fO_115_0 : fOff Tryz.prog 115 0 = some 0 := by kernel_rfl
@[go_sem ↓] theorem xFO_115_0 (K : Nat → Prop) : xFO Tryz.prog 115 0 K = K 0 := xFO_of fO_115_0 K
theorem fO_120_0 : fOff Tryz.prog 120 0 = some 0 := by kernel_rfl
@[go_sem ↓] theorem xFO_120_0 (K : Nat → Prop) : xFO Tryz.prog 120 0 K = K 0 := xFO_of fO_120_0 K
theorem fO_120_1 : fOff Tryz.prog 120 1 = some 1 := by kernel_rfl
@[go_sem ↓] theorem xFO_120_1 (K : Nat → Prop) : xFO Tryz.prog 120 1 K = K 1 := xFO_of fO_120_1 K
theorem fO_120_2 : fOff Tryz.prog 120 2 = some 2 := by kernel_rfl
@[go_sem ↓] theorem xFO_120_2 (K : Nat → Prop) : xFO Tryz.prog 120 2 K = K 2 := xFO_of fO_120_2 K
theorem fO_120_3 : fOff Tryz.prog 120 3 = some 3 := by kernel_rfl
@[go_sem ↓] theorem xFO_120_3 (K : Nat → Prop) : xFO Tryz.prog 120 3 K = K 3 := xFO_of fO_120_3 K
theorem fO_123_0 : fOff Tryz.prog 123 0 = some 0 := by kernel_rfl
@[go_sem ↓] theorem xFO_123_0 (K : Nat → Prop) : xFO Tryz.prog 123 0 K = K 0 := xFO_of fO_123_0 K
theorem fO_123_1 : fOff Tryz.prog 123 1 = some 1 := by kernel_rfl
@[go_sem ↓] theorem xFO_123_1 (K : Nat → Prop) : xFO Tryz.prog 123 1 K = K 1 := xFO_of fO_123_1 K
theorem fO_123_2 : fOff Tryz.prog 123 2 = some 2 := by kernel_rfl
@[go_sem ↓] theorem xFO_123_2 (K : Nat → Prop) : xFO Tryz.prog 123 2 K = K 2 := xFO_of fO_123_2 K
theorem fO_129_0 : fOff Tryz.prog 129 0 = some 0 := by kernel_rfl
@[go_sem ↓] theorem xFO_129_0 (K : Nat → Prop) : xFO Tryz.prog 129 0 K = K 0 := xFO_of fO_129_0 K
theorem fO_129_1 : fOff Tryz.prog 129 1 = some 41 := by kernel_rfl
@[go_sem ↓] theorem xFO_129_1 (K : Nat → Prop) : xFO Tryz.prog 129 1 K = K 41 := xFO_of fO_129_1 K
theorem fO_129_2 : fOff Tryz.prog 129 2 = some 55 := by kernel_rfl
@[go_sem ↓] theorem xFO_129_2 (K : Nat → Prop) : xFO Tryz.prog 129 2 K = K 55 := xFO_of fO_129_2 K
theorem fO_142_0 : fOff Tryz.prog 142 0 = some 0 := by kernel_rfl
@[go_sem ↓] theorem xFO_142_0 (K : Nat → Prop) : xFO Tryz.prog 142 0 K = K 0 := xFO_of fO_142_0 K
theorem fO_142_1 : fOff Tryz.prog 142 1 = some 1 := by kernel_rfl
@[go_sem ↓] theorem xFO_142_1 (K : Nat → Prop) : xFO Tryz.prog 142 1 K = K 1 := xFO_of fO_142_1 K
theorem fO_142_2 : fOff Tryz.prog 142 2 = some 2 := by kernel_rfl
@[go_sem ↓] theorem xFO_142_2 (K : Nat → Prop) : xFO Tryz.prog 142 2 K = K 2 := xFO_of fO_142_2 K
theorem fO_142_3 : fOff Tryz.prog 142 3 = some 26 := by kernel_rfl
@[go_sem ↓] theorem xFO_142_3 (K : Nat → Prop) : xFO Tryz.prog 142 3 K = K 26 := xFO_of fO_142_3 K
theorem fO_142_4 : fOff Tryz.prog 142 4 = some 27 := by kernel_rfl
@[go_sem ↓] theorem xFO_142_4 (K : Nat → Prop) : xFO Tryz.prog 142 4 K = K 27 := xFO_of fO_142_4 K
theorem fO_142_5 : fOff Tryz.prog 142 5 = some 28 := by kernel_rfl
@[go_sem ↓] theorem xFO_142_5 (K : Nat → Prop) : xFO Tryz.prog 142 5 K = K 28 := xFO_of fO_142_5 K
theorem fO_142_6 : fOff Tryz.prog 142 6 = some 29 := by kernel_rfl
@[go_sem ↓] theorem xFO_142_6 (K : Nat → Prop) : xFO Tryz.prog 142 6 K = K 29 := xFO_of fO_142_6 K
theorem fO_142_7 : fOff Tryz.prog 142 7 = some 30 := by kernel_rfl
@[go_sem ↓] theorem xFO_142_7 (K : Nat → Prop) : xFO Tryz.prog 142 7 K = K 30 := xFO_of fO_142_7 K
theorem fO_142_8 : fOff Tryz.prog 142 8 = some 31 := by kernel_rfl
@[go_sem ↓] theorem xFO_142_8 (K : Nat → Prop) : xFO Tryz.prog 142 8 K = K 31 := xFO_of fO_142_8 K
theorem fO_142_9 : fOff Tryz.prog 142 9 = some 32 := by kernel_rfl
@[go_sem ↓] theorem xFO_142_9 (K : Nat → Prop) : xFO Tryz.prog 142 9 K = K 32 := xFO_of fO_142_9 K
theorem fO_148_0 : fOff Tryz.prog 148 0 = some 0 := by kernel_rfl
@[go_sem ↓] theorem xFO_148_0 (K : Nat → Prop) : xFO Tryz.prog 148 0 K = K 0 := xFO_of fO_148_0 K
theorem fO_148_1 : fOff Tryz.prog 148 1 = some 1 := by kernel_rfl
@[go_sem ↓] theorem xFO_148_1 (K : Nat → Prop) : xFO Tryz.prog 148 1 K = K 1 := xFO_of fO_148_1 K
theorem fO_148_2 : fOff Tryz.prog 148 2 = some 2 := by kernel_rfl
@[go_sem ↓] theorem xFO_148_2 (K : Nat → Prop) : xFO Tryz.prog 148 2 K = K 2 := xFO_of fO_148_2 K
theorem fO_148_3 : fOff Tryz.prog 148 3 = some 3 := by kernel_rfl
@[go_sem ↓] theorem xFO_148_3 (K : Nat → Prop) : xFO Tryz.prog 148 3 K = K 3 := xFO_of fO_148_3 K
theorem fO_148_4 : fOff Tryz.prog 148 4 = some 4 := by kernel_rfl
@[go_sem ↓] theorem xFO_148_4 (K : Nat → Prop) : xFO Tryz.prog 148 4 K = K 4 := xFO_of fO_148_4 K
theorem fO_155_0 : fOff Tryz.prog 155 0 = some 0 := by kernel_rfl
@[go_sem ↓] theorem xFO_155_0 (K : Nat → Prop) : xFO Tryz.prog 155 0 K = K 0 := xFO_of fO_155_0 K
theorem fO_262_0 : fOff Tryz.prog 262 0 = some 0 := by kernel_rfl
@[go_sem ↓] theorem xFO_262_0 (K : Nat → Prop) : xFO Tryz.prog 262 0 K = K 0 := xFO_of fO_262_0 K
theorem fO_269_0 : fOff Tryz.prog 269 0 = some 0 := by kernel_rfl
@[go_sem ↓] theorem xFO_269_0 (K : Nat → Prop) : xFO Tryz.prog 269 0 K = K 0 := xFO_of fO_269_0 K
theorem fO_269_1 : fOff Tryz.prog 269 1 = some 4 := by kernel_rfl
@[go_sem ↓] theorem xFO_269_1 (K : Nat → Prop) : xFO Tryz.prog 269 1 K = K 4 := xFO_of fO_269_1 K
theorem fO_289_0 : fOff Tryz.prog 289 0 = some 0 := by kernel_rfl
@[go_sem ↓] theorem xFO_289_0 (K : Nat → Prop) : xFO Tryz.prog 289 0 K = K 0 := xFO_of fO_289_0 K
theorem fO_289_1 : fOff Tryz.prog 289 1 = some 1 := by kernel_rfl
@[go_sem ↓] theorem xFO_289_1 (K : Nat → Prop) : xFO Tryz.prog 289 1 K = K 1 := xFO_of fO_289_1 K
theorem fO_289_2 : fOff Tryz.prog 289 2 = some 2 := by kernel_rfl
@[go_sem ↓] theorem xFO_289_2 (K : Nat → Prop) : xFO Tryz.prog 289 2 K = K 2 := xFO_of fO_289_2 K
theorem fO_316_0 : fOff Tryz.prog 316 0 = some 0 := by kernel_rfl
@[go_sem ↓] theorem xFO_316_0 (K : Nat → Prop) : xFO Tryz.prog 316 0 K = K 0 := xFO_of fO_316_0 K
theorem fO_316_1 : fOff Tryz.prog 316 1 = some 1 := by kernel_rfl
@[go_sem ↓] theorem xFO_316_1 (K : Nat → Prop) : xFO Tryz.prog 316 1 K = K 1 := xFO_of fO_316_1 K
theorem fO_327_0 : fOff Tryz.prog 327 0 = some 0 := by kernel_rfl
@[go_sem ↓] theorem xFO_327_0 (K : Nat → Prop) : xFO Tryz.prog 327 0 K = K 0 := xFO_of fO_327_0 K
theorem fO_327_1 : fOff Tryz.prog 327 1 = some 4 := by kernel_rfl
@[go_sem ↓] theorem xFO_327_1 (K : Nat → Prop) : xFO Tryz.prog 327 1 K = K 4 := xFO_of fO_327_1 K
theorem fO_327_2 : fOff Tryz.prog 327 2 = some 28 := by kernel_rfl
@[go_sem ↓] theorem xFO_327_2 (K : Nat → Prop) : xFO Tryz.prog 327 2 K = K 28 := xFO_of fO_327_2 K
theorem fO_332_0 : fOff Tryz.prog 332 0 = some 0 := by kernel_rfl
@[go_sem ↓] theorem xFO_332_0 (K : Nat → Prop) : xFO Tryz.prog 332 0 K = K 0 := xFO_of fO_332_0 K
theorem fO_334_0 : fOff Tryz.prog 334 0 = some 0 := by kernel_rfl
@[go_sem ↓] theorem xFO_334_0 (K : Nat → Prop) : xFO Tryz.prog 334 0 K = K 0 := xFO_of fO_334_0 K
theorem fO_358_0 : fOff Tryz.prog 358 0 = some 0 := by kernel_rfl
@[go_sem ↓] theorem xFO_358_0 (K : Nat → Prop) : xFO Tryz.prog 358 0 K = K 0 := xFO_of fO_358_0 K
theorem fO_358_1 : fOff Tryz.prog 358 1 = some 2 := by kernel_rfl
@[go_sem ↓] theorem xFO_358_1 (K : Nat → Prop) : xFO Tryz.prog 358 1 K = K 2 := xFO_of fO_358_1 K
@[go_sem] theorem tSh_25 : tSh Tryz.prog 25 = .sl 22 1 8 := by kernel_rfl
@[go_sem] theorem tSh_26 : tSh Tryz.prog 26 = .sl 87 2 16 := by kernel_rfl
@[go_sem] theorem tSh_31 : tSh Tryz.prog 31 = .sl 73 6 48 := by kernel_rfl
@[go_sem] theorem tSh_32 : tSh Tryz.prog 32 = .sl 3 1 8 := by kernel_rfl
@[go_sem] theorem tSh_33 : tSh Tryz.prog 33 = .sl 120 4 32 := by kernel_rfl
@[go_sem] theorem tSh_34 : tSh Tryz.prog 34 = .sl 123 3 24 := by kernel_rfl
@[go_sem] theorem tSh_35 : tSh Tryz.prog 35 = .sl 75 33 296 := by kernel_rfl
@[go_sem] theorem tSh_36 : tSh Tryz.prog 36 = .sl 5 1 1 := by kernel_rfl
@[go_sem] theorem tSh_37 : tSh Tryz.prog 37 = .sl 36 1 24 := by kernel_rfl
@[go_sem] theorem tSh_44 : tSh Tryz.prog 44 = .sl 101 6 48 := by kernel_rfl
@[go_sem] theorem tSh_45 : tSh Tryz.prog 45 = .sl 172 4 32 := by kernel_rfl
@[go_sem] theorem tSh_46 : tSh Tryz.prog 46 = .sl 173 3 24 := by kernel_rfl
@[go_sem] theorem tSh_47 : tSh Tryz.prog 47 = .sl 142 33 296 := by kernel_rfl
@[go_sem] theorem tSh_52 : tSh Tryz.prog 52 = .sl 95 2 16 := by kernel_rfl
@[go_sem] theorem tSh_195 : tSh Tryz.prog 195 = .sl 71 4 32 := by kernel_rfl
@[go_sem] theorem tSh_228 : tSh Tryz.prog 228 = .sl 99 4 32 := by kernel_rfl
@[go_sem] theorem tSh_254 : tSh Tryz.prog 254 = .sl 40 1 8 := by kernel_rfl
@[go_sem] theorem tSh_265 : tSh Tryz.prog 265 = .sl 5 1 1 := by kernel_rfl
@[go_sem] theorem tSh_314 : tSh Tryz.prog 314 = .sl 4 1 1 := by kernel_rfl
@[go_sem ↓] theorem xSlh_32 (a : Option Addr) (n c : Nat) (k : IntKind) (j : Int) (h0 : 0 ≤ j) (h1 : j ≤ (c : Int)) (K : Value → Prop) : xSl Tryz.prog 32 (.slice a n c) none (some (.int k j)) none K = K (.slice a j.toNat c) := xSl_hi tSh_32 a n c k j h0 h1 K
@[go_sem ↓] theorem xSlh_34 (a : Option Addr) (n c : Nat) (k : IntKind) (j : Int) (h0 : 0 ≤ j) (h1 : j ≤ (c : Int)) (K : Value → Prop) : xSl Tryz.prog 34 (.slice a n c) none (some (.int k j)) none K = K (.slice a j.toNat c) := xSl_hi tSh_34 a n c k j h0 h1 K
@[go_sem ↓] theorem xBeq_25 (x y : Operand) (a : Option Addr) (n c : Nat) (K : Value → Prop) : xBin Tryz.prog .eql 25 x y (.slice a n c) (.slice none 0 0) K = K (.bool a.isNone) := xBin_eqnil tSh_25 x y a n c K
@[go_sem ↓] theorem xBne_25 (x y : Operand) (a : Option Addr) (n c : Nat) (K : Value → Prop) : xBin Tryz.prog .neq 25 x y (.slice a n c) (.slice none 0 0) K = K (.bool (!a.isNone)) := xBin_nenil tSh_25 x y a n c K
@[go_sem ↓] theorem xBeq_26 (x y : Operand) (a : Option Addr) (n c : Nat) (K : Value → Prop) : xBin Tryz.prog .eql 26 x y (.slice a n c) (.slice none 0 0) K = K (.bool a.isNone) := xBin_eqnil tSh_26 x y a n c K
@[go_sem ↓] theorem xBne_26 (x y : Operand) (a : Option Addr) (n c : Nat) (K : Value → Prop) : xBin Tryz.prog .neq 26 x y (.slice a n c) (.slice none 0 0) K = K (.bool (!a.isNone)) := xBin_nenil tSh_26 x y a n c K
@[go_sem ↓] theorem xBeq_31 (x y : Operand) (a : Option Addr) (n c : Nat) (K : Value → Prop) : xBin Tryz.prog .eql 31 x y (.slice a n c) (.slice none 0 0) K = K (.bool a.isNone) := xBin_eqnil tSh_31 x y a n c K
@[go_sem ↓] theorem xBne_31 (x y : Operand) (a : Option Addr) (n c : Nat) (K : Value → Prop) : xBin Tryz.prog .neq 31 x y (.slice a n c) (.slice none 0 0) K = K (.bool (!a.isNone)) := xBin_nenil tSh_31 x y a n c K
@[go_sem ↓] theorem xBeq_32 (x y : Operand) (a : Option Addr) (n c : Nat) (K : Value → Prop) : xBin Tryz.prog .eql 32 x y (.slice a n c) (.slice none 0 0) K = K (.bool a.isNone) := xBin_eqnil tSh_32 x y a n c K
@[go_sem ↓] theorem xBne_32 (x y : Operand) (a : Option Addr) (n c : Nat) (K : Value → Prop) : xBin Tryz.prog .neq 32 x y (.slice a n c) (.slice none 0 0) K = K (.bool (!a.isNone)) := xBin_nenil tSh_32 x y a n c K
@[go_sem ↓] theorem xBeq_33 (x y : Operand) (a : Option Addr) (n c : Nat) (K : Value → Prop) : xBin Tryz.prog .eql 33 x y (.slice a n c) (.slice none 0 0) K = K (.bool a.isNone) := xBin_eqnil tSh_33 x y a n c K
@[go_sem ↓] theorem xBne_33 (x y : Operand) (a : Option Addr) (n c : Nat) (K : Value → Prop) : xBin Tryz.prog .neq 33 x y (.slice a n c) (.slice none 0 0) K = K (.bool (!a.isNone)) := xBin_nenil tSh_33 x y a n c K
@[go_sem ↓] theorem xBeq_34 (x y : Operand) (a : Option Addr) (n c : Nat) (K : Value → Prop) : xBin Tryz.prog .eql 34 x y (.slice a n c) (.slice none 0 0) K = K (.bool a.isNone) := xBin_eqnil tSh_34 x y a n c K
@[go_sem ↓] theorem xBne_34 (x y : Operand) (a : Option Addr) (n c : Nat) (K : Value → Prop) : xBin Tryz.prog .neq 34 x y (.slice a n c) (.slice none 0 0) K = K (.bool (!a.isNone)) := xBin_nenil tSh_34 x y a n c K
@[go_sem ↓] theorem xBeq_35 (x y : Operand) (a : Option Addr) (n c : Nat) (K : Value → Prop) : xBin Tryz.prog .eql 35 x y (.slice a n c) (.slice none 0 0) K = K (.bool a.isNone) := xBin_eqnil tSh_35 x y a n c K
@[go_sem ↓] theorem xBne_35 (x y : Operand) (a : Option Addr) (n c : Nat) (K : Value → Prop) : xBin Tryz.prog .neq 35 x y (.slice a n c) (.slice none 0 0) K = K (.bool (!a.isNone)) := xBin_nenil tSh_35 x y a n c K
@[go_sem ↓] theorem xBeq_36 (x y : Operand) (a : Option Addr) (n c : Nat) (K : Value → Prop) : xBin Tryz.prog .eql 36 x y (.slice a n c) (.slice none 0 0) K = K (.bool a.isNone) := xBin_eqnil tSh_36 x y a n c K
@[go_sem ↓] theorem xBne_36 (x y : Operand) (a : Option Addr) (n c : Nat) (K : Value → Prop) : xBin Tryz.prog .neq 36 x y (.slice a n c) (.slice none 0 0) K = K (.bool (!a.isNone)) := xBin_nenil tSh_36 x y a n c K
@[go_sem ↓] theorem xBeq_37 (x y : Operand) (a : Option Addr) (n c : Nat) (K : Value → Prop) : xBin Tryz.prog .eql 37 x y (.slice a n c) (.slice none 0 0) K = K (.bool a.isNone) := xBin_eqnil tSh_37 x y a n c K
@[go_sem ↓] theorem xBne_37 (x y : Operand) (a : Option Addr) (n c : Nat) (K : Value → Prop) : xBin Tryz.prog .neq 37 x y (.slice a n c) (.slice none 0 0) K = K (.bool (!a.isNone)) := xBin_nenil tSh_37 x y a n c K
@[go_sem ↓] theorem xBeq_44 (x y : Operand) (a : Option Addr) (n c : Nat) (K : Value → Prop) : xBin Tryz.prog .eql 44 x y (.slice a n c) (.slice none 0 0) K = K (.bool a.isNone) := xBin_eqnil tSh_44 x y a n c K
@[go_sem ↓] theorem xBne_44 (x y : Operand) (a : Option Addr) (n c : Nat) (K : Value → Prop) : xBin Tryz.prog .neq 44 x y (.slice a n c) (.slice none 0 0) K = K (.bool (!a.isNone)) := xBin_nenil tSh_44 x y a n c K
@[go_sem ↓] theorem xBeq_45 (x y : Operand) (a : Option Addr) (n c : Nat) (K : Value → Prop) : xBin Tryz.prog .eql 45 x y (.slice a n c) (.slice none 0 0) K = K (.bool a.isNone) := xBin_eqnil tSh_45 x y a n c K
@[go_sem ↓] theorem xBne_45 (x y : Operand) (a : Option Addr) (n c : Nat) (K : Value → Prop) : xBin Tryz.prog .neq 45 x y (.slice a n c) (.slice none 0 0) K = K (.bool (!a.isNone)) := xBin_nenil tSh_45 x y a n c K
@[go_sem ↓] theorem xBeq_46 (x y : Operand) (a : Option Addr) (n c : Nat) (K : Value → Prop) : xBin Tryz.prog .eql 46 x y (.slice a n c) (.slice none 0 0) K = K (.bool a.isNone) := xBin_eqnil tSh_46 x y a n c K
@[go_sem ↓] theorem xBne_46 (x y : Operand) (a : Option Addr) (n c : Nat) (K : Value → Prop) : xBin Tryz.prog .neq 46 x y (.slice a n c) (.slice none 0 0) K = K (.bool (!a.isNone)) := xBin_nenil tSh_46 x y a n c K
@[go_sem ↓] theorem xBeq_47 (x y : Operand) (a : Option Addr) (n c : Nat) (K : Value → Prop) : xBin Tryz.prog .eql 47 x y (.slice a n c) (.slice none 0 0) K = K (.bool a.isNone) := xBin_eqnil tSh_47 x y a n c K
@[go_sem ↓] theorem xBne_47 (x y : Operand) (a : Option Addr) (n c : Nat) (K : Value → Prop) : xBin Tryz.prog .neq 47 x y (.slice a n c) (.slice none 0 0) K = K (.bool (!a.isNone)) := xBin_nenil tSh_47 x y a n c K
@[go_sem ↓] theorem xBeq_52 (x y : Operand) (a : Option Addr) (n c : Nat) (K : Value → Prop) : xBin Tryz.prog .eql 52 x y (.slice a n c) (.slice none 0 0) K = K (.bool a.isNone) := xBin_eqnil tSh_52 x y a n c K
@[go_sem ↓] theorem xBne_52 (x y : Operand) (a : Option Addr) (n c : Nat) (K : Value → Prop) : xBin Tryz.prog .neq 52 x y (.slice a n c) (.slice none 0 0) K = K (.bool (!a.isNone)) := xBin_nenil tSh_52 x y a n c K
@[go_sem ↓] theorem xBeq_195 (x y : Operand) (a : Option Addr) (n c : Nat) (K : Value → Prop) : xBin Tryz.prog .eql 195 x y (.slice a n c) (.slice none 0 0) K = K (.bool a.isNone) := xBin_eqnil tSh_195 x y a n c K
@[go_sem ↓] theorem xBne_195 (x y : Operand) (a : Option Addr) (n c : Nat) (K : Value → Prop) : xBin Tryz.prog .neq 195 x y (.slice a n c) (.slice none 0 0) K = K (.bool (!a.isNone)) := xBin_nenil tSh_195 x y a n c K
@[go_sem ↓] theorem xBeq_228 (x y : Operand) (a : Option Addr) (n c : Nat) (K : Value → Prop) : xBin Tryz.prog .eql 228 x y (.slice a n c) (.slice none 0 0) K = K (.bool a.isNone) := xBin_eqnil tSh_228 x y a n c K
@[go_sem ↓] theorem xBne_228 (x y : Operand) (a : Option Addr) (n c : Nat) (K : Value → Prop) : xBin Tryz.prog .neq 228 x y (.slice a n c) (.slice none 0 0) K = K (.bool (!a.isNone)) := xBin_nenil tSh_228 x y a n c K
@[go_sem ↓] theorem xBeq_254 (x y : Operand) (a : Option Addr) (n c : Nat) (K : Value → Prop) : xBin Tryz.prog .eql 254 x y (.slice a n c) (.slice none 0 0) K = K (.bool a.isNone) := xBin_eqnil tSh_254 x y a n c K
@[go_sem ↓] theorem xBne_254 (x y : Operand) (a : Option Addr) (n c : Nat) (K : Value → Prop) : xBin Tryz.prog .neq 254 x y (.slice a n c) (.slice none 0 0) K = K (.bool (!a.isNone)) := xBin_nenil tSh_254 x y a n c K
@[go_sem ↓] theorem xBeq_265 (x y : Operand) (a : Option Addr) (n c : Nat) (K : Value → Prop) : xBin Tryz.prog .eql 265 x y (.slice a n c) (.slice none 0 0) K = K (.bool a.isNone) := xBin_eqnil tSh_265 x y a n c K
@[go_sem ↓] theorem xBne_265 (x y : Operand) (a : Option Addr) (n c : Nat) (K : Value → Prop) : xBin Tryz.prog .neq 265 x y (.slice a n c) (.slice none 0 0) K = K (.bool (!a.isNone)) := xBin_nenil tSh_265 x y a n c K
@[go_sem ↓] theorem xBeq_314 (x y : Operand) (a : Option Addr) (n c : Nat) (K : Value → Prop) : xBin Tryz.prog .eql 314 x y (.slice a n c) (.slice none 0 0) K = K (.bool a.isNone) := xBin_eqnil tSh_314 x y a n c K
@[go_sem ↓] theorem xBne_314 (x y : Operand) (a : Option Addr) (n c : Nat) (K : Value → Prop) : xBin Tryz.prog .neq 314 x y (.slice a n c) (.slice none 0 0) K = K (.bool (!a.isNone)) := xBin_nenil tSh_314 x y a n c K
@[go_sem ↓] theorem xPeq_15 (x y : Operand) (a : Option Addr) (K : Value → Prop) : xBin Tryz.prog .eql 15 x y (.pointer a) (.pointer none) K = K (.bool a.isNone) := xBin_eqpnil (T:=15) (e:=370) (by kernel_rfl) x y a K
@[go_sem ↓] theorem xPne_15 (x y : Operand) (a : Option Addr) (K : Value → Prop) : xBin Tryz.prog .neq 15 x y (.pointer a) (.pointer none) K = K (.bool (!a.isNone)) := xBin_nepnil (T:=15) (e:=370) (by kernel_rfl) x y a K
@[go_sem ↓] theorem xPeq_16 (x y : Operand) (a : Option Addr) (K : Value → Prop) : xBin Tryz.prog .eql 16 x y (.pointer a) (.pointer none) K = K (.bool a.isNone) := xBin_eqpnil (T:=16) (e:=373) (by kernel_rfl) x y a K
@[go_sem ↓] theorem xPne_16 (x y : Operand) (a : Option Addr) (K : Value → Prop) : xBin Tryz.prog .neq 16 x y (.pointer a) (.pointer none) K = K (.bool (!a.isNone)) := xBin_nepnil (T:=16) (e:=373) (by kernel_rfl) x y a K
@[go_sem ↓] theorem xPeq_17 (x y : Operand) (a : Option Addr) (K : Value → Prop) : xBin Tryz.prog .eql 17 x y (.pointer a) (.pointer none) K = K (.bool a.isNone) := xBin_eqpnil (T:=17) (e:=383) (by kernel_rfl) x y a K
@[go_sem ↓] theorem xPne_17 (x y : Operand) (a : Option Addr) (K : Value → Prop) : xBin Tryz.prog .neq 17 x y (.pointer a) (.pointer none) K = K (.bool (!a.isNone)) := xBin_nepnil (T:=17) (e:=383) (by kernel_rfl) x y a K
@[go_sem ↓] theorem xPeq_127 (x y : Operand) (a : Option Addr) (K : Value → Prop) : xBin Tryz.prog .eql 127 x y (.pointer a) (.pointer none) K = K (.bool a.isNone) := xBin_eqpnil (T:=127) (e:=129) (by kernel_rfl) x y a K
@[go_sem ↓] theorem xPne_127 (x y : Operand) (a : Option Addr) (K : Value → Prop) : xBin Tryz.prog .neq 127 x y (.pointer a) (.pointer none) K = K (.bool (!a.isNone)) := xBin_nepnil (T:=127) (e:=129) (by kernel_rfl) x y a K
@[go_sem ↓] theorem xPeq_132 (x y : Operand) (a : Option Addr) (K : Value → Prop) : xBin Tryz.prog .eql 132 x y (.pointer a) (.pointer none) K = K (.bool a.isNone) := xBin_eqpnil (T:=132) (e:=49) (by kernel_rfl) x y a K
@[go_sem ↓] theorem xPne_132 (x y : Operand) (a : Option Addr) (K : Value → Prop) : xBin Tryz.prog .neq 132 x y (.pointer a) (.pointer none) K = K (.bool (!a.isNone)) := xBin_nepnil (T:=132) (e:=49) (by kernel_rfl) x y a K
@[go_sem ↓] theorem xPeq_133 (x y : Operand) (a : Option Addr) (K : Value → Prop) : xBin Tryz.prog .eql 133 x y (.pointer a) (.pointer none) K = K (.bool a.isNone) := xBin_eqpnil (T:=133) (e:=64) (by kernel_rfl) x y a K
@[go_sem ↓] theorem xPne_133 (x y : Operand) (a : Option Addr) (K : Value → Prop) : xBin Tryz.prog .neq 133 x y (.pointer a) (.pointer none) K = K (.bool (!a.isNone)) := xBin_nepnil (T:=133) (e:=64) (by kernel_rfl) x y a K
@[go_sem ↓] theorem xPeq_190 (x y : Operand) (a : Option Addr) (K : Value → Prop) : xBin Tryz.prog .eql 190 x y (.pointer a) (.pointer none) K = K (.bool a.isNone) := xBin_eqpnil (T:=190) (e:=73) (by kernel_rfl) x y a K
@[go_sem ↓] theorem xPne_190 (x y : Operand) (a : Option Addr) (K : Value → Prop) : xBin Tryz.prog .neq 190 x y (.pointer a) (.pointer none) K = K (.bool (!a.isNone)) := xBin_nepnil (T:=190) (e:=73) (by kernel_rfl) x y a K
@[go_sem ↓] theorem xPeq_267 (x y : Operand) (a : Option Addr) (K : Value → Prop) : xBin Tryz.prog .eql 267 x y (.pointer a) (.pointer none) K = K (.bool a.isNone) := xBin_eqpnil (T:=267) (e:=269) (by kernel_rfl) x y a K
@[go_sem ↓] theorem xPne_267 (x y : Operand) (a : Option Addr) (K : Value → Prop) : xBin Tryz.prog .neq 267 x y (.pointer a) (.pointer none) K = K (.bool (!a.isNone)) := xBin_nepnil (T:=267) (e:=269) (by kernel_rfl) x y a K
@[go_sem ↓] theorem xPeq_279 (x y : Operand) (a : Option Addr) (K : Value → Prop) : xBin Tryz.prog .eql 279 x y (.pointer a) (.pointer none) K = K (.bool a.isNone) := xBin_eqpnil (T:=279) (e:=334) (by kernel_rfl) x y a K
@[go_sem ↓] theorem xPne_279 (x y : Operand) (a : Option Addr) (K : Value → Prop) : xBin Tryz.prog .neq 279 x y (.pointer a) (.pointer none) K = K (.bool (!a.isNone)) := xBin_nepnil (T:=279) (e:=334) (by kernel_rfl) x y a K
@[go_sem ↓] theorem xPeq_287 (x y : Operand) (a : Option Addr) (K : Value → Prop) : xBin Tryz.prog .eql 287 x y (.pointer a) (.pointer none) K = K (.bool a.isNone) := xBin_eqpnil (T:=287) (e:=75) (by kernel_rfl) x y a K
@[go_sem ↓] theorem xPne_287 (x y : Operand) (a : Option Addr) (K : Value → Prop) : xBin Tryz.prog .neq 287 x y (.pointer a) (.pointer none) K = K (.bool (!a.isNone)) := xBin_nepnil (T:=287) (e:=75) (by kernel_rfl) x y a K
@[go_sem ↓] theorem xPeq_351 (x y : Operand) (a : Option Addr) (K : Value → Prop) : xBin Tryz.prog .eql 351 x y (.pointer a) (.pointer none) K = K (.bool a.isNone) := xBin_eqpnil (T:=351) (e:=332) (by kernel_rfl) x y a K
@[go_sem ↓] theorem xPne_351 (x y : Operand) (a : Option Addr) (K : Value → Prop) : xBin Tryz.prog .neq 351 x y (.pointer a) (.pointer none) K = K (.bool (!a.isNone)) := xBin_nepnil (T:=351) (e:=332) (by kernel_rfl) x y a K
@[go_sem ↓] theorem xSlm_32 (a : Option Addr) (n c : Nat) (k l : IntKind) (i j : Int) (h0 : 0 ≤ i) (h1 : i ≤ j) (h2 : j ≤ (c : Int)) (K : Value → Prop) : xSl Tryz.prog 32 (.slice a n c) (some (.int k i)) (some (.int l j)) none K = K (.slice (cutA a c i.toNat 1) (j.toNat - i.toNat) (c - i.toNat)) := xSl_mid tSh_32 a n c k l i j h0 h1 h2 K
@[go_sem ↓] theorem xSlm_34 (a : Option Addr) (n c : Nat) (k l : IntKind) (i j : Int) (h0 : 0 ≤ i) (h1 : i ≤ j) (h2 : j ≤ (c : Int)) (K : Value → Prop) : xSl Tryz.prog 34 (.slice a n c) (some (.int k i)) (some (.int l j)) none K = K (.slice (cutA a c i.toNat 3) (j.toNat - i.toNat) (c - i.toNat)) := xSl_mid tSh_34 a n c k l i j h0 h1 h2 K
@[go_sem ↓] theorem xLen_25 (ty : Nat) (a : Option Addr) (n c : Nat) (K : Value → Prop) : xLen Tryz.prog ty #[25] (.slice a n c) K = K (.int .i64 n) := xLen_slice (T:=25) (e:=22) (by kernel_rfl) a n c
@[go_sem ↓] theorem xLen_26 (ty : Nat) (a : Option Addr) (n c : Nat) (K : Value → Prop) : xLen Tryz.prog ty #[26] (.slice a n c) K = K (.int .i64 n) := xLen_slice (T:=26) (e:=87) (by kernel_rfl) a n c
@[go_sem ↓] theorem xLen_31 (ty : Nat) (a : Option Addr) (n c : Nat) (K : Value → Prop) : xLen Tryz.prog ty #[31] (.slice a n c) K = K (.int .i64 n) := xLen_slice (T:=31) (e:=73) (by kernel_rfl) a n c
@[go_sem ↓] theorem xLen_32 (ty : Nat) (a : Option Addr) (n c : Nat) (K : Value → Prop) : xLen Tryz.prog ty #[32] (.slice a n c) K = K (.int .i64 n) := xLen_slice (T:=32) (e:=3) (by kernel_rfl) a n c
@[go_sem ↓] theorem xLen_33 (ty : Nat) (a : Option Addr) (n c : Nat) (K : Value → Prop) : xLen Tryz.prog ty #[33] (.slice a n c) K = K (.int .i64 n) := xLen_slice (T:=33) (e:=120) (by kernel_rfl) a n c
@[go_sem ↓] theorem xLen_34 (ty : Nat) (a : Option Addr) (n c : Nat) (K : Value → Prop) : xLen Tryz.prog ty #[34] (.slice a n c) K = K (.int .i64 n) := xLen_slice (T:=34) (e:=123) (by kernel_rfl) a n c
@[go_sem ↓] theorem xLen_35 (ty : Nat) (a : Option Addr) (n c : Nat) (K : Value → Prop) : xLen Tryz.prog ty #[35] (.slice a n c) K = K (.int .i64 n) := xLen_slice (T:=35) (e:=75) (by kernel_rfl) a n c
@[go_sem ↓] theorem xLen_36 (ty : Nat) (a : Option Addr) (n c : Nat) (K : Value → Prop) : xLen Tryz.prog ty #[36] (.slice a n c) K = K (.int .i64 n) := xLen_slice (T:=36) (e:=5) (by kernel_rfl) a n c
@[go_sem ↓] theorem xLen_37 (ty : Nat) (a : Option Addr) (n c : Nat) (K : Value → Prop) : xLen Tryz.prog ty #[37] (.slice a n c) K = K (.int .i64 n) := xLen_slice (T:=37) (e:=36) (by kernel_rfl) a n c
@[go_sem ↓] theorem xLen_44 (ty : Nat) (a : Option Addr) (n c : Nat) (K : Value → Prop) : xLen Tryz.prog ty #[44] (.slice a n c) K = K (.int .i64 n) := xLen_slice (T:=44) (e:=101) (by kernel_rfl) a n c
@[go_sem ↓] theorem xLen_45 (ty : Nat) (a : Option Addr) (n c : Nat) (K : Value → Prop) : xLen Tryz.prog ty #[45] (.slice a n c) K = K (.int .i64 n) := xLen_slice (T:=45) (e:=172) (by kernel_rfl) a n c
@[go_sem ↓] theorem xLen_46 (ty : Nat) (a : Option Addr) (n c : Nat) (K : Value → Prop) : xLen Tryz.prog ty #[46] (.slice a n c) K = K (.int .i64 n) := xLen_slice (T:=46) (e:=173) (by kernel_rfl) a n c
@[go_sem ↓] theorem xLen_47 (ty : Nat) (a : Option Addr) (n c : Nat) (K : Value → Prop) : xLen Tryz.prog ty #[47] (.slice a n c) K = K (.int .i64 n) := xLen_slice (T:=47) (e:=142) (by kernel_rfl) a n c
@[go_sem ↓] theorem xLen_52 (ty : Nat) (a : Option Addr) (n c : Nat) (K : Value → Prop) : xLen Tryz.prog ty #[52] (.slice a n c) K = K (.int .i64 n) := xLen_slice (T:=52) (e:=95) (by kernel_rfl) a n c
@[go_sem ↓] theorem xLen_195 (ty : Nat) (a : Option Addr) (n c : Nat) (K : Value → Prop) : xLen Tryz.prog ty #[195] (.slice a n c) K = K (.int .i64 n) := xLen_slice (T:=195) (e:=71) (by kernel_rfl) a n c
@[go_sem ↓] theorem xLen_228 (ty : Nat) (a : Option Addr) (n c : Nat) (K : Value → Prop) : xLen Tryz.prog ty #[228] (.slice a n c) K = K (.int .i64 n) := xLen_slice (T:=228) (e:=99) (by kernel_rfl) a n c
@[go_sem ↓] theorem xLen_254 (ty : Nat) (a : Option Addr) (n c : Nat) (K : Value → Prop) : xLen Tryz.prog ty #[254] (.slice a n c) K = K (.int .i64 n) := xLen_slice (T:=254) (e:=40) (by kernel_rfl) a n c
@[go_sem ↓] theorem xLen_265 (ty : Nat) (a : Option Addr) (n c : Nat) (K : Value → Prop) : xLen Tryz.prog ty #[265] (.slice a n c) K = K (.int .i64 n) := xLen_slice (T:=265) (e:=5) (by kernel_rfl) a n c
@[go_sem ↓] theorem xLen_314 (ty : Nat) (a : Option Addr) (n c : Nat) (K : Value → Prop) : xLen Tryz.prog ty #[314] (.slice a n c) K = K (.int .i64 n) := xLen_slice (T:=314) (e:=4) (by kernel_rfl) a n c
@[go_sem ↓] theorem xBb_4 (x y : Operand) (a b : Bool) (K : Value → Prop) : xBin Tryz.prog .eql 4 x y (.bool a) (.bool b) K = K (.bool (a == b)) := xBin_eqbool (T:=4) (by kernel_rfl) x y a b K
@[go_sem ↓] theorem xBn_4 (x y : Operand) (a b : Bool) (K : Value → Prop) : xBin Tryz.prog .neq 4 x y (.bool a) (.bool b) K = K (.bool (!(a == b))) := xBin_nebool (T:=4) (by kernel_rfl) x y a b K
@[go_sem ↓] theorem xConv_3_22 (k : IntKind) (n : Int) (K : Value → Prop) : xConv Tryz.prog 3 22 (.int k n) K = K (.int .u64 (IntKind.u64.wrap n)) := xConv_int (s:=3) (d:=22) (ks:=.i64) (kd:=.u64) (by kernel_rfl) (by kernel_rfl) k n
@[go_sem ↓] theorem xConv_3_319 (k : IntKind) (n : Int) (K : Value → Prop) : xConv Tryz.prog 3 319 (.int k n) K = K (.int .u64 (IntKind.u64.wrap n)) := xConv_int (s:=3) (d:=319) (ks:=.i64) (kd:=.u64) (by kernel_rfl) (by kernel_rfl) k n
@[go_sem ↓] theorem xConv_5_3 (k : IntKind) (n : Int) (K : Value → Prop) : xConv Tryz.prog 5 3 (.int k n) K = K (.int .i64 (IntKind.i64.wrap n)) := xConv_int (s:=5) (d:=3) (ks:=.u8) (kd:=.i64) (by kernel_rfl) (by kernel_rfl) k n
@[go_sem ↓] theorem xConv_22_3 (k : IntKind) (n : Int) (K : Value → Prop) : xConv Tryz.prog 22 3 (.int k n) K = K (.int .i64 (IntKind.i64.wrap n)) := xConv_int (s:=22) (d:=3) (ks:=.u64) (kd:=.i64) (by kernel_rfl) (by kernel_rfl) k n
@[go_sem ↓] theorem xConv_22_5 (k : IntKind) (n : Int) (K : Value → Prop) : xConv Tryz.prog 22 5 (.int k n) K = K (.int .u8 (IntKind.u8.wrap n)) := xConv_int (s:=22) (d:=5) (ks:=.u64) (kd:=.u8) (by kernel_rfl) (by kernel_rfl) k n
@[go_sem ↓] theorem xConv_319_3 (k : IntKind) (n : Int) (K : Value → Prop) : xConv Tryz.prog 319 3 (.int k n) K = K (.int .i64 (IntKind.i64.wrap n)) := xConv_int (s:=319) (d:=3) (ks:=.u64) (kd:=.i64) (by kernel_rfl) (by kernel_rfl) k n
theorem mixed : Tryz.prog.follows .mixedOrders = true := by kernel_rfl
end Go.X
