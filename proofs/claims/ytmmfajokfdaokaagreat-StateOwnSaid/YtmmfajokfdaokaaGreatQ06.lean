/- Lemmas and contracts for a statement about the given program. Conditions: as each says. -/
import Derived.KernelRfl
import Derived.Test.YtmmfajokfdaokaaGreatProg
import Derived.Test.YtmmfajokfdaokaaGreatQ00
import Derived.Test.YtmmfajokfdaokaaGreatQ02
import Derived.Test.YtmmfajokfdaokaaGreatQ04
set_option linter.unusedVariables false
set_option linter.unusedSimpArgs false
set_option maxHeartbeats 12800000
set_option maxRecDepth 20000
namespace Go.X
open Go.Proofs
theorem tI_3:tI Tryz.prog 3=some ⟨1,false,[(.int .i64 0)],8⟩:=by kernel_rfl
@[go_sem ↓] theorem xTI_3 (K:TI→Prop):xTI Tryz.prog 3 K=K ⟨1,false,[(.int .i64 0)],8⟩:=xTI_of tI_3 K
theorem tI_4:tI Tryz.prog 4=some ⟨1,false,[(.bool false)],1⟩:=by kernel_rfl
@[go_sem ↓] theorem xTI_4 (K:TI→Prop):xTI Tryz.prog 4 K=K ⟨1,false,[(.bool false)],1⟩:=xTI_of tI_4 K
theorem tI_5:tI Tryz.prog 5=some ⟨1,false,[(.int .u8 0)],1⟩:=by kernel_rfl
@[go_sem ↓] theorem xTI_5 (K:TI→Prop):xTI Tryz.prog 5 K=K ⟨1,false,[(.int .u8 0)],1⟩:=xTI_of tI_5 K
theorem tI_22:tI Tryz.prog 22=some ⟨1,false,[(.int .u64 0)],8⟩:=by kernel_rfl
@[go_sem ↓] theorem xTI_22 (K:TI→Prop):xTI Tryz.prog 22 K=K ⟨1,false,[(.int .u64 0)],8⟩:=xTI_of tI_22 K
theorem tI_24:tI Tryz.prog 24=some ⟨24,true,[(.int .u64 0),(.int .u64 0),(.int .u64 0),(.int .u64 0),(.int .u64 0),(.int .u64 0),(.int .u64 0),(.int .u64 0),(.int .u64 0),(.int .u64 0),(.int .u64 0),(.int .u64 0),(.int .u64 0),(.int .u64 0),(.int .i64 0),(.int .i64 0),(.int .i64 0),(.int .i64 0),(.int .i64 0),(.int .i64 0),(.int .i64 0),(.int .i64 0),(.int .i64 0),(.int .i64 0)],192⟩:=by kernel_rfl
@[go_sem ↓] theorem xTI_24 (K:TI→Prop):xTI Tryz.prog 24 K=K ⟨24,true,[(.int .u64 0),(.int .u64 0),(.int .u64 0),(.int .u64 0),(.int .u64 0),(.int .u64 0),(.int .u64 0),(.int .u64 0),(.int .u64 0),(.int .u64 0),(.int .u64 0),(.int .u64 0),(.int .u64 0),(.int .u64 0),(.int .i64 0),(.int .i64 0),(.int .i64 0),(.int .i64 0),(.int .i64 0),(.int .i64 0),(.int .i64 0),(.int .i64 0),(.int .i64 0),(.int .i64 0)],192⟩:=xTI_of tI_24 K
theorem tI_25:tI Tryz.prog 25=some ⟨1,false,[(.slice none 0 0)],24⟩:=by kernel_rfl
@[go_sem ↓] theorem xTI_25 (K:TI→Prop):xTI Tryz.prog 25 K=K ⟨1,false,[(.slice none 0 0)],24⟩:=xTI_of tI_25 K
theorem tI_26:tI Tryz.prog 26=some ⟨1,false,[(.slice none 0 0)],24⟩:=by kernel_rfl
@[go_sem ↓] theorem xTI_26 (K:TI→Prop):xTI Tryz.prog 26 K=K ⟨1,false,[(.slice none 0 0)],24⟩:=xTI_of tI_26 K
theorem tI_28:tI Tryz.prog 28=some ⟨27,true,[(.int .u64 0),(.int .u64 0),(.int .u64 0),(.int .u64 0),(.int .u64 0),(.int .u64 0),(.int .u64 0),(.int .u64 0),(.int .u64 0),(.int .u64 0),(.int .u64 0),(.int .u64 0),(.int .u64 0),(.int .u64 0),(.int .i64 0),(.int .i64 0),(.int .i64 0),(.int .i64 0),(.int .i64 0),(.int .i64 0),(.int .i64 0),(.int .i64 0),(.int .i64 0),(.int .i64 0),(.int .u64 0),(.slice none 0 0),(.slice none 0 0)],248⟩:=by kernel_rfl
@[go_sem ↓] theorem xTI_28 (K:TI→Prop):xTI Tryz.prog 28 K=K ⟨27,true,[(.int .u64 0),(.int .u64 0),(.int .u64 0),(.int .u64 0),(.int .u64 0),(.int .u64 0),(.int .u64 0),(.int .u64 0),(.int .u64 0),(.int .u64 0),(.int .u64 0),(.int .u64 0),(.int .u64 0),(.int .u64 0),(.int .i64 0),(.int .i64 0),(.int .i64 0),(.int .i64 0),(.int .i64 0),(.int .i64 0),(.int .i64 0),(.int .i64 0),(.int .i64 0),(.int .i64 0),(.int .u64 0),(.slice none 0 0),(.slice none 0 0)],248⟩:=xTI_of tI_28 K
theorem tI_31:tI Tryz.prog 31=some ⟨1,false,[(.slice none 0 0)],24⟩:=by kernel_rfl
@[go_sem ↓] theorem xTI_31 (K:TI→Prop):xTI Tryz.prog 31 K=K ⟨1,false,[(.slice none 0 0)],24⟩:=xTI_of tI_31 K
theorem tI_32:tI Tryz.prog 32=some ⟨1,false,[(.slice none 0 0)],24⟩:=by kernel_rfl
@[go_sem ↓] theorem xTI_32 (K:TI→Prop):xTI Tryz.prog 32 K=K ⟨1,false,[(.slice none 0 0)],24⟩:=xTI_of tI_32 K
theorem tI_33:tI Tryz.prog 33=some ⟨1,false,[(.slice none 0 0)],24⟩:=by kernel_rfl
@[go_sem ↓] theorem xTI_33 (K:TI→Prop):xTI Tryz.prog 33 K=K ⟨1,false,[(.slice none 0 0)],24⟩:=xTI_of tI_33 K
theorem tI_34:tI Tryz.prog 34=some ⟨1,false,[(.slice none 0 0)],24⟩:=by kernel_rfl
@[go_sem ↓] theorem xTI_34 (K:TI→Prop):xTI Tryz.prog 34 K=K ⟨1,false,[(.slice none 0 0)],24⟩:=xTI_of tI_34 K
theorem tI_35:tI Tryz.prog 35=some ⟨1,false,[(.slice none 0 0)],24⟩:=by kernel_rfl
@[go_sem ↓] theorem xTI_35 (K:TI→Prop):xTI Tryz.prog 35 K=K ⟨1,false,[(.slice none 0 0)],24⟩:=xTI_of tI_35 K
theorem tI_36:tI Tryz.prog 36=some ⟨1,false,[(.slice none 0 0)],24⟩:=by kernel_rfl
@[go_sem ↓] theorem xTI_36 (K:TI→Prop):xTI Tryz.prog 36 K=K ⟨1,false,[(.slice none 0 0)],24⟩:=xTI_of tI_36 K
theorem tI_37:tI Tryz.prog 37=some ⟨1,false,[(.slice none 0 0)],24⟩:=by kernel_rfl
@[go_sem ↓] theorem xTI_37 (K:TI→Prop):xTI Tryz.prog 37 K=K ⟨1,false,[(.slice none 0 0)],24⟩:=xTI_of tI_37 K
theorem tI_39:tI Tryz.prog 39=some ⟨41,true,[(.int .u64 0),(.int .u64 0),(.int .u64 0),(.int .u64 0),(.int .u64 0),(.int .u64 0),(.int .u64 0),(.int .u64 0),(.int .u64 0),(.int .u64 0),(.int .u64 0),(.int .u64 0),(.int .u64 0),(.int .u64 0),(.int .i64 0),(.int .i64 0),(.int .i64 0),(.int .i64 0),(.int .i64 0),(.int .i64 0),(.int .i64 0),(.int .i64 0),(.int .i64 0),(.int .i64 0),(.int .u64 0),(.int .u64 0),(.int .u64 0),(.int .u64 0),(.int .u64 0),(.int .i64 0),(.int .i64 0),(.bool false),(.slice none 0 0),(.slice none 0 0),(.slice none 0 0),(.slice none 0 0),(.slice none 0 0),(.slice none 0 0),(.slice none 0 0),(.slice none 0 0),(.slice none 0 0)],472⟩:=by kernel_rfl
@[go_sem ↓] theorem xTI_39 (K:TI→Prop):xTI Tryz.prog 39 K=K ⟨41,true,[(.int .u64 0),(.int .u64 0),(.int .u64 0),(.int .u64 0),(.int .u64 0),(.int .u64 0),(.int .u64 0),(.int .u64 0),(.int .u64 0),(.int .u64 0),(.int .u64 0),(.int .u64 0),(.int .u64 0),(.int .u64 0),(.int .i64 0),(.int .i64 0),(.int .i64 0),(.int .i64 0),(.int .i64 0),(.int .i64 0),(.int .i64 0),(.int .i64 0),(.int .i64 0),(.int .i64 0),(.int .u64 0),(.int .u64 0),(.int .u64 0),(.int .u64 0),(.int .u64 0),(.int .i64 0),(.int .i64 0),(.bool false),(.slice none 0 0),(.slice none 0 0),(.slice none 0 0),(.slice none 0 0),(.slice none 0 0),(.slice none 0 0),(.slice none 0 0),(.slice none 0 0),(.slice none 0 0)],472⟩:=xTI_of tI_39 K
theorem tI_40:tI Tryz.prog 40=some ⟨1,false,[(.int .i64 0)],8⟩:=by kernel_rfl
@[go_sem ↓] theorem xTI_40 (K:TI→Prop):xTI Tryz.prog 40 K=K ⟨1,false,[(.int .i64 0)],8⟩:=xTI_of tI_40 K
theorem tI_43:tI Tryz.prog 43=some ⟨24,true,[(.int .u64 0),(.int .u64 0),(.int .u64 0),(.int .u64 0),(.int .u64 0),(.int .u64 0),(.int .u64 0),(.int .u64 0),(.int .u64 0),(.int .u64 0),(.int .u64 0),(.int .u64 0),(.int .u64 0),(.int .u64 0),(.int .i64 0),(.int .i64 0),(.int .i64 0),(.int .i64 0),(.int .i64 0),(.int .i64 0),(.int .i64 0),(.int .i64 0),(.int .i64 0),(.int .i64 0)],192⟩:=by kernel_rfl
@[go_sem ↓] theorem xTI_43 (K:TI→Prop):xTI Tryz.prog 43 K=K ⟨24,true,[(.int .u64 0),(.int .u64 0),(.int .u64 0),(.int .u64 0),(.int .u64 0),(.int .u64 0),(.int .u64 0),(.int .u64 0),(.int .u64 0),(.int .u64 0),(.int .u64 0),(.int .u64 0),(.int .u64 0),(.int .u64 0),(.int .i64 0),(.int .i64 0),(.int .i64 0),(.int .i64 0),(.int .i64 0),(.int .i64 0),(.int .i64 0),(.int .i64 0),(.int .i64 0),(.int .i64 0)],192⟩:=xTI_of tI_43 K
theorem tI_44:tI Tryz.prog 44=some ⟨1,false,[(.slice none 0 0)],24⟩:=by kernel_rfl
@[go_sem ↓] theorem xTI_44 (K:TI→Prop):xTI Tryz.prog 44 K=K ⟨1,false,[(.slice none 0 0)],24⟩:=xTI_of tI_44 K
theorem tI_45:tI Tryz.prog 45=some ⟨1,false,[(.slice none 0 0)],24⟩:=by kernel_rfl
@[go_sem ↓] theorem xTI_45 (K:TI→Prop):xTI Tryz.prog 45 K=K ⟨1,false,[(.slice none 0 0)],24⟩:=xTI_of tI_45 K
theorem tI_46:tI Tryz.prog 46=some ⟨1,false,[(.slice none 0 0)],24⟩:=by kernel_rfl
@[go_sem ↓] theorem xTI_46 (K:TI→Prop):xTI Tryz.prog 46 K=K ⟨1,false,[(.slice none 0 0)],24⟩:=xTI_of tI_46 K
theorem tI_47:tI Tryz.prog 47=some ⟨1,false,[(.slice none 0 0)],24⟩:=by kernel_rfl
@[go_sem ↓] theorem xTI_47 (K:TI→Prop):xTI Tryz.prog 47 K=K ⟨1,false,[(.slice none 0 0)],24⟩:=xTI_of tI_47 K
theorem tI_49:tI Tryz.prog 49=some ⟨41,true,[(.int .u64 0),(.int .u64 0),(.int .u64 0),(.int .u64 0),(.int .u64 0),(.int .u64 0),(.int .u64 0),(.int .u64 0),(.int .u64 0),(.int .u64 0),(.int .u64 0),(.int .u64 0),(.int .u64 0),(.int .u64 0),(.int .i64 0),(.int .i64 0),(.int .i64 0),(.int .i64 0),(.int .i64 0),(.int .i64 0),(.int .i64 0),(.int .i64 0),(.int .i64 0),(.int .i64 0),(.int .u64 0),(.int .u64 0),(.int .u64 0),(.int .u64 0),(.int .u64 0),(.int .i64 0),(.int .i64 0),(.bool false),(.slice none 0 0),(.slice none 0 0),(.slice none 0 0),(.slice none 0 0),(.slice none 0 0),(.slice none 0 0),(.slice none 0 0),(.slice none 0 0),(.slice none 0 0)],472⟩:=by kernel_rfl
@[go_sem ↓] theorem xTI_49 (K:TI→Prop):xTI Tryz.prog 49 K=K ⟨41,true,[(.int .u64 0),(.int .u64 0),(.int .u64 0),(.int .u64 0),(.int .u64 0),(.int .u64 0),(.int .u64 0),(.int .u64 0),(.int .u64 0),(.int .u64 0),(.int .u64 0),(.int .u64 0),(.int .u64 0),(.int .u64 0),(.int .i64 0),(.int .i64 0),(.int .i64 0),(.int .i64 0),(.int .i64 0),(.int .i64 0),(.int .i64 0),(.int .i64 0),(.int .i64 0),(.int .i64 0),(.int .u64 0),(.int .u64 0),(.int .u64 0),(.int .u64 0),(.int .u64 0),(.int .i64 0),(.int .i64 0),(.bool false),(.slice none 0 0),(.slice none 0 0),(.slice none 0 0),(.slice none 0 0),(.slice none 0 0),(.slice none 0 0),(.slice none 0 0),(.slice none 0 0),(.slice none 0 0)],472⟩:=xTI_of tI_49 K
theorem tI_61:tI Tryz.prog 61=some ⟨14,true,[(.int .i64 0),(.int .i64 0),(.bool false),(.int .u64 0),(.int .u64 0),(.int .u64 0),(.int .u64 0),(.int .u64 0),(.int .u64 0),(.int .u64 0),(.slice none 0 0),(.slice none 0 0),(.slice none 0 0),(.slice none 0 0)],176⟩:=by kernel_rfl
@[go_sem ↓] theorem xTI_61 (K:TI→Prop):xTI Tryz.prog 61 K=K ⟨14,true,[(.int .i64 0),(.int .i64 0),(.bool false),(.int .u64 0),(.int .u64 0),(.int .u64 0),(.int .u64 0),(.int .u64 0),(.int .u64 0),(.int .u64 0),(.slice none 0 0),(.slice none 0 0),(.slice none 0 0),(.slice none 0 0)],176⟩:=xTI_of tI_61 K
theorem tI_71:tI Tryz.prog 71=some ⟨4,true,[(.int .u64 0),(.int .u64 0),(.int .u64 0),(.int .i64 0)],32⟩:=by kernel_rfl
@[go_sem ↓] theorem xTI_71 (K:TI→Prop):xTI Tryz.prog 71 K=K ⟨4,true,[(.int .u64 0),(.int .u64 0),(.int .u64 0),(.int .i64 0)],32⟩:=xTI_of tI_71 K
theorem tI_73:tI Tryz.prog 73=some ⟨6,true,[(.int .u64 0),(.int .u64 0),(.int .u64 0),(.int .i64 0),(.int .i64 0),(.int .i64 0)],48⟩:=by kernel_rfl
@[go_sem ↓] theorem xTI_73 (K:TI→Prop):xTI Tryz.prog 73 K=K ⟨6,true,[(.int .u64 0),(.int .u64 0),(.int .u64 0),(.int .i64 0),(.int .i64 0),(.int .i64 0)],48⟩:=xTI_of tI_73 K
theorem tI_75:tI Tryz.prog 75=some ⟨33,true,[(.int .i64 0),(.int .i64 0),(.int .u64 0),(.int .u64 0),(.int .u64 0),(.int .u64 0),(.int .u64 0),(.int .u64 0),(.int .u64 0),(.int .u64 0),(.int .u64 0),(.int .u64 0),(.int .u64 0),(.int .u64 0),(.int .u64 0),(.int .u64 0),(.int .i64 0),(.int .i64 0),(.int .i64 0),(.int .i64 0),(.int .i64 0),(.int .i64 0),(.int .i64 0),(.int .i64 0),(.int .i64 0),(.int .i64 0),(.int .i64 0),(.int .u64 0),(.int .i64 0),(.int .i64 0),(.int .i64 0),(.slice none 0 0),(.slice none 0 0)],296⟩:=by kernel_rfl
@[go_sem ↓] theorem xTI_75 (K:TI→Prop):xTI Tryz.prog 75 K=K ⟨33,true,[(.int .i64 0),(.int .i64 0),(.int .u64 0),(.int .u64 0),(.int .u64 0),(.int .u64 0),(.int .u64 0),(.int .u64 0),(.int .u64 0),(.int .u64 0),(.int .u64 0),(.int .u64 0),(.int .u64 0),(.int .u64 0),(.int .u64 0),(.int .u64 0),(.int .i64 0),(.int .i64 0),(.int .i64 0),(.int .i64 0),(.int .i64 0),(.int .i64 0),(.int .i64 0),(.int .i64 0),(.int .i64 0),(.int .i64 0),(.int .i64 0),(.int .u64 0),(.int .i64 0),(.int .i64 0),(.int .i64 0),(.slice none 0 0),(.slice none 0 0)],296⟩:=xTI_of tI_75 K
theorem tI_105:tI Tryz.prog 105=some ⟨2,true,[(.int .i64 0),(.int .u64 0)],16⟩:=by kernel_rfl
@[go_sem ↓] theorem xTI_105 (K:TI→Prop):xTI Tryz.prog 105 K=K ⟨2,true,[(.int .i64 0),(.int .u64 0)],16⟩:=xTI_of tI_105 K
theorem tI_120:tI Tryz.prog 120=some ⟨6,true,[(.int .u64 0),(.int .u64 0),(.int .u64 0),(.int .i64 0),(.int .i64 0),(.int .i64 0)],48⟩:=by kernel_rfl
@[go_sem ↓] theorem xTI_120 (K:TI→Prop):xTI Tryz.prog 120 K=K ⟨6,true,[(.int .u64 0),(.int .u64 0),(.int .u64 0),(.int .i64 0),(.int .i64 0),(.int .i64 0)],48⟩:=xTI_of tI_120 K
theorem tI_134:tI Tryz.prog 134=some ⟨41,true,[(.int .u64 0),(.int .u64 0),(.int .u64 0),(.int .u64 0),(.int .u64 0),(.int .u64 0),(.int .u64 0),(.int .u64 0),(.int .u64 0),(.int .u64 0),(.int .u64 0),(.int .u64 0),(.int .u64 0),(.int .u64 0),(.int .i64 0),(.int .i64 0),(.int .i64 0),(.int .i64 0),(.int .i64 0),(.int .i64 0),(.int .i64 0),(.int .i64 0),(.int .i64 0),(.int .i64 0),(.int .u64 0),(.int .u64 0),(.int .u64 0),(.int .u64 0),(.int .u64 0),(.int .i64 0),(.int .i64 0),(.bool false),(.slice none 0 0),(.slice none 0 0),(.slice none 0 0),(.slice none 0 0),(.slice none 0 0),(.slice none 0 0),(.slice none 0 0),(.slice none 0 0),(.slice none 0 0)],472⟩:=by kernel_rfl
@[go_sem ↓] theorem xTI_134 (K:TI→Prop):xTI Tryz.prog 134 K=K ⟨41,true,[(.int .u64 0),(.int .u64 0),(.int .u64 0),(.int .u64 0),(.int .u64 0),(.int .u64 0),(.int .u64 0),(.int .u64 0),(.int .u64 0),(.int .u64 0),(.int .u64 0),(.int .u64 0),(.int .u64 0),(.int .u64 0),(.int .i64 0),(.int .i64 0),(.int .i64 0),(.int .i64 0),(.int .i64 0),(.int .i64 0),(.int .i64 0),(.int .i64 0),(.int .i64 0),(.int .i64 0),(.int .u64 0),(.int .u64 0),(.int .u64 0),(.int .u64 0),(.int .u64 0),(.int .i64 0),(.int .i64 0),(.bool false),(.slice none 0 0),(.slice none 0 0),(.slice none 0 0),(.slice none 0 0),(.slice none 0 0),(.slice none 0 0),(.slice none 0 0),(.slice none 0 0),(.slice none 0 0)],472⟩:=xTI_of tI_134 K
theorem tI_139:tI Tryz.prog 139=some ⟨4,true,[(.int .i64 0),(.int .i64 0),(.int .u64 0),(.bool false)],32⟩:=by kernel_rfl
@[go_sem ↓] theorem xTI_139 (K:TI→Prop):xTI Tryz.prog 139 K=K ⟨4,true,[(.int .i64 0),(.int .i64 0),(.int .u64 0),(.bool false)],32⟩:=xTI_of tI_139 K
theorem tI_142:tI Tryz.prog 142=some ⟨3,true,[(.int .i64 0),(.int .i64 0),(.int .u64 0)],24⟩:=by kernel_rfl
@[go_sem ↓] theorem xTI_142 (K:TI→Prop):xTI Tryz.prog 142 K=K ⟨3,true,[(.int .i64 0),(.int .i64 0),(.int .u64 0)],24⟩:=xTI_of tI_142 K
theorem tI_146:tI Tryz.prog 146=some ⟨1,false,[(.pointer none)],8⟩:=by kernel_rfl
@[go_sem ↓] theorem xTI_146 (K:TI→Prop):xTI Tryz.prog 146 K=K ⟨1,false,[(.pointer none)],8⟩:=xTI_of tI_146 K
theorem tI_161:tI Tryz.prog 161=some ⟨33,true,[(.int .i64 0),(.int .i64 0),(.int .u64 0),(.int .u64 0),(.int .u64 0),(.int .u64 0),(.int .u64 0),(.int .u64 0),(.int .u64 0),(.int .u64 0),(.int .u64 0),(.int .u64 0),(.int .u64 0),(.int .u64 0),(.int .u64 0),(.int .u64 0),(.int .i64 0),(.int .i64 0),(.int .i64 0),(.int .i64 0),(.int .i64 0),(.int .i64 0),(.int .i64 0),(.int .i64 0),(.int .i64 0),(.int .i64 0),(.int .i64 0),(.int .u64 0),(.int .i64 0),(.int .i64 0),(.int .i64 0),(.slice none 0 0),(.slice none 0 0)],296⟩:=by kernel_rfl
@[go_sem ↓] theorem xTI_161 (K:TI→Prop):xTI Tryz.prog 161 K=K ⟨33,true,[(.int .i64 0),(.int .i64 0),(.int .u64 0),(.int .u64 0),(.int .u64 0),(.int .u64 0),(.int .u64 0),(.int .u64 0),(.int .u64 0),(.int .u64 0),(.int .u64 0),(.int .u64 0),(.int .u64 0),(.int .u64 0),(.int .u64 0),(.int .u64 0),(.int .i64 0),(.int .i64 0),(.int .i64 0),(.int .i64 0),(.int .i64 0),(.int .i64 0),(.int .i64 0),(.int .i64 0),(.int .i64 0),(.int .i64 0),(.int .i64 0),(.int .u64 0),(.int .i64 0),(.int .i64 0),(.int .i64 0),(.slice none 0 0),(.slice none 0 0)],296⟩:=xTI_of tI_161 K
theorem tI_190:tI Tryz.prog 190=some ⟨5,true,[(.int .u64 0),(.int .u64 0),(.int .u64 0),(.int .u64 0),(.int .u64 0)],40⟩:=by kernel_rfl
@[go_sem ↓] theorem xTI_190 (K:TI→Prop):xTI Tryz.prog 190 K=K ⟨5,true,[(.int .u64 0),(.int .u64 0),(.int .u64 0),(.int .u64 0),(.int .u64 0)],40⟩:=xTI_of tI_190 K
theorem tI_208:tI Tryz.prog 208=some ⟨4,true,[(.int .i64 0),(.int .i64 0),(.int .u64 0),(.bool false)],32⟩:=by kernel_rfl
@[go_sem ↓] theorem xTI_208 (K:TI→Prop):xTI Tryz.prog 208 K=K ⟨4,true,[(.int .i64 0),(.int .i64 0),(.int .u64 0),(.bool false)],32⟩:=xTI_of tI_208 K
theorem tI_209:tI Tryz.prog 209=some ⟨3,true,[(.int .i64 0),(.int .i64 0),(.int .u64 0)],24⟩:=by kernel_rfl
@[go_sem ↓] theorem xTI_209 (K:TI→Prop):xTI Tryz.prog 209 K=K ⟨3,true,[(.int .i64 0),(.int .i64 0),(.int .u64 0)],24⟩:=xTI_of tI_209 K
theorem tI_231:tI Tryz.prog 231=some ⟨1,false,[(.slice none 0 0)],24⟩:=by kernel_rfl
@[go_sem ↓] theorem xTI_231 (K:TI→Prop):xTI Tryz.prog 231 K=K ⟨1,false,[(.slice none 0 0)],24⟩:=xTI_of tI_231 K
theorem tI_312:tI Tryz.prog 312=some ⟨24,true,[(.int .u64 0),(.int .u64 0),(.int .u64 0),(.int .u64 0),(.int .u64 0),(.int .u64 0),(.int .u64 0),(.int .u64 0),(.int .u64 0),(.int .u64 0),(.int .u64 0),(.int .u64 0),(.int .u64 0),(.int .u64 0),(.int .i64 0),(.int .i64 0),(.int .i64 0),(.int .i64 0),(.int .i64 0),(.int .i64 0),(.int .i64 0),(.int .i64 0),(.int .i64 0),(.int .i64 0)],192⟩:=by kernel_rfl
@[go_sem ↓] theorem xTI_312 (K:TI→Prop):xTI Tryz.prog 312 K=K ⟨24,true,[(.int .u64 0),(.int .u64 0),(.int .u64 0),(.int .u64 0),(.int .u64 0),(.int .u64 0),(.int .u64 0),(.int .u64 0),(.int .u64 0),(.int .u64 0),(.int .u64 0),(.int .u64 0),(.int .u64 0),(.int .u64 0),(.int .i64 0),(.int .i64 0),(.int .i64 0),(.int .i64 0),(.int .i64 0),(.int .i64 0),(.int .i64 0),(.int .i64 0),(.int .i64 0),(.int .i64 0)],192⟩:=xTI_of tI_312 K
theorem tI_348:tI Tryz.prog 348=some ⟨3,true,[(.int .u64 0),(.int .u64 0),(.int .u64 0)],24⟩:=by kernel_rfl
@[go_sem ↓] theorem xTI_348 (K:TI→Prop):xTI Tryz.prog 348 K=K ⟨3,true,[(.int .u64 0),(.int .u64 0),(.int .u64 0)],24⟩:=xTI_of tI_348 K
theorem tI_399:tI Tryz.prog 399=some ⟨2,true,[(.int .u64 0),(.int .u64 0)],16⟩:=by kernel_rfl
@[go_sem ↓] theorem xTI_399 (K:TI→Prop):xTI Tryz.prog 399 K=K ⟨2,true,[(.int .u64 0),(.int .u64 0)],16⟩:=xTI_of tI_399 K
theorem bP_24:bPl Tryz.prog 24=some ([(.int .u64 0),(.int .u64 0),(.int .u64 0),(.int .u64 0),(.int .u64 0),(.int .u64 0),(.int .u64 0),(.int .u64 0),(.int .u64 0),(.int .u64 0),(.int .u64 0),(.int .u64 0),(.int .u64 0),(.int .u64 0),(.int .i64 0),(.int .i64 0),(.int .i64 0),(.int .i64 0),(.int .i64 0),(.int .i64 0),(.int .i64 0),(.int .i64 0),(.int .i64 0),(.int .i64 0)],[(0,1),(1,1),(2,1),(3,1),(4,1),(5,1),(6,1),(7,1),(8,1),(9,1),(10,1),(11,1),(12,1),(13,1),(14,1),(15,1),(16,1),(17,1),(18,1),(19,1),(20,1),(21,1),(22,1),(23,1)]):=by kernel_rfl
@[go_sem ↓] theorem xBuild_24 (ps:List (Nat×Value)) (K:Value→Prop):xBuild Tryz.prog 24 ps.toArray K=xFill [(.int .u64 0),(.int .u64 0),(.int .u64 0),(.int .u64 0),(.int .u64 0),(.int .u64 0),(.int .u64 0),(.int .u64 0),(.int .u64 0),(.int .u64 0),(.int .u64 0),(.int .u64 0),(.int .u64 0),(.int .u64 0),(.int .i64 0),(.int .i64 0),(.int .i64 0),(.int .i64 0),(.int .i64 0),(.int .i64 0),(.int .i64 0),(.int .i64 0),(.int .i64 0),(.int .i64 0)] [(0,1),(1,1),(2,1),(3,1),(4,1),(5,1),(6,1),(7,1),(8,1),(9,1),(10,1),(11,1),(12,1),(13,1),(14,1),(15,1),(16,1),(17,1),(18,1),(19,1),(20,1),(21,1),(22,1),(23,1)] ps fun z'=>K (.agg z'.toArray):=xBuild_of bP_24 ps K
theorem bP_28:bPl Tryz.prog 28=some ([(.int .u64 0),(.int .u64 0),(.int .u64 0),(.int .u64 0),(.int .u64 0),(.int .u64 0),(.int .u64 0),(.int .u64 0),(.int .u64 0),(.int .u64 0),(.int .u64 0),(.int .u64 0),(.int .u64 0),(.int .u64 0),(.int .i64 0),(.int .i64 0),(.int .i64 0),(.int .i64 0),(.int .i64 0),(.int .i64 0),(.int .i64 0),(.int .i64 0),(.int .i64 0),(.int .i64 0),(.int .u64 0),(.slice none 0 0),(.slice none 0 0)],[(0,24),(24,1),(25,1),(26,1)]):=by kernel_rfl
@[go_sem ↓] theorem xBuild_28 (ps:List (Nat×Value)) (K:Value→Prop):xBuild Tryz.prog 28 ps.toArray K=xFill [(.int .u64 0),(.int .u64 0),(.int .u64 0),(.int .u64 0),(.int .u64 0),(.int .u64 0),(.int .u64 0),(.int .u64 0),(.int .u64 0),(.int .u64 0),(.int .u64 0),(.int .u64 0),(.int .u64 0),(.int .u64 0),(.int .i64 0),(.int .i64 0),(.int .i64 0),(.int .i64 0),(.int .i64 0),(.int .i64 0),(.int .i64 0),(.int .i64 0),(.int .i64 0),(.int .i64 0),(.int .u64 0),(.slice none 0 0),(.slice none 0 0)] [(0,24),(24,1),(25,1),(26,1)] ps fun z'=>K (.agg z'.toArray):=xBuild_of bP_28 ps K
theorem bP_39:bPl Tryz.prog 39=some ([(.int .u64 0),(.int .u64 0),(.int .u64 0),(.int .u64 0),(.int .u64 0),(.int .u64 0),(.int .u64 0),(.int .u64 0),(.int .u64 0),(.int .u64 0),(.int .u64 0),(.int .u64 0),(.int .u64 0),(.int .u64 0),(.int .i64 0),(.int .i64 0),(.int .i64 0),(.int .i64 0),(.int .i64 0),(.int .i64 0),(.int .i64 0),(.int .i64 0),(.int .i64 0),(.int .i64 0),(.int .u64 0),(.int .u64 0),(.int .u64 0),(.int .u64 0),(.int .u64 0),(.int .i64 0),(.int .i64 0),(.bool false),(.slice none 0 0),(.slice none 0 0),(.slice none 0 0),(.slice none 0 0),(.slice none 0 0),(.slice none 0 0),(.slice none 0 0),(.slice none 0 0),(.slice none 0 0)],[(0,24),(24,1),(25,1),(26,1),(27,1),(28,1),(29,1),(30,1),(31,1),(32,1),(33,1),(34,1),(35,1),(36,1),(37,1),(38,1),(39,1),(40,1)]):=by kernel_rfl
@[go_sem ↓] theorem xBuild_39 (ps:List (Nat×Value)) (K:Value→Prop):xBuild Tryz.prog 39 ps.toArray K=xFill [(.int .u64 0),(.int .u64 0),(.int .u64 0),(.int .u64 0),(.int .u64 0),(.int .u64 0),(.int .u64 0),(.int .u64 0),(.int .u64 0),(.int .u64 0),(.int .u64 0),(.int .u64 0),(.int .u64 0),(.int .u64 0),(.int .i64 0),(.int .i64 0),(.int .i64 0),(.int .i64 0),(.int .i64 0),(.int .i64 0),(.int .i64 0),(.int .i64 0),(.int .i64 0),(.int .i64 0),(.int .u64 0),(.int .u64 0),(.int .u64 0),(.int .u64 0),(.int .u64 0),(.int .i64 0),(.int .i64 0),(.bool false),(.slice none 0 0),(.slice none 0 0),(.slice none 0 0),(.slice none 0 0),(.slice none 0 0),(.slice none 0 0),(.slice none 0 0),(.slice none 0 0),(.slice none 0 0)] [(0,24),(24,1),(25,1),(26,1),(27,1),(28,1),(29,1),(30,1),(31,1),(32,1),(33,1),(34,1),(35,1),(36,1),(37,1),(38,1),(39,1),(40,1)] ps fun z'=>K (.agg z'.toArray):=xBuild_of bP_39 ps K
theorem bP_49:bPl Tryz.prog 49=some ([(.int .u64 0),(.int .u64 0),(.int .u64 0),(.int .u64 0),(.int .u64 0),(.int .u64 0),(.int .u64 0),(.int .u64 0),(.int .u64 0),(.int .u64 0),(.int .u64 0),(.int .u64 0),(.int .u64 0),(.int .u64 0),(.int .i64 0),(.int .i64 0),(.int .i64 0),(.int .i64 0),(.int .i64 0),(.int .i64 0),(.int .i64 0),(.int .i64 0),(.int .i64 0),(.int .i64 0),(.int .u64 0),(.int .u64 0),(.int .u64 0),(.int .u64 0),(.int .u64 0),(.int .i64 0),(.int .i64 0),(.bool false),(.slice none 0 0),(.slice none 0 0),(.slice none 0 0),(.slice none 0 0),(.slice none 0 0),(.slice none 0 0),(.slice none 0 0),(.slice none 0 0),(.slice none 0 0)],[(0,24),(24,1),(25,1),(26,1),(27,1),(28,1),(29,1),(30,1),(31,1),(32,1),(33,1),(34,1),(35,1),(36,1),(37,1),(38,1),(39,1),(40,1)]):=by kernel_rfl
@[go_sem ↓] theorem xBuild_49 (ps:List (Nat×Value)) (K:Value→Prop):xBuild Tryz.prog 49 ps.toArray K=xFill [(.int .u64 0),(.int .u64 0),(.int .u64 0),(.int .u64 0),(.int .u64 0),(.int .u64 0),(.int .u64 0),(.int .u64 0),(.int .u64 0),(.int .u64 0),(.int .u64 0),(.int .u64 0),(.int .u64 0),(.int .u64 0),(.int .i64 0),(.int .i64 0),(.int .i64 0),(.int .i64 0),(.int .i64 0),(.int .i64 0),(.int .i64 0),(.int .i64 0),(.int .i64 0),(.int .i64 0),(.int .u64 0),(.int .u64 0),(.int .u64 0),(.int .u64 0),(.int .u64 0),(.int .i64 0),(.int .i64 0),(.bool false),(.slice none 0 0),(.slice none 0 0),(.slice none 0 0),(.slice none 0 0),(.slice none 0 0),(.slice none 0 0),(.slice none 0 0),(.slice none 0 0),(.slice none 0 0)] [(0,24),(24,1),(25,1),(26,1),(27,1),(28,1),(29,1),(30,1),(31,1),(32,1),(33,1),(34,1),(35,1),(36,1),(37,1),(38,1),(39,1),(40,1)] ps fun z'=>K (.agg z'.toArray):=xBuild_of bP_49 ps K
theorem bP_61:bPl Tryz.prog 61=some ([(.int .i64 0),(.int .i64 0),(.bool false),(.int .u64 0),(.int .u64 0),(.int .u64 0),(.int .u64 0),(.int .u64 0),(.int .u64 0),(.int .u64 0),(.slice none 0 0),(.slice none 0 0),(.slice none 0 0),(.slice none 0 0)],[(0,1),(1,1),(2,1),(3,1),(4,1),(5,1),(6,1),(7,1),(8,1),(9,1),(10,1),(11,1),(12,1),(13,1)]):=by kernel_rfl
@[go_sem ↓] theorem xBuild_61 (ps:List (Nat×Value)) (K:Value→Prop):xBuild Tryz.prog 61 ps.toArray K=xFill [(.int .i64 0),(.int .i64 0),(.bool false),(.int .u64 0),(.int .u64 0),(.int .u64 0),(.int .u64 0),(.int .u64 0),(.int .u64 0),(.int .u64 0),(.slice none 0 0),(.slice none 0 0),(.slice none 0 0),(.slice none 0 0)] [(0,1),(1,1),(2,1),(3,1),(4,1),(5,1),(6,1),(7,1),(8,1),(9,1),(10,1),(11,1),(12,1),(13,1)] ps fun z'=>K (.agg z'.toArray):=xBuild_of bP_61 ps K
theorem bP_71:bPl Tryz.prog 71=some ([(.int .u64 0),(.int .u64 0),(.int .u64 0),(.int .i64 0)],[(0,1),(1,1),(2,1),(3,1)]):=by kernel_rfl
@[go_sem ↓] theorem xBuild_71 (ps:List (Nat×Value)) (K:Value→Prop):xBuild Tryz.prog 71 ps.toArray K=xFill [(.int .u64 0),(.int .u64 0),(.int .u64 0),(.int .i64 0)] [(0,1),(1,1),(2,1),(3,1)] ps fun z'=>K (.agg z'.toArray):=xBuild_of bP_71 ps K
theorem bP_73:bPl Tryz.prog 73=some ([(.int .u64 0),(.int .u64 0),(.int .u64 0),(.int .i64 0),(.int .i64 0),(.int .i64 0)],[(0,4),(4,1),(5,1)]):=by kernel_rfl
@[go_sem ↓] theorem xBuild_73 (ps:List (Nat×Value)) (K:Value→Prop):xBuild Tryz.prog 73 ps.toArray K=xFill [(.int .u64 0),(.int .u64 0),(.int .u64 0),(.int .i64 0),(.int .i64 0),(.int .i64 0)] [(0,4),(4,1),(5,1)] ps fun z'=>K (.agg z'.toArray):=xBuild_of bP_73 ps K
theorem bP_105:bPl Tryz.prog 105=some ([(.int .i64 0),(.int .u64 0)],[(0,1),(1,1)]):=by kernel_rfl
@[go_sem ↓] theorem xBuild_105 (ps:List (Nat×Value)) (K:Value→Prop):xBuild Tryz.prog 105 ps.toArray K=xFill [(.int .i64 0),(.int .u64 0)] [(0,1),(1,1)] ps fun z'=>K (.agg z'.toArray):=xBuild_of bP_105 ps K
theorem bP_120:bPl Tryz.prog 120=some ([(.int .u64 0),(.int .u64 0),(.int .u64 0),(.int .i64 0),(.int .i64 0),(.int .i64 0)],[(0,4),(4,1),(5,1)]):=by kernel_rfl
@[go_sem ↓] theorem xBuild_120 (ps:List (Nat×Value)) (K:Value→Prop):xBuild Tryz.prog 120 ps.toArray K=xFill [(.int .u64 0),(.int .u64 0),(.int .u64 0),(.int .i64 0),(.int .i64 0),(.int .i64 0)] [(0,4),(4,1),(5,1)] ps fun z'=>K (.agg z'.toArray):=xBuild_of bP_120 ps K
theorem bP_134:bPl Tryz.prog 134=some ([(.int .u64 0),(.int .u64 0),(.int .u64 0),(.int .u64 0),(.int .u64 0),(.int .u64 0),(.int .u64 0),(.int .u64 0),(.int .u64 0),(.int .u64 0),(.int .u64 0),(.int .u64 0),(.int .u64 0),(.int .u64 0),(.int .i64 0),(.int .i64 0),(.int .i64 0),(.int .i64 0),(.int .i64 0),(.int .i64 0),(.int .i64 0),(.int .i64 0),(.int .i64 0),(.int .i64 0),(.int .u64 0),(.int .u64 0),(.int .u64 0),(.int .u64 0),(.int .u64 0),(.int .i64 0),(.int .i64 0),(.bool false),(.slice none 0 0),(.slice none 0 0),(.slice none 0 0),(.slice none 0 0),(.slice none 0 0),(.slice none 0 0),(.slice none 0 0),(.slice none 0 0),(.slice none 0 0)],[(0,41)]):=by kernel_rfl
@[go_sem ↓] theorem xBuild_134 (ps:List (Nat×Value)) (K:Value→Prop):xBuild Tryz.prog 134 ps.toArray K=xFill [(.int .u64 0),(.int .u64 0),(.int .u64 0),(.int .u64 0),(.int .u64 0),(.int .u64 0),(.int .u64 0),(.int .u64 0),(.int .u64 0),(.int .u64 0),(.int .u64 0),(.int .u64 0),(.int .u64 0),(.int .u64 0),(.int .i64 0),(.int .i64 0),(.int .i64 0),(.int .i64 0),(.int .i64 0),(.int .i64 0),(.int .i64 0),(.int .i64 0),(.int .i64 0),(.int .i64 0),(.int .u64 0),(.int .u64 0),(.int .u64 0),(.int .u64 0),(.int .u64 0),(.int .i64 0),(.int .i64 0),(.bool false),(.slice none 0 0),(.slice none 0 0),(.slice none 0 0),(.slice none 0 0),(.slice none 0 0),(.slice none 0 0),(.slice none 0 0),(.slice none 0 0),(.slice none 0 0)] [(0,41)] ps fun z'=>K (.agg z'.toArray):=xBuild_of bP_134 ps K
theorem bP_142:bPl Tryz.prog 142=some ([(.int .i64 0),(.int .i64 0),(.int .u64 0)],[(0,1),(1,1),(2,1)]):=by kernel_rfl
@[go_sem ↓] theorem xBuild_142 (ps:List (Nat×Value)) (K:Value→Prop):xBuild Tryz.prog 142 ps.toArray K=xFill [(.int .i64 0),(.int .i64 0),(.int .u64 0)] [(0,1),(1,1),(2,1)] ps fun z'=>K (.agg z'.toArray):=xBuild_of bP_142 ps K
theorem bP_148:bPl Tryz.prog 148=some ([(.int .u64 0),(.int .u64 0),(.int .u64 0),(.int .u64 0),(.int .u64 0),(.int .u64 0),(.int .u64 0),(.int .u64 0),(.int .u64 0),(.int .u64 0),(.int .u64 0),(.int .u64 0),(.int .u64 0),(.int .u64 0),(.int .i64 0),(.int .i64 0),(.int .i64 0),(.int .i64 0),(.int .i64 0),(.int .i64 0),(.int .i64 0),(.int .i64 0),(.int .i64 0),(.int .i64 0),(.int .u64 0),(.int .u64 0),(.int .u64 0),(.int .u64 0),(.int .u64 0),(.int .i64 0),(.int .i64 0),(.bool false),(.slice none 0 0),(.slice none 0 0),(.slice none 0 0),(.slice none 0 0),(.slice none 0 0),(.slice none 0 0),(.slice none 0 0),(.slice none 0 0),(.slice none 0 0),(.int .i64 0),(.int .i64 0),(.bool false),(.int .u64 0),(.int .u64 0),(.int .u64 0),(.int .u64 0),(.int .u64 0),(.int .u64 0),(.int .u64 0),(.slice none 0 0),(.slice none 0 0),(.slice none 0 0),(.slice none 0 0),(.int .i64 0)],[(0,41),(41,14),(55,1)]):=by kernel_rfl
@[go_sem ↓] theorem xBuild_148 (ps:List (Nat×Value)) (K:Value→Prop):xBuild Tryz.prog 148 ps.toArray K=xFill [(.int .u64 0),(.int .u64 0),(.int .u64 0),(.int .u64 0),(.int .u64 0),(.int .u64 0),(.int .u64 0),(.int .u64 0),(.int .u64 0),(.int .u64 0),(.int .u64 0),(.int .u64 0),(.int .u64 0),(.int .u64 0),(.int .i64 0),(.int .i64 0),(.int .i64 0),(.int .i64 0),(.int .i64 0),(.int .i64 0),(.int .i64 0),(.int .i64 0),(.int .i64 0),(.int .i64 0),(.int .u64 0),(.int .u64 0),(.int .u64 0),(.int .u64 0),(.int .u64 0),(.int .i64 0),(.int .i64 0),(.bool false),(.slice none 0 0),(.slice none 0 0),(.slice none 0 0),(.slice none 0 0),(.slice none 0 0),(.slice none 0 0),(.slice none 0 0),(.slice none 0 0),(.slice none 0 0),(.int .i64 0),(.int .i64 0),(.bool false),(.int .u64 0),(.int .u64 0),(.int .u64 0),(.int .u64 0),(.int .u64 0),(.int .u64 0),(.int .u64 0),(.slice none 0 0),(.slice none 0 0),(.slice none 0 0),(.slice none 0 0),(.int .i64 0)] [(0,41),(41,14),(55,1)] ps fun z'=>K (.agg z'.toArray):=xBuild_of bP_148 ps K
theorem bP_161:bPl Tryz.prog 161=some ([(.int .i64 0),(.int .i64 0),(.int .u64 0),(.int .u64 0),(.int .u64 0),(.int .u64 0),(.int .u64 0),(.int .u64 0),(.int .u64 0),(.int .u64 0),(.int .u64 0),(.int .u64 0),(.int .u64 0),(.int .u64 0),(.int .u64 0),(.int .u64 0),(.int .i64 0),(.int .i64 0),(.int .i64 0),(.int .i64 0),(.int .i64 0),(.int .i64 0),(.int .i64 0),(.int .i64 0),(.int .i64 0),(.int .i64 0),(.int .i64 0),(.int .u64 0),(.int .i64 0),(.int .i64 0),(.int .i64 0),(.slice none 0 0),(.slice none 0 0)],[(0,1),(1,1),(2,24),(26,1),(27,1),(28,1),(29,1),(30,1),(31,1),(32,1)]):=by kernel_rfl
@[go_sem ↓] theorem xBuild_161 (ps:List (Nat×Value)) (K:Value→Prop):xBuild Tryz.prog 161 ps.toArray K=xFill [(.int .i64 0),(.int .i64 0),(.int .u64 0),(.int .u64 0),(.int .u64 0),(.int .u64 0),(.int .u64 0),(.int .u64 0),(.int .u64 0),(.int .u64 0),(.int .u64 0),(.int .u64 0),(.int .u64 0),(.int .u64 0),(.int .u64 0),(.int .u64 0),(.int .i64 0),(.int .i64 0),(.int .i64 0),(.int .i64 0),(.int .i64 0),(.int .i64 0),(.int .i64 0),(.int .i64 0),(.int .i64 0),(.int .i64 0),(.int .i64 0),(.int .u64 0),(.int .i64 0),(.int .i64 0),(.int .i64 0),(.slice none 0 0),(.slice none 0 0)] [(0,1),(1,1),(2,24),(26,1),(27,1),(28,1),(29,1),(30,1),(31,1),(32,1)] ps fun z'=>K (.agg z'.toArray):=xBuild_of bP_161 ps K
theorem bP_190:bPl Tryz.prog 190=some ([(.int .u64 0),(.int .u64 0),(.int .u64 0),(.int .u64 0),(.int .u64 0)],[(0,1),(1,1),(2,1),(3,1),(4,1)]):=by kernel_rfl
@[go_sem ↓] theorem xBuild_190 (ps:List (Nat×Value)) (K:Value→Prop):xBuild Tryz.prog 190 ps.toArray K=xFill [(.int .u64 0),(.int .u64 0),(.int .u64 0),(.int .u64 0),(.int .u64 0)] [(0,1),(1,1),(2,1),(3,1),(4,1)] ps fun z'=>K (.agg z'.toArray):=xBuild_of bP_190 ps K
theorem bP_312:bPl Tryz.prog 312=some ([(.int .u64 0),(.int .u64 0),(.int .u64 0),(.int .u64 0),(.int .u64 0),(.int .u64 0),(.int .u64 0),(.int .u64 0),(.int .u64 0),(.int .u64 0),(.int .u64 0),(.int .u64 0),(.int .u64 0),(.int .u64 0),(.int .i64 0),(.int .i64 0),(.int .i64 0),(.int .i64 0),(.int .i64 0),(.int .i64 0),(.int .i64 0),(.int .i64 0),(.int .i64 0),(.int .i64 0)],[(0,24)]):=by kernel_rfl
@[go_sem ↓] theorem xBuild_312 (ps:List (Nat×Value)) (K:Value→Prop):xBuild Tryz.prog 312 ps.toArray K=xFill [(.int .u64 0),(.int .u64 0),(.int .u64 0),(.int .u64 0),(.int .u64 0),(.int .u64 0),(.int .u64 0),(.int .u64 0),(.int .u64 0),(.int .u64 0),(.int .u64 0),(.int .u64 0),(.int .u64 0),(.int .u64 0),(.int .i64 0),(.int .i64 0),(.int .i64 0),(.int .i64 0),(.int .i64 0),(.int .i64 0),(.int .i64 0),(.int .i64 0),(.int .i64 0),(.int .i64 0)] [(0,24)] ps fun z'=>K (.agg z'.toArray):=xBuild_of bP_312 ps K
theorem bP_318:bPl Tryz.prog 318=some ([(.int .u64 0),(.int .u64 0),(.int .u64 0),(.int .i64 0),(.int .i64 0),(.int .i64 0)],[(0,6)]):=by kernel_rfl
@[go_sem ↓] theorem xBuild_318 (ps:List (Nat×Value)) (K:Value→Prop):xBuild Tryz.prog 318 ps.toArray K=xFill [(.int .u64 0),(.int .u64 0),(.int .u64 0),(.int .i64 0),(.int .i64 0),(.int .i64 0)] [(0,6)] ps fun z'=>K (.agg z'.toArray):=xBuild_of bP_318 ps K
theorem bP_327:bPl Tryz.prog 327=some ([(.int .u64 0),(.int .u64 0),(.int .u64 0),(.int .i64 0),(.int .u64 0),(.int .u64 0),(.int .u64 0),(.int .u64 0),(.int .u64 0),(.int .u64 0),(.int .u64 0),(.int .u64 0),(.int .u64 0),(.int .u64 0),(.int .u64 0),(.int .u64 0),(.int .u64 0),(.int .u64 0),(.int .i64 0),(.int .i64 0),(.int .i64 0),(.int .i64 0),(.int .i64 0),(.int .i64 0),(.int .i64 0),(.int .i64 0),(.int .i64 0),(.int .i64 0)],[(0,4),(4,24)]):=by kernel_rfl
@[go_sem ↓] theorem xBuild_327 (ps:List (Nat×Value)) (K:Value→Prop):xBuild Tryz.prog 327 ps.toArray K=xFill [(.int .u64 0),(.int .u64 0),(.int .u64 0),(.int .i64 0),(.int .u64 0),(.int .u64 0),(.int .u64 0),(.int .u64 0),(.int .u64 0),(.int .u64 0),(.int .u64 0),(.int .u64 0),(.int .u64 0),(.int .u64 0),(.int .u64 0),(.int .u64 0),(.int .u64 0),(.int .u64 0),(.int .i64 0),(.int .i64 0),(.int .i64 0),(.int .i64 0),(.int .i64 0),(.int .i64 0),(.int .i64 0),(.int .i64 0),(.int .i64 0),(.int .i64 0)] [(0,4),(4,24)] ps fun z'=>K (.agg z'.toArray):=xBuild_of bP_327 ps K
theorem bP_348:bPl Tryz.prog 348=some ([(.int .u64 0),(.int .u64 0),(.int .u64 0)],[(0,1),(1,1),(2,1)]):=by kernel_rfl
@[go_sem ↓] theorem xBuild_348 (ps:List (Nat×Value)) (K:Value→Prop):xBuild Tryz.prog 348 ps.toArray K=xFill [(.int .u64 0),(.int .u64 0),(.int .u64 0)] [(0,1),(1,1),(2,1)] ps fun z'=>K (.agg z'.toArray):=xBuild_of bP_348 ps K
theorem bP_399:bPl Tryz.prog 399=some ([(.int .u64 0),(.int .u64 0)],[(0,1),(1,1)]):=by kernel_rfl
@[go_sem ↓] theorem xBuild_399 (ps:List (Nat×Value)) (K:Value→Prop):xBuild Tryz.prog 399 ps.toArray K=xFill [(.int .u64 0),(.int .u64 0)] [(0,1),(1,1)] ps fun z'=>K (.agg z'.toArray):=xBuild_of bP_399 ps K
theorem bP_410:bPl Tryz.prog 410=some ([(.int .u64 0),(.int .u64 0),(.int .u64 0),(.int .i64 0),(.int .u64 0),(.int .u64 0),(.int .u64 0),(.int .u64 0),(.int .u64 0),(.int .u64 0),(.int .u64 0),(.int .u64 0),(.int .u64 0),(.int .u64 0),(.int .u64 0),(.int .u64 0),(.int .u64 0),(.int .u64 0),(.int .i64 0),(.int .i64 0),(.int .i64 0),(.int .i64 0),(.int .i64 0),(.int .i64 0),(.int .i64 0),(.int .i64 0),(.int .i64 0),(.int .i64 0),(.int .i64 0)],[(0,4),(4,24),(28,1)]):=by kernel_rfl
@[go_sem ↓] theorem xBuild_410 (ps:List (Nat×Value)) (K:Value→Prop):xBuild Tryz.prog 410 ps.toArray K=xFill [(.int .u64 0),(.int .u64 0),(.int .u64 0),(.int .i64 0),(.int .u64 0),(.int .u64 0),(.int .u64 0),(.int .u64 0),(.int .u64 0),(.int .u64 0),(.int .u64 0),(.int .u64 0),(.int .u64 0),(.int .u64 0),(.int .u64 0),(.int .u64 0),(.int .u64 0),(.int .u64 0),(.int .i64 0),(.int .i64 0),(.int .i64 0),(.int .i64 0),(.int .i64 0),(.int .i64 0),(.int .i64 0),(.int .i64 0),(.int .i64 0),(.int .i64 0),(.int .i64 0)] [(0,4),(4,24),(28,1)] ps fun z'=>K (.agg z'.toArray):=xBuild_of bP_410 ps K
theorem bP_417:bPl Tryz.prog 417=some ([(.slice none 0 0)],[(0,1)]):=by kernel_rfl
@[go_sem ↓] theorem xBuild_417 (ps:List (Nat×Value)) (K:Value→Prop):xBuild Tryz.prog 417 ps.toArray K=xFill [(.slice none 0 0)] [(0,1)] ps fun z'=>K (.agg z'.toArray):=xBuild_of bP_417 ps K
theorem bP_448:bPl Tryz.prog 448=some ([(.int .u64 0),(.int .u64 0),(.int .u64 0)],[(0,2),(2,1)]):=by kernel_rfl
@[go_sem ↓] theorem xBuild_448 (ps:List (Nat×Value)) (K:Value→Prop):xBuild Tryz.prog 448 ps.toArray K=xFill [(.int .u64 0),(.int .u64 0),(.int .u64 0)] [(0,2),(2,1)] ps fun z'=>K (.agg z'.toArray):=xBuild_of bP_448 ps K
theorem bS_25_0:bSl Tryz.prog 25 0=some (22,[],[]):=by kernel_rfl
@[go_sem ↓] theorem xBS_25_0 (ps:List (Nat×Value)) (K:TypeId→List Value→Prop):xBS Tryz.prog 25 0 ps.toArray K=xFill [] [] ps fun cs=>K 22 cs:=xBS_of bS_25_0 ps K
theorem bS_25_1:bSl Tryz.prog 25 1=some (22,[(.int .u64 0)],[(0,1)]):=by kernel_rfl
@[go_sem ↓] theorem xBS_25_1 (ps:List (Nat×Value)) (K:TypeId→List Value→Prop):xBS Tryz.prog 25 1 ps.toArray K=xFill [(.int .u64 0)] [(0,1)] ps fun cs=>K 22 cs:=xBS_of bS_25_1 ps K
theorem bS_25_2:bSl Tryz.prog 25 2=some (22,[(.int .u64 0),(.int .u64 0)],[(0,1),(1,1)]):=by kernel_rfl
@[go_sem ↓] theorem xBS_25_2 (ps:List (Nat×Value)) (K:TypeId→List Value→Prop):xBS Tryz.prog 25 2 ps.toArray K=xFill [(.int .u64 0),(.int .u64 0)] [(0,1),(1,1)] ps fun cs=>K 22 cs:=xBS_of bS_25_2 ps K
theorem bS_25_3:bSl Tryz.prog 25 3=some (22,[(.int .u64 0),(.int .u64 0),(.int .u64 0)],[(0,1),(1,1),(2,1)]):=by kernel_rfl
@[go_sem ↓] theorem xBS_25_3 (ps:List (Nat×Value)) (K:TypeId→List Value→Prop):xBS Tryz.prog 25 3 ps.toArray K=xFill [(.int .u64 0),(.int .u64 0),(.int .u64 0)] [(0,1),(1,1),(2,1)] ps fun cs=>K 22 cs:=xBS_of bS_25_3 ps K
theorem bS_25_5:bSl Tryz.prog 25 5=some (22,[(.int .u64 0),(.int .u64 0),(.int .u64 0),(.int .u64 0),(.int .u64 0)],[(0,1),(1,1),(2,1),(3,1),(4,1)]):=by kernel_rfl
@[go_sem ↓] theorem xBS_25_5 (ps:List (Nat×Value)) (K:TypeId→List Value→Prop):xBS Tryz.prog 25 5 ps.toArray K=xFill [(.int .u64 0),(.int .u64 0),(.int .u64 0),(.int .u64 0),(.int .u64 0)] [(0,1),(1,1),(2,1),(3,1),(4,1)] ps fun cs=>K 22 cs:=xBS_of bS_25_5 ps K
theorem bS_26_2:bSl Tryz.prog 26 2=some (105,[(.int .i64 0),(.int .u64 0),(.int .i64 0),(.int .u64 0)],[(0,2),(2,2)]):=by kernel_rfl
@[go_sem ↓] theorem xBS_26_2 (ps:List (Nat×Value)) (K:TypeId→List Value→Prop):xBS Tryz.prog 26 2 ps.toArray K=xFill [(.int .i64 0),(.int .u64 0),(.int .i64 0),(.int .u64 0)] [(0,2),(2,2)] ps fun cs=>K 105 cs:=xBS_of bS_26_2 ps K
theorem bS_31_0:bSl Tryz.prog 31 0=some (73,[],[]):=by kernel_rfl
@[go_sem ↓] theorem xBS_31_0 (ps:List (Nat×Value)) (K:TypeId→List Value→Prop):xBS Tryz.prog 31 0 ps.toArray K=xFill [] [] ps fun cs=>K 73 cs:=xBS_of bS_31_0 ps K
theorem bS_31_1:bSl Tryz.prog 31 1=some (73,[(.int .u64 0),(.int .u64 0),(.int .u64 0),(.int .i64 0),(.int .i64 0),(.int .i64 0)],[(0,6)]):=by kernel_rfl
@[go_sem ↓] theorem xBS_31_1 (ps:List (Nat×Value)) (K:TypeId→List Value→Prop):xBS Tryz.prog 31 1 ps.toArray K=xFill [(.int .u64 0),(.int .u64 0),(.int .u64 0),(.int .i64 0),(.int .i64 0),(.int .i64 0)] [(0,6)] ps fun cs=>K 73 cs:=xBS_of bS_31_1 ps K
theorem bS_32_0:bSl Tryz.prog 32 0=some (3,[],[]):=by kernel_rfl
@[go_sem ↓] theorem xBS_32_0 (ps:List (Nat×Value)) (K:TypeId→List Value→Prop):xBS Tryz.prog 32 0 ps.toArray K=xFill [] [] ps fun cs=>K 3 cs:=xBS_of bS_32_0 ps K
theorem bS_32_1:bSl Tryz.prog 32 1=some (3,[(.int .i64 0)],[(0,1)]):=by kernel_rfl
@[go_sem ↓] theorem xBS_32_1 (ps:List (Nat×Value)) (K:TypeId→List Value→Prop):xBS Tryz.prog 32 1 ps.toArray K=xFill [(.int .i64 0)] [(0,1)] ps fun cs=>K 3 cs:=xBS_of bS_32_1 ps K
theorem bS_33_0:bSl Tryz.prog 33 0=some (139,[],[]):=by kernel_rfl
@[go_sem ↓] theorem xBS_33_0 (ps:List (Nat×Value)) (K:TypeId→List Value→Prop):xBS Tryz.prog 33 0 ps.toArray K=xFill [] [] ps fun cs=>K 139 cs:=xBS_of bS_33_0 ps K
theorem bS_33_1:bSl Tryz.prog 33 1=some (139,[(.int .i64 0),(.int .i64 0),(.int .u64 0),(.bool false)],[(0,4)]):=by kernel_rfl
@[go_sem ↓] theorem xBS_33_1 (ps:List (Nat×Value)) (K:TypeId→List Value→Prop):xBS Tryz.prog 33 1 ps.toArray K=xFill [(.int .i64 0),(.int .i64 0),(.int .u64 0),(.bool false)] [(0,4)] ps fun cs=>K 139 cs:=xBS_of bS_33_1 ps K
theorem bS_34_0:bSl Tryz.prog 34 0=some (142,[],[]):=by kernel_rfl
@[go_sem ↓] theorem xBS_34_0 (ps:List (Nat×Value)) (K:TypeId→List Value→Prop):xBS Tryz.prog 34 0 ps.toArray K=xFill [] [] ps fun cs=>K 142 cs:=xBS_of bS_34_0 ps K
theorem bS_34_1:bSl Tryz.prog 34 1=some (142,[(.int .i64 0),(.int .i64 0),(.int .u64 0)],[(0,3)]):=by kernel_rfl
@[go_sem ↓] theorem xBS_34_1 (ps:List (Nat×Value)) (K:TypeId→List Value→Prop):xBS Tryz.prog 34 1 ps.toArray K=xFill [(.int .i64 0),(.int .i64 0),(.int .u64 0)] [(0,3)] ps fun cs=>K 142 cs:=xBS_of bS_34_1 ps K
theorem bS_35_0:bSl Tryz.prog 35 0=some (75,[],[]):=by kernel_rfl
@[go_sem ↓] theorem xBS_35_0 (ps:List (Nat×Value)) (K:TypeId→List Value→Prop):xBS Tryz.prog 35 0 ps.toArray K=xFill [] [] ps fun cs=>K 75 cs:=xBS_of bS_35_0 ps K
theorem bS_36_0:bSl Tryz.prog 36 0=some (5,[],[]):=by kernel_rfl
@[go_sem ↓] theorem xBS_36_0 (ps:List (Nat×Value)) (K:TypeId→List Value→Prop):xBS Tryz.prog 36 0 ps.toArray K=xFill [] [] ps fun cs=>K 5 cs:=xBS_of bS_36_0 ps K
theorem bS_37_0:bSl Tryz.prog 37 0=some (36,[],[]):=by kernel_rfl
@[go_sem ↓] theorem xBS_37_0 (ps:List (Nat×Value)) (K:TypeId→List Value→Prop):xBS Tryz.prog 37 0 ps.toArray K=xFill [] [] ps fun cs=>K 36 cs:=xBS_of bS_37_0 ps K
theorem bS_37_1:bSl Tryz.prog 37 1=some (36,[(.slice none 0 0)],[(0,1)]):=by kernel_rfl
@[go_sem ↓] theorem xBS_37_1 (ps:List (Nat×Value)) (K:TypeId→List Value→Prop):xBS Tryz.prog 37 1 ps.toArray K=xFill [(.slice none 0 0)] [(0,1)] ps fun cs=>K 36 cs:=xBS_of bS_37_1 ps K
theorem bS_44_1:bSl Tryz.prog 44 1=some (120,[(.int .u64 0),(.int .u64 0),(.int .u64 0),(.int .i64 0),(.int .i64 0),(.int .i64 0)],[(0,6)]):=by kernel_rfl
@[go_sem ↓] theorem xBS_44_1 (ps:List (Nat×Value)) (K:TypeId→List Value→Prop):xBS Tryz.prog 44 1 ps.toArray K=xFill [(.int .u64 0),(.int .u64 0),(.int .u64 0),(.int .i64 0),(.int .i64 0),(.int .i64 0)] [(0,6)] ps fun cs=>K 120 cs:=xBS_of bS_44_1 ps K
theorem bS_45_1:bSl Tryz.prog 45 1=some (208,[(.int .i64 0),(.int .i64 0),(.int .u64 0),(.bool false)],[(0,4)]):=by kernel_rfl
@[go_sem ↓] theorem xBS_45_1 (ps:List (Nat×Value)) (K:TypeId→List Value→Prop):xBS Tryz.prog 45 1 ps.toArray K=xFill [(.int .i64 0),(.int .i64 0),(.int .u64 0),(.bool false)] [(0,4)] ps fun cs=>K 208 cs:=xBS_of bS_45_1 ps K
theorem bS_46_1:bSl Tryz.prog 46 1=some (209,[(.int .i64 0),(.int .i64 0),(.int .u64 0)],[(0,3)]):=by kernel_rfl
@[go_sem ↓] theorem xBS_46_1 (ps:List (Nat×Value)) (K:TypeId→List Value→Prop):xBS Tryz.prog 46 1 ps.toArray K=xFill [(.int .i64 0),(.int .i64 0),(.int .u64 0)] [(0,3)] ps fun cs=>K 209 cs:=xBS_of bS_46_1 ps K
theorem bS_47_1:bSl Tryz.prog 47 1=some (161,[(.int .i64 0),(.int .i64 0),(.int .u64 0),(.int .u64 0),(.int .u64 0),(.int .u64 0),(.int .u64 0),(.int .u64 0),(.int .u64 0),(.int .u64 0),(.int .u64 0),(.int .u64 0),(.int .u64 0),(.int .u64 0),(.int .u64 0),(.int .u64 0),(.int .i64 0),(.int .i64 0),(.int .i64 0),(.int .i64 0),(.int .i64 0),(.int .i64 0),(.int .i64 0),(.int .i64 0),(.int .i64 0),(.int .i64 0),(.int .i64 0),(.int .u64 0),(.int .i64 0),(.int .i64 0),(.int .i64 0),(.slice none 0 0),(.slice none 0 0)],[(0,33)]):=by kernel_rfl
@[go_sem ↓] theorem xBS_47_1 (ps:List (Nat×Value)) (K:TypeId→List Value→Prop):xBS Tryz.prog 47 1 ps.toArray K=xFill [(.int .i64 0),(.int .i64 0),(.int .u64 0),(.int .u64 0),(.int .u64 0),(.int .u64 0),(.int .u64 0),(.int .u64 0),(.int .u64 0),(.int .u64 0),(.int .u64 0),(.int .u64 0),(.int .u64 0),(.int .u64 0),(.int .u64 0),(.int .u64 0),(.int .i64 0),(.int .i64 0),(.int .i64 0),(.int .i64 0),(.int .i64 0),(.int .i64 0),(.int .i64 0),(.int .i64 0),(.int .i64 0),(.int .i64 0),(.int .i64 0),(.int .u64 0),(.int .i64 0),(.int .i64 0),(.int .i64 0),(.slice none 0 0),(.slice none 0 0)] [(0,33)] ps fun cs=>K 161 cs:=xBS_of bS_47_1 ps K
theorem bS_231_1:bSl Tryz.prog 231 1=some (71,[(.int .u64 0),(.int .u64 0),(.int .u64 0),(.int .i64 0)],[(0,4)]):=by kernel_rfl
@[go_sem ↓] theorem xBS_231_1 (ps:List (Nat×Value)) (K:TypeId→List Value→Prop):xBS Tryz.prog 231 1 ps.toArray K=xFill [(.int .u64 0),(.int .u64 0),(.int .u64 0),(.int .i64 0)] [(0,4)] ps fun cs=>K 71 cs:=xBS_of bS_231_1 ps K
theorem bS_292_6:bSl Tryz.prog 292 6=some (4,[(.bool false),(.bool false),(.bool false),(.bool false),(.bool false),(.bool false)],[(0,1),(1,1),(2,1),(3,1),(4,1),(5,1)]):=by kernel_rfl
@[go_sem ↓] theorem xBS_292_6 (ps:List (Nat×Value)) (K:TypeId→List Value→Prop):xBS Tryz.prog 292 6 ps.toArray K=xFill [(.bool false),(.bool false),(.bool false),(.bool false),(.bool false),(.bool false)] [(0,1),(1,1),(2,1),(3,1),(4,1),(5,1)] ps fun cs=>K 4 cs:=xBS_of bS_292_6 ps K
theorem bS_292_7:bSl Tryz.prog 292 7=some (4,[(.bool false),(.bool false),(.bool false),(.bool false),(.bool false),(.bool false),(.bool false)],[(0,1),(1,1),(2,1),(3,1),(4,1),(5,1),(6,1)]):=by kernel_rfl
@[go_sem ↓] theorem xBS_292_7 (ps:List (Nat×Value)) (K:TypeId→List Value→Prop):xBS Tryz.prog 292 7 ps.toArray K=xFill [(.bool false),(.bool false),(.bool false),(.bool false),(.bool false),(.bool false),(.bool false)] [(0,1),(1,1),(2,1),(3,1),(4,1),(5,1),(6,1)] ps fun cs=>K 4 cs:=xBS_of bS_292_7 ps K
theorem bS_292_12:bSl Tryz.prog 292 12=some (4,[(.bool false),(.bool false),(.bool false),(.bool false),(.bool false),(.bool false),(.bool false),(.bool false),(.bool false),(.bool false),(.bool false),(.bool false)],[(0,1),(1,1),(2,1),(3,1),(4,1),(5,1),(6,1),(7,1),(8,1),(9,1),(10,1),(11,1)]):=by kernel_rfl
@[go_sem ↓] theorem xBS_292_12 (ps:List (Nat×Value)) (K:TypeId→List Value→Prop):xBS Tryz.prog 292 12 ps.toArray K=xFill [(.bool false),(.bool false),(.bool false),(.bool false),(.bool false),(.bool false),(.bool false),(.bool false),(.bool false),(.bool false),(.bool false),(.bool false)] [(0,1),(1,1),(2,1),(3,1),(4,1),(5,1),(6,1),(7,1),(8,1),(9,1),(10,1),(11,1)] ps fun cs=>K 4 cs:=xBS_of bS_292_12 ps K
theorem bS_307_2:bSl Tryz.prog 307 2=some (40,[(.int .i64 0),(.int .i64 0)],[(0,1),(1,1)]):=by kernel_rfl
@[go_sem ↓] theorem xBS_307_2 (ps:List (Nat×Value)) (K:TypeId→List Value→Prop):xBS Tryz.prog 307 2 ps.toArray K=xFill [(.int .i64 0),(.int .i64 0)] [(0,1),(1,1)] ps fun cs=>K 40 cs:=xBS_of bS_307_2 ps K
theorem bS_307_4:bSl Tryz.prog 307 4=some (40,[(.int .i64 0),(.int .i64 0),(.int .i64 0),(.int .i64 0)],[(0,1),(1,1),(2,1),(3,1)]):=by kernel_rfl
@[go_sem ↓] theorem xBS_307_4 (ps:List (Nat×Value)) (K:TypeId→List Value→Prop):xBS Tryz.prog 307 4 ps.toArray K=xFill [(.int .i64 0),(.int .i64 0),(.int .i64 0),(.int .i64 0)] [(0,1),(1,1),(2,1),(3,1)] ps fun cs=>K 40 cs:=xBS_of bS_307_4 ps K
theorem fO_24_0:fOff Tryz.prog 24 0=some 0:=by kernel_rfl
@[go_sem ↓] theorem xFO_24_0 (K:Nat→Prop):xFO Tryz.prog 24 0 K=K 0:=xFO_of fO_24_0 K
theorem fO_24_1:fOff Tryz.prog 24 1=some 1:=by kernel_rfl
@[go_sem ↓] theorem xFO_24_1 (K:Nat→Prop):xFO Tryz.prog 24 1 K=K 1:=xFO_of fO_24_1 K
theorem fO_24_2:fOff Tryz.prog 24 2=some 2:=by kernel_rfl
@[go_sem ↓] theorem xFO_24_2 (K:Nat→Prop):xFO Tryz.prog 24 2 K=K 2:=xFO_of fO_24_2 K
theorem fO_24_3:fOff Tryz.prog 24 3=some 3:=by kernel_rfl
@[go_sem ↓] theorem xFO_24_3 (K:Nat→Prop):xFO Tryz.prog 24 3 K=K 3:=xFO_of fO_24_3 K
theorem fO_24_4:fOff Tryz.prog 24 4=some 4:=by kernel_rfl
@[go_sem ↓] theorem xFO_24_4 (K:Nat→Prop):xFO Tryz.prog 24 4 K=K 4:=xFO_of fO_24_4 K
theorem fO_24_5:fOff Tryz.prog 24 5=some 5:=by kernel_rfl
@[go_sem ↓] theorem xFO_24_5 (K:Nat→Prop):xFO Tryz.prog 24 5 K=K 5:=xFO_of fO_24_5 K
theorem fO_24_6:fOff Tryz.prog 24 6=some 6:=by kernel_rfl
@[go_sem ↓] theorem xFO_24_6 (K:Nat→Prop):xFO Tryz.prog 24 6 K=K 6:=xFO_of fO_24_6 K
theorem fO_24_7:fOff Tryz.prog 24 7=some 7:=by kernel_rfl
@[go_sem ↓] theorem xFO_24_7 (K:Nat→Prop):xFO Tryz.prog 24 7 K=K 7:=xFO_of fO_24_7 K
theorem fO_24_8:fOff Tryz.prog 24 8=some 8:=by kernel_rfl
@[go_sem ↓] theorem xFO_24_8 (K:Nat→Prop):xFO Tryz.prog 24 8 K=K 8:=xFO_of fO_24_8 K
theorem fO_24_9:fOff Tryz.prog 24 9=some 9:=by kernel_rfl
@[go_sem ↓] theorem xFO_24_9 (K:Nat→Prop):xFO Tryz.prog 24 9 K=K 9:=xFO_of fO_24_9 K
theorem fO_24_10:fOff Tryz.prog 24 10=some 10:=by kernel_rfl
@[go_sem ↓] theorem xFO_24_10 (K:Nat→Prop):xFO Tryz.prog 24 10 K=K 10:=xFO_of fO_24_10 K
theorem fO_24_11:fOff Tryz.prog 24 11=some 11:=by kernel_rfl
@[go_sem ↓] theorem xFO_24_11 (K:Nat→Prop):xFO Tryz.prog 24 11 K=K 11:=xFO_of fO_24_11 K
theorem fO_24_12:fOff Tryz.prog 24 12=some 12:=by kernel_rfl
@[go_sem ↓] theorem xFO_24_12 (K:Nat→Prop):xFO Tryz.prog 24 12 K=K 12:=xFO_of fO_24_12 K
theorem fO_24_13:fOff Tryz.prog 24 13=some 13:=by kernel_rfl
@[go_sem ↓] theorem xFO_24_13 (K:Nat→Prop):xFO Tryz.prog 24 13 K=K 13:=xFO_of fO_24_13 K
theorem fO_24_14:fOff Tryz.prog 24 14=some 14:=by kernel_rfl
@[go_sem ↓] theorem xFO_24_14 (K:Nat→Prop):xFO Tryz.prog 24 14 K=K 14:=xFO_of fO_24_14 K
theorem fO_24_15:fOff Tryz.prog 24 15=some 15:=by kernel_rfl
@[go_sem ↓] theorem xFO_24_15 (K:Nat→Prop):xFO Tryz.prog 24 15 K=K 15:=xFO_of fO_24_15 K
theorem fO_24_16:fOff Tryz.prog 24 16=some 16:=by kernel_rfl
@[go_sem ↓] theorem xFO_24_16 (K:Nat→Prop):xFO Tryz.prog 24 16 K=K 16:=xFO_of fO_24_16 K
theorem fO_24_17:fOff Tryz.prog 24 17=some 17:=by kernel_rfl
@[go_sem ↓] theorem xFO_24_17 (K:Nat→Prop):xFO Tryz.prog 24 17 K=K 17:=xFO_of fO_24_17 K
theorem fO_24_18:fOff Tryz.prog 24 18=some 18:=by kernel_rfl
@[go_sem ↓] theorem xFO_24_18 (K:Nat→Prop):xFO Tryz.prog 24 18 K=K 18:=xFO_of fO_24_18 K
theorem fO_24_19:fOff Tryz.prog 24 19=some 19:=by kernel_rfl
@[go_sem ↓] theorem xFO_24_19 (K:Nat→Prop):xFO Tryz.prog 24 19 K=K 19:=xFO_of fO_24_19 K
theorem fO_24_20:fOff Tryz.prog 24 20=some 20:=by kernel_rfl
@[go_sem ↓] theorem xFO_24_20 (K:Nat→Prop):xFO Tryz.prog 24 20 K=K 20:=xFO_of fO_24_20 K
theorem fO_24_21:fOff Tryz.prog 24 21=some 21:=by kernel_rfl
@[go_sem ↓] theorem xFO_24_21 (K:Nat→Prop):xFO Tryz.prog 24 21 K=K 21:=xFO_of fO_24_21 K
theorem fO_24_22:fOff Tryz.prog 24 22=some 22:=by kernel_rfl
@[go_sem ↓] theorem xFO_24_22 (K:Nat→Prop):xFO Tryz.prog 24 22 K=K 22:=xFO_of fO_24_22 K
theorem fO_24_23:fOff Tryz.prog 24 23=some 23:=by kernel_rfl
@[go_sem ↓] theorem xFO_24_23 (K:Nat→Prop):xFO Tryz.prog 24 23 K=K 23:=xFO_of fO_24_23 K
theorem fO_28_0:fOff Tryz.prog 28 0=some 0:=by kernel_rfl
@[go_sem ↓] theorem xFO_28_0 (K:Nat→Prop):xFO Tryz.prog 28 0 K=K 0:=xFO_of fO_28_0 K
theorem fO_28_1:fOff Tryz.prog 28 1=some 24:=by kernel_rfl
@[go_sem ↓] theorem xFO_28_1 (K:Nat→Prop):xFO Tryz.prog 28 1 K=K 24:=xFO_of fO_28_1 K
theorem fO_28_2:fOff Tryz.prog 28 2=some 25:=by kernel_rfl
@[go_sem ↓] theorem xFO_28_2 (K:Nat→Prop):xFO Tryz.prog 28 2 K=K 25:=xFO_of fO_28_2 K
theorem fO_28_3:fOff Tryz.prog 28 3=some 26:=by kernel_rfl
@[go_sem ↓] theorem xFO_28_3 (K:Nat→Prop):xFO Tryz.prog 28 3 K=K 26:=xFO_of fO_28_3 K
theorem fO_39_0:fOff Tryz.prog 39 0=some 0:=by kernel_rfl
@[go_sem ↓] theorem xFO_39_0 (K:Nat→Prop):xFO Tryz.prog 39 0 K=K 0:=xFO_of fO_39_0 K
theorem fO_39_1:fOff Tryz.prog 39 1=some 24:=by kernel_rfl
@[go_sem ↓] theorem xFO_39_1 (K:Nat→Prop):xFO Tryz.prog 39 1 K=K 24:=xFO_of fO_39_1 K
theorem fO_39_2:fOff Tryz.prog 39 2=some 25:=by kernel_rfl
@[go_sem ↓] theorem xFO_39_2 (K:Nat→Prop):xFO Tryz.prog 39 2 K=K 25:=xFO_of fO_39_2 K
theorem fO_39_3:fOff Tryz.prog 39 3=some 26:=by kernel_rfl
@[go_sem ↓] theorem xFO_39_3 (K:Nat→Prop):xFO Tryz.prog 39 3 K=K 26:=xFO_of fO_39_3 K
theorem fO_39_4:fOff Tryz.prog 39 4=some 27:=by kernel_rfl
@[go_sem ↓] theorem xFO_39_4 (K:Nat→Prop):xFO Tryz.prog 39 4 K=K 27:=xFO_of fO_39_4 K
theorem fO_39_5:fOff Tryz.prog 39 5=some 28:=by kernel_rfl
@[go_sem ↓] theorem xFO_39_5 (K:Nat→Prop):xFO Tryz.prog 39 5 K=K 28:=xFO_of fO_39_5 K
theorem fO_39_6:fOff Tryz.prog 39 6=some 29:=by kernel_rfl
@[go_sem ↓] theorem xFO_39_6 (K:Nat→Prop):xFO Tryz.prog 39 6 K=K 29:=xFO_of fO_39_6 K
theorem fO_39_7:fOff Tryz.prog 39 7=some 30:=by kernel_rfl
@[go_sem ↓] theorem xFO_39_7 (K:Nat→Prop):xFO Tryz.prog 39 7 K=K 30:=xFO_of fO_39_7 K
theorem fO_39_8:fOff Tryz.prog 39 8=some 31:=by kernel_rfl
@[go_sem ↓] theorem xFO_39_8 (K:Nat→Prop):xFO Tryz.prog 39 8 K=K 31:=xFO_of fO_39_8 K
theorem fO_39_9:fOff Tryz.prog 39 9=some 32:=by kernel_rfl
@[go_sem ↓] theorem xFO_39_9 (K:Nat→Prop):xFO Tryz.prog 39 9 K=K 32:=xFO_of fO_39_9 K
theorem fO_39_10:fOff Tryz.prog 39 10=some 33:=by kernel_rfl
@[go_sem ↓] theorem xFO_39_10 (K:Nat→Prop):xFO Tryz.prog 39 10 K=K 33:=xFO_of fO_39_10 K
theorem fO_39_11:fOff Tryz.prog 39 11=some 34:=by kernel_rfl
@[go_sem ↓] theorem xFO_39_11 (K:Nat→Prop):xFO Tryz.prog 39 11 K=K 34:=xFO_of fO_39_11 K
theorem fO_39_12:fOff Tryz.prog 39 12=some 35:=by kernel_rfl
@[go_sem ↓] theorem xFO_39_12 (K:Nat→Prop):xFO Tryz.prog 39 12 K=K 35:=xFO_of fO_39_12 K
theorem fO_39_13:fOff Tryz.prog 39 13=some 36:=by kernel_rfl
@[go_sem ↓] theorem xFO_39_13 (K:Nat→Prop):xFO Tryz.prog 39 13 K=K 36:=xFO_of fO_39_13 K
theorem fO_39_14:fOff Tryz.prog 39 14=some 37:=by kernel_rfl
@[go_sem ↓] theorem xFO_39_14 (K:Nat→Prop):xFO Tryz.prog 39 14 K=K 37:=xFO_of fO_39_14 K
theorem fO_39_15:fOff Tryz.prog 39 15=some 38:=by kernel_rfl
@[go_sem ↓] theorem xFO_39_15 (K:Nat→Prop):xFO Tryz.prog 39 15 K=K 38:=xFO_of fO_39_15 K
theorem fO_39_16:fOff Tryz.prog 39 16=some 39:=by kernel_rfl
@[go_sem ↓] theorem xFO_39_16 (K:Nat→Prop):xFO Tryz.prog 39 16 K=K 39:=xFO_of fO_39_16 K
theorem fO_39_17:fOff Tryz.prog 39 17=some 40:=by kernel_rfl
@[go_sem ↓] theorem xFO_39_17 (K:Nat→Prop):xFO Tryz.prog 39 17 K=K 40:=xFO_of fO_39_17 K
theorem fO_49_0:fOff Tryz.prog 49 0=some 0:=by kernel_rfl
@[go_sem ↓] theorem xFO_49_0 (K:Nat→Prop):xFO Tryz.prog 49 0 K=K 0:=xFO_of fO_49_0 K
theorem fO_49_1:fOff Tryz.prog 49 1=some 24:=by kernel_rfl
@[go_sem ↓] theorem xFO_49_1 (K:Nat→Prop):xFO Tryz.prog 49 1 K=K 24:=xFO_of fO_49_1 K
theorem fO_49_2:fOff Tryz.prog 49 2=some 25:=by kernel_rfl
@[go_sem ↓] theorem xFO_49_2 (K:Nat→Prop):xFO Tryz.prog 49 2 K=K 25:=xFO_of fO_49_2 K
theorem fO_49_3:fOff Tryz.prog 49 3=some 26:=by kernel_rfl
@[go_sem ↓] theorem xFO_49_3 (K:Nat→Prop):xFO Tryz.prog 49 3 K=K 26:=xFO_of fO_49_3 K
theorem fO_49_4:fOff Tryz.prog 49 4=some 27:=by kernel_rfl
@[go_sem ↓] theorem xFO_49_4 (K:Nat→Prop):xFO Tryz.prog 49 4 K=K 27:=xFO_of fO_49_4 K
theorem fO_49_5:fOff Tryz.prog 49 5=some 28:=by kernel_rfl
@[go_sem ↓] theorem xFO_49_5 (K:Nat→Prop):xFO Tryz.prog 49 5 K=K 28:=xFO_of fO_49_5 K
theorem fO_49_6:fOff Tryz.prog 49 6=some 29:=by kernel_rfl
@[go_sem ↓] theorem xFO_49_6 (K:Nat→Prop):xFO Tryz.prog 49 6 K=K 29:=xFO_of fO_49_6 K
theorem fO_49_7:fOff Tryz.prog 49 7=some 30:=by kernel_rfl
@[go_sem ↓] theorem xFO_49_7 (K:Nat→Prop):xFO Tryz.prog 49 7 K=K 30:=xFO_of fO_49_7 K
theorem fO_49_8:fOff Tryz.prog 49 8=some 31:=by kernel_rfl
@[go_sem ↓] theorem xFO_49_8 (K:Nat→Prop):xFO Tryz.prog 49 8 K=K 31:=xFO_of fO_49_8 K
theorem fO_49_9:fOff Tryz.prog 49 9=some 32:=by kernel_rfl
@[go_sem ↓] theorem xFO_49_9 (K:Nat→Prop):xFO Tryz.prog 49 9 K=K 32:=xFO_of fO_49_9 K
theorem fO_49_10:fOff Tryz.prog 49 10=some 33:=by kernel_rfl
@[go_sem ↓] theorem xFO_49_10 (K:Nat→Prop):xFO Tryz.prog 49 10 K=K 33:=xFO_of fO_49_10 K
theorem fO_49_11:fOff Tryz.prog 49 11=some 34:=by kernel_rfl
@[go_sem ↓] theorem xFO_49_11 (K:Nat→Prop):xFO Tryz.prog 49 11 K=K 34:=xFO_of fO_49_11 K
theorem fO_49_12:fOff Tryz.prog 49 12=some 35:=by kernel_rfl
@[go_sem ↓] theorem xFO_49_12 (K:Nat→Prop):xFO Tryz.prog 49 12 K=K 35:=xFO_of fO_49_12 K
theorem fO_49_13:fOff Tryz.prog 49 13=some 36:=by kernel_rfl
@[go_sem ↓] theorem xFO_49_13 (K:Nat→Prop):xFO Tryz.prog 49 13 K=K 36:=xFO_of fO_49_13 K
theorem fO_49_14:fOff Tryz.prog 49 14=some 37:=by kernel_rfl
@[go_sem ↓] theorem xFO_49_14 (K:Nat→Prop):xFO Tryz.prog 49 14 K=K 37:=xFO_of fO_49_14 K
theorem fO_49_15:fOff Tryz.prog 49 15=some 38:=by kernel_rfl
@[go_sem ↓] theorem xFO_49_15 (K:Nat→Prop):xFO Tryz.prog 49 15 K=K 38:=xFO_of fO_49_15 K
theorem fO_49_16:fOff Tryz.prog 49 16=some 39:=by kernel_rfl
@[go_sem ↓] theorem xFO_49_16 (K:Nat→Prop):xFO Tryz.prog 49 16 K=K 39:=xFO_of fO_49_16 K
theorem fO_49_17:fOff Tryz.prog 49 17=some 40:=by kernel_rfl
@[go_sem ↓] theorem xFO_49_17 (K:Nat→Prop):xFO Tryz.prog 49 17 K=K 40:=xFO_of fO_49_17 K
theorem fO_61_1:fOff Tryz.prog 61 1=some 1:=by kernel_rfl
@[go_sem ↓] theorem xFO_61_1 (K:Nat→Prop):xFO Tryz.prog 61 1 K=K 1:=xFO_of fO_61_1 K
theorem fO_61_2:fOff Tryz.prog 61 2=some 2:=by kernel_rfl
@[go_sem ↓] theorem xFO_61_2 (K:Nat→Prop):xFO Tryz.prog 61 2 K=K 2:=xFO_of fO_61_2 K
theorem fO_61_3:fOff Tryz.prog 61 3=some 3:=by kernel_rfl
@[go_sem ↓] theorem xFO_61_3 (K:Nat→Prop):xFO Tryz.prog 61 3 K=K 3:=xFO_of fO_61_3 K
theorem fO_61_4:fOff Tryz.prog 61 4=some 4:=by kernel_rfl
@[go_sem ↓] theorem xFO_61_4 (K:Nat→Prop):xFO Tryz.prog 61 4 K=K 4:=xFO_of fO_61_4 K
theorem fO_61_5:fOff Tryz.prog 61 5=some 5:=by kernel_rfl
@[go_sem ↓] theorem xFO_61_5 (K:Nat→Prop):xFO Tryz.prog 61 5 K=K 5:=xFO_of fO_61_5 K
theorem fO_61_6:fOff Tryz.prog 61 6=some 6:=by kernel_rfl
@[go_sem ↓] theorem xFO_61_6 (K:Nat→Prop):xFO Tryz.prog 61 6 K=K 6:=xFO_of fO_61_6 K
theorem fO_61_7:fOff Tryz.prog 61 7=some 7:=by kernel_rfl
@[go_sem ↓] theorem xFO_61_7 (K:Nat→Prop):xFO Tryz.prog 61 7 K=K 7:=xFO_of fO_61_7 K
theorem fO_61_8:fOff Tryz.prog 61 8=some 8:=by kernel_rfl
@[go_sem ↓] theorem xFO_61_8 (K:Nat→Prop):xFO Tryz.prog 61 8 K=K 8:=xFO_of fO_61_8 K
theorem fO_61_9:fOff Tryz.prog 61 9=some 9:=by kernel_rfl
@[go_sem ↓] theorem xFO_61_9 (K:Nat→Prop):xFO Tryz.prog 61 9 K=K 9:=xFO_of fO_61_9 K
theorem fO_61_10:fOff Tryz.prog 61 10=some 10:=by kernel_rfl
@[go_sem ↓] theorem xFO_61_10 (K:Nat→Prop):xFO Tryz.prog 61 10 K=K 10:=xFO_of fO_61_10 K
theorem fO_61_11:fOff Tryz.prog 61 11=some 11:=by kernel_rfl
@[go_sem ↓] theorem xFO_61_11 (K:Nat→Prop):xFO Tryz.prog 61 11 K=K 11:=xFO_of fO_61_11 K
theorem fO_61_12:fOff Tryz.prog 61 12=some 12:=by kernel_rfl
@[go_sem ↓] theorem xFO_61_12 (K:Nat→Prop):xFO Tryz.prog 61 12 K=K 12:=xFO_of fO_61_12 K
theorem fO_61_13:fOff Tryz.prog 61 13=some 13:=by kernel_rfl
@[go_sem ↓] theorem xFO_61_13 (K:Nat→Prop):xFO Tryz.prog 61 13 K=K 13:=xFO_of fO_61_13 K
theorem fO_71_0:fOff Tryz.prog 71 0=some 0:=by kernel_rfl
@[go_sem ↓] theorem xFO_71_0 (K:Nat→Prop):xFO Tryz.prog 71 0 K=K 0:=xFO_of fO_71_0 K
theorem fO_71_1:fOff Tryz.prog 71 1=some 1:=by kernel_rfl
@[go_sem ↓] theorem xFO_71_1 (K:Nat→Prop):xFO Tryz.prog 71 1 K=K 1:=xFO_of fO_71_1 K
theorem fO_71_2:fOff Tryz.prog 71 2=some 2:=by kernel_rfl
@[go_sem ↓] theorem xFO_71_2 (K:Nat→Prop):xFO Tryz.prog 71 2 K=K 2:=xFO_of fO_71_2 K
theorem fO_71_3:fOff Tryz.prog 71 3=some 3:=by kernel_rfl
@[go_sem ↓] theorem xFO_71_3 (K:Nat→Prop):xFO Tryz.prog 71 3 K=K 3:=xFO_of fO_71_3 K
theorem fO_73_0:fOff Tryz.prog 73 0=some 0:=by kernel_rfl
@[go_sem ↓] theorem xFO_73_0 (K:Nat→Prop):xFO Tryz.prog 73 0 K=K 0:=xFO_of fO_73_0 K
theorem fO_73_1:fOff Tryz.prog 73 1=some 4:=by kernel_rfl
@[go_sem ↓] theorem xFO_73_1 (K:Nat→Prop):xFO Tryz.prog 73 1 K=K 4:=xFO_of fO_73_1 K
theorem fO_73_2:fOff Tryz.prog 73 2=some 5:=by kernel_rfl
@[go_sem ↓] theorem xFO_73_2 (K:Nat→Prop):xFO Tryz.prog 73 2 K=K 5:=xFO_of fO_73_2 K
theorem fO_75_0:fOff Tryz.prog 75 0=some 0:=by kernel_rfl
@[go_sem ↓] theorem xFO_75_0 (K:Nat→Prop):xFO Tryz.prog 75 0 K=K 0:=xFO_of fO_75_0 K
theorem fO_75_1:fOff Tryz.prog 75 1=some 1:=by kernel_rfl
@[go_sem ↓] theorem xFO_75_1 (K:Nat→Prop):xFO Tryz.prog 75 1 K=K 1:=xFO_of fO_75_1 K
theorem fO_75_2:fOff Tryz.prog 75 2=some 2:=by kernel_rfl
@[go_sem ↓] theorem xFO_75_2 (K:Nat→Prop):xFO Tryz.prog 75 2 K=K 2:=xFO_of fO_75_2 K
theorem fO_75_3:fOff Tryz.prog 75 3=some 26:=by kernel_rfl
@[go_sem ↓] theorem xFO_75_3 (K:Nat→Prop):xFO Tryz.prog 75 3 K=K 26:=xFO_of fO_75_3 K
theorem fO_75_4:fOff Tryz.prog 75 4=some 27:=by kernel_rfl
@[go_sem ↓] theorem xFO_75_4 (K:Nat→Prop):xFO Tryz.prog 75 4 K=K 27:=xFO_of fO_75_4 K
theorem fO_75_5:fOff Tryz.prog 75 5=some 28:=by kernel_rfl
@[go_sem ↓] theorem xFO_75_5 (K:Nat→Prop):xFO Tryz.prog 75 5 K=K 28:=xFO_of fO_75_5 K
theorem fO_75_6:fOff Tryz.prog 75 6=some 29:=by kernel_rfl
@[go_sem ↓] theorem xFO_75_6 (K:Nat→Prop):xFO Tryz.prog 75 6 K=K 29:=xFO_of fO_75_6 K
theorem fO_75_7:fOff Tryz.prog 75 7=some 30:=by kernel_rfl
@[go_sem ↓] theorem xFO_75_7 (K:Nat→Prop):xFO Tryz.prog 75 7 K=K 30:=xFO_of fO_75_7 K
theorem fO_75_8:fOff Tryz.prog 75 8=some 31:=by kernel_rfl
@[go_sem ↓] theorem xFO_75_8 (K:Nat→Prop):xFO Tryz.prog 75 8 K=K 31:=xFO_of fO_75_8 K
theorem fO_75_9:fOff Tryz.prog 75 9=some 32:=by kernel_rfl
@[go_sem ↓] theorem xFO_75_9 (K:Nat→Prop):xFO Tryz.prog 75 9 K=K 32:=xFO_of fO_75_9 K
theorem fO_105_0:fOff Tryz.prog 105 0=some 0:=by kernel_rfl
@[go_sem ↓] theorem xFO_105_0 (K:Nat→Prop):xFO Tryz.prog 105 0 K=K 0:=xFO_of fO_105_0 K
theorem fO_105_1:fOff Tryz.prog 105 1=some 1:=by kernel_rfl
@[go_sem ↓] theorem xFO_105_1 (K:Nat→Prop):xFO Tryz.prog 105 1 K=K 1:=xFO_of fO_105_1 K
theorem fO_134_0:fOff Tryz.prog 134 0=some 0:=by kernel_rfl
@[go_sem ↓] theorem xFO_134_0 (K:Nat→Prop):xFO Tryz.prog 134 0 K=K 0:=xFO_of fO_134_0 K
theorem fO_139_0:fOff Tryz.prog 139 0=some 0:=by kernel_rfl
@[go_sem ↓] theorem xFO_139_0 (K:Nat→Prop):xFO Tryz.prog 139 0 K=K 0:=xFO_of fO_139_0 K
theorem fO_139_1:fOff Tryz.prog 139 1=some 1:=by kernel_rfl
@[go_sem ↓] theorem xFO_139_1 (K:Nat→Prop):xFO Tryz.prog 139 1 K=K 1:=xFO_of fO_139_1 K
theorem fO_139_2:fOff Tryz.prog 139 2=some 2:=by kernel_rfl
@[go_sem ↓] theorem xFO_139_2 (K:Nat→Prop):xFO Tryz.prog 139 2 K=K 2:=xFO_of fO_139_2 K
theorem fO_139_3:fOff Tryz.prog 139 3=some 3:=by kernel_rfl
@[go_sem ↓] theorem xFO_139_3 (K:Nat→Prop):xFO Tryz.prog 139 3 K=K 3:=xFO_of fO_139_3 K
theorem fO_142_0:fOff Tryz.prog 142 0=some 0:=by kernel_rfl
@[go_sem ↓] theorem xFO_142_0 (K:Nat→Prop):xFO Tryz.prog 142 0 K=K 0:=xFO_of fO_142_0 K
theorem fO_142_1:fOff Tryz.prog 142 1=some 1:=by kernel_rfl
@[go_sem ↓] theorem xFO_142_1 (K:Nat→Prop):xFO Tryz.prog 142 1 K=K 1:=xFO_of fO_142_1 K
theorem fO_142_2:fOff Tryz.prog 142 2=some 2:=by kernel_rfl
@[go_sem ↓] theorem xFO_142_2 (K:Nat→Prop):xFO Tryz.prog 142 2 K=K 2:=xFO_of fO_142_2 K
theorem fO_148_0:fOff Tryz.prog 148 0=some 0:=by kernel_rfl
@[go_sem ↓] theorem xFO_148_0 (K:Nat→Prop):xFO Tryz.prog 148 0 K=K 0:=xFO_of fO_148_0 K
theorem fO_148_1:fOff Tryz.prog 148 1=some 41:=by kernel_rfl
@[go_sem ↓] theorem xFO_148_1 (K:Nat→Prop):xFO Tryz.prog 148 1 K=K 41:=xFO_of fO_148_1 K
theorem fO_148_2:fOff Tryz.prog 148 2=some 55:=by kernel_rfl
@[go_sem ↓] theorem xFO_148_2 (K:Nat→Prop):xFO Tryz.prog 148 2 K=K 55:=xFO_of fO_148_2 K
theorem fO_161_0:fOff Tryz.prog 161 0=some 0:=by kernel_rfl
@[go_sem ↓] theorem xFO_161_0 (K:Nat→Prop):xFO Tryz.prog 161 0 K=K 0:=xFO_of fO_161_0 K
theorem fO_161_1:fOff Tryz.prog 161 1=some 1:=by kernel_rfl
@[go_sem ↓] theorem xFO_161_1 (K:Nat→Prop):xFO Tryz.prog 161 1 K=K 1:=xFO_of fO_161_1 K
theorem fO_161_2:fOff Tryz.prog 161 2=some 2:=by kernel_rfl
@[go_sem ↓] theorem xFO_161_2 (K:Nat→Prop):xFO Tryz.prog 161 2 K=K 2:=xFO_of fO_161_2 K
theorem fO_161_3:fOff Tryz.prog 161 3=some 26:=by kernel_rfl
@[go_sem ↓] theorem xFO_161_3 (K:Nat→Prop):xFO Tryz.prog 161 3 K=K 26:=xFO_of fO_161_3 K
theorem fO_161_4:fOff Tryz.prog 161 4=some 27:=by kernel_rfl
@[go_sem ↓] theorem xFO_161_4 (K:Nat→Prop):xFO Tryz.prog 161 4 K=K 27:=xFO_of fO_161_4 K
theorem fO_161_5:fOff Tryz.prog 161 5=some 28:=by kernel_rfl
@[go_sem ↓] theorem xFO_161_5 (K:Nat→Prop):xFO Tryz.prog 161 5 K=K 28:=xFO_of fO_161_5 K
theorem fO_161_6:fOff Tryz.prog 161 6=some 29:=by kernel_rfl
@[go_sem ↓] theorem xFO_161_6 (K:Nat→Prop):xFO Tryz.prog 161 6 K=K 29:=xFO_of fO_161_6 K
theorem fO_161_7:fOff Tryz.prog 161 7=some 30:=by kernel_rfl
@[go_sem ↓] theorem xFO_161_7 (K:Nat→Prop):xFO Tryz.prog 161 7 K=K 30:=xFO_of fO_161_7 K
theorem fO_161_8:fOff Tryz.prog 161 8=some 31:=by kernel_rfl
@[go_sem ↓] theorem xFO_161_8 (K:Nat→Prop):xFO Tryz.prog 161 8 K=K 31:=xFO_of fO_161_8 K
theorem fO_161_9:fOff Tryz.prog 161 9=some 32:=by kernel_rfl
@[go_sem ↓] theorem xFO_161_9 (K:Nat→Prop):xFO Tryz.prog 161 9 K=K 32:=xFO_of fO_161_9 K
theorem fO_190_0:fOff Tryz.prog 190 0=some 0:=by kernel_rfl
@[go_sem ↓] theorem xFO_190_0 (K:Nat→Prop):xFO Tryz.prog 190 0 K=K 0:=xFO_of fO_190_0 K
theorem fO_190_1:fOff Tryz.prog 190 1=some 1:=by kernel_rfl
@[go_sem ↓] theorem xFO_190_1 (K:Nat→Prop):xFO Tryz.prog 190 1 K=K 1:=xFO_of fO_190_1 K
theorem fO_190_2:fOff Tryz.prog 190 2=some 2:=by kernel_rfl
@[go_sem ↓] theorem xFO_190_2 (K:Nat→Prop):xFO Tryz.prog 190 2 K=K 2:=xFO_of fO_190_2 K
theorem fO_190_3:fOff Tryz.prog 190 3=some 3:=by kernel_rfl
@[go_sem ↓] theorem xFO_190_3 (K:Nat→Prop):xFO Tryz.prog 190 3 K=K 3:=xFO_of fO_190_3 K
theorem fO_190_4:fOff Tryz.prog 190 4=some 4:=by kernel_rfl
@[go_sem ↓] theorem xFO_190_4 (K:Nat→Prop):xFO Tryz.prog 190 4 K=K 4:=xFO_of fO_190_4 K
theorem fO_312_0:fOff Tryz.prog 312 0=some 0:=by kernel_rfl
@[go_sem ↓] theorem xFO_312_0 (K:Nat→Prop):xFO Tryz.prog 312 0 K=K 0:=xFO_of fO_312_0 K
theorem fO_318_0:fOff Tryz.prog 318 0=some 0:=by kernel_rfl
@[go_sem ↓] theorem xFO_318_0 (K:Nat→Prop):xFO Tryz.prog 318 0 K=K 0:=xFO_of fO_318_0 K
theorem fO_327_0:fOff Tryz.prog 327 0=some 0:=by kernel_rfl
@[go_sem ↓] theorem xFO_327_0 (K:Nat→Prop):xFO Tryz.prog 327 0 K=K 0:=xFO_of fO_327_0 K
theorem fO_327_1:fOff Tryz.prog 327 1=some 4:=by kernel_rfl
@[go_sem ↓] theorem xFO_327_1 (K:Nat→Prop):xFO Tryz.prog 327 1 K=K 4:=xFO_of fO_327_1 K
theorem fO_348_0:fOff Tryz.prog 348 0=some 0:=by kernel_rfl
@[go_sem ↓] theorem xFO_348_0 (K:Nat→Prop):xFO Tryz.prog 348 0 K=K 0:=xFO_of fO_348_0 K
theorem fO_348_1:fOff Tryz.prog 348 1=some 1:=by kernel_rfl
@[go_sem ↓] theorem xFO_348_1 (K:Nat→Prop):xFO Tryz.prog 348 1 K=K 1:=xFO_of fO_348_1 K
theorem fO_348_2:fOff Tryz.prog 348 2=some 2:=by kernel_rfl
@[go_sem ↓] theorem xFO_348_2 (K:Nat→Prop):xFO Tryz.prog 348 2 K=K 2:=xFO_of fO_348_2 K
theorem fO_399_0:fOff Tryz.prog 399 0=some 0:=by kernel_rfl
@[go_sem ↓] theorem xFO_399_0 (K:Nat→Prop):xFO Tryz.prog 399 0 K=K 0:=xFO_of fO_399_0 K
theorem fO_399_1:fOff Tryz.prog 399 1=some 1:=by kernel_rfl
@[go_sem ↓] theorem xFO_399_1 (K:Nat→Prop):xFO Tryz.prog 399 1 K=K 1:=xFO_of fO_399_1 K
theorem fO_410_0:fOff Tryz.prog 410 0=some 0:=by kernel_rfl
@[go_sem ↓] theorem xFO_410_0 (K:Nat→Prop):xFO Tryz.prog 410 0 K=K 0:=xFO_of fO_410_0 K
theorem fO_410_1:fOff Tryz.prog 410 1=some 4:=by kernel_rfl
@[go_sem ↓] theorem xFO_410_1 (K:Nat→Prop):xFO Tryz.prog 410 1 K=K 4:=xFO_of fO_410_1 K
theorem fO_410_2:fOff Tryz.prog 410 2=some 28:=by kernel_rfl
@[go_sem ↓] theorem xFO_410_2 (K:Nat→Prop):xFO Tryz.prog 410 2 K=K 28:=xFO_of fO_410_2 K
theorem fO_415_0:fOff Tryz.prog 415 0=some 0:=by kernel_rfl
@[go_sem ↓] theorem xFO_415_0 (K:Nat→Prop):xFO Tryz.prog 415 0 K=K 0:=xFO_of fO_415_0 K
theorem fO_417_0:fOff Tryz.prog 417 0=some 0:=by kernel_rfl
@[go_sem ↓] theorem xFO_417_0 (K:Nat→Prop):xFO Tryz.prog 417 0 K=K 0:=xFO_of fO_417_0 K
theorem fO_448_0:fOff Tryz.prog 448 0=some 0:=by kernel_rfl
@[go_sem ↓] theorem xFO_448_0 (K:Nat→Prop):xFO Tryz.prog 448 0 K=K 0:=xFO_of fO_448_0 K
theorem fO_448_1:fOff Tryz.prog 448 1=some 2:=by kernel_rfl
@[go_sem ↓] theorem xFO_448_1 (K:Nat→Prop):xFO Tryz.prog 448 1 K=K 2:=xFO_of fO_448_1 K
@[go_sem] theorem tSh_25:tSh Tryz.prog 25 = .sl 22 1 8:=by kernel_rfl
@[go_sem] theorem tSh_26:tSh Tryz.prog 26 = .sl 105 2 16:=by kernel_rfl
@[go_sem] theorem tSh_31:tSh Tryz.prog 31 = .sl 73 6 48:=by kernel_rfl
@[go_sem] theorem tSh_32:tSh Tryz.prog 32 = .sl 3 1 8:=by kernel_rfl
@[go_sem] theorem tSh_33:tSh Tryz.prog 33 = .sl 139 4 32:=by kernel_rfl
@[go_sem] theorem tSh_34:tSh Tryz.prog 34 = .sl 142 3 24:=by kernel_rfl
@[go_sem] theorem tSh_35:tSh Tryz.prog 35 = .sl 75 33 296:=by kernel_rfl
@[go_sem] theorem tSh_36:tSh Tryz.prog 36 = .sl 5 1 1:=by kernel_rfl
@[go_sem] theorem tSh_37:tSh Tryz.prog 37 = .sl 36 1 24:=by kernel_rfl
@[go_sem] theorem tSh_44:tSh Tryz.prog 44 = .sl 120 6 48:=by kernel_rfl
@[go_sem] theorem tSh_45:tSh Tryz.prog 45 = .sl 208 4 32:=by kernel_rfl
@[go_sem] theorem tSh_46:tSh Tryz.prog 46 = .sl 209 3 24:=by kernel_rfl
@[go_sem] theorem tSh_47:tSh Tryz.prog 47 = .sl 161 33 296:=by kernel_rfl
@[go_sem] theorem tSh_231:tSh Tryz.prog 231 = .sl 71 4 32:=by kernel_rfl
@[go_sem] theorem tSh_292:tSh Tryz.prog 292 = .sl 4 1 1:=by kernel_rfl
@[go_sem] theorem tSh_307:tSh Tryz.prog 307 = .sl 40 1 8:=by kernel_rfl
@[go_sem ↓] theorem xSlh_32 (a:Option Addr) (n c:Nat) (k:IntKind) (j:Int) (h0:0≤j) (h1:j≤(c:Int)) (K:Value→Prop):xSl Tryz.prog 32 (.slice a n c) none (some (.int k j)) none K=K (.slice a j.toNat c):=xSl_hi tSh_32 a n c k j h0 h1 K
@[go_sem ↓] theorem xSlh_34 (a:Option Addr) (n c:Nat) (k:IntKind) (j:Int) (h0:0≤j) (h1:j≤(c:Int)) (K:Value→Prop):xSl Tryz.prog 34 (.slice a n c) none (some (.int k j)) none K=K (.slice a j.toNat c):=xSl_hi tSh_34 a n c k j h0 h1 K
@[go_sem ↓] theorem xBeq_25 (x y:Operand) (a:Option Addr) (n c:Nat) (K:Value→Prop):xBin Tryz.prog .eql 25 x y (.slice a n c) (.slice none 0 0) K=K (.bool a.isNone):=xBin_eqnil tSh_25 x y a n c K
@[go_sem ↓] theorem xBeq_31 (x y:Operand) (a:Option Addr) (n c:Nat) (K:Value→Prop):xBin Tryz.prog .eql 31 x y (.slice a n c) (.slice none 0 0) K=K (.bool a.isNone):=xBin_eqnil tSh_31 x y a n c K
@[go_sem ↓] theorem xBeq_32 (x y:Operand) (a:Option Addr) (n c:Nat) (K:Value→Prop):xBin Tryz.prog .eql 32 x y (.slice a n c) (.slice none 0 0) K=K (.bool a.isNone):=xBin_eqnil tSh_32 x y a n c K
@[go_sem ↓] theorem xBeq_33 (x y:Operand) (a:Option Addr) (n c:Nat) (K:Value→Prop):xBin Tryz.prog .eql 33 x y (.slice a n c) (.slice none 0 0) K=K (.bool a.isNone):=xBin_eqnil tSh_33 x y a n c K
@[go_sem ↓] theorem xBeq_34 (x y:Operand) (a:Option Addr) (n c:Nat) (K:Value→Prop):xBin Tryz.prog .eql 34 x y (.slice a n c) (.slice none 0 0) K=K (.bool a.isNone):=xBin_eqnil tSh_34 x y a n c K
@[go_sem ↓] theorem xBeq_35 (x y:Operand) (a:Option Addr) (n c:Nat) (K:Value→Prop):xBin Tryz.prog .eql 35 x y (.slice a n c) (.slice none 0 0) K=K (.bool a.isNone):=xBin_eqnil tSh_35 x y a n c K
@[go_sem ↓] theorem xBeq_36 (x y:Operand) (a:Option Addr) (n c:Nat) (K:Value→Prop):xBin Tryz.prog .eql 36 x y (.slice a n c) (.slice none 0 0) K=K (.bool a.isNone):=xBin_eqnil tSh_36 x y a n c K
@[go_sem ↓] theorem xBeq_37 (x y:Operand) (a:Option Addr) (n c:Nat) (K:Value→Prop):xBin Tryz.prog .eql 37 x y (.slice a n c) (.slice none 0 0) K=K (.bool a.isNone):=xBin_eqnil tSh_37 x y a n c K
@[go_sem ↓] theorem xPeq_338 (x y:Operand) (a:Option Addr) (K:Value→Prop):xBin Tryz.prog .eql 338 x y (.pointer a) (.pointer none) K=K (.bool a.isNone):=xBin_eqpnil (T:=338) (e:=417) (by kernel_rfl) x y a K
@[go_sem ↓] theorem xSlm_32 (a:Option Addr) (n c:Nat) (k l:IntKind) (i j:Int) (h0:0≤i) (h1:i≤j) (h2:j≤(c:Int)) (K:Value→Prop):xSl Tryz.prog 32 (.slice a n c) (some (.int k i)) (some (.int l j)) none K=K (.slice (cutA a c i.toNat 1) (j.toNat-i.toNat) (c-i.toNat)):=xSl_mid tSh_32 a n c k l i j h0 h1 h2 K
@[go_sem ↓] theorem xLen_25 (ty:Nat) (a:Option Addr) (n c:Nat) (K:Value→Prop):xLen Tryz.prog ty #[25] (.slice a n c) K=K (.int .i64 n):=xLen_slice (T:=25) (e:=22) (by kernel_rfl) a n c
@[go_sem ↓] theorem xLen_26 (ty:Nat) (a:Option Addr) (n c:Nat) (K:Value→Prop):xLen Tryz.prog ty #[26] (.slice a n c) K=K (.int .i64 n):=xLen_slice (T:=26) (e:=105) (by kernel_rfl) a n c
@[go_sem ↓] theorem xLen_31 (ty:Nat) (a:Option Addr) (n c:Nat) (K:Value→Prop):xLen Tryz.prog ty #[31] (.slice a n c) K=K (.int .i64 n):=xLen_slice (T:=31) (e:=73) (by kernel_rfl) a n c
@[go_sem ↓] theorem xLen_32 (ty:Nat) (a:Option Addr) (n c:Nat) (K:Value→Prop):xLen Tryz.prog ty #[32] (.slice a n c) K=K (.int .i64 n):=xLen_slice (T:=32) (e:=3) (by kernel_rfl) a n c
@[go_sem ↓] theorem xLen_33 (ty:Nat) (a:Option Addr) (n c:Nat) (K:Value→Prop):xLen Tryz.prog ty #[33] (.slice a n c) K=K (.int .i64 n):=xLen_slice (T:=33) (e:=139) (by kernel_rfl) a n c
@[go_sem ↓] theorem xLen_34 (ty:Nat) (a:Option Addr) (n c:Nat) (K:Value→Prop):xLen Tryz.prog ty #[34] (.slice a n c) K=K (.int .i64 n):=xLen_slice (T:=34) (e:=142) (by kernel_rfl) a n c
@[go_sem ↓] theorem xLen_35 (ty:Nat) (a:Option Addr) (n c:Nat) (K:Value→Prop):xLen Tryz.prog ty #[35] (.slice a n c) K=K (.int .i64 n):=xLen_slice (T:=35) (e:=75) (by kernel_rfl) a n c
@[go_sem ↓] theorem xLen_36 (ty:Nat) (a:Option Addr) (n c:Nat) (K:Value→Prop):xLen Tryz.prog ty #[36] (.slice a n c) K=K (.int .i64 n):=xLen_slice (T:=36) (e:=5) (by kernel_rfl) a n c
@[go_sem ↓] theorem xLen_37 (ty:Nat) (a:Option Addr) (n c:Nat) (K:Value→Prop):xLen Tryz.prog ty #[37] (.slice a n c) K=K (.int .i64 n):=xLen_slice (T:=37) (e:=36) (by kernel_rfl) a n c
@[go_sem ↓] theorem xLen_44 (ty:Nat) (a:Option Addr) (n c:Nat) (K:Value→Prop):xLen Tryz.prog ty #[44] (.slice a n c) K=K (.int .i64 n):=xLen_slice (T:=44) (e:=120) (by kernel_rfl) a n c
@[go_sem ↓] theorem xLen_45 (ty:Nat) (a:Option Addr) (n c:Nat) (K:Value→Prop):xLen Tryz.prog ty #[45] (.slice a n c) K=K (.int .i64 n):=xLen_slice (T:=45) (e:=208) (by kernel_rfl) a n c
@[go_sem ↓] theorem xLen_46 (ty:Nat) (a:Option Addr) (n c:Nat) (K:Value→Prop):xLen Tryz.prog ty #[46] (.slice a n c) K=K (.int .i64 n):=xLen_slice (T:=46) (e:=209) (by kernel_rfl) a n c
@[go_sem ↓] theorem xLen_47 (ty:Nat) (a:Option Addr) (n c:Nat) (K:Value→Prop):xLen Tryz.prog ty #[47] (.slice a n c) K=K (.int .i64 n):=xLen_slice (T:=47) (e:=161) (by kernel_rfl) a n c
@[go_sem ↓] theorem xLen_231 (ty:Nat) (a:Option Addr) (n c:Nat) (K:Value→Prop):xLen Tryz.prog ty #[231] (.slice a n c) K=K (.int .i64 n):=xLen_slice (T:=231) (e:=71) (by kernel_rfl) a n c
@[go_sem ↓] theorem xLen_292 (ty:Nat) (a:Option Addr) (n c:Nat) (K:Value→Prop):xLen Tryz.prog ty #[292] (.slice a n c) K=K (.int .i64 n):=xLen_slice (T:=292) (e:=4) (by kernel_rfl) a n c
@[go_sem ↓] theorem xLen_307 (ty:Nat) (a:Option Addr) (n c:Nat) (K:Value→Prop):xLen Tryz.prog ty #[307] (.slice a n c) K=K (.int .i64 n):=xLen_slice (T:=307) (e:=40) (by kernel_rfl) a n c
@[go_sem ↓] theorem xLen_321 (ty:Nat) (a:Option Addr) (n c:Nat) (K:Value→Prop):xLen Tryz.prog ty #[321] (.slice a n c) K=K (.int .i64 n):=xLen_slice (T:=321) (e:=5) (by kernel_rfl) a n c
@[go_sem ↓] theorem xBn_4 (x y:Operand) (a b:Bool) (K:Value→Prop):xBin Tryz.prog .neq 4 x y (.bool a) (.bool b) K=K (.bool (!(a == b))):=xBin_nebool (T:=4) (by kernel_rfl) x y a b K
@[go_sem ↓] theorem xConv_3_22 (k:IntKind) (n:Int) (K:Value→Prop):xConv Tryz.prog 3 22 (.int k n) K=K (.int .u64 (IntKind.u64.wrap n)):=xConv_int (s:=3) (d:=22) (ks:=.i64) (kd:=.u64) (by kernel_rfl) (by kernel_rfl) k n
@[go_sem ↓] theorem xConv_3_402 (k:IntKind) (n:Int) (K:Value→Prop):xConv Tryz.prog 3 402 (.int k n) K=K (.int .u64 (IntKind.u64.wrap n)):=xConv_int (s:=3) (d:=402) (ks:=.i64) (kd:=.u64) (by kernel_rfl) (by kernel_rfl) k n
@[go_sem ↓] theorem xConv_5_3 (k:IntKind) (n:Int) (K:Value→Prop):xConv Tryz.prog 5 3 (.int k n) K=K (.int .i64 (IntKind.i64.wrap n)):=xConv_int (s:=5) (d:=3) (ks:=.u8) (kd:=.i64) (by kernel_rfl) (by kernel_rfl) k n
@[go_sem ↓] theorem xConv_22_5 (k:IntKind) (n:Int) (K:Value→Prop):xConv Tryz.prog 22 5 (.int k n) K=K (.int .u8 (IntKind.u8.wrap n)):=xConv_int (s:=22) (d:=5) (ks:=.u64) (kd:=.u8) (by kernel_rfl) (by kernel_rfl) k n
@[go_sem ↓] theorem xConv_402_3 (k:IntKind) (n:Int) (K:Value→Prop):xConv Tryz.prog 402 3 (.int k n) K=K (.int .i64 (IntKind.i64.wrap n)):=xConv_int (s:=402) (d:=3) (ks:=.u64) (kd:=.i64) (by kernel_rfl) (by kernel_rfl) k n
theorem mixed:Tryz.prog.follows .mixedOrders=true:=by kernel_rfl
end Go.X
