/- Lemmas and contracts. Conditions: as each says. -/
import Derived.KernelRfl
import Derived.Test.YtmmfajokfdaokaaGreatProg
import Derived.Test.YtmmfajokfdaokaaGreatQ04
set_option linter.unusedVariables false
set_option linter.unusedSimpArgs false
set_option maxHeartbeats 12800000
set_option maxRecDepth 20000
namespace Go.X
open Go.Proofs Go.Proofs.Tryz
theorem Zem:tI prog 3=some ⟨1,false,[(.int .i64 0)],8⟩:=by kernel_rfl
@[go_sem ↓] theorem xTI_3 (K:TI→Prop):xTI prog 3 K=K ⟨1,false,[(.int .i64 0)],8⟩:=YO Zem K
theorem tI_4:tI prog 4=some ⟨1,false,[(.bool false)],1⟩:=by kernel_rfl
@[go_sem ↓] theorem xTI_4 (K:TI→Prop):xTI prog 4 K=K ⟨1,false,[(.bool false)],1⟩:=YO tI_4 K
theorem Zmw:tI prog 5=some ⟨1,false,[(.int .u8 0)],1⟩:=by kernel_rfl
@[go_sem ↓] theorem xTI_5 (K:TI→Prop):xTI prog 5 K=K ⟨1,false,[(.int .u8 0)],1⟩:=YO Zmw K
theorem U3:tI prog 22=some ⟨1,false,[(.int .u64 0)],8⟩:=by kernel_rfl
@[go_sem ↓] theorem xTI_22 (K:TI→Prop):xTI prog 22 K=K ⟨1,false,[(.int .u64 0)],8⟩:=YO U3 K
theorem tI_24:tI prog 24=some ⟨24,true,[(.int .u64 0),(.int .u64 0),(.int .u64 0),(.int .u64 0),(.int .u64 0),(.int .u64 0),(.int .u64 0),(.int .u64 0),(.int .u64 0),(.int .u64 0),(.int .u64 0),(.int .u64 0),(.int .u64 0),(.int .u64 0),(.int .i64 0),(.int .i64 0),(.int .i64 0),(.int .i64 0),(.int .i64 0),(.int .i64 0),(.int .i64 0),(.int .i64 0),(.int .i64 0),(.int .i64 0)],192⟩:=by kernel_rfl
@[go_sem ↓] theorem xTI_24 (K:TI→Prop):xTI prog 24 K=K ⟨24,true,[(.int .u64 0),(.int .u64 0),(.int .u64 0),(.int .u64 0),(.int .u64 0),(.int .u64 0),(.int .u64 0),(.int .u64 0),(.int .u64 0),(.int .u64 0),(.int .u64 0),(.int .u64 0),(.int .u64 0),(.int .u64 0),(.int .i64 0),(.int .i64 0),(.int .i64 0),(.int .i64 0),(.int .i64 0),(.int .i64 0),(.int .i64 0),(.int .i64 0),(.int .i64 0),(.int .i64 0)],192⟩:=YO tI_24 K
theorem tI_25:tI prog 25=some ⟨1,false,[(.slice none 0 0)],24⟩:=by kernel_rfl
@[go_sem ↓] theorem xTI_25 (K:TI→Prop):xTI prog 25 K=K ⟨1,false,[(.slice none 0 0)],24⟩:=YO tI_25 K
theorem tI_26:tI prog 26=some ⟨1,false,[(.slice none 0 0)],24⟩:=by kernel_rfl
@[go_sem ↓] theorem xTI_26 (K:TI→Prop):xTI prog 26 K=K ⟨1,false,[(.slice none 0 0)],24⟩:=YO tI_26 K
theorem tI_28:tI prog 28=some ⟨27,true,[(.int .u64 0),(.int .u64 0),(.int .u64 0),(.int .u64 0),(.int .u64 0),(.int .u64 0),(.int .u64 0),(.int .u64 0),(.int .u64 0),(.int .u64 0),(.int .u64 0),(.int .u64 0),(.int .u64 0),(.int .u64 0),(.int .i64 0),(.int .i64 0),(.int .i64 0),(.int .i64 0),(.int .i64 0),(.int .i64 0),(.int .i64 0),(.int .i64 0),(.int .i64 0),(.int .i64 0),(.int .u64 0),(.slice none 0 0),(.slice none 0 0)],248⟩:=by kernel_rfl
@[go_sem ↓] theorem xTI_28 (K:TI→Prop):xTI prog 28 K=K ⟨27,true,[(.int .u64 0),(.int .u64 0),(.int .u64 0),(.int .u64 0),(.int .u64 0),(.int .u64 0),(.int .u64 0),(.int .u64 0),(.int .u64 0),(.int .u64 0),(.int .u64 0),(.int .u64 0),(.int .u64 0),(.int .u64 0),(.int .i64 0),(.int .i64 0),(.int .i64 0),(.int .i64 0),(.int .i64 0),(.int .i64 0),(.int .i64 0),(.int .i64 0),(.int .i64 0),(.int .i64 0),(.int .u64 0),(.slice none 0 0),(.slice none 0 0)],248⟩:=YO tI_28 K
theorem tI_31:tI prog 31=some ⟨1,false,[(.slice none 0 0)],24⟩:=by kernel_rfl
@[go_sem ↓] theorem xTI_31 (K:TI→Prop):xTI prog 31 K=K ⟨1,false,[(.slice none 0 0)],24⟩:=YO tI_31 K
theorem tI_32:tI prog 32=some ⟨1,false,[(.slice none 0 0)],24⟩:=by kernel_rfl
@[go_sem ↓] theorem xTI_32 (K:TI→Prop):xTI prog 32 K=K ⟨1,false,[(.slice none 0 0)],24⟩:=YO tI_32 K
theorem tI_33:tI prog 33=some ⟨1,false,[(.slice none 0 0)],24⟩:=by kernel_rfl
@[go_sem ↓] theorem xTI_33 (K:TI→Prop):xTI prog 33 K=K ⟨1,false,[(.slice none 0 0)],24⟩:=YO tI_33 K
theorem tI_34:tI prog 34=some ⟨1,false,[(.slice none 0 0)],24⟩:=by kernel_rfl
@[go_sem ↓] theorem xTI_34 (K:TI→Prop):xTI prog 34 K=K ⟨1,false,[(.slice none 0 0)],24⟩:=YO tI_34 K
theorem tI_35:tI prog 35=some ⟨1,false,[(.slice none 0 0)],24⟩:=by kernel_rfl
@[go_sem ↓] theorem xTI_35 (K:TI→Prop):xTI prog 35 K=K ⟨1,false,[(.slice none 0 0)],24⟩:=YO tI_35 K
theorem Yon:tI prog 36=some ⟨1,false,[(.slice none 0 0)],24⟩:=by kernel_rfl
@[go_sem ↓] theorem xTI_36 (K:TI→Prop):xTI prog 36 K=K ⟨1,false,[(.slice none 0 0)],24⟩:=YO Yon K
theorem tI_37:tI prog 37=some ⟨1,false,[(.slice none 0 0)],24⟩:=by kernel_rfl
@[go_sem ↓] theorem xTI_37 (K:TI→Prop):xTI prog 37 K=K ⟨1,false,[(.slice none 0 0)],24⟩:=YO tI_37 K
theorem tI_39:tI prog 39=some ⟨41,true,[(.int .u64 0),(.int .u64 0),(.int .u64 0),(.int .u64 0),(.int .u64 0),(.int .u64 0),(.int .u64 0),(.int .u64 0),(.int .u64 0),(.int .u64 0),(.int .u64 0),(.int .u64 0),(.int .u64 0),(.int .u64 0),(.int .i64 0),(.int .i64 0),(.int .i64 0),(.int .i64 0),(.int .i64 0),(.int .i64 0),(.int .i64 0),(.int .i64 0),(.int .i64 0),(.int .i64 0),(.int .u64 0),(.int .u64 0),(.int .u64 0),(.int .u64 0),(.int .u64 0),(.int .i64 0),(.int .i64 0),(.bool false),(.slice none 0 0),(.slice none 0 0),(.slice none 0 0),(.slice none 0 0),(.slice none 0 0),(.slice none 0 0),(.slice none 0 0),(.slice none 0 0),(.slice none 0 0)],472⟩:=by kernel_rfl
@[go_sem ↓] theorem xTI_39 (K:TI→Prop):xTI prog 39 K=K ⟨41,true,[(.int .u64 0),(.int .u64 0),(.int .u64 0),(.int .u64 0),(.int .u64 0),(.int .u64 0),(.int .u64 0),(.int .u64 0),(.int .u64 0),(.int .u64 0),(.int .u64 0),(.int .u64 0),(.int .u64 0),(.int .u64 0),(.int .i64 0),(.int .i64 0),(.int .i64 0),(.int .i64 0),(.int .i64 0),(.int .i64 0),(.int .i64 0),(.int .i64 0),(.int .i64 0),(.int .i64 0),(.int .u64 0),(.int .u64 0),(.int .u64 0),(.int .u64 0),(.int .u64 0),(.int .i64 0),(.int .i64 0),(.bool false),(.slice none 0 0),(.slice none 0 0),(.slice none 0 0),(.slice none 0 0),(.slice none 0 0),(.slice none 0 0),(.slice none 0 0),(.slice none 0 0),(.slice none 0 0)],472⟩:=YO tI_39 K
theorem tI_40:tI prog 40=some ⟨1,false,[(.int .i64 0)],8⟩:=by kernel_rfl
@[go_sem ↓] theorem xTI_40 (K:TI→Prop):xTI prog 40 K=K ⟨1,false,[(.int .i64 0)],8⟩:=YO tI_40 K
theorem tI_43:tI prog 43=some ⟨24,true,[(.int .u64 0),(.int .u64 0),(.int .u64 0),(.int .u64 0),(.int .u64 0),(.int .u64 0),(.int .u64 0),(.int .u64 0),(.int .u64 0),(.int .u64 0),(.int .u64 0),(.int .u64 0),(.int .u64 0),(.int .u64 0),(.int .i64 0),(.int .i64 0),(.int .i64 0),(.int .i64 0),(.int .i64 0),(.int .i64 0),(.int .i64 0),(.int .i64 0),(.int .i64 0),(.int .i64 0)],192⟩:=by kernel_rfl
@[go_sem ↓] theorem xTI_43 (K:TI→Prop):xTI prog 43 K=K ⟨24,true,[(.int .u64 0),(.int .u64 0),(.int .u64 0),(.int .u64 0),(.int .u64 0),(.int .u64 0),(.int .u64 0),(.int .u64 0),(.int .u64 0),(.int .u64 0),(.int .u64 0),(.int .u64 0),(.int .u64 0),(.int .u64 0),(.int .i64 0),(.int .i64 0),(.int .i64 0),(.int .i64 0),(.int .i64 0),(.int .i64 0),(.int .i64 0),(.int .i64 0),(.int .i64 0),(.int .i64 0)],192⟩:=YO tI_43 K
theorem tI_61:tI prog 61=some ⟨14,true,[(.int .i64 0),(.int .i64 0),(.bool false),(.int .u64 0),(.int .u64 0),(.int .u64 0),(.int .u64 0),(.int .u64 0),(.int .u64 0),(.int .u64 0),(.slice none 0 0),(.slice none 0 0),(.slice none 0 0),(.slice none 0 0)],176⟩:=by kernel_rfl
@[go_sem ↓] theorem xTI_61 (K:TI→Prop):xTI prog 61 K=K ⟨14,true,[(.int .i64 0),(.int .i64 0),(.bool false),(.int .u64 0),(.int .u64 0),(.int .u64 0),(.int .u64 0),(.int .u64 0),(.int .u64 0),(.int .u64 0),(.slice none 0 0),(.slice none 0 0),(.slice none 0 0),(.slice none 0 0)],176⟩:=YO tI_61 K
theorem Yqn:tI prog 71=some ⟨4,true,[(.int .u64 0),(.int .u64 0),(.int .u64 0),(.int .i64 0)],32⟩:=by kernel_rfl
@[go_sem ↓] theorem xTI_71 (K:TI→Prop):xTI prog 71 K=K ⟨4,true,[(.int .u64 0),(.int .u64 0),(.int .u64 0),(.int .i64 0)],32⟩:=YO Yqn K
theorem Yja:tI prog 73=some ⟨6,true,[(.int .u64 0),(.int .u64 0),(.int .u64 0),(.int .i64 0),(.int .i64 0),(.int .i64 0)],48⟩:=by kernel_rfl
@[go_sem ↓] theorem xTI_73 (K:TI→Prop):xTI prog 73 K=K ⟨6,true,[(.int .u64 0),(.int .u64 0),(.int .u64 0),(.int .i64 0),(.int .i64 0),(.int .i64 0)],48⟩:=YO Yja K
theorem Yoc:tI prog 75=some ⟨33,true,[(.int .i64 0),(.int .i64 0),(.int .u64 0),(.int .u64 0),(.int .u64 0),(.int .u64 0),(.int .u64 0),(.int .u64 0),(.int .u64 0),(.int .u64 0),(.int .u64 0),(.int .u64 0),(.int .u64 0),(.int .u64 0),(.int .u64 0),(.int .u64 0),(.int .i64 0),(.int .i64 0),(.int .i64 0),(.int .i64 0),(.int .i64 0),(.int .i64 0),(.int .i64 0),(.int .i64 0),(.int .i64 0),(.int .i64 0),(.int .i64 0),(.int .u64 0),(.int .i64 0),(.int .i64 0),(.int .i64 0),(.slice none 0 0),(.slice none 0 0)],296⟩:=by kernel_rfl
@[go_sem ↓] theorem xTI_75 (K:TI→Prop):xTI prog 75 K=K ⟨33,true,[(.int .i64 0),(.int .i64 0),(.int .u64 0),(.int .u64 0),(.int .u64 0),(.int .u64 0),(.int .u64 0),(.int .u64 0),(.int .u64 0),(.int .u64 0),(.int .u64 0),(.int .u64 0),(.int .u64 0),(.int .u64 0),(.int .u64 0),(.int .u64 0),(.int .i64 0),(.int .i64 0),(.int .i64 0),(.int .i64 0),(.int .i64 0),(.int .i64 0),(.int .i64 0),(.int .i64 0),(.int .i64 0),(.int .i64 0),(.int .i64 0),(.int .u64 0),(.int .i64 0),(.int .i64 0),(.int .i64 0),(.slice none 0 0),(.slice none 0 0)],296⟩:=YO Yoc K
theorem tI_93:tI prog 93=some ⟨1,false,[(.slice none 0 0)],24⟩:=by kernel_rfl
@[go_sem ↓] theorem xTI_93 (K:TI→Prop):xTI prog 93 K=K ⟨1,false,[(.slice none 0 0)],24⟩:=YO tI_93 K
theorem tI_95:tI prog 95=some ⟨2,true,[(.int .i64 0),(.slice none 0 0)],32⟩:=by kernel_rfl
@[go_sem ↓] theorem xTI_95 (K:TI→Prop):xTI prog 95 K=K ⟨2,true,[(.int .i64 0),(.slice none 0 0)],32⟩:=YO tI_95 K
theorem Wbc:tI prog 105=some ⟨2,true,[(.int .i64 0),(.int .u64 0)],16⟩:=by kernel_rfl
@[go_sem ↓] theorem xTI_105 (K:TI→Prop):xTI prog 105 K=K ⟨2,true,[(.int .i64 0),(.int .u64 0)],16⟩:=YO Wbc K
theorem Wav:tI prog 112=some ⟨1,true,[(.slice none 0 0)],24⟩:=by kernel_rfl
@[go_sem ↓] theorem xTI_112 (K:TI→Prop):xTI prog 112 K=K ⟨1,true,[(.slice none 0 0)],24⟩:=YO Wav K
theorem Yuu:tI prog 134=some ⟨41,true,[(.int .u64 0),(.int .u64 0),(.int .u64 0),(.int .u64 0),(.int .u64 0),(.int .u64 0),(.int .u64 0),(.int .u64 0),(.int .u64 0),(.int .u64 0),(.int .u64 0),(.int .u64 0),(.int .u64 0),(.int .u64 0),(.int .i64 0),(.int .i64 0),(.int .i64 0),(.int .i64 0),(.int .i64 0),(.int .i64 0),(.int .i64 0),(.int .i64 0),(.int .i64 0),(.int .i64 0),(.int .u64 0),(.int .u64 0),(.int .u64 0),(.int .u64 0),(.int .u64 0),(.int .i64 0),(.int .i64 0),(.bool false),(.slice none 0 0),(.slice none 0 0),(.slice none 0 0),(.slice none 0 0),(.slice none 0 0),(.slice none 0 0),(.slice none 0 0),(.slice none 0 0),(.slice none 0 0)],472⟩:=by kernel_rfl
@[go_sem ↓] theorem xTI_134 (K:TI→Prop):xTI prog 134 K=K ⟨41,true,[(.int .u64 0),(.int .u64 0),(.int .u64 0),(.int .u64 0),(.int .u64 0),(.int .u64 0),(.int .u64 0),(.int .u64 0),(.int .u64 0),(.int .u64 0),(.int .u64 0),(.int .u64 0),(.int .u64 0),(.int .u64 0),(.int .i64 0),(.int .i64 0),(.int .i64 0),(.int .i64 0),(.int .i64 0),(.int .i64 0),(.int .i64 0),(.int .i64 0),(.int .i64 0),(.int .i64 0),(.int .u64 0),(.int .u64 0),(.int .u64 0),(.int .u64 0),(.int .u64 0),(.int .i64 0),(.int .i64 0),(.bool false),(.slice none 0 0),(.slice none 0 0),(.slice none 0 0),(.slice none 0 0),(.slice none 0 0),(.slice none 0 0),(.slice none 0 0),(.slice none 0 0),(.slice none 0 0)],472⟩:=YO Yuu K
theorem JB:tI prog 139=some ⟨4,true,[(.int .i64 0),(.int .i64 0),(.int .u64 0),(.bool false)],32⟩:=by kernel_rfl
@[go_sem ↓] theorem xTI_139 (K:TI→Prop):xTI prog 139 K=K ⟨4,true,[(.int .i64 0),(.int .i64 0),(.int .u64 0),(.bool false)],32⟩:=YO JB K
theorem Jo:tI prog 142=some ⟨3,true,[(.int .i64 0),(.int .i64 0),(.int .u64 0)],24⟩:=by kernel_rfl
@[go_sem ↓] theorem xTI_142 (K:TI→Prop):xTI prog 142 K=K ⟨3,true,[(.int .i64 0),(.int .i64 0),(.int .u64 0)],24⟩:=YO Jo K
theorem Yxh:tI prog 146=some ⟨1,false,[(.pointer none)],8⟩:=by kernel_rfl
@[go_sem ↓] theorem xTI_146 (K:TI→Prop):xTI prog 146 K=K ⟨1,false,[(.pointer none)],8⟩:=YO Yxh K
theorem Ylb:tI prog 177=some ⟨34,true,[(.int .i64 0),(.int .i64 0),(.int .i64 0),(.int .i64 0),(.int .u64 0),(.int .i64 0),(.slice none 0 0),(.int .i64 0),(.int .u64 0),(.int .u64 0),(.int .u64 0),(.int .u64 0),(.int .u64 0),(.int .u64 0),(.int .u64 0),(.int .u64 0),(.int .u64 0),(.int .u64 0),(.int .u64 0),(.int .u64 0),(.int .u64 0),(.int .u64 0),(.int .i64 0),(.int .i64 0),(.int .i64 0),(.int .i64 0),(.int .i64 0),(.int .i64 0),(.int .i64 0),(.int .i64 0),(.int .i64 0),(.int .i64 0),(.int .i64 0),(.bool false)],288⟩:=by kernel_rfl
@[go_sem ↓] theorem xTI_177 (K:TI→Prop):xTI prog 177 K=K ⟨34,true,[(.int .i64 0),(.int .i64 0),(.int .i64 0),(.int .i64 0),(.int .u64 0),(.int .i64 0),(.slice none 0 0),(.int .i64 0),(.int .u64 0),(.int .u64 0),(.int .u64 0),(.int .u64 0),(.int .u64 0),(.int .u64 0),(.int .u64 0),(.int .u64 0),(.int .u64 0),(.int .u64 0),(.int .u64 0),(.int .u64 0),(.int .u64 0),(.int .u64 0),(.int .i64 0),(.int .i64 0),(.int .i64 0),(.int .i64 0),(.int .i64 0),(.int .i64 0),(.int .i64 0),(.int .i64 0),(.int .i64 0),(.int .i64 0),(.int .i64 0),(.bool false)],288⟩:=YO Ylb K
theorem Ykr:tI prog 185=some ⟨34,true,[(.int .i64 0),(.int .i64 0),(.int .i64 0),(.int .i64 0),(.int .u64 0),(.int .i64 0),(.slice none 0 0),(.int .i64 0),(.int .u64 0),(.int .u64 0),(.int .u64 0),(.int .u64 0),(.int .u64 0),(.int .u64 0),(.int .u64 0),(.int .u64 0),(.int .u64 0),(.int .u64 0),(.int .u64 0),(.int .u64 0),(.int .u64 0),(.int .u64 0),(.int .i64 0),(.int .i64 0),(.int .i64 0),(.int .i64 0),(.int .i64 0),(.int .i64 0),(.int .i64 0),(.int .i64 0),(.int .i64 0),(.int .i64 0),(.int .i64 0),(.bool false)],288⟩:=by kernel_rfl
@[go_sem ↓] theorem xTI_185 (K:TI→Prop):xTI prog 185 K=K ⟨34,true,[(.int .i64 0),(.int .i64 0),(.int .i64 0),(.int .i64 0),(.int .u64 0),(.int .i64 0),(.slice none 0 0),(.int .i64 0),(.int .u64 0),(.int .u64 0),(.int .u64 0),(.int .u64 0),(.int .u64 0),(.int .u64 0),(.int .u64 0),(.int .u64 0),(.int .u64 0),(.int .u64 0),(.int .u64 0),(.int .u64 0),(.int .u64 0),(.int .u64 0),(.int .i64 0),(.int .i64 0),(.int .i64 0),(.int .i64 0),(.int .i64 0),(.int .i64 0),(.int .i64 0),(.int .i64 0),(.int .i64 0),(.int .i64 0),(.int .i64 0),(.bool false)],288⟩:=YO Ykr K
theorem Wca:tI prog 190=some ⟨5,true,[(.int .u64 0),(.int .u64 0),(.int .u64 0),(.int .u64 0),(.int .u64 0)],40⟩:=by kernel_rfl
@[go_sem ↓] theorem xTI_190 (K:TI→Prop):xTI prog 190 K=K ⟨5,true,[(.int .u64 0),(.int .u64 0),(.int .u64 0),(.int .u64 0),(.int .u64 0)],40⟩:=YO Wca K
theorem Yyn:tI prog 231=some ⟨1,false,[(.slice none 0 0)],24⟩:=by kernel_rfl
@[go_sem ↓] theorem xTI_231 (K:TI→Prop):xTI prog 231 K=K ⟨1,false,[(.slice none 0 0)],24⟩:=YO Yyn K
theorem Wbn:tI prog 295=some ⟨1,false,[(.pointer none)],8⟩:=by kernel_rfl
@[go_sem ↓] theorem xTI_295 (K:TI→Prop):xTI prog 295 K=K ⟨1,false,[(.pointer none)],8⟩:=YO Wbn K
theorem Yue:tI prog 312=some ⟨24,true,[(.int .u64 0),(.int .u64 0),(.int .u64 0),(.int .u64 0),(.int .u64 0),(.int .u64 0),(.int .u64 0),(.int .u64 0),(.int .u64 0),(.int .u64 0),(.int .u64 0),(.int .u64 0),(.int .u64 0),(.int .u64 0),(.int .i64 0),(.int .i64 0),(.int .i64 0),(.int .i64 0),(.int .i64 0),(.int .i64 0),(.int .i64 0),(.int .i64 0),(.int .i64 0),(.int .i64 0)],192⟩:=by kernel_rfl
@[go_sem ↓] theorem xTI_312 (K:TI→Prop):xTI prog 312 K=K ⟨24,true,[(.int .u64 0),(.int .u64 0),(.int .u64 0),(.int .u64 0),(.int .u64 0),(.int .u64 0),(.int .u64 0),(.int .u64 0),(.int .u64 0),(.int .u64 0),(.int .u64 0),(.int .u64 0),(.int .u64 0),(.int .u64 0),(.int .i64 0),(.int .i64 0),(.int .i64 0),(.int .i64 0),(.int .i64 0),(.int .i64 0),(.int .i64 0),(.int .i64 0),(.int .i64 0),(.int .i64 0)],192⟩:=YO Yue K
theorem Wbs:tI prog 348=some ⟨3,true,[(.int .u64 0),(.int .u64 0),(.int .u64 0)],24⟩:=by kernel_rfl
@[go_sem ↓] theorem xTI_348 (K:TI→Prop):xTI prog 348 K=K ⟨3,true,[(.int .u64 0),(.int .u64 0),(.int .u64 0)],24⟩:=YO Wbs K
theorem Wdp:tI prog 399=some ⟨2,true,[(.int .u64 0),(.int .u64 0)],16⟩:=by kernel_rfl
@[go_sem ↓] theorem xTI_399 (K:TI→Prop):xTI prog 399 K=K ⟨2,true,[(.int .u64 0),(.int .u64 0)],16⟩:=YO Wdp K
theorem Yxo:tI prog 455=some ⟨1,false,[(.pointer none)],8⟩:=by kernel_rfl
@[go_sem ↓] theorem xTI_455 (K:TI→Prop):xTI prog 455 K=K ⟨1,false,[(.pointer none)],8⟩:=YO Yxo K
theorem Wda:tI prog 458=some ⟨1,false,[(.pointer none)],8⟩:=by kernel_rfl
@[go_sem ↓] theorem xTI_458 (K:TI→Prop):xTI prog 458 K=K ⟨1,false,[(.pointer none)],8⟩:=YO Wda K
@[go_sem ↓] theorem Wad (ps:List (Nat×Value))(K:Value→Prop):Wb prog 24 ps.toArray K=YD [(.int .u64 0),(.int .u64 0),(.int .u64 0),(.int .u64 0),(.int .u64 0),(.int .u64 0),(.int .u64 0),(.int .u64 0),(.int .u64 0),(.int .u64 0),(.int .u64 0),(.int .u64 0),(.int .u64 0),(.int .u64 0),(.int .i64 0),(.int .i64 0),(.int .i64 0),(.int .i64 0),(.int .i64 0),(.int .i64 0),(.int .i64 0),(.int .i64 0),(.int .i64 0),(.int .i64 0)] [(0,1),(1,1),(2,1),(3,1),(4,1),(5,1),(6,1),(7,1),(8,1),(9,1),(10,1),(11,1),(12,1),(13,1),(14,1),(15,1),(16,1),(17,1),(18,1),(19,1),(20,1),(21,1),(22,1),(23,1)] ps fun z'=>K (.agg z'.toArray):=Yp (by kernel_rfl) ps K
@[go_sem ↓] theorem Yyv (ps:List (Nat×Value))(K:Value→Prop):Wb prog 28 ps.toArray K=YD [(.int .u64 0),(.int .u64 0),(.int .u64 0),(.int .u64 0),(.int .u64 0),(.int .u64 0),(.int .u64 0),(.int .u64 0),(.int .u64 0),(.int .u64 0),(.int .u64 0),(.int .u64 0),(.int .u64 0),(.int .u64 0),(.int .i64 0),(.int .i64 0),(.int .i64 0),(.int .i64 0),(.int .i64 0),(.int .i64 0),(.int .i64 0),(.int .i64 0),(.int .i64 0),(.int .i64 0),(.int .u64 0),(.slice none 0 0),(.slice none 0 0)] [(0,24),(24,1),(25,1),(26,1)] ps fun z'=>K (.agg z'.toArray):=Yp (by kernel_rfl) ps K
@[go_sem ↓] theorem Yty (ps:List (Nat×Value))(K:Value→Prop):Wb prog 39 ps.toArray K=YD [(.int .u64 0),(.int .u64 0),(.int .u64 0),(.int .u64 0),(.int .u64 0),(.int .u64 0),(.int .u64 0),(.int .u64 0),(.int .u64 0),(.int .u64 0),(.int .u64 0),(.int .u64 0),(.int .u64 0),(.int .u64 0),(.int .i64 0),(.int .i64 0),(.int .i64 0),(.int .i64 0),(.int .i64 0),(.int .i64 0),(.int .i64 0),(.int .i64 0),(.int .i64 0),(.int .i64 0),(.int .u64 0),(.int .u64 0),(.int .u64 0),(.int .u64 0),(.int .u64 0),(.int .i64 0),(.int .i64 0),(.bool false),(.slice none 0 0),(.slice none 0 0),(.slice none 0 0),(.slice none 0 0),(.slice none 0 0),(.slice none 0 0),(.slice none 0 0),(.slice none 0 0),(.slice none 0 0)] [(0,24),(24,1),(25,1),(26,1),(27,1),(28,1),(29,1),(30,1),(31,1),(32,1),(33,1),(34,1),(35,1),(36,1),(37,1),(38,1),(39,1),(40,1)] ps fun z'=>K (.agg z'.toArray):=Yp (by kernel_rfl) ps K
@[go_sem ↓] theorem Yzi (ps:List (Nat×Value))(K:Value→Prop):Wb prog 43 ps.toArray K=YD [(.int .u64 0),(.int .u64 0),(.int .u64 0),(.int .u64 0),(.int .u64 0),(.int .u64 0),(.int .u64 0),(.int .u64 0),(.int .u64 0),(.int .u64 0),(.int .u64 0),(.int .u64 0),(.int .u64 0),(.int .u64 0),(.int .i64 0),(.int .i64 0),(.int .i64 0),(.int .i64 0),(.int .i64 0),(.int .i64 0),(.int .i64 0),(.int .i64 0),(.int .i64 0),(.int .i64 0)] [(0,1),(1,1),(2,1),(3,1),(4,1),(5,1),(6,1),(7,1),(8,1),(9,1),(10,1),(11,1),(12,1),(13,1),(14,1),(15,1),(16,1),(17,1),(18,1),(19,1),(20,1),(21,1),(22,1),(23,1)] ps fun z'=>K (.agg z'.toArray):=Yp (by kernel_rfl) ps K
@[go_sem ↓] theorem Wdo (ps:List (Nat×Value))(K:Value→Prop):Wb prog 61 ps.toArray K=YD [(.int .i64 0),(.int .i64 0),(.bool false),(.int .u64 0),(.int .u64 0),(.int .u64 0),(.int .u64 0),(.int .u64 0),(.int .u64 0),(.int .u64 0),(.slice none 0 0),(.slice none 0 0),(.slice none 0 0),(.slice none 0 0)] [(0,1),(1,1),(2,1),(3,1),(4,1),(5,1),(6,1),(7,1),(8,1),(9,1),(10,1),(11,1),(12,1),(13,1)] ps fun z'=>K (.agg z'.toArray):=Yp (by kernel_rfl) ps K
@[go_sem ↓] theorem Ywe (ps:List (Nat×Value))(K:Value→Prop):Wb prog 71 ps.toArray K=YD [(.int .u64 0),(.int .u64 0),(.int .u64 0),(.int .i64 0)] [(0,1),(1,1),(2,1),(3,1)] ps fun z'=>K (.agg z'.toArray):=Yp (by kernel_rfl) ps K
@[go_sem ↓] theorem Yzv (ps:List (Nat×Value))(K:Value→Prop):Wb prog 73 ps.toArray K=YD [(.int .u64 0),(.int .u64 0),(.int .u64 0),(.int .i64 0),(.int .i64 0),(.int .i64 0)] [(0,4),(4,1),(5,1)] ps fun z'=>K (.agg z'.toArray):=Yp (by kernel_rfl) ps K
@[go_sem ↓] theorem Yuv (ps:List (Nat×Value))(K:Value→Prop):Wb prog 75 ps.toArray K=YD [(.int .i64 0),(.int .i64 0),(.int .u64 0),(.int .u64 0),(.int .u64 0),(.int .u64 0),(.int .u64 0),(.int .u64 0),(.int .u64 0),(.int .u64 0),(.int .u64 0),(.int .u64 0),(.int .u64 0),(.int .u64 0),(.int .u64 0),(.int .u64 0),(.int .i64 0),(.int .i64 0),(.int .i64 0),(.int .i64 0),(.int .i64 0),(.int .i64 0),(.int .i64 0),(.int .i64 0),(.int .i64 0),(.int .i64 0),(.int .i64 0),(.int .u64 0),(.int .i64 0),(.int .i64 0),(.int .i64 0),(.slice none 0 0),(.slice none 0 0)] [(0,1),(1,1),(2,24),(26,1),(27,1),(28,1),(29,1),(30,1),(31,1),(32,1)] ps fun z'=>K (.agg z'.toArray):=Yp (by kernel_rfl) ps K
@[go_sem ↓] theorem Ysj (ps:List (Nat×Value))(K:Value→Prop):Wb prog 105 ps.toArray K=YD [(.int .i64 0),(.int .u64 0)] [(0,1),(1,1)] ps fun z'=>K (.agg z'.toArray):=Yp (by kernel_rfl) ps K
@[go_sem ↓] theorem Ysk (ps:List (Nat×Value))(K:Value→Prop):Wb prog 112 ps.toArray K=YD [(.slice none 0 0)] [(0,1)] ps fun z'=>K (.agg z'.toArray):=Yp (by kernel_rfl) ps K
@[go_sem ↓] theorem Yru (ps:List (Nat×Value))(K:Value→Prop):Wb prog 134 ps.toArray K=YD [(.int .u64 0),(.int .u64 0),(.int .u64 0),(.int .u64 0),(.int .u64 0),(.int .u64 0),(.int .u64 0),(.int .u64 0),(.int .u64 0),(.int .u64 0),(.int .u64 0),(.int .u64 0),(.int .u64 0),(.int .u64 0),(.int .i64 0),(.int .i64 0),(.int .i64 0),(.int .i64 0),(.int .i64 0),(.int .i64 0),(.int .i64 0),(.int .i64 0),(.int .i64 0),(.int .i64 0),(.int .u64 0),(.int .u64 0),(.int .u64 0),(.int .u64 0),(.int .u64 0),(.int .i64 0),(.int .i64 0),(.bool false),(.slice none 0 0),(.slice none 0 0),(.slice none 0 0),(.slice none 0 0),(.slice none 0 0),(.slice none 0 0),(.slice none 0 0),(.slice none 0 0),(.slice none 0 0)] [(0,41)] ps fun z'=>K (.agg z'.toArray):=Yp (by kernel_rfl) ps K
@[go_sem ↓] theorem Yrp (ps:List (Nat×Value))(K:Value→Prop):Wb prog 139 ps.toArray K=YD [(.int .i64 0),(.int .i64 0),(.int .u64 0),(.bool false)] [(0,1),(1,1),(2,1),(3,1)] ps fun z'=>K (.agg z'.toArray):=Yp (by kernel_rfl) ps K
@[go_sem ↓] theorem Ysn (ps:List (Nat×Value))(K:Value→Prop):Wb prog 142 ps.toArray K=YD [(.int .i64 0),(.int .i64 0),(.int .u64 0)] [(0,1),(1,1),(2,1)] ps fun z'=>K (.agg z'.toArray):=Yp (by kernel_rfl) ps K
@[go_sem ↓] theorem Ytj (ps:List (Nat×Value))(K:Value→Prop):Wb prog 148 ps.toArray K=YD [(.int .u64 0),(.int .u64 0),(.int .u64 0),(.int .u64 0),(.int .u64 0),(.int .u64 0),(.int .u64 0),(.int .u64 0),(.int .u64 0),(.int .u64 0),(.int .u64 0),(.int .u64 0),(.int .u64 0),(.int .u64 0),(.int .i64 0),(.int .i64 0),(.int .i64 0),(.int .i64 0),(.int .i64 0),(.int .i64 0),(.int .i64 0),(.int .i64 0),(.int .i64 0),(.int .i64 0),(.int .u64 0),(.int .u64 0),(.int .u64 0),(.int .u64 0),(.int .u64 0),(.int .i64 0),(.int .i64 0),(.bool false),(.slice none 0 0),(.slice none 0 0),(.slice none 0 0),(.slice none 0 0),(.slice none 0 0),(.slice none 0 0),(.slice none 0 0),(.slice none 0 0),(.slice none 0 0),(.int .i64 0),(.int .i64 0),(.bool false),(.int .u64 0),(.int .u64 0),(.int .u64 0),(.int .u64 0),(.int .u64 0),(.int .u64 0),(.int .u64 0),(.slice none 0 0),(.slice none 0 0),(.slice none 0 0),(.slice none 0 0),(.int .i64 0)] [(0,41),(41,14),(55,1)] ps fun z'=>K (.agg z'.toArray):=Yp (by kernel_rfl) ps K
@[go_sem ↓] theorem Yrv (ps:List (Nat×Value))(K:Value→Prop):Wb prog 177 ps.toArray K=YD [(.int .i64 0),(.int .i64 0),(.int .i64 0),(.int .i64 0),(.int .u64 0),(.int .i64 0),(.slice none 0 0),(.int .i64 0),(.int .u64 0),(.int .u64 0),(.int .u64 0),(.int .u64 0),(.int .u64 0),(.int .u64 0),(.int .u64 0),(.int .u64 0),(.int .u64 0),(.int .u64 0),(.int .u64 0),(.int .u64 0),(.int .u64 0),(.int .u64 0),(.int .i64 0),(.int .i64 0),(.int .i64 0),(.int .i64 0),(.int .i64 0),(.int .i64 0),(.int .i64 0),(.int .i64 0),(.int .i64 0),(.int .i64 0),(.int .i64 0),(.bool false)] [(0,1),(1,1),(2,1),(3,1),(4,1),(5,1),(6,1),(7,1),(8,24),(32,1),(33,1)] ps fun z'=>K (.agg z'.toArray):=Yp (by kernel_rfl) ps K
@[go_sem ↓] theorem Ysg (ps:List (Nat×Value))(K:Value→Prop):Wb prog 181 ps.toArray K=YD [(.int .u64 0),(.int .u64 0),(.int .u64 0),(.int .u64 0),(.int .u64 0),(.int .u64 0),(.int .u64 0),(.int .u64 0),(.int .u64 0),(.int .u64 0),(.int .u64 0),(.int .u64 0),(.int .u64 0),(.int .u64 0),(.int .i64 0),(.int .i64 0),(.int .i64 0),(.int .i64 0),(.int .i64 0),(.int .i64 0),(.int .i64 0),(.int .i64 0),(.int .i64 0),(.int .i64 0),(.int .u64 0),(.int .u64 0),(.int .u64 0),(.int .u64 0),(.int .u64 0),(.int .i64 0),(.int .i64 0),(.bool false),(.slice none 0 0),(.slice none 0 0),(.slice none 0 0),(.slice none 0 0),(.slice none 0 0),(.slice none 0 0),(.slice none 0 0),(.slice none 0 0),(.slice none 0 0)] [(0,41)] ps fun z'=>K (.agg z'.toArray):=Yp (by kernel_rfl) ps K
@[go_sem ↓] theorem Yrq (ps:List (Nat×Value))(K:Value→Prop):Wb prog 185 ps.toArray K=YD [(.int .i64 0),(.int .i64 0),(.int .i64 0),(.int .i64 0),(.int .u64 0),(.int .i64 0),(.slice none 0 0),(.int .i64 0),(.int .u64 0),(.int .u64 0),(.int .u64 0),(.int .u64 0),(.int .u64 0),(.int .u64 0),(.int .u64 0),(.int .u64 0),(.int .u64 0),(.int .u64 0),(.int .u64 0),(.int .u64 0),(.int .u64 0),(.int .u64 0),(.int .i64 0),(.int .i64 0),(.int .i64 0),(.int .i64 0),(.int .i64 0),(.int .i64 0),(.int .i64 0),(.int .i64 0),(.int .i64 0),(.int .i64 0),(.int .i64 0),(.bool false)] [(0,1),(1,1),(2,1),(3,1),(4,1),(5,1),(6,1),(7,1),(8,24),(32,1),(33,1)] ps fun z'=>K (.agg z'.toArray):=Yp (by kernel_rfl) ps K
@[go_sem ↓] theorem Ysi (ps:List (Nat×Value))(K:Value→Prop):Wb prog 190 ps.toArray K=YD [(.int .u64 0),(.int .u64 0),(.int .u64 0),(.int .u64 0),(.int .u64 0)] [(0,1),(1,1),(2,1),(3,1),(4,1)] ps fun z'=>K (.agg z'.toArray):=Yp (by kernel_rfl) ps K
@[go_sem ↓] theorem Yrz (ps:List (Nat×Value))(K:Value→Prop):Wb prog 312 ps.toArray K=YD [(.int .u64 0),(.int .u64 0),(.int .u64 0),(.int .u64 0),(.int .u64 0),(.int .u64 0),(.int .u64 0),(.int .u64 0),(.int .u64 0),(.int .u64 0),(.int .u64 0),(.int .u64 0),(.int .u64 0),(.int .u64 0),(.int .i64 0),(.int .i64 0),(.int .i64 0),(.int .i64 0),(.int .i64 0),(.int .i64 0),(.int .i64 0),(.int .i64 0),(.int .i64 0),(.int .i64 0)] [(0,24)] ps fun z'=>K (.agg z'.toArray):=Yp (by kernel_rfl) ps K
@[go_sem ↓] theorem Yss (ps:List (Nat×Value))(K:Value→Prop):Wb prog 318 ps.toArray K=YD [(.int .u64 0),(.int .u64 0),(.int .u64 0),(.int .i64 0),(.int .i64 0),(.int .i64 0)] [(0,6)] ps fun z'=>K (.agg z'.toArray):=Yp (by kernel_rfl) ps K
@[go_sem ↓] theorem Yto (ps:List (Nat×Value))(K:Value→Prop):Wb prog 327 ps.toArray K=YD [(.int .u64 0),(.int .u64 0),(.int .u64 0),(.int .i64 0),(.int .u64 0),(.int .u64 0),(.int .u64 0),(.int .u64 0),(.int .u64 0),(.int .u64 0),(.int .u64 0),(.int .u64 0),(.int .u64 0),(.int .u64 0),(.int .u64 0),(.int .u64 0),(.int .u64 0),(.int .u64 0),(.int .i64 0),(.int .i64 0),(.int .i64 0),(.int .i64 0),(.int .i64 0),(.int .i64 0),(.int .i64 0),(.int .i64 0),(.int .i64 0),(.int .i64 0)] [(0,4),(4,24)] ps fun z'=>K (.agg z'.toArray):=Yp (by kernel_rfl) ps K
@[go_sem ↓] theorem Yrw (ps:List (Nat×Value))(K:Value→Prop):Wb prog 348 ps.toArray K=YD [(.int .u64 0),(.int .u64 0),(.int .u64 0)] [(0,1),(1,1),(2,1)] ps fun z'=>K (.agg z'.toArray):=Yp (by kernel_rfl) ps K
@[go_sem ↓] theorem Yrx (ps:List (Nat×Value))(K:Value→Prop):Wb prog 374 ps.toArray K=YD [(.slice none 0 0),(.int .i64 0)] [(0,1),(1,1)] ps fun z'=>K (.agg z'.toArray):=Yp (by kernel_rfl) ps K
@[go_sem ↓] theorem Ysm (ps:List (Nat×Value))(K:Value→Prop):Wb prog 376 ps.toArray K=YD [(.slice none 0 0),(.int .i64 0),(.int .i64 0)] [(0,2),(2,1)] ps fun z'=>K (.agg z'.toArray):=Yp (by kernel_rfl) ps K
@[go_sem ↓] theorem Yrr (ps:List (Nat×Value))(K:Value→Prop):Wb prog 382 ps.toArray K=YD [(.pointer none),(.int .i64 0)] [(0,1),(1,1)] ps fun z'=>K (.agg z'.toArray):=Yp (by kernel_rfl) ps K
@[go_sem ↓] theorem Ytg (ps:List (Nat×Value))(K:Value→Prop):Wb prog 399 ps.toArray K=YD [(.int .u64 0),(.int .u64 0)] [(0,1),(1,1)] ps fun z'=>K (.agg z'.toArray):=Yp (by kernel_rfl) ps K
@[go_sem ↓] theorem Ysa (ps:List (Nat×Value))(K:Value→Prop):Wb prog 410 ps.toArray K=YD [(.int .u64 0),(.int .u64 0),(.int .u64 0),(.int .i64 0),(.int .u64 0),(.int .u64 0),(.int .u64 0),(.int .u64 0),(.int .u64 0),(.int .u64 0),(.int .u64 0),(.int .u64 0),(.int .u64 0),(.int .u64 0),(.int .u64 0),(.int .u64 0),(.int .u64 0),(.int .u64 0),(.int .i64 0),(.int .i64 0),(.int .i64 0),(.int .i64 0),(.int .i64 0),(.int .i64 0),(.int .i64 0),(.int .i64 0),(.int .i64 0),(.int .i64 0),(.int .i64 0)] [(0,4),(4,24),(28,1)] ps fun z'=>K (.agg z'.toArray):=Yp (by kernel_rfl) ps K
@[go_sem ↓] theorem Ysw (ps:List (Nat×Value))(K:Value→Prop):Wb prog 417 ps.toArray K=YD [(.slice none 0 0)] [(0,1)] ps fun z'=>K (.agg z'.toArray):=Yp (by kernel_rfl) ps K
@[go_sem ↓] theorem Ytl (ps:List (Nat×Value))(K:Value→Prop):Wb prog 448 ps.toArray K=YD [(.int .u64 0),(.int .u64 0),(.int .u64 0)] [(0,2),(2,1)] ps fun z'=>K (.agg z'.toArray):=Yp (by kernel_rfl) ps K
@[go_sem ↓] theorem Wjp (ps:List (Nat×Value))(K:TypeId→List Value→Prop):xBS prog 25 0 ps.toArray K=YD [] [] ps fun cs=>K 22 cs:=Wc (by kernel_rfl) ps K
@[go_sem ↓] theorem Whl (ps:List (Nat×Value))(K:TypeId→List Value→Prop):xBS prog 25 1 ps.toArray K=YD [(.int .u64 0)] [(0,1)] ps fun cs=>K 22 cs:=Wc (by kernel_rfl) ps K
@[go_sem ↓] theorem Wiy (ps:List (Nat×Value))(K:TypeId→List Value→Prop):xBS prog 25 2 ps.toArray K=YD [(.int .u64 0),(.int .u64 0)] [(0,1),(1,1)] ps fun cs=>K 22 cs:=Wc (by kernel_rfl) ps K
@[go_sem ↓] theorem Wgj (ps:List (Nat×Value))(K:TypeId→List Value→Prop):xBS prog 25 3 ps.toArray K=YD [(.int .u64 0),(.int .u64 0),(.int .u64 0)] [(0,1),(1,1),(2,1)] ps fun cs=>K 22 cs:=Wc (by kernel_rfl) ps K
@[go_sem ↓] theorem Wec (ps:List (Nat×Value))(K:TypeId→List Value→Prop):xBS prog 25 5 ps.toArray K=YD [(.int .u64 0),(.int .u64 0),(.int .u64 0),(.int .u64 0),(.int .u64 0)] [(0,1),(1,1),(2,1),(3,1),(4,1)] ps fun cs=>K 22 cs:=Wc (by kernel_rfl) ps K
@[go_sem ↓] theorem Yuw (ps:List (Nat×Value))(K:TypeId→List Value→Prop):xBS prog 25 14 ps.toArray K=YD [(.int .u64 0),(.int .u64 0),(.int .u64 0),(.int .u64 0),(.int .u64 0),(.int .u64 0),(.int .u64 0),(.int .u64 0),(.int .u64 0),(.int .u64 0),(.int .u64 0),(.int .u64 0),(.int .u64 0),(.int .u64 0)] [(0,1),(1,1),(2,1),(3,1),(4,1),(5,1),(6,1),(7,1),(8,1),(9,1),(10,1),(11,1),(12,1),(13,1)] ps fun cs=>K 22 cs:=Wc (by kernel_rfl) ps K
@[go_sem ↓] theorem Wil (ps:List (Nat×Value))(K:TypeId→List Value→Prop):xBS prog 26 2 ps.toArray K=YD [(.int .i64 0),(.int .u64 0),(.int .i64 0),(.int .u64 0)] [(0,2),(2,2)] ps fun cs=>K 105 cs:=Wc (by kernel_rfl) ps K
@[go_sem ↓] theorem Wjk (ps:List (Nat×Value))(K:TypeId→List Value→Prop):xBS prog 31 0 ps.toArray K=YD [] [] ps fun cs=>K 73 cs:=Wc (by kernel_rfl) ps K
@[go_sem ↓] theorem Weq (ps:List (Nat×Value))(K:TypeId→List Value→Prop):xBS prog 31 1 ps.toArray K=YD [(.int .u64 0),(.int .u64 0),(.int .u64 0),(.int .i64 0),(.int .i64 0),(.int .i64 0)] [(0,6)] ps fun cs=>K 73 cs:=Wc (by kernel_rfl) ps K
@[go_sem ↓] theorem Wia (ps:List (Nat×Value))(K:TypeId→List Value→Prop):xBS prog 32 0 ps.toArray K=YD [] [] ps fun cs=>K 3 cs:=Wc (by kernel_rfl) ps K
@[go_sem ↓] theorem Wez (ps:List (Nat×Value))(K:TypeId→List Value→Prop):xBS prog 32 1 ps.toArray K=YD [(.int .i64 0)] [(0,1)] ps fun cs=>K 3 cs:=Wc (by kernel_rfl) ps K
@[go_sem ↓] theorem Yzf (ps:List (Nat×Value))(K:TypeId→List Value→Prop):xBS prog 32 10 ps.toArray K=YD [(.int .i64 0),(.int .i64 0),(.int .i64 0),(.int .i64 0),(.int .i64 0),(.int .i64 0),(.int .i64 0),(.int .i64 0),(.int .i64 0),(.int .i64 0)] [(0,1),(1,1),(2,1),(3,1),(4,1),(5,1),(6,1),(7,1),(8,1),(9,1)] ps fun cs=>K 3 cs:=Wc (by kernel_rfl) ps K
@[go_sem ↓] theorem Wji (ps:List (Nat×Value))(K:TypeId→List Value→Prop):xBS prog 33 0 ps.toArray K=YD [] [] ps fun cs=>K 139 cs:=Wc (by kernel_rfl) ps K
@[go_sem ↓] theorem Wew (ps:List (Nat×Value))(K:TypeId→List Value→Prop):xBS prog 33 1 ps.toArray K=YD [(.int .i64 0),(.int .i64 0),(.int .u64 0),(.bool false)] [(0,4)] ps fun cs=>K 139 cs:=Wc (by kernel_rfl) ps K
@[go_sem ↓] theorem Wgb (ps:List (Nat×Value))(K:TypeId→List Value→Prop):xBS prog 34 0 ps.toArray K=YD [] [] ps fun cs=>K 142 cs:=Wc (by kernel_rfl) ps K
@[go_sem ↓] theorem Wjc (ps:List (Nat×Value))(K:TypeId→List Value→Prop):xBS prog 34 1 ps.toArray K=YD [(.int .i64 0),(.int .i64 0),(.int .u64 0)] [(0,3)] ps fun cs=>K 142 cs:=Wc (by kernel_rfl) ps K
@[go_sem ↓] theorem Wfv (ps:List (Nat×Value))(K:TypeId→List Value→Prop):xBS prog 35 0 ps.toArray K=YD [] [] ps fun cs=>K 75 cs:=Wc (by kernel_rfl) ps K
@[go_sem ↓] theorem Wiq (ps:List (Nat×Value))(K:TypeId→List Value→Prop):xBS prog 35 1 ps.toArray K=YD [(.int .i64 0),(.int .i64 0),(.int .u64 0),(.int .u64 0),(.int .u64 0),(.int .u64 0),(.int .u64 0),(.int .u64 0),(.int .u64 0),(.int .u64 0),(.int .u64 0),(.int .u64 0),(.int .u64 0),(.int .u64 0),(.int .u64 0),(.int .u64 0),(.int .i64 0),(.int .i64 0),(.int .i64 0),(.int .i64 0),(.int .i64 0),(.int .i64 0),(.int .i64 0),(.int .i64 0),(.int .i64 0),(.int .i64 0),(.int .i64 0),(.int .u64 0),(.int .i64 0),(.int .i64 0),(.int .i64 0),(.slice none 0 0),(.slice none 0 0)] [(0,33)] ps fun cs=>K 75 cs:=Wc (by kernel_rfl) ps K
@[go_sem ↓] theorem Wik (ps:List (Nat×Value))(K:TypeId→List Value→Prop):xBS prog 36 0 ps.toArray K=YD [] [] ps fun cs=>K 5 cs:=Wc (by kernel_rfl) ps K
@[go_sem ↓] theorem Whq (ps:List (Nat×Value))(K:TypeId→List Value→Prop):xBS prog 36 1 ps.toArray K=YD [(.int .u8 0)] [(0,1)] ps fun cs=>K 5 cs:=Wc (by kernel_rfl) ps K
@[go_sem ↓] theorem Wie (ps:List (Nat×Value))(K:TypeId→List Value→Prop):xBS prog 36 7 ps.toArray K=YD [(.int .u8 0),(.int .u8 0),(.int .u8 0),(.int .u8 0),(.int .u8 0),(.int .u8 0),(.int .u8 0)] [(0,1),(1,1),(2,1),(3,1),(4,1),(5,1),(6,1)] ps fun cs=>K 5 cs:=Wc (by kernel_rfl) ps K
@[go_sem ↓] theorem Wef (ps:List (Nat×Value))(K:TypeId→List Value→Prop):xBS prog 37 0 ps.toArray K=YD [] [] ps fun cs=>K 36 cs:=Wc (by kernel_rfl) ps K
@[go_sem ↓] theorem Wfz (ps:List (Nat×Value))(K:TypeId→List Value→Prop):xBS prog 37 1 ps.toArray K=YD [(.slice none 0 0)] [(0,1)] ps fun cs=>K 36 cs:=Wc (by kernel_rfl) ps K
@[go_sem ↓] theorem Wgm (ps:List (Nat×Value))(K:TypeId→List Value→Prop):xBS prog 93 1 ps.toArray K=YD [(.int .i64 0),(.int .i64 0),(.int .i64 0),(.int .i64 0),(.int .u64 0),(.int .i64 0),(.slice none 0 0),(.int .i64 0),(.int .u64 0),(.int .u64 0),(.int .u64 0),(.int .u64 0),(.int .u64 0),(.int .u64 0),(.int .u64 0),(.int .u64 0),(.int .u64 0),(.int .u64 0),(.int .u64 0),(.int .u64 0),(.int .u64 0),(.int .u64 0),(.int .i64 0),(.int .i64 0),(.int .i64 0),(.int .i64 0),(.int .i64 0),(.int .i64 0),(.int .i64 0),(.int .i64 0),(.int .i64 0),(.int .i64 0),(.int .i64 0),(.bool false)] [(0,34)] ps fun cs=>K 177 cs:=Wc (by kernel_rfl) ps K
@[go_sem ↓] theorem Ytw (ps:List (Nat×Value))(K:TypeId→List Value→Prop):xBS prog 183 1 ps.toArray K=YD [(.int .i64 0),(.int .i64 0),(.int .i64 0),(.int .i64 0),(.int .u64 0),(.int .i64 0),(.slice none 0 0),(.int .i64 0),(.int .u64 0),(.int .u64 0),(.int .u64 0),(.int .u64 0),(.int .u64 0),(.int .u64 0),(.int .u64 0),(.int .u64 0),(.int .u64 0),(.int .u64 0),(.int .u64 0),(.int .u64 0),(.int .u64 0),(.int .u64 0),(.int .i64 0),(.int .i64 0),(.int .i64 0),(.int .i64 0),(.int .i64 0),(.int .i64 0),(.int .i64 0),(.int .i64 0),(.int .i64 0),(.int .i64 0),(.int .i64 0),(.bool false)] [(0,34)] ps fun cs=>K 185 cs:=Wc (by kernel_rfl) ps K
@[go_sem ↓] theorem Wce (ps:List (Nat×Value))(K:TypeId→List Value→Prop):xBS prog 231 1 ps.toArray K=YD [(.int .u64 0),(.int .u64 0),(.int .u64 0),(.int .i64 0)] [(0,4)] ps fun cs=>K 71 cs:=Wc (by kernel_rfl) ps K
@[go_sem ↓] theorem Yyw (ps:List (Nat×Value))(K:TypeId→List Value→Prop):xBS prog 292 6 ps.toArray K=YD [(.bool false),(.bool false),(.bool false),(.bool false),(.bool false),(.bool false)] [(0,1),(1,1),(2,1),(3,1),(4,1),(5,1)] ps fun cs=>K 4 cs:=Wc (by kernel_rfl) ps K
@[go_sem ↓] theorem Yyp (ps:List (Nat×Value))(K:TypeId→List Value→Prop):xBS prog 292 7 ps.toArray K=YD [(.bool false),(.bool false),(.bool false),(.bool false),(.bool false),(.bool false),(.bool false)] [(0,1),(1,1),(2,1),(3,1),(4,1),(5,1),(6,1)] ps fun cs=>K 4 cs:=Wc (by kernel_rfl) ps K
@[go_sem ↓] theorem Ytf (ps:List (Nat×Value))(K:TypeId→List Value→Prop):xBS prog 292 12 ps.toArray K=YD [(.bool false),(.bool false),(.bool false),(.bool false),(.bool false),(.bool false),(.bool false),(.bool false),(.bool false),(.bool false),(.bool false),(.bool false)] [(0,1),(1,1),(2,1),(3,1),(4,1),(5,1),(6,1),(7,1),(8,1),(9,1),(10,1),(11,1)] ps fun cs=>K 4 cs:=Wc (by kernel_rfl) ps K
@[go_sem ↓] theorem Yxw (ps:List (Nat×Value))(K:TypeId→List Value→Prop):xBS prog 307 2 ps.toArray K=YD [(.int .i64 0),(.int .i64 0)] [(0,1),(1,1)] ps fun cs=>K 40 cs:=Wc (by kernel_rfl) ps K
@[go_sem ↓] theorem Yxm (ps:List (Nat×Value))(K:TypeId→List Value→Prop):xBS prog 307 4 ps.toArray K=YD [(.int .i64 0),(.int .i64 0),(.int .i64 0),(.int .i64 0)] [(0,1),(1,1),(2,1),(3,1)] ps fun cs=>K 40 cs:=Wc (by kernel_rfl) ps K
@[go_sem ↓] theorem Yrm (ps:List (Nat×Value))(K:TypeId→List Value→Prop):xBS prog 452 14 ps.toArray K=YD [(.pointer none),(.pointer none),(.pointer none),(.pointer none),(.pointer none),(.pointer none),(.pointer none),(.pointer none),(.pointer none),(.pointer none),(.pointer none),(.pointer none),(.pointer none),(.pointer none)] [(0,1),(1,1),(2,1),(3,1),(4,1),(5,1),(6,1),(7,1),(8,1),(9,1),(10,1),(11,1),(12,1),(13,1)] ps fun cs=>K 455 cs:=Wc (by kernel_rfl) ps K
@[go_sem ↓] theorem Ytk (ps:List (Nat×Value))(K:TypeId→List Value→Prop):xBS prog 456 10 ps.toArray K=YD [(.pointer none),(.pointer none),(.pointer none),(.pointer none),(.pointer none),(.pointer none),(.pointer none),(.pointer none),(.pointer none),(.pointer none)] [(0,1),(1,1),(2,1),(3,1),(4,1),(5,1),(6,1),(7,1),(8,1),(9,1)] ps fun cs=>K 458 cs:=Wc (by kernel_rfl) ps K
@[go_sem ↓] theorem Wgz (K:Nat→Prop):xFO prog 24 0 K=K 0:=Z1 (by kernel_rfl) K
@[go_sem ↓] theorem Wfd (K:Nat→Prop):xFO prog 24 1 K=K 1:=Z1 (by kernel_rfl) K
@[go_sem ↓] theorem Wfh (K:Nat→Prop):xFO prog 24 2 K=K 2:=Z1 (by kernel_rfl) K
@[go_sem ↓] theorem Wfl (K:Nat→Prop):xFO prog 24 3 K=K 3:=Z1 (by kernel_rfl) K
@[go_sem ↓] theorem Wem (K:Nat→Prop):xFO prog 24 4 K=K 4:=Z1 (by kernel_rfl) K
@[go_sem ↓] theorem Wiv (K:Nat→Prop):xFO prog 24 5 K=K 5:=Z1 (by kernel_rfl) K
@[go_sem ↓] theorem Wjm (K:Nat→Prop):xFO prog 24 6 K=K 6:=Z1 (by kernel_rfl) K
@[go_sem ↓] theorem Whv (K:Nat→Prop):xFO prog 24 7 K=K 7:=Z1 (by kernel_rfl) K
@[go_sem ↓] theorem Whc (K:Nat→Prop):xFO prog 24 8 K=K 8:=Z1 (by kernel_rfl) K
@[go_sem ↓] theorem Wfo (K:Nat→Prop):xFO prog 24 9 K=K 9:=Z1 (by kernel_rfl) K
@[go_sem ↓] theorem Yzb (K:Nat→Prop):xFO prog 24 10 K=K 10:=Z1 (by kernel_rfl) K
@[go_sem ↓] theorem Yyr (K:Nat→Prop):xFO prog 24 11 K=K 11:=Z1 (by kernel_rfl) K
@[go_sem ↓] theorem Yzg (K:Nat→Prop):xFO prog 24 12 K=K 12:=Z1 (by kernel_rfl) K
@[go_sem ↓] theorem Wbt (K:Nat→Prop):xFO prog 24 13 K=K 13:=Z1 (by kernel_rfl) K
@[go_sem ↓] theorem Wdk (K:Nat→Prop):xFO prog 24 14 K=K 14:=Z1 (by kernel_rfl) K
@[go_sem ↓] theorem Ywq (K:Nat→Prop):xFO prog 24 15 K=K 15:=Z1 (by kernel_rfl) K
@[go_sem ↓] theorem Wdj (K:Nat→Prop):xFO prog 24 16 K=K 16:=Z1 (by kernel_rfl) K
@[go_sem ↓] theorem Yyj (K:Nat→Prop):xFO prog 24 17 K=K 17:=Z1 (by kernel_rfl) K
@[go_sem ↓] theorem Ywn (K:Nat→Prop):xFO prog 24 18 K=K 18:=Z1 (by kernel_rfl) K
@[go_sem ↓] theorem Wcg (K:Nat→Prop):xFO prog 24 19 K=K 19:=Z1 (by kernel_rfl) K
@[go_sem ↓] theorem Wdv (K:Nat→Prop):xFO prog 24 20 K=K 20:=Z1 (by kernel_rfl) K
@[go_sem ↓] theorem Yxv (K:Nat→Prop):xFO prog 24 21 K=K 21:=Z1 (by kernel_rfl) K
@[go_sem ↓] theorem Yyb (K:Nat→Prop):xFO prog 24 22 K=K 22:=Z1 (by kernel_rfl) K
@[go_sem ↓] theorem Yxx (K:Nat→Prop):xFO prog 24 23 K=K 23:=Z1 (by kernel_rfl) K
@[go_sem ↓] theorem Weg (K:Nat→Prop):xFO prog 28 0 K=K 0:=Z1 (by kernel_rfl) K
@[go_sem ↓] theorem Wdz (K:Nat→Prop):xFO prog 28 1 K=K 24:=Z1 (by kernel_rfl) K
@[go_sem ↓] theorem Wgg (K:Nat→Prop):xFO prog 28 2 K=K 25:=Z1 (by kernel_rfl) K
@[go_sem ↓] theorem Wfc (K:Nat→Prop):xFO prog 28 3 K=K 26:=Z1 (by kernel_rfl) K
@[go_sem ↓] theorem Whn (K:Nat→Prop):xFO prog 39 0 K=K 0:=Z1 (by kernel_rfl) K
@[go_sem ↓] theorem Web (K:Nat→Prop):xFO prog 39 1 K=K 24:=Z1 (by kernel_rfl) K
@[go_sem ↓] theorem Wgc (K:Nat→Prop):xFO prog 39 2 K=K 25:=Z1 (by kernel_rfl) K
@[go_sem ↓] theorem Wfn (K:Nat→Prop):xFO prog 39 3 K=K 26:=Z1 (by kernel_rfl) K
@[go_sem ↓] theorem Whi (K:Nat→Prop):xFO prog 39 4 K=K 27:=Z1 (by kernel_rfl) K
@[go_sem ↓] theorem Wfy (K:Nat→Prop):xFO prog 39 5 K=K 28:=Z1 (by kernel_rfl) K
@[go_sem ↓] theorem Wii (K:Nat→Prop):xFO prog 39 6 K=K 29:=Z1 (by kernel_rfl) K
@[go_sem ↓] theorem Weh (K:Nat→Prop):xFO prog 39 7 K=K 30:=Z1 (by kernel_rfl) K
@[go_sem ↓] theorem Wij (K:Nat→Prop):xFO prog 39 8 K=K 31:=Z1 (by kernel_rfl) K
@[go_sem ↓] theorem Wic (K:Nat→Prop):xFO prog 39 9 K=K 32:=Z1 (by kernel_rfl) K
@[go_sem ↓] theorem Wat (K:Nat→Prop):xFO prog 39 10 K=K 33:=Z1 (by kernel_rfl) K
@[go_sem ↓] theorem Yva (K:Nat→Prop):xFO prog 39 11 K=K 34:=Z1 (by kernel_rfl) K
@[go_sem ↓] theorem Wbi (K:Nat→Prop):xFO prog 39 12 K=K 35:=Z1 (by kernel_rfl) K
@[go_sem ↓] theorem Yur (K:Nat→Prop):xFO prog 39 13 K=K 36:=Z1 (by kernel_rfl) K
@[go_sem ↓] theorem Ywg (K:Nat→Prop):xFO prog 39 14 K=K 37:=Z1 (by kernel_rfl) K
@[go_sem ↓] theorem Wbh (K:Nat→Prop):xFO prog 39 15 K=K 38:=Z1 (by kernel_rfl) K
@[go_sem ↓] theorem Yvb (K:Nat→Prop):xFO prog 39 16 K=K 39:=Z1 (by kernel_rfl) K
@[go_sem ↓] theorem Yvs (K:Nat→Prop):xFO prog 39 17 K=K 40:=Z1 (by kernel_rfl) K
@[go_sem ↓] theorem Wim (K:Nat→Prop):xFO prog 43 0 K=K 0:=Z1 (by kernel_rfl) K
@[go_sem ↓] theorem Wjn (K:Nat→Prop):xFO prog 43 1 K=K 1:=Z1 (by kernel_rfl) K
@[go_sem ↓] theorem Wjh (K:Nat→Prop):xFO prog 43 2 K=K 2:=Z1 (by kernel_rfl) K
@[go_sem ↓] theorem Wfe (K:Nat→Prop):xFO prog 43 3 K=K 3:=Z1 (by kernel_rfl) K
@[go_sem ↓] theorem Wfj (K:Nat→Prop):xFO prog 43 4 K=K 4:=Z1 (by kernel_rfl) K
@[go_sem ↓] theorem Wjd (K:Nat→Prop):xFO prog 43 5 K=K 5:=Z1 (by kernel_rfl) K
@[go_sem ↓] theorem Wgo (K:Nat→Prop):xFO prog 43 6 K=K 6:=Z1 (by kernel_rfl) K
@[go_sem ↓] theorem Wgr (K:Nat→Prop):xFO prog 43 7 K=K 7:=Z1 (by kernel_rfl) K
@[go_sem ↓] theorem Whs (K:Nat→Prop):xFO prog 43 8 K=K 8:=Z1 (by kernel_rfl) K
@[go_sem ↓] theorem Wgf (K:Nat→Prop):xFO prog 43 9 K=K 9:=Z1 (by kernel_rfl) K
@[go_sem ↓] theorem Yux (K:Nat→Prop):xFO prog 43 10 K=K 10:=Z1 (by kernel_rfl) K
@[go_sem ↓] theorem Yyk (K:Nat→Prop):xFO prog 43 11 K=K 11:=Z1 (by kernel_rfl) K
@[go_sem ↓] theorem Yzq (K:Nat→Prop):xFO prog 43 12 K=K 12:=Z1 (by kernel_rfl) K
@[go_sem ↓] theorem Wbo (K:Nat→Prop):xFO prog 43 13 K=K 13:=Z1 (by kernel_rfl) K
@[go_sem ↓] theorem Yxk (K:Nat→Prop):xFO prog 43 14 K=K 14:=Z1 (by kernel_rfl) K
@[go_sem ↓] theorem Yzh (K:Nat→Prop):xFO prog 43 15 K=K 15:=Z1 (by kernel_rfl) K
@[go_sem ↓] theorem Ywa (K:Nat→Prop):xFO prog 43 16 K=K 16:=Z1 (by kernel_rfl) K
@[go_sem ↓] theorem Waq (K:Nat→Prop):xFO prog 43 17 K=K 17:=Z1 (by kernel_rfl) K
@[go_sem ↓] theorem Wcr (K:Nat→Prop):xFO prog 43 18 K=K 18:=Z1 (by kernel_rfl) K
@[go_sem ↓] theorem Yzp (K:Nat→Prop):xFO prog 43 19 K=K 19:=Z1 (by kernel_rfl) K
@[go_sem ↓] theorem Wdq (K:Nat→Prop):xFO prog 43 20 K=K 20:=Z1 (by kernel_rfl) K
@[go_sem ↓] theorem Wcc (K:Nat→Prop):xFO prog 43 21 K=K 21:=Z1 (by kernel_rfl) K
@[go_sem ↓] theorem Wcb (K:Nat→Prop):xFO prog 43 22 K=K 22:=Z1 (by kernel_rfl) K
@[go_sem ↓] theorem Yvm (K:Nat→Prop):xFO prog 43 23 K=K 23:=Z1 (by kernel_rfl) K
@[go_sem ↓] theorem Whf (K:Nat→Prop):xFO prog 61 1 K=K 1:=Z1 (by kernel_rfl) K
@[go_sem ↓] theorem Weu (K:Nat→Prop):xFO prog 61 2 K=K 2:=Z1 (by kernel_rfl) K
@[go_sem ↓] theorem Whk (K:Nat→Prop):xFO prog 61 3 K=K 3:=Z1 (by kernel_rfl) K
@[go_sem ↓] theorem Wed (K:Nat→Prop):xFO prog 61 4 K=K 4:=Z1 (by kernel_rfl) K
@[go_sem ↓] theorem Whd (K:Nat→Prop):xFO prog 61 5 K=K 5:=Z1 (by kernel_rfl) K
@[go_sem ↓] theorem Wex (K:Nat→Prop):xFO prog 61 6 K=K 6:=Z1 (by kernel_rfl) K
@[go_sem ↓] theorem Why (K:Nat→Prop):xFO prog 61 7 K=K 7:=Z1 (by kernel_rfl) K
@[go_sem ↓] theorem Wes (K:Nat→Prop):xFO prog 61 8 K=K 8:=Z1 (by kernel_rfl) K
@[go_sem ↓] theorem Wge (K:Nat→Prop):xFO prog 61 9 K=K 9:=Z1 (by kernel_rfl) K
@[go_sem ↓] theorem Wcn (K:Nat→Prop):xFO prog 61 10 K=K 10:=Z1 (by kernel_rfl) K
@[go_sem ↓] theorem Yuh (K:Nat→Prop):xFO prog 61 11 K=K 11:=Z1 (by kernel_rfl) K
@[go_sem ↓] theorem Wbq (K:Nat→Prop):xFO prog 61 12 K=K 12:=Z1 (by kernel_rfl) K
@[go_sem ↓] theorem Wbw (K:Nat→Prop):xFO prog 61 13 K=K 13:=Z1 (by kernel_rfl) K
@[go_sem ↓] theorem Wjo (K:Nat→Prop):xFO prog 71 0 K=K 0:=Z1 (by kernel_rfl) K
@[go_sem ↓] theorem Wfk (K:Nat→Prop):xFO prog 71 1 K=K 1:=Z1 (by kernel_rfl) K
@[go_sem ↓] theorem Wfx (K:Nat→Prop):xFO prog 71 2 K=K 2:=Z1 (by kernel_rfl) K
@[go_sem ↓] theorem Wft (K:Nat→Prop):xFO prog 71 3 K=K 3:=Z1 (by kernel_rfl) K
@[go_sem ↓] theorem Whw (K:Nat→Prop):xFO prog 73 0 K=K 0:=Z1 (by kernel_rfl) K
@[go_sem ↓] theorem Wib (K:Nat→Prop):xFO prog 73 1 K=K 4:=Z1 (by kernel_rfl) K
@[go_sem ↓] theorem Wgy (K:Nat→Prop):xFO prog 73 2 K=K 5:=Z1 (by kernel_rfl) K
@[go_sem ↓] theorem Wid (K:Nat→Prop):xFO prog 75 0 K=K 0:=Z1 (by kernel_rfl) K
@[go_sem ↓] theorem Wfg (K:Nat→Prop):xFO prog 75 1 K=K 1:=Z1 (by kernel_rfl) K
@[go_sem ↓] theorem Wjl (K:Nat→Prop):xFO prog 75 2 K=K 2:=Z1 (by kernel_rfl) K
@[go_sem ↓] theorem Wis (K:Nat→Prop):xFO prog 75 3 K=K 26:=Z1 (by kernel_rfl) K
@[go_sem ↓] theorem Wfu (K:Nat→Prop):xFO prog 75 4 K=K 27:=Z1 (by kernel_rfl) K
@[go_sem ↓] theorem Wfb (K:Nat→Prop):xFO prog 75 5 K=K 28:=Z1 (by kernel_rfl) K
@[go_sem ↓] theorem Whx (K:Nat→Prop):xFO prog 75 6 K=K 29:=Z1 (by kernel_rfl) K
@[go_sem ↓] theorem Wer (K:Nat→Prop):xFO prog 75 7 K=K 30:=Z1 (by kernel_rfl) K
@[go_sem ↓] theorem Wgq (K:Nat→Prop):xFO prog 75 8 K=K 31:=Z1 (by kernel_rfl) K
@[go_sem ↓] theorem Wiw (K:Nat→Prop):xFO prog 75 9 K=K 32:=Z1 (by kernel_rfl) K
@[go_sem ↓] theorem Wei (K:Nat→Prop):xFO prog 95 0 K=K 0:=Z1 (by kernel_rfl) K
@[go_sem ↓] theorem Wjq (K:Nat→Prop):xFO prog 95 1 K=K 1:=Z1 (by kernel_rfl) K
@[go_sem ↓] theorem Yvz (K:Nat→Prop):xFO prog 105 0 K=K 0:=Z1 (by kernel_rfl) K
@[go_sem ↓] theorem Yus (K:Nat→Prop):xFO prog 105 1 K=K 1:=Z1 (by kernel_rfl) K
@[go_sem ↓] theorem Yvt (K:Nat→Prop):xFO prog 112 0 K=K 0:=Z1 (by kernel_rfl) K
@[go_sem ↓] theorem Wah (K:Nat→Prop):xFO prog 134 0 K=K 0:=Z1 (by kernel_rfl) K
@[go_sem ↓] theorem Yzs (K:Nat→Prop):xFO prog 139 0 K=K 0:=Z1 (by kernel_rfl) K
@[go_sem ↓] theorem Yvo (K:Nat→Prop):xFO prog 139 1 K=K 1:=Z1 (by kernel_rfl) K
@[go_sem ↓] theorem Ytz (K:Nat→Prop):xFO prog 139 2 K=K 2:=Z1 (by kernel_rfl) K
@[go_sem ↓] theorem Wai (K:Nat→Prop):xFO prog 139 3 K=K 3:=Z1 (by kernel_rfl) K
@[go_sem ↓] theorem Ywu (K:Nat→Prop):xFO prog 142 0 K=K 0:=Z1 (by kernel_rfl) K
@[go_sem ↓] theorem Wbg (K:Nat→Prop):xFO prog 142 1 K=K 1:=Z1 (by kernel_rfl) K
@[go_sem ↓] theorem Yyl (K:Nat→Prop):xFO prog 142 2 K=K 2:=Z1 (by kernel_rfl) K
@[go_sem ↓] theorem Yzw (K:Nat→Prop):xFO prog 148 0 K=K 0:=Z1 (by kernel_rfl) K
@[go_sem ↓] theorem Wdu (K:Nat→Prop):xFO prog 148 1 K=K 41:=Z1 (by kernel_rfl) K
@[go_sem ↓] theorem Ywj (K:Nat→Prop):xFO prog 148 2 K=K 55:=Z1 (by kernel_rfl) K
@[go_sem ↓] theorem Yxi (K:Nat→Prop):xFO prog 177 0 K=K 0:=Z1 (by kernel_rfl) K
@[go_sem ↓] theorem Wdh (K:Nat→Prop):xFO prog 177 1 K=K 1:=Z1 (by kernel_rfl) K
@[go_sem ↓] theorem Wbd (K:Nat→Prop):xFO prog 177 2 K=K 2:=Z1 (by kernel_rfl) K
@[go_sem ↓] theorem Ywk (K:Nat→Prop):xFO prog 177 3 K=K 3:=Z1 (by kernel_rfl) K
@[go_sem ↓] theorem Yuq (K:Nat→Prop):xFO prog 177 4 K=K 4:=Z1 (by kernel_rfl) K
@[go_sem ↓] theorem Ywz (K:Nat→Prop):xFO prog 177 5 K=K 5:=Z1 (by kernel_rfl) K
@[go_sem ↓] theorem Wbp (K:Nat→Prop):xFO prog 177 6 K=K 6:=Z1 (by kernel_rfl) K
@[go_sem ↓] theorem Waz (K:Nat→Prop):xFO prog 177 7 K=K 7:=Z1 (by kernel_rfl) K
@[go_sem ↓] theorem Yze (K:Nat→Prop):xFO prog 177 8 K=K 8:=Z1 (by kernel_rfl) K
@[go_sem ↓] theorem Yub (K:Nat→Prop):xFO prog 177 9 K=K 32:=Z1 (by kernel_rfl) K
@[go_sem ↓] theorem Ysy (K:Nat→Prop):xFO prog 177 10 K=K 33:=Z1 (by kernel_rfl) K
@[go_sem ↓] theorem Ytx (K:Nat→Prop):xFO prog 181 0 K=K 0:=Z1 (by kernel_rfl) K
@[go_sem ↓] theorem Wcv (K:Nat→Prop):xFO prog 185 0 K=K 0:=Z1 (by kernel_rfl) K
@[go_sem ↓] theorem Ywr (K:Nat→Prop):xFO prog 185 1 K=K 1:=Z1 (by kernel_rfl) K
@[go_sem ↓] theorem Wds (K:Nat→Prop):xFO prog 185 2 K=K 2:=Z1 (by kernel_rfl) K
@[go_sem ↓] theorem Wdx (K:Nat→Prop):xFO prog 185 3 K=K 3:=Z1 (by kernel_rfl) K
@[go_sem ↓] theorem Wdw (K:Nat→Prop):xFO prog 185 4 K=K 4:=Z1 (by kernel_rfl) K
@[go_sem ↓] theorem Yya (K:Nat→Prop):xFO prog 185 5 K=K 5:=Z1 (by kernel_rfl) K
@[go_sem ↓] theorem Wcp (K:Nat→Prop):xFO prog 185 6 K=K 6:=Z1 (by kernel_rfl) K
@[go_sem ↓] theorem Yxp (K:Nat→Prop):xFO prog 185 7 K=K 7:=Z1 (by kernel_rfl) K
@[go_sem ↓] theorem Wac (K:Nat→Prop):xFO prog 185 8 K=K 8:=Z1 (by kernel_rfl) K
@[go_sem ↓] theorem Yzx (K:Nat→Prop):xFO prog 185 9 K=K 32:=Z1 (by kernel_rfl) K
@[go_sem ↓] theorem Ytr (K:Nat→Prop):xFO prog 185 10 K=K 33:=Z1 (by kernel_rfl) K
@[go_sem ↓] theorem Yun (K:Nat→Prop):xFO prog 190 0 K=K 0:=Z1 (by kernel_rfl) K
@[go_sem ↓] theorem Yut (K:Nat→Prop):xFO prog 190 1 K=K 1:=Z1 (by kernel_rfl) K
@[go_sem ↓] theorem Yvx (K:Nat→Prop):xFO prog 190 2 K=K 2:=Z1 (by kernel_rfl) K
@[go_sem ↓] theorem Yxs (K:Nat→Prop):xFO prog 190 3 K=K 3:=Z1 (by kernel_rfl) K
@[go_sem ↓] theorem Yzu (K:Nat→Prop):xFO prog 190 4 K=K 4:=Z1 (by kernel_rfl) K
@[go_sem ↓] theorem Wby (K:Nat→Prop):xFO prog 312 0 K=K 0:=Z1 (by kernel_rfl) K
@[go_sem ↓] theorem Yvu (K:Nat→Prop):xFO prog 318 0 K=K 0:=Z1 (by kernel_rfl) K
@[go_sem ↓] theorem Wap (K:Nat→Prop):xFO prog 327 0 K=K 0:=Z1 (by kernel_rfl) K
@[go_sem ↓] theorem Yvf (K:Nat→Prop):xFO prog 327 1 K=K 4:=Z1 (by kernel_rfl) K
@[go_sem ↓] theorem Ywp (K:Nat→Prop):xFO prog 348 0 K=K 0:=Z1 (by kernel_rfl) K
@[go_sem ↓] theorem Yzl (K:Nat→Prop):xFO prog 348 1 K=K 1:=Z1 (by kernel_rfl) K
@[go_sem ↓] theorem Wbx (K:Nat→Prop):xFO prog 348 2 K=K 2:=Z1 (by kernel_rfl) K
@[go_sem ↓] theorem Wbb (K:Nat→Prop):xFO prog 374 0 K=K 0:=Z1 (by kernel_rfl) K
@[go_sem ↓] theorem Wcl (K:Nat→Prop):xFO prog 374 1 K=K 1:=Z1 (by kernel_rfl) K
@[go_sem ↓] theorem Wdc (K:Nat→Prop):xFO prog 376 0 K=K 0:=Z1 (by kernel_rfl) K
@[go_sem ↓] theorem Yui (K:Nat→Prop):xFO prog 376 1 K=K 2:=Z1 (by kernel_rfl) K
@[go_sem ↓] theorem Yxf (K:Nat→Prop):xFO prog 382 0 K=K 0:=Z1 (by kernel_rfl) K
@[go_sem ↓] theorem Yww (K:Nat→Prop):xFO prog 382 1 K=K 1:=Z1 (by kernel_rfl) K
@[go_sem ↓] theorem Yzn (K:Nat→Prop):xFO prog 399 0 K=K 0:=Z1 (by kernel_rfl) K
@[go_sem ↓] theorem Ywc (K:Nat→Prop):xFO prog 399 1 K=K 1:=Z1 (by kernel_rfl) K
@[go_sem ↓] theorem Yvj (K:Nat→Prop):xFO prog 410 0 K=K 0:=Z1 (by kernel_rfl) K
@[go_sem ↓] theorem Yxb (K:Nat→Prop):xFO prog 410 1 K=K 4:=Z1 (by kernel_rfl) K
@[go_sem ↓] theorem Wco (K:Nat→Prop):xFO prog 410 2 K=K 28:=Z1 (by kernel_rfl) K
@[go_sem ↓] theorem Ywf (K:Nat→Prop):xFO prog 415 0 K=K 0:=Z1 (by kernel_rfl) K
@[go_sem ↓] theorem Wcy (K:Nat→Prop):xFO prog 417 0 K=K 0:=Z1 (by kernel_rfl) K
@[go_sem ↓] theorem Ywi (K:Nat→Prop):xFO prog 448 0 K=K 0:=Z1 (by kernel_rfl) K
@[go_sem ↓] theorem Yyc (K:Nat→Prop):xFO prog 448 1 K=K 2:=Z1 (by kernel_rfl) K
@[go_sem] theorem Yxu:tSh prog 25 = .sl 22 1 8:=by kernel_rfl
@[go_sem] theorem tSh_26:tSh prog 26 = .sl 105 2 16:=by kernel_rfl
@[go_sem] theorem Yyt:tSh prog 31 = .sl 73 6 48:=by kernel_rfl
@[go_sem] theorem Zye:tSh prog 32 = .sl 3 1 8:=by kernel_rfl
@[go_sem] theorem Yyu:tSh prog 33 = .sl 139 4 32:=by kernel_rfl
@[go_sem] theorem Ykc:tSh prog 34 = .sl 142 3 24:=by kernel_rfl
@[go_sem] theorem Yvv:tSh prog 35 = .sl 75 33 296:=by kernel_rfl
@[go_sem] theorem Yks:tSh prog 36 = .sl 5 1 1:=by kernel_rfl
@[go_sem] theorem Yym:tSh prog 37 = .sl 36 1 24:=by kernel_rfl
@[go_sem] theorem tSh_91:tSh prog 91 = .sl 95 2 32:=by kernel_rfl
@[go_sem] theorem tSh_93:tSh prog 93 = .sl 177 34 288:=by kernel_rfl
@[go_sem] theorem tSh_183:tSh prog 183 = .sl 185 34 288:=by kernel_rfl
@[go_sem] theorem tSh_231:tSh prog 231 = .sl 71 4 32:=by kernel_rfl
@[go_sem] theorem tSh_292:tSh prog 292 = .sl 4 1 1:=by kernel_rfl
@[go_sem] theorem tSh_307:tSh prog 307 = .sl 40 1 8:=by kernel_rfl
@[go_sem] theorem tSh_321:tSh prog 321 = .sl 5 1 1:=by kernel_rfl
@[go_sem] theorem tSh_452:tSh prog 452 = .sl 455 1 8:=by kernel_rfl
@[go_sem] theorem tSh_456:tSh prog 456 = .sl 458 1 8:=by kernel_rfl
@[go_sem ↓] theorem xSlh_32 (a:Option Addr)(n c:Nat)(k:IntKind)(j:Int)(h0:0≤j)(h1:j≤(c:Int))(K:Value→Prop):xSl prog 32 (.slice a n c) none (some (.int k j)) none K=K (.slice a j.toNat c):=Ylp Zye a n c k j h0 h1 K
@[go_sem ↓] theorem xSlh_34 (a:Option Addr)(n c:Nat)(k:IntKind)(j:Int)(h0:0≤j)(h1:j≤(c:Int))(K:Value→Prop):xSl prog 34 (.slice a n c) none (some (.int k j)) none K=K (.slice a j.toNat c):=Ylp Ykc a n c k j h0 h1 K
@[go_sem ↓] theorem xBeq_25 (x y:Operand)(a:Option Addr)(n c:Nat)(K:Value→Prop):Uj prog .eql 25 x y (.slice a n c) (.slice none 0 0) K=K (.bool a.isNone):=Vg Yxu x y a n c K
@[go_sem ↓] theorem xBeq_31 (x y:Operand)(a:Option Addr)(n c:Nat)(K:Value→Prop):Uj prog .eql 31 x y (.slice a n c) (.slice none 0 0) K=K (.bool a.isNone):=Vg Yyt x y a n c K
@[go_sem ↓] theorem xBeq_32 (x y:Operand)(a:Option Addr)(n c:Nat)(K:Value→Prop):Uj prog .eql 32 x y (.slice a n c) (.slice none 0 0) K=K (.bool a.isNone):=Vg Zye x y a n c K
@[go_sem ↓] theorem xBeq_33 (x y:Operand)(a:Option Addr)(n c:Nat)(K:Value→Prop):Uj prog .eql 33 x y (.slice a n c) (.slice none 0 0) K=K (.bool a.isNone):=Vg Yyu x y a n c K
@[go_sem ↓] theorem xBeq_34 (x y:Operand)(a:Option Addr)(n c:Nat)(K:Value→Prop):Uj prog .eql 34 x y (.slice a n c) (.slice none 0 0) K=K (.bool a.isNone):=Vg Ykc x y a n c K
@[go_sem ↓] theorem xBeq_35 (x y:Operand)(a:Option Addr)(n c:Nat)(K:Value→Prop):Uj prog .eql 35 x y (.slice a n c) (.slice none 0 0) K=K (.bool a.isNone):=Vg Yvv x y a n c K
@[go_sem ↓] theorem xBeq_36 (x y:Operand)(a:Option Addr)(n c:Nat)(K:Value→Prop):Uj prog .eql 36 x y (.slice a n c) (.slice none 0 0) K=K (.bool a.isNone):=Vg Yks x y a n c K
@[go_sem ↓] theorem xBeq_37 (x y:Operand)(a:Option Addr)(n c:Nat)(K:Value→Prop):Uj prog .eql 37 x y (.slice a n c) (.slice none 0 0) K=K (.bool a.isNone):=Vg Yym x y a n c K
@[go_sem ↓] theorem Wgl (x y:Operand)(a:Option Addr)(K:Value→Prop):Uj prog .eql 295 x y (.pointer a) (.pointer none) K=K (.bool a.isNone):=Zdd (T:=295) (e:=376) (by kernel_rfl) x y a K
@[go_sem ↓] theorem Wel (x y:Operand)(a:Option Addr)(K:Value→Prop):Uj prog .eql 338 x y (.pointer a) (.pointer none) K=K (.bool a.isNone):=Zdd (T:=338) (e:=417) (by kernel_rfl) x y a K
@[go_sem ↓] theorem xSlm_32 (a:Option Addr)(n c:Nat)(k l:IntKind)(i j:Int)(h0:0≤i)(h1:i≤j)(h2:j≤(c:Int))(K:Value→Prop):xSl prog 32 (.slice a n c) (some (.int k i)) (some (.int l j)) none K=K (.slice (Gr a c i.toNat 1) (j.toNat-i.toNat) (c-i.toNat)):=Zdj Zye a n c k l i j h0 h1 h2 K
@[go_sem ↓] theorem xSlm_36 (a:Option Addr)(n c:Nat)(k l:IntKind)(i j:Int)(h0:0≤i)(h1:i≤j)(h2:j≤(c:Int))(K:Value→Prop):xSl prog 36 (.slice a n c) (some (.int k i)) (some (.int l j)) none K=K (.slice (Gr a c i.toNat 1) (j.toNat-i.toNat) (c-i.toNat)):=Zdj Yks a n c k l i j h0 h1 h2 K
@[go_sem ↓] theorem xLen_25 (ty:Nat)(a:Option Addr)(n c:Nat)(K:Value→Prop):Zca prog ty #[25] (.slice a n c) K=K (.int .i64 n):=YG (T:=25) (e:=22) (by kernel_rfl) a n c
@[go_sem ↓] theorem xLen_26 (ty:Nat)(a:Option Addr)(n c:Nat)(K:Value→Prop):Zca prog ty #[26] (.slice a n c) K=K (.int .i64 n):=YG (T:=26) (e:=105) (by kernel_rfl) a n c
@[go_sem ↓] theorem xLen_31 (ty:Nat)(a:Option Addr)(n c:Nat)(K:Value→Prop):Zca prog ty #[31] (.slice a n c) K=K (.int .i64 n):=YG (T:=31) (e:=73) (by kernel_rfl) a n c
@[go_sem ↓] theorem xLen_32 (ty:Nat)(a:Option Addr)(n c:Nat)(K:Value→Prop):Zca prog ty #[32] (.slice a n c) K=K (.int .i64 n):=YG (T:=32) (e:=3) (by kernel_rfl) a n c
@[go_sem ↓] theorem xLen_33 (ty:Nat)(a:Option Addr)(n c:Nat)(K:Value→Prop):Zca prog ty #[33] (.slice a n c) K=K (.int .i64 n):=YG (T:=33) (e:=139) (by kernel_rfl) a n c
@[go_sem ↓] theorem xLen_34 (ty:Nat)(a:Option Addr)(n c:Nat)(K:Value→Prop):Zca prog ty #[34] (.slice a n c) K=K (.int .i64 n):=YG (T:=34) (e:=142) (by kernel_rfl) a n c
@[go_sem ↓] theorem xLen_35 (ty:Nat)(a:Option Addr)(n c:Nat)(K:Value→Prop):Zca prog ty #[35] (.slice a n c) K=K (.int .i64 n):=YG (T:=35) (e:=75) (by kernel_rfl) a n c
@[go_sem ↓] theorem xLen_36 (ty:Nat)(a:Option Addr)(n c:Nat)(K:Value→Prop):Zca prog ty #[36] (.slice a n c) K=K (.int .i64 n):=YG (T:=36) (e:=5) (by kernel_rfl) a n c
@[go_sem ↓] theorem xLen_37 (ty:Nat)(a:Option Addr)(n c:Nat)(K:Value→Prop):Zca prog ty #[37] (.slice a n c) K=K (.int .i64 n):=YG (T:=37) (e:=36) (by kernel_rfl) a n c
@[go_sem ↓] theorem xLen_91 (ty:Nat)(a:Option Addr)(n c:Nat)(K:Value→Prop):Zca prog ty #[91] (.slice a n c) K=K (.int .i64 n):=YG (T:=91) (e:=95) (by kernel_rfl) a n c
@[go_sem ↓] theorem xLen_93 (ty:Nat)(a:Option Addr)(n c:Nat)(K:Value→Prop):Zca prog ty #[93] (.slice a n c) K=K (.int .i64 n):=YG (T:=93) (e:=177) (by kernel_rfl) a n c
@[go_sem ↓] theorem Wev (ty:Nat)(a:Option Addr)(n c:Nat)(K:Value→Prop):Zca prog ty #[183] (.slice a n c) K=K (.int .i64 n):=YG (T:=183) (e:=185) (by kernel_rfl) a n c
@[go_sem ↓] theorem Whp (ty:Nat)(a:Option Addr)(n c:Nat)(K:Value→Prop):Zca prog ty #[231] (.slice a n c) K=K (.int .i64 n):=YG (T:=231) (e:=71) (by kernel_rfl) a n c
@[go_sem ↓] theorem Wjf (ty:Nat)(a:Option Addr)(n c:Nat)(K:Value→Prop):Zca prog ty #[292] (.slice a n c) K=K (.int .i64 n):=YG (T:=292) (e:=4) (by kernel_rfl) a n c
@[go_sem ↓] theorem Whg (ty:Nat)(a:Option Addr)(n c:Nat)(K:Value→Prop):Zca prog ty #[307] (.slice a n c) K=K (.int .i64 n):=YG (T:=307) (e:=40) (by kernel_rfl) a n c
@[go_sem ↓] theorem Wix (ty:Nat)(a:Option Addr)(n c:Nat)(K:Value→Prop):Zca prog ty #[321] (.slice a n c) K=K (.int .i64 n):=YG (T:=321) (e:=5) (by kernel_rfl) a n c
@[go_sem ↓] theorem Wit (ty:Nat)(a:Option Addr)(n c:Nat)(K:Value→Prop):Zca prog ty #[452] (.slice a n c) K=K (.int .i64 n):=YG (T:=452) (e:=455) (by kernel_rfl) a n c
@[go_sem ↓] theorem Wje (ty:Nat)(a:Option Addr)(n c:Nat)(K:Value→Prop):Zca prog ty #[456] (.slice a n c) K=K (.int .i64 n):=YG (T:=456) (e:=458) (by kernel_rfl) a n c
@[go_sem ↓] theorem xBb_4 (x y:Operand)(a b:Bool)(K:Value→Prop):Uj prog .eql 4 x y (.bool a) (.bool b) K=K (.bool (a == b)):=Zmz (T:=4) (by kernel_rfl) x y a b K
@[go_sem ↓] theorem xBn_4 (x y:Operand)(a b:Bool)(K:Value→Prop):Uj prog .neq 4 x y (.bool a) (.bool b) K=K (.bool (!(a == b))):=Zpn (T:=4) (by kernel_rfl) x y a b K
@[go_sem ↓] theorem Ysz (k:IntKind)(n:Int)(K:Value→Prop):Zdm prog 3 22 (.int k n) K=K (.int .u64 (IntKind.u64.wrap n)):=V6 (s:=3) (d:=22) (ks:=.i64) (kd:=.u64) (by kernel_rfl) (by kernel_rfl) k n
@[go_sem ↓] theorem Yno (k:IntKind)(n:Int)(K:Value→Prop):Zdm prog 3 402 (.int k n) K=K (.int .u64 (IntKind.u64.wrap n)):=V6 (s:=3) (d:=402) (ks:=.i64) (kd:=.u64) (by kernel_rfl) (by kernel_rfl) k n
@[go_sem ↓] theorem Waj (k:IntKind)(n:Int)(K:Value→Prop):Zdm prog 5 3 (.int k n) K=K (.int .i64 (IntKind.i64.wrap n)):=V6 (s:=5) (d:=3) (ks:=.u8) (kd:=.i64) (by kernel_rfl) (by kernel_rfl) k n
@[go_sem ↓] theorem Ysl (k:IntKind)(n:Int)(K:Value→Prop):Zdm prog 5 22 (.int k n) K=K (.int .u64 (IntKind.u64.wrap n)):=V6 (s:=5) (d:=22) (ks:=.u8) (kd:=.u64) (by kernel_rfl) (by kernel_rfl) k n
@[go_sem ↓] theorem Ysb (k:IntKind)(n:Int)(K:Value→Prop):Zdm prog 22 3 (.int k n) K=K (.int .i64 (IntKind.i64.wrap n)):=V6 (s:=22) (d:=3) (ks:=.u64) (kd:=.i64) (by kernel_rfl) (by kernel_rfl) k n
@[go_sem ↓] theorem Ysu (k:IntKind)(n:Int)(K:Value→Prop):Zdm prog 22 5 (.int k n) K=K (.int .u8 (IntKind.u8.wrap n)):=V6 (s:=22) (d:=5) (ks:=.u64) (kd:=.u8) (by kernel_rfl) (by kernel_rfl) k n
@[go_sem ↓] theorem Yot (k:IntKind)(n:Int)(K:Value→Prop):Zdm prog 402 3 (.int k n) K=K (.int .i64 (IntKind.i64.wrap n)):=V6 (s:=402) (d:=3) (ks:=.u64) (kd:=.i64) (by kernel_rfl) (by kernel_rfl) k n
theorem ZY:prog.follows .mixedOrders=true:=by kernel_rfl
end Go.X
