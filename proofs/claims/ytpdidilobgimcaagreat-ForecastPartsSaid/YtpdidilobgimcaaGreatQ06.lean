/- Lemmas and contracts. Conditions: as each says. -/
import Derived.KernelRfl
import Derived.Test.YtpdidilobgimcaaGreatProg
import Derived.Test.YtpdidilobgimcaaGreatQ04
set_option linter.unusedVariables false
set_option linter.unusedSimpArgs false
set_option maxHeartbeats 12800000
set_option maxRecDepth 20000
namespace Go.X
open Go.Proofs Go.Proofs.Tryz
theorem Zbr:tI prog 3=some ⟨1,false,[(.int .i64 0)],8⟩:=by kernel_rfl
@[go_sem ↓] theorem xTI_3 (K:TI→Prop):xTI prog 3 K=K ⟨1,false,[(.int .i64 0)],8⟩:=Yq Zbr K
theorem tI_4:tI prog 4=some ⟨1,false,[(.bool false)],1⟩:=by kernel_rfl
@[go_sem ↓] theorem xTI_4 (K:TI→Prop):xTI prog 4 K=K ⟨1,false,[(.bool false)],1⟩:=Yq tI_4 K
theorem Ynj:tI prog 5=some ⟨1,false,[(.int .u8 0)],1⟩:=by kernel_rfl
@[go_sem ↓] theorem xTI_5 (K:TI→Prop):xTI prog 5 K=K ⟨1,false,[(.int .u8 0)],1⟩:=Yq Ynj K
theorem Uc:tI prog 22=some ⟨1,false,[(.int .u64 0)],8⟩:=by kernel_rfl
@[go_sem ↓] theorem xTI_22 (K:TI→Prop):xTI prog 22 K=K ⟨1,false,[(.int .u64 0)],8⟩:=Yq Uc K
theorem tI_24:tI prog 24=some ⟨24,true,[(.int .u64 0),(.int .u64 0),(.int .u64 0),(.int .u64 0),(.int .u64 0),(.int .u64 0),(.int .u64 0),(.int .u64 0),(.int .u64 0),(.int .u64 0),(.int .u64 0),(.int .u64 0),(.int .u64 0),(.int .u64 0),(.int .i64 0),(.int .i64 0),(.int .i64 0),(.int .i64 0),(.int .i64 0),(.int .i64 0),(.int .i64 0),(.int .i64 0),(.int .i64 0),(.int .i64 0)],192⟩:=by kernel_rfl
@[go_sem ↓] theorem xTI_24 (K:TI→Prop):xTI prog 24 K=K ⟨24,true,[(.int .u64 0),(.int .u64 0),(.int .u64 0),(.int .u64 0),(.int .u64 0),(.int .u64 0),(.int .u64 0),(.int .u64 0),(.int .u64 0),(.int .u64 0),(.int .u64 0),(.int .u64 0),(.int .u64 0),(.int .u64 0),(.int .i64 0),(.int .i64 0),(.int .i64 0),(.int .i64 0),(.int .i64 0),(.int .i64 0),(.int .i64 0),(.int .i64 0),(.int .i64 0),(.int .i64 0)],192⟩:=Yq tI_24 K
theorem tI_25:tI prog 25=some ⟨1,false,[(.slice none 0 0)],24⟩:=by kernel_rfl
@[go_sem ↓] theorem xTI_25 (K:TI→Prop):xTI prog 25 K=K ⟨1,false,[(.slice none 0 0)],24⟩:=Yq tI_25 K
theorem tI_26:tI prog 26=some ⟨1,false,[(.slice none 0 0)],24⟩:=by kernel_rfl
@[go_sem ↓] theorem xTI_26 (K:TI→Prop):xTI prog 26 K=K ⟨1,false,[(.slice none 0 0)],24⟩:=Yq tI_26 K
theorem tI_27:tI prog 27=some ⟨1,false,[(.slice none 0 0)],24⟩:=by kernel_rfl
@[go_sem ↓] theorem xTI_27 (K:TI→Prop):xTI prog 27 K=K ⟨1,false,[(.slice none 0 0)],24⟩:=Yq tI_27 K
theorem tI_28:tI prog 28=some ⟨1,false,[(.slice none 0 0)],24⟩:=by kernel_rfl
@[go_sem ↓] theorem xTI_28 (K:TI→Prop):xTI prog 28 K=K ⟨1,false,[(.slice none 0 0)],24⟩:=Yq tI_28 K
theorem tI_29:tI prog 29=some ⟨1,false,[(.slice none 0 0)],24⟩:=by kernel_rfl
@[go_sem ↓] theorem xTI_29 (K:TI→Prop):xTI prog 29 K=K ⟨1,false,[(.slice none 0 0)],24⟩:=Yq tI_29 K
theorem tI_30:tI prog 30=some ⟨1,false,[(.slice none 0 0)],24⟩:=by kernel_rfl
@[go_sem ↓] theorem xTI_30 (K:TI→Prop):xTI prog 30 K=K ⟨1,false,[(.slice none 0 0)],24⟩:=Yq tI_30 K
theorem Yea:tI prog 31=some ⟨1,false,[(.slice none 0 0)],24⟩:=by kernel_rfl
@[go_sem ↓] theorem xTI_31 (K:TI→Prop):xTI prog 31 K=K ⟨1,false,[(.slice none 0 0)],24⟩:=Yq Yea K
theorem tI_32:tI prog 32=some ⟨1,false,[(.slice none 0 0)],24⟩:=by kernel_rfl
@[go_sem ↓] theorem xTI_32 (K:TI→Prop):xTI prog 32 K=K ⟨1,false,[(.slice none 0 0)],24⟩:=Yq tI_32 K
theorem tI_34:tI prog 34=some ⟨41,true,[(.int .u64 0),(.int .u64 0),(.int .u64 0),(.int .u64 0),(.int .u64 0),(.int .u64 0),(.int .u64 0),(.int .u64 0),(.int .u64 0),(.int .u64 0),(.int .u64 0),(.int .u64 0),(.int .u64 0),(.int .u64 0),(.int .i64 0),(.int .i64 0),(.int .i64 0),(.int .i64 0),(.int .i64 0),(.int .i64 0),(.int .i64 0),(.int .i64 0),(.int .i64 0),(.int .i64 0),(.int .u64 0),(.int .u64 0),(.int .u64 0),(.int .u64 0),(.int .u64 0),(.int .i64 0),(.int .i64 0),(.bool false),(.slice none 0 0),(.slice none 0 0),(.slice none 0 0),(.slice none 0 0),(.slice none 0 0),(.slice none 0 0),(.slice none 0 0),(.slice none 0 0),(.slice none 0 0)],472⟩:=by kernel_rfl
@[go_sem ↓] theorem xTI_34 (K:TI→Prop):xTI prog 34 K=K ⟨41,true,[(.int .u64 0),(.int .u64 0),(.int .u64 0),(.int .u64 0),(.int .u64 0),(.int .u64 0),(.int .u64 0),(.int .u64 0),(.int .u64 0),(.int .u64 0),(.int .u64 0),(.int .u64 0),(.int .u64 0),(.int .u64 0),(.int .i64 0),(.int .i64 0),(.int .i64 0),(.int .i64 0),(.int .i64 0),(.int .i64 0),(.int .i64 0),(.int .i64 0),(.int .i64 0),(.int .i64 0),(.int .u64 0),(.int .u64 0),(.int .u64 0),(.int .u64 0),(.int .u64 0),(.int .i64 0),(.int .i64 0),(.bool false),(.slice none 0 0),(.slice none 0 0),(.slice none 0 0),(.slice none 0 0),(.slice none 0 0),(.slice none 0 0),(.slice none 0 0),(.slice none 0 0),(.slice none 0 0)],472⟩:=Yq tI_34 K
theorem tI_39:tI prog 39=some ⟨1,false,[(.slice none 0 0)],24⟩:=by kernel_rfl
@[go_sem ↓] theorem xTI_39 (K:TI→Prop):xTI prog 39 K=K ⟨1,false,[(.slice none 0 0)],24⟩:=Yq tI_39 K
theorem tI_40:tI prog 40=some ⟨1,false,[(.int .i64 0)],8⟩:=by kernel_rfl
@[go_sem ↓] theorem xTI_40 (K:TI→Prop):xTI prog 40 K=K ⟨1,false,[(.int .i64 0)],8⟩:=Yq tI_40 K
theorem tI_44:tI prog 44=some ⟨24,true,[(.int .u64 0),(.int .u64 0),(.int .u64 0),(.int .u64 0),(.int .u64 0),(.int .u64 0),(.int .u64 0),(.int .u64 0),(.int .u64 0),(.int .u64 0),(.int .u64 0),(.int .u64 0),(.int .u64 0),(.int .u64 0),(.int .i64 0),(.int .i64 0),(.int .i64 0),(.int .i64 0),(.int .i64 0),(.int .i64 0),(.int .i64 0),(.int .i64 0),(.int .i64 0),(.int .i64 0)],192⟩:=by kernel_rfl
@[go_sem ↓] theorem xTI_44 (K:TI→Prop):xTI prog 44 K=K ⟨24,true,[(.int .u64 0),(.int .u64 0),(.int .u64 0),(.int .u64 0),(.int .u64 0),(.int .u64 0),(.int .u64 0),(.int .u64 0),(.int .u64 0),(.int .u64 0),(.int .u64 0),(.int .u64 0),(.int .u64 0),(.int .u64 0),(.int .i64 0),(.int .i64 0),(.int .i64 0),(.int .i64 0),(.int .i64 0),(.int .i64 0),(.int .i64 0),(.int .i64 0),(.int .i64 0),(.int .i64 0)],192⟩:=Yq tI_44 K
theorem tI_45:tI prog 45=some ⟨1,false,[(.slice none 0 0)],24⟩:=by kernel_rfl
@[go_sem ↓] theorem xTI_45 (K:TI→Prop):xTI prog 45 K=K ⟨1,false,[(.slice none 0 0)],24⟩:=Yq tI_45 K
theorem tI_46:tI prog 46=some ⟨1,false,[(.slice none 0 0)],24⟩:=by kernel_rfl
@[go_sem ↓] theorem xTI_46 (K:TI→Prop):xTI prog 46 K=K ⟨1,false,[(.slice none 0 0)],24⟩:=Yq tI_46 K
theorem tI_47:tI prog 47=some ⟨1,false,[(.slice none 0 0)],24⟩:=by kernel_rfl
@[go_sem ↓] theorem xTI_47 (K:TI→Prop):xTI prog 47 K=K ⟨1,false,[(.slice none 0 0)],24⟩:=Yq tI_47 K
theorem tI_48:tI prog 48=some ⟨1,false,[(.slice none 0 0)],24⟩:=by kernel_rfl
@[go_sem ↓] theorem xTI_48 (K:TI→Prop):xTI prog 48 K=K ⟨1,false,[(.slice none 0 0)],24⟩:=Yq tI_48 K
theorem tI_50:tI prog 50=some ⟨41,true,[(.int .u64 0),(.int .u64 0),(.int .u64 0),(.int .u64 0),(.int .u64 0),(.int .u64 0),(.int .u64 0),(.int .u64 0),(.int .u64 0),(.int .u64 0),(.int .u64 0),(.int .u64 0),(.int .u64 0),(.int .u64 0),(.int .i64 0),(.int .i64 0),(.int .i64 0),(.int .i64 0),(.int .i64 0),(.int .i64 0),(.int .i64 0),(.int .i64 0),(.int .i64 0),(.int .i64 0),(.int .u64 0),(.int .u64 0),(.int .u64 0),(.int .u64 0),(.int .u64 0),(.int .i64 0),(.int .i64 0),(.bool false),(.slice none 0 0),(.slice none 0 0),(.slice none 0 0),(.slice none 0 0),(.slice none 0 0),(.slice none 0 0),(.slice none 0 0),(.slice none 0 0),(.slice none 0 0)],472⟩:=by kernel_rfl
@[go_sem ↓] theorem xTI_50 (K:TI→Prop):xTI prog 50 K=K ⟨41,true,[(.int .u64 0),(.int .u64 0),(.int .u64 0),(.int .u64 0),(.int .u64 0),(.int .u64 0),(.int .u64 0),(.int .u64 0),(.int .u64 0),(.int .u64 0),(.int .u64 0),(.int .u64 0),(.int .u64 0),(.int .u64 0),(.int .i64 0),(.int .i64 0),(.int .i64 0),(.int .i64 0),(.int .i64 0),(.int .i64 0),(.int .i64 0),(.int .i64 0),(.int .i64 0),(.int .i64 0),(.int .u64 0),(.int .u64 0),(.int .u64 0),(.int .u64 0),(.int .u64 0),(.int .i64 0),(.int .i64 0),(.bool false),(.slice none 0 0),(.slice none 0 0),(.slice none 0 0),(.slice none 0 0),(.slice none 0 0),(.slice none 0 0),(.slice none 0 0),(.slice none 0 0),(.slice none 0 0)],472⟩:=Yq tI_50 K
theorem Yly:tI prog 55=some ⟨14,true,[(.int .i64 0),(.int .i64 0),(.bool false),(.int .u64 0),(.int .u64 0),(.int .u64 0),(.int .u64 0),(.int .u64 0),(.int .u64 0),(.int .u64 0),(.slice none 0 0),(.slice none 0 0),(.slice none 0 0),(.slice none 0 0)],176⟩:=by kernel_rfl
@[go_sem ↓] theorem xTI_55 (K:TI→Prop):xTI prog 55 K=K ⟨14,true,[(.int .i64 0),(.int .i64 0),(.bool false),(.int .u64 0),(.int .u64 0),(.int .u64 0),(.int .u64 0),(.int .u64 0),(.int .u64 0),(.int .u64 0),(.slice none 0 0),(.slice none 0 0),(.slice none 0 0),(.slice none 0 0)],176⟩:=Yq Yly K
theorem Ygb:tI prog 98=some ⟨4,true,[(.int .u64 0),(.int .u64 0),(.int .u64 0),(.int .i64 0)],32⟩:=by kernel_rfl
@[go_sem ↓] theorem xTI_98 (K:TI→Prop):xTI prog 98 K=K ⟨4,true,[(.int .u64 0),(.int .u64 0),(.int .u64 0),(.int .i64 0)],32⟩:=Yq Ygb K
theorem Zlq:tI prog 100=some ⟨6,true,[(.int .u64 0),(.int .u64 0),(.int .u64 0),(.int .i64 0),(.int .i64 0),(.int .i64 0)],48⟩:=by kernel_rfl
@[go_sem ↓] theorem xTI_100 (K:TI→Prop):xTI prog 100 K=K ⟨6,true,[(.int .u64 0),(.int .u64 0),(.int .u64 0),(.int .i64 0),(.int .i64 0),(.int .i64 0)],48⟩:=Yq Zlq K
theorem Ymj:tI prog 120=some ⟨1,false,[(.slice none 0 0)],24⟩:=by kernel_rfl
@[go_sem ↓] theorem xTI_120 (K:TI→Prop):xTI prog 120 K=K ⟨1,false,[(.slice none 0 0)],24⟩:=Yq Ymj K
theorem Ykb:tI prog 122=some ⟨27,true,[(.int .u64 0),(.int .u64 0),(.int .u64 0),(.int .u64 0),(.int .u64 0),(.int .u64 0),(.int .u64 0),(.int .u64 0),(.int .u64 0),(.int .u64 0),(.int .u64 0),(.int .u64 0),(.int .u64 0),(.int .u64 0),(.int .i64 0),(.int .i64 0),(.int .i64 0),(.int .i64 0),(.int .i64 0),(.int .i64 0),(.int .i64 0),(.int .i64 0),(.int .i64 0),(.int .i64 0),(.int .u64 0),(.slice none 0 0),(.slice none 0 0)],248⟩:=by kernel_rfl
@[go_sem ↓] theorem xTI_122 (K:TI→Prop):xTI prog 122 K=K ⟨27,true,[(.int .u64 0),(.int .u64 0),(.int .u64 0),(.int .u64 0),(.int .u64 0),(.int .u64 0),(.int .u64 0),(.int .u64 0),(.int .u64 0),(.int .u64 0),(.int .u64 0),(.int .u64 0),(.int .u64 0),(.int .u64 0),(.int .i64 0),(.int .i64 0),(.int .i64 0),(.int .i64 0),(.int .i64 0),(.int .i64 0),(.int .i64 0),(.int .i64 0),(.int .i64 0),(.int .i64 0),(.int .u64 0),(.slice none 0 0),(.slice none 0 0)],248⟩:=Yq Ykb K
theorem Yda:tI prog 125=some ⟨33,true,[(.int .i64 0),(.int .i64 0),(.int .u64 0),(.int .u64 0),(.int .u64 0),(.int .u64 0),(.int .u64 0),(.int .u64 0),(.int .u64 0),(.int .u64 0),(.int .u64 0),(.int .u64 0),(.int .u64 0),(.int .u64 0),(.int .u64 0),(.int .u64 0),(.int .i64 0),(.int .i64 0),(.int .i64 0),(.int .i64 0),(.int .i64 0),(.int .i64 0),(.int .i64 0),(.int .i64 0),(.int .i64 0),(.int .i64 0),(.int .i64 0),(.int .u64 0),(.int .i64 0),(.int .i64 0),(.int .i64 0),(.slice none 0 0),(.slice none 0 0)],296⟩:=by kernel_rfl
@[go_sem ↓] theorem xTI_125 (K:TI→Prop):xTI prog 125 K=K ⟨33,true,[(.int .i64 0),(.int .i64 0),(.int .u64 0),(.int .u64 0),(.int .u64 0),(.int .u64 0),(.int .u64 0),(.int .u64 0),(.int .u64 0),(.int .u64 0),(.int .u64 0),(.int .u64 0),(.int .u64 0),(.int .u64 0),(.int .u64 0),(.int .u64 0),(.int .i64 0),(.int .i64 0),(.int .i64 0),(.int .i64 0),(.int .i64 0),(.int .i64 0),(.int .i64 0),(.int .i64 0),(.int .i64 0),(.int .i64 0),(.int .i64 0),(.int .u64 0),(.int .i64 0),(.int .i64 0),(.int .i64 0),(.slice none 0 0),(.slice none 0 0)],296⟩:=Yq Yda K
theorem Yps:tI prog 127=some ⟨41,true,[(.int .u64 0),(.int .u64 0),(.int .u64 0),(.int .u64 0),(.int .u64 0),(.int .u64 0),(.int .u64 0),(.int .u64 0),(.int .u64 0),(.int .u64 0),(.int .u64 0),(.int .u64 0),(.int .u64 0),(.int .u64 0),(.int .i64 0),(.int .i64 0),(.int .i64 0),(.int .i64 0),(.int .i64 0),(.int .i64 0),(.int .i64 0),(.int .i64 0),(.int .i64 0),(.int .i64 0),(.int .u64 0),(.int .u64 0),(.int .u64 0),(.int .u64 0),(.int .u64 0),(.int .i64 0),(.int .i64 0),(.bool false),(.slice none 0 0),(.slice none 0 0),(.slice none 0 0),(.slice none 0 0),(.slice none 0 0),(.slice none 0 0),(.slice none 0 0),(.slice none 0 0),(.slice none 0 0)],472⟩:=by kernel_rfl
@[go_sem ↓] theorem xTI_127 (K:TI→Prop):xTI prog 127 K=K ⟨41,true,[(.int .u64 0),(.int .u64 0),(.int .u64 0),(.int .u64 0),(.int .u64 0),(.int .u64 0),(.int .u64 0),(.int .u64 0),(.int .u64 0),(.int .u64 0),(.int .u64 0),(.int .u64 0),(.int .u64 0),(.int .u64 0),(.int .i64 0),(.int .i64 0),(.int .i64 0),(.int .i64 0),(.int .i64 0),(.int .i64 0),(.int .i64 0),(.int .i64 0),(.int .i64 0),(.int .i64 0),(.int .u64 0),(.int .u64 0),(.int .u64 0),(.int .u64 0),(.int .u64 0),(.int .i64 0),(.int .i64 0),(.bool false),(.slice none 0 0),(.slice none 0 0),(.slice none 0 0),(.slice none 0 0),(.slice none 0 0),(.slice none 0 0),(.slice none 0 0),(.slice none 0 0),(.slice none 0 0)],472⟩:=Yq Yps K
theorem Ylx:tI prog 135=some ⟨56,true,[(.int .u64 0),(.int .u64 0),(.int .u64 0),(.int .u64 0),(.int .u64 0),(.int .u64 0),(.int .u64 0),(.int .u64 0),(.int .u64 0),(.int .u64 0),(.int .u64 0),(.int .u64 0),(.int .u64 0),(.int .u64 0),(.int .i64 0),(.int .i64 0),(.int .i64 0),(.int .i64 0),(.int .i64 0),(.int .i64 0),(.int .i64 0),(.int .i64 0),(.int .i64 0),(.int .i64 0),(.int .u64 0),(.int .u64 0),(.int .u64 0),(.int .u64 0),(.int .u64 0),(.int .i64 0),(.int .i64 0),(.bool false),(.slice none 0 0),(.slice none 0 0),(.slice none 0 0),(.slice none 0 0),(.slice none 0 0),(.slice none 0 0),(.slice none 0 0),(.slice none 0 0),(.slice none 0 0),(.int .i64 0),(.int .i64 0),(.bool false),(.int .u64 0),(.int .u64 0),(.int .u64 0),(.int .u64 0),(.int .u64 0),(.int .u64 0),(.int .u64 0),(.slice none 0 0),(.slice none 0 0),(.slice none 0 0),(.slice none 0 0),(.int .i64 0)],656⟩:=by kernel_rfl
@[go_sem ↓] theorem xTI_135 (K:TI→Prop):xTI prog 135 K=K ⟨56,true,[(.int .u64 0),(.int .u64 0),(.int .u64 0),(.int .u64 0),(.int .u64 0),(.int .u64 0),(.int .u64 0),(.int .u64 0),(.int .u64 0),(.int .u64 0),(.int .u64 0),(.int .u64 0),(.int .u64 0),(.int .u64 0),(.int .i64 0),(.int .i64 0),(.int .i64 0),(.int .i64 0),(.int .i64 0),(.int .i64 0),(.int .i64 0),(.int .i64 0),(.int .i64 0),(.int .i64 0),(.int .u64 0),(.int .u64 0),(.int .u64 0),(.int .u64 0),(.int .u64 0),(.int .i64 0),(.int .i64 0),(.bool false),(.slice none 0 0),(.slice none 0 0),(.slice none 0 0),(.slice none 0 0),(.slice none 0 0),(.slice none 0 0),(.slice none 0 0),(.slice none 0 0),(.slice none 0 0),(.int .i64 0),(.int .i64 0),(.bool false),(.int .u64 0),(.int .u64 0),(.int .u64 0),(.int .u64 0),(.int .u64 0),(.int .u64 0),(.int .u64 0),(.slice none 0 0),(.slice none 0 0),(.slice none 0 0),(.slice none 0 0),(.int .i64 0)],656⟩:=Yq Ylx K
theorem Ybm:tI prog 137=some ⟨6,true,[(.int .u64 0),(.int .u64 0),(.int .u64 0),(.int .i64 0),(.int .i64 0),(.int .i64 0)],48⟩:=by kernel_rfl
@[go_sem ↓] theorem xTI_137 (K:TI→Prop):xTI prog 137 K=K ⟨6,true,[(.int .u64 0),(.int .u64 0),(.int .u64 0),(.int .i64 0),(.int .i64 0),(.int .i64 0)],48⟩:=Yq Ybm K
theorem Zcg:tI prog 153=some ⟨4,true,[(.int .i64 0),(.int .i64 0),(.int .u64 0),(.bool false)],32⟩:=by kernel_rfl
@[go_sem ↓] theorem xTI_153 (K:TI→Prop):xTI prog 153 K=K ⟨4,true,[(.int .i64 0),(.int .i64 0),(.int .u64 0),(.bool false)],32⟩:=Yq Zcg K
theorem V5:tI prog 156=some ⟨3,true,[(.int .i64 0),(.int .i64 0),(.int .u64 0)],24⟩:=by kernel_rfl
@[go_sem ↓] theorem xTI_156 (K:TI→Prop):xTI prog 156 K=K ⟨3,true,[(.int .i64 0),(.int .i64 0),(.int .u64 0)],24⟩:=Yq V5 K
theorem Yoz:tI prog 160=some ⟨1,false,[(.pointer none)],8⟩:=by kernel_rfl
@[go_sem ↓] theorem xTI_160 (K:TI→Prop):xTI prog 160 K=K ⟨1,false,[(.pointer none)],8⟩:=Yq Yoz K
theorem Ybk:tI prog 175=some ⟨33,true,[(.int .i64 0),(.int .i64 0),(.int .u64 0),(.int .u64 0),(.int .u64 0),(.int .u64 0),(.int .u64 0),(.int .u64 0),(.int .u64 0),(.int .u64 0),(.int .u64 0),(.int .u64 0),(.int .u64 0),(.int .u64 0),(.int .u64 0),(.int .u64 0),(.int .i64 0),(.int .i64 0),(.int .i64 0),(.int .i64 0),(.int .i64 0),(.int .i64 0),(.int .i64 0),(.int .i64 0),(.int .i64 0),(.int .i64 0),(.int .i64 0),(.int .u64 0),(.int .i64 0),(.int .i64 0),(.int .i64 0),(.slice none 0 0),(.slice none 0 0)],296⟩:=by kernel_rfl
@[go_sem ↓] theorem xTI_175 (K:TI→Prop):xTI prog 175 K=K ⟨33,true,[(.int .i64 0),(.int .i64 0),(.int .u64 0),(.int .u64 0),(.int .u64 0),(.int .u64 0),(.int .u64 0),(.int .u64 0),(.int .u64 0),(.int .u64 0),(.int .u64 0),(.int .u64 0),(.int .u64 0),(.int .u64 0),(.int .u64 0),(.int .u64 0),(.int .i64 0),(.int .i64 0),(.int .i64 0),(.int .i64 0),(.int .i64 0),(.int .i64 0),(.int .i64 0),(.int .i64 0),(.int .i64 0),(.int .i64 0),(.int .i64 0),(.int .u64 0),(.int .i64 0),(.int .i64 0),(.int .i64 0),(.slice none 0 0),(.slice none 0 0)],296⟩:=Yq Ybk K
theorem Ylu:tI prog 201=some ⟨1,false,[(.slice none 0 0)],24⟩:=by kernel_rfl
@[go_sem ↓] theorem xTI_201 (K:TI→Prop):xTI prog 201 K=K ⟨1,false,[(.slice none 0 0)],24⟩:=Yq Ylu K
theorem Yqs:tI prog 225=some ⟨2,true,[(.int .i64 0),(.int .u64 0)],16⟩:=by kernel_rfl
@[go_sem ↓] theorem xTI_225 (K:TI→Prop):xTI prog 225 K=K ⟨2,true,[(.int .i64 0),(.int .u64 0)],16⟩:=Yq Yqs K
theorem Yow:tI prog 239=some ⟨5,true,[(.int .u64 0),(.int .u64 0),(.int .u64 0),(.int .u64 0),(.int .u64 0)],40⟩:=by kernel_rfl
@[go_sem ↓] theorem xTI_239 (K:TI→Prop):xTI prog 239 K=K ⟨5,true,[(.int .u64 0),(.int .u64 0),(.int .u64 0),(.int .u64 0),(.int .u64 0)],40⟩:=Yq Yow K
theorem Ycc:tI prog 249=some ⟨4,true,[(.int .i64 0),(.int .i64 0),(.int .u64 0),(.bool false)],32⟩:=by kernel_rfl
@[go_sem ↓] theorem xTI_249 (K:TI→Prop):xTI prog 249 K=K ⟨4,true,[(.int .i64 0),(.int .i64 0),(.int .u64 0),(.bool false)],32⟩:=Yq Ycc K
theorem Ycp:tI prog 250=some ⟨3,true,[(.int .i64 0),(.int .i64 0),(.int .u64 0)],24⟩:=by kernel_rfl
@[go_sem ↓] theorem xTI_250 (K:TI→Prop):xTI prog 250 K=K ⟨3,true,[(.int .i64 0),(.int .i64 0),(.int .u64 0)],24⟩:=Yq Ycp K
theorem Yju:tI prog 339=some ⟨24,true,[(.int .u64 0),(.int .u64 0),(.int .u64 0),(.int .u64 0),(.int .u64 0),(.int .u64 0),(.int .u64 0),(.int .u64 0),(.int .u64 0),(.int .u64 0),(.int .u64 0),(.int .u64 0),(.int .u64 0),(.int .u64 0),(.int .i64 0),(.int .i64 0),(.int .i64 0),(.int .i64 0),(.int .i64 0),(.int .i64 0),(.int .i64 0),(.int .i64 0),(.int .i64 0),(.int .i64 0)],192⟩:=by kernel_rfl
@[go_sem ↓] theorem xTI_339 (K:TI→Prop):xTI prog 339 K=K ⟨24,true,[(.int .u64 0),(.int .u64 0),(.int .u64 0),(.int .u64 0),(.int .u64 0),(.int .u64 0),(.int .u64 0),(.int .u64 0),(.int .u64 0),(.int .u64 0),(.int .u64 0),(.int .u64 0),(.int .u64 0),(.int .u64 0),(.int .i64 0),(.int .i64 0),(.int .i64 0),(.int .i64 0),(.int .i64 0),(.int .i64 0),(.int .i64 0),(.int .i64 0),(.int .i64 0),(.int .i64 0)],192⟩:=Yq Yju K
theorem Yog:tI prog 372=some ⟨3,true,[(.int .u64 0),(.int .u64 0),(.int .u64 0)],24⟩:=by kernel_rfl
@[go_sem ↓] theorem xTI_372 (K:TI→Prop):xTI prog 372 K=K ⟨3,true,[(.int .u64 0),(.int .u64 0),(.int .u64 0)],24⟩:=Yq Yog K
theorem Ymn:tI prog 403=some ⟨2,true,[(.int .u64 0),(.int .u64 0)],16⟩:=by kernel_rfl
@[go_sem ↓] theorem xTI_403 (K:TI→Prop):xTI prog 403 K=K ⟨2,true,[(.int .u64 0),(.int .u64 0)],16⟩:=Yq Ymn K
@[go_sem ↓] theorem Yqq (ps:List (Nat×Value))(K:Value→Prop):Y1 prog 24 ps.toArray K=Yr [(.int .u64 0),(.int .u64 0),(.int .u64 0),(.int .u64 0),(.int .u64 0),(.int .u64 0),(.int .u64 0),(.int .u64 0),(.int .u64 0),(.int .u64 0),(.int .u64 0),(.int .u64 0),(.int .u64 0),(.int .u64 0),(.int .i64 0),(.int .i64 0),(.int .i64 0),(.int .i64 0),(.int .i64 0),(.int .i64 0),(.int .i64 0),(.int .i64 0),(.int .i64 0),(.int .i64 0)] [(0,1),(1,1),(2,1),(3,1),(4,1),(5,1),(6,1),(7,1),(8,1),(9,1),(10,1),(11,1),(12,1),(13,1),(14,1),(15,1),(16,1),(17,1),(18,1),(19,1),(20,1),(21,1),(22,1),(23,1)] ps fun z'=>K (.agg z'.toArray):=Yh (by kernel_rfl) ps K
@[go_sem ↓] theorem Yjv (ps:List (Nat×Value))(K:Value→Prop):Y1 prog 34 ps.toArray K=Yr [(.int .u64 0),(.int .u64 0),(.int .u64 0),(.int .u64 0),(.int .u64 0),(.int .u64 0),(.int .u64 0),(.int .u64 0),(.int .u64 0),(.int .u64 0),(.int .u64 0),(.int .u64 0),(.int .u64 0),(.int .u64 0),(.int .i64 0),(.int .i64 0),(.int .i64 0),(.int .i64 0),(.int .i64 0),(.int .i64 0),(.int .i64 0),(.int .i64 0),(.int .i64 0),(.int .i64 0),(.int .u64 0),(.int .u64 0),(.int .u64 0),(.int .u64 0),(.int .u64 0),(.int .i64 0),(.int .i64 0),(.bool false),(.slice none 0 0),(.slice none 0 0),(.slice none 0 0),(.slice none 0 0),(.slice none 0 0),(.slice none 0 0),(.slice none 0 0),(.slice none 0 0),(.slice none 0 0)] [(0,24),(24,1),(25,1),(26,1),(27,1),(28,1),(29,1),(30,1),(31,1),(32,1),(33,1),(34,1),(35,1),(36,1),(37,1),(38,1),(39,1),(40,1)] ps fun z'=>K (.agg z'.toArray):=Yh (by kernel_rfl) ps K
@[go_sem ↓] theorem Yov (ps:List (Nat×Value))(K:Value→Prop):Y1 prog 50 ps.toArray K=Yr [(.int .u64 0),(.int .u64 0),(.int .u64 0),(.int .u64 0),(.int .u64 0),(.int .u64 0),(.int .u64 0),(.int .u64 0),(.int .u64 0),(.int .u64 0),(.int .u64 0),(.int .u64 0),(.int .u64 0),(.int .u64 0),(.int .i64 0),(.int .i64 0),(.int .i64 0),(.int .i64 0),(.int .i64 0),(.int .i64 0),(.int .i64 0),(.int .i64 0),(.int .i64 0),(.int .i64 0),(.int .u64 0),(.int .u64 0),(.int .u64 0),(.int .u64 0),(.int .u64 0),(.int .i64 0),(.int .i64 0),(.bool false),(.slice none 0 0),(.slice none 0 0),(.slice none 0 0),(.slice none 0 0),(.slice none 0 0),(.slice none 0 0),(.slice none 0 0),(.slice none 0 0),(.slice none 0 0)] [(0,24),(24,1),(25,1),(26,1),(27,1),(28,1),(29,1),(30,1),(31,1),(32,1),(33,1),(34,1),(35,1),(36,1),(37,1),(38,1),(39,1),(40,1)] ps fun z'=>K (.agg z'.toArray):=Yh (by kernel_rfl) ps K
@[go_sem ↓] theorem Ypu (ps:List (Nat×Value))(K:Value→Prop):Y1 prog 55 ps.toArray K=Yr [(.int .i64 0),(.int .i64 0),(.bool false),(.int .u64 0),(.int .u64 0),(.int .u64 0),(.int .u64 0),(.int .u64 0),(.int .u64 0),(.int .u64 0),(.slice none 0 0),(.slice none 0 0),(.slice none 0 0),(.slice none 0 0)] [(0,1),(1,1),(2,1),(3,1),(4,1),(5,1),(6,1),(7,1),(8,1),(9,1),(10,1),(11,1),(12,1),(13,1)] ps fun z'=>K (.agg z'.toArray):=Yh (by kernel_rfl) ps K
@[go_sem ↓] theorem Ymo (ps:List (Nat×Value))(K:Value→Prop):Y1 prog 98 ps.toArray K=Yr [(.int .u64 0),(.int .u64 0),(.int .u64 0),(.int .i64 0)] [(0,1),(1,1),(2,1),(3,1)] ps fun z'=>K (.agg z'.toArray):=Yh (by kernel_rfl) ps K
@[go_sem ↓] theorem Yhq (ps:List (Nat×Value))(K:Value→Prop):Y1 prog 100 ps.toArray K=Yr [(.int .u64 0),(.int .u64 0),(.int .u64 0),(.int .i64 0),(.int .i64 0),(.int .i64 0)] [(0,4),(4,1),(5,1)] ps fun z'=>K (.agg z'.toArray):=Yh (by kernel_rfl) ps K
@[go_sem ↓] theorem Yhv (ps:List (Nat×Value))(K:Value→Prop):Y1 prog 122 ps.toArray K=Yr [(.int .u64 0),(.int .u64 0),(.int .u64 0),(.int .u64 0),(.int .u64 0),(.int .u64 0),(.int .u64 0),(.int .u64 0),(.int .u64 0),(.int .u64 0),(.int .u64 0),(.int .u64 0),(.int .u64 0),(.int .u64 0),(.int .i64 0),(.int .i64 0),(.int .i64 0),(.int .i64 0),(.int .i64 0),(.int .i64 0),(.int .i64 0),(.int .i64 0),(.int .i64 0),(.int .i64 0),(.int .u64 0),(.slice none 0 0),(.slice none 0 0)] [(0,24),(24,1),(25,1),(26,1)] ps fun z'=>K (.agg z'.toArray):=Yh (by kernel_rfl) ps K
@[go_sem ↓] theorem Yjb (ps:List (Nat×Value))(K:Value→Prop):Y1 prog 127 ps.toArray K=Yr [(.int .u64 0),(.int .u64 0),(.int .u64 0),(.int .u64 0),(.int .u64 0),(.int .u64 0),(.int .u64 0),(.int .u64 0),(.int .u64 0),(.int .u64 0),(.int .u64 0),(.int .u64 0),(.int .u64 0),(.int .u64 0),(.int .i64 0),(.int .i64 0),(.int .i64 0),(.int .i64 0),(.int .i64 0),(.int .i64 0),(.int .i64 0),(.int .i64 0),(.int .i64 0),(.int .i64 0),(.int .u64 0),(.int .u64 0),(.int .u64 0),(.int .u64 0),(.int .u64 0),(.int .i64 0),(.int .i64 0),(.bool false),(.slice none 0 0),(.slice none 0 0),(.slice none 0 0),(.slice none 0 0),(.slice none 0 0),(.slice none 0 0),(.slice none 0 0),(.slice none 0 0),(.slice none 0 0)] [(0,41)] ps fun z'=>K (.agg z'.toArray):=Yh (by kernel_rfl) ps K
@[go_sem ↓] theorem Yib (ps:List (Nat×Value))(K:Value→Prop):Y1 prog 135 ps.toArray K=Yr [(.int .u64 0),(.int .u64 0),(.int .u64 0),(.int .u64 0),(.int .u64 0),(.int .u64 0),(.int .u64 0),(.int .u64 0),(.int .u64 0),(.int .u64 0),(.int .u64 0),(.int .u64 0),(.int .u64 0),(.int .u64 0),(.int .i64 0),(.int .i64 0),(.int .i64 0),(.int .i64 0),(.int .i64 0),(.int .i64 0),(.int .i64 0),(.int .i64 0),(.int .i64 0),(.int .i64 0),(.int .u64 0),(.int .u64 0),(.int .u64 0),(.int .u64 0),(.int .u64 0),(.int .i64 0),(.int .i64 0),(.bool false),(.slice none 0 0),(.slice none 0 0),(.slice none 0 0),(.slice none 0 0),(.slice none 0 0),(.slice none 0 0),(.slice none 0 0),(.slice none 0 0),(.slice none 0 0),(.int .i64 0),(.int .i64 0),(.bool false),(.int .u64 0),(.int .u64 0),(.int .u64 0),(.int .u64 0),(.int .u64 0),(.int .u64 0),(.int .u64 0),(.slice none 0 0),(.slice none 0 0),(.slice none 0 0),(.slice none 0 0),(.int .i64 0)] [(0,41),(41,14),(55,1)] ps fun z'=>K (.agg z'.toArray):=Yh (by kernel_rfl) ps K
@[go_sem ↓] theorem Yjg (ps:List (Nat×Value))(K:Value→Prop):Y1 prog 137 ps.toArray K=Yr [(.int .u64 0),(.int .u64 0),(.int .u64 0),(.int .i64 0),(.int .i64 0),(.int .i64 0)] [(0,4),(4,1),(5,1)] ps fun z'=>K (.agg z'.toArray):=Yh (by kernel_rfl) ps K
@[go_sem ↓] theorem Yja (ps:List (Nat×Value))(K:Value→Prop):Y1 prog 156 ps.toArray K=Yr [(.int .i64 0),(.int .i64 0),(.int .u64 0)] [(0,1),(1,1),(2,1)] ps fun z'=>K (.agg z'.toArray):=Yh (by kernel_rfl) ps K
@[go_sem ↓] theorem Yip (ps:List (Nat×Value))(K:Value→Prop):Y1 prog 162 ps.toArray K=Yr [(.int .u64 0),(.int .u64 0),(.int .u64 0),(.int .u64 0),(.int .u64 0),(.int .u64 0),(.int .u64 0),(.int .u64 0),(.int .u64 0),(.int .u64 0),(.int .u64 0),(.int .u64 0),(.int .u64 0),(.int .u64 0),(.int .i64 0),(.int .i64 0),(.int .i64 0),(.int .i64 0),(.int .i64 0),(.int .i64 0),(.int .i64 0),(.int .i64 0),(.int .i64 0),(.int .i64 0),(.int .u64 0),(.int .u64 0),(.int .u64 0),(.int .u64 0),(.int .u64 0),(.int .i64 0),(.int .i64 0),(.bool false),(.slice none 0 0),(.slice none 0 0),(.slice none 0 0),(.slice none 0 0),(.slice none 0 0),(.slice none 0 0),(.slice none 0 0),(.slice none 0 0),(.slice none 0 0),(.int .i64 0),(.int .i64 0),(.bool false),(.int .u64 0),(.int .u64 0),(.int .u64 0),(.int .u64 0),(.int .u64 0),(.int .u64 0),(.int .u64 0),(.slice none 0 0),(.slice none 0 0),(.slice none 0 0),(.slice none 0 0),(.int .i64 0)] [(0,41),(41,14),(55,1)] ps fun z'=>K (.agg z'.toArray):=Yh (by kernel_rfl) ps K
@[go_sem ↓] theorem Yhr (ps:List (Nat×Value))(K:Value→Prop):Y1 prog 175 ps.toArray K=Yr [(.int .i64 0),(.int .i64 0),(.int .u64 0),(.int .u64 0),(.int .u64 0),(.int .u64 0),(.int .u64 0),(.int .u64 0),(.int .u64 0),(.int .u64 0),(.int .u64 0),(.int .u64 0),(.int .u64 0),(.int .u64 0),(.int .u64 0),(.int .u64 0),(.int .i64 0),(.int .i64 0),(.int .i64 0),(.int .i64 0),(.int .i64 0),(.int .i64 0),(.int .i64 0),(.int .i64 0),(.int .i64 0),(.int .i64 0),(.int .i64 0),(.int .u64 0),(.int .i64 0),(.int .i64 0),(.int .i64 0),(.slice none 0 0),(.slice none 0 0)] [(0,1),(1,1),(2,24),(26,1),(27,1),(28,1),(29,1),(30,1),(31,1),(32,1)] ps fun z'=>K (.agg z'.toArray):=Yh (by kernel_rfl) ps K
@[go_sem ↓] theorem Yjd (ps:List (Nat×Value))(K:Value→Prop):Y1 prog 220 ps.toArray K=Yr [(.slice none 0 0)] [(0,1)] ps fun z'=>K (.agg z'.toArray):=Yh (by kernel_rfl) ps K
@[go_sem ↓] theorem Yjn (ps:List (Nat×Value))(K:Value→Prop):Y1 prog 225 ps.toArray K=Yr [(.int .i64 0),(.int .u64 0)] [(0,1),(1,1)] ps fun z'=>K (.agg z'.toArray):=Yh (by kernel_rfl) ps K
@[go_sem ↓] theorem Yio (ps:List (Nat×Value))(K:Value→Prop):Y1 prog 239 ps.toArray K=Yr [(.int .u64 0),(.int .u64 0),(.int .u64 0),(.int .u64 0),(.int .u64 0)] [(0,1),(1,1),(2,1),(3,1),(4,1)] ps fun z'=>K (.agg z'.toArray):=Yh (by kernel_rfl) ps K
@[go_sem ↓] theorem Yik (ps:List (Nat×Value))(K:Value→Prop):Y1 prog 337 ps.toArray K=Yr [(.int .u64 0),(.int .u64 0),(.int .u64 0),(.int .i64 0),(.int .u64 0),(.int .u64 0),(.int .u64 0),(.int .u64 0),(.int .u64 0),(.int .u64 0),(.int .u64 0),(.int .u64 0),(.int .u64 0),(.int .u64 0),(.int .u64 0),(.int .u64 0),(.int .u64 0),(.int .u64 0),(.int .i64 0),(.int .i64 0),(.int .i64 0),(.int .i64 0),(.int .i64 0),(.int .i64 0),(.int .i64 0),(.int .i64 0),(.int .i64 0),(.int .i64 0)] [(0,4),(4,24)] ps fun z'=>K (.agg z'.toArray):=Yh (by kernel_rfl) ps K
@[go_sem ↓] theorem Yhu (ps:List (Nat×Value))(K:Value→Prop):Y1 prog 339 ps.toArray K=Yr [(.int .u64 0),(.int .u64 0),(.int .u64 0),(.int .u64 0),(.int .u64 0),(.int .u64 0),(.int .u64 0),(.int .u64 0),(.int .u64 0),(.int .u64 0),(.int .u64 0),(.int .u64 0),(.int .u64 0),(.int .u64 0),(.int .i64 0),(.int .i64 0),(.int .i64 0),(.int .i64 0),(.int .i64 0),(.int .i64 0),(.int .i64 0),(.int .i64 0),(.int .i64 0),(.int .i64 0)] [(0,24)] ps fun z'=>K (.agg z'.toArray):=Yh (by kernel_rfl) ps K
@[go_sem ↓] theorem Yia (ps:List (Nat×Value))(K:Value→Prop):Y1 prog 349 ps.toArray K=Yr [(.int .u64 0),(.int .u64 0),(.int .u64 0),(.int .i64 0),(.int .i64 0),(.int .i64 0)] [(0,6)] ps fun z'=>K (.agg z'.toArray):=Yh (by kernel_rfl) ps K
@[go_sem ↓] theorem Yhp (ps:List (Nat×Value))(K:Value→Prop):Y1 prog 372 ps.toArray K=Yr [(.int .u64 0),(.int .u64 0),(.int .u64 0)] [(0,1),(1,1),(2,1)] ps fun z'=>K (.agg z'.toArray):=Yh (by kernel_rfl) ps K
@[go_sem ↓] theorem Yiv (ps:List (Nat×Value))(K:Value→Prop):Y1 prog 399 ps.toArray K=Yr [(.int .u64 0),(.int .u64 0),(.int .u64 0),(.int .i64 0),(.int .u64 0),(.int .u64 0),(.int .u64 0),(.int .u64 0),(.int .u64 0),(.int .u64 0),(.int .u64 0),(.int .u64 0),(.int .u64 0),(.int .u64 0),(.int .u64 0),(.int .u64 0),(.int .u64 0),(.int .u64 0),(.int .i64 0),(.int .i64 0),(.int .i64 0),(.int .i64 0),(.int .i64 0),(.int .i64 0),(.int .i64 0),(.int .i64 0),(.int .i64 0),(.int .i64 0),(.int .i64 0)] [(0,4),(4,24),(28,1)] ps fun z'=>K (.agg z'.toArray):=Yh (by kernel_rfl) ps K
@[go_sem ↓] theorem Yjf (ps:List (Nat×Value))(K:Value→Prop):Y1 prog 403 ps.toArray K=Yr [(.int .u64 0),(.int .u64 0)] [(0,1),(1,1)] ps fun z'=>K (.agg z'.toArray):=Yh (by kernel_rfl) ps K
@[go_sem ↓] theorem Yif (ps:List (Nat×Value))(K:Value→Prop):Y1 prog 427 ps.toArray K=Yr [(.int .u64 0),(.int .u64 0),(.int .u64 0)] [(0,2),(2,1)] ps fun z'=>K (.agg z'.toArray):=Yh (by kernel_rfl) ps K
@[go_sem ↓] theorem Ytl (ps:List (Nat×Value))(K:TypeId→List Value→Prop):xBS prog 25 0 ps.toArray K=Yr [] [] ps fun cs=>K 22 cs:=YT (by kernel_rfl) ps K
@[go_sem ↓] theorem Yws (ps:List (Nat×Value))(K:TypeId→List Value→Prop):xBS prog 25 1 ps.toArray K=Yr [(.int .u64 0)] [(0,1)] ps fun cs=>K 22 cs:=YT (by kernel_rfl) ps K
@[go_sem ↓] theorem Yxo (ps:List (Nat×Value))(K:TypeId→List Value→Prop):xBS prog 25 2 ps.toArray K=Yr [(.int .u64 0),(.int .u64 0)] [(0,1),(1,1)] ps fun cs=>K 22 cs:=YT (by kernel_rfl) ps K
@[go_sem ↓] theorem Yta (ps:List (Nat×Value))(K:TypeId→List Value→Prop):xBS prog 25 3 ps.toArray K=Yr [(.int .u64 0),(.int .u64 0),(.int .u64 0)] [(0,1),(1,1),(2,1)] ps fun cs=>K 22 cs:=YT (by kernel_rfl) ps K
@[go_sem ↓] theorem Yvr (ps:List (Nat×Value))(K:TypeId→List Value→Prop):xBS prog 25 5 ps.toArray K=Yr [(.int .u64 0),(.int .u64 0),(.int .u64 0),(.int .u64 0),(.int .u64 0)] [(0,1),(1,1),(2,1),(3,1),(4,1)] ps fun cs=>K 22 cs:=YT (by kernel_rfl) ps K
@[go_sem ↓] theorem Ywo (ps:List (Nat×Value))(K:TypeId→List Value→Prop):xBS prog 26 0 ps.toArray K=Yr [] [] ps fun cs=>K 100 cs:=YT (by kernel_rfl) ps K
@[go_sem ↓] theorem Yuk (ps:List (Nat×Value))(K:TypeId→List Value→Prop):xBS prog 26 1 ps.toArray K=Yr [(.int .u64 0),(.int .u64 0),(.int .u64 0),(.int .i64 0),(.int .i64 0),(.int .i64 0)] [(0,6)] ps fun cs=>K 100 cs:=YT (by kernel_rfl) ps K
@[go_sem ↓] theorem Yvx (ps:List (Nat×Value))(K:TypeId→List Value→Prop):xBS prog 27 0 ps.toArray K=Yr [] [] ps fun cs=>K 3 cs:=YT (by kernel_rfl) ps K
@[go_sem ↓] theorem Yvy (ps:List (Nat×Value))(K:TypeId→List Value→Prop):xBS prog 27 1 ps.toArray K=Yr [(.int .i64 0)] [(0,1)] ps fun cs=>K 3 cs:=YT (by kernel_rfl) ps K
@[go_sem ↓] theorem Ywt (ps:List (Nat×Value))(K:TypeId→List Value→Prop):xBS prog 28 0 ps.toArray K=Yr [] [] ps fun cs=>K 153 cs:=YT (by kernel_rfl) ps K
@[go_sem ↓] theorem Yvg (ps:List (Nat×Value))(K:TypeId→List Value→Prop):xBS prog 28 1 ps.toArray K=Yr [(.int .i64 0),(.int .i64 0),(.int .u64 0),(.bool false)] [(0,4)] ps fun cs=>K 153 cs:=YT (by kernel_rfl) ps K
@[go_sem ↓] theorem Ywz (ps:List (Nat×Value))(K:TypeId→List Value→Prop):xBS prog 29 0 ps.toArray K=Yr [] [] ps fun cs=>K 156 cs:=YT (by kernel_rfl) ps K
@[go_sem ↓] theorem Yso (ps:List (Nat×Value))(K:TypeId→List Value→Prop):xBS prog 29 1 ps.toArray K=Yr [(.int .i64 0),(.int .i64 0),(.int .u64 0)] [(0,3)] ps fun cs=>K 156 cs:=YT (by kernel_rfl) ps K
@[go_sem ↓] theorem Ysy (ps:List (Nat×Value))(K:TypeId→List Value→Prop):xBS prog 30 0 ps.toArray K=Yr [] [] ps fun cs=>K 125 cs:=YT (by kernel_rfl) ps K
@[go_sem ↓] theorem Yuj (ps:List (Nat×Value))(K:TypeId→List Value→Prop):xBS prog 31 0 ps.toArray K=Yr [] [] ps fun cs=>K 5 cs:=YT (by kernel_rfl) ps K
@[go_sem ↓] theorem Yxn (ps:List (Nat×Value))(K:TypeId→List Value→Prop):xBS prog 31 1 ps.toArray K=Yr [(.int .u8 0)] [(0,1)] ps fun cs=>K 5 cs:=YT (by kernel_rfl) ps K
@[go_sem ↓] theorem Ywp (ps:List (Nat×Value))(K:TypeId→List Value→Prop):xBS prog 32 0 ps.toArray K=Yr [] [] ps fun cs=>K 31 cs:=YT (by kernel_rfl) ps K
@[go_sem ↓] theorem Ytd (ps:List (Nat×Value))(K:TypeId→List Value→Prop):xBS prog 32 1 ps.toArray K=Yr [(.slice none 0 0)] [(0,1)] ps fun cs=>K 31 cs:=YT (by kernel_rfl) ps K
@[go_sem ↓] theorem Ytp (ps:List (Nat×Value))(K:TypeId→List Value→Prop):xBS prog 32 2 ps.toArray K=Yr [(.slice none 0 0),(.slice none 0 0)] [(0,1),(1,1)] ps fun cs=>K 31 cs:=YT (by kernel_rfl) ps K
@[go_sem ↓] theorem Yxf (ps:List (Nat×Value))(K:TypeId→List Value→Prop):xBS prog 39 1 ps.toArray K=Yr [(.int .i64 0),(.int .i64 0),(.bool false),(.int .u64 0),(.int .u64 0),(.int .u64 0),(.int .u64 0),(.int .u64 0),(.int .u64 0),(.int .u64 0),(.slice none 0 0),(.slice none 0 0),(.slice none 0 0),(.slice none 0 0)] [(0,14)] ps fun cs=>K 55 cs:=YT (by kernel_rfl) ps K
@[go_sem ↓] theorem Ysx (ps:List (Nat×Value))(K:TypeId→List Value→Prop):xBS prog 45 1 ps.toArray K=Yr [(.int .u64 0),(.int .u64 0),(.int .u64 0),(.int .i64 0),(.int .i64 0),(.int .i64 0)] [(0,6)] ps fun cs=>K 137 cs:=YT (by kernel_rfl) ps K
@[go_sem ↓] theorem Yvv (ps:List (Nat×Value))(K:TypeId→List Value→Prop):xBS prog 46 1 ps.toArray K=Yr [(.int .i64 0),(.int .i64 0),(.int .u64 0),(.bool false)] [(0,4)] ps fun cs=>K 249 cs:=YT (by kernel_rfl) ps K
@[go_sem ↓] theorem Ytj (ps:List (Nat×Value))(K:TypeId→List Value→Prop):xBS prog 47 1 ps.toArray K=Yr [(.int .i64 0),(.int .i64 0),(.int .u64 0)] [(0,3)] ps fun cs=>K 250 cs:=YT (by kernel_rfl) ps K
@[go_sem ↓] theorem Ysz (ps:List (Nat×Value))(K:TypeId→List Value→Prop):xBS prog 48 1 ps.toArray K=Yr [(.int .i64 0),(.int .i64 0),(.int .u64 0),(.int .u64 0),(.int .u64 0),(.int .u64 0),(.int .u64 0),(.int .u64 0),(.int .u64 0),(.int .u64 0),(.int .u64 0),(.int .u64 0),(.int .u64 0),(.int .u64 0),(.int .u64 0),(.int .u64 0),(.int .i64 0),(.int .i64 0),(.int .i64 0),(.int .i64 0),(.int .i64 0),(.int .i64 0),(.int .i64 0),(.int .i64 0),(.int .i64 0),(.int .i64 0),(.int .i64 0),(.int .u64 0),(.int .i64 0),(.int .i64 0),(.int .i64 0),(.slice none 0 0),(.slice none 0 0)] [(0,33)] ps fun cs=>K 175 cs:=YT (by kernel_rfl) ps K
@[go_sem ↓] theorem Ymy (ps:List (Nat×Value))(K:TypeId→List Value→Prop):xBS prog 120 2 ps.toArray K=Yr [(.int .i64 0),(.int .u64 0),(.int .i64 0),(.int .u64 0)] [(0,2),(2,2)] ps fun cs=>K 225 cs:=YT (by kernel_rfl) ps K
@[go_sem ↓] theorem Yod (ps:List (Nat×Value))(K:TypeId→List Value→Prop):xBS prog 201 1 ps.toArray K=Yr [(.int .u64 0),(.int .u64 0),(.int .u64 0),(.int .i64 0)] [(0,4)] ps fun cs=>K 98 cs:=YT (by kernel_rfl) ps K
@[go_sem ↓] theorem Ykx (ps:List (Nat×Value))(K:TypeId→List Value→Prop):xBS prog 316 6 ps.toArray K=Yr [(.bool false),(.bool false),(.bool false),(.bool false),(.bool false),(.bool false)] [(0,1),(1,1),(2,1),(3,1),(4,1),(5,1)] ps fun cs=>K 4 cs:=YT (by kernel_rfl) ps K
@[go_sem ↓] theorem Ylp (ps:List (Nat×Value))(K:TypeId→List Value→Prop):xBS prog 316 7 ps.toArray K=Yr [(.bool false),(.bool false),(.bool false),(.bool false),(.bool false),(.bool false),(.bool false)] [(0,1),(1,1),(2,1),(3,1),(4,1),(5,1),(6,1)] ps fun cs=>K 4 cs:=YT (by kernel_rfl) ps K
@[go_sem ↓] theorem Yit (ps:List (Nat×Value))(K:TypeId→List Value→Prop):xBS prog 316 12 ps.toArray K=Yr [(.bool false),(.bool false),(.bool false),(.bool false),(.bool false),(.bool false),(.bool false),(.bool false),(.bool false),(.bool false),(.bool false),(.bool false)] [(0,1),(1,1),(2,1),(3,1),(4,1),(5,1),(6,1),(7,1),(8,1),(9,1),(10,1),(11,1)] ps fun cs=>K 4 cs:=YT (by kernel_rfl) ps K
@[go_sem ↓] theorem Yoc (ps:List (Nat×Value))(K:TypeId→List Value→Prop):xBS prog 354 2 ps.toArray K=Yr [(.int .i64 0),(.int .i64 0)] [(0,1),(1,1)] ps fun cs=>K 40 cs:=YT (by kernel_rfl) ps K
@[go_sem ↓] theorem Ypc (ps:List (Nat×Value))(K:TypeId→List Value→Prop):xBS prog 354 4 ps.toArray K=Yr [(.int .i64 0),(.int .i64 0),(.int .i64 0),(.int .i64 0)] [(0,1),(1,1),(2,1),(3,1)] ps fun cs=>K 40 cs:=YT (by kernel_rfl) ps K
@[go_sem ↓] theorem Yte (K:Nat→Prop):xFO prog 24 0 K=K 0:=ZX (by kernel_rfl) K
@[go_sem ↓] theorem Yxb (K:Nat→Prop):xFO prog 24 1 K=K 1:=ZX (by kernel_rfl) K
@[go_sem ↓] theorem Yxl (K:Nat→Prop):xFO prog 24 2 K=K 2:=ZX (by kernel_rfl) K
@[go_sem ↓] theorem Ysn (K:Nat→Prop):xFO prog 24 3 K=K 3:=ZX (by kernel_rfl) K
@[go_sem ↓] theorem Yvc (K:Nat→Prop):xFO prog 24 4 K=K 4:=ZX (by kernel_rfl) K
@[go_sem ↓] theorem Ywf (K:Nat→Prop):xFO prog 24 5 K=K 5:=ZX (by kernel_rfl) K
@[go_sem ↓] theorem Yud (K:Nat→Prop):xFO prog 24 6 K=K 6:=ZX (by kernel_rfl) K
@[go_sem ↓] theorem Ytf (K:Nat→Prop):xFO prog 24 7 K=K 7:=ZX (by kernel_rfl) K
@[go_sem ↓] theorem Yww (K:Nat→Prop):xFO prog 24 8 K=K 8:=ZX (by kernel_rfl) K
@[go_sem ↓] theorem Yts (K:Nat→Prop):xFO prog 24 9 K=K 9:=ZX (by kernel_rfl) K
@[go_sem ↓] theorem Yqo (K:Nat→Prop):xFO prog 24 10 K=K 10:=ZX (by kernel_rfl) K
@[go_sem ↓] theorem Yng (K:Nat→Prop):xFO prog 24 11 K=K 11:=ZX (by kernel_rfl) K
@[go_sem ↓] theorem Yrf (K:Nat→Prop):xFO prog 24 12 K=K 12:=ZX (by kernel_rfl) K
@[go_sem ↓] theorem Yrs (K:Nat→Prop):xFO prog 24 13 K=K 13:=ZX (by kernel_rfl) K
@[go_sem ↓] theorem Yrb (K:Nat→Prop):xFO prog 24 14 K=K 14:=ZX (by kernel_rfl) K
@[go_sem ↓] theorem Yna (K:Nat→Prop):xFO prog 24 15 K=K 15:=ZX (by kernel_rfl) K
@[go_sem ↓] theorem Ypj (K:Nat→Prop):xFO prog 24 16 K=K 16:=ZX (by kernel_rfl) K
@[go_sem ↓] theorem Yrt (K:Nat→Prop):xFO prog 24 17 K=K 17:=ZX (by kernel_rfl) K
@[go_sem ↓] theorem Yot (K:Nat→Prop):xFO prog 24 18 K=K 18:=ZX (by kernel_rfl) K
@[go_sem ↓] theorem Ykp (K:Nat→Prop):xFO prog 24 19 K=K 19:=ZX (by kernel_rfl) K
@[go_sem ↓] theorem Yrp (K:Nat→Prop):xFO prog 24 20 K=K 20:=ZX (by kernel_rfl) K
@[go_sem ↓] theorem Ysi (K:Nat→Prop):xFO prog 24 21 K=K 21:=ZX (by kernel_rfl) K
@[go_sem ↓] theorem Yqk (K:Nat→Prop):xFO prog 24 22 K=K 22:=ZX (by kernel_rfl) K
@[go_sem ↓] theorem Ymc (K:Nat→Prop):xFO prog 24 23 K=K 23:=ZX (by kernel_rfl) K
@[go_sem ↓] theorem Ywy (K:Nat→Prop):xFO prog 34 0 K=K 0:=ZX (by kernel_rfl) K
@[go_sem ↓] theorem Yuf (K:Nat→Prop):xFO prog 34 1 K=K 24:=ZX (by kernel_rfl) K
@[go_sem ↓] theorem Yvi (K:Nat→Prop):xFO prog 34 2 K=K 25:=ZX (by kernel_rfl) K
@[go_sem ↓] theorem Yua (K:Nat→Prop):xFO prog 34 3 K=K 26:=ZX (by kernel_rfl) K
@[go_sem ↓] theorem Yun (K:Nat→Prop):xFO prog 34 4 K=K 27:=ZX (by kernel_rfl) K
@[go_sem ↓] theorem Yve (K:Nat→Prop):xFO prog 34 5 K=K 28:=ZX (by kernel_rfl) K
@[go_sem ↓] theorem Yva (K:Nat→Prop):xFO prog 34 6 K=K 29:=ZX (by kernel_rfl) K
@[go_sem ↓] theorem Yxa (K:Nat→Prop):xFO prog 34 7 K=K 30:=ZX (by kernel_rfl) K
@[go_sem ↓] theorem Yty (K:Nat→Prop):xFO prog 34 8 K=K 31:=ZX (by kernel_rfl) K
@[go_sem ↓] theorem Yvm (K:Nat→Prop):xFO prog 34 9 K=K 32:=ZX (by kernel_rfl) K
@[go_sem ↓] theorem Yoj (K:Nat→Prop):xFO prog 34 10 K=K 33:=ZX (by kernel_rfl) K
@[go_sem ↓] theorem Ymw (K:Nat→Prop):xFO prog 34 11 K=K 34:=ZX (by kernel_rfl) K
@[go_sem ↓] theorem Yks (K:Nat→Prop):xFO prog 34 12 K=K 35:=ZX (by kernel_rfl) K
@[go_sem ↓] theorem Yno (K:Nat→Prop):xFO prog 34 13 K=K 36:=ZX (by kernel_rfl) K
@[go_sem ↓] theorem Yra (K:Nat→Prop):xFO prog 34 14 K=K 37:=ZX (by kernel_rfl) K
@[go_sem ↓] theorem Yoh (K:Nat→Prop):xFO prog 34 15 K=K 38:=ZX (by kernel_rfl) K
@[go_sem ↓] theorem Ypw (K:Nat→Prop):xFO prog 34 16 K=K 39:=ZX (by kernel_rfl) K
@[go_sem ↓] theorem Ypr (K:Nat→Prop):xFO prog 34 17 K=K 40:=ZX (by kernel_rfl) K
@[go_sem ↓] theorem Ytk (K:Nat→Prop):xFO prog 36 0 K=K 0:=ZX (by kernel_rfl) K
@[go_sem ↓] theorem Ywv (K:Nat→Prop):xFO prog 36 1 K=K 1:=ZX (by kernel_rfl) K
@[go_sem ↓] theorem Yxk (K:Nat→Prop):xFO prog 50 0 K=K 0:=ZX (by kernel_rfl) K
@[go_sem ↓] theorem Ywm (K:Nat→Prop):xFO prog 50 1 K=K 24:=ZX (by kernel_rfl) K
@[go_sem ↓] theorem Ytr (K:Nat→Prop):xFO prog 50 2 K=K 25:=ZX (by kernel_rfl) K
@[go_sem ↓] theorem Ywk (K:Nat→Prop):xFO prog 50 3 K=K 26:=ZX (by kernel_rfl) K
@[go_sem ↓] theorem Ywq (K:Nat→Prop):xFO prog 50 4 K=K 27:=ZX (by kernel_rfl) K
@[go_sem ↓] theorem Ysr (K:Nat→Prop):xFO prog 50 5 K=K 28:=ZX (by kernel_rfl) K
@[go_sem ↓] theorem Ysw (K:Nat→Prop):xFO prog 50 6 K=K 29:=ZX (by kernel_rfl) K
@[go_sem ↓] theorem Yvf (K:Nat→Prop):xFO prog 50 7 K=K 30:=ZX (by kernel_rfl) K
@[go_sem ↓] theorem Yue (K:Nat→Prop):xFO prog 50 8 K=K 31:=ZX (by kernel_rfl) K
@[go_sem ↓] theorem Yum (K:Nat→Prop):xFO prog 50 9 K=K 32:=ZX (by kernel_rfl) K
@[go_sem ↓] theorem Yor (K:Nat→Prop):xFO prog 50 10 K=K 33:=ZX (by kernel_rfl) K
@[go_sem ↓] theorem Ypi (K:Nat→Prop):xFO prog 50 11 K=K 34:=ZX (by kernel_rfl) K
@[go_sem ↓] theorem Ymh (K:Nat→Prop):xFO prog 50 12 K=K 35:=ZX (by kernel_rfl) K
@[go_sem ↓] theorem Ykd (K:Nat→Prop):xFO prog 50 13 K=K 36:=ZX (by kernel_rfl) K
@[go_sem ↓] theorem Ykk (K:Nat→Prop):xFO prog 50 14 K=K 37:=ZX (by kernel_rfl) K
@[go_sem ↓] theorem Ymm (K:Nat→Prop):xFO prog 50 15 K=K 38:=ZX (by kernel_rfl) K
@[go_sem ↓] theorem Yjp (K:Nat→Prop):xFO prog 50 16 K=K 39:=ZX (by kernel_rfl) K
@[go_sem ↓] theorem Ypg (K:Nat→Prop):xFO prog 50 17 K=K 40:=ZX (by kernel_rfl) K
@[go_sem ↓] theorem Ywj (K:Nat→Prop):xFO prog 55 1 K=K 1:=ZX (by kernel_rfl) K
@[go_sem ↓] theorem Ysp (K:Nat→Prop):xFO prog 55 2 K=K 2:=ZX (by kernel_rfl) K
@[go_sem ↓] theorem Ytt (K:Nat→Prop):xFO prog 55 3 K=K 3:=ZX (by kernel_rfl) K
@[go_sem ↓] theorem Ywg (K:Nat→Prop):xFO prog 55 4 K=K 4:=ZX (by kernel_rfl) K
@[go_sem ↓] theorem Ywb (K:Nat→Prop):xFO prog 55 5 K=K 5:=ZX (by kernel_rfl) K
@[go_sem ↓] theorem Yvn (K:Nat→Prop):xFO prog 55 6 K=K 6:=ZX (by kernel_rfl) K
@[go_sem ↓] theorem Yti (K:Nat→Prop):xFO prog 55 7 K=K 7:=ZX (by kernel_rfl) K
@[go_sem ↓] theorem Ytm (K:Nat→Prop):xFO prog 55 8 K=K 8:=ZX (by kernel_rfl) K
@[go_sem ↓] theorem Yvb (K:Nat→Prop):xFO prog 55 9 K=K 9:=ZX (by kernel_rfl) K
@[go_sem ↓] theorem Ynh (K:Nat→Prop):xFO prog 55 10 K=K 10:=ZX (by kernel_rfl) K
@[go_sem ↓] theorem Yns (K:Nat→Prop):xFO prog 55 11 K=K 11:=ZX (by kernel_rfl) K
@[go_sem ↓] theorem Yni (K:Nat→Prop):xFO prog 55 12 K=K 12:=ZX (by kernel_rfl) K
@[go_sem ↓] theorem Yjy (K:Nat→Prop):xFO prog 55 13 K=K 13:=ZX (by kernel_rfl) K
@[go_sem ↓] theorem Yvk (K:Nat→Prop):xFO prog 98 0 K=K 0:=ZX (by kernel_rfl) K
@[go_sem ↓] theorem Yuv (K:Nat→Prop):xFO prog 98 1 K=K 1:=ZX (by kernel_rfl) K
@[go_sem ↓] theorem Yvd (K:Nat→Prop):xFO prog 98 2 K=K 2:=ZX (by kernel_rfl) K
@[go_sem ↓] theorem Ywx (K:Nat→Prop):xFO prog 98 3 K=K 3:=ZX (by kernel_rfl) K
@[go_sem ↓] theorem Ysf (K:Nat→Prop):xFO prog 100 0 K=K 0:=ZX (by kernel_rfl) K
@[go_sem ↓] theorem Ykf (K:Nat→Prop):xFO prog 100 1 K=K 4:=ZX (by kernel_rfl) K
@[go_sem ↓] theorem Ynw (K:Nat→Prop):xFO prog 100 2 K=K 5:=ZX (by kernel_rfl) K
@[go_sem ↓] theorem Yla (K:Nat→Prop):xFO prog 122 0 K=K 0:=ZX (by kernel_rfl) K
@[go_sem ↓] theorem Ymp (K:Nat→Prop):xFO prog 122 1 K=K 24:=ZX (by kernel_rfl) K
@[go_sem ↓] theorem Ypn (K:Nat→Prop):xFO prog 122 2 K=K 25:=ZX (by kernel_rfl) K
@[go_sem ↓] theorem Yqg (K:Nat→Prop):xFO prog 122 3 K=K 26:=ZX (by kernel_rfl) K
@[go_sem ↓] theorem Yri (K:Nat→Prop):xFO prog 125 0 K=K 0:=ZX (by kernel_rfl) K
@[go_sem ↓] theorem Yma (K:Nat→Prop):xFO prog 125 1 K=K 1:=ZX (by kernel_rfl) K
@[go_sem ↓] theorem Ylt (K:Nat→Prop):xFO prog 125 2 K=K 2:=ZX (by kernel_rfl) K
@[go_sem ↓] theorem Ysd (K:Nat→Prop):xFO prog 125 3 K=K 26:=ZX (by kernel_rfl) K
@[go_sem ↓] theorem Yny (K:Nat→Prop):xFO prog 125 4 K=K 27:=ZX (by kernel_rfl) K
@[go_sem ↓] theorem Yqr (K:Nat→Prop):xFO prog 125 5 K=K 28:=ZX (by kernel_rfl) K
@[go_sem ↓] theorem You (K:Nat→Prop):xFO prog 125 6 K=K 29:=ZX (by kernel_rfl) K
@[go_sem ↓] theorem Ylq (K:Nat→Prop):xFO prog 125 7 K=K 30:=ZX (by kernel_rfl) K
@[go_sem ↓] theorem Yld (K:Nat→Prop):xFO prog 125 8 K=K 31:=ZX (by kernel_rfl) K
@[go_sem ↓] theorem Ymi (K:Nat→Prop):xFO prog 125 9 K=K 32:=ZX (by kernel_rfl) K
@[go_sem ↓] theorem Ylc (K:Nat→Prop):xFO prog 127 0 K=K 0:=ZX (by kernel_rfl) K
@[go_sem ↓] theorem Ykq (K:Nat→Prop):xFO prog 135 0 K=K 0:=ZX (by kernel_rfl) K
@[go_sem ↓] theorem Ykh (K:Nat→Prop):xFO prog 135 1 K=K 41:=ZX (by kernel_rfl) K
@[go_sem ↓] theorem Yjw (K:Nat→Prop):xFO prog 135 2 K=K 55:=ZX (by kernel_rfl) K
@[go_sem ↓] theorem Ykc (K:Nat→Prop):xFO prog 153 0 K=K 0:=ZX (by kernel_rfl) K
@[go_sem ↓] theorem Yof (K:Nat→Prop):xFO prog 153 1 K=K 1:=ZX (by kernel_rfl) K
@[go_sem ↓] theorem Ynk (K:Nat→Prop):xFO prog 153 2 K=K 2:=ZX (by kernel_rfl) K
@[go_sem ↓] theorem Yln (K:Nat→Prop):xFO prog 153 3 K=K 3:=ZX (by kernel_rfl) K
@[go_sem ↓] theorem Yqa (K:Nat→Prop):xFO prog 156 0 K=K 0:=ZX (by kernel_rfl) K
@[go_sem ↓] theorem Yll (K:Nat→Prop):xFO prog 156 1 K=K 1:=ZX (by kernel_rfl) K
@[go_sem ↓] theorem Ysb (K:Nat→Prop):xFO prog 156 2 K=K 2:=ZX (by kernel_rfl) K
@[go_sem ↓] theorem Ynl (K:Nat→Prop):xFO prog 162 0 K=K 0:=ZX (by kernel_rfl) K
@[go_sem ↓] theorem Ymz (K:Nat→Prop):xFO prog 162 1 K=K 41:=ZX (by kernel_rfl) K
@[go_sem ↓] theorem Yom (K:Nat→Prop):xFO prog 162 2 K=K 55:=ZX (by kernel_rfl) K
@[go_sem ↓] theorem Ysg (K:Nat→Prop):xFO prog 175 0 K=K 0:=ZX (by kernel_rfl) K
@[go_sem ↓] theorem Yrr (K:Nat→Prop):xFO prog 175 1 K=K 1:=ZX (by kernel_rfl) K
@[go_sem ↓] theorem Yrw (K:Nat→Prop):xFO prog 175 2 K=K 2:=ZX (by kernel_rfl) K
@[go_sem ↓] theorem Yrv (K:Nat→Prop):xFO prog 175 3 K=K 26:=ZX (by kernel_rfl) K
@[go_sem ↓] theorem Yjt (K:Nat→Prop):xFO prog 175 4 K=K 27:=ZX (by kernel_rfl) K
@[go_sem ↓] theorem Ykr (K:Nat→Prop):xFO prog 175 5 K=K 28:=ZX (by kernel_rfl) K
@[go_sem ↓] theorem Ynd (K:Nat→Prop):xFO prog 175 6 K=K 29:=ZX (by kernel_rfl) K
@[go_sem ↓] theorem Ypl (K:Nat→Prop):xFO prog 175 7 K=K 30:=ZX (by kernel_rfl) K
@[go_sem ↓] theorem Yos (K:Nat→Prop):xFO prog 175 8 K=K 31:=ZX (by kernel_rfl) K
@[go_sem ↓] theorem Ymr (K:Nat→Prop):xFO prog 175 9 K=K 32:=ZX (by kernel_rfl) K
@[go_sem ↓] theorem Yli (K:Nat→Prop):xFO prog 218 0 K=K 0:=ZX (by kernel_rfl) K
@[go_sem ↓] theorem Yox (K:Nat→Prop):xFO prog 220 0 K=K 0:=ZX (by kernel_rfl) K
@[go_sem ↓] theorem Ynn (K:Nat→Prop):xFO prog 225 0 K=K 0:=ZX (by kernel_rfl) K
@[go_sem ↓] theorem Ylb (K:Nat→Prop):xFO prog 225 1 K=K 1:=ZX (by kernel_rfl) K
@[go_sem ↓] theorem Ynq (K:Nat→Prop):xFO prog 239 0 K=K 0:=ZX (by kernel_rfl) K
@[go_sem ↓] theorem Yqm (K:Nat→Prop):xFO prog 239 1 K=K 1:=ZX (by kernel_rfl) K
@[go_sem ↓] theorem Ypf (K:Nat→Prop):xFO prog 239 2 K=K 2:=ZX (by kernel_rfl) K
@[go_sem ↓] theorem Yqf (K:Nat→Prop):xFO prog 239 3 K=K 3:=ZX (by kernel_rfl) K
@[go_sem ↓] theorem Ylr (K:Nat→Prop):xFO prog 239 4 K=K 4:=ZX (by kernel_rfl) K
@[go_sem ↓] theorem Yrz (K:Nat→Prop):xFO prog 337 0 K=K 0:=ZX (by kernel_rfl) K
@[go_sem ↓] theorem Yro (K:Nat→Prop):xFO prog 337 1 K=K 4:=ZX (by kernel_rfl) K
@[go_sem ↓] theorem Yre (K:Nat→Prop):xFO prog 339 0 K=K 0:=ZX (by kernel_rfl) K
@[go_sem ↓] theorem Yjs (K:Nat→Prop):xFO prog 349 0 K=K 0:=ZX (by kernel_rfl) K
@[go_sem ↓] theorem Ymk (K:Nat→Prop):xFO prog 372 0 K=K 0:=ZX (by kernel_rfl) K
@[go_sem ↓] theorem Ysl (K:Nat→Prop):xFO prog 372 1 K=K 1:=ZX (by kernel_rfl) K
@[go_sem ↓] theorem Ypo (K:Nat→Prop):xFO prog 372 2 K=K 2:=ZX (by kernel_rfl) K
@[go_sem ↓] theorem Ykw (K:Nat→Prop):xFO prog 399 0 K=K 0:=ZX (by kernel_rfl) K
@[go_sem ↓] theorem Ync (K:Nat→Prop):xFO prog 399 1 K=K 4:=ZX (by kernel_rfl) K
@[go_sem ↓] theorem Yru (K:Nat→Prop):xFO prog 399 2 K=K 28:=ZX (by kernel_rfl) K
@[go_sem ↓] theorem Yoo (K:Nat→Prop):xFO prog 403 0 K=K 0:=ZX (by kernel_rfl) K
@[go_sem ↓] theorem Ylf (K:Nat→Prop):xFO prog 403 1 K=K 1:=ZX (by kernel_rfl) K
@[go_sem ↓] theorem Ykg (K:Nat→Prop):xFO prog 427 0 K=K 0:=ZX (by kernel_rfl) K
@[go_sem ↓] theorem Ylj (K:Nat→Prop):xFO prog 427 1 K=K 2:=ZX (by kernel_rfl) K
@[go_sem] theorem Yki:tSh prog 25 = .sl 22 1 8:=by kernel_rfl
@[go_sem] theorem Ynt:tSh prog 26 = .sl 100 6 48:=by kernel_rfl
@[go_sem] theorem Ztm:tSh prog 27 = .sl 3 1 8:=by kernel_rfl
@[go_sem] theorem Ysh:tSh prog 28 = .sl 153 4 32:=by kernel_rfl
@[go_sem] theorem Ybv:tSh prog 29 = .sl 156 3 24:=by kernel_rfl
@[go_sem] theorem Ymg:tSh prog 30 = .sl 125 33 296:=by kernel_rfl
@[go_sem] theorem Yqn:tSh prog 31 = .sl 5 1 1:=by kernel_rfl
@[go_sem] theorem Yqj:tSh prog 32 = .sl 31 1 24:=by kernel_rfl
@[go_sem] theorem tSh_39:tSh prog 39 = .sl 55 14 176:=by kernel_rfl
@[go_sem] theorem tSh_45:tSh prog 45 = .sl 137 6 48:=by kernel_rfl
@[go_sem] theorem tSh_46:tSh prog 46 = .sl 249 4 32:=by kernel_rfl
@[go_sem] theorem tSh_47:tSh prog 47 = .sl 250 3 24:=by kernel_rfl
@[go_sem] theorem tSh_48:tSh prog 48 = .sl 175 33 296:=by kernel_rfl
@[go_sem] theorem tSh_120:tSh prog 120 = .sl 225 2 16:=by kernel_rfl
@[go_sem] theorem tSh_201:tSh prog 201 = .sl 98 4 32:=by kernel_rfl
@[go_sem] theorem tSh_316:tSh prog 316 = .sl 4 1 1:=by kernel_rfl
@[go_sem] theorem tSh_325:tSh prog 325 = .sl 5 1 1:=by kernel_rfl
@[go_sem] theorem tSh_354:tSh prog 354 = .sl 40 1 8:=by kernel_rfl
@[go_sem ↓] theorem xSlh_27 (a:Option Addr)(n c:Nat)(k:IntKind)(j:Int)(h0:0≤j)(h1:j≤(c:Int))(K:Value→Prop):xSl prog 27 (.slice a n c) none (some (.int k j)) none K=K (.slice a j.toNat c):=Yce Ztm a n c k j h0 h1 K
@[go_sem ↓] theorem xSlh_29 (a:Option Addr)(n c:Nat)(k:IntKind)(j:Int)(h0:0≤j)(h1:j≤(c:Int))(K:Value→Prop):xSl prog 29 (.slice a n c) none (some (.int k j)) none K=K (.slice a j.toNat c):=Yce Ybv a n c k j h0 h1 K
@[go_sem ↓] theorem xBeq_25 (x y:Operand)(a:Option Addr)(n c:Nat)(K:Value→Prop):Vi prog .eql 25 x y (.slice a n c) (.slice none 0 0) K=K (.bool a.isNone):=WC Yki x y a n c K
@[go_sem ↓] theorem xBeq_26 (x y:Operand)(a:Option Addr)(n c:Nat)(K:Value→Prop):Vi prog .eql 26 x y (.slice a n c) (.slice none 0 0) K=K (.bool a.isNone):=WC Ynt x y a n c K
@[go_sem ↓] theorem xBeq_27 (x y:Operand)(a:Option Addr)(n c:Nat)(K:Value→Prop):Vi prog .eql 27 x y (.slice a n c) (.slice none 0 0) K=K (.bool a.isNone):=WC Ztm x y a n c K
@[go_sem ↓] theorem xBeq_28 (x y:Operand)(a:Option Addr)(n c:Nat)(K:Value→Prop):Vi prog .eql 28 x y (.slice a n c) (.slice none 0 0) K=K (.bool a.isNone):=WC Ysh x y a n c K
@[go_sem ↓] theorem xBeq_29 (x y:Operand)(a:Option Addr)(n c:Nat)(K:Value→Prop):Vi prog .eql 29 x y (.slice a n c) (.slice none 0 0) K=K (.bool a.isNone):=WC Ybv x y a n c K
@[go_sem ↓] theorem xBeq_30 (x y:Operand)(a:Option Addr)(n c:Nat)(K:Value→Prop):Vi prog .eql 30 x y (.slice a n c) (.slice none 0 0) K=K (.bool a.isNone):=WC Ymg x y a n c K
@[go_sem ↓] theorem xBeq_31 (x y:Operand)(a:Option Addr)(n c:Nat)(K:Value→Prop):Vi prog .eql 31 x y (.slice a n c) (.slice none 0 0) K=K (.bool a.isNone):=WC Yqn x y a n c K
@[go_sem ↓] theorem xBeq_32 (x y:Operand)(a:Option Addr)(n c:Nat)(K:Value→Prop):Vi prog .eql 32 x y (.slice a n c) (.slice none 0 0) K=K (.bool a.isNone):=WC Yqj x y a n c K
@[go_sem ↓] theorem Yuu (x y:Operand)(a:Option Addr)(K:Value→Prop):Vi prog .eql 111 x y (.pointer a) (.pointer none) K=K (.bool a.isNone):=Zjl (T:=111) (e:=220) (by kernel_rfl) x y a K
@[go_sem ↓] theorem xSlm_27 (a:Option Addr)(n c:Nat)(k l:IntKind)(i j:Int)(h0:0≤i)(h1:i≤j)(h2:j≤(c:Int))(K:Value→Prop):xSl prog 27 (.slice a n c) (some (.int k i)) (some (.int l j)) none K=K (.slice (Jf a c i.toNat 1) (j.toNat-i.toNat) (c-i.toNat)):=Zdw Ztm a n c k l i j h0 h1 h2 K
@[go_sem ↓] theorem xLen_25 (ty:Nat)(a:Option Addr)(n c:Nat)(K:Value→Prop):G0 prog ty #[25] (.slice a n c) K=K (.int .i64 n):=Yj (T:=25) (e:=22) (by kernel_rfl) a n c
@[go_sem ↓] theorem xLen_26 (ty:Nat)(a:Option Addr)(n c:Nat)(K:Value→Prop):G0 prog ty #[26] (.slice a n c) K=K (.int .i64 n):=Yj (T:=26) (e:=100) (by kernel_rfl) a n c
@[go_sem ↓] theorem xLen_27 (ty:Nat)(a:Option Addr)(n c:Nat)(K:Value→Prop):G0 prog ty #[27] (.slice a n c) K=K (.int .i64 n):=Yj (T:=27) (e:=3) (by kernel_rfl) a n c
@[go_sem ↓] theorem xLen_28 (ty:Nat)(a:Option Addr)(n c:Nat)(K:Value→Prop):G0 prog ty #[28] (.slice a n c) K=K (.int .i64 n):=Yj (T:=28) (e:=153) (by kernel_rfl) a n c
@[go_sem ↓] theorem xLen_29 (ty:Nat)(a:Option Addr)(n c:Nat)(K:Value→Prop):G0 prog ty #[29] (.slice a n c) K=K (.int .i64 n):=Yj (T:=29) (e:=156) (by kernel_rfl) a n c
@[go_sem ↓] theorem xLen_30 (ty:Nat)(a:Option Addr)(n c:Nat)(K:Value→Prop):G0 prog ty #[30] (.slice a n c) K=K (.int .i64 n):=Yj (T:=30) (e:=125) (by kernel_rfl) a n c
@[go_sem ↓] theorem xLen_31 (ty:Nat)(a:Option Addr)(n c:Nat)(K:Value→Prop):G0 prog ty #[31] (.slice a n c) K=K (.int .i64 n):=Yj (T:=31) (e:=5) (by kernel_rfl) a n c
@[go_sem ↓] theorem xLen_32 (ty:Nat)(a:Option Addr)(n c:Nat)(K:Value→Prop):G0 prog ty #[32] (.slice a n c) K=K (.int .i64 n):=Yj (T:=32) (e:=31) (by kernel_rfl) a n c
@[go_sem ↓] theorem xLen_39 (ty:Nat)(a:Option Addr)(n c:Nat)(K:Value→Prop):G0 prog ty #[39] (.slice a n c) K=K (.int .i64 n):=Yj (T:=39) (e:=55) (by kernel_rfl) a n c
@[go_sem ↓] theorem xLen_45 (ty:Nat)(a:Option Addr)(n c:Nat)(K:Value→Prop):G0 prog ty #[45] (.slice a n c) K=K (.int .i64 n):=Yj (T:=45) (e:=137) (by kernel_rfl) a n c
@[go_sem ↓] theorem xLen_46 (ty:Nat)(a:Option Addr)(n c:Nat)(K:Value→Prop):G0 prog ty #[46] (.slice a n c) K=K (.int .i64 n):=Yj (T:=46) (e:=249) (by kernel_rfl) a n c
@[go_sem ↓] theorem xLen_47 (ty:Nat)(a:Option Addr)(n c:Nat)(K:Value→Prop):G0 prog ty #[47] (.slice a n c) K=K (.int .i64 n):=Yj (T:=47) (e:=250) (by kernel_rfl) a n c
@[go_sem ↓] theorem xLen_48 (ty:Nat)(a:Option Addr)(n c:Nat)(K:Value→Prop):G0 prog ty #[48] (.slice a n c) K=K (.int .i64 n):=Yj (T:=48) (e:=175) (by kernel_rfl) a n c
@[go_sem ↓] theorem Ywn (ty:Nat)(a:Option Addr)(n c:Nat)(K:Value→Prop):G0 prog ty #[120] (.slice a n c) K=K (.int .i64 n):=Yj (T:=120) (e:=225) (by kernel_rfl) a n c
@[go_sem ↓] theorem Yul (ty:Nat)(a:Option Addr)(n c:Nat)(K:Value→Prop):G0 prog ty #[201] (.slice a n c) K=K (.int .i64 n):=Yj (T:=201) (e:=98) (by kernel_rfl) a n c
@[go_sem ↓] theorem Yvs (ty:Nat)(a:Option Addr)(n c:Nat)(K:Value→Prop):G0 prog ty #[316] (.slice a n c) K=K (.int .i64 n):=Yj (T:=316) (e:=4) (by kernel_rfl) a n c
@[go_sem ↓] theorem Ywd (ty:Nat)(a:Option Addr)(n c:Nat)(K:Value→Prop):G0 prog ty #[325] (.slice a n c) K=K (.int .i64 n):=Yj (T:=325) (e:=5) (by kernel_rfl) a n c
@[go_sem ↓] theorem Ytv (ty:Nat)(a:Option Addr)(n c:Nat)(K:Value→Prop):G0 prog ty #[354] (.slice a n c) K=K (.int .i64 n):=Yj (T:=354) (e:=40) (by kernel_rfl) a n c
@[go_sem ↓] theorem xBb_4 (x y:Operand)(a b:Bool)(K:Value→Prop):Vi prog .eql 4 x y (.bool a) (.bool b) K=K (.bool (a == b)):=Zjd (T:=4) (by kernel_rfl) x y a b K
@[go_sem ↓] theorem xBn_4 (x y:Operand)(a b:Bool)(K:Value→Prop):Vi prog .neq 4 x y (.bool a) (.bool b) K=K (.bool (!(a == b))):=Zij (T:=4) (by kernel_rfl) x y a b K
@[go_sem ↓] theorem Yiy (k:IntKind)(n:Int)(K:Value→Prop):Zdr prog 3 22 (.int k n) K=K (.int .u64 (IntKind.u64.wrap n)):=UB (s:=3) (d:=22) (ks:=.i64) (kd:=.u64) (by kernel_rfl) (by kernel_rfl) k n
@[go_sem ↓] theorem Yei (k:IntKind)(n:Int)(K:Value→Prop):Zdr prog 3 406 (.int k n) K=K (.int .u64 (IntKind.u64.wrap n)):=UB (s:=3) (d:=406) (ks:=.i64) (kd:=.u64) (by kernel_rfl) (by kernel_rfl) k n
@[go_sem ↓] theorem Yrx (k:IntKind)(n:Int)(K:Value→Prop):Zdr prog 5 3 (.int k n) K=K (.int .i64 (IntKind.i64.wrap n)):=UB (s:=5) (d:=3) (ks:=.u8) (kd:=.i64) (by kernel_rfl) (by kernel_rfl) k n
@[go_sem ↓] theorem Yie (k:IntKind)(n:Int)(K:Value→Prop):Zdr prog 22 5 (.int k n) K=K (.int .u8 (IntKind.u8.wrap n)):=UB (s:=22) (d:=5) (ks:=.u64) (kd:=.u8) (by kernel_rfl) (by kernel_rfl) k n
@[go_sem ↓] theorem Ygq (k:IntKind)(n:Int)(K:Value→Prop):Zdr prog 406 3 (.int k n) K=K (.int .i64 (IntKind.i64.wrap n)):=UB (s:=406) (d:=3) (ks:=.u64) (kd:=.i64) (by kernel_rfl) (by kernel_rfl) k n
theorem ZW:prog.follows .mixedOrders=true:=by kernel_rfl
end Go.X
