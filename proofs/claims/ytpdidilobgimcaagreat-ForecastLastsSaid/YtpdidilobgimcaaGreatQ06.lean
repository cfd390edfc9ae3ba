/- Lemmas and contracts. Conditions: as each says. -/
import Derived.KernelRfl
import Derived.Test.YtpdidilobgimcaaGreatProg
import Derived.Test.YtpdidilobgimcaaGreatQ04
set_option linter.unusedVariables false
set_option linter.unusedSimpArgs false
set_option maxHeartbeats 12800000
set_option maxRecDepth 20000
namespace Go.X
open Go.Proofs Go.Proofs.Tryz
theorem JM:tI prog 3=some ⟨1,false,[(.int .i64 0)],8⟩:=by kernel_rfl
@[go_sem ↓] theorem xTI_3 (K:TI→Prop):xTI prog 3 K=K ⟨1,false,[(.int .i64 0)],8⟩:=YK JM K
theorem tI_4:tI prog 4=some ⟨1,false,[(.bool false)],1⟩:=by kernel_rfl
@[go_sem ↓] theorem xTI_4 (K:TI→Prop):xTI prog 4 K=K ⟨1,false,[(.bool false)],1⟩:=YK tI_4 K
theorem Ynr:tI prog 5=some ⟨1,false,[(.int .u8 0)],1⟩:=by kernel_rfl
@[go_sem ↓] theorem xTI_5 (K:TI→Prop):xTI prog 5 K=K ⟨1,false,[(.int .u8 0)],1⟩:=YK Ynr K
theorem Ux:tI prog 22=some ⟨1,false,[(.int .u64 0)],8⟩:=by kernel_rfl
@[go_sem ↓] theorem xTI_22 (K:TI→Prop):xTI prog 22 K=K ⟨1,false,[(.int .u64 0)],8⟩:=YK Ux K
theorem tI_24:tI prog 24=some ⟨24,true,[(.int .u64 0),(.int .u64 0),(.int .u64 0),(.int .u64 0),(.int .u64 0),(.int .u64 0),(.int .u64 0),(.int .u64 0),(.int .u64 0),(.int .u64 0),(.int .u64 0),(.int .u64 0),(.int .u64 0),(.int .u64 0),(.int .i64 0),(.int .i64 0),(.int .i64 0),(.int .i64 0),(.int .i64 0),(.int .i64 0),(.int .i64 0),(.int .i64 0),(.int .i64 0),(.int .i64 0)],192⟩:=by kernel_rfl
@[go_sem ↓] theorem xTI_24 (K:TI→Prop):xTI prog 24 K=K ⟨24,true,[(.int .u64 0),(.int .u64 0),(.int .u64 0),(.int .u64 0),(.int .u64 0),(.int .u64 0),(.int .u64 0),(.int .u64 0),(.int .u64 0),(.int .u64 0),(.int .u64 0),(.int .u64 0),(.int .u64 0),(.int .u64 0),(.int .i64 0),(.int .i64 0),(.int .i64 0),(.int .i64 0),(.int .i64 0),(.int .i64 0),(.int .i64 0),(.int .i64 0),(.int .i64 0),(.int .i64 0)],192⟩:=YK tI_24 K
theorem tI_25:tI prog 25=some ⟨1,false,[(.slice none 0 0)],24⟩:=by kernel_rfl
@[go_sem ↓] theorem xTI_25 (K:TI→Prop):xTI prog 25 K=K ⟨1,false,[(.slice none 0 0)],24⟩:=YK tI_25 K
theorem tI_26:tI prog 26=some ⟨1,false,[(.slice none 0 0)],24⟩:=by kernel_rfl
@[go_sem ↓] theorem xTI_26 (K:TI→Prop):xTI prog 26 K=K ⟨1,false,[(.slice none 0 0)],24⟩:=YK tI_26 K
theorem tI_27:tI prog 27=some ⟨1,false,[(.slice none 0 0)],24⟩:=by kernel_rfl
@[go_sem ↓] theorem xTI_27 (K:TI→Prop):xTI prog 27 K=K ⟨1,false,[(.slice none 0 0)],24⟩:=YK tI_27 K
theorem tI_28:tI prog 28=some ⟨1,false,[(.slice none 0 0)],24⟩:=by kernel_rfl
@[go_sem ↓] theorem xTI_28 (K:TI→Prop):xTI prog 28 K=K ⟨1,false,[(.slice none 0 0)],24⟩:=YK tI_28 K
theorem tI_29:tI prog 29=some ⟨1,false,[(.slice none 0 0)],24⟩:=by kernel_rfl
@[go_sem ↓] theorem xTI_29 (K:TI→Prop):xTI prog 29 K=K ⟨1,false,[(.slice none 0 0)],24⟩:=YK tI_29 K
theorem tI_30:tI prog 30=some ⟨1,false,[(.slice none 0 0)],24⟩:=by kernel_rfl
@[go_sem ↓] theorem xTI_30 (K:TI→Prop):xTI prog 30 K=K ⟨1,false,[(.slice none 0 0)],24⟩:=YK tI_30 K
theorem Yfo:tI prog 31=some ⟨1,false,[(.slice none 0 0)],24⟩:=by kernel_rfl
@[go_sem ↓] theorem xTI_31 (K:TI→Prop):xTI prog 31 K=K ⟨1,false,[(.slice none 0 0)],24⟩:=YK Yfo K
theorem tI_32:tI prog 32=some ⟨1,false,[(.slice none 0 0)],24⟩:=by kernel_rfl
@[go_sem ↓] theorem xTI_32 (K:TI→Prop):xTI prog 32 K=K ⟨1,false,[(.slice none 0 0)],24⟩:=YK tI_32 K
theorem tI_34:tI prog 34=some ⟨41,true,[(.int .u64 0),(.int .u64 0),(.int .u64 0),(.int .u64 0),(.int .u64 0),(.int .u64 0),(.int .u64 0),(.int .u64 0),(.int .u64 0),(.int .u64 0),(.int .u64 0),(.int .u64 0),(.int .u64 0),(.int .u64 0),(.int .i64 0),(.int .i64 0),(.int .i64 0),(.int .i64 0),(.int .i64 0),(.int .i64 0),(.int .i64 0),(.int .i64 0),(.int .i64 0),(.int .i64 0),(.int .u64 0),(.int .u64 0),(.int .u64 0),(.int .u64 0),(.int .u64 0),(.int .i64 0),(.int .i64 0),(.bool false),(.slice none 0 0),(.slice none 0 0),(.slice none 0 0),(.slice none 0 0),(.slice none 0 0),(.slice none 0 0),(.slice none 0 0),(.slice none 0 0),(.slice none 0 0)],472⟩:=by kernel_rfl
@[go_sem ↓] theorem xTI_34 (K:TI→Prop):xTI prog 34 K=K ⟨41,true,[(.int .u64 0),(.int .u64 0),(.int .u64 0),(.int .u64 0),(.int .u64 0),(.int .u64 0),(.int .u64 0),(.int .u64 0),(.int .u64 0),(.int .u64 0),(.int .u64 0),(.int .u64 0),(.int .u64 0),(.int .u64 0),(.int .i64 0),(.int .i64 0),(.int .i64 0),(.int .i64 0),(.int .i64 0),(.int .i64 0),(.int .i64 0),(.int .i64 0),(.int .i64 0),(.int .i64 0),(.int .u64 0),(.int .u64 0),(.int .u64 0),(.int .u64 0),(.int .u64 0),(.int .i64 0),(.int .i64 0),(.bool false),(.slice none 0 0),(.slice none 0 0),(.slice none 0 0),(.slice none 0 0),(.slice none 0 0),(.slice none 0 0),(.slice none 0 0),(.slice none 0 0),(.slice none 0 0)],472⟩:=YK tI_34 K
theorem tI_40:tI prog 40=some ⟨1,false,[(.int .i64 0)],8⟩:=by kernel_rfl
@[go_sem ↓] theorem xTI_40 (K:TI→Prop):xTI prog 40 K=K ⟨1,false,[(.int .i64 0)],8⟩:=YK tI_40 K
theorem tI_44:tI prog 44=some ⟨24,true,[(.int .u64 0),(.int .u64 0),(.int .u64 0),(.int .u64 0),(.int .u64 0),(.int .u64 0),(.int .u64 0),(.int .u64 0),(.int .u64 0),(.int .u64 0),(.int .u64 0),(.int .u64 0),(.int .u64 0),(.int .u64 0),(.int .i64 0),(.int .i64 0),(.int .i64 0),(.int .i64 0),(.int .i64 0),(.int .i64 0),(.int .i64 0),(.int .i64 0),(.int .i64 0),(.int .i64 0)],192⟩:=by kernel_rfl
@[go_sem ↓] theorem xTI_44 (K:TI→Prop):xTI prog 44 K=K ⟨24,true,[(.int .u64 0),(.int .u64 0),(.int .u64 0),(.int .u64 0),(.int .u64 0),(.int .u64 0),(.int .u64 0),(.int .u64 0),(.int .u64 0),(.int .u64 0),(.int .u64 0),(.int .u64 0),(.int .u64 0),(.int .u64 0),(.int .i64 0),(.int .i64 0),(.int .i64 0),(.int .i64 0),(.int .i64 0),(.int .i64 0),(.int .i64 0),(.int .i64 0),(.int .i64 0),(.int .i64 0)],192⟩:=YK tI_44 K
theorem tI_55:tI prog 55=some ⟨14,true,[(.int .i64 0),(.int .i64 0),(.bool false),(.int .u64 0),(.int .u64 0),(.int .u64 0),(.int .u64 0),(.int .u64 0),(.int .u64 0),(.int .u64 0),(.slice none 0 0),(.slice none 0 0),(.slice none 0 0),(.slice none 0 0)],176⟩:=by kernel_rfl
@[go_sem ↓] theorem xTI_55 (K:TI→Prop):xTI prog 55 K=K ⟨14,true,[(.int .i64 0),(.int .i64 0),(.bool false),(.int .u64 0),(.int .u64 0),(.int .u64 0),(.int .u64 0),(.int .u64 0),(.int .u64 0),(.int .u64 0),(.slice none 0 0),(.slice none 0 0),(.slice none 0 0),(.slice none 0 0)],176⟩:=YK tI_55 K
theorem Yew:tI prog 98=some ⟨4,true,[(.int .u64 0),(.int .u64 0),(.int .u64 0),(.int .i64 0)],32⟩:=by kernel_rfl
@[go_sem ↓] theorem xTI_98 (K:TI→Prop):xTI prog 98 K=K ⟨4,true,[(.int .u64 0),(.int .u64 0),(.int .u64 0),(.int .i64 0)],32⟩:=YK Yew K
theorem Zlw:tI prog 100=some ⟨6,true,[(.int .u64 0),(.int .u64 0),(.int .u64 0),(.int .i64 0),(.int .i64 0),(.int .i64 0)],48⟩:=by kernel_rfl
@[go_sem ↓] theorem xTI_100 (K:TI→Prop):xTI prog 100 K=K ⟨6,true,[(.int .u64 0),(.int .u64 0),(.int .u64 0),(.int .i64 0),(.int .i64 0),(.int .i64 0)],48⟩:=YK Zlw K
theorem Ytj:tI prog 108=some ⟨4,true,[(.int .u64 0),(.int .u64 0),(.int .u64 0),(.int .i64 0)],32⟩:=by kernel_rfl
@[go_sem ↓] theorem xTI_108 (K:TI→Prop):xTI prog 108 K=K ⟨4,true,[(.int .u64 0),(.int .u64 0),(.int .u64 0),(.int .i64 0)],32⟩:=YK Ytj K
theorem Yps:tI prog 120=some ⟨1,false,[(.slice none 0 0)],24⟩:=by kernel_rfl
@[go_sem ↓] theorem xTI_120 (K:TI→Prop):xTI prog 120 K=K ⟨1,false,[(.slice none 0 0)],24⟩:=YK Yps K
theorem Ytn:tI prog 122=some ⟨27,true,[(.int .u64 0),(.int .u64 0),(.int .u64 0),(.int .u64 0),(.int .u64 0),(.int .u64 0),(.int .u64 0),(.int .u64 0),(.int .u64 0),(.int .u64 0),(.int .u64 0),(.int .u64 0),(.int .u64 0),(.int .u64 0),(.int .i64 0),(.int .i64 0),(.int .i64 0),(.int .i64 0),(.int .i64 0),(.int .i64 0),(.int .i64 0),(.int .i64 0),(.int .i64 0),(.int .i64 0),(.int .u64 0),(.slice none 0 0),(.slice none 0 0)],248⟩:=by kernel_rfl
@[go_sem ↓] theorem xTI_122 (K:TI→Prop):xTI prog 122 K=K ⟨27,true,[(.int .u64 0),(.int .u64 0),(.int .u64 0),(.int .u64 0),(.int .u64 0),(.int .u64 0),(.int .u64 0),(.int .u64 0),(.int .u64 0),(.int .u64 0),(.int .u64 0),(.int .u64 0),(.int .u64 0),(.int .u64 0),(.int .i64 0),(.int .i64 0),(.int .i64 0),(.int .i64 0),(.int .i64 0),(.int .i64 0),(.int .i64 0),(.int .i64 0),(.int .i64 0),(.int .i64 0),(.int .u64 0),(.slice none 0 0),(.slice none 0 0)],248⟩:=YK Ytn K
theorem Ycp:tI prog 125=some ⟨33,true,[(.int .i64 0),(.int .i64 0),(.int .u64 0),(.int .u64 0),(.int .u64 0),(.int .u64 0),(.int .u64 0),(.int .u64 0),(.int .u64 0),(.int .u64 0),(.int .u64 0),(.int .u64 0),(.int .u64 0),(.int .u64 0),(.int .u64 0),(.int .u64 0),(.int .i64 0),(.int .i64 0),(.int .i64 0),(.int .i64 0),(.int .i64 0),(.int .i64 0),(.int .i64 0),(.int .i64 0),(.int .i64 0),(.int .i64 0),(.int .i64 0),(.int .u64 0),(.int .i64 0),(.int .i64 0),(.int .i64 0),(.slice none 0 0),(.slice none 0 0)],296⟩:=by kernel_rfl
@[go_sem ↓] theorem xTI_125 (K:TI→Prop):xTI prog 125 K=K ⟨33,true,[(.int .i64 0),(.int .i64 0),(.int .u64 0),(.int .u64 0),(.int .u64 0),(.int .u64 0),(.int .u64 0),(.int .u64 0),(.int .u64 0),(.int .u64 0),(.int .u64 0),(.int .u64 0),(.int .u64 0),(.int .u64 0),(.int .u64 0),(.int .u64 0),(.int .i64 0),(.int .i64 0),(.int .i64 0),(.int .i64 0),(.int .i64 0),(.int .i64 0),(.int .i64 0),(.int .i64 0),(.int .i64 0),(.int .i64 0),(.int .i64 0),(.int .u64 0),(.int .i64 0),(.int .i64 0),(.int .i64 0),(.slice none 0 0),(.slice none 0 0)],296⟩:=YK Ycp K
theorem Yna:tI prog 127=some ⟨41,true,[(.int .u64 0),(.int .u64 0),(.int .u64 0),(.int .u64 0),(.int .u64 0),(.int .u64 0),(.int .u64 0),(.int .u64 0),(.int .u64 0),(.int .u64 0),(.int .u64 0),(.int .u64 0),(.int .u64 0),(.int .u64 0),(.int .i64 0),(.int .i64 0),(.int .i64 0),(.int .i64 0),(.int .i64 0),(.int .i64 0),(.int .i64 0),(.int .i64 0),(.int .i64 0),(.int .i64 0),(.int .u64 0),(.int .u64 0),(.int .u64 0),(.int .u64 0),(.int .u64 0),(.int .i64 0),(.int .i64 0),(.bool false),(.slice none 0 0),(.slice none 0 0),(.slice none 0 0),(.slice none 0 0),(.slice none 0 0),(.slice none 0 0),(.slice none 0 0),(.slice none 0 0),(.slice none 0 0)],472⟩:=by kernel_rfl
@[go_sem ↓] theorem xTI_127 (K:TI→Prop):xTI prog 127 K=K ⟨41,true,[(.int .u64 0),(.int .u64 0),(.int .u64 0),(.int .u64 0),(.int .u64 0),(.int .u64 0),(.int .u64 0),(.int .u64 0),(.int .u64 0),(.int .u64 0),(.int .u64 0),(.int .u64 0),(.int .u64 0),(.int .u64 0),(.int .i64 0),(.int .i64 0),(.int .i64 0),(.int .i64 0),(.int .i64 0),(.int .i64 0),(.int .i64 0),(.int .i64 0),(.int .i64 0),(.int .i64 0),(.int .u64 0),(.int .u64 0),(.int .u64 0),(.int .u64 0),(.int .u64 0),(.int .i64 0),(.int .i64 0),(.bool false),(.slice none 0 0),(.slice none 0 0),(.slice none 0 0),(.slice none 0 0),(.slice none 0 0),(.slice none 0 0),(.slice none 0 0),(.slice none 0 0),(.slice none 0 0)],472⟩:=YK Yna K
theorem Ysv:tI prog 135=some ⟨56,true,[(.int .u64 0),(.int .u64 0),(.int .u64 0),(.int .u64 0),(.int .u64 0),(.int .u64 0),(.int .u64 0),(.int .u64 0),(.int .u64 0),(.int .u64 0),(.int .u64 0),(.int .u64 0),(.int .u64 0),(.int .u64 0),(.int .i64 0),(.int .i64 0),(.int .i64 0),(.int .i64 0),(.int .i64 0),(.int .i64 0),(.int .i64 0),(.int .i64 0),(.int .i64 0),(.int .i64 0),(.int .u64 0),(.int .u64 0),(.int .u64 0),(.int .u64 0),(.int .u64 0),(.int .i64 0),(.int .i64 0),(.bool false),(.slice none 0 0),(.slice none 0 0),(.slice none 0 0),(.slice none 0 0),(.slice none 0 0),(.slice none 0 0),(.slice none 0 0),(.slice none 0 0),(.slice none 0 0),(.int .i64 0),(.int .i64 0),(.bool false),(.int .u64 0),(.int .u64 0),(.int .u64 0),(.int .u64 0),(.int .u64 0),(.int .u64 0),(.int .u64 0),(.slice none 0 0),(.slice none 0 0),(.slice none 0 0),(.slice none 0 0),(.int .i64 0)],656⟩:=by kernel_rfl
@[go_sem ↓] theorem xTI_135 (K:TI→Prop):xTI prog 135 K=K ⟨56,true,[(.int .u64 0),(.int .u64 0),(.int .u64 0),(.int .u64 0),(.int .u64 0),(.int .u64 0),(.int .u64 0),(.int .u64 0),(.int .u64 0),(.int .u64 0),(.int .u64 0),(.int .u64 0),(.int .u64 0),(.int .u64 0),(.int .i64 0),(.int .i64 0),(.int .i64 0),(.int .i64 0),(.int .i64 0),(.int .i64 0),(.int .i64 0),(.int .i64 0),(.int .i64 0),(.int .i64 0),(.int .u64 0),(.int .u64 0),(.int .u64 0),(.int .u64 0),(.int .u64 0),(.int .i64 0),(.int .i64 0),(.bool false),(.slice none 0 0),(.slice none 0 0),(.slice none 0 0),(.slice none 0 0),(.slice none 0 0),(.slice none 0 0),(.slice none 0 0),(.slice none 0 0),(.slice none 0 0),(.int .i64 0),(.int .i64 0),(.bool false),(.int .u64 0),(.int .u64 0),(.int .u64 0),(.int .u64 0),(.int .u64 0),(.int .u64 0),(.int .u64 0),(.slice none 0 0),(.slice none 0 0),(.slice none 0 0),(.slice none 0 0),(.int .i64 0)],656⟩:=YK Ysv K
theorem Zcn:tI prog 153=some ⟨4,true,[(.int .i64 0),(.int .i64 0),(.int .u64 0),(.bool false)],32⟩:=by kernel_rfl
@[go_sem ↓] theorem xTI_153 (K:TI→Prop):xTI prog 153 K=K ⟨4,true,[(.int .i64 0),(.int .i64 0),(.int .u64 0),(.bool false)],32⟩:=YK Zcn K
theorem Ud:tI prog 156=some ⟨3,true,[(.int .i64 0),(.int .i64 0),(.int .u64 0)],24⟩:=by kernel_rfl
@[go_sem ↓] theorem xTI_156 (K:TI→Prop):xTI prog 156 K=K ⟨3,true,[(.int .i64 0),(.int .i64 0),(.int .u64 0)],24⟩:=YK Ud K
theorem Ylw:tI prog 160=some ⟨1,false,[(.pointer none)],8⟩:=by kernel_rfl
@[go_sem ↓] theorem xTI_160 (K:TI→Prop):xTI prog 160 K=K ⟨1,false,[(.pointer none)],8⟩:=YK Ylw K
theorem Ynp:tI prog 196=some ⟨1,true,[(.slice none 0 0)],24⟩:=by kernel_rfl
@[go_sem ↓] theorem xTI_196 (K:TI→Prop):xTI prog 196 K=K ⟨1,true,[(.slice none 0 0)],24⟩:=YK Ynp K
theorem Yrb:tI prog 201=some ⟨1,false,[(.slice none 0 0)],24⟩:=by kernel_rfl
@[go_sem ↓] theorem xTI_201 (K:TI→Prop):xTI prog 201 K=K ⟨1,false,[(.slice none 0 0)],24⟩:=YK Yrb K
theorem Ylp:tI prog 225=some ⟨2,true,[(.int .i64 0),(.int .u64 0)],16⟩:=by kernel_rfl
@[go_sem ↓] theorem xTI_225 (K:TI→Prop):xTI prog 225 K=K ⟨2,true,[(.int .i64 0),(.int .u64 0)],16⟩:=YK Ylp K
theorem Yqn:tI prog 239=some ⟨5,true,[(.int .u64 0),(.int .u64 0),(.int .u64 0),(.int .u64 0),(.int .u64 0)],40⟩:=by kernel_rfl
@[go_sem ↓] theorem xTI_239 (K:TI→Prop):xTI prog 239 K=K ⟨5,true,[(.int .u64 0),(.int .u64 0),(.int .u64 0),(.int .u64 0),(.int .u64 0)],40⟩:=YK Yqn K
theorem Yoj:tI prog 339=some ⟨24,true,[(.int .u64 0),(.int .u64 0),(.int .u64 0),(.int .u64 0),(.int .u64 0),(.int .u64 0),(.int .u64 0),(.int .u64 0),(.int .u64 0),(.int .u64 0),(.int .u64 0),(.int .u64 0),(.int .u64 0),(.int .u64 0),(.int .i64 0),(.int .i64 0),(.int .i64 0),(.int .i64 0),(.int .i64 0),(.int .i64 0),(.int .i64 0),(.int .i64 0),(.int .i64 0),(.int .i64 0)],192⟩:=by kernel_rfl
@[go_sem ↓] theorem xTI_339 (K:TI→Prop):xTI prog 339 K=K ⟨24,true,[(.int .u64 0),(.int .u64 0),(.int .u64 0),(.int .u64 0),(.int .u64 0),(.int .u64 0),(.int .u64 0),(.int .u64 0),(.int .u64 0),(.int .u64 0),(.int .u64 0),(.int .u64 0),(.int .u64 0),(.int .u64 0),(.int .i64 0),(.int .i64 0),(.int .i64 0),(.int .i64 0),(.int .i64 0),(.int .i64 0),(.int .i64 0),(.int .i64 0),(.int .i64 0),(.int .i64 0)],192⟩:=YK Yoj K
theorem Ytb:tI prog 372=some ⟨3,true,[(.int .u64 0),(.int .u64 0),(.int .u64 0)],24⟩:=by kernel_rfl
@[go_sem ↓] theorem xTI_372 (K:TI→Prop):xTI prog 372 K=K ⟨3,true,[(.int .u64 0),(.int .u64 0),(.int .u64 0)],24⟩:=YK Ytb K
theorem Yoy:tI prog 403=some ⟨2,true,[(.int .u64 0),(.int .u64 0)],16⟩:=by kernel_rfl
@[go_sem ↓] theorem xTI_403 (K:TI→Prop):xTI prog 403 K=K ⟨2,true,[(.int .u64 0),(.int .u64 0)],16⟩:=YK Yoy K
@[go_sem ↓] theorem Ypb (ps:List (Nat×Value))(K:Value→Prop):We prog 24 ps.toArray K=Yz [(.int .u64 0),(.int .u64 0),(.int .u64 0),(.int .u64 0),(.int .u64 0),(.int .u64 0),(.int .u64 0),(.int .u64 0),(.int .u64 0),(.int .u64 0),(.int .u64 0),(.int .u64 0),(.int .u64 0),(.int .u64 0),(.int .i64 0),(.int .i64 0),(.int .i64 0),(.int .i64 0),(.int .i64 0),(.int .i64 0),(.int .i64 0),(.int .i64 0),(.int .i64 0),(.int .i64 0)] [(0,1),(1,1),(2,1),(3,1),(4,1),(5,1),(6,1),(7,1),(8,1),(9,1),(10,1),(11,1),(12,1),(13,1),(14,1),(15,1),(16,1),(17,1),(18,1),(19,1),(20,1),(21,1),(22,1),(23,1)] ps fun z'=>K (.agg z'.toArray):=Yp (by kernel_rfl) ps K
@[go_sem ↓] theorem Ylv (ps:List (Nat×Value))(K:Value→Prop):We prog 34 ps.toArray K=Yz [(.int .u64 0),(.int .u64 0),(.int .u64 0),(.int .u64 0),(.int .u64 0),(.int .u64 0),(.int .u64 0),(.int .u64 0),(.int .u64 0),(.int .u64 0),(.int .u64 0),(.int .u64 0),(.int .u64 0),(.int .u64 0),(.int .i64 0),(.int .i64 0),(.int .i64 0),(.int .i64 0),(.int .i64 0),(.int .i64 0),(.int .i64 0),(.int .i64 0),(.int .i64 0),(.int .i64 0),(.int .u64 0),(.int .u64 0),(.int .u64 0),(.int .u64 0),(.int .u64 0),(.int .i64 0),(.int .i64 0),(.bool false),(.slice none 0 0),(.slice none 0 0),(.slice none 0 0),(.slice none 0 0),(.slice none 0 0),(.slice none 0 0),(.slice none 0 0),(.slice none 0 0),(.slice none 0 0)] [(0,24),(24,1),(25,1),(26,1),(27,1),(28,1),(29,1),(30,1),(31,1),(32,1),(33,1),(34,1),(35,1),(36,1),(37,1),(38,1),(39,1),(40,1)] ps fun z'=>K (.agg z'.toArray):=Yp (by kernel_rfl) ps K
@[go_sem ↓] theorem Ykx (ps:List (Nat×Value))(K:Value→Prop):We prog 55 ps.toArray K=Yz [(.int .i64 0),(.int .i64 0),(.bool false),(.int .u64 0),(.int .u64 0),(.int .u64 0),(.int .u64 0),(.int .u64 0),(.int .u64 0),(.int .u64 0),(.slice none 0 0),(.slice none 0 0),(.slice none 0 0),(.slice none 0 0)] [(0,1),(1,1),(2,1),(3,1),(4,1),(5,1),(6,1),(7,1),(8,1),(9,1),(10,1),(11,1),(12,1),(13,1)] ps fun z'=>K (.agg z'.toArray):=Yp (by kernel_rfl) ps K
@[go_sem ↓] theorem Yrq (ps:List (Nat×Value))(K:Value→Prop):We prog 98 ps.toArray K=Yz [(.int .u64 0),(.int .u64 0),(.int .u64 0),(.int .i64 0)] [(0,1),(1,1),(2,1),(3,1)] ps fun z'=>K (.agg z'.toArray):=Yp (by kernel_rfl) ps K
@[go_sem ↓] theorem Yjm (ps:List (Nat×Value))(K:Value→Prop):We prog 100 ps.toArray K=Yz [(.int .u64 0),(.int .u64 0),(.int .u64 0),(.int .i64 0),(.int .i64 0),(.int .i64 0)] [(0,4),(4,1),(5,1)] ps fun z'=>K (.agg z'.toArray):=Yp (by kernel_rfl) ps K
@[go_sem ↓] theorem Yim (ps:List (Nat×Value))(K:Value→Prop):We prog 122 ps.toArray K=Yz [(.int .u64 0),(.int .u64 0),(.int .u64 0),(.int .u64 0),(.int .u64 0),(.int .u64 0),(.int .u64 0),(.int .u64 0),(.int .u64 0),(.int .u64 0),(.int .u64 0),(.int .u64 0),(.int .u64 0),(.int .u64 0),(.int .i64 0),(.int .i64 0),(.int .i64 0),(.int .i64 0),(.int .i64 0),(.int .i64 0),(.int .i64 0),(.int .i64 0),(.int .i64 0),(.int .i64 0),(.int .u64 0),(.slice none 0 0),(.slice none 0 0)] [(0,24),(24,1),(25,1),(26,1)] ps fun z'=>K (.agg z'.toArray):=Yp (by kernel_rfl) ps K
@[go_sem ↓] theorem Yji (ps:List (Nat×Value))(K:Value→Prop):We prog 127 ps.toArray K=Yz [(.int .u64 0),(.int .u64 0),(.int .u64 0),(.int .u64 0),(.int .u64 0),(.int .u64 0),(.int .u64 0),(.int .u64 0),(.int .u64 0),(.int .u64 0),(.int .u64 0),(.int .u64 0),(.int .u64 0),(.int .u64 0),(.int .i64 0),(.int .i64 0),(.int .i64 0),(.int .i64 0),(.int .i64 0),(.int .i64 0),(.int .i64 0),(.int .i64 0),(.int .i64 0),(.int .i64 0),(.int .u64 0),(.int .u64 0),(.int .u64 0),(.int .u64 0),(.int .u64 0),(.int .i64 0),(.int .i64 0),(.bool false),(.slice none 0 0),(.slice none 0 0),(.slice none 0 0),(.slice none 0 0),(.slice none 0 0),(.slice none 0 0),(.slice none 0 0),(.slice none 0 0),(.slice none 0 0)] [(0,41)] ps fun z'=>K (.agg z'.toArray):=Yp (by kernel_rfl) ps K
@[go_sem ↓] theorem Yjz (ps:List (Nat×Value))(K:Value→Prop):We prog 135 ps.toArray K=Yz [(.int .u64 0),(.int .u64 0),(.int .u64 0),(.int .u64 0),(.int .u64 0),(.int .u64 0),(.int .u64 0),(.int .u64 0),(.int .u64 0),(.int .u64 0),(.int .u64 0),(.int .u64 0),(.int .u64 0),(.int .u64 0),(.int .i64 0),(.int .i64 0),(.int .i64 0),(.int .i64 0),(.int .i64 0),(.int .i64 0),(.int .i64 0),(.int .i64 0),(.int .i64 0),(.int .i64 0),(.int .u64 0),(.int .u64 0),(.int .u64 0),(.int .u64 0),(.int .u64 0),(.int .i64 0),(.int .i64 0),(.bool false),(.slice none 0 0),(.slice none 0 0),(.slice none 0 0),(.slice none 0 0),(.slice none 0 0),(.slice none 0 0),(.slice none 0 0),(.slice none 0 0),(.slice none 0 0),(.int .i64 0),(.int .i64 0),(.bool false),(.int .u64 0),(.int .u64 0),(.int .u64 0),(.int .u64 0),(.int .u64 0),(.int .u64 0),(.int .u64 0),(.slice none 0 0),(.slice none 0 0),(.slice none 0 0),(.slice none 0 0),(.int .i64 0)] [(0,41),(41,14),(55,1)] ps fun z'=>K (.agg z'.toArray):=Yp (by kernel_rfl) ps K
@[go_sem ↓] theorem Yjl (ps:List (Nat×Value))(K:Value→Prop):We prog 156 ps.toArray K=Yz [(.int .i64 0),(.int .i64 0),(.int .u64 0)] [(0,1),(1,1),(2,1)] ps fun z'=>K (.agg z'.toArray):=Yp (by kernel_rfl) ps K
@[go_sem ↓] theorem Yih (ps:List (Nat×Value))(K:Value→Prop):We prog 162 ps.toArray K=Yz [(.int .u64 0),(.int .u64 0),(.int .u64 0),(.int .u64 0),(.int .u64 0),(.int .u64 0),(.int .u64 0),(.int .u64 0),(.int .u64 0),(.int .u64 0),(.int .u64 0),(.int .u64 0),(.int .u64 0),(.int .u64 0),(.int .i64 0),(.int .i64 0),(.int .i64 0),(.int .i64 0),(.int .i64 0),(.int .i64 0),(.int .i64 0),(.int .i64 0),(.int .i64 0),(.int .i64 0),(.int .u64 0),(.int .u64 0),(.int .u64 0),(.int .u64 0),(.int .u64 0),(.int .i64 0),(.int .i64 0),(.bool false),(.slice none 0 0),(.slice none 0 0),(.slice none 0 0),(.slice none 0 0),(.slice none 0 0),(.slice none 0 0),(.slice none 0 0),(.slice none 0 0),(.slice none 0 0),(.int .i64 0),(.int .i64 0),(.bool false),(.int .u64 0),(.int .u64 0),(.int .u64 0),(.int .u64 0),(.int .u64 0),(.int .u64 0),(.int .u64 0),(.slice none 0 0),(.slice none 0 0),(.slice none 0 0),(.slice none 0 0),(.int .i64 0)] [(0,41),(41,14),(55,1)] ps fun z'=>K (.agg z'.toArray):=Yp (by kernel_rfl) ps K
@[go_sem ↓] theorem Yin (ps:List (Nat×Value))(K:Value→Prop):We prog 196 ps.toArray K=Yz [(.slice none 0 0)] [(0,1)] ps fun z'=>K (.agg z'.toArray):=Yp (by kernel_rfl) ps K
@[go_sem ↓] theorem Yjb (ps:List (Nat×Value))(K:Value→Prop):We prog 220 ps.toArray K=Yz [(.slice none 0 0)] [(0,1)] ps fun z'=>K (.agg z'.toArray):=Yp (by kernel_rfl) ps K
@[go_sem ↓] theorem Yix (ps:List (Nat×Value))(K:Value→Prop):We prog 225 ps.toArray K=Yz [(.int .i64 0),(.int .u64 0)] [(0,1),(1,1)] ps fun z'=>K (.agg z'.toArray):=Yp (by kernel_rfl) ps K
@[go_sem ↓] theorem Yjy (ps:List (Nat×Value))(K:Value→Prop):We prog 239 ps.toArray K=Yz [(.int .u64 0),(.int .u64 0),(.int .u64 0),(.int .u64 0),(.int .u64 0)] [(0,1),(1,1),(2,1),(3,1),(4,1)] ps fun z'=>K (.agg z'.toArray):=Yp (by kernel_rfl) ps K
@[go_sem ↓] theorem Ykd (ps:List (Nat×Value))(K:Value→Prop):We prog 337 ps.toArray K=Yz [(.int .u64 0),(.int .u64 0),(.int .u64 0),(.int .i64 0),(.int .u64 0),(.int .u64 0),(.int .u64 0),(.int .u64 0),(.int .u64 0),(.int .u64 0),(.int .u64 0),(.int .u64 0),(.int .u64 0),(.int .u64 0),(.int .u64 0),(.int .u64 0),(.int .u64 0),(.int .u64 0),(.int .i64 0),(.int .i64 0),(.int .i64 0),(.int .i64 0),(.int .i64 0),(.int .i64 0),(.int .i64 0),(.int .i64 0),(.int .i64 0),(.int .i64 0)] [(0,4),(4,24)] ps fun z'=>K (.agg z'.toArray):=Yp (by kernel_rfl) ps K
@[go_sem ↓] theorem Yjq (ps:List (Nat×Value))(K:Value→Prop):We prog 339 ps.toArray K=Yz [(.int .u64 0),(.int .u64 0),(.int .u64 0),(.int .u64 0),(.int .u64 0),(.int .u64 0),(.int .u64 0),(.int .u64 0),(.int .u64 0),(.int .u64 0),(.int .u64 0),(.int .u64 0),(.int .u64 0),(.int .u64 0),(.int .i64 0),(.int .i64 0),(.int .i64 0),(.int .i64 0),(.int .i64 0),(.int .i64 0),(.int .i64 0),(.int .i64 0),(.int .i64 0),(.int .i64 0)] [(0,24)] ps fun z'=>K (.agg z'.toArray):=Yp (by kernel_rfl) ps K
@[go_sem ↓] theorem Yka (ps:List (Nat×Value))(K:Value→Prop):We prog 349 ps.toArray K=Yz [(.int .u64 0),(.int .u64 0),(.int .u64 0),(.int .i64 0),(.int .i64 0),(.int .i64 0)] [(0,6)] ps fun z'=>K (.agg z'.toArray):=Yp (by kernel_rfl) ps K
@[go_sem ↓] theorem Yjh (ps:List (Nat×Value))(K:Value→Prop):We prog 372 ps.toArray K=Yz [(.int .u64 0),(.int .u64 0),(.int .u64 0)] [(0,1),(1,1),(2,1)] ps fun z'=>K (.agg z'.toArray):=Yp (by kernel_rfl) ps K
@[go_sem ↓] theorem Yiy (ps:List (Nat×Value))(K:Value→Prop):We prog 399 ps.toArray K=Yz [(.int .u64 0),(.int .u64 0),(.int .u64 0),(.int .i64 0),(.int .u64 0),(.int .u64 0),(.int .u64 0),(.int .u64 0),(.int .u64 0),(.int .u64 0),(.int .u64 0),(.int .u64 0),(.int .u64 0),(.int .u64 0),(.int .u64 0),(.int .u64 0),(.int .u64 0),(.int .u64 0),(.int .i64 0),(.int .i64 0),(.int .i64 0),(.int .i64 0),(.int .i64 0),(.int .i64 0),(.int .i64 0),(.int .i64 0),(.int .i64 0),(.int .i64 0),(.int .i64 0)] [(0,4),(4,24),(28,1)] ps fun z'=>K (.agg z'.toArray):=Yp (by kernel_rfl) ps K
@[go_sem ↓] theorem Yjk (ps:List (Nat×Value))(K:Value→Prop):We prog 403 ps.toArray K=Yz [(.int .u64 0),(.int .u64 0)] [(0,1),(1,1)] ps fun z'=>K (.agg z'.toArray):=Yp (by kernel_rfl) ps K
@[go_sem ↓] theorem Yiu (ps:List (Nat×Value))(K:Value→Prop):We prog 427 ps.toArray K=Yz [(.int .u64 0),(.int .u64 0),(.int .u64 0)] [(0,2),(2,1)] ps fun z'=>K (.agg z'.toArray):=Yp (by kernel_rfl) ps K
@[go_sem ↓] theorem Yto (ps:List (Nat×Value))(K:TypeId→List Value→Prop):xBS prog 25 0 ps.toArray K=Yz [] [] ps fun cs=>K 22 cs:=Y0 (by kernel_rfl) ps K
@[go_sem ↓] theorem Yxx (ps:List (Nat×Value))(K:TypeId→List Value→Prop):xBS prog 25 1 ps.toArray K=Yz [(.int .u64 0)] [(0,1)] ps fun cs=>K 22 cs:=Y0 (by kernel_rfl) ps K
@[go_sem ↓] theorem Yuh (ps:List (Nat×Value))(K:TypeId→List Value→Prop):xBS prog 25 2 ps.toArray K=Yz [(.int .u64 0),(.int .u64 0)] [(0,1),(1,1)] ps fun cs=>K 22 cs:=Y0 (by kernel_rfl) ps K
@[go_sem ↓] theorem Yxy (ps:List (Nat×Value))(K:TypeId→List Value→Prop):xBS prog 25 3 ps.toArray K=Yz [(.int .u64 0),(.int .u64 0),(.int .u64 0)] [(0,1),(1,1),(2,1)] ps fun cs=>K 22 cs:=Y0 (by kernel_rfl) ps K
@[go_sem ↓] theorem Ywu (ps:List (Nat×Value))(K:TypeId→List Value→Prop):xBS prog 25 5 ps.toArray K=Yz [(.int .u64 0),(.int .u64 0),(.int .u64 0),(.int .u64 0),(.int .u64 0)] [(0,1),(1,1),(2,1),(3,1),(4,1)] ps fun cs=>K 22 cs:=Y0 (by kernel_rfl) ps K
@[go_sem ↓] theorem Yxg (ps:List (Nat×Value))(K:TypeId→List Value→Prop):xBS prog 26 0 ps.toArray K=Yz [] [] ps fun cs=>K 100 cs:=Y0 (by kernel_rfl) ps K
@[go_sem ↓] theorem Yxb (ps:List (Nat×Value))(K:TypeId→List Value→Prop):xBS prog 26 1 ps.toArray K=Yz [(.int .u64 0),(.int .u64 0),(.int .u64 0),(.int .i64 0),(.int .i64 0),(.int .i64 0)] [(0,6)] ps fun cs=>K 100 cs:=Y0 (by kernel_rfl) ps K
@[go_sem ↓] theorem Yur (ps:List (Nat×Value))(K:TypeId→List Value→Prop):xBS prog 27 0 ps.toArray K=Yz [] [] ps fun cs=>K 3 cs:=Y0 (by kernel_rfl) ps K
@[go_sem ↓] theorem Ywb (ps:List (Nat×Value))(K:TypeId→List Value→Prop):xBS prog 27 1 ps.toArray K=Yz [(.int .i64 0)] [(0,1)] ps fun cs=>K 3 cs:=Y0 (by kernel_rfl) ps K
@[go_sem ↓] theorem Yxs (ps:List (Nat×Value))(K:TypeId→List Value→Prop):xBS prog 27 7 ps.toArray K=Yz [(.int .i64 0),(.int .i64 0),(.int .i64 0),(.int .i64 0),(.int .i64 0),(.int .i64 0),(.int .i64 0)] [(0,1),(1,1),(2,1),(3,1),(4,1),(5,1),(6,1)] ps fun cs=>K 3 cs:=Y0 (by kernel_rfl) ps K
@[go_sem ↓] theorem Ywq (ps:List (Nat×Value))(K:TypeId→List Value→Prop):xBS prog 28 0 ps.toArray K=Yz [] [] ps fun cs=>K 153 cs:=Y0 (by kernel_rfl) ps K
@[go_sem ↓] theorem Ytv (ps:List (Nat×Value))(K:TypeId→List Value→Prop):xBS prog 28 1 ps.toArray K=Yz [(.int .i64 0),(.int .i64 0),(.int .u64 0),(.bool false)] [(0,4)] ps fun cs=>K 153 cs:=Y0 (by kernel_rfl) ps K
@[go_sem ↓] theorem Yvp (ps:List (Nat×Value))(K:TypeId→List Value→Prop):xBS prog 29 0 ps.toArray K=Yz [] [] ps fun cs=>K 156 cs:=Y0 (by kernel_rfl) ps K
@[go_sem ↓] theorem Ytt (ps:List (Nat×Value))(K:TypeId→List Value→Prop):xBS prog 29 1 ps.toArray K=Yz [(.int .i64 0),(.int .i64 0),(.int .u64 0)] [(0,3)] ps fun cs=>K 156 cs:=Y0 (by kernel_rfl) ps K
@[go_sem ↓] theorem Yyf (ps:List (Nat×Value))(K:TypeId→List Value→Prop):xBS prog 30 0 ps.toArray K=Yz [] [] ps fun cs=>K 125 cs:=Y0 (by kernel_rfl) ps K
@[go_sem ↓] theorem Yxj (ps:List (Nat×Value))(K:TypeId→List Value→Prop):xBS prog 31 0 ps.toArray K=Yz [] [] ps fun cs=>K 5 cs:=Y0 (by kernel_rfl) ps K
@[go_sem ↓] theorem Ywg (ps:List (Nat×Value))(K:TypeId→List Value→Prop):xBS prog 31 1 ps.toArray K=Yz [(.int .u8 0)] [(0,1)] ps fun cs=>K 5 cs:=Y0 (by kernel_rfl) ps K
@[go_sem ↓] theorem Yvw (ps:List (Nat×Value))(K:TypeId→List Value→Prop):xBS prog 32 0 ps.toArray K=Yz [] [] ps fun cs=>K 31 cs:=Y0 (by kernel_rfl) ps K
@[go_sem ↓] theorem Yum (ps:List (Nat×Value))(K:TypeId→List Value→Prop):xBS prog 32 1 ps.toArray K=Yz [(.slice none 0 0)] [(0,1)] ps fun cs=>K 31 cs:=Y0 (by kernel_rfl) ps K
@[go_sem ↓] theorem Yyg (ps:List (Nat×Value))(K:TypeId→List Value→Prop):xBS prog 32 2 ps.toArray K=Yz [(.slice none 0 0),(.slice none 0 0)] [(0,1),(1,1)] ps fun cs=>K 31 cs:=Y0 (by kernel_rfl) ps K
@[go_sem ↓] theorem Yoq (ps:List (Nat×Value))(K:TypeId→List Value→Prop):xBS prog 120 2 ps.toArray K=Yz [(.int .i64 0),(.int .u64 0),(.int .i64 0),(.int .u64 0)] [(0,2),(2,2)] ps fun cs=>K 225 cs:=Y0 (by kernel_rfl) ps K
@[go_sem ↓] theorem Ymb (ps:List (Nat×Value))(K:TypeId→List Value→Prop):xBS prog 201 1 ps.toArray K=Yz [(.int .u64 0),(.int .u64 0),(.int .u64 0),(.int .i64 0)] [(0,4)] ps fun cs=>K 98 cs:=Y0 (by kernel_rfl) ps K
@[go_sem ↓] theorem Yko (ps:List (Nat×Value))(K:TypeId→List Value→Prop):xBS prog 316 6 ps.toArray K=Yz [(.bool false),(.bool false),(.bool false),(.bool false),(.bool false),(.bool false)] [(0,1),(1,1),(2,1),(3,1),(4,1),(5,1)] ps fun cs=>K 4 cs:=Y0 (by kernel_rfl) ps K
@[go_sem ↓] theorem Yms (ps:List (Nat×Value))(K:TypeId→List Value→Prop):xBS prog 316 7 ps.toArray K=Yz [(.bool false),(.bool false),(.bool false),(.bool false),(.bool false),(.bool false),(.bool false)] [(0,1),(1,1),(2,1),(3,1),(4,1),(5,1),(6,1)] ps fun cs=>K 4 cs:=Y0 (by kernel_rfl) ps K
@[go_sem ↓] theorem Yiz (ps:List (Nat×Value))(K:TypeId→List Value→Prop):xBS prog 316 12 ps.toArray K=Yz [(.bool false),(.bool false),(.bool false),(.bool false),(.bool false),(.bool false),(.bool false),(.bool false),(.bool false),(.bool false),(.bool false),(.bool false)] [(0,1),(1,1),(2,1),(3,1),(4,1),(5,1),(6,1),(7,1),(8,1),(9,1),(10,1),(11,1)] ps fun cs=>K 4 cs:=Y0 (by kernel_rfl) ps K
@[go_sem ↓] theorem Yqo (ps:List (Nat×Value))(K:TypeId→List Value→Prop):xBS prog 354 2 ps.toArray K=Yz [(.int .i64 0),(.int .i64 0)] [(0,1),(1,1)] ps fun cs=>K 40 cs:=Y0 (by kernel_rfl) ps K
@[go_sem ↓] theorem Ytm (ps:List (Nat×Value))(K:TypeId→List Value→Prop):xBS prog 354 4 ps.toArray K=Yz [(.int .i64 0),(.int .i64 0),(.int .i64 0),(.int .i64 0)] [(0,1),(1,1),(2,1),(3,1)] ps fun cs=>K 40 cs:=Y0 (by kernel_rfl) ps K
@[go_sem ↓] theorem Yut (K:Nat→Prop):xFO prog 24 0 K=K 0:=ZX (by kernel_rfl) K
@[go_sem ↓] theorem Yxc (K:Nat→Prop):xFO prog 24 1 K=K 1:=ZX (by kernel_rfl) K
@[go_sem ↓] theorem Yuy (K:Nat→Prop):xFO prog 24 2 K=K 2:=ZX (by kernel_rfl) K
@[go_sem ↓] theorem Yty (K:Nat→Prop):xFO prog 24 3 K=K 3:=ZX (by kernel_rfl) K
@[go_sem ↓] theorem Yvs (K:Nat→Prop):xFO prog 24 4 K=K 4:=ZX (by kernel_rfl) K
@[go_sem ↓] theorem Yxp (K:Nat→Prop):xFO prog 24 5 K=K 5:=ZX (by kernel_rfl) K
@[go_sem ↓] theorem Yxk (K:Nat→Prop):xFO prog 24 6 K=K 6:=ZX (by kernel_rfl) K
@[go_sem ↓] theorem Ywy (K:Nat→Prop):xFO prog 24 7 K=K 7:=ZX (by kernel_rfl) K
@[go_sem ↓] theorem Yuz (K:Nat→Prop):xFO prog 24 8 K=K 8:=ZX (by kernel_rfl) K
@[go_sem ↓] theorem Yud (K:Nat→Prop):xFO prog 24 9 K=K 9:=ZX (by kernel_rfl) K
@[go_sem ↓] theorem Ysy (K:Nat→Prop):xFO prog 24 10 K=K 10:=ZX (by kernel_rfl) K
@[go_sem ↓] theorem Yml (K:Nat→Prop):xFO prog 24 11 K=K 11:=ZX (by kernel_rfl) K
@[go_sem ↓] theorem Ysn (K:Nat→Prop):xFO prog 24 12 K=K 12:=ZX (by kernel_rfl) K
@[go_sem ↓] theorem Yqx (K:Nat→Prop):xFO prog 24 13 K=K 13:=ZX (by kernel_rfl) K
@[go_sem ↓] theorem Ytc (K:Nat→Prop):xFO prog 24 14 K=K 14:=ZX (by kernel_rfl) K
@[go_sem ↓] theorem Ykl (K:Nat→Prop):xFO prog 24 15 K=K 15:=ZX (by kernel_rfl) K
@[go_sem ↓] theorem Yrf (K:Nat→Prop):xFO prog 24 16 K=K 16:=ZX (by kernel_rfl) K
@[go_sem ↓] theorem Ykp (K:Nat→Prop):xFO prog 24 17 K=K 17:=ZX (by kernel_rfl) K
@[go_sem ↓] theorem Yku (K:Nat→Prop):xFO prog 24 18 K=K 18:=ZX (by kernel_rfl) K
@[go_sem ↓] theorem Yqj (K:Nat→Prop):xFO prog 24 19 K=K 19:=ZX (by kernel_rfl) K
@[go_sem ↓] theorem Ykz (K:Nat→Prop):xFO prog 24 20 K=K 20:=ZX (by kernel_rfl) K
@[go_sem ↓] theorem Ysl (K:Nat→Prop):xFO prog 24 21 K=K 21:=ZX (by kernel_rfl) K
@[go_sem ↓] theorem Ypk (K:Nat→Prop):xFO prog 24 22 K=K 22:=ZX (by kernel_rfl) K
@[go_sem ↓] theorem Yql (K:Nat→Prop):xFO prog 24 23 K=K 23:=ZX (by kernel_rfl) K
@[go_sem ↓] theorem Ywx (K:Nat→Prop):xFO prog 34 0 K=K 0:=ZX (by kernel_rfl) K
@[go_sem ↓] theorem Yub (K:Nat→Prop):xFO prog 34 1 K=K 24:=ZX (by kernel_rfl) K
@[go_sem ↓] theorem Ywa (K:Nat→Prop):xFO prog 34 2 K=K 25:=ZX (by kernel_rfl) K
@[go_sem ↓] theorem Ywl (K:Nat→Prop):xFO prog 34 3 K=K 26:=ZX (by kernel_rfl) K
@[go_sem ↓] theorem Yuk (K:Nat→Prop):xFO prog 34 4 K=K 27:=ZX (by kernel_rfl) K
@[go_sem ↓] theorem Yun (K:Nat→Prop):xFO prog 34 5 K=K 28:=ZX (by kernel_rfl) K
@[go_sem ↓] theorem Yxe (K:Nat→Prop):xFO prog 34 6 K=K 29:=ZX (by kernel_rfl) K
@[go_sem ↓] theorem Ytr (K:Nat→Prop):xFO prog 34 7 K=K 30:=ZX (by kernel_rfl) K
@[go_sem ↓] theorem Yue (K:Nat→Prop):xFO prog 34 8 K=K 31:=ZX (by kernel_rfl) K
@[go_sem ↓] theorem Yug (K:Nat→Prop):xFO prog 34 9 K=K 32:=ZX (by kernel_rfl) K
@[go_sem ↓] theorem Yra (K:Nat→Prop):xFO prog 34 10 K=K 33:=ZX (by kernel_rfl) K
@[go_sem ↓] theorem Ypp (K:Nat→Prop):xFO prog 34 11 K=K 34:=ZX (by kernel_rfl) K
@[go_sem ↓] theorem Yor (K:Nat→Prop):xFO prog 34 12 K=K 35:=ZX (by kernel_rfl) K
@[go_sem ↓] theorem Ysa (K:Nat→Prop):xFO prog 34 13 K=K 36:=ZX (by kernel_rfl) K
@[go_sem ↓] theorem Yny (K:Nat→Prop):xFO prog 34 14 K=K 37:=ZX (by kernel_rfl) K
@[go_sem ↓] theorem Yqc (K:Nat→Prop):xFO prog 34 15 K=K 38:=ZX (by kernel_rfl) K
@[go_sem ↓] theorem Yom (K:Nat→Prop):xFO prog 34 16 K=K 39:=ZX (by kernel_rfl) K
@[go_sem ↓] theorem Yqs (K:Nat→Prop):xFO prog 34 17 K=K 40:=ZX (by kernel_rfl) K
@[go_sem ↓] theorem Ywi (K:Nat→Prop):xFO prog 44 0 K=K 0:=ZX (by kernel_rfl) K
@[go_sem ↓] theorem Yup (K:Nat→Prop):xFO prog 44 1 K=K 1:=ZX (by kernel_rfl) K
@[go_sem ↓] theorem Yws (K:Nat→Prop):xFO prog 44 2 K=K 2:=ZX (by kernel_rfl) K
@[go_sem ↓] theorem Ywt (K:Nat→Prop):xFO prog 44 3 K=K 3:=ZX (by kernel_rfl) K
@[go_sem ↓] theorem Yvn (K:Nat→Prop):xFO prog 44 4 K=K 4:=ZX (by kernel_rfl) K
@[go_sem ↓] theorem Yyh (K:Nat→Prop):xFO prog 44 5 K=K 5:=ZX (by kernel_rfl) K
@[go_sem ↓] theorem Yvy (K:Nat→Prop):xFO prog 44 6 K=K 6:=ZX (by kernel_rfl) K
@[go_sem ↓] theorem Yxd (K:Nat→Prop):xFO prog 44 7 K=K 7:=ZX (by kernel_rfl) K
@[go_sem ↓] theorem Yxh (K:Nat→Prop):xFO prog 44 8 K=K 8:=ZX (by kernel_rfl) K
@[go_sem ↓] theorem Yux (K:Nat→Prop):xFO prog 44 9 K=K 9:=ZX (by kernel_rfl) K
@[go_sem ↓] theorem Yow (K:Nat→Prop):xFO prog 44 10 K=K 10:=ZX (by kernel_rfl) K
@[go_sem ↓] theorem Yru (K:Nat→Prop):xFO prog 44 11 K=K 11:=ZX (by kernel_rfl) K
@[go_sem ↓] theorem Ylf (K:Nat→Prop):xFO prog 44 12 K=K 12:=ZX (by kernel_rfl) K
@[go_sem ↓] theorem Ynn (K:Nat→Prop):xFO prog 44 13 K=K 13:=ZX (by kernel_rfl) K
@[go_sem ↓] theorem Yqe (K:Nat→Prop):xFO prog 44 14 K=K 14:=ZX (by kernel_rfl) K
@[go_sem ↓] theorem Ynb (K:Nat→Prop):xFO prog 44 15 K=K 15:=ZX (by kernel_rfl) K
@[go_sem ↓] theorem Yqv (K:Nat→Prop):xFO prog 44 16 K=K 16:=ZX (by kernel_rfl) K
@[go_sem ↓] theorem Ypr (K:Nat→Prop):xFO prog 44 17 K=K 17:=ZX (by kernel_rfl) K
@[go_sem ↓] theorem Ynj (K:Nat→Prop):xFO prog 44 18 K=K 18:=ZX (by kernel_rfl) K
@[go_sem ↓] theorem Yob (K:Nat→Prop):xFO prog 44 19 K=K 19:=ZX (by kernel_rfl) K
@[go_sem ↓] theorem Ynk (K:Nat→Prop):xFO prog 44 20 K=K 20:=ZX (by kernel_rfl) K
@[go_sem ↓] theorem Yoo (K:Nat→Prop):xFO prog 44 21 K=K 21:=ZX (by kernel_rfl) K
@[go_sem ↓] theorem Ynm (K:Nat→Prop):xFO prog 44 22 K=K 22:=ZX (by kernel_rfl) K
@[go_sem ↓] theorem Yox (K:Nat→Prop):xFO prog 44 23 K=K 23:=ZX (by kernel_rfl) K
@[go_sem ↓] theorem Ywd (K:Nat→Prop):xFO prog 55 1 K=K 1:=ZX (by kernel_rfl) K
@[go_sem ↓] theorem Yua (K:Nat→Prop):xFO prog 55 2 K=K 2:=ZX (by kernel_rfl) K
@[go_sem ↓] theorem Ywh (K:Nat→Prop):xFO prog 55 3 K=K 3:=ZX (by kernel_rfl) K
@[go_sem ↓] theorem Yvb (K:Nat→Prop):xFO prog 55 4 K=K 4:=ZX (by kernel_rfl) K
@[go_sem ↓] theorem Yvk (K:Nat→Prop):xFO prog 55 5 K=K 5:=ZX (by kernel_rfl) K
@[go_sem ↓] theorem Ytu (K:Nat→Prop):xFO prog 55 6 K=K 6:=ZX (by kernel_rfl) K
@[go_sem ↓] theorem Ytw (K:Nat→Prop):xFO prog 55 7 K=K 7:=ZX (by kernel_rfl) K
@[go_sem ↓] theorem Yye (K:Nat→Prop):xFO prog 55 8 K=K 8:=ZX (by kernel_rfl) K
@[go_sem ↓] theorem Ywn (K:Nat→Prop):xFO prog 55 9 K=K 9:=ZX (by kernel_rfl) K
@[go_sem ↓] theorem Ysb (K:Nat→Prop):xFO prog 55 10 K=K 10:=ZX (by kernel_rfl) K
@[go_sem ↓] theorem Yls (K:Nat→Prop):xFO prog 55 11 K=K 11:=ZX (by kernel_rfl) K
@[go_sem ↓] theorem Ynx (K:Nat→Prop):xFO prog 55 12 K=K 12:=ZX (by kernel_rfl) K
@[go_sem ↓] theorem Yss (K:Nat→Prop):xFO prog 55 13 K=K 13:=ZX (by kernel_rfl) K
@[go_sem ↓] theorem Yuv (K:Nat→Prop):xFO prog 98 0 K=K 0:=ZX (by kernel_rfl) K
@[go_sem ↓] theorem Yvj (K:Nat→Prop):xFO prog 98 1 K=K 1:=ZX (by kernel_rfl) K
@[go_sem ↓] theorem Ytx (K:Nat→Prop):xFO prog 98 2 K=K 2:=ZX (by kernel_rfl) K
@[go_sem ↓] theorem Yvv (K:Nat→Prop):xFO prog 98 3 K=K 3:=ZX (by kernel_rfl) K
@[go_sem ↓] theorem Ylu (K:Nat→Prop):xFO prog 100 0 K=K 0:=ZX (by kernel_rfl) K
@[go_sem ↓] theorem Ytl (K:Nat→Prop):xFO prog 100 1 K=K 4:=ZX (by kernel_rfl) K
@[go_sem ↓] theorem Ypi (K:Nat→Prop):xFO prog 100 2 K=K 5:=ZX (by kernel_rfl) K
@[go_sem ↓] theorem Ymw (K:Nat→Prop):xFO prog 103 0 K=K 0:=ZX (by kernel_rfl) K
@[go_sem ↓] theorem Yrt (K:Nat→Prop):xFO prog 103 1 K=K 1:=ZX (by kernel_rfl) K
@[go_sem ↓] theorem Yst (K:Nat→Prop):xFO prog 108 0 K=K 0:=ZX (by kernel_rfl) K
@[go_sem ↓] theorem Ypt (K:Nat→Prop):xFO prog 108 1 K=K 1:=ZX (by kernel_rfl) K
@[go_sem ↓] theorem Yrh (K:Nat→Prop):xFO prog 108 2 K=K 2:=ZX (by kernel_rfl) K
@[go_sem ↓] theorem Ymq (K:Nat→Prop):xFO prog 108 3 K=K 3:=ZX (by kernel_rfl) K
@[go_sem ↓] theorem Ysp (K:Nat→Prop):xFO prog 122 0 K=K 0:=ZX (by kernel_rfl) K
@[go_sem ↓] theorem Ylg (K:Nat→Prop):xFO prog 122 1 K=K 24:=ZX (by kernel_rfl) K
@[go_sem ↓] theorem Ymf (K:Nat→Prop):xFO prog 122 2 K=K 25:=ZX (by kernel_rfl) K
@[go_sem ↓] theorem Ypo (K:Nat→Prop):xFO prog 122 3 K=K 26:=ZX (by kernel_rfl) K
@[go_sem ↓] theorem Ylj (K:Nat→Prop):xFO prog 125 0 K=K 0:=ZX (by kernel_rfl) K
@[go_sem ↓] theorem Ysg (K:Nat→Prop):xFO prog 125 1 K=K 1:=ZX (by kernel_rfl) K
@[go_sem ↓] theorem Yni (K:Nat→Prop):xFO prog 125 2 K=K 2:=ZX (by kernel_rfl) K
@[go_sem ↓] theorem Ynw (K:Nat→Prop):xFO prog 125 3 K=K 26:=ZX (by kernel_rfl) K
@[go_sem ↓] theorem Ytg (K:Nat→Prop):xFO prog 125 4 K=K 27:=ZX (by kernel_rfl) K
@[go_sem ↓] theorem Ysr (K:Nat→Prop):xFO prog 125 5 K=K 28:=ZX (by kernel_rfl) K
@[go_sem ↓] theorem Yrx (K:Nat→Prop):xFO prog 125 6 K=K 29:=ZX (by kernel_rfl) K
@[go_sem ↓] theorem Ytd (K:Nat→Prop):xFO prog 125 7 K=K 30:=ZX (by kernel_rfl) K
@[go_sem ↓] theorem Yro (K:Nat→Prop):xFO prog 125 8 K=K 31:=ZX (by kernel_rfl) K
@[go_sem ↓] theorem Ypx (K:Nat→Prop):xFO prog 125 9 K=K 32:=ZX (by kernel_rfl) K
@[go_sem ↓] theorem Ykw (K:Nat→Prop):xFO prog 127 0 K=K 0:=ZX (by kernel_rfl) K
@[go_sem ↓] theorem Yld (K:Nat→Prop):xFO prog 135 1 K=K 41:=ZX (by kernel_rfl) K
@[go_sem ↓] theorem Yri (K:Nat→Prop):xFO prog 135 2 K=K 55:=ZX (by kernel_rfl) K
@[go_sem ↓] theorem Ysd (K:Nat→Prop):xFO prog 153 0 K=K 0:=ZX (by kernel_rfl) K
@[go_sem ↓] theorem Yol (K:Nat→Prop):xFO prog 153 1 K=K 1:=ZX (by kernel_rfl) K
@[go_sem ↓] theorem Ymc (K:Nat→Prop):xFO prog 153 2 K=K 2:=ZX (by kernel_rfl) K
@[go_sem ↓] theorem Ypn (K:Nat→Prop):xFO prog 153 3 K=K 3:=ZX (by kernel_rfl) K
@[go_sem ↓] theorem Ymp (K:Nat→Prop):xFO prog 156 0 K=K 0:=ZX (by kernel_rfl) K
@[go_sem ↓] theorem Ymx (K:Nat→Prop):xFO prog 156 1 K=K 1:=ZX (by kernel_rfl) K
@[go_sem ↓] theorem Ymg (K:Nat→Prop):xFO prog 156 2 K=K 2:=ZX (by kernel_rfl) K
@[go_sem ↓] theorem Yqf (K:Nat→Prop):xFO prog 162 0 K=K 0:=ZX (by kernel_rfl) K
@[go_sem ↓] theorem Yte (K:Nat→Prop):xFO prog 162 1 K=K 41:=ZX (by kernel_rfl) K
@[go_sem ↓] theorem Ysz (K:Nat→Prop):xFO prog 162 2 K=K 55:=ZX (by kernel_rfl) K
@[go_sem ↓] theorem Yqq (K:Nat→Prop):xFO prog 196 0 K=K 0:=ZX (by kernel_rfl) K
@[go_sem ↓] theorem Ylq (K:Nat→Prop):xFO prog 218 0 K=K 0:=ZX (by kernel_rfl) K
@[go_sem ↓] theorem Yoa (K:Nat→Prop):xFO prog 220 0 K=K 0:=ZX (by kernel_rfl) K
@[go_sem ↓] theorem Ypw (K:Nat→Prop):xFO prog 225 0 K=K 0:=ZX (by kernel_rfl) K
@[go_sem ↓] theorem Ynq (K:Nat→Prop):xFO prog 225 1 K=K 1:=ZX (by kernel_rfl) K
@[go_sem ↓] theorem Yrl (K:Nat→Prop):xFO prog 239 0 K=K 0:=ZX (by kernel_rfl) K
@[go_sem ↓] theorem Ymn (K:Nat→Prop):xFO prog 239 1 K=K 1:=ZX (by kernel_rfl) K
@[go_sem ↓] theorem Yrw (K:Nat→Prop):xFO prog 239 2 K=K 2:=ZX (by kernel_rfl) K
@[go_sem ↓] theorem Yof (K:Nat→Prop):xFO prog 239 3 K=K 3:=ZX (by kernel_rfl) K
@[go_sem ↓] theorem Ypu (K:Nat→Prop):xFO prog 239 4 K=K 4:=ZX (by kernel_rfl) K
@[go_sem ↓] theorem Yrs (K:Nat→Prop):xFO prog 337 0 K=K 0:=ZX (by kernel_rfl) K
@[go_sem ↓] theorem Ysx (K:Nat→Prop):xFO prog 337 1 K=K 4:=ZX (by kernel_rfl) K
@[go_sem ↓] theorem Yqb (K:Nat→Prop):xFO prog 339 0 K=K 0:=ZX (by kernel_rfl) K
@[go_sem ↓] theorem Yrz (K:Nat→Prop):xFO prog 349 0 K=K 0:=ZX (by kernel_rfl) K
@[go_sem ↓] theorem Ypz (K:Nat→Prop):xFO prog 372 0 K=K 0:=ZX (by kernel_rfl) K
@[go_sem ↓] theorem Yta (K:Nat→Prop):xFO prog 372 1 K=K 1:=ZX (by kernel_rfl) K
@[go_sem ↓] theorem Ylm (K:Nat→Prop):xFO prog 372 2 K=K 2:=ZX (by kernel_rfl) K
@[go_sem ↓] theorem Ypc (K:Nat→Prop):xFO prog 399 0 K=K 0:=ZX (by kernel_rfl) K
@[go_sem ↓] theorem Ync (K:Nat→Prop):xFO prog 399 1 K=K 4:=ZX (by kernel_rfl) K
@[go_sem ↓] theorem Yoh (K:Nat→Prop):xFO prog 399 2 K=K 28:=ZX (by kernel_rfl) K
@[go_sem ↓] theorem Ykq (K:Nat→Prop):xFO prog 403 0 K=K 0:=ZX (by kernel_rfl) K
@[go_sem ↓] theorem Ykr (K:Nat→Prop):xFO prog 403 1 K=K 1:=ZX (by kernel_rfl) K
@[go_sem ↓] theorem Ykv (K:Nat→Prop):xFO prog 427 0 K=K 0:=ZX (by kernel_rfl) K
@[go_sem ↓] theorem Yrc (K:Nat→Prop):xFO prog 427 1 K=K 2:=ZX (by kernel_rfl) K
@[go_sem] theorem Yle:tSh prog 25 = .sl 22 1 8:=by kernel_rfl
@[go_sem] theorem Ykt:tSh prog 26 = .sl 100 6 48:=by kernel_rfl
@[go_sem] theorem Zrk:tSh prog 27 = .sl 3 1 8:=by kernel_rfl
@[go_sem] theorem Ysw:tSh prog 28 = .sl 153 4 32:=by kernel_rfl
@[go_sem] theorem Ycu:tSh prog 29 = .sl 156 3 24:=by kernel_rfl
@[go_sem] theorem Yph:tSh prog 30 = .sl 125 33 296:=by kernel_rfl
@[go_sem] theorem Yqm:tSh prog 31 = .sl 5 1 1:=by kernel_rfl
@[go_sem] theorem Yoe:tSh prog 32 = .sl 31 1 24:=by kernel_rfl
@[go_sem] theorem tSh_120:tSh prog 120 = .sl 225 2 16:=by kernel_rfl
@[go_sem] theorem tSh_201:tSh prog 201 = .sl 98 4 32:=by kernel_rfl
@[go_sem] theorem tSh_316:tSh prog 316 = .sl 4 1 1:=by kernel_rfl
@[go_sem] theorem tSh_325:tSh prog 325 = .sl 5 1 1:=by kernel_rfl
@[go_sem] theorem tSh_354:tSh prog 354 = .sl 40 1 8:=by kernel_rfl
@[go_sem ↓] theorem xSlh_27 (a:Option Addr)(n c:Nat)(k:IntKind)(j:Int)(h0:0≤j)(h1:j≤(c:Int))(K:Value→Prop):xSl prog 27 (.slice a n c) none (some (.int k j)) none K=K (.slice a j.toNat c):=Ybw Zrk a n c k j h0 h1 K
@[go_sem ↓] theorem xSlh_29 (a:Option Addr)(n c:Nat)(k:IntKind)(j:Int)(h0:0≤j)(h1:j≤(c:Int))(K:Value→Prop):xSl prog 29 (.slice a n c) none (some (.int k j)) none K=K (.slice a j.toNat c):=Ybw Ycu a n c k j h0 h1 K
@[go_sem ↓] theorem xBeq_25 (x y:Operand)(a:Option Addr)(n c:Nat)(K:Value→Prop):Ur prog .eql 25 x y (.slice a n c) (.slice none 0 0) K=K (.bool a.isNone):=WI Yle x y a n c K
@[go_sem ↓] theorem xBeq_26 (x y:Operand)(a:Option Addr)(n c:Nat)(K:Value→Prop):Ur prog .eql 26 x y (.slice a n c) (.slice none 0 0) K=K (.bool a.isNone):=WI Ykt x y a n c K
@[go_sem ↓] theorem xBeq_27 (x y:Operand)(a:Option Addr)(n c:Nat)(K:Value→Prop):Ur prog .eql 27 x y (.slice a n c) (.slice none 0 0) K=K (.bool a.isNone):=WI Zrk x y a n c K
@[go_sem ↓] theorem xBeq_28 (x y:Operand)(a:Option Addr)(n c:Nat)(K:Value→Prop):Ur prog .eql 28 x y (.slice a n c) (.slice none 0 0) K=K (.bool a.isNone):=WI Ysw x y a n c K
@[go_sem ↓] theorem xBeq_29 (x y:Operand)(a:Option Addr)(n c:Nat)(K:Value→Prop):Ur prog .eql 29 x y (.slice a n c) (.slice none 0 0) K=K (.bool a.isNone):=WI Ycu x y a n c K
@[go_sem ↓] theorem xBeq_30 (x y:Operand)(a:Option Addr)(n c:Nat)(K:Value→Prop):Ur prog .eql 30 x y (.slice a n c) (.slice none 0 0) K=K (.bool a.isNone):=WI Yph x y a n c K
@[go_sem ↓] theorem xBeq_31 (x y:Operand)(a:Option Addr)(n c:Nat)(K:Value→Prop):Ur prog .eql 31 x y (.slice a n c) (.slice none 0 0) K=K (.bool a.isNone):=WI Yqm x y a n c K
@[go_sem ↓] theorem xBeq_32 (x y:Operand)(a:Option Addr)(n c:Nat)(K:Value→Prop):Ur prog .eql 32 x y (.slice a n c) (.slice none 0 0) K=K (.bool a.isNone):=WI Yoe x y a n c K
@[go_sem ↓] theorem Yxa (x y:Operand)(a:Option Addr)(K:Value→Prop):Ur prog .eql 111 x y (.pointer a) (.pointer none) K=K (.bool a.isNone):=Zic (T:=111) (e:=220) (by kernel_rfl) x y a K
@[go_sem ↓] theorem xSlm_27 (a:Option Addr)(n c:Nat)(k l:IntKind)(i j:Int)(h0:0≤i)(h1:i≤j)(h2:j≤(c:Int))(K:Value→Prop):xSl prog 27 (.slice a n c) (some (.int k i)) (some (.int l j)) none K=K (.slice (Jo a c i.toNat 1) (j.toNat-i.toNat) (c-i.toNat)):=Zdi Zrk a n c k l i j h0 h1 h2 K
@[go_sem ↓] theorem xLen_25 (ty:Nat)(a:Option Addr)(n c:Nat)(K:Value→Prop):Zeq prog ty #[25] (.slice a n c) K=K (.int .i64 n):=YL (T:=25) (e:=22) (by kernel_rfl) a n c
@[go_sem ↓] theorem xLen_26 (ty:Nat)(a:Option Addr)(n c:Nat)(K:Value→Prop):Zeq prog ty #[26] (.slice a n c) K=K (.int .i64 n):=YL (T:=26) (e:=100) (by kernel_rfl) a n c
@[go_sem ↓] theorem xLen_27 (ty:Nat)(a:Option Addr)(n c:Nat)(K:Value→Prop):Zeq prog ty #[27] (.slice a n c) K=K (.int .i64 n):=YL (T:=27) (e:=3) (by kernel_rfl) a n c
@[go_sem ↓] theorem xLen_28 (ty:Nat)(a:Option Addr)(n c:Nat)(K:Value→Prop):Zeq prog ty #[28] (.slice a n c) K=K (.int .i64 n):=YL (T:=28) (e:=153) (by kernel_rfl) a n c
@[go_sem ↓] theorem xLen_29 (ty:Nat)(a:Option Addr)(n c:Nat)(K:Value→Prop):Zeq prog ty #[29] (.slice a n c) K=K (.int .i64 n):=YL (T:=29) (e:=156) (by kernel_rfl) a n c
@[go_sem ↓] theorem xLen_30 (ty:Nat)(a:Option Addr)(n c:Nat)(K:Value→Prop):Zeq prog ty #[30] (.slice a n c) K=K (.int .i64 n):=YL (T:=30) (e:=125) (by kernel_rfl) a n c
@[go_sem ↓] theorem xLen_31 (ty:Nat)(a:Option Addr)(n c:Nat)(K:Value→Prop):Zeq prog ty #[31] (.slice a n c) K=K (.int .i64 n):=YL (T:=31) (e:=5) (by kernel_rfl) a n c
@[go_sem ↓] theorem xLen_32 (ty:Nat)(a:Option Addr)(n c:Nat)(K:Value→Prop):Zeq prog ty #[32] (.slice a n c) K=K (.int .i64 n):=YL (T:=32) (e:=31) (by kernel_rfl) a n c
@[go_sem ↓] theorem Yvm (ty:Nat)(a:Option Addr)(n c:Nat)(K:Value→Prop):Zeq prog ty #[120] (.slice a n c) K=K (.int .i64 n):=YL (T:=120) (e:=225) (by kernel_rfl) a n c
@[go_sem ↓] theorem Yul (ty:Nat)(a:Option Addr)(n c:Nat)(K:Value→Prop):Zeq prog ty #[201] (.slice a n c) K=K (.int .i64 n):=YL (T:=201) (e:=98) (by kernel_rfl) a n c
@[go_sem ↓] theorem Ywr (ty:Nat)(a:Option Addr)(n c:Nat)(K:Value→Prop):Zeq prog ty #[316] (.slice a n c) K=K (.int .i64 n):=YL (T:=316) (e:=4) (by kernel_rfl) a n c
@[go_sem ↓] theorem Yuw (ty:Nat)(a:Option Addr)(n c:Nat)(K:Value→Prop):Zeq prog ty #[325] (.slice a n c) K=K (.int .i64 n):=YL (T:=325) (e:=5) (by kernel_rfl) a n c
@[go_sem ↓] theorem Yvc (ty:Nat)(a:Option Addr)(n c:Nat)(K:Value→Prop):Zeq prog ty #[354] (.slice a n c) K=K (.int .i64 n):=YL (T:=354) (e:=40) (by kernel_rfl) a n c
@[go_sem ↓] theorem xBb_4 (x y:Operand)(a b:Bool)(K:Value→Prop):Ur prog .eql 4 x y (.bool a) (.bool b) K=K (.bool (a == b)):=Zis (T:=4) (by kernel_rfl) x y a b K
@[go_sem ↓] theorem Yis (k:IntKind)(n:Int)(K:Value→Prop):Zbr prog 3 22 (.int k n) K=K (.int .u64 (IntKind.u64.wrap n)):=VS (s:=3) (d:=22) (ks:=.i64) (kd:=.u64) (by kernel_rfl) (by kernel_rfl) k n
@[go_sem ↓] theorem Yfl (k:IntKind)(n:Int)(K:Value→Prop):Zbr prog 3 406 (.int k n) K=K (.int .u64 (IntKind.u64.wrap n)):=VS (s:=3) (d:=406) (ks:=.i64) (kd:=.u64) (by kernel_rfl) (by kernel_rfl) k n
@[go_sem ↓] theorem Yrk (k:IntKind)(n:Int)(K:Value→Prop):Zbr prog 5 3 (.int k n) K=K (.int .i64 (IntKind.i64.wrap n)):=VS (s:=5) (d:=3) (ks:=.u8) (kd:=.i64) (by kernel_rfl) (by kernel_rfl) k n
@[go_sem ↓] theorem Yii (k:IntKind)(n:Int)(K:Value→Prop):Zbr prog 22 3 (.int k n) K=K (.int .i64 (IntKind.i64.wrap n)):=VS (s:=22) (d:=3) (ks:=.u64) (kd:=.i64) (by kernel_rfl) (by kernel_rfl) k n
@[go_sem ↓] theorem Ykc (k:IntKind)(n:Int)(K:Value→Prop):Zbr prog 22 5 (.int k n) K=K (.int .u8 (IntKind.u8.wrap n)):=VS (s:=22) (d:=5) (ks:=.u64) (kd:=.u8) (by kernel_rfl) (by kernel_rfl) k n
@[go_sem ↓] theorem Yhu (k:IntKind)(n:Int)(K:Value→Prop):Zbr prog 406 3 (.int k n) K=K (.int .i64 (IntKind.i64.wrap n)):=VS (s:=406) (d:=3) (ks:=.u64) (kd:=.i64) (by kernel_rfl) (by kernel_rfl) k n
theorem ZW:prog.follows .mixedOrders=true:=by kernel_rfl
end Go.X
