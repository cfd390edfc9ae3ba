/- Lemmas and contracts. Conditions: as each says. -/
import Derived.KernelRfl
import Derived.Test.YtpdidilobgimcaaGreatProg
import Derived.Test.YtpdidilobgimcaaGreatQ04
set_option linter.unusedVariables false
set_option linter.unusedSimpArgs false
set_option maxHeartbeats 12800000
set_option maxRecDepth 20000
namespace Go.X
open Go.Proofs Go.Proofs.Tryz
theorem Gt:tI prog 3=some ⟨1,false,[(.int .i64 0)],8⟩:=by kernel_rfl
@[go_sem ↓] theorem xTI_3 (K:TI→Prop):xTI prog 3 K=K ⟨1,false,[(.int .i64 0)],8⟩:=Yn Gt K
theorem tI_4:tI prog 4=some ⟨1,false,[(.bool false)],1⟩:=by kernel_rfl
@[go_sem ↓] theorem xTI_4 (K:TI→Prop):xTI prog 4 K=K ⟨1,false,[(.bool false)],1⟩:=Yn tI_4 K
theorem Wcf:tI prog 5=some ⟨1,false,[(.int .u8 0)],1⟩:=by kernel_rfl
@[go_sem ↓] theorem xTI_5 (K:TI→Prop):xTI prog 5 K=K ⟨1,false,[(.int .u8 0)],1⟩:=Yn Wcf K
theorem tI_9:tI prog 9=some ⟨1,false,[(.string ⟨#[]⟩)],16⟩:=by kernel_rfl
@[go_sem ↓] theorem xTI_9 (K:TI→Prop):xTI prog 9 K=K ⟨1,false,[(.string ⟨#[]⟩)],16⟩:=Yn tI_9 K
theorem VZ:tI prog 22=some ⟨1,false,[(.int .u64 0)],8⟩:=by kernel_rfl
@[go_sem ↓] theorem xTI_22 (K:TI→Prop):xTI prog 22 K=K ⟨1,false,[(.int .u64 0)],8⟩:=Yn VZ K
theorem tI_24:tI prog 24=some ⟨24,true,[(.int .u64 0),(.int .u64 0),(.int .u64 0),(.int .u64 0),(.int .u64 0),(.int .u64 0),(.int .u64 0),(.int .u64 0),(.int .u64 0),(.int .u64 0),(.int .u64 0),(.int .u64 0),(.int .u64 0),(.int .u64 0),(.int .i64 0),(.int .i64 0),(.int .i64 0),(.int .i64 0),(.int .i64 0),(.int .i64 0),(.int .i64 0),(.int .i64 0),(.int .i64 0),(.int .i64 0)],192⟩:=by kernel_rfl
@[go_sem ↓] theorem xTI_24 (K:TI→Prop):xTI prog 24 K=K ⟨24,true,[(.int .u64 0),(.int .u64 0),(.int .u64 0),(.int .u64 0),(.int .u64 0),(.int .u64 0),(.int .u64 0),(.int .u64 0),(.int .u64 0),(.int .u64 0),(.int .u64 0),(.int .u64 0),(.int .u64 0),(.int .u64 0),(.int .i64 0),(.int .i64 0),(.int .i64 0),(.int .i64 0),(.int .i64 0),(.int .i64 0),(.int .i64 0),(.int .i64 0),(.int .i64 0),(.int .i64 0)],192⟩:=Yn tI_24 K
theorem tI_25:tI prog 25=some ⟨1,false,[(.slice none 0 0)],24⟩:=by kernel_rfl
@[go_sem ↓] theorem xTI_25 (K:TI→Prop):xTI prog 25 K=K ⟨1,false,[(.slice none 0 0)],24⟩:=Yn tI_25 K
theorem tI_26:tI prog 26=some ⟨1,false,[(.slice none 0 0)],24⟩:=by kernel_rfl
@[go_sem ↓] theorem xTI_26 (K:TI→Prop):xTI prog 26 K=K ⟨1,false,[(.slice none 0 0)],24⟩:=Yn tI_26 K
theorem tI_27:tI prog 27=some ⟨1,false,[(.slice none 0 0)],24⟩:=by kernel_rfl
@[go_sem ↓] theorem xTI_27 (K:TI→Prop):xTI prog 27 K=K ⟨1,false,[(.slice none 0 0)],24⟩:=Yn tI_27 K
theorem tI_28:tI prog 28=some ⟨1,false,[(.slice none 0 0)],24⟩:=by kernel_rfl
@[go_sem ↓] theorem xTI_28 (K:TI→Prop):xTI prog 28 K=K ⟨1,false,[(.slice none 0 0)],24⟩:=Yn tI_28 K
theorem tI_29:tI prog 29=some ⟨1,false,[(.slice none 0 0)],24⟩:=by kernel_rfl
@[go_sem ↓] theorem xTI_29 (K:TI→Prop):xTI prog 29 K=K ⟨1,false,[(.slice none 0 0)],24⟩:=Yn tI_29 K
theorem tI_30:tI prog 30=some ⟨1,false,[(.slice none 0 0)],24⟩:=by kernel_rfl
@[go_sem ↓] theorem xTI_30 (K:TI→Prop):xTI prog 30 K=K ⟨1,false,[(.slice none 0 0)],24⟩:=Yn tI_30 K
theorem Yii:tI prog 31=some ⟨1,false,[(.slice none 0 0)],24⟩:=by kernel_rfl
@[go_sem ↓] theorem xTI_31 (K:TI→Prop):xTI prog 31 K=K ⟨1,false,[(.slice none 0 0)],24⟩:=Yn Yii K
theorem tI_32:tI prog 32=some ⟨1,false,[(.slice none 0 0)],24⟩:=by kernel_rfl
@[go_sem ↓] theorem xTI_32 (K:TI→Prop):xTI prog 32 K=K ⟨1,false,[(.slice none 0 0)],24⟩:=Yn tI_32 K
theorem tI_34:tI prog 34=some ⟨41,true,[(.int .u64 0),(.int .u64 0),(.int .u64 0),(.int .u64 0),(.int .u64 0),(.int .u64 0),(.int .u64 0),(.int .u64 0),(.int .u64 0),(.int .u64 0),(.int .u64 0),(.int .u64 0),(.int .u64 0),(.int .u64 0),(.int .i64 0),(.int .i64 0),(.int .i64 0),(.int .i64 0),(.int .i64 0),(.int .i64 0),(.int .i64 0),(.int .i64 0),(.int .i64 0),(.int .i64 0),(.int .u64 0),(.int .u64 0),(.int .u64 0),(.int .u64 0),(.int .u64 0),(.int .i64 0),(.int .i64 0),(.bool false),(.slice none 0 0),(.slice none 0 0),(.slice none 0 0),(.slice none 0 0),(.slice none 0 0),(.slice none 0 0),(.slice none 0 0),(.slice none 0 0),(.slice none 0 0)],472⟩:=by kernel_rfl
@[go_sem ↓] theorem xTI_34 (K:TI→Prop):xTI prog 34 K=K ⟨41,true,[(.int .u64 0),(.int .u64 0),(.int .u64 0),(.int .u64 0),(.int .u64 0),(.int .u64 0),(.int .u64 0),(.int .u64 0),(.int .u64 0),(.int .u64 0),(.int .u64 0),(.int .u64 0),(.int .u64 0),(.int .u64 0),(.int .i64 0),(.int .i64 0),(.int .i64 0),(.int .i64 0),(.int .i64 0),(.int .i64 0),(.int .i64 0),(.int .i64 0),(.int .i64 0),(.int .i64 0),(.int .u64 0),(.int .u64 0),(.int .u64 0),(.int .u64 0),(.int .u64 0),(.int .i64 0),(.int .i64 0),(.bool false),(.slice none 0 0),(.slice none 0 0),(.slice none 0 0),(.slice none 0 0),(.slice none 0 0),(.slice none 0 0),(.slice none 0 0),(.slice none 0 0),(.slice none 0 0)],472⟩:=Yn tI_34 K
theorem tI_37:tI prog 37=some ⟨1,false,[.nilFunc],8⟩:=by kernel_rfl
@[go_sem ↓] theorem xTI_37 (K:TI→Prop):xTI prog 37 K=K ⟨1,false,[.nilFunc],8⟩:=Yn tI_37 K
theorem tI_40:tI prog 40=some ⟨1,false,[(.int .i64 0)],8⟩:=by kernel_rfl
@[go_sem ↓] theorem xTI_40 (K:TI→Prop):xTI prog 40 K=K ⟨1,false,[(.int .i64 0)],8⟩:=Yn tI_40 K
theorem tI_44:tI prog 44=some ⟨24,true,[(.int .u64 0),(.int .u64 0),(.int .u64 0),(.int .u64 0),(.int .u64 0),(.int .u64 0),(.int .u64 0),(.int .u64 0),(.int .u64 0),(.int .u64 0),(.int .u64 0),(.int .u64 0),(.int .u64 0),(.int .u64 0),(.int .i64 0),(.int .i64 0),(.int .i64 0),(.int .i64 0),(.int .i64 0),(.int .i64 0),(.int .i64 0),(.int .i64 0),(.int .i64 0),(.int .i64 0)],192⟩:=by kernel_rfl
@[go_sem ↓] theorem xTI_44 (K:TI→Prop):xTI prog 44 K=K ⟨24,true,[(.int .u64 0),(.int .u64 0),(.int .u64 0),(.int .u64 0),(.int .u64 0),(.int .u64 0),(.int .u64 0),(.int .u64 0),(.int .u64 0),(.int .u64 0),(.int .u64 0),(.int .u64 0),(.int .u64 0),(.int .u64 0),(.int .i64 0),(.int .i64 0),(.int .i64 0),(.int .i64 0),(.int .i64 0),(.int .i64 0),(.int .i64 0),(.int .i64 0),(.int .i64 0),(.int .i64 0)],192⟩:=Yn tI_44 K
theorem tI_45:tI prog 45=some ⟨1,false,[(.slice none 0 0)],24⟩:=by kernel_rfl
@[go_sem ↓] theorem xTI_45 (K:TI→Prop):xTI prog 45 K=K ⟨1,false,[(.slice none 0 0)],24⟩:=Yn tI_45 K
theorem tI_46:tI prog 46=some ⟨1,false,[(.slice none 0 0)],24⟩:=by kernel_rfl
@[go_sem ↓] theorem xTI_46 (K:TI→Prop):xTI prog 46 K=K ⟨1,false,[(.slice none 0 0)],24⟩:=Yn tI_46 K
theorem tI_47:tI prog 47=some ⟨1,false,[(.slice none 0 0)],24⟩:=by kernel_rfl
@[go_sem ↓] theorem xTI_47 (K:TI→Prop):xTI prog 47 K=K ⟨1,false,[(.slice none 0 0)],24⟩:=Yn tI_47 K
theorem tI_48:tI prog 48=some ⟨1,false,[(.slice none 0 0)],24⟩:=by kernel_rfl
@[go_sem ↓] theorem xTI_48 (K:TI→Prop):xTI prog 48 K=K ⟨1,false,[(.slice none 0 0)],24⟩:=Yn tI_48 K
theorem tI_50:tI prog 50=some ⟨41,true,[(.int .u64 0),(.int .u64 0),(.int .u64 0),(.int .u64 0),(.int .u64 0),(.int .u64 0),(.int .u64 0),(.int .u64 0),(.int .u64 0),(.int .u64 0),(.int .u64 0),(.int .u64 0),(.int .u64 0),(.int .u64 0),(.int .i64 0),(.int .i64 0),(.int .i64 0),(.int .i64 0),(.int .i64 0),(.int .i64 0),(.int .i64 0),(.int .i64 0),(.int .i64 0),(.int .i64 0),(.int .u64 0),(.int .u64 0),(.int .u64 0),(.int .u64 0),(.int .u64 0),(.int .i64 0),(.int .i64 0),(.bool false),(.slice none 0 0),(.slice none 0 0),(.slice none 0 0),(.slice none 0 0),(.slice none 0 0),(.slice none 0 0),(.slice none 0 0),(.slice none 0 0),(.slice none 0 0)],472⟩:=by kernel_rfl
@[go_sem ↓] theorem xTI_50 (K:TI→Prop):xTI prog 50 K=K ⟨41,true,[(.int .u64 0),(.int .u64 0),(.int .u64 0),(.int .u64 0),(.int .u64 0),(.int .u64 0),(.int .u64 0),(.int .u64 0),(.int .u64 0),(.int .u64 0),(.int .u64 0),(.int .u64 0),(.int .u64 0),(.int .u64 0),(.int .i64 0),(.int .i64 0),(.int .i64 0),(.int .i64 0),(.int .i64 0),(.int .i64 0),(.int .i64 0),(.int .i64 0),(.int .i64 0),(.int .i64 0),(.int .u64 0),(.int .u64 0),(.int .u64 0),(.int .u64 0),(.int .u64 0),(.int .i64 0),(.int .i64 0),(.bool false),(.slice none 0 0),(.slice none 0 0),(.slice none 0 0),(.slice none 0 0),(.slice none 0 0),(.slice none 0 0),(.slice none 0 0),(.slice none 0 0),(.slice none 0 0)],472⟩:=Yn tI_50 K
theorem tI_55:tI prog 55=some ⟨14,true,[(.int .i64 0),(.int .i64 0),(.bool false),(.int .u64 0),(.int .u64 0),(.int .u64 0),(.int .u64 0),(.int .u64 0),(.int .u64 0),(.int .u64 0),(.slice none 0 0),(.slice none 0 0),(.slice none 0 0),(.slice none 0 0)],176⟩:=by kernel_rfl
@[go_sem ↓] theorem xTI_55 (K:TI→Prop):xTI prog 55 K=K ⟨14,true,[(.int .i64 0),(.int .i64 0),(.bool false),(.int .u64 0),(.int .u64 0),(.int .u64 0),(.int .u64 0),(.int .u64 0),(.int .u64 0),(.int .u64 0),(.slice none 0 0),(.slice none 0 0),(.slice none 0 0),(.slice none 0 0)],176⟩:=Yn tI_55 K
theorem tI_60:tI prog 60=some ⟨14,true,[(.int .i64 0),(.int .i64 0),(.bool false),(.int .u64 0),(.int .u64 0),(.int .u64 0),(.int .u64 0),(.int .u64 0),(.int .u64 0),(.int .u64 0),(.slice none 0 0),(.slice none 0 0),(.slice none 0 0),(.slice none 0 0)],176⟩:=by kernel_rfl
@[go_sem ↓] theorem xTI_60 (K:TI→Prop):xTI prog 60 K=K ⟨14,true,[(.int .i64 0),(.int .i64 0),(.bool false),(.int .u64 0),(.int .u64 0),(.int .u64 0),(.int .u64 0),(.int .u64 0),(.int .u64 0),(.int .u64 0),(.slice none 0 0),(.slice none 0 0),(.slice none 0 0),(.slice none 0 0)],176⟩:=Yn tI_60 K
theorem Yiz:tI prog 98=some ⟨4,true,[(.int .u64 0),(.int .u64 0),(.int .u64 0),(.int .i64 0)],32⟩:=by kernel_rfl
@[go_sem ↓] theorem xTI_98 (K:TI→Prop):xTI prog 98 K=K ⟨4,true,[(.int .u64 0),(.int .u64 0),(.int .u64 0),(.int .i64 0)],32⟩:=Yn Yiz K
theorem Znn:tI prog 100=some ⟨6,true,[(.int .u64 0),(.int .u64 0),(.int .u64 0),(.int .i64 0),(.int .i64 0),(.int .i64 0)],48⟩:=by kernel_rfl
@[go_sem ↓] theorem xTI_100 (K:TI→Prop):xTI prog 100 K=K ⟨6,true,[(.int .u64 0),(.int .u64 0),(.int .u64 0),(.int .i64 0),(.int .i64 0),(.int .i64 0)],48⟩:=Yn Znn K
theorem Yps:tI prog 108=some ⟨4,true,[(.int .u64 0),(.int .u64 0),(.int .u64 0),(.int .i64 0)],32⟩:=by kernel_rfl
@[go_sem ↓] theorem xTI_108 (K:TI→Prop):xTI prog 108 K=K ⟨4,true,[(.int .u64 0),(.int .u64 0),(.int .u64 0),(.int .i64 0)],32⟩:=Yn Yps K
theorem Yqq:tI prog 120=some ⟨1,false,[(.slice none 0 0)],24⟩:=by kernel_rfl
@[go_sem ↓] theorem xTI_120 (K:TI→Prop):xTI prog 120 K=K ⟨1,false,[(.slice none 0 0)],24⟩:=Yn Yqq K
theorem Ysc:tI prog 122=some ⟨27,true,[(.int .u64 0),(.int .u64 0),(.int .u64 0),(.int .u64 0),(.int .u64 0),(.int .u64 0),(.int .u64 0),(.int .u64 0),(.int .u64 0),(.int .u64 0),(.int .u64 0),(.int .u64 0),(.int .u64 0),(.int .u64 0),(.int .i64 0),(.int .i64 0),(.int .i64 0),(.int .i64 0),(.int .i64 0),(.int .i64 0),(.int .i64 0),(.int .i64 0),(.int .i64 0),(.int .i64 0),(.int .u64 0),(.slice none 0 0),(.slice none 0 0)],248⟩:=by kernel_rfl
@[go_sem ↓] theorem xTI_122 (K:TI→Prop):xTI prog 122 K=K ⟨27,true,[(.int .u64 0),(.int .u64 0),(.int .u64 0),(.int .u64 0),(.int .u64 0),(.int .u64 0),(.int .u64 0),(.int .u64 0),(.int .u64 0),(.int .u64 0),(.int .u64 0),(.int .u64 0),(.int .u64 0),(.int .u64 0),(.int .i64 0),(.int .i64 0),(.int .i64 0),(.int .i64 0),(.int .i64 0),(.int .i64 0),(.int .i64 0),(.int .i64 0),(.int .i64 0),(.int .i64 0),(.int .u64 0),(.slice none 0 0),(.slice none 0 0)],248⟩:=Yn Ysc K
theorem Ygk:tI prog 125=some ⟨33,true,[(.int .i64 0),(.int .i64 0),(.int .u64 0),(.int .u64 0),(.int .u64 0),(.int .u64 0),(.int .u64 0),(.int .u64 0),(.int .u64 0),(.int .u64 0),(.int .u64 0),(.int .u64 0),(.int .u64 0),(.int .u64 0),(.int .u64 0),(.int .u64 0),(.int .i64 0),(.int .i64 0),(.int .i64 0),(.int .i64 0),(.int .i64 0),(.int .i64 0),(.int .i64 0),(.int .i64 0),(.int .i64 0),(.int .i64 0),(.int .i64 0),(.int .u64 0),(.int .i64 0),(.int .i64 0),(.int .i64 0),(.slice none 0 0),(.slice none 0 0)],296⟩:=by kernel_rfl
@[go_sem ↓] theorem xTI_125 (K:TI→Prop):xTI prog 125 K=K ⟨33,true,[(.int .i64 0),(.int .i64 0),(.int .u64 0),(.int .u64 0),(.int .u64 0),(.int .u64 0),(.int .u64 0),(.int .u64 0),(.int .u64 0),(.int .u64 0),(.int .u64 0),(.int .u64 0),(.int .u64 0),(.int .u64 0),(.int .u64 0),(.int .u64 0),(.int .i64 0),(.int .i64 0),(.int .i64 0),(.int .i64 0),(.int .i64 0),(.int .i64 0),(.int .i64 0),(.int .i64 0),(.int .i64 0),(.int .i64 0),(.int .i64 0),(.int .u64 0),(.int .i64 0),(.int .i64 0),(.int .i64 0),(.slice none 0 0),(.slice none 0 0)],296⟩:=Yn Ygk K
theorem Ytj:tI prog 127=some ⟨41,true,[(.int .u64 0),(.int .u64 0),(.int .u64 0),(.int .u64 0),(.int .u64 0),(.int .u64 0),(.int .u64 0),(.int .u64 0),(.int .u64 0),(.int .u64 0),(.int .u64 0),(.int .u64 0),(.int .u64 0),(.int .u64 0),(.int .i64 0),(.int .i64 0),(.int .i64 0),(.int .i64 0),(.int .i64 0),(.int .i64 0),(.int .i64 0),(.int .i64 0),(.int .i64 0),(.int .i64 0),(.int .u64 0),(.int .u64 0),(.int .u64 0),(.int .u64 0),(.int .u64 0),(.int .i64 0),(.int .i64 0),(.bool false),(.slice none 0 0),(.slice none 0 0),(.slice none 0 0),(.slice none 0 0),(.slice none 0 0),(.slice none 0 0),(.slice none 0 0),(.slice none 0 0),(.slice none 0 0)],472⟩:=by kernel_rfl
@[go_sem ↓] theorem xTI_127 (K:TI→Prop):xTI prog 127 K=K ⟨41,true,[(.int .u64 0),(.int .u64 0),(.int .u64 0),(.int .u64 0),(.int .u64 0),(.int .u64 0),(.int .u64 0),(.int .u64 0),(.int .u64 0),(.int .u64 0),(.int .u64 0),(.int .u64 0),(.int .u64 0),(.int .u64 0),(.int .i64 0),(.int .i64 0),(.int .i64 0),(.int .i64 0),(.int .i64 0),(.int .i64 0),(.int .i64 0),(.int .i64 0),(.int .i64 0),(.int .i64 0),(.int .u64 0),(.int .u64 0),(.int .u64 0),(.int .u64 0),(.int .u64 0),(.int .i64 0),(.int .i64 0),(.bool false),(.slice none 0 0),(.slice none 0 0),(.slice none 0 0),(.slice none 0 0),(.slice none 0 0),(.slice none 0 0),(.slice none 0 0),(.slice none 0 0),(.slice none 0 0)],472⟩:=Yn Ytj K
theorem Ygi:tI prog 137=some ⟨6,true,[(.int .u64 0),(.int .u64 0),(.int .u64 0),(.int .i64 0),(.int .i64 0),(.int .i64 0)],48⟩:=by kernel_rfl
@[go_sem ↓] theorem xTI_137 (K:TI→Prop):xTI prog 137 K=K ⟨6,true,[(.int .u64 0),(.int .u64 0),(.int .u64 0),(.int .i64 0),(.int .i64 0),(.int .i64 0)],48⟩:=Yn Ygi K
theorem Zeu:tI prog 153=some ⟨4,true,[(.int .i64 0),(.int .i64 0),(.int .u64 0),(.bool false)],32⟩:=by kernel_rfl
@[go_sem ↓] theorem xTI_153 (K:TI→Prop):xTI prog 153 K=K ⟨4,true,[(.int .i64 0),(.int .i64 0),(.int .u64 0),(.bool false)],32⟩:=Yn Zeu K
theorem UO:tI prog 156=some ⟨3,true,[(.int .i64 0),(.int .i64 0),(.int .u64 0)],24⟩:=by kernel_rfl
@[go_sem ↓] theorem xTI_156 (K:TI→Prop):xTI prog 156 K=K ⟨3,true,[(.int .i64 0),(.int .i64 0),(.int .u64 0)],24⟩:=Yn UO K
theorem Ypn:tI prog 160=some ⟨1,false,[(.pointer none)],8⟩:=by kernel_rfl
@[go_sem ↓] theorem xTI_160 (K:TI→Prop):xTI prog 160 K=K ⟨1,false,[(.pointer none)],8⟩:=Yn Ypn K
theorem Yyx:tI prog 171=some ⟨9,true,[(.int .u64 0),(.int .u64 0),(.int .u64 0),(.int .u64 0),(.int .u64 0),(.slice none 0 0),(.slice none 0 0),(.slice none 0 0),(.slice none 0 0)],136⟩:=by kernel_rfl
@[go_sem ↓] theorem xTI_171 (K:TI→Prop):xTI prog 171 K=K ⟨9,true,[(.int .u64 0),(.int .u64 0),(.int .u64 0),(.int .u64 0),(.int .u64 0),(.slice none 0 0),(.slice none 0 0),(.slice none 0 0),(.slice none 0 0)],136⟩:=Yn Yyx K
theorem Yfw:tI prog 175=some ⟨33,true,[(.int .i64 0),(.int .i64 0),(.int .u64 0),(.int .u64 0),(.int .u64 0),(.int .u64 0),(.int .u64 0),(.int .u64 0),(.int .u64 0),(.int .u64 0),(.int .u64 0),(.int .u64 0),(.int .u64 0),(.int .u64 0),(.int .u64 0),(.int .u64 0),(.int .i64 0),(.int .i64 0),(.int .i64 0),(.int .i64 0),(.int .i64 0),(.int .i64 0),(.int .i64 0),(.int .i64 0),(.int .i64 0),(.int .i64 0),(.int .i64 0),(.int .u64 0),(.int .i64 0),(.int .i64 0),(.int .i64 0),(.slice none 0 0),(.slice none 0 0)],296⟩:=by kernel_rfl
@[go_sem ↓] theorem xTI_175 (K:TI→Prop):xTI prog 175 K=K ⟨33,true,[(.int .i64 0),(.int .i64 0),(.int .u64 0),(.int .u64 0),(.int .u64 0),(.int .u64 0),(.int .u64 0),(.int .u64 0),(.int .u64 0),(.int .u64 0),(.int .u64 0),(.int .u64 0),(.int .u64 0),(.int .u64 0),(.int .u64 0),(.int .u64 0),(.int .i64 0),(.int .i64 0),(.int .i64 0),(.int .i64 0),(.int .i64 0),(.int .i64 0),(.int .i64 0),(.int .i64 0),(.int .i64 0),(.int .i64 0),(.int .i64 0),(.int .u64 0),(.int .i64 0),(.int .i64 0),(.int .i64 0),(.slice none 0 0),(.slice none 0 0)],296⟩:=Yn Yfw K
theorem Yzg:tI prog 182=some ⟨96,true,[(.int .u64 0),(.int .u64 0),(.int .u64 0),(.int .u64 0),(.int .u64 0),(.int .u64 0),(.int .u64 0),(.int .u64 0),(.int .u64 0),(.int .u64 0),(.int .u64 0),(.int .u64 0),(.int .u64 0),(.int .u64 0),(.int .i64 0),(.int .i64 0),(.int .i64 0),(.int .i64 0),(.int .i64 0),(.int .i64 0),(.int .i64 0),(.int .i64 0),(.int .i64 0),(.int .i64 0),(.int .u64 0),(.int .u64 0),(.int .u64 0),(.int .u64 0),(.int .u64 0),(.int .i64 0),(.int .i64 0),(.bool false),(.slice none 0 0),(.slice none 0 0),(.slice none 0 0),(.slice none 0 0),(.slice none 0 0),(.slice none 0 0),(.slice none 0 0),(.slice none 0 0),(.slice none 0 0),(.int .u64 0),(.int .u64 0),(.int .u64 0),(.int .u64 0),(.int .u64 0),(.int .u64 0),(.int .u64 0),(.int .u64 0),(.int .u64 0),(.int .u64 0),(.int .u64 0),(.int .u64 0),(.int .u64 0),(.int .u64 0),(.int .i64 0),(.int .i64 0),(.int .i64 0),(.int .i64 0),(.int .i64 0),(.int .i64 0),(.int .i64 0),(.int .i64 0),(.int .i64 0),(.int .i64 0),(.int .u64 0),(.int .u64 0),(.int .u64 0),(.int .u64 0),(.int .u64 0),(.int .i64 0),(.int .i64 0),(.bool false),(.slice none 0 0),(.slice none 0 0),(.slice none 0 0),(.slice none 0 0),(.slice none 0 0),(.slice none 0 0),(.slice none 0 0),(.slice none 0 0),(.slice none 0 0),(.int .i64 0),(.int .i64 0),(.bool false),(.int .u64 0),(.int .u64 0),(.int .u64 0),(.int .u64 0),(.int .u64 0),(.int .u64 0),(.int .u64 0),(.slice none 0 0),(.slice none 0 0),(.slice none 0 0),(.slice none 0 0)],1120⟩:=by kernel_rfl
@[go_sem ↓] theorem xTI_182 (K:TI→Prop):xTI prog 182 K=K ⟨96,true,[(.int .u64 0),(.int .u64 0),(.int .u64 0),(.int .u64 0),(.int .u64 0),(.int .u64 0),(.int .u64 0),(.int .u64 0),(.int .u64 0),(.int .u64 0),(.int .u64 0),(.int .u64 0),(.int .u64 0),(.int .u64 0),(.int .i64 0),(.int .i64 0),(.int .i64 0),(.int .i64 0),(.int .i64 0),(.int .i64 0),(.int .i64 0),(.int .i64 0),(.int .i64 0),(.int .i64 0),(.int .u64 0),(.int .u64 0),(.int .u64 0),(.int .u64 0),(.int .u64 0),(.int .i64 0),(.int .i64 0),(.bool false),(.slice none 0 0),(.slice none 0 0),(.slice none 0 0),(.slice none 0 0),(.slice none 0 0),(.slice none 0 0),(.slice none 0 0),(.slice none 0 0),(.slice none 0 0),(.int .u64 0),(.int .u64 0),(.int .u64 0),(.int .u64 0),(.int .u64 0),(.int .u64 0),(.int .u64 0),(.int .u64 0),(.int .u64 0),(.int .u64 0),(.int .u64 0),(.int .u64 0),(.int .u64 0),(.int .u64 0),(.int .i64 0),(.int .i64 0),(.int .i64 0),(.int .i64 0),(.int .i64 0),(.int .i64 0),(.int .i64 0),(.int .i64 0),(.int .i64 0),(.int .i64 0),(.int .u64 0),(.int .u64 0),(.int .u64 0),(.int .u64 0),(.int .u64 0),(.int .i64 0),(.int .i64 0),(.bool false),(.slice none 0 0),(.slice none 0 0),(.slice none 0 0),(.slice none 0 0),(.slice none 0 0),(.slice none 0 0),(.slice none 0 0),(.slice none 0 0),(.slice none 0 0),(.int .i64 0),(.int .i64 0),(.bool false),(.int .u64 0),(.int .u64 0),(.int .u64 0),(.int .u64 0),(.int .u64 0),(.int .u64 0),(.int .u64 0),(.slice none 0 0),(.slice none 0 0),(.slice none 0 0),(.slice none 0 0)],1120⟩:=Yn Yzg K
theorem Ysf:tI prog 187=some ⟨8,true,[(.string ⟨#[]⟩),(.string ⟨#[]⟩),(.string ⟨#[]⟩),(.string ⟨#[]⟩),(.string ⟨#[]⟩),(.string ⟨#[]⟩),(.string ⟨#[]⟩),(.string ⟨#[]⟩)],128⟩:=by kernel_rfl
@[go_sem ↓] theorem xTI_187 (K:TI→Prop):xTI prog 187 K=K ⟨8,true,[(.string ⟨#[]⟩),(.string ⟨#[]⟩),(.string ⟨#[]⟩),(.string ⟨#[]⟩),(.string ⟨#[]⟩),(.string ⟨#[]⟩),(.string ⟨#[]⟩),(.string ⟨#[]⟩)],128⟩:=Yn Ysf K
theorem Yub:tI prog 196=some ⟨1,true,[(.slice none 0 0)],24⟩:=by kernel_rfl
@[go_sem ↓] theorem xTI_196 (K:TI→Prop):xTI prog 196 K=K ⟨1,true,[(.slice none 0 0)],24⟩:=Yn Yub K
theorem Ysd:tI prog 201=some ⟨1,false,[(.slice none 0 0)],24⟩:=by kernel_rfl
@[go_sem ↓] theorem xTI_201 (K:TI→Prop):xTI prog 201 K=K ⟨1,false,[(.slice none 0 0)],24⟩:=Yn Ysd K
theorem Yst:tI prog 225=some ⟨2,true,[(.int .i64 0),(.int .u64 0)],16⟩:=by kernel_rfl
@[go_sem ↓] theorem xTI_225 (K:TI→Prop):xTI prog 225 K=K ⟨2,true,[(.int .i64 0),(.int .u64 0)],16⟩:=Yn Yst K
theorem Yvl:tI prog 239=some ⟨5,true,[(.int .u64 0),(.int .u64 0),(.int .u64 0),(.int .u64 0),(.int .u64 0)],40⟩:=by kernel_rfl
@[go_sem ↓] theorem xTI_239 (K:TI→Prop):xTI prog 239 K=K ⟨5,true,[(.int .u64 0),(.int .u64 0),(.int .u64 0),(.int .u64 0),(.int .u64 0)],40⟩:=Yn Yvl K
theorem Zeb:tI prog 249=some ⟨4,true,[(.int .i64 0),(.int .i64 0),(.int .u64 0),(.bool false)],32⟩:=by kernel_rfl
@[go_sem ↓] theorem xTI_249 (K:TI→Prop):xTI prog 249 K=K ⟨4,true,[(.int .i64 0),(.int .i64 0),(.int .u64 0),(.bool false)],32⟩:=Yn Zeb K
theorem Yhp:tI prog 250=some ⟨3,true,[(.int .i64 0),(.int .i64 0),(.int .u64 0)],24⟩:=by kernel_rfl
@[go_sem ↓] theorem xTI_250 (K:TI→Prop):xTI prog 250 K=K ⟨3,true,[(.int .i64 0),(.int .i64 0),(.int .u64 0)],24⟩:=Yn Yhp K
theorem Yti:tI prog 339=some ⟨24,true,[(.int .u64 0),(.int .u64 0),(.int .u64 0),(.int .u64 0),(.int .u64 0),(.int .u64 0),(.int .u64 0),(.int .u64 0),(.int .u64 0),(.int .u64 0),(.int .u64 0),(.int .u64 0),(.int .u64 0),(.int .u64 0),(.int .i64 0),(.int .i64 0),(.int .i64 0),(.int .i64 0),(.int .i64 0),(.int .i64 0),(.int .i64 0),(.int .i64 0),(.int .i64 0),(.int .i64 0)],192⟩:=by kernel_rfl
@[go_sem ↓] theorem xTI_339 (K:TI→Prop):xTI prog 339 K=K ⟨24,true,[(.int .u64 0),(.int .u64 0),(.int .u64 0),(.int .u64 0),(.int .u64 0),(.int .u64 0),(.int .u64 0),(.int .u64 0),(.int .u64 0),(.int .u64 0),(.int .u64 0),(.int .u64 0),(.int .u64 0),(.int .u64 0),(.int .i64 0),(.int .i64 0),(.int .i64 0),(.int .i64 0),(.int .i64 0),(.int .i64 0),(.int .i64 0),(.int .i64 0),(.int .i64 0),(.int .i64 0)],192⟩:=Yn Yti K
theorem Yxv:tI prog 372=some ⟨3,true,[(.int .u64 0),(.int .u64 0),(.int .u64 0)],24⟩:=by kernel_rfl
@[go_sem ↓] theorem xTI_372 (K:TI→Prop):xTI prog 372 K=K ⟨3,true,[(.int .u64 0),(.int .u64 0),(.int .u64 0)],24⟩:=Yn Yxv K
theorem Yrw:tI prog 403=some ⟨2,true,[(.int .u64 0),(.int .u64 0)],16⟩:=by kernel_rfl
@[go_sem ↓] theorem xTI_403 (K:TI→Prop):xTI prog 403 K=K ⟨2,true,[(.int .u64 0),(.int .u64 0)],16⟩:=Yn Yrw K
@[go_sem ↓] theorem Wad (ps:List (Nat×Value))(K:Value→Prop):Y2 prog 24 ps.toArray K=Ys [(.int .u64 0),(.int .u64 0),(.int .u64 0),(.int .u64 0),(.int .u64 0),(.int .u64 0),(.int .u64 0),(.int .u64 0),(.int .u64 0),(.int .u64 0),(.int .u64 0),(.int .u64 0),(.int .u64 0),(.int .u64 0),(.int .i64 0),(.int .i64 0),(.int .i64 0),(.int .i64 0),(.int .i64 0),(.int .i64 0),(.int .i64 0),(.int .i64 0),(.int .i64 0),(.int .i64 0)] [(0,1),(1,1),(2,1),(3,1),(4,1),(5,1),(6,1),(7,1),(8,1),(9,1),(10,1),(11,1),(12,1),(13,1),(14,1),(15,1),(16,1),(17,1),(18,1),(19,1),(20,1),(21,1),(22,1),(23,1)] ps fun z'=>K (.agg z'.toArray):=Yk (by kernel_rfl) ps K
@[go_sem ↓] theorem Ypf (ps:List (Nat×Value))(K:Value→Prop):Y2 prog 34 ps.toArray K=Ys [(.int .u64 0),(.int .u64 0),(.int .u64 0),(.int .u64 0),(.int .u64 0),(.int .u64 0),(.int .u64 0),(.int .u64 0),(.int .u64 0),(.int .u64 0),(.int .u64 0),(.int .u64 0),(.int .u64 0),(.int .u64 0),(.int .i64 0),(.int .i64 0),(.int .i64 0),(.int .i64 0),(.int .i64 0),(.int .i64 0),(.int .i64 0),(.int .i64 0),(.int .i64 0),(.int .i64 0),(.int .u64 0),(.int .u64 0),(.int .u64 0),(.int .u64 0),(.int .u64 0),(.int .i64 0),(.int .i64 0),(.bool false),(.slice none 0 0),(.slice none 0 0),(.slice none 0 0),(.slice none 0 0),(.slice none 0 0),(.slice none 0 0),(.slice none 0 0),(.slice none 0 0),(.slice none 0 0)] [(0,24),(24,1),(25,1),(26,1),(27,1),(28,1),(29,1),(30,1),(31,1),(32,1),(33,1),(34,1),(35,1),(36,1),(37,1),(38,1),(39,1),(40,1)] ps fun z'=>K (.agg z'.toArray):=Yk (by kernel_rfl) ps K
@[go_sem ↓] theorem Ypp (ps:List (Nat×Value))(K:Value→Prop):Y2 prog 44 ps.toArray K=Ys [(.int .u64 0),(.int .u64 0),(.int .u64 0),(.int .u64 0),(.int .u64 0),(.int .u64 0),(.int .u64 0),(.int .u64 0),(.int .u64 0),(.int .u64 0),(.int .u64 0),(.int .u64 0),(.int .u64 0),(.int .u64 0),(.int .i64 0),(.int .i64 0),(.int .i64 0),(.int .i64 0),(.int .i64 0),(.int .i64 0),(.int .i64 0),(.int .i64 0),(.int .i64 0),(.int .i64 0)] [(0,1),(1,1),(2,1),(3,1),(4,1),(5,1),(6,1),(7,1),(8,1),(9,1),(10,1),(11,1),(12,1),(13,1),(14,1),(15,1),(16,1),(17,1),(18,1),(19,1),(20,1),(21,1),(22,1),(23,1)] ps fun z'=>K (.agg z'.toArray):=Yk (by kernel_rfl) ps K
@[go_sem ↓] theorem Yug (ps:List (Nat×Value))(K:Value→Prop):Y2 prog 50 ps.toArray K=Ys [(.int .u64 0),(.int .u64 0),(.int .u64 0),(.int .u64 0),(.int .u64 0),(.int .u64 0),(.int .u64 0),(.int .u64 0),(.int .u64 0),(.int .u64 0),(.int .u64 0),(.int .u64 0),(.int .u64 0),(.int .u64 0),(.int .i64 0),(.int .i64 0),(.int .i64 0),(.int .i64 0),(.int .i64 0),(.int .i64 0),(.int .i64 0),(.int .i64 0),(.int .i64 0),(.int .i64 0),(.int .u64 0),(.int .u64 0),(.int .u64 0),(.int .u64 0),(.int .u64 0),(.int .i64 0),(.int .i64 0),(.bool false),(.slice none 0 0),(.slice none 0 0),(.slice none 0 0),(.slice none 0 0),(.slice none 0 0),(.slice none 0 0),(.slice none 0 0),(.slice none 0 0),(.slice none 0 0)] [(0,24),(24,1),(25,1),(26,1),(27,1),(28,1),(29,1),(30,1),(31,1),(32,1),(33,1),(34,1),(35,1),(36,1),(37,1),(38,1),(39,1),(40,1)] ps fun z'=>K (.agg z'.toArray):=Yk (by kernel_rfl) ps K
@[go_sem ↓] theorem Yrj (ps:List (Nat×Value))(K:Value→Prop):Y2 prog 55 ps.toArray K=Ys [(.int .i64 0),(.int .i64 0),(.bool false),(.int .u64 0),(.int .u64 0),(.int .u64 0),(.int .u64 0),(.int .u64 0),(.int .u64 0),(.int .u64 0),(.slice none 0 0),(.slice none 0 0),(.slice none 0 0),(.slice none 0 0)] [(0,1),(1,1),(2,1),(3,1),(4,1),(5,1),(6,1),(7,1),(8,1),(9,1),(10,1),(11,1),(12,1),(13,1)] ps fun z'=>K (.agg z'.toArray):=Yk (by kernel_rfl) ps K
@[go_sem ↓] theorem Ysk (ps:List (Nat×Value))(K:Value→Prop):Y2 prog 98 ps.toArray K=Ys [(.int .u64 0),(.int .u64 0),(.int .u64 0),(.int .i64 0)] [(0,1),(1,1),(2,1),(3,1)] ps fun z'=>K (.agg z'.toArray):=Yk (by kernel_rfl) ps K
@[go_sem ↓] theorem Ymu (ps:List (Nat×Value))(K:Value→Prop):Y2 prog 100 ps.toArray K=Ys [(.int .u64 0),(.int .u64 0),(.int .u64 0),(.int .i64 0),(.int .i64 0),(.int .i64 0)] [(0,4),(4,1),(5,1)] ps fun z'=>K (.agg z'.toArray):=Yk (by kernel_rfl) ps K
@[go_sem ↓] theorem Yoc (ps:List (Nat×Value))(K:Value→Prop):Y2 prog 122 ps.toArray K=Ys [(.int .u64 0),(.int .u64 0),(.int .u64 0),(.int .u64 0),(.int .u64 0),(.int .u64 0),(.int .u64 0),(.int .u64 0),(.int .u64 0),(.int .u64 0),(.int .u64 0),(.int .u64 0),(.int .u64 0),(.int .u64 0),(.int .i64 0),(.int .i64 0),(.int .i64 0),(.int .i64 0),(.int .i64 0),(.int .i64 0),(.int .i64 0),(.int .i64 0),(.int .i64 0),(.int .i64 0),(.int .u64 0),(.slice none 0 0),(.slice none 0 0)] [(0,24),(24,1),(25,1),(26,1)] ps fun z'=>K (.agg z'.toArray):=Yk (by kernel_rfl) ps K
@[go_sem ↓] theorem Yoq (ps:List (Nat×Value))(K:Value→Prop):Y2 prog 127 ps.toArray K=Ys [(.int .u64 0),(.int .u64 0),(.int .u64 0),(.int .u64 0),(.int .u64 0),(.int .u64 0),(.int .u64 0),(.int .u64 0),(.int .u64 0),(.int .u64 0),(.int .u64 0),(.int .u64 0),(.int .u64 0),(.int .u64 0),(.int .i64 0),(.int .i64 0),(.int .i64 0),(.int .i64 0),(.int .i64 0),(.int .i64 0),(.int .i64 0),(.int .i64 0),(.int .i64 0),(.int .i64 0),(.int .u64 0),(.int .u64 0),(.int .u64 0),(.int .u64 0),(.int .u64 0),(.int .i64 0),(.int .i64 0),(.bool false),(.slice none 0 0),(.slice none 0 0),(.slice none 0 0),(.slice none 0 0),(.slice none 0 0),(.slice none 0 0),(.slice none 0 0),(.slice none 0 0),(.slice none 0 0)] [(0,41)] ps fun z'=>K (.agg z'.toArray):=Yk (by kernel_rfl) ps K
@[go_sem ↓] theorem Yoo (ps:List (Nat×Value))(K:Value→Prop):Y2 prog 137 ps.toArray K=Ys [(.int .u64 0),(.int .u64 0),(.int .u64 0),(.int .i64 0),(.int .i64 0),(.int .i64 0)] [(0,4),(4,1),(5,1)] ps fun z'=>K (.agg z'.toArray):=Yk (by kernel_rfl) ps K
@[go_sem ↓] theorem Yot (ps:List (Nat×Value))(K:Value→Prop):Y2 prog 156 ps.toArray K=Ys [(.int .i64 0),(.int .i64 0),(.int .u64 0)] [(0,1),(1,1),(2,1)] ps fun z'=>K (.agg z'.toArray):=Yk (by kernel_rfl) ps K
@[go_sem ↓] theorem Yoa (ps:List (Nat×Value))(K:Value→Prop):Y2 prog 162 ps.toArray K=Ys [(.int .u64 0),(.int .u64 0),(.int .u64 0),(.int .u64 0),(.int .u64 0),(.int .u64 0),(.int .u64 0),(.int .u64 0),(.int .u64 0),(.int .u64 0),(.int .u64 0),(.int .u64 0),(.int .u64 0),(.int .u64 0),(.int .i64 0),(.int .i64 0),(.int .i64 0),(.int .i64 0),(.int .i64 0),(.int .i64 0),(.int .i64 0),(.int .i64 0),(.int .i64 0),(.int .i64 0),(.int .u64 0),(.int .u64 0),(.int .u64 0),(.int .u64 0),(.int .u64 0),(.int .i64 0),(.int .i64 0),(.bool false),(.slice none 0 0),(.slice none 0 0),(.slice none 0 0),(.slice none 0 0),(.slice none 0 0),(.slice none 0 0),(.slice none 0 0),(.slice none 0 0),(.slice none 0 0),(.int .i64 0),(.int .i64 0),(.bool false),(.int .u64 0),(.int .u64 0),(.int .u64 0),(.int .u64 0),(.int .u64 0),(.int .u64 0),(.int .u64 0),(.slice none 0 0),(.slice none 0 0),(.slice none 0 0),(.slice none 0 0),(.int .i64 0)] [(0,41),(41,14),(55,1)] ps fun z'=>K (.agg z'.toArray):=Yk (by kernel_rfl) ps K
@[go_sem ↓] theorem Yog (ps:List (Nat×Value))(K:Value→Prop):Y2 prog 171 ps.toArray K=Ys [(.int .u64 0),(.int .u64 0),(.int .u64 0),(.int .u64 0),(.int .u64 0),(.slice none 0 0),(.slice none 0 0),(.slice none 0 0),(.slice none 0 0)] [(0,1),(1,1),(2,1),(3,1),(4,1),(5,1),(6,1),(7,1),(8,1)] ps fun z'=>K (.agg z'.toArray):=Yk (by kernel_rfl) ps K
@[go_sem ↓] theorem Yoe (ps:List (Nat×Value))(K:Value→Prop):Y2 prog 175 ps.toArray K=Ys [(.int .i64 0),(.int .i64 0),(.int .u64 0),(.int .u64 0),(.int .u64 0),(.int .u64 0),(.int .u64 0),(.int .u64 0),(.int .u64 0),(.int .u64 0),(.int .u64 0),(.int .u64 0),(.int .u64 0),(.int .u64 0),(.int .u64 0),(.int .u64 0),(.int .i64 0),(.int .i64 0),(.int .i64 0),(.int .i64 0),(.int .i64 0),(.int .i64 0),(.int .i64 0),(.int .i64 0),(.int .i64 0),(.int .i64 0),(.int .i64 0),(.int .u64 0),(.int .i64 0),(.int .i64 0),(.int .i64 0),(.slice none 0 0),(.slice none 0 0)] [(0,1),(1,1),(2,24),(26,1),(27,1),(28,1),(29,1),(30,1),(31,1),(32,1)] ps fun z'=>K (.agg z'.toArray):=Yk (by kernel_rfl) ps K
@[go_sem ↓] theorem Yni (ps:List (Nat×Value))(K:Value→Prop):Y2 prog 182 ps.toArray K=Ys [(.int .u64 0),(.int .u64 0),(.int .u64 0),(.int .u64 0),(.int .u64 0),(.int .u64 0),(.int .u64 0),(.int .u64 0),(.int .u64 0),(.int .u64 0),(.int .u64 0),(.int .u64 0),(.int .u64 0),(.int .u64 0),(.int .i64 0),(.int .i64 0),(.int .i64 0),(.int .i64 0),(.int .i64 0),(.int .i64 0),(.int .i64 0),(.int .i64 0),(.int .i64 0),(.int .i64 0),(.int .u64 0),(.int .u64 0),(.int .u64 0),(.int .u64 0),(.int .u64 0),(.int .i64 0),(.int .i64 0),(.bool false),(.slice none 0 0),(.slice none 0 0),(.slice none 0 0),(.slice none 0 0),(.slice none 0 0),(.slice none 0 0),(.slice none 0 0),(.slice none 0 0),(.slice none 0 0),(.int .u64 0),(.int .u64 0),(.int .u64 0),(.int .u64 0),(.int .u64 0),(.int .u64 0),(.int .u64 0),(.int .u64 0),(.int .u64 0),(.int .u64 0),(.int .u64 0),(.int .u64 0),(.int .u64 0),(.int .u64 0),(.int .i64 0),(.int .i64 0),(.int .i64 0),(.int .i64 0),(.int .i64 0),(.int .i64 0),(.int .i64 0),(.int .i64 0),(.int .i64 0),(.int .i64 0),(.int .u64 0),(.int .u64 0),(.int .u64 0),(.int .u64 0),(.int .u64 0),(.int .i64 0),(.int .i64 0),(.bool false),(.slice none 0 0),(.slice none 0 0),(.slice none 0 0),(.slice none 0 0),(.slice none 0 0),(.slice none 0 0),(.slice none 0 0),(.slice none 0 0),(.slice none 0 0),(.int .i64 0),(.int .i64 0),(.bool false),(.int .u64 0),(.int .u64 0),(.int .u64 0),(.int .u64 0),(.int .u64 0),(.int .u64 0),(.int .u64 0),(.slice none 0 0),(.slice none 0 0),(.slice none 0 0),(.slice none 0 0)] [(0,41),(41,41),(82,14)] ps fun z'=>K (.agg z'.toArray):=Yk (by kernel_rfl) ps K
@[go_sem ↓] theorem Ynx (ps:List (Nat×Value))(K:Value→Prop):Y2 prog 187 ps.toArray K=Ys [(.string ⟨#[]⟩),(.string ⟨#[]⟩),(.string ⟨#[]⟩),(.string ⟨#[]⟩),(.string ⟨#[]⟩),(.string ⟨#[]⟩),(.string ⟨#[]⟩),(.string ⟨#[]⟩)] [(0,1),(1,1),(2,1),(3,1),(4,1),(5,1),(6,1),(7,1)] ps fun z'=>K (.agg z'.toArray):=Yk (by kernel_rfl) ps K
@[go_sem ↓] theorem Yng (ps:List (Nat×Value))(K:Value→Prop):Y2 prog 196 ps.toArray K=Ys [(.slice none 0 0)] [(0,1)] ps fun z'=>K (.agg z'.toArray):=Yk (by kernel_rfl) ps K
@[go_sem ↓] theorem Yne (ps:List (Nat×Value))(K:Value→Prop):Y2 prog 220 ps.toArray K=Ys [(.slice none 0 0)] [(0,1)] ps fun z'=>K (.agg z'.toArray):=Yk (by kernel_rfl) ps K
@[go_sem ↓] theorem Ynn (ps:List (Nat×Value))(K:Value→Prop):Y2 prog 225 ps.toArray K=Ys [(.int .i64 0),(.int .u64 0)] [(0,1),(1,1)] ps fun z'=>K (.agg z'.toArray):=Yk (by kernel_rfl) ps K
@[go_sem ↓] theorem Yor (ps:List (Nat×Value))(K:Value→Prop):Y2 prog 239 ps.toArray K=Ys [(.int .u64 0),(.int .u64 0),(.int .u64 0),(.int .u64 0),(.int .u64 0)] [(0,1),(1,1),(2,1),(3,1),(4,1)] ps fun z'=>K (.agg z'.toArray):=Yk (by kernel_rfl) ps K
@[go_sem ↓] theorem Yok (ps:List (Nat×Value))(K:Value→Prop):Y2 prog 337 ps.toArray K=Ys [(.int .u64 0),(.int .u64 0),(.int .u64 0),(.int .i64 0),(.int .u64 0),(.int .u64 0),(.int .u64 0),(.int .u64 0),(.int .u64 0),(.int .u64 0),(.int .u64 0),(.int .u64 0),(.int .u64 0),(.int .u64 0),(.int .u64 0),(.int .u64 0),(.int .u64 0),(.int .u64 0),(.int .i64 0),(.int .i64 0),(.int .i64 0),(.int .i64 0),(.int .i64 0),(.int .i64 0),(.int .i64 0),(.int .i64 0),(.int .i64 0),(.int .i64 0)] [(0,4),(4,24)] ps fun z'=>K (.agg z'.toArray):=Yk (by kernel_rfl) ps K
@[go_sem ↓] theorem Yoh (ps:List (Nat×Value))(K:Value→Prop):Y2 prog 339 ps.toArray K=Ys [(.int .u64 0),(.int .u64 0),(.int .u64 0),(.int .u64 0),(.int .u64 0),(.int .u64 0),(.int .u64 0),(.int .u64 0),(.int .u64 0),(.int .u64 0),(.int .u64 0),(.int .u64 0),(.int .u64 0),(.int .u64 0),(.int .i64 0),(.int .i64 0),(.int .i64 0),(.int .i64 0),(.int .i64 0),(.int .i64 0),(.int .i64 0),(.int .i64 0),(.int .i64 0),(.int .i64 0)] [(0,24)] ps fun z'=>K (.agg z'.toArray):=Yk (by kernel_rfl) ps K
@[go_sem ↓] theorem Ynd (ps:List (Nat×Value))(K:Value→Prop):Y2 prog 349 ps.toArray K=Ys [(.int .u64 0),(.int .u64 0),(.int .u64 0),(.int .i64 0),(.int .i64 0),(.int .i64 0)] [(0,6)] ps fun z'=>K (.agg z'.toArray):=Yk (by kernel_rfl) ps K
@[go_sem ↓] theorem Ynj (ps:List (Nat×Value))(K:Value→Prop):Y2 prog 372 ps.toArray K=Ys [(.int .u64 0),(.int .u64 0),(.int .u64 0)] [(0,1),(1,1),(2,1)] ps fun z'=>K (.agg z'.toArray):=Yk (by kernel_rfl) ps K
@[go_sem ↓] theorem Yos (ps:List (Nat×Value))(K:Value→Prop):Y2 prog 399 ps.toArray K=Ys [(.int .u64 0),(.int .u64 0),(.int .u64 0),(.int .i64 0),(.int .u64 0),(.int .u64 0),(.int .u64 0),(.int .u64 0),(.int .u64 0),(.int .u64 0),(.int .u64 0),(.int .u64 0),(.int .u64 0),(.int .u64 0),(.int .u64 0),(.int .u64 0),(.int .u64 0),(.int .u64 0),(.int .i64 0),(.int .i64 0),(.int .i64 0),(.int .i64 0),(.int .i64 0),(.int .i64 0),(.int .i64 0),(.int .i64 0),(.int .i64 0),(.int .i64 0),(.int .i64 0)] [(0,4),(4,24),(28,1)] ps fun z'=>K (.agg z'.toArray):=Yk (by kernel_rfl) ps K
@[go_sem ↓] theorem Ymw (ps:List (Nat×Value))(K:Value→Prop):Y2 prog 403 ps.toArray K=Ys [(.int .u64 0),(.int .u64 0)] [(0,1),(1,1)] ps fun z'=>K (.agg z'.toArray):=Yk (by kernel_rfl) ps K
@[go_sem ↓] theorem Ynb (ps:List (Nat×Value))(K:Value→Prop):Y2 prog 427 ps.toArray K=Ys [(.int .u64 0),(.int .u64 0),(.int .u64 0)] [(0,2),(2,1)] ps fun z'=>K (.agg z'.toArray):=Yk (by kernel_rfl) ps K
@[go_sem ↓] theorem Wam (ps:List (Nat×Value))(K:TypeId→List Value→Prop):xBS prog 25 0 ps.toArray K=Ys [] [] ps fun cs=>K 22 cs:=YT (by kernel_rfl) ps K
@[go_sem ↓] theorem Was (ps:List (Nat×Value))(K:TypeId→List Value→Prop):xBS prog 25 1 ps.toArray K=Ys [(.int .u64 0)] [(0,1)] ps fun cs=>K 22 cs:=YT (by kernel_rfl) ps K
@[go_sem ↓] theorem Wdb (ps:List (Nat×Value))(K:TypeId→List Value→Prop):xBS prog 25 2 ps.toArray K=Ys [(.int .u64 0),(.int .u64 0)] [(0,1),(1,1)] ps fun cs=>K 22 cs:=YT (by kernel_rfl) ps K
@[go_sem ↓] theorem Wef (ps:List (Nat×Value))(K:TypeId→List Value→Prop):xBS prog 25 3 ps.toArray K=Ys [(.int .u64 0),(.int .u64 0),(.int .u64 0)] [(0,1),(1,1),(2,1)] ps fun cs=>K 22 cs:=YT (by kernel_rfl) ps K
@[go_sem ↓] theorem Wdo (ps:List (Nat×Value))(K:TypeId→List Value→Prop):xBS prog 25 5 ps.toArray K=Ys [(.int .u64 0),(.int .u64 0),(.int .u64 0),(.int .u64 0),(.int .u64 0)] [(0,1),(1,1),(2,1),(3,1),(4,1)] ps fun cs=>K 22 cs:=YT (by kernel_rfl) ps K
@[go_sem ↓] theorem Wcs (ps:List (Nat×Value))(K:TypeId→List Value→Prop):xBS prog 26 0 ps.toArray K=Ys [] [] ps fun cs=>K 100 cs:=YT (by kernel_rfl) ps K
@[go_sem ↓] theorem Wbp (ps:List (Nat×Value))(K:TypeId→List Value→Prop):xBS prog 26 1 ps.toArray K=Ys [(.int .u64 0),(.int .u64 0),(.int .u64 0),(.int .i64 0),(.int .i64 0),(.int .i64 0)] [(0,6)] ps fun cs=>K 100 cs:=YT (by kernel_rfl) ps K
@[go_sem ↓] theorem Wek (ps:List (Nat×Value))(K:TypeId→List Value→Prop):xBS prog 27 0 ps.toArray K=Ys [] [] ps fun cs=>K 3 cs:=YT (by kernel_rfl) ps K
@[go_sem ↓] theorem Wbc (ps:List (Nat×Value))(K:TypeId→List Value→Prop):xBS prog 27 1 ps.toArray K=Ys [(.int .i64 0)] [(0,1)] ps fun cs=>K 3 cs:=YT (by kernel_rfl) ps K
@[go_sem ↓] theorem Waj (ps:List (Nat×Value))(K:TypeId→List Value→Prop):xBS prog 28 0 ps.toArray K=Ys [] [] ps fun cs=>K 153 cs:=YT (by kernel_rfl) ps K
@[go_sem ↓] theorem Wbd (ps:List (Nat×Value))(K:TypeId→List Value→Prop):xBS prog 28 1 ps.toArray K=Ys [(.int .i64 0),(.int .i64 0),(.int .u64 0),(.bool false)] [(0,4)] ps fun cs=>K 153 cs:=YT (by kernel_rfl) ps K
@[go_sem ↓] theorem Wat (ps:List (Nat×Value))(K:TypeId→List Value→Prop):xBS prog 29 0 ps.toArray K=Ys [] [] ps fun cs=>K 156 cs:=YT (by kernel_rfl) ps K
@[go_sem ↓] theorem Wdf (ps:List (Nat×Value))(K:TypeId→List Value→Prop):xBS prog 29 1 ps.toArray K=Ys [(.int .i64 0),(.int .i64 0),(.int .u64 0)] [(0,3)] ps fun cs=>K 156 cs:=YT (by kernel_rfl) ps K
@[go_sem ↓] theorem Wdm (ps:List (Nat×Value))(K:TypeId→List Value→Prop):xBS prog 30 0 ps.toArray K=Ys [] [] ps fun cs=>K 125 cs:=YT (by kernel_rfl) ps K
@[go_sem ↓] theorem Wem (ps:List (Nat×Value))(K:TypeId→List Value→Prop):xBS prog 31 0 ps.toArray K=Ys [] [] ps fun cs=>K 5 cs:=YT (by kernel_rfl) ps K
@[go_sem ↓] theorem Wdl (ps:List (Nat×Value))(K:TypeId→List Value→Prop):xBS prog 31 1 ps.toArray K=Ys [(.int .u8 0)] [(0,1)] ps fun cs=>K 5 cs:=YT (by kernel_rfl) ps K
@[go_sem ↓] theorem Wbo (ps:List (Nat×Value))(K:TypeId→List Value→Prop):xBS prog 32 0 ps.toArray K=Ys [] [] ps fun cs=>K 31 cs:=YT (by kernel_rfl) ps K
@[go_sem ↓] theorem Wcu (ps:List (Nat×Value))(K:TypeId→List Value→Prop):xBS prog 32 1 ps.toArray K=Ys [(.slice none 0 0)] [(0,1)] ps fun cs=>K 31 cs:=YT (by kernel_rfl) ps K
@[go_sem ↓] theorem Wbn (ps:List (Nat×Value))(K:TypeId→List Value→Prop):xBS prog 45 1 ps.toArray K=Ys [(.int .u64 0),(.int .u64 0),(.int .u64 0),(.int .i64 0),(.int .i64 0),(.int .i64 0)] [(0,6)] ps fun cs=>K 137 cs:=YT (by kernel_rfl) ps K
@[go_sem ↓] theorem Wbt (ps:List (Nat×Value))(K:TypeId→List Value→Prop):xBS prog 46 1 ps.toArray K=Ys [(.int .i64 0),(.int .i64 0),(.int .u64 0),(.bool false)] [(0,4)] ps fun cs=>K 249 cs:=YT (by kernel_rfl) ps K
@[go_sem ↓] theorem Wed (ps:List (Nat×Value))(K:TypeId→List Value→Prop):xBS prog 47 1 ps.toArray K=Ys [(.int .i64 0),(.int .i64 0),(.int .u64 0)] [(0,3)] ps fun cs=>K 250 cs:=YT (by kernel_rfl) ps K
@[go_sem ↓] theorem Wcd (ps:List (Nat×Value))(K:TypeId→List Value→Prop):xBS prog 48 1 ps.toArray K=Ys [(.int .i64 0),(.int .i64 0),(.int .u64 0),(.int .u64 0),(.int .u64 0),(.int .u64 0),(.int .u64 0),(.int .u64 0),(.int .u64 0),(.int .u64 0),(.int .u64 0),(.int .u64 0),(.int .u64 0),(.int .u64 0),(.int .u64 0),(.int .u64 0),(.int .i64 0),(.int .i64 0),(.int .i64 0),(.int .i64 0),(.int .i64 0),(.int .i64 0),(.int .i64 0),(.int .i64 0),(.int .i64 0),(.int .i64 0),(.int .i64 0),(.int .u64 0),(.int .i64 0),(.int .i64 0),(.int .i64 0),(.slice none 0 0),(.slice none 0 0)] [(0,33)] ps fun cs=>K 175 cs:=YT (by kernel_rfl) ps K
@[go_sem ↓] theorem Yze (ps:List (Nat×Value))(K:TypeId→List Value→Prop):xBS prog 120 2 ps.toArray K=Ys [(.int .i64 0),(.int .u64 0),(.int .i64 0),(.int .u64 0)] [(0,2),(2,2)] ps fun cs=>K 225 cs:=YT (by kernel_rfl) ps K
@[go_sem ↓] theorem Yyu (ps:List (Nat×Value))(K:TypeId→List Value→Prop):xBS prog 201 1 ps.toArray K=Ys [(.int .u64 0),(.int .u64 0),(.int .u64 0),(.int .i64 0)] [(0,4)] ps fun cs=>K 98 cs:=YT (by kernel_rfl) ps K
@[go_sem ↓] theorem Ypj (ps:List (Nat×Value))(K:TypeId→List Value→Prop):xBS prog 316 2 ps.toArray K=Ys [(.bool false),(.bool false)] [(0,1),(1,1)] ps fun cs=>K 4 cs:=YT (by kernel_rfl) ps K
@[go_sem ↓] theorem Yye (ps:List (Nat×Value))(K:TypeId→List Value→Prop):xBS prog 316 3 ps.toArray K=Ys [(.bool false),(.bool false),(.bool false)] [(0,1),(1,1),(2,1)] ps fun cs=>K 4 cs:=YT (by kernel_rfl) ps K
@[go_sem ↓] theorem Yqm (ps:List (Nat×Value))(K:TypeId→List Value→Prop):xBS prog 316 4 ps.toArray K=Ys [(.bool false),(.bool false),(.bool false),(.bool false)] [(0,1),(1,1),(2,1),(3,1)] ps fun cs=>K 4 cs:=YT (by kernel_rfl) ps K
@[go_sem ↓] theorem Yuh (ps:List (Nat×Value))(K:TypeId→List Value→Prop):xBS prog 316 5 ps.toArray K=Ys [(.bool false),(.bool false),(.bool false),(.bool false),(.bool false)] [(0,1),(1,1),(2,1),(3,1),(4,1)] ps fun cs=>K 4 cs:=YT (by kernel_rfl) ps K
@[go_sem ↓] theorem Ywo (ps:List (Nat×Value))(K:TypeId→List Value→Prop):xBS prog 316 6 ps.toArray K=Ys [(.bool false),(.bool false),(.bool false),(.bool false),(.bool false),(.bool false)] [(0,1),(1,1),(2,1),(3,1),(4,1),(5,1)] ps fun cs=>K 4 cs:=YT (by kernel_rfl) ps K
@[go_sem ↓] theorem Ypc (ps:List (Nat×Value))(K:TypeId→List Value→Prop):xBS prog 316 7 ps.toArray K=Ys [(.bool false),(.bool false),(.bool false),(.bool false),(.bool false),(.bool false),(.bool false)] [(0,1),(1,1),(2,1),(3,1),(4,1),(5,1),(6,1)] ps fun cs=>K 4 cs:=YT (by kernel_rfl) ps K
@[go_sem ↓] theorem Yno (ps:List (Nat×Value))(K:TypeId→List Value→Prop):xBS prog 316 12 ps.toArray K=Ys [(.bool false),(.bool false),(.bool false),(.bool false),(.bool false),(.bool false),(.bool false),(.bool false),(.bool false),(.bool false),(.bool false),(.bool false)] [(0,1),(1,1),(2,1),(3,1),(4,1),(5,1),(6,1),(7,1),(8,1),(9,1),(10,1),(11,1)] ps fun cs=>K 4 cs:=YT (by kernel_rfl) ps K
@[go_sem ↓] theorem Yzb (ps:List (Nat×Value))(K:TypeId→List Value→Prop):xBS prog 318 7 ps.toArray K=Ys [.nilFunc,.nilFunc,.nilFunc,.nilFunc,.nilFunc,.nilFunc,.nilFunc] [(0,1),(1,1),(2,1),(3,1),(4,1),(5,1),(6,1)] ps fun cs=>K 37 cs:=YT (by kernel_rfl) ps K
@[go_sem ↓] theorem Yrr (ps:List (Nat×Value))(K:TypeId→List Value→Prop):xBS prog 354 2 ps.toArray K=Ys [(.int .i64 0),(.int .i64 0)] [(0,1),(1,1)] ps fun cs=>K 40 cs:=YT (by kernel_rfl) ps K
@[go_sem ↓] theorem Ypw (ps:List (Nat×Value))(K:TypeId→List Value→Prop):xBS prog 354 4 ps.toArray K=Ys [(.int .i64 0),(.int .i64 0),(.int .i64 0),(.int .i64 0)] [(0,1),(1,1),(2,1),(3,1)] ps fun cs=>K 40 cs:=YT (by kernel_rfl) ps K
@[go_sem ↓] theorem Wbi (K:Nat→Prop):xFO prog 24 0 K=K 0:=ZV (by kernel_rfl) K
@[go_sem ↓] theorem Wci (K:Nat→Prop):xFO prog 24 1 K=K 1:=ZV (by kernel_rfl) K
@[go_sem ↓] theorem Wdu (K:Nat→Prop):xFO prog 24 2 K=K 2:=ZV (by kernel_rfl) K
@[go_sem ↓] theorem Wav (K:Nat→Prop):xFO prog 24 3 K=K 3:=ZV (by kernel_rfl) K
@[go_sem ↓] theorem Wck (K:Nat→Prop):xFO prog 24 4 K=K 4:=ZV (by kernel_rfl) K
@[go_sem ↓] theorem Wfu (K:Nat→Prop):xFO prog 24 5 K=K 5:=ZV (by kernel_rfl) K
@[go_sem ↓] theorem Wep (K:Nat→Prop):xFO prog 24 6 K=K 6:=ZV (by kernel_rfl) K
@[go_sem ↓] theorem Waf (K:Nat→Prop):xFO prog 24 7 K=K 7:=ZV (by kernel_rfl) K
@[go_sem ↓] theorem Wch (K:Nat→Prop):xFO prog 24 8 K=K 8:=ZV (by kernel_rfl) K
@[go_sem ↓] theorem Wak (K:Nat→Prop):xFO prog 24 9 K=K 9:=ZV (by kernel_rfl) K
@[go_sem ↓] theorem Yss (K:Nat→Prop):xFO prog 24 10 K=K 10:=ZV (by kernel_rfl) K
@[go_sem ↓] theorem Yxo (K:Nat→Prop):xFO prog 24 11 K=K 11:=ZV (by kernel_rfl) K
@[go_sem ↓] theorem Ywh (K:Nat→Prop):xFO prog 24 12 K=K 12:=ZV (by kernel_rfl) K
@[go_sem ↓] theorem Yuv (K:Nat→Prop):xFO prog 24 13 K=K 13:=ZV (by kernel_rfl) K
@[go_sem ↓] theorem Yqe (K:Nat→Prop):xFO prog 24 14 K=K 14:=ZV (by kernel_rfl) K
@[go_sem ↓] theorem Yxu (K:Nat→Prop):xFO prog 24 15 K=K 15:=ZV (by kernel_rfl) K
@[go_sem ↓] theorem Ywb (K:Nat→Prop):xFO prog 24 16 K=K 16:=ZV (by kernel_rfl) K
@[go_sem ↓] theorem Yzs (K:Nat→Prop):xFO prog 24 17 K=K 17:=ZV (by kernel_rfl) K
@[go_sem ↓] theorem Yql (K:Nat→Prop):xFO prog 24 18 K=K 18:=ZV (by kernel_rfl) K
@[go_sem ↓] theorem Yyg (K:Nat→Prop):xFO prog 24 19 K=K 19:=ZV (by kernel_rfl) K
@[go_sem ↓] theorem Yrm (K:Nat→Prop):xFO prog 24 20 K=K 20:=ZV (by kernel_rfl) K
@[go_sem ↓] theorem Yqf (K:Nat→Prop):xFO prog 24 21 K=K 21:=ZV (by kernel_rfl) K
@[go_sem ↓] theorem Yqt (K:Nat→Prop):xFO prog 24 22 K=K 22:=ZV (by kernel_rfl) K
@[go_sem ↓] theorem Yvw (K:Nat→Prop):xFO prog 24 23 K=K 23:=ZV (by kernel_rfl) K
@[go_sem ↓] theorem Wfc (K:Nat→Prop):xFO prog 34 0 K=K 0:=ZV (by kernel_rfl) K
@[go_sem ↓] theorem Wdd (K:Nat→Prop):xFO prog 34 1 K=K 24:=ZV (by kernel_rfl) K
@[go_sem ↓] theorem Wbw (K:Nat→Prop):xFO prog 34 2 K=K 25:=ZV (by kernel_rfl) K
@[go_sem ↓] theorem Wec (K:Nat→Prop):xFO prog 34 3 K=K 26:=ZV (by kernel_rfl) K
@[go_sem ↓] theorem Wbz (K:Nat→Prop):xFO prog 34 4 K=K 27:=ZV (by kernel_rfl) K
@[go_sem ↓] theorem Wfj (K:Nat→Prop):xFO prog 34 5 K=K 28:=ZV (by kernel_rfl) K
@[go_sem ↓] theorem Wev (K:Nat→Prop):xFO prog 34 6 K=K 29:=ZV (by kernel_rfl) K
@[go_sem ↓] theorem Wcz (K:Nat→Prop):xFO prog 34 7 K=K 30:=ZV (by kernel_rfl) K
@[go_sem ↓] theorem Wew (K:Nat→Prop):xFO prog 34 8 K=K 31:=ZV (by kernel_rfl) K
@[go_sem ↓] theorem Wfq (K:Nat→Prop):xFO prog 34 9 K=K 32:=ZV (by kernel_rfl) K
@[go_sem ↓] theorem Ywt (K:Nat→Prop):xFO prog 34 10 K=K 33:=ZV (by kernel_rfl) K
@[go_sem ↓] theorem Yvn (K:Nat→Prop):xFO prog 34 11 K=K 34:=ZV (by kernel_rfl) K
@[go_sem ↓] theorem Yxc (K:Nat→Prop):xFO prog 34 12 K=K 35:=ZV (by kernel_rfl) K
@[go_sem ↓] theorem Yts (K:Nat→Prop):xFO prog 34 13 K=K 36:=ZV (by kernel_rfl) K
@[go_sem ↓] theorem Ywp (K:Nat→Prop):xFO prog 34 14 K=K 37:=ZV (by kernel_rfl) K
@[go_sem ↓] theorem Yvd (K:Nat→Prop):xFO prog 34 15 K=K 38:=ZV (by kernel_rfl) K
@[go_sem ↓] theorem Ysl (K:Nat→Prop):xFO prog 34 16 K=K 39:=ZV (by kernel_rfl) K
@[go_sem ↓] theorem Yrs (K:Nat→Prop):xFO prog 34 17 K=K 40:=ZV (by kernel_rfl) K
@[go_sem ↓] theorem Wae (K:Nat→Prop):xFO prog 44 0 K=K 0:=ZV (by kernel_rfl) K
@[go_sem ↓] theorem Wao (K:Nat→Prop):xFO prog 44 1 K=K 1:=ZV (by kernel_rfl) K
@[go_sem ↓] theorem Wey (K:Nat→Prop):xFO prog 44 2 K=K 2:=ZV (by kernel_rfl) K
@[go_sem ↓] theorem Waw (K:Nat→Prop):xFO prog 44 3 K=K 3:=ZV (by kernel_rfl) K
@[go_sem ↓] theorem Wet (K:Nat→Prop):xFO prog 44 4 K=K 4:=ZV (by kernel_rfl) K
@[go_sem ↓] theorem Wfx (K:Nat→Prop):xFO prog 44 5 K=K 5:=ZV (by kernel_rfl) K
@[go_sem ↓] theorem Wcb (K:Nat→Prop):xFO prog 44 6 K=K 6:=ZV (by kernel_rfl) K
@[go_sem ↓] theorem Wca (K:Nat→Prop):xFO prog 44 7 K=K 7:=ZV (by kernel_rfl) K
@[go_sem ↓] theorem Wdw (K:Nat→Prop):xFO prog 44 8 K=K 8:=ZV (by kernel_rfl) K
@[go_sem ↓] theorem Wbq (K:Nat→Prop):xFO prog 44 9 K=K 9:=ZV (by kernel_rfl) K
@[go_sem ↓] theorem Ytm (K:Nat→Prop):xFO prog 44 10 K=K 10:=ZV (by kernel_rfl) K
@[go_sem ↓] theorem Ysa (K:Nat→Prop):xFO prog 44 11 K=K 11:=ZV (by kernel_rfl) K
@[go_sem ↓] theorem Yuf (K:Nat→Prop):xFO prog 44 12 K=K 12:=ZV (by kernel_rfl) K
@[go_sem ↓] theorem Yqj (K:Nat→Prop):xFO prog 44 13 K=K 13:=ZV (by kernel_rfl) K
@[go_sem ↓] theorem Ywc (K:Nat→Prop):xFO prog 44 14 K=K 14:=ZV (by kernel_rfl) K
@[go_sem ↓] theorem Ypd (K:Nat→Prop):xFO prog 44 15 K=K 15:=ZV (by kernel_rfl) K
@[go_sem ↓] theorem Yqi (K:Nat→Prop):xFO prog 44 16 K=K 16:=ZV (by kernel_rfl) K
@[go_sem ↓] theorem Yru (K:Nat→Prop):xFO prog 44 17 K=K 17:=ZV (by kernel_rfl) K
@[go_sem ↓] theorem Ywe (K:Nat→Prop):xFO prog 44 18 K=K 18:=ZV (by kernel_rfl) K
@[go_sem ↓] theorem Yvo (K:Nat→Prop):xFO prog 44 19 K=K 19:=ZV (by kernel_rfl) K
@[go_sem ↓] theorem Yqu (K:Nat→Prop):xFO prog 44 20 K=K 20:=ZV (by kernel_rfl) K
@[go_sem ↓] theorem Yyk (K:Nat→Prop):xFO prog 44 21 K=K 21:=ZV (by kernel_rfl) K
@[go_sem ↓] theorem Yre (K:Nat→Prop):xFO prog 44 22 K=K 22:=ZV (by kernel_rfl) K
@[go_sem ↓] theorem Yyw (K:Nat→Prop):xFO prog 44 23 K=K 23:=ZV (by kernel_rfl) K
@[go_sem ↓] theorem Wdx (K:Nat→Prop):xFO prog 50 0 K=K 0:=ZV (by kernel_rfl) K
@[go_sem ↓] theorem Wbm (K:Nat→Prop):xFO prog 50 1 K=K 24:=ZV (by kernel_rfl) K
@[go_sem ↓] theorem Waz (K:Nat→Prop):xFO prog 50 2 K=K 25:=ZV (by kernel_rfl) K
@[go_sem ↓] theorem Wcm (K:Nat→Prop):xFO prog 50 3 K=K 26:=ZV (by kernel_rfl) K
@[go_sem ↓] theorem Wan (K:Nat→Prop):xFO prog 50 4 K=K 27:=ZV (by kernel_rfl) K
@[go_sem ↓] theorem Wbr (K:Nat→Prop):xFO prog 50 5 K=K 28:=ZV (by kernel_rfl) K
@[go_sem ↓] theorem Wex (K:Nat→Prop):xFO prog 50 6 K=K 29:=ZV (by kernel_rfl) K
@[go_sem ↓] theorem Wdh (K:Nat→Prop):xFO prog 50 7 K=K 30:=ZV (by kernel_rfl) K
@[go_sem ↓] theorem Wee (K:Nat→Prop):xFO prog 50 9 K=K 32:=ZV (by kernel_rfl) K
@[go_sem ↓] theorem Ytu (K:Nat→Prop):xFO prog 50 10 K=K 33:=ZV (by kernel_rfl) K
@[go_sem ↓] theorem Yua (K:Nat→Prop):xFO prog 50 11 K=K 34:=ZV (by kernel_rfl) K
@[go_sem ↓] theorem Yox (K:Nat→Prop):xFO prog 50 12 K=K 35:=ZV (by kernel_rfl) K
@[go_sem ↓] theorem Ysx (K:Nat→Prop):xFO prog 50 13 K=K 36:=ZV (by kernel_rfl) K
@[go_sem ↓] theorem Yuc (K:Nat→Prop):xFO prog 50 14 K=K 37:=ZV (by kernel_rfl) K
@[go_sem ↓] theorem Yyq (K:Nat→Prop):xFO prog 50 15 K=K 38:=ZV (by kernel_rfl) K
@[go_sem ↓] theorem Yzp (K:Nat→Prop):xFO prog 50 16 K=K 39:=ZV (by kernel_rfl) K
@[go_sem ↓] theorem Yvp (K:Nat→Prop):xFO prog 50 17 K=K 40:=ZV (by kernel_rfl) K
@[go_sem ↓] theorem Wcq (K:Nat→Prop):xFO prog 55 0 K=K 0:=ZV (by kernel_rfl) K
@[go_sem ↓] theorem Wdi (K:Nat→Prop):xFO prog 55 1 K=K 1:=ZV (by kernel_rfl) K
@[go_sem ↓] theorem Wft (K:Nat→Prop):xFO prog 55 2 K=K 2:=ZV (by kernel_rfl) K
@[go_sem ↓] theorem Wbj (K:Nat→Prop):xFO prog 55 3 K=K 3:=ZV (by kernel_rfl) K
@[go_sem ↓] theorem Wdg (K:Nat→Prop):xFO prog 55 4 K=K 4:=ZV (by kernel_rfl) K
@[go_sem ↓] theorem Wbv (K:Nat→Prop):xFO prog 55 5 K=K 5:=ZV (by kernel_rfl) K
@[go_sem ↓] theorem Wbb (K:Nat→Prop):xFO prog 55 6 K=K 6:=ZV (by kernel_rfl) K
@[go_sem ↓] theorem Wcv (K:Nat→Prop):xFO prog 55 7 K=K 7:=ZV (by kernel_rfl) K
@[go_sem ↓] theorem Wdq (K:Nat→Prop):xFO prog 55 8 K=K 8:=ZV (by kernel_rfl) K
@[go_sem ↓] theorem Wfh (K:Nat→Prop):xFO prog 55 9 K=K 9:=ZV (by kernel_rfl) K
@[go_sem ↓] theorem Yum (K:Nat→Prop):xFO prog 55 10 K=K 10:=ZV (by kernel_rfl) K
@[go_sem ↓] theorem Ypi (K:Nat→Prop):xFO prog 55 11 K=K 11:=ZV (by kernel_rfl) K
@[go_sem ↓] theorem Ywv (K:Nat→Prop):xFO prog 55 12 K=K 12:=ZV (by kernel_rfl) K
@[go_sem ↓] theorem Ysn (K:Nat→Prop):xFO prog 55 13 K=K 13:=ZV (by kernel_rfl) K
@[go_sem ↓] theorem Wax (K:Nat→Prop):xFO prog 60 0 K=K 0:=ZV (by kernel_rfl) K
@[go_sem ↓] theorem Web (K:Nat→Prop):xFO prog 60 1 K=K 1:=ZV (by kernel_rfl) K
@[go_sem ↓] theorem Wfy (K:Nat→Prop):xFO prog 60 2 K=K 2:=ZV (by kernel_rfl) K
@[go_sem ↓] theorem Wfr (K:Nat→Prop):xFO prog 60 3 K=K 3:=ZV (by kernel_rfl) K
@[go_sem ↓] theorem Waq (K:Nat→Prop):xFO prog 60 4 K=K 4:=ZV (by kernel_rfl) K
@[go_sem ↓] theorem Wbu (K:Nat→Prop):xFO prog 60 5 K=K 5:=ZV (by kernel_rfl) K
@[go_sem ↓] theorem Wdz (K:Nat→Prop):xFO prog 60 6 K=K 6:=ZV (by kernel_rfl) K
@[go_sem ↓] theorem Wel (K:Nat→Prop):xFO prog 60 7 K=K 7:=ZV (by kernel_rfl) K
@[go_sem ↓] theorem Wba (K:Nat→Prop):xFO prog 60 8 K=K 8:=ZV (by kernel_rfl) K
@[go_sem ↓] theorem Weg (K:Nat→Prop):xFO prog 98 0 K=K 0:=ZV (by kernel_rfl) K
@[go_sem ↓] theorem Wag (K:Nat→Prop):xFO prog 98 1 K=K 1:=ZV (by kernel_rfl) K
@[go_sem ↓] theorem Wfs (K:Nat→Prop):xFO prog 98 2 K=K 2:=ZV (by kernel_rfl) K
@[go_sem ↓] theorem Wbg (K:Nat→Prop):xFO prog 98 3 K=K 3:=ZV (by kernel_rfl) K
@[go_sem ↓] theorem Yve (K:Nat→Prop):xFO prog 100 0 K=K 0:=ZV (by kernel_rfl) K
@[go_sem ↓] theorem Yuj (K:Nat→Prop):xFO prog 100 1 K=K 4:=ZV (by kernel_rfl) K
@[go_sem ↓] theorem Yuq (K:Nat→Prop):xFO prog 100 2 K=K 5:=ZV (by kernel_rfl) K
@[go_sem ↓] theorem Ytt (K:Nat→Prop):xFO prog 108 0 K=K 0:=ZV (by kernel_rfl) K
@[go_sem ↓] theorem Yza (K:Nat→Prop):xFO prog 108 1 K=K 1:=ZV (by kernel_rfl) K
@[go_sem ↓] theorem Ywl (K:Nat→Prop):xFO prog 108 2 K=K 2:=ZV (by kernel_rfl) K
@[go_sem ↓] theorem Ywj (K:Nat→Prop):xFO prog 108 3 K=K 3:=ZV (by kernel_rfl) K
@[go_sem ↓] theorem Ywn (K:Nat→Prop):xFO prog 122 0 K=K 0:=ZV (by kernel_rfl) K
@[go_sem ↓] theorem Yrz (K:Nat→Prop):xFO prog 122 1 K=K 24:=ZV (by kernel_rfl) K
@[go_sem ↓] theorem Ytl (K:Nat→Prop):xFO prog 122 2 K=K 25:=ZV (by kernel_rfl) K
@[go_sem ↓] theorem Yqx (K:Nat→Prop):xFO prog 122 3 K=K 26:=ZV (by kernel_rfl) K
@[go_sem ↓] theorem Ywx (K:Nat→Prop):xFO prog 125 0 K=K 0:=ZV (by kernel_rfl) K
@[go_sem ↓] theorem Yuz (K:Nat→Prop):xFO prog 125 1 K=K 1:=ZV (by kernel_rfl) K
@[go_sem ↓] theorem Yut (K:Nat→Prop):xFO prog 125 2 K=K 2:=ZV (by kernel_rfl) K
@[go_sem ↓] theorem Yqb (K:Nat→Prop):xFO prog 125 3 K=K 26:=ZV (by kernel_rfl) K
@[go_sem ↓] theorem Yqh (K:Nat→Prop):xFO prog 125 4 K=K 27:=ZV (by kernel_rfl) K
@[go_sem ↓] theorem Yqr (K:Nat→Prop):xFO prog 125 5 K=K 28:=ZV (by kernel_rfl) K
@[go_sem ↓] theorem Yws (K:Nat→Prop):xFO prog 125 6 K=K 29:=ZV (by kernel_rfl) K
@[go_sem ↓] theorem Ysw (K:Nat→Prop):xFO prog 125 7 K=K 30:=ZV (by kernel_rfl) K
@[go_sem ↓] theorem Yri (K:Nat→Prop):xFO prog 125 8 K=K 31:=ZV (by kernel_rfl) K
@[go_sem ↓] theorem Ysp (K:Nat→Prop):xFO prog 125 9 K=K 32:=ZV (by kernel_rfl) K
@[go_sem ↓] theorem Ypz (K:Nat→Prop):xFO prog 127 0 K=K 0:=ZV (by kernel_rfl) K
@[go_sem ↓] theorem Wab (K:Nat→Prop):xFO prog 137 0 K=K 0:=ZV (by kernel_rfl) K
@[go_sem ↓] theorem Yse (K:Nat→Prop):xFO prog 137 1 K=K 4:=ZV (by kernel_rfl) K
@[go_sem ↓] theorem Yxg (K:Nat→Prop):xFO prog 137 2 K=K 5:=ZV (by kernel_rfl) K
@[go_sem ↓] theorem Yzd (K:Nat→Prop):xFO prog 153 0 K=K 0:=ZV (by kernel_rfl) K
@[go_sem ↓] theorem Yvk (K:Nat→Prop):xFO prog 153 1 K=K 1:=ZV (by kernel_rfl) K
@[go_sem ↓] theorem Yyh (K:Nat→Prop):xFO prog 153 2 K=K 2:=ZV (by kernel_rfl) K
@[go_sem ↓] theorem Yvs (K:Nat→Prop):xFO prog 153 3 K=K 3:=ZV (by kernel_rfl) K
@[go_sem ↓] theorem Yyf (K:Nat→Prop):xFO prog 156 0 K=K 0:=ZV (by kernel_rfl) K
@[go_sem ↓] theorem Yyt (K:Nat→Prop):xFO prog 156 1 K=K 1:=ZV (by kernel_rfl) K
@[go_sem ↓] theorem Ytw (K:Nat→Prop):xFO prog 156 2 K=K 2:=ZV (by kernel_rfl) K
@[go_sem ↓] theorem Yur (K:Nat→Prop):xFO prog 162 0 K=K 0:=ZV (by kernel_rfl) K
@[go_sem ↓] theorem Yto (K:Nat→Prop):xFO prog 162 1 K=K 41:=ZV (by kernel_rfl) K
@[go_sem ↓] theorem Yqz (K:Nat→Prop):xFO prog 162 2 K=K 55:=ZV (by kernel_rfl) K
@[go_sem ↓] theorem Ytz (K:Nat→Prop):xFO prog 171 0 K=K 0:=ZV (by kernel_rfl) K
@[go_sem ↓] theorem Ypx (K:Nat→Prop):xFO prog 171 1 K=K 1:=ZV (by kernel_rfl) K
@[go_sem ↓] theorem Yyd (K:Nat→Prop):xFO prog 171 2 K=K 2:=ZV (by kernel_rfl) K
@[go_sem ↓] theorem Ypq (K:Nat→Prop):xFO prog 171 3 K=K 3:=ZV (by kernel_rfl) K
@[go_sem ↓] theorem Yrk (K:Nat→Prop):xFO prog 171 4 K=K 4:=ZV (by kernel_rfl) K
@[go_sem ↓] theorem Ysb (K:Nat→Prop):xFO prog 171 5 K=K 5:=ZV (by kernel_rfl) K
@[go_sem ↓] theorem Ysv (K:Nat→Prop):xFO prog 171 6 K=K 6:=ZV (by kernel_rfl) K
@[go_sem ↓] theorem Yzz (K:Nat→Prop):xFO prog 171 7 K=K 7:=ZV (by kernel_rfl) K
@[go_sem ↓] theorem Yzr (K:Nat→Prop):xFO prog 171 8 K=K 8:=ZV (by kernel_rfl) K
@[go_sem ↓] theorem Yux (K:Nat→Prop):xFO prog 175 0 K=K 0:=ZV (by kernel_rfl) K
@[go_sem ↓] theorem Ypy (K:Nat→Prop):xFO prog 175 1 K=K 1:=ZV (by kernel_rfl) K
@[go_sem ↓] theorem Yvy (K:Nat→Prop):xFO prog 175 2 K=K 2:=ZV (by kernel_rfl) K
@[go_sem ↓] theorem Ytv (K:Nat→Prop):xFO prog 175 3 K=K 26:=ZV (by kernel_rfl) K
@[go_sem ↓] theorem Ypr (K:Nat→Prop):xFO prog 175 4 K=K 27:=ZV (by kernel_rfl) K
@[go_sem ↓] theorem Ytf (K:Nat→Prop):xFO prog 175 5 K=K 28:=ZV (by kernel_rfl) K
@[go_sem ↓] theorem Yoy (K:Nat→Prop):xFO prog 175 6 K=K 29:=ZV (by kernel_rfl) K
@[go_sem ↓] theorem Yvc (K:Nat→Prop):xFO prog 175 7 K=K 30:=ZV (by kernel_rfl) K
@[go_sem ↓] theorem Yrt (K:Nat→Prop):xFO prog 175 8 K=K 31:=ZV (by kernel_rfl) K
@[go_sem ↓] theorem Yuu (K:Nat→Prop):xFO prog 175 9 K=K 32:=ZV (by kernel_rfl) K
@[go_sem ↓] theorem Yrd (K:Nat→Prop):xFO prog 182 0 K=K 0:=ZV (by kernel_rfl) K
@[go_sem ↓] theorem Yun (K:Nat→Prop):xFO prog 182 1 K=K 41:=ZV (by kernel_rfl) K
@[go_sem ↓] theorem Ytb (K:Nat→Prop):xFO prog 182 2 K=K 82:=ZV (by kernel_rfl) K
@[go_sem ↓] theorem Ytd (K:Nat→Prop):xFO prog 196 0 K=K 0:=ZV (by kernel_rfl) K
@[go_sem ↓] theorem Ysm (K:Nat→Prop):xFO prog 218 0 K=K 0:=ZV (by kernel_rfl) K
@[go_sem ↓] theorem Yyp (K:Nat→Prop):xFO prog 220 0 K=K 0:=ZV (by kernel_rfl) K
@[go_sem ↓] theorem Yyl (K:Nat→Prop):xFO prog 225 0 K=K 0:=ZV (by kernel_rfl) K
@[go_sem ↓] theorem Ytc (K:Nat→Prop):xFO prog 225 1 K=K 1:=ZV (by kernel_rfl) K
@[go_sem ↓] theorem Ysy (K:Nat→Prop):xFO prog 239 0 K=K 0:=ZV (by kernel_rfl) K
@[go_sem ↓] theorem Yvg (K:Nat→Prop):xFO prog 239 1 K=K 1:=ZV (by kernel_rfl) K
@[go_sem ↓] theorem Yuy (K:Nat→Prop):xFO prog 239 2 K=K 2:=ZV (by kernel_rfl) K
@[go_sem ↓] theorem Yxl (K:Nat→Prop):xFO prog 239 3 K=K 3:=ZV (by kernel_rfl) K
@[go_sem ↓] theorem Yrx (K:Nat→Prop):xFO prog 239 4 K=K 4:=ZV (by kernel_rfl) K
@[go_sem ↓] theorem Yzl (K:Nat→Prop):xFO prog 249 0 K=K 0:=ZV (by kernel_rfl) K
@[go_sem ↓] theorem Yva (K:Nat→Prop):xFO prog 249 1 K=K 1:=ZV (by kernel_rfl) K
@[go_sem ↓] theorem Yzm (K:Nat→Prop):xFO prog 249 2 K=K 2:=ZV (by kernel_rfl) K
@[go_sem ↓] theorem Yyr (K:Nat→Prop):xFO prog 249 3 K=K 3:=ZV (by kernel_rfl) K
@[go_sem ↓] theorem Yvt (K:Nat→Prop):xFO prog 250 0 K=K 0:=ZV (by kernel_rfl) K
@[go_sem ↓] theorem Yud (K:Nat→Prop):xFO prog 250 1 K=K 1:=ZV (by kernel_rfl) K
@[go_sem ↓] theorem Ysj (K:Nat→Prop):xFO prog 250 2 K=K 2:=ZV (by kernel_rfl) K
@[go_sem ↓] theorem Ytq (K:Nat→Prop):xFO prog 337 0 K=K 0:=ZV (by kernel_rfl) K
@[go_sem ↓] theorem Yxq (K:Nat→Prop):xFO prog 337 1 K=K 4:=ZV (by kernel_rfl) K
@[go_sem ↓] theorem Yui (K:Nat→Prop):xFO prog 339 0 K=K 0:=ZV (by kernel_rfl) K
@[go_sem ↓] theorem Ypb (K:Nat→Prop):xFO prog 349 0 K=K 0:=ZV (by kernel_rfl) K
@[go_sem ↓] theorem Ypt (K:Nat→Prop):xFO prog 372 0 K=K 0:=ZV (by kernel_rfl) K
@[go_sem ↓] theorem Yus (K:Nat→Prop):xFO prog 372 1 K=K 1:=ZV (by kernel_rfl) K
@[go_sem ↓] theorem Yqo (K:Nat→Prop):xFO prog 372 2 K=K 2:=ZV (by kernel_rfl) K
@[go_sem ↓] theorem Ysz (K:Nat→Prop):xFO prog 399 0 K=K 0:=ZV (by kernel_rfl) K
@[go_sem ↓] theorem Yzj (K:Nat→Prop):xFO prog 399 1 K=K 4:=ZV (by kernel_rfl) K
@[go_sem ↓] theorem Yyj (K:Nat→Prop):xFO prog 399 2 K=K 28:=ZV (by kernel_rfl) K
@[go_sem ↓] theorem Yxs (K:Nat→Prop):xFO prog 403 0 K=K 0:=ZV (by kernel_rfl) K
@[go_sem ↓] theorem Yxt (K:Nat→Prop):xFO prog 403 1 K=K 1:=ZV (by kernel_rfl) K
@[go_sem ↓] theorem Yxj (K:Nat→Prop):xFO prog 427 0 K=K 0:=ZV (by kernel_rfl) K
@[go_sem ↓] theorem Yro (K:Nat→Prop):xFO prog 427 1 K=K 2:=ZV (by kernel_rfl) K
@[go_sem] theorem Yul:tSh prog 25 = .sl 22 1 8:=by kernel_rfl
@[go_sem] theorem Yyb:tSh prog 26 = .sl 100 6 48:=by kernel_rfl
@[go_sem] theorem Zxj:tSh prog 27 = .sl 3 1 8:=by kernel_rfl
@[go_sem] theorem Ypu:tSh prog 28 = .sl 153 4 32:=by kernel_rfl
@[go_sem] theorem Ygj:tSh prog 29 = .sl 156 3 24:=by kernel_rfl
@[go_sem] theorem Ywr:tSh prog 30 = .sl 125 33 296:=by kernel_rfl
@[go_sem] theorem Ywy:tSh prog 31 = .sl 5 1 1:=by kernel_rfl
@[go_sem] theorem Ywk:tSh prog 32 = .sl 31 1 24:=by kernel_rfl
@[go_sem] theorem tSh_45:tSh prog 45 = .sl 137 6 48:=by kernel_rfl
@[go_sem] theorem tSh_46:tSh prog 46 = .sl 249 4 32:=by kernel_rfl
@[go_sem] theorem tSh_47:tSh prog 47 = .sl 250 3 24:=by kernel_rfl
@[go_sem] theorem tSh_48:tSh prog 48 = .sl 175 33 296:=by kernel_rfl
@[go_sem] theorem tSh_120:tSh prog 120 = .sl 225 2 16:=by kernel_rfl
@[go_sem] theorem tSh_187:tSh prog 187 = .ar 8 9 1:=by kernel_rfl
@[go_sem] theorem tSh_201:tSh prog 201 = .sl 98 4 32:=by kernel_rfl
@[go_sem] theorem tSh_316:tSh prog 316 = .sl 4 1 1:=by kernel_rfl
@[go_sem] theorem tSh_318:tSh prog 318 = .sl 37 1 8:=by kernel_rfl
@[go_sem] theorem tSh_354:tSh prog 354 = .sl 40 1 8:=by kernel_rfl
@[go_sem ↓] theorem xSlh_27 (a:Option Addr)(n c:Nat)(k:IntKind)(j:Int)(h0:0≤j)(h1:j≤(c:Int))(K:Value→Prop):xSl prog 27 (.slice a n c) none (some (.int k j)) none K=K (.slice a j.toNat c):=Yhu Zxj a n c k j h0 h1 K
@[go_sem ↓] theorem xSlh_29 (a:Option Addr)(n c:Nat)(k:IntKind)(j:Int)(h0:0≤j)(h1:j≤(c:Int))(K:Value→Prop):xSl prog 29 (.slice a n c) none (some (.int k j)) none K=K (.slice a j.toNat c):=Yhu Ygj a n c k j h0 h1 K
@[go_sem ↓] theorem xBeq_25 (x y:Operand)(a:Option Addr)(n c:Nat)(K:Value→Prop):VW prog .eql 25 x y (.slice a n c) (.slice none 0 0) K=K (.bool a.isNone):=WW Yul x y a n c K
@[go_sem ↓] theorem xBeq_26 (x y:Operand)(a:Option Addr)(n c:Nat)(K:Value→Prop):VW prog .eql 26 x y (.slice a n c) (.slice none 0 0) K=K (.bool a.isNone):=WW Yyb x y a n c K
@[go_sem ↓] theorem xBeq_27 (x y:Operand)(a:Option Addr)(n c:Nat)(K:Value→Prop):VW prog .eql 27 x y (.slice a n c) (.slice none 0 0) K=K (.bool a.isNone):=WW Zxj x y a n c K
@[go_sem ↓] theorem xBeq_28 (x y:Operand)(a:Option Addr)(n c:Nat)(K:Value→Prop):VW prog .eql 28 x y (.slice a n c) (.slice none 0 0) K=K (.bool a.isNone):=WW Ypu x y a n c K
@[go_sem ↓] theorem xBeq_29 (x y:Operand)(a:Option Addr)(n c:Nat)(K:Value→Prop):VW prog .eql 29 x y (.slice a n c) (.slice none 0 0) K=K (.bool a.isNone):=WW Ygj x y a n c K
@[go_sem ↓] theorem xBeq_30 (x y:Operand)(a:Option Addr)(n c:Nat)(K:Value→Prop):VW prog .eql 30 x y (.slice a n c) (.slice none 0 0) K=K (.bool a.isNone):=WW Ywr x y a n c K
@[go_sem ↓] theorem xBeq_31 (x y:Operand)(a:Option Addr)(n c:Nat)(K:Value→Prop):VW prog .eql 31 x y (.slice a n c) (.slice none 0 0) K=K (.bool a.isNone):=WW Ywy x y a n c K
@[go_sem ↓] theorem xBeq_32 (x y:Operand)(a:Option Addr)(n c:Nat)(K:Value→Prop):VW prog .eql 32 x y (.slice a n c) (.slice none 0 0) K=K (.bool a.isNone):=WW Ywk x y a n c K
@[go_sem ↓] theorem Wer (x y:Operand)(a:Option Addr)(K:Value→Prop):VW prog .eql 111 x y (.pointer a) (.pointer none) K=K (.bool a.isNone):=Zkx (T:=111) (e:=220) (by kernel_rfl) x y a K
@[go_sem ↓] theorem xSlm_27 (a:Option Addr)(n c:Nat)(k l:IntKind)(i j:Int)(h0:0≤i)(h1:i≤j)(h2:j≤(c:Int))(K:Value→Prop):xSl prog 27 (.slice a n c) (some (.int k i)) (some (.int l j)) none K=K (.slice (JY a c i.toNat 1) (j.toNat-i.toNat) (c-i.toNat)):=Zgc Zxj a n c k l i j h0 h1 h2 K
@[go_sem ↓] theorem xLen_25 (ty:Nat)(a:Option Addr)(n c:Nat)(K:Value→Prop):Zab prog ty #[25] (.slice a n c) K=K (.int .i64 n):=Yu (T:=25) (e:=22) (by kernel_rfl) a n c
@[go_sem ↓] theorem xLen_26 (ty:Nat)(a:Option Addr)(n c:Nat)(K:Value→Prop):Zab prog ty #[26] (.slice a n c) K=K (.int .i64 n):=Yu (T:=26) (e:=100) (by kernel_rfl) a n c
@[go_sem ↓] theorem xLen_27 (ty:Nat)(a:Option Addr)(n c:Nat)(K:Value→Prop):Zab prog ty #[27] (.slice a n c) K=K (.int .i64 n):=Yu (T:=27) (e:=3) (by kernel_rfl) a n c
@[go_sem ↓] theorem xLen_28 (ty:Nat)(a:Option Addr)(n c:Nat)(K:Value→Prop):Zab prog ty #[28] (.slice a n c) K=K (.int .i64 n):=Yu (T:=28) (e:=153) (by kernel_rfl) a n c
@[go_sem ↓] theorem xLen_29 (ty:Nat)(a:Option Addr)(n c:Nat)(K:Value→Prop):Zab prog ty #[29] (.slice a n c) K=K (.int .i64 n):=Yu (T:=29) (e:=156) (by kernel_rfl) a n c
@[go_sem ↓] theorem xLen_30 (ty:Nat)(a:Option Addr)(n c:Nat)(K:Value→Prop):Zab prog ty #[30] (.slice a n c) K=K (.int .i64 n):=Yu (T:=30) (e:=125) (by kernel_rfl) a n c
@[go_sem ↓] theorem xLen_31 (ty:Nat)(a:Option Addr)(n c:Nat)(K:Value→Prop):Zab prog ty #[31] (.slice a n c) K=K (.int .i64 n):=Yu (T:=31) (e:=5) (by kernel_rfl) a n c
@[go_sem ↓] theorem xLen_32 (ty:Nat)(a:Option Addr)(n c:Nat)(K:Value→Prop):Zab prog ty #[32] (.slice a n c) K=K (.int .i64 n):=Yu (T:=32) (e:=31) (by kernel_rfl) a n c
@[go_sem ↓] theorem xLen_45 (ty:Nat)(a:Option Addr)(n c:Nat)(K:Value→Prop):Zab prog ty #[45] (.slice a n c) K=K (.int .i64 n):=Yu (T:=45) (e:=137) (by kernel_rfl) a n c
@[go_sem ↓] theorem xLen_46 (ty:Nat)(a:Option Addr)(n c:Nat)(K:Value→Prop):Zab prog ty #[46] (.slice a n c) K=K (.int .i64 n):=Yu (T:=46) (e:=249) (by kernel_rfl) a n c
@[go_sem ↓] theorem xLen_47 (ty:Nat)(a:Option Addr)(n c:Nat)(K:Value→Prop):Zab prog ty #[47] (.slice a n c) K=K (.int .i64 n):=Yu (T:=47) (e:=250) (by kernel_rfl) a n c
@[go_sem ↓] theorem xLen_48 (ty:Nat)(a:Option Addr)(n c:Nat)(K:Value→Prop):Zab prog ty #[48] (.slice a n c) K=K (.int .i64 n):=Yu (T:=48) (e:=175) (by kernel_rfl) a n c
@[go_sem ↓] theorem Wfe (ty:Nat)(a:Option Addr)(n c:Nat)(K:Value→Prop):Zab prog ty #[120] (.slice a n c) K=K (.int .i64 n):=Yu (T:=120) (e:=225) (by kernel_rfl) a n c
@[go_sem ↓] theorem Wdy (ty:Nat)(a:Option Addr)(n c:Nat)(K:Value→Prop):Zab prog ty #[201] (.slice a n c) K=K (.int .i64 n):=Yu (T:=201) (e:=98) (by kernel_rfl) a n c
@[go_sem ↓] theorem Wby (ty:Nat)(a:Option Addr)(n c:Nat)(K:Value→Prop):Zab prog ty #[316] (.slice a n c) K=K (.int .i64 n):=Yu (T:=316) (e:=4) (by kernel_rfl) a n c
@[go_sem ↓] theorem Weo (ty:Nat)(a:Option Addr)(n c:Nat)(K:Value→Prop):Zab prog ty #[318] (.slice a n c) K=K (.int .i64 n):=Yu (T:=318) (e:=37) (by kernel_rfl) a n c
@[go_sem ↓] theorem War (ty:Nat)(a:Option Addr)(n c:Nat)(K:Value→Prop):Zab prog ty #[325] (.slice a n c) K=K (.int .i64 n):=Yu (T:=325) (e:=5) (by kernel_rfl) a n c
@[go_sem ↓] theorem Wfg (ty:Nat)(a:Option Addr)(n c:Nat)(K:Value→Prop):Zab prog ty #[354] (.slice a n c) K=K (.int .i64 n):=Yu (T:=354) (e:=40) (by kernel_rfl) a n c
@[go_sem ↓] theorem xBb_4 (x y:Operand)(a b:Bool)(K:Value→Prop):VW prog .eql 4 x y (.bool a) (.bool b) K=K (.bool (a == b)):=Zlh (T:=4) (by kernel_rfl) x y a b K
@[go_sem ↓] theorem xBn_4 (x y:Operand)(a b:Bool)(K:Value→Prop):VW prog .neq 4 x y (.bool a) (.bool b) K=K (.bool (!(a == b))):=Zmr (T:=4) (by kernel_rfl) x y a b K
@[go_sem ↓] theorem Yom (k:IntKind)(n:Int)(K:Value→Prop):Zda prog 3 22 (.int k n) K=K (.int .u64 (IntKind.u64.wrap n)):=Ui (s:=3) (d:=22) (ks:=.i64) (kd:=.u64) (by kernel_rfl) (by kernel_rfl) k n
@[go_sem ↓] theorem Yjo (k:IntKind)(n:Int)(K:Value→Prop):Zda prog 3 406 (.int k n) K=K (.int .u64 (IntKind.u64.wrap n)):=Ui (s:=3) (d:=406) (ks:=.i64) (kd:=.u64) (by kernel_rfl) (by kernel_rfl) k n
@[go_sem ↓] theorem Yqp (k:IntKind)(n:Int)(K:Value→Prop):Zda prog 5 3 (.int k n) K=K (.int .i64 (IntKind.i64.wrap n)):=Ui (s:=5) (d:=3) (ks:=.u8) (kd:=.i64) (by kernel_rfl) (by kernel_rfl) k n
@[go_sem ↓] theorem Yoi (k:IntKind)(n:Int)(K:Value→Prop):Zda prog 22 3 (.int k n) K=K (.int .i64 (IntKind.i64.wrap n)):=Ui (s:=22) (d:=3) (ks:=.u64) (kd:=.i64) (by kernel_rfl) (by kernel_rfl) k n
@[go_sem ↓] theorem Yod (k:IntKind)(n:Int)(K:Value→Prop):Zda prog 22 5 (.int k n) K=K (.int .u8 (IntKind.u8.wrap n)):=Ui (s:=22) (d:=5) (ks:=.u64) (kd:=.u8) (by kernel_rfl) (by kernel_rfl) k n
@[go_sem ↓] theorem Yjv (k:IntKind)(n:Int)(K:Value→Prop):Zda prog 406 3 (.int k n) K=K (.int .i64 (IntKind.i64.wrap n)):=Ui (s:=406) (d:=3) (ks:=.u64) (kd:=.i64) (by kernel_rfl) (by kernel_rfl) k n
theorem ZY:prog.follows .mixedOrders=true:=by kernel_rfl
end Go.X
