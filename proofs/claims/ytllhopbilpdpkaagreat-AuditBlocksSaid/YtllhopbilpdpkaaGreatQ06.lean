/- Lemmas and contracts. Conditions: as each says. -/
import Derived.KernelRfl
import Derived.Test.YtllhopbilpdpkaaGreatProg
import Derived.Test.YtllhopbilpdpkaaGreatQ04
set_option linter.unusedVariables false
set_option linter.unusedSimpArgs false
set_option maxHeartbeats 12800000
set_option maxRecDepth 20000
namespace Go.X
open Go.Proofs Go.Proofs.Tryz
theorem GE:tI prog 3=some ⟨1,false,[(.int .i64 0)],8⟩:=by kernel_rfl
@[go_sem ↓] theorem xTI_3 (K:TI→Prop):xTI prog 3 K=K ⟨1,false,[(.int .i64 0)],8⟩:=Yq GE K
theorem tI_4:tI prog 4=some ⟨1,false,[(.bool false)],1⟩:=by kernel_rfl
@[go_sem ↓] theorem xTI_4 (K:TI→Prop):xTI prog 4 K=K ⟨1,false,[(.bool false)],1⟩:=Yq tI_4 K
theorem Wax:tI prog 5=some ⟨1,false,[(.int .u8 0)],1⟩:=by kernel_rfl
@[go_sem ↓] theorem xTI_5 (K:TI→Prop):xTI prog 5 K=K ⟨1,false,[(.int .u8 0)],1⟩:=Yq Wax K
theorem tI_9:tI prog 9=some ⟨1,false,[(.string ⟨#[]⟩)],16⟩:=by kernel_rfl
@[go_sem ↓] theorem xTI_9 (K:TI→Prop):xTI prog 9 K=K ⟨1,false,[(.string ⟨#[]⟩)],16⟩:=Yq tI_9 K
theorem Ug:tI prog 22=some ⟨1,false,[(.int .u64 0)],8⟩:=by kernel_rfl
@[go_sem ↓] theorem xTI_22 (K:TI→Prop):xTI prog 22 K=K ⟨1,false,[(.int .u64 0)],8⟩:=Yq Ug K
theorem tI_24:tI prog 24=some ⟨24,true,[(.int .u64 0),(.int .u64 0),(.int .u64 0),(.int .u64 0),(.int .u64 0),(.int .u64 0),(.int .u64 0),(.int .u64 0),(.int .u64 0),(.int .u64 0),(.int .u64 0),(.int .u64 0),(.int .u64 0),(.int .u64 0),(.int .i64 0),(.int .i64 0),(.int .i64 0),(.int .i64 0),(.int .i64 0),(.int .i64 0),(.int .i64 0),(.int .i64 0),(.int .i64 0),(.int .i64 0)],192⟩:=by kernel_rfl
@[go_sem ↓] theorem xTI_24 (K:TI→Prop):xTI prog 24 K=K ⟨24,true,[(.int .u64 0),(.int .u64 0),(.int .u64 0),(.int .u64 0),(.int .u64 0),(.int .u64 0),(.int .u64 0),(.int .u64 0),(.int .u64 0),(.int .u64 0),(.int .u64 0),(.int .u64 0),(.int .u64 0),(.int .u64 0),(.int .i64 0),(.int .i64 0),(.int .i64 0),(.int .i64 0),(.int .i64 0),(.int .i64 0),(.int .i64 0),(.int .i64 0),(.int .i64 0),(.int .i64 0)],192⟩:=Yq tI_24 K
theorem tI_25:tI prog 25=some ⟨1,false,[(.slice none 0 0)],24⟩:=by kernel_rfl
@[go_sem ↓] theorem xTI_25 (K:TI→Prop):xTI prog 25 K=K ⟨1,false,[(.slice none 0 0)],24⟩:=Yq tI_25 K
theorem tI_26:tI prog 26=some ⟨1,false,[(.slice none 0 0)],24⟩:=by kernel_rfl
@[go_sem ↓] theorem xTI_26 (K:TI→Prop):xTI prog 26 K=K ⟨1,false,[(.slice none 0 0)],24⟩:=Yq tI_26 K
theorem tI_27:tI prog 27=some ⟨1,false,[(.slice none 0 0)],24⟩:=by kernel_rfl
@[go_sem ↓] theorem xTI_27 (K:TI→Prop):xTI prog 27 K=K ⟨1,false,[(.slice none 0 0)],24⟩:=Yq tI_27 K
theorem tI_28:tI prog 28=some ⟨1,false,[(.slice none 0 0)],24⟩:=by kernel_rfl
@[go_sem ↓] theorem xTI_28 (K:TI→Prop):xTI prog 28 K=K ⟨1,false,[(.slice none 0 0)],24⟩:=Yq tI_28 K
theorem tI_29:tI prog 29=some ⟨1,false,[(.slice none 0 0)],24⟩:=by kernel_rfl
@[go_sem ↓] theorem xTI_29 (K:TI→Prop):xTI prog 29 K=K ⟨1,false,[(.slice none 0 0)],24⟩:=Yq tI_29 K
theorem tI_30:tI prog 30=some ⟨1,false,[(.slice none 0 0)],24⟩:=by kernel_rfl
@[go_sem ↓] theorem xTI_30 (K:TI→Prop):xTI prog 30 K=K ⟨1,false,[(.slice none 0 0)],24⟩:=Yq tI_30 K
theorem Yks:tI prog 31=some ⟨1,false,[(.slice none 0 0)],24⟩:=by kernel_rfl
@[go_sem ↓] theorem xTI_31 (K:TI→Prop):xTI prog 31 K=K ⟨1,false,[(.slice none 0 0)],24⟩:=Yq Yks K
theorem tI_32:tI prog 32=some ⟨1,false,[(.slice none 0 0)],24⟩:=by kernel_rfl
@[go_sem ↓] theorem xTI_32 (K:TI→Prop):xTI prog 32 K=K ⟨1,false,[(.slice none 0 0)],24⟩:=Yq tI_32 K
theorem tI_34:tI prog 34=some ⟨41,true,[(.int .u64 0),(.int .u64 0),(.int .u64 0),(.int .u64 0),(.int .u64 0),(.int .u64 0),(.int .u64 0),(.int .u64 0),(.int .u64 0),(.int .u64 0),(.int .u64 0),(.int .u64 0),(.int .u64 0),(.int .u64 0),(.int .i64 0),(.int .i64 0),(.int .i64 0),(.int .i64 0),(.int .i64 0),(.int .i64 0),(.int .i64 0),(.int .i64 0),(.int .i64 0),(.int .i64 0),(.int .u64 0),(.int .u64 0),(.int .u64 0),(.int .u64 0),(.int .u64 0),(.int .i64 0),(.int .i64 0),(.bool false),(.slice none 0 0),(.slice none 0 0),(.slice none 0 0),(.slice none 0 0),(.slice none 0 0),(.slice none 0 0),(.slice none 0 0),(.slice none 0 0),(.slice none 0 0)],472⟩:=by kernel_rfl
@[go_sem ↓] theorem xTI_34 (K:TI→Prop):xTI prog 34 K=K ⟨41,true,[(.int .u64 0),(.int .u64 0),(.int .u64 0),(.int .u64 0),(.int .u64 0),(.int .u64 0),(.int .u64 0),(.int .u64 0),(.int .u64 0),(.int .u64 0),(.int .u64 0),(.int .u64 0),(.int .u64 0),(.int .u64 0),(.int .i64 0),(.int .i64 0),(.int .i64 0),(.int .i64 0),(.int .i64 0),(.int .i64 0),(.int .i64 0),(.int .i64 0),(.int .i64 0),(.int .i64 0),(.int .u64 0),(.int .u64 0),(.int .u64 0),(.int .u64 0),(.int .u64 0),(.int .i64 0),(.int .i64 0),(.bool false),(.slice none 0 0),(.slice none 0 0),(.slice none 0 0),(.slice none 0 0),(.slice none 0 0),(.slice none 0 0),(.slice none 0 0),(.slice none 0 0),(.slice none 0 0)],472⟩:=Yq tI_34 K
theorem tI_35:tI prog 35=some ⟨1,false,[.nilFunc],8⟩:=by kernel_rfl
@[go_sem ↓] theorem xTI_35 (K:TI→Prop):xTI prog 35 K=K ⟨1,false,[.nilFunc],8⟩:=Yq tI_35 K
theorem tI_39:tI prog 39=some ⟨24,true,[(.int .u64 0),(.int .u64 0),(.int .u64 0),(.int .u64 0),(.int .u64 0),(.int .u64 0),(.int .u64 0),(.int .u64 0),(.int .u64 0),(.int .u64 0),(.int .u64 0),(.int .u64 0),(.int .u64 0),(.int .u64 0),(.int .i64 0),(.int .i64 0),(.int .i64 0),(.int .i64 0),(.int .i64 0),(.int .i64 0),(.int .i64 0),(.int .i64 0),(.int .i64 0),(.int .i64 0)],192⟩:=by kernel_rfl
@[go_sem ↓] theorem xTI_39 (K:TI→Prop):xTI prog 39 K=K ⟨24,true,[(.int .u64 0),(.int .u64 0),(.int .u64 0),(.int .u64 0),(.int .u64 0),(.int .u64 0),(.int .u64 0),(.int .u64 0),(.int .u64 0),(.int .u64 0),(.int .u64 0),(.int .u64 0),(.int .u64 0),(.int .u64 0),(.int .i64 0),(.int .i64 0),(.int .i64 0),(.int .i64 0),(.int .i64 0),(.int .i64 0),(.int .i64 0),(.int .i64 0),(.int .i64 0),(.int .i64 0)],192⟩:=Yq tI_39 K
theorem tI_40:tI prog 40=some ⟨1,false,[(.slice none 0 0)],24⟩:=by kernel_rfl
@[go_sem ↓] theorem xTI_40 (K:TI→Prop):xTI prog 40 K=K ⟨1,false,[(.slice none 0 0)],24⟩:=Yq tI_40 K
theorem tI_41:tI prog 41=some ⟨1,false,[(.slice none 0 0)],24⟩:=by kernel_rfl
@[go_sem ↓] theorem xTI_41 (K:TI→Prop):xTI prog 41 K=K ⟨1,false,[(.slice none 0 0)],24⟩:=Yq tI_41 K
theorem tI_42:tI prog 42=some ⟨1,false,[(.slice none 0 0)],24⟩:=by kernel_rfl
@[go_sem ↓] theorem xTI_42 (K:TI→Prop):xTI prog 42 K=K ⟨1,false,[(.slice none 0 0)],24⟩:=Yq tI_42 K
theorem tI_43:tI prog 43=some ⟨1,false,[(.slice none 0 0)],24⟩:=by kernel_rfl
@[go_sem ↓] theorem xTI_43 (K:TI→Prop):xTI prog 43 K=K ⟨1,false,[(.slice none 0 0)],24⟩:=Yq tI_43 K
theorem tI_45:tI prog 45=some ⟨41,true,[(.int .u64 0),(.int .u64 0),(.int .u64 0),(.int .u64 0),(.int .u64 0),(.int .u64 0),(.int .u64 0),(.int .u64 0),(.int .u64 0),(.int .u64 0),(.int .u64 0),(.int .u64 0),(.int .u64 0),(.int .u64 0),(.int .i64 0),(.int .i64 0),(.int .i64 0),(.int .i64 0),(.int .i64 0),(.int .i64 0),(.int .i64 0),(.int .i64 0),(.int .i64 0),(.int .i64 0),(.int .u64 0),(.int .u64 0),(.int .u64 0),(.int .u64 0),(.int .u64 0),(.int .i64 0),(.int .i64 0),(.bool false),(.slice none 0 0),(.slice none 0 0),(.slice none 0 0),(.slice none 0 0),(.slice none 0 0),(.slice none 0 0),(.slice none 0 0),(.slice none 0 0),(.slice none 0 0)],472⟩:=by kernel_rfl
@[go_sem ↓] theorem xTI_45 (K:TI→Prop):xTI prog 45 K=K ⟨41,true,[(.int .u64 0),(.int .u64 0),(.int .u64 0),(.int .u64 0),(.int .u64 0),(.int .u64 0),(.int .u64 0),(.int .u64 0),(.int .u64 0),(.int .u64 0),(.int .u64 0),(.int .u64 0),(.int .u64 0),(.int .u64 0),(.int .i64 0),(.int .i64 0),(.int .i64 0),(.int .i64 0),(.int .i64 0),(.int .i64 0),(.int .i64 0),(.int .i64 0),(.int .i64 0),(.int .i64 0),(.int .u64 0),(.int .u64 0),(.int .u64 0),(.int .u64 0),(.int .u64 0),(.int .i64 0),(.int .i64 0),(.bool false),(.slice none 0 0),(.slice none 0 0),(.slice none 0 0),(.slice none 0 0),(.slice none 0 0),(.slice none 0 0),(.slice none 0 0),(.slice none 0 0),(.slice none 0 0)],472⟩:=Yq tI_45 K
theorem tI_49:tI prog 49=some ⟨1,false,[(.int .i64 0)],8⟩:=by kernel_rfl
@[go_sem ↓] theorem xTI_49 (K:TI→Prop):xTI prog 49 K=K ⟨1,false,[(.int .i64 0)],8⟩:=Yq tI_49 K
theorem tI_63:tI prog 63=some ⟨14,true,[(.int .i64 0),(.int .i64 0),(.bool false),(.int .u64 0),(.int .u64 0),(.int .u64 0),(.int .u64 0),(.int .u64 0),(.int .u64 0),(.int .u64 0),(.slice none 0 0),(.slice none 0 0),(.slice none 0 0),(.slice none 0 0)],176⟩:=by kernel_rfl
@[go_sem ↓] theorem xTI_63 (K:TI→Prop):xTI prog 63 K=K ⟨14,true,[(.int .i64 0),(.int .i64 0),(.bool false),(.int .u64 0),(.int .u64 0),(.int .u64 0),(.int .u64 0),(.int .u64 0),(.int .u64 0),(.int .u64 0),(.slice none 0 0),(.slice none 0 0),(.slice none 0 0),(.slice none 0 0)],176⟩:=Yq tI_63 K
theorem Yml:tI prog 72=some ⟨4,true,[(.int .u64 0),(.int .u64 0),(.int .u64 0),(.int .i64 0)],32⟩:=by kernel_rfl
@[go_sem ↓] theorem xTI_72 (K:TI→Prop):xTI prog 72 K=K ⟨4,true,[(.int .u64 0),(.int .u64 0),(.int .u64 0),(.int .i64 0)],32⟩:=Yq Yml K
theorem Ybw:tI prog 74=some ⟨6,true,[(.int .u64 0),(.int .u64 0),(.int .u64 0),(.int .i64 0),(.int .i64 0),(.int .i64 0)],48⟩:=by kernel_rfl
@[go_sem ↓] theorem xTI_74 (K:TI→Prop):xTI prog 74 K=K ⟨6,true,[(.int .u64 0),(.int .u64 0),(.int .u64 0),(.int .i64 0),(.int .i64 0),(.int .i64 0)],48⟩:=Yq Ybw K
theorem Yps:tI prog 114=some ⟨1,false,[(.slice none 0 0)],24⟩:=by kernel_rfl
@[go_sem ↓] theorem xTI_114 (K:TI→Prop):xTI prog 114 K=K ⟨1,false,[(.slice none 0 0)],24⟩:=Yq Yps K
theorem Ytq:tI prog 116=some ⟨27,true,[(.int .u64 0),(.int .u64 0),(.int .u64 0),(.int .u64 0),(.int .u64 0),(.int .u64 0),(.int .u64 0),(.int .u64 0),(.int .u64 0),(.int .u64 0),(.int .u64 0),(.int .u64 0),(.int .u64 0),(.int .u64 0),(.int .i64 0),(.int .i64 0),(.int .i64 0),(.int .i64 0),(.int .i64 0),(.int .i64 0),(.int .i64 0),(.int .i64 0),(.int .i64 0),(.int .i64 0),(.int .u64 0),(.slice none 0 0),(.slice none 0 0)],248⟩:=by kernel_rfl
@[go_sem ↓] theorem xTI_116 (K:TI→Prop):xTI prog 116 K=K ⟨27,true,[(.int .u64 0),(.int .u64 0),(.int .u64 0),(.int .u64 0),(.int .u64 0),(.int .u64 0),(.int .u64 0),(.int .u64 0),(.int .u64 0),(.int .u64 0),(.int .u64 0),(.int .u64 0),(.int .u64 0),(.int .u64 0),(.int .i64 0),(.int .i64 0),(.int .i64 0),(.int .i64 0),(.int .i64 0),(.int .i64 0),(.int .i64 0),(.int .i64 0),(.int .i64 0),(.int .i64 0),(.int .u64 0),(.slice none 0 0),(.slice none 0 0)],248⟩:=Yq Ytq K
theorem Yih:tI prog 120=some ⟨33,true,[(.int .i64 0),(.int .i64 0),(.int .u64 0),(.int .u64 0),(.int .u64 0),(.int .u64 0),(.int .u64 0),(.int .u64 0),(.int .u64 0),(.int .u64 0),(.int .u64 0),(.int .u64 0),(.int .u64 0),(.int .u64 0),(.int .u64 0),(.int .u64 0),(.int .i64 0),(.int .i64 0),(.int .i64 0),(.int .i64 0),(.int .i64 0),(.int .i64 0),(.int .i64 0),(.int .i64 0),(.int .i64 0),(.int .i64 0),(.int .i64 0),(.int .u64 0),(.int .i64 0),(.int .i64 0),(.int .i64 0),(.slice none 0 0),(.slice none 0 0)],296⟩:=by kernel_rfl
@[go_sem ↓] theorem xTI_120 (K:TI→Prop):xTI prog 120 K=K ⟨33,true,[(.int .i64 0),(.int .i64 0),(.int .u64 0),(.int .u64 0),(.int .u64 0),(.int .u64 0),(.int .u64 0),(.int .u64 0),(.int .u64 0),(.int .u64 0),(.int .u64 0),(.int .u64 0),(.int .u64 0),(.int .u64 0),(.int .u64 0),(.int .u64 0),(.int .i64 0),(.int .i64 0),(.int .i64 0),(.int .i64 0),(.int .i64 0),(.int .i64 0),(.int .i64 0),(.int .i64 0),(.int .i64 0),(.int .i64 0),(.int .i64 0),(.int .u64 0),(.int .i64 0),(.int .i64 0),(.int .i64 0),(.slice none 0 0),(.slice none 0 0)],296⟩:=Yq Yih K
theorem Yvw:tI prog 122=some ⟨4,true,[(.int .u64 0),(.int .u64 0),(.int .u64 0),(.int .i64 0)],32⟩:=by kernel_rfl
@[go_sem ↓] theorem xTI_122 (K:TI→Prop):xTI prog 122 K=K ⟨4,true,[(.int .u64 0),(.int .u64 0),(.int .u64 0),(.int .i64 0)],32⟩:=Yq Yvw K
theorem Ygq:tI prog 124=some ⟨6,true,[(.int .u64 0),(.int .u64 0),(.int .u64 0),(.int .i64 0),(.int .i64 0),(.int .i64 0)],48⟩:=by kernel_rfl
@[go_sem ↓] theorem xTI_124 (K:TI→Prop):xTI prog 124 K=K ⟨6,true,[(.int .u64 0),(.int .u64 0),(.int .u64 0),(.int .i64 0),(.int .i64 0),(.int .i64 0)],48⟩:=Yq Ygq K
theorem Yuy:tI prog 129=some ⟨8,true,[(.string ⟨#[]⟩),(.string ⟨#[]⟩),(.string ⟨#[]⟩),(.string ⟨#[]⟩),(.string ⟨#[]⟩),(.string ⟨#[]⟩),(.string ⟨#[]⟩),(.string ⟨#[]⟩)],128⟩:=by kernel_rfl
@[go_sem ↓] theorem xTI_129 (K:TI→Prop):xTI prog 129 K=K ⟨8,true,[(.string ⟨#[]⟩),(.string ⟨#[]⟩),(.string ⟨#[]⟩),(.string ⟨#[]⟩),(.string ⟨#[]⟩),(.string ⟨#[]⟩),(.string ⟨#[]⟩),(.string ⟨#[]⟩)],128⟩:=Yq Yuy K
theorem Ywg:tI prog 132=some ⟨41,true,[(.int .u64 0),(.int .u64 0),(.int .u64 0),(.int .u64 0),(.int .u64 0),(.int .u64 0),(.int .u64 0),(.int .u64 0),(.int .u64 0),(.int .u64 0),(.int .u64 0),(.int .u64 0),(.int .u64 0),(.int .u64 0),(.int .i64 0),(.int .i64 0),(.int .i64 0),(.int .i64 0),(.int .i64 0),(.int .i64 0),(.int .i64 0),(.int .i64 0),(.int .i64 0),(.int .i64 0),(.int .u64 0),(.int .u64 0),(.int .u64 0),(.int .u64 0),(.int .u64 0),(.int .i64 0),(.int .i64 0),(.bool false),(.slice none 0 0),(.slice none 0 0),(.slice none 0 0),(.slice none 0 0),(.slice none 0 0),(.slice none 0 0),(.slice none 0 0),(.slice none 0 0),(.slice none 0 0)],472⟩:=by kernel_rfl
@[go_sem ↓] theorem xTI_132 (K:TI→Prop):xTI prog 132 K=K ⟨41,true,[(.int .u64 0),(.int .u64 0),(.int .u64 0),(.int .u64 0),(.int .u64 0),(.int .u64 0),(.int .u64 0),(.int .u64 0),(.int .u64 0),(.int .u64 0),(.int .u64 0),(.int .u64 0),(.int .u64 0),(.int .u64 0),(.int .i64 0),(.int .i64 0),(.int .i64 0),(.int .i64 0),(.int .i64 0),(.int .i64 0),(.int .i64 0),(.int .i64 0),(.int .i64 0),(.int .i64 0),(.int .u64 0),(.int .u64 0),(.int .u64 0),(.int .u64 0),(.int .u64 0),(.int .i64 0),(.int .i64 0),(.bool false),(.slice none 0 0),(.slice none 0 0),(.slice none 0 0),(.slice none 0 0),(.slice none 0 0),(.slice none 0 0),(.slice none 0 0),(.slice none 0 0),(.slice none 0 0)],472⟩:=Yq Ywg K
theorem Ysu:tI prog 144=some ⟨1,true,[(.slice none 0 0)],24⟩:=by kernel_rfl
@[go_sem ↓] theorem xTI_144 (K:TI→Prop):xTI prog 144 K=K ⟨1,true,[(.slice none 0 0)],24⟩:=Yq Ysu K
theorem Yzl:tI prog 149=some ⟨1,false,[(.slice none 0 0)],24⟩:=by kernel_rfl
@[go_sem ↓] theorem xTI_149 (K:TI→Prop):xTI prog 149 K=K ⟨1,false,[(.slice none 0 0)],24⟩:=Yq Yzl K
theorem Yut:tI prog 152=some ⟨1,false,[(.pointer none)],8⟩:=by kernel_rfl
@[go_sem ↓] theorem xTI_152 (K:TI→Prop):xTI prog 152 K=K ⟨1,false,[(.pointer none)],8⟩:=Yq Yut K
theorem Zdw:tI prog 164=some ⟨4,true,[(.int .i64 0),(.int .i64 0),(.int .u64 0),(.bool false)],32⟩:=by kernel_rfl
@[go_sem ↓] theorem xTI_164 (K:TI→Prop):xTI prog 164 K=K ⟨4,true,[(.int .i64 0),(.int .i64 0),(.int .u64 0),(.bool false)],32⟩:=Yq Zdw K
theorem UI:tI prog 167=some ⟨3,true,[(.int .i64 0),(.int .i64 0),(.int .u64 0)],24⟩:=by kernel_rfl
@[go_sem ↓] theorem xTI_167 (K:TI→Prop):xTI prog 167 K=K ⟨3,true,[(.int .i64 0),(.int .i64 0),(.int .u64 0)],24⟩:=Yq UI K
theorem Yvp:tI prog 180=some ⟨9,true,[(.int .u64 0),(.int .u64 0),(.int .u64 0),(.int .u64 0),(.int .u64 0),(.slice none 0 0),(.slice none 0 0),(.slice none 0 0),(.slice none 0 0)],136⟩:=by kernel_rfl
@[go_sem ↓] theorem xTI_180 (K:TI→Prop):xTI prog 180 K=K ⟨9,true,[(.int .u64 0),(.int .u64 0),(.int .u64 0),(.int .u64 0),(.int .u64 0),(.slice none 0 0),(.slice none 0 0),(.slice none 0 0),(.slice none 0 0)],136⟩:=Yq Yvp K
theorem Yhd:tI prog 184=some ⟨33,true,[(.int .i64 0),(.int .i64 0),(.int .u64 0),(.int .u64 0),(.int .u64 0),(.int .u64 0),(.int .u64 0),(.int .u64 0),(.int .u64 0),(.int .u64 0),(.int .u64 0),(.int .u64 0),(.int .u64 0),(.int .u64 0),(.int .u64 0),(.int .u64 0),(.int .i64 0),(.int .i64 0),(.int .i64 0),(.int .i64 0),(.int .i64 0),(.int .i64 0),(.int .i64 0),(.int .i64 0),(.int .i64 0),(.int .i64 0),(.int .i64 0),(.int .u64 0),(.int .i64 0),(.int .i64 0),(.int .i64 0),(.slice none 0 0),(.slice none 0 0)],296⟩:=by kernel_rfl
@[go_sem ↓] theorem xTI_184 (K:TI→Prop):xTI prog 184 K=K ⟨33,true,[(.int .i64 0),(.int .i64 0),(.int .u64 0),(.int .u64 0),(.int .u64 0),(.int .u64 0),(.int .u64 0),(.int .u64 0),(.int .u64 0),(.int .u64 0),(.int .u64 0),(.int .u64 0),(.int .u64 0),(.int .u64 0),(.int .u64 0),(.int .u64 0),(.int .i64 0),(.int .i64 0),(.int .i64 0),(.int .i64 0),(.int .i64 0),(.int .i64 0),(.int .i64 0),(.int .i64 0),(.int .i64 0),(.int .i64 0),(.int .i64 0),(.int .u64 0),(.int .i64 0),(.int .i64 0),(.int .i64 0),(.slice none 0 0),(.slice none 0 0)],296⟩:=Yq Yhd K
theorem Yfv:tI prog 216=some ⟨3,true,[(.int .i64 0),(.int .i64 0),(.int .u64 0)],24⟩:=by kernel_rfl
@[go_sem ↓] theorem xTI_216 (K:TI→Prop):xTI prog 216 K=K ⟨3,true,[(.int .i64 0),(.int .i64 0),(.int .u64 0)],24⟩:=Yq Yfv K
theorem Yxa:tI prog 223=some ⟨2,true,[(.int .i64 0),(.int .u64 0)],16⟩:=by kernel_rfl
@[go_sem ↓] theorem xTI_223 (K:TI→Prop):xTI prog 223 K=K ⟨2,true,[(.int .i64 0),(.int .u64 0)],16⟩:=Yq Yxa K
theorem Ypt:tI prog 228=some ⟨96,true,[(.int .u64 0),(.int .u64 0),(.int .u64 0),(.int .u64 0),(.int .u64 0),(.int .u64 0),(.int .u64 0),(.int .u64 0),(.int .u64 0),(.int .u64 0),(.int .u64 0),(.int .u64 0),(.int .u64 0),(.int .u64 0),(.int .i64 0),(.int .i64 0),(.int .i64 0),(.int .i64 0),(.int .i64 0),(.int .i64 0),(.int .i64 0),(.int .i64 0),(.int .i64 0),(.int .i64 0),(.int .u64 0),(.int .u64 0),(.int .u64 0),(.int .u64 0),(.int .u64 0),(.int .i64 0),(.int .i64 0),(.bool false),(.slice none 0 0),(.slice none 0 0),(.slice none 0 0),(.slice none 0 0),(.slice none 0 0),(.slice none 0 0),(.slice none 0 0),(.slice none 0 0),(.slice none 0 0),(.int .u64 0),(.int .u64 0),(.int .u64 0),(.int .u64 0),(.int .u64 0),(.int .u64 0),(.int .u64 0),(.int .u64 0),(.int .u64 0),(.int .u64 0),(.int .u64 0),(.int .u64 0),(.int .u64 0),(.int .u64 0),(.int .i64 0),(.int .i64 0),(.int .i64 0),(.int .i64 0),(.int .i64 0),(.int .i64 0),(.int .i64 0),(.int .i64 0),(.int .i64 0),(.int .i64 0),(.int .u64 0),(.int .u64 0),(.int .u64 0),(.int .u64 0),(.int .u64 0),(.int .i64 0),(.int .i64 0),(.bool false),(.slice none 0 0),(.slice none 0 0),(.slice none 0 0),(.slice none 0 0),(.slice none 0 0),(.slice none 0 0),(.slice none 0 0),(.slice none 0 0),(.slice none 0 0),(.int .i64 0),(.int .i64 0),(.bool false),(.int .u64 0),(.int .u64 0),(.int .u64 0),(.int .u64 0),(.int .u64 0),(.int .u64 0),(.int .u64 0),(.slice none 0 0),(.slice none 0 0),(.slice none 0 0),(.slice none 0 0)],1120⟩:=by kernel_rfl
@[go_sem ↓] theorem xTI_228 (K:TI→Prop):xTI prog 228 K=K ⟨96,true,[(.int .u64 0),(.int .u64 0),(.int .u64 0),(.int .u64 0),(.int .u64 0),(.int .u64 0),(.int .u64 0),(.int .u64 0),(.int .u64 0),(.int .u64 0),(.int .u64 0),(.int .u64 0),(.int .u64 0),(.int .u64 0),(.int .i64 0),(.int .i64 0),(.int .i64 0),(.int .i64 0),(.int .i64 0),(.int .i64 0),(.int .i64 0),(.int .i64 0),(.int .i64 0),(.int .i64 0),(.int .u64 0),(.int .u64 0),(.int .u64 0),(.int .u64 0),(.int .u64 0),(.int .i64 0),(.int .i64 0),(.bool false),(.slice none 0 0),(.slice none 0 0),(.slice none 0 0),(.slice none 0 0),(.slice none 0 0),(.slice none 0 0),(.slice none 0 0),(.slice none 0 0),(.slice none 0 0),(.int .u64 0),(.int .u64 0),(.int .u64 0),(.int .u64 0),(.int .u64 0),(.int .u64 0),(.int .u64 0),(.int .u64 0),(.int .u64 0),(.int .u64 0),(.int .u64 0),(.int .u64 0),(.int .u64 0),(.int .u64 0),(.int .i64 0),(.int .i64 0),(.int .i64 0),(.int .i64 0),(.int .i64 0),(.int .i64 0),(.int .i64 0),(.int .i64 0),(.int .i64 0),(.int .i64 0),(.int .u64 0),(.int .u64 0),(.int .u64 0),(.int .u64 0),(.int .u64 0),(.int .i64 0),(.int .i64 0),(.bool false),(.slice none 0 0),(.slice none 0 0),(.slice none 0 0),(.slice none 0 0),(.slice none 0 0),(.slice none 0 0),(.slice none 0 0),(.slice none 0 0),(.slice none 0 0),(.int .i64 0),(.int .i64 0),(.bool false),(.int .u64 0),(.int .u64 0),(.int .u64 0),(.int .u64 0),(.int .u64 0),(.int .u64 0),(.int .u64 0),(.slice none 0 0),(.slice none 0 0),(.slice none 0 0),(.slice none 0 0)],1120⟩:=Yq Ypt K
theorem Zep:tI prog 233=some ⟨4,true,[(.int .i64 0),(.int .i64 0),(.int .u64 0),(.bool false)],32⟩:=by kernel_rfl
@[go_sem ↓] theorem xTI_233 (K:TI→Prop):xTI prog 233 K=K ⟨4,true,[(.int .i64 0),(.int .i64 0),(.int .u64 0),(.bool false)],32⟩:=Yq Zep K
theorem Yqs:tI prog 244=some ⟨5,true,[(.int .u64 0),(.int .u64 0),(.int .u64 0),(.int .u64 0),(.int .u64 0)],40⟩:=by kernel_rfl
@[go_sem ↓] theorem xTI_244 (K:TI→Prop):xTI prog 244 K=K ⟨5,true,[(.int .u64 0),(.int .u64 0),(.int .u64 0),(.int .u64 0),(.int .u64 0)],40⟩:=Yq Yqs K
theorem Yzz:tI prog 386=some ⟨3,true,[(.int .u64 0),(.int .u64 0),(.int .u64 0)],24⟩:=by kernel_rfl
@[go_sem ↓] theorem xTI_386 (K:TI→Prop):xTI prog 386 K=K ⟨3,true,[(.int .u64 0),(.int .u64 0),(.int .u64 0)],24⟩:=Yq Yzz K
theorem Ywx:tI prog 393=some ⟨24,true,[(.int .u64 0),(.int .u64 0),(.int .u64 0),(.int .u64 0),(.int .u64 0),(.int .u64 0),(.int .u64 0),(.int .u64 0),(.int .u64 0),(.int .u64 0),(.int .u64 0),(.int .u64 0),(.int .u64 0),(.int .u64 0),(.int .i64 0),(.int .i64 0),(.int .i64 0),(.int .i64 0),(.int .i64 0),(.int .i64 0),(.int .i64 0),(.int .i64 0),(.int .i64 0),(.int .i64 0)],192⟩:=by kernel_rfl
@[go_sem ↓] theorem xTI_393 (K:TI→Prop):xTI prog 393 K=K ⟨24,true,[(.int .u64 0),(.int .u64 0),(.int .u64 0),(.int .u64 0),(.int .u64 0),(.int .u64 0),(.int .u64 0),(.int .u64 0),(.int .u64 0),(.int .u64 0),(.int .u64 0),(.int .u64 0),(.int .u64 0),(.int .u64 0),(.int .i64 0),(.int .i64 0),(.int .i64 0),(.int .i64 0),(.int .i64 0),(.int .i64 0),(.int .i64 0),(.int .i64 0),(.int .i64 0),(.int .i64 0)],192⟩:=Yq Ywx K
theorem Yyc:tI prog 414=some ⟨2,true,[(.int .u64 0),(.int .u64 0)],16⟩:=by kernel_rfl
@[go_sem ↓] theorem xTI_414 (K:TI→Prop):xTI prog 414 K=K ⟨2,true,[(.int .u64 0),(.int .u64 0)],16⟩:=Yq Yyc K
@[go_sem ↓] theorem Yqf (ps:List (Nat×Value))(K:Value→Prop):YW prog 24 ps.toArray K=Yp [(.int .u64 0),(.int .u64 0),(.int .u64 0),(.int .u64 0),(.int .u64 0),(.int .u64 0),(.int .u64 0),(.int .u64 0),(.int .u64 0),(.int .u64 0),(.int .u64 0),(.int .u64 0),(.int .u64 0),(.int .u64 0),(.int .i64 0),(.int .i64 0),(.int .i64 0),(.int .i64 0),(.int .i64 0),(.int .i64 0),(.int .i64 0),(.int .i64 0),(.int .i64 0),(.int .i64 0)] [(0,1),(1,1),(2,1),(3,1),(4,1),(5,1),(6,1),(7,1),(8,1),(9,1),(10,1),(11,1),(12,1),(13,1),(14,1),(15,1),(16,1),(17,1),(18,1),(19,1),(20,1),(21,1),(22,1),(23,1)] ps fun z'=>K (.agg z'.toArray):=Yi (by kernel_rfl) ps K
@[go_sem ↓] theorem Ysb (ps:List (Nat×Value))(K:Value→Prop):YW prog 34 ps.toArray K=Yp [(.int .u64 0),(.int .u64 0),(.int .u64 0),(.int .u64 0),(.int .u64 0),(.int .u64 0),(.int .u64 0),(.int .u64 0),(.int .u64 0),(.int .u64 0),(.int .u64 0),(.int .u64 0),(.int .u64 0),(.int .u64 0),(.int .i64 0),(.int .i64 0),(.int .i64 0),(.int .i64 0),(.int .i64 0),(.int .i64 0),(.int .i64 0),(.int .i64 0),(.int .i64 0),(.int .i64 0),(.int .u64 0),(.int .u64 0),(.int .u64 0),(.int .u64 0),(.int .u64 0),(.int .i64 0),(.int .i64 0),(.bool false),(.slice none 0 0),(.slice none 0 0),(.slice none 0 0),(.slice none 0 0),(.slice none 0 0),(.slice none 0 0),(.slice none 0 0),(.slice none 0 0),(.slice none 0 0)] [(0,24),(24,1),(25,1),(26,1),(27,1),(28,1),(29,1),(30,1),(31,1),(32,1),(33,1),(34,1),(35,1),(36,1),(37,1),(38,1),(39,1),(40,1)] ps fun z'=>K (.agg z'.toArray):=Yi (by kernel_rfl) ps K
@[go_sem ↓] theorem Ywb (ps:List (Nat×Value))(K:Value→Prop):YW prog 39 ps.toArray K=Yp [(.int .u64 0),(.int .u64 0),(.int .u64 0),(.int .u64 0),(.int .u64 0),(.int .u64 0),(.int .u64 0),(.int .u64 0),(.int .u64 0),(.int .u64 0),(.int .u64 0),(.int .u64 0),(.int .u64 0),(.int .u64 0),(.int .i64 0),(.int .i64 0),(.int .i64 0),(.int .i64 0),(.int .i64 0),(.int .i64 0),(.int .i64 0),(.int .i64 0),(.int .i64 0),(.int .i64 0)] [(0,1),(1,1),(2,1),(3,1),(4,1),(5,1),(6,1),(7,1),(8,1),(9,1),(10,1),(11,1),(12,1),(13,1),(14,1),(15,1),(16,1),(17,1),(18,1),(19,1),(20,1),(21,1),(22,1),(23,1)] ps fun z'=>K (.agg z'.toArray):=Yi (by kernel_rfl) ps K
@[go_sem ↓] theorem Yva (ps:List (Nat×Value))(K:Value→Prop):YW prog 45 ps.toArray K=Yp [(.int .u64 0),(.int .u64 0),(.int .u64 0),(.int .u64 0),(.int .u64 0),(.int .u64 0),(.int .u64 0),(.int .u64 0),(.int .u64 0),(.int .u64 0),(.int .u64 0),(.int .u64 0),(.int .u64 0),(.int .u64 0),(.int .i64 0),(.int .i64 0),(.int .i64 0),(.int .i64 0),(.int .i64 0),(.int .i64 0),(.int .i64 0),(.int .i64 0),(.int .i64 0),(.int .i64 0),(.int .u64 0),(.int .u64 0),(.int .u64 0),(.int .u64 0),(.int .u64 0),(.int .i64 0),(.int .i64 0),(.bool false),(.slice none 0 0),(.slice none 0 0),(.slice none 0 0),(.slice none 0 0),(.slice none 0 0),(.slice none 0 0),(.slice none 0 0),(.slice none 0 0),(.slice none 0 0)] [(0,24),(24,1),(25,1),(26,1),(27,1),(28,1),(29,1),(30,1),(31,1),(32,1),(33,1),(34,1),(35,1),(36,1),(37,1),(38,1),(39,1),(40,1)] ps fun z'=>K (.agg z'.toArray):=Yi (by kernel_rfl) ps K
@[go_sem ↓] theorem Yuk (ps:List (Nat×Value))(K:Value→Prop):YW prog 63 ps.toArray K=Yp [(.int .i64 0),(.int .i64 0),(.bool false),(.int .u64 0),(.int .u64 0),(.int .u64 0),(.int .u64 0),(.int .u64 0),(.int .u64 0),(.int .u64 0),(.slice none 0 0),(.slice none 0 0),(.slice none 0 0),(.slice none 0 0)] [(0,1),(1,1),(2,1),(3,1),(4,1),(5,1),(6,1),(7,1),(8,1),(9,1),(10,1),(11,1),(12,1),(13,1)] ps fun z'=>K (.agg z'.toArray):=Yi (by kernel_rfl) ps K
@[go_sem ↓] theorem Ysg (ps:List (Nat×Value))(K:Value→Prop):YW prog 72 ps.toArray K=Yp [(.int .u64 0),(.int .u64 0),(.int .u64 0),(.int .i64 0)] [(0,1),(1,1),(2,1),(3,1)] ps fun z'=>K (.agg z'.toArray):=Yi (by kernel_rfl) ps K
@[go_sem ↓] theorem Ypv (ps:List (Nat×Value))(K:Value→Prop):YW prog 74 ps.toArray K=Yp [(.int .u64 0),(.int .u64 0),(.int .u64 0),(.int .i64 0),(.int .i64 0),(.int .i64 0)] [(0,4),(4,1),(5,1)] ps fun z'=>K (.agg z'.toArray):=Yi (by kernel_rfl) ps K
@[go_sem ↓] theorem Ynv (ps:List (Nat×Value))(K:Value→Prop):YW prog 116 ps.toArray K=Yp [(.int .u64 0),(.int .u64 0),(.int .u64 0),(.int .u64 0),(.int .u64 0),(.int .u64 0),(.int .u64 0),(.int .u64 0),(.int .u64 0),(.int .u64 0),(.int .u64 0),(.int .u64 0),(.int .u64 0),(.int .u64 0),(.int .i64 0),(.int .i64 0),(.int .i64 0),(.int .i64 0),(.int .i64 0),(.int .i64 0),(.int .i64 0),(.int .i64 0),(.int .i64 0),(.int .i64 0),(.int .u64 0),(.slice none 0 0),(.slice none 0 0)] [(0,24),(24,1),(25,1),(26,1)] ps fun z'=>K (.agg z'.toArray):=Yi (by kernel_rfl) ps K
@[go_sem ↓] theorem Ymw (ps:List (Nat×Value))(K:Value→Prop):YW prog 124 ps.toArray K=Yp [(.int .u64 0),(.int .u64 0),(.int .u64 0),(.int .i64 0),(.int .i64 0),(.int .i64 0)] [(0,4),(4,1),(5,1)] ps fun z'=>K (.agg z'.toArray):=Yi (by kernel_rfl) ps K
@[go_sem ↓] theorem Yop (ps:List (Nat×Value))(K:Value→Prop):YW prog 129 ps.toArray K=Yp [(.string ⟨#[]⟩),(.string ⟨#[]⟩),(.string ⟨#[]⟩),(.string ⟨#[]⟩),(.string ⟨#[]⟩),(.string ⟨#[]⟩),(.string ⟨#[]⟩),(.string ⟨#[]⟩)] [(0,1),(1,1),(2,1),(3,1),(4,1),(5,1),(6,1),(7,1)] ps fun z'=>K (.agg z'.toArray):=Yi (by kernel_rfl) ps K
@[go_sem ↓] theorem Ynx (ps:List (Nat×Value))(K:Value→Prop):YW prog 132 ps.toArray K=Yp [(.int .u64 0),(.int .u64 0),(.int .u64 0),(.int .u64 0),(.int .u64 0),(.int .u64 0),(.int .u64 0),(.int .u64 0),(.int .u64 0),(.int .u64 0),(.int .u64 0),(.int .u64 0),(.int .u64 0),(.int .u64 0),(.int .i64 0),(.int .i64 0),(.int .i64 0),(.int .i64 0),(.int .i64 0),(.int .i64 0),(.int .i64 0),(.int .i64 0),(.int .i64 0),(.int .i64 0),(.int .u64 0),(.int .u64 0),(.int .u64 0),(.int .u64 0),(.int .u64 0),(.int .i64 0),(.int .i64 0),(.bool false),(.slice none 0 0),(.slice none 0 0),(.slice none 0 0),(.slice none 0 0),(.slice none 0 0),(.slice none 0 0),(.slice none 0 0),(.slice none 0 0),(.slice none 0 0)] [(0,41)] ps fun z'=>K (.agg z'.toArray):=Yi (by kernel_rfl) ps K
@[go_sem ↓] theorem Ynh (ps:List (Nat×Value))(K:Value→Prop):YW prog 144 ps.toArray K=Yp [(.slice none 0 0)] [(0,1)] ps fun z'=>K (.agg z'.toArray):=Yi (by kernel_rfl) ps K
@[go_sem ↓] theorem Yoo (ps:List (Nat×Value))(K:Value→Prop):YW prog 154 ps.toArray K=Yp [(.int .u64 0),(.int .u64 0),(.int .u64 0),(.int .u64 0),(.int .u64 0),(.int .u64 0),(.int .u64 0),(.int .u64 0),(.int .u64 0),(.int .u64 0),(.int .u64 0),(.int .u64 0),(.int .u64 0),(.int .u64 0),(.int .i64 0),(.int .i64 0),(.int .i64 0),(.int .i64 0),(.int .i64 0),(.int .i64 0),(.int .i64 0),(.int .i64 0),(.int .i64 0),(.int .i64 0),(.int .u64 0),(.int .u64 0),(.int .u64 0),(.int .u64 0),(.int .u64 0),(.int .i64 0),(.int .i64 0),(.bool false),(.slice none 0 0),(.slice none 0 0),(.slice none 0 0),(.slice none 0 0),(.slice none 0 0),(.slice none 0 0),(.slice none 0 0),(.slice none 0 0),(.slice none 0 0),(.int .i64 0),(.int .i64 0),(.bool false),(.int .u64 0),(.int .u64 0),(.int .u64 0),(.int .u64 0),(.int .u64 0),(.int .u64 0),(.int .u64 0),(.slice none 0 0),(.slice none 0 0),(.slice none 0 0),(.slice none 0 0),(.int .i64 0)] [(0,41),(41,14),(55,1)] ps fun z'=>K (.agg z'.toArray):=Yi (by kernel_rfl) ps K
@[go_sem ↓] theorem Ynj (ps:List (Nat×Value))(K:Value→Prop):YW prog 167 ps.toArray K=Yp [(.int .i64 0),(.int .i64 0),(.int .u64 0)] [(0,1),(1,1),(2,1)] ps fun z'=>K (.agg z'.toArray):=Yi (by kernel_rfl) ps K
@[go_sem ↓] theorem Yot (ps:List (Nat×Value))(K:Value→Prop):YW prog 180 ps.toArray K=Yp [(.int .u64 0),(.int .u64 0),(.int .u64 0),(.int .u64 0),(.int .u64 0),(.slice none 0 0),(.slice none 0 0),(.slice none 0 0),(.slice none 0 0)] [(0,1),(1,1),(2,1),(3,1),(4,1),(5,1),(6,1),(7,1),(8,1)] ps fun z'=>K (.agg z'.toArray):=Yi (by kernel_rfl) ps K
@[go_sem ↓] theorem Yoc (ps:List (Nat×Value))(K:Value→Prop):YW prog 184 ps.toArray K=Yp [(.int .i64 0),(.int .i64 0),(.int .u64 0),(.int .u64 0),(.int .u64 0),(.int .u64 0),(.int .u64 0),(.int .u64 0),(.int .u64 0),(.int .u64 0),(.int .u64 0),(.int .u64 0),(.int .u64 0),(.int .u64 0),(.int .u64 0),(.int .u64 0),(.int .i64 0),(.int .i64 0),(.int .i64 0),(.int .i64 0),(.int .i64 0),(.int .i64 0),(.int .i64 0),(.int .i64 0),(.int .i64 0),(.int .i64 0),(.int .i64 0),(.int .u64 0),(.int .i64 0),(.int .i64 0),(.int .i64 0),(.slice none 0 0),(.slice none 0 0)] [(0,1),(1,1),(2,24),(26,1),(27,1),(28,1),(29,1),(30,1),(31,1),(32,1)] ps fun z'=>K (.agg z'.toArray):=Yi (by kernel_rfl) ps K
@[go_sem ↓] theorem Yod (ps:List (Nat×Value))(K:Value→Prop):YW prog 223 ps.toArray K=Yp [(.int .i64 0),(.int .u64 0)] [(0,1),(1,1)] ps fun z'=>K (.agg z'.toArray):=Yi (by kernel_rfl) ps K
@[go_sem ↓] theorem Yom (ps:List (Nat×Value))(K:Value→Prop):YW prog 228 ps.toArray K=Yp [(.int .u64 0),(.int .u64 0),(.int .u64 0),(.int .u64 0),(.int .u64 0),(.int .u64 0),(.int .u64 0),(.int .u64 0),(.int .u64 0),(.int .u64 0),(.int .u64 0),(.int .u64 0),(.int .u64 0),(.int .u64 0),(.int .i64 0),(.int .i64 0),(.int .i64 0),(.int .i64 0),(.int .i64 0),(.int .i64 0),(.int .i64 0),(.int .i64 0),(.int .i64 0),(.int .i64 0),(.int .u64 0),(.int .u64 0),(.int .u64 0),(.int .u64 0),(.int .u64 0),(.int .i64 0),(.int .i64 0),(.bool false),(.slice none 0 0),(.slice none 0 0),(.slice none 0 0),(.slice none 0 0),(.slice none 0 0),(.slice none 0 0),(.slice none 0 0),(.slice none 0 0),(.slice none 0 0),(.int .u64 0),(.int .u64 0),(.int .u64 0),(.int .u64 0),(.int .u64 0),(.int .u64 0),(.int .u64 0),(.int .u64 0),(.int .u64 0),(.int .u64 0),(.int .u64 0),(.int .u64 0),(.int .u64 0),(.int .u64 0),(.int .i64 0),(.int .i64 0),(.int .i64 0),(.int .i64 0),(.int .i64 0),(.int .i64 0),(.int .i64 0),(.int .i64 0),(.int .i64 0),(.int .i64 0),(.int .u64 0),(.int .u64 0),(.int .u64 0),(.int .u64 0),(.int .u64 0),(.int .i64 0),(.int .i64 0),(.bool false),(.slice none 0 0),(.slice none 0 0),(.slice none 0 0),(.slice none 0 0),(.slice none 0 0),(.slice none 0 0),(.slice none 0 0),(.slice none 0 0),(.slice none 0 0),(.int .i64 0),(.int .i64 0),(.bool false),(.int .u64 0),(.int .u64 0),(.int .u64 0),(.int .u64 0),(.int .u64 0),(.int .u64 0),(.int .u64 0),(.slice none 0 0),(.slice none 0 0),(.slice none 0 0),(.slice none 0 0)] [(0,41),(41,41),(82,14)] ps fun z'=>K (.agg z'.toArray):=Yi (by kernel_rfl) ps K
@[go_sem ↓] theorem Ynl (ps:List (Nat×Value))(K:Value→Prop):YW prog 244 ps.toArray K=Yp [(.int .u64 0),(.int .u64 0),(.int .u64 0),(.int .u64 0),(.int .u64 0)] [(0,1),(1,1),(2,1),(3,1),(4,1)] ps fun z'=>K (.agg z'.toArray):=Yi (by kernel_rfl) ps K
@[go_sem ↓] theorem Yny (ps:List (Nat×Value))(K:Value→Prop):YW prog 349 ps.toArray K=Yp [(.int .u64 0),(.int .u64 0),(.int .u64 0),(.int .i64 0),(.int .i64 0),(.int .i64 0)] [(0,6)] ps fun z'=>K (.agg z'.toArray):=Yi (by kernel_rfl) ps K
@[go_sem ↓] theorem Yow (ps:List (Nat×Value))(K:Value→Prop):YW prog 362 ps.toArray K=Yp [(.int .u64 0),(.int .u64 0),(.int .u64 0),(.int .i64 0),(.int .u64 0),(.int .u64 0),(.int .u64 0),(.int .u64 0),(.int .u64 0),(.int .u64 0),(.int .u64 0),(.int .u64 0),(.int .u64 0),(.int .u64 0),(.int .u64 0),(.int .u64 0),(.int .u64 0),(.int .u64 0),(.int .i64 0),(.int .i64 0),(.int .i64 0),(.int .i64 0),(.int .i64 0),(.int .i64 0),(.int .i64 0),(.int .i64 0),(.int .i64 0),(.int .i64 0)] [(0,4),(4,24)] ps fun z'=>K (.agg z'.toArray):=Yi (by kernel_rfl) ps K
@[go_sem ↓] theorem Ymt (ps:List (Nat×Value))(K:Value→Prop):YW prog 372 ps.toArray K=Yp [(.slice none 0 0)] [(0,1)] ps fun z'=>K (.agg z'.toArray):=Yi (by kernel_rfl) ps K
@[go_sem ↓] theorem Yon (ps:List (Nat×Value))(K:Value→Prop):YW prog 386 ps.toArray K=Yp [(.int .u64 0),(.int .u64 0),(.int .u64 0)] [(0,1),(1,1),(2,1)] ps fun z'=>K (.agg z'.toArray):=Yi (by kernel_rfl) ps K
@[go_sem ↓] theorem Ynq (ps:List (Nat×Value))(K:Value→Prop):YW prog 393 ps.toArray K=Yp [(.int .u64 0),(.int .u64 0),(.int .u64 0),(.int .u64 0),(.int .u64 0),(.int .u64 0),(.int .u64 0),(.int .u64 0),(.int .u64 0),(.int .u64 0),(.int .u64 0),(.int .u64 0),(.int .u64 0),(.int .u64 0),(.int .i64 0),(.int .i64 0),(.int .i64 0),(.int .i64 0),(.int .i64 0),(.int .i64 0),(.int .i64 0),(.int .i64 0),(.int .i64 0),(.int .i64 0)] [(0,24)] ps fun z'=>K (.agg z'.toArray):=Yi (by kernel_rfl) ps K
@[go_sem ↓] theorem Yms (ps:List (Nat×Value))(K:Value→Prop):YW prog 414 ps.toArray K=Yp [(.int .u64 0),(.int .u64 0)] [(0,1),(1,1)] ps fun z'=>K (.agg z'.toArray):=Yi (by kernel_rfl) ps K
@[go_sem ↓] theorem Yos (ps:List (Nat×Value))(K:Value→Prop):YW prog 423 ps.toArray K=Yp [(.int .u64 0),(.int .u64 0),(.int .u64 0)] [(0,2),(2,1)] ps fun z'=>K (.agg z'.toArray):=Yi (by kernel_rfl) ps K
@[go_sem ↓] theorem You (ps:List (Nat×Value))(K:Value→Prop):YW prog 430 ps.toArray K=Yp [(.int .u64 0),(.int .u64 0),(.int .u64 0),(.int .i64 0),(.int .u64 0),(.int .u64 0),(.int .u64 0),(.int .u64 0),(.int .u64 0),(.int .u64 0),(.int .u64 0),(.int .u64 0),(.int .u64 0),(.int .u64 0),(.int .u64 0),(.int .u64 0),(.int .u64 0),(.int .u64 0),(.int .i64 0),(.int .i64 0),(.int .i64 0),(.int .i64 0),(.int .i64 0),(.int .i64 0),(.int .i64 0),(.int .i64 0),(.int .i64 0),(.int .i64 0),(.int .i64 0)] [(0,4),(4,24),(28,1)] ps fun z'=>K (.agg z'.toArray):=Yi (by kernel_rfl) ps K
@[go_sem ↓] theorem Wah (ps:List (Nat×Value))(K:TypeId→List Value→Prop):xBS prog 25 0 ps.toArray K=Yp [] [] ps fun cs=>K 22 cs:=YM (by kernel_rfl) ps K
@[go_sem ↓] theorem Wfq (ps:List (Nat×Value))(K:TypeId→List Value→Prop):xBS prog 25 1 ps.toArray K=Yp [(.int .u64 0)] [(0,1)] ps fun cs=>K 22 cs:=YM (by kernel_rfl) ps K
@[go_sem ↓] theorem Web (ps:List (Nat×Value))(K:TypeId→List Value→Prop):xBS prog 25 2 ps.toArray K=Yp [(.int .u64 0),(.int .u64 0)] [(0,1),(1,1)] ps fun cs=>K 22 cs:=YM (by kernel_rfl) ps K
@[go_sem ↓] theorem Weu (ps:List (Nat×Value))(K:TypeId→List Value→Prop):xBS prog 25 3 ps.toArray K=Yp [(.int .u64 0),(.int .u64 0),(.int .u64 0)] [(0,1),(1,1),(2,1)] ps fun cs=>K 22 cs:=YM (by kernel_rfl) ps K
@[go_sem ↓] theorem Wdq (ps:List (Nat×Value))(K:TypeId→List Value→Prop):xBS prog 25 5 ps.toArray K=Yp [(.int .u64 0),(.int .u64 0),(.int .u64 0),(.int .u64 0),(.int .u64 0)] [(0,1),(1,1),(2,1),(3,1),(4,1)] ps fun cs=>K 22 cs:=YM (by kernel_rfl) ps K
@[go_sem ↓] theorem Wda (ps:List (Nat×Value))(K:TypeId→List Value→Prop):xBS prog 26 0 ps.toArray K=Yp [] [] ps fun cs=>K 74 cs:=YM (by kernel_rfl) ps K
@[go_sem ↓] theorem Wfi (ps:List (Nat×Value))(K:TypeId→List Value→Prop):xBS prog 26 1 ps.toArray K=Yp [(.int .u64 0),(.int .u64 0),(.int .u64 0),(.int .i64 0),(.int .i64 0),(.int .i64 0)] [(0,6)] ps fun cs=>K 74 cs:=YM (by kernel_rfl) ps K
@[go_sem ↓] theorem Wfm (ps:List (Nat×Value))(K:TypeId→List Value→Prop):xBS prog 27 0 ps.toArray K=Yp [] [] ps fun cs=>K 3 cs:=YM (by kernel_rfl) ps K
@[go_sem ↓] theorem Wet (ps:List (Nat×Value))(K:TypeId→List Value→Prop):xBS prog 27 1 ps.toArray K=Yp [(.int .i64 0)] [(0,1)] ps fun cs=>K 3 cs:=YM (by kernel_rfl) ps K
@[go_sem ↓] theorem Wbo (ps:List (Nat×Value))(K:TypeId→List Value→Prop):xBS prog 28 0 ps.toArray K=Yp [] [] ps fun cs=>K 164 cs:=YM (by kernel_rfl) ps K
@[go_sem ↓] theorem Wfo (ps:List (Nat×Value))(K:TypeId→List Value→Prop):xBS prog 28 1 ps.toArray K=Yp [(.int .i64 0),(.int .i64 0),(.int .u64 0),(.bool false)] [(0,4)] ps fun cs=>K 164 cs:=YM (by kernel_rfl) ps K
@[go_sem ↓] theorem Waz (ps:List (Nat×Value))(K:TypeId→List Value→Prop):xBS prog 29 0 ps.toArray K=Yp [] [] ps fun cs=>K 167 cs:=YM (by kernel_rfl) ps K
@[go_sem ↓] theorem Wbv (ps:List (Nat×Value))(K:TypeId→List Value→Prop):xBS prog 29 1 ps.toArray K=Yp [(.int .i64 0),(.int .i64 0),(.int .u64 0)] [(0,3)] ps fun cs=>K 167 cs:=YM (by kernel_rfl) ps K
@[go_sem ↓] theorem Wam (ps:List (Nat×Value))(K:TypeId→List Value→Prop):xBS prog 30 0 ps.toArray K=Yp [] [] ps fun cs=>K 120 cs:=YM (by kernel_rfl) ps K
@[go_sem ↓] theorem Wce (ps:List (Nat×Value))(K:TypeId→List Value→Prop):xBS prog 31 0 ps.toArray K=Yp [] [] ps fun cs=>K 5 cs:=YM (by kernel_rfl) ps K
@[go_sem ↓] theorem Wal (ps:List (Nat×Value))(K:TypeId→List Value→Prop):xBS prog 31 1 ps.toArray K=Yp [(.int .u8 0)] [(0,1)] ps fun cs=>K 5 cs:=YM (by kernel_rfl) ps K
@[go_sem ↓] theorem Wee (ps:List (Nat×Value))(K:TypeId→List Value→Prop):xBS prog 32 0 ps.toArray K=Yp [] [] ps fun cs=>K 31 cs:=YM (by kernel_rfl) ps K
@[go_sem ↓] theorem Wex (ps:List (Nat×Value))(K:TypeId→List Value→Prop):xBS prog 32 1 ps.toArray K=Yp [(.slice none 0 0)] [(0,1)] ps fun cs=>K 31 cs:=YM (by kernel_rfl) ps K
@[go_sem ↓] theorem Wdl (ps:List (Nat×Value))(K:TypeId→List Value→Prop):xBS prog 40 1 ps.toArray K=Yp [(.int .u64 0),(.int .u64 0),(.int .u64 0),(.int .i64 0),(.int .i64 0),(.int .i64 0)] [(0,6)] ps fun cs=>K 124 cs:=YM (by kernel_rfl) ps K
@[go_sem ↓] theorem Wdx (ps:List (Nat×Value))(K:TypeId→List Value→Prop):xBS prog 41 1 ps.toArray K=Yp [(.int .i64 0),(.int .i64 0),(.int .u64 0),(.bool false)] [(0,4)] ps fun cs=>K 233 cs:=YM (by kernel_rfl) ps K
@[go_sem ↓] theorem Wev (ps:List (Nat×Value))(K:TypeId→List Value→Prop):xBS prog 42 1 ps.toArray K=Yp [(.int .i64 0),(.int .i64 0),(.int .u64 0)] [(0,3)] ps fun cs=>K 216 cs:=YM (by kernel_rfl) ps K
@[go_sem ↓] theorem Wdj (ps:List (Nat×Value))(K:TypeId→List Value→Prop):xBS prog 43 1 ps.toArray K=Yp [(.int .i64 0),(.int .i64 0),(.int .u64 0),(.int .u64 0),(.int .u64 0),(.int .u64 0),(.int .u64 0),(.int .u64 0),(.int .u64 0),(.int .u64 0),(.int .u64 0),(.int .u64 0),(.int .u64 0),(.int .u64 0),(.int .u64 0),(.int .u64 0),(.int .i64 0),(.int .i64 0),(.int .i64 0),(.int .i64 0),(.int .i64 0),(.int .i64 0),(.int .i64 0),(.int .i64 0),(.int .i64 0),(.int .i64 0),(.int .i64 0),(.int .u64 0),(.int .i64 0),(.int .i64 0),(.int .i64 0),(.slice none 0 0),(.slice none 0 0)] [(0,33)] ps fun cs=>K 184 cs:=YM (by kernel_rfl) ps K
@[go_sem ↓] theorem Ytj (ps:List (Nat×Value))(K:TypeId→List Value→Prop):xBS prog 114 2 ps.toArray K=Yp [(.int .i64 0),(.int .u64 0),(.int .i64 0),(.int .u64 0)] [(0,2),(2,2)] ps fun cs=>K 223 cs:=YM (by kernel_rfl) ps K
@[go_sem ↓] theorem Ysl (ps:List (Nat×Value))(K:TypeId→List Value→Prop):xBS prog 130 8 ps.toArray K=Yp [(.string ⟨#[]⟩),(.string ⟨#[]⟩),(.string ⟨#[]⟩),(.string ⟨#[]⟩),(.string ⟨#[]⟩),(.string ⟨#[]⟩),(.string ⟨#[]⟩),(.string ⟨#[]⟩)] [(0,1),(1,1),(2,1),(3,1),(4,1),(5,1),(6,1),(7,1)] ps fun cs=>K 9 cs:=YM (by kernel_rfl) ps K
@[go_sem ↓] theorem Ypq (ps:List (Nat×Value))(K:TypeId→List Value→Prop):xBS prog 149 1 ps.toArray K=Yp [(.int .u64 0),(.int .u64 0),(.int .u64 0),(.int .i64 0)] [(0,4)] ps fun cs=>K 72 cs:=YM (by kernel_rfl) ps K
@[go_sem ↓] theorem Yyw (ps:List (Nat×Value))(K:TypeId→List Value→Prop):xBS prog 230 2 ps.toArray K=Yp [(.bool false),(.bool false)] [(0,1),(1,1)] ps fun cs=>K 4 cs:=YM (by kernel_rfl) ps K
@[go_sem ↓] theorem Yvy (ps:List (Nat×Value))(K:TypeId→List Value→Prop):xBS prog 230 3 ps.toArray K=Yp [(.bool false),(.bool false),(.bool false)] [(0,1),(1,1),(2,1)] ps fun cs=>K 4 cs:=YM (by kernel_rfl) ps K
@[go_sem ↓] theorem Yud (ps:List (Nat×Value))(K:TypeId→List Value→Prop):xBS prog 230 4 ps.toArray K=Yp [(.bool false),(.bool false),(.bool false),(.bool false)] [(0,1),(1,1),(2,1),(3,1)] ps fun cs=>K 4 cs:=YM (by kernel_rfl) ps K
@[go_sem ↓] theorem Yzg (ps:List (Nat×Value))(K:TypeId→List Value→Prop):xBS prog 230 5 ps.toArray K=Yp [(.bool false),(.bool false),(.bool false),(.bool false),(.bool false)] [(0,1),(1,1),(2,1),(3,1),(4,1)] ps fun cs=>K 4 cs:=YM (by kernel_rfl) ps K
@[go_sem ↓] theorem Yxd (ps:List (Nat×Value))(K:TypeId→List Value→Prop):xBS prog 230 6 ps.toArray K=Yp [(.bool false),(.bool false),(.bool false),(.bool false),(.bool false),(.bool false)] [(0,1),(1,1),(2,1),(3,1),(4,1),(5,1)] ps fun cs=>K 4 cs:=YM (by kernel_rfl) ps K
@[go_sem ↓] theorem Yyp (ps:List (Nat×Value))(K:TypeId→List Value→Prop):xBS prog 230 7 ps.toArray K=Yp [(.bool false),(.bool false),(.bool false),(.bool false),(.bool false),(.bool false),(.bool false)] [(0,1),(1,1),(2,1),(3,1),(4,1),(5,1),(6,1)] ps fun cs=>K 4 cs:=YM (by kernel_rfl) ps K
@[go_sem ↓] theorem Ypu (ps:List (Nat×Value))(K:TypeId→List Value→Prop):xBS prog 230 8 ps.toArray K=Yp [(.bool false),(.bool false),(.bool false),(.bool false),(.bool false),(.bool false),(.bool false),(.bool false)] [(0,1),(1,1),(2,1),(3,1),(4,1),(5,1),(6,1),(7,1)] ps fun cs=>K 4 cs:=YM (by kernel_rfl) ps K
@[go_sem ↓] theorem Yoq (ps:List (Nat×Value))(K:TypeId→List Value→Prop):xBS prog 230 12 ps.toArray K=Yp [(.bool false),(.bool false),(.bool false),(.bool false),(.bool false),(.bool false),(.bool false),(.bool false),(.bool false),(.bool false),(.bool false),(.bool false)] [(0,1),(1,1),(2,1),(3,1),(4,1),(5,1),(6,1),(7,1),(8,1),(9,1),(10,1),(11,1)] ps fun cs=>K 4 cs:=YM (by kernel_rfl) ps K
@[go_sem ↓] theorem Ypr (ps:List (Nat×Value))(K:TypeId→List Value→Prop):xBS prog 342 7 ps.toArray K=Yp [.nilFunc,.nilFunc,.nilFunc,.nilFunc,.nilFunc,.nilFunc,.nilFunc] [(0,1),(1,1),(2,1),(3,1),(4,1),(5,1),(6,1)] ps fun cs=>K 35 cs:=YM (by kernel_rfl) ps K
@[go_sem ↓] theorem Yro (ps:List (Nat×Value))(K:TypeId→List Value→Prop):xBS prog 354 2 ps.toArray K=Yp [(.int .i64 0),(.int .i64 0)] [(0,1),(1,1)] ps fun cs=>K 49 cs:=YM (by kernel_rfl) ps K
@[go_sem ↓] theorem Yzo (ps:List (Nat×Value))(K:TypeId→List Value→Prop):xBS prog 354 4 ps.toArray K=Yp [(.int .i64 0),(.int .i64 0),(.int .i64 0),(.int .i64 0)] [(0,1),(1,1),(2,1),(3,1)] ps fun cs=>K 49 cs:=YM (by kernel_rfl) ps K
@[go_sem ↓] theorem Wfl (K:Nat→Prop):xFO prog 24 0 K=K 0:=ZU (by kernel_rfl) K
@[go_sem ↓] theorem Wdb (K:Nat→Prop):xFO prog 24 1 K=K 1:=ZU (by kernel_rfl) K
@[go_sem ↓] theorem Wfe (K:Nat→Prop):xFO prog 24 2 K=K 2:=ZU (by kernel_rfl) K
@[go_sem ↓] theorem Wao (K:Nat→Prop):xFO prog 24 3 K=K 3:=ZU (by kernel_rfl) K
@[go_sem ↓] theorem Wec (K:Nat→Prop):xFO prog 24 4 K=K 4:=ZU (by kernel_rfl) K
@[go_sem ↓] theorem Wdf (K:Nat→Prop):xFO prog 24 5 K=K 5:=ZU (by kernel_rfl) K
@[go_sem ↓] theorem Wbj (K:Nat→Prop):xFO prog 24 6 K=K 6:=ZU (by kernel_rfl) K
@[go_sem ↓] theorem Wdm (K:Nat→Prop):xFO prog 24 7 K=K 7:=ZU (by kernel_rfl) K
@[go_sem ↓] theorem Wbd (K:Nat→Prop):xFO prog 24 8 K=K 8:=ZU (by kernel_rfl) K
@[go_sem ↓] theorem Wbx (K:Nat→Prop):xFO prog 24 9 K=K 9:=ZU (by kernel_rfl) K
@[go_sem ↓] theorem Ytr (K:Nat→Prop):xFO prog 24 10 K=K 10:=ZU (by kernel_rfl) K
@[go_sem ↓] theorem Yqh (K:Nat→Prop):xFO prog 24 11 K=K 11:=ZU (by kernel_rfl) K
@[go_sem ↓] theorem Ypy (K:Nat→Prop):xFO prog 24 12 K=K 12:=ZU (by kernel_rfl) K
@[go_sem ↓] theorem Ywd (K:Nat→Prop):xFO prog 24 13 K=K 13:=ZU (by kernel_rfl) K
@[go_sem ↓] theorem Yzw (K:Nat→Prop):xFO prog 24 14 K=K 14:=ZU (by kernel_rfl) K
@[go_sem ↓] theorem Yvv (K:Nat→Prop):xFO prog 24 15 K=K 15:=ZU (by kernel_rfl) K
@[go_sem ↓] theorem Yuw (K:Nat→Prop):xFO prog 24 16 K=K 16:=ZU (by kernel_rfl) K
@[go_sem ↓] theorem Yww (K:Nat→Prop):xFO prog 24 17 K=K 17:=ZU (by kernel_rfl) K
@[go_sem ↓] theorem Ysd (K:Nat→Prop):xFO prog 24 18 K=K 18:=ZU (by kernel_rfl) K
@[go_sem ↓] theorem Yvz (K:Nat→Prop):xFO prog 24 19 K=K 19:=ZU (by kernel_rfl) K
@[go_sem ↓] theorem Wab (K:Nat→Prop):xFO prog 24 20 K=K 20:=ZU (by kernel_rfl) K
@[go_sem ↓] theorem Yzv (K:Nat→Prop):xFO prog 24 21 K=K 21:=ZU (by kernel_rfl) K
@[go_sem ↓] theorem Yqc (K:Nat→Prop):xFO prog 24 22 K=K 22:=ZU (by kernel_rfl) K
@[go_sem ↓] theorem Ywo (K:Nat→Prop):xFO prog 24 23 K=K 23:=ZU (by kernel_rfl) K
@[go_sem ↓] theorem War (K:Nat→Prop):xFO prog 34 0 K=K 0:=ZU (by kernel_rfl) K
@[go_sem ↓] theorem Wel (K:Nat→Prop):xFO prog 34 1 K=K 24:=ZU (by kernel_rfl) K
@[go_sem ↓] theorem Wds (K:Nat→Prop):xFO prog 34 2 K=K 25:=ZU (by kernel_rfl) K
@[go_sem ↓] theorem Wdd (K:Nat→Prop):xFO prog 34 3 K=K 26:=ZU (by kernel_rfl) K
@[go_sem ↓] theorem Wdr (K:Nat→Prop):xFO prog 34 4 K=K 27:=ZU (by kernel_rfl) K
@[go_sem ↓] theorem Wdi (K:Nat→Prop):xFO prog 34 5 K=K 28:=ZU (by kernel_rfl) K
@[go_sem ↓] theorem Wep (K:Nat→Prop):xFO prog 34 6 K=K 29:=ZU (by kernel_rfl) K
@[go_sem ↓] theorem Wcy (K:Nat→Prop):xFO prog 34 7 K=K 30:=ZU (by kernel_rfl) K
@[go_sem ↓] theorem Wco (K:Nat→Prop):xFO prog 34 8 K=K 31:=ZU (by kernel_rfl) K
@[go_sem ↓] theorem Wfb (K:Nat→Prop):xFO prog 34 9 K=K 32:=ZU (by kernel_rfl) K
@[go_sem ↓] theorem Yxc (K:Nat→Prop):xFO prog 34 10 K=K 33:=ZU (by kernel_rfl) K
@[go_sem ↓] theorem Yrz (K:Nat→Prop):xFO prog 34 11 K=K 34:=ZU (by kernel_rfl) K
@[go_sem ↓] theorem Ypj (K:Nat→Prop):xFO prog 34 12 K=K 35:=ZU (by kernel_rfl) K
@[go_sem ↓] theorem Ysq (K:Nat→Prop):xFO prog 34 13 K=K 36:=ZU (by kernel_rfl) K
@[go_sem ↓] theorem Ytz (K:Nat→Prop):xFO prog 34 14 K=K 37:=ZU (by kernel_rfl) K
@[go_sem ↓] theorem Yso (K:Nat→Prop):xFO prog 34 15 K=K 38:=ZU (by kernel_rfl) K
@[go_sem ↓] theorem Ywt (K:Nat→Prop):xFO prog 34 16 K=K 39:=ZU (by kernel_rfl) K
@[go_sem ↓] theorem Ytb (K:Nat→Prop):xFO prog 34 17 K=K 40:=ZU (by kernel_rfl) K
@[go_sem ↓] theorem Wcr (K:Nat→Prop):xFO prog 39 0 K=K 0:=ZU (by kernel_rfl) K
@[go_sem ↓] theorem Wbk (K:Nat→Prop):xFO prog 39 1 K=K 1:=ZU (by kernel_rfl) K
@[go_sem ↓] theorem Wbb (K:Nat→Prop):xFO prog 39 2 K=K 2:=ZU (by kernel_rfl) K
@[go_sem ↓] theorem Way (K:Nat→Prop):xFO prog 39 3 K=K 3:=ZU (by kernel_rfl) K
@[go_sem ↓] theorem Waf (K:Nat→Prop):xFO prog 39 4 K=K 4:=ZU (by kernel_rfl) K
@[go_sem ↓] theorem Wcp (K:Nat→Prop):xFO prog 39 5 K=K 5:=ZU (by kernel_rfl) K
@[go_sem ↓] theorem Wcd (K:Nat→Prop):xFO prog 39 6 K=K 6:=ZU (by kernel_rfl) K
@[go_sem ↓] theorem Was (K:Nat→Prop):xFO prog 39 7 K=K 7:=ZU (by kernel_rfl) K
@[go_sem ↓] theorem Wca (K:Nat→Prop):xFO prog 39 8 K=K 8:=ZU (by kernel_rfl) K
@[go_sem ↓] theorem Wfs (K:Nat→Prop):xFO prog 39 9 K=K 9:=ZU (by kernel_rfl) K
@[go_sem ↓] theorem Yyn (K:Nat→Prop):xFO prog 39 10 K=K 10:=ZU (by kernel_rfl) K
@[go_sem ↓] theorem Yzs (K:Nat→Prop):xFO prog 39 11 K=K 11:=ZU (by kernel_rfl) K
@[go_sem ↓] theorem Yxt (K:Nat→Prop):xFO prog 39 12 K=K 12:=ZU (by kernel_rfl) K
@[go_sem ↓] theorem Ywh (K:Nat→Prop):xFO prog 39 13 K=K 13:=ZU (by kernel_rfl) K
@[go_sem ↓] theorem Yur (K:Nat→Prop):xFO prog 39 14 K=K 14:=ZU (by kernel_rfl) K
@[go_sem ↓] theorem Yvs (K:Nat→Prop):xFO prog 39 15 K=K 15:=ZU (by kernel_rfl) K
@[go_sem ↓] theorem Yqn (K:Nat→Prop):xFO prog 39 16 K=K 16:=ZU (by kernel_rfl) K
@[go_sem ↓] theorem Yxw (K:Nat→Prop):xFO prog 39 17 K=K 17:=ZU (by kernel_rfl) K
@[go_sem ↓] theorem Ysn (K:Nat→Prop):xFO prog 39 18 K=K 18:=ZU (by kernel_rfl) K
@[go_sem ↓] theorem Ywn (K:Nat→Prop):xFO prog 39 19 K=K 19:=ZU (by kernel_rfl) K
@[go_sem ↓] theorem Yqq (K:Nat→Prop):xFO prog 39 20 K=K 20:=ZU (by kernel_rfl) K
@[go_sem ↓] theorem Yoz (K:Nat→Prop):xFO prog 39 21 K=K 21:=ZU (by kernel_rfl) K
@[go_sem ↓] theorem Yuj (K:Nat→Prop):xFO prog 39 22 K=K 22:=ZU (by kernel_rfl) K
@[go_sem ↓] theorem Ysj (K:Nat→Prop):xFO prog 39 23 K=K 23:=ZU (by kernel_rfl) K
@[go_sem ↓] theorem Wff (K:Nat→Prop):xFO prog 45 0 K=K 0:=ZU (by kernel_rfl) K
@[go_sem ↓] theorem Wbc (K:Nat→Prop):xFO prog 45 1 K=K 24:=ZU (by kernel_rfl) K
@[go_sem ↓] theorem Wfh (K:Nat→Prop):xFO prog 45 2 K=K 25:=ZU (by kernel_rfl) K
@[go_sem ↓] theorem Wes (K:Nat→Prop):xFO prog 45 3 K=K 26:=ZU (by kernel_rfl) K
@[go_sem ↓] theorem Wej (K:Nat→Prop):xFO prog 45 4 K=K 27:=ZU (by kernel_rfl) K
@[go_sem ↓] theorem Wef (K:Nat→Prop):xFO prog 45 5 K=K 28:=ZU (by kernel_rfl) K
@[go_sem ↓] theorem Wag (K:Nat→Prop):xFO prog 45 6 K=K 29:=ZU (by kernel_rfl) K
@[go_sem ↓] theorem Wbu (K:Nat→Prop):xFO prog 45 7 K=K 30:=ZU (by kernel_rfl) K
@[go_sem ↓] theorem Wek (K:Nat→Prop):xFO prog 45 8 K=K 31:=ZU (by kernel_rfl) K
@[go_sem ↓] theorem Wcf (K:Nat→Prop):xFO prog 45 9 K=K 32:=ZU (by kernel_rfl) K
@[go_sem ↓] theorem Yti (K:Nat→Prop):xFO prog 45 10 K=K 33:=ZU (by kernel_rfl) K
@[go_sem ↓] theorem Yyx (K:Nat→Prop):xFO prog 45 11 K=K 34:=ZU (by kernel_rfl) K
@[go_sem ↓] theorem Yzy (K:Nat→Prop):xFO prog 45 12 K=K 35:=ZU (by kernel_rfl) K
@[go_sem ↓] theorem Yrl (K:Nat→Prop):xFO prog 45 13 K=K 36:=ZU (by kernel_rfl) K
@[go_sem ↓] theorem Yyt (K:Nat→Prop):xFO prog 45 14 K=K 37:=ZU (by kernel_rfl) K
@[go_sem ↓] theorem Yzq (K:Nat→Prop):xFO prog 45 15 K=K 38:=ZU (by kernel_rfl) K
@[go_sem ↓] theorem Yqa (K:Nat→Prop):xFO prog 45 16 K=K 39:=ZU (by kernel_rfl) K
@[go_sem ↓] theorem Ypl (K:Nat→Prop):xFO prog 45 17 K=K 40:=ZU (by kernel_rfl) K
@[go_sem ↓] theorem Wap (K:Nat→Prop):xFO prog 63 0 K=K 0:=ZU (by kernel_rfl) K
@[go_sem ↓] theorem Wdk (K:Nat→Prop):xFO prog 63 1 K=K 1:=ZU (by kernel_rfl) K
@[go_sem ↓] theorem Wcc (K:Nat→Prop):xFO prog 63 2 K=K 2:=ZU (by kernel_rfl) K
@[go_sem ↓] theorem Wfd (K:Nat→Prop):xFO prog 63 3 K=K 3:=ZU (by kernel_rfl) K
@[go_sem ↓] theorem Wde (K:Nat→Prop):xFO prog 63 4 K=K 4:=ZU (by kernel_rfl) K
@[go_sem ↓] theorem Wdo (K:Nat→Prop):xFO prog 63 5 K=K 5:=ZU (by kernel_rfl) K
@[go_sem ↓] theorem Wdv (K:Nat→Prop):xFO prog 63 6 K=K 6:=ZU (by kernel_rfl) K
@[go_sem ↓] theorem Wcn (K:Nat→Prop):xFO prog 63 7 K=K 7:=ZU (by kernel_rfl) K
@[go_sem ↓] theorem Wby (K:Nat→Prop):xFO prog 63 8 K=K 8:=ZU (by kernel_rfl) K
@[go_sem ↓] theorem Wcv (K:Nat→Prop):xFO prog 63 9 K=K 9:=ZU (by kernel_rfl) K
@[go_sem ↓] theorem Yws (K:Nat→Prop):xFO prog 63 10 K=K 10:=ZU (by kernel_rfl) K
@[go_sem ↓] theorem Yrp (K:Nat→Prop):xFO prog 63 11 K=K 11:=ZU (by kernel_rfl) K
@[go_sem ↓] theorem Yvo (K:Nat→Prop):xFO prog 63 12 K=K 12:=ZU (by kernel_rfl) K
@[go_sem ↓] theorem Ypw (K:Nat→Prop):xFO prog 63 13 K=K 13:=ZU (by kernel_rfl) K
@[go_sem ↓] theorem Wbf (K:Nat→Prop):xFO prog 72 0 K=K 0:=ZU (by kernel_rfl) K
@[go_sem ↓] theorem Weq (K:Nat→Prop):xFO prog 72 1 K=K 1:=ZU (by kernel_rfl) K
@[go_sem ↓] theorem Wbe (K:Nat→Prop):xFO prog 72 2 K=K 2:=ZU (by kernel_rfl) K
@[go_sem ↓] theorem Wau (K:Nat→Prop):xFO prog 72 3 K=K 3:=ZU (by kernel_rfl) K
@[go_sem ↓] theorem Wft (K:Nat→Prop):xFO prog 74 0 K=K 0:=ZU (by kernel_rfl) K
@[go_sem ↓] theorem Wck (K:Nat→Prop):xFO prog 74 1 K=K 4:=ZU (by kernel_rfl) K
@[go_sem ↓] theorem Wbp (K:Nat→Prop):xFO prog 74 2 K=K 5:=ZU (by kernel_rfl) K
@[go_sem ↓] theorem Yqo (K:Nat→Prop):xFO prog 116 0 K=K 0:=ZU (by kernel_rfl) K
@[go_sem ↓] theorem Yvm (K:Nat→Prop):xFO prog 116 1 K=K 24:=ZU (by kernel_rfl) K
@[go_sem ↓] theorem Yul (K:Nat→Prop):xFO prog 116 2 K=K 25:=ZU (by kernel_rfl) K
@[go_sem ↓] theorem Yoy (K:Nat→Prop):xFO prog 116 3 K=K 26:=ZU (by kernel_rfl) K
@[go_sem ↓] theorem Ytp (K:Nat→Prop):xFO prog 120 0 K=K 0:=ZU (by kernel_rfl) K
@[go_sem ↓] theorem Yrj (K:Nat→Prop):xFO prog 120 1 K=K 1:=ZU (by kernel_rfl) K
@[go_sem ↓] theorem Yyz (K:Nat→Prop):xFO prog 120 2 K=K 2:=ZU (by kernel_rfl) K
@[go_sem ↓] theorem Yvn (K:Nat→Prop):xFO prog 120 3 K=K 26:=ZU (by kernel_rfl) K
@[go_sem ↓] theorem Yxu (K:Nat→Prop):xFO prog 120 4 K=K 27:=ZU (by kernel_rfl) K
@[go_sem ↓] theorem Ytu (K:Nat→Prop):xFO prog 120 5 K=K 28:=ZU (by kernel_rfl) K
@[go_sem ↓] theorem Yqv (K:Nat→Prop):xFO prog 120 6 K=K 29:=ZU (by kernel_rfl) K
@[go_sem ↓] theorem Yqk (K:Nat→Prop):xFO prog 120 7 K=K 30:=ZU (by kernel_rfl) K
@[go_sem ↓] theorem Yyb (K:Nat→Prop):xFO prog 120 8 K=K 31:=ZU (by kernel_rfl) K
@[go_sem ↓] theorem Ytw (K:Nat→Prop):xFO prog 120 9 K=K 32:=ZU (by kernel_rfl) K
@[go_sem ↓] theorem Yxs (K:Nat→Prop):xFO prog 122 0 K=K 0:=ZU (by kernel_rfl) K
@[go_sem ↓] theorem Ypk (K:Nat→Prop):xFO prog 122 1 K=K 1:=ZU (by kernel_rfl) K
@[go_sem ↓] theorem Ysw (K:Nat→Prop):xFO prog 122 2 K=K 2:=ZU (by kernel_rfl) K
@[go_sem ↓] theorem Ytx (K:Nat→Prop):xFO prog 122 3 K=K 3:=ZU (by kernel_rfl) K
@[go_sem ↓] theorem Yvc (K:Nat→Prop):xFO prog 124 0 K=K 0:=ZU (by kernel_rfl) K
@[go_sem ↓] theorem Yto (K:Nat→Prop):xFO prog 124 1 K=K 4:=ZU (by kernel_rfl) K
@[go_sem ↓] theorem Yvr (K:Nat→Prop):xFO prog 124 2 K=K 5:=ZU (by kernel_rfl) K
@[go_sem ↓] theorem Ysm (K:Nat→Prop):xFO prog 132 0 K=K 0:=ZU (by kernel_rfl) K
@[go_sem ↓] theorem Ywa (K:Nat→Prop):xFO prog 144 0 K=K 0:=ZU (by kernel_rfl) K
@[go_sem ↓] theorem Yuv (K:Nat→Prop):xFO prog 154 0 K=K 0:=ZU (by kernel_rfl) K
@[go_sem ↓] theorem Yqi (K:Nat→Prop):xFO prog 154 1 K=K 41:=ZU (by kernel_rfl) K
@[go_sem ↓] theorem Ysp (K:Nat→Prop):xFO prog 154 2 K=K 55:=ZU (by kernel_rfl) K
@[go_sem ↓] theorem Yxl (K:Nat→Prop):xFO prog 164 0 K=K 0:=ZU (by kernel_rfl) K
@[go_sem ↓] theorem Yrc (K:Nat→Prop):xFO prog 164 1 K=K 1:=ZU (by kernel_rfl) K
@[go_sem ↓] theorem Yvi (K:Nat→Prop):xFO prog 164 2 K=K 2:=ZU (by kernel_rfl) K
@[go_sem ↓] theorem Ywu (K:Nat→Prop):xFO prog 164 3 K=K 3:=ZU (by kernel_rfl) K
@[go_sem ↓] theorem Ysc (K:Nat→Prop):xFO prog 167 0 K=K 0:=ZU (by kernel_rfl) K
@[go_sem ↓] theorem Yqd (K:Nat→Prop):xFO prog 167 1 K=K 1:=ZU (by kernel_rfl) K
@[go_sem ↓] theorem Ytg (K:Nat→Prop):xFO prog 167 2 K=K 2:=ZU (by kernel_rfl) K
@[go_sem ↓] theorem Yvf (K:Nat→Prop):xFO prog 180 0 K=K 0:=ZU (by kernel_rfl) K
@[go_sem ↓] theorem Ytc (K:Nat→Prop):xFO prog 180 1 K=K 1:=ZU (by kernel_rfl) K
@[go_sem ↓] theorem Ywi (K:Nat→Prop):xFO prog 180 2 K=K 2:=ZU (by kernel_rfl) K
@[go_sem ↓] theorem Yyl (K:Nat→Prop):xFO prog 180 3 K=K 3:=ZU (by kernel_rfl) K
@[go_sem ↓] theorem Ywc (K:Nat→Prop):xFO prog 180 4 K=K 4:=ZU (by kernel_rfl) K
@[go_sem ↓] theorem Yue (K:Nat→Prop):xFO prog 180 5 K=K 5:=ZU (by kernel_rfl) K
@[go_sem ↓] theorem Yub (K:Nat→Prop):xFO prog 180 6 K=K 6:=ZU (by kernel_rfl) K
@[go_sem ↓] theorem Yvh (K:Nat→Prop):xFO prog 180 7 K=K 7:=ZU (by kernel_rfl) K
@[go_sem ↓] theorem Ypp (K:Nat→Prop):xFO prog 180 8 K=K 8:=ZU (by kernel_rfl) K
@[go_sem ↓] theorem Yyy (K:Nat→Prop):xFO prog 184 0 K=K 0:=ZU (by kernel_rfl) K
@[go_sem ↓] theorem Ysr (K:Nat→Prop):xFO prog 184 1 K=K 1:=ZU (by kernel_rfl) K
@[go_sem ↓] theorem Ytk (K:Nat→Prop):xFO prog 184 2 K=K 2:=ZU (by kernel_rfl) K
@[go_sem ↓] theorem Ypo (K:Nat→Prop):xFO prog 184 3 K=K 26:=ZU (by kernel_rfl) K
@[go_sem ↓] theorem Yve (K:Nat→Prop):xFO prog 184 4 K=K 27:=ZU (by kernel_rfl) K
@[go_sem ↓] theorem Yrd (K:Nat→Prop):xFO prog 184 5 K=K 28:=ZU (by kernel_rfl) K
@[go_sem ↓] theorem Yzm (K:Nat→Prop):xFO prog 184 6 K=K 29:=ZU (by kernel_rfl) K
@[go_sem ↓] theorem Yyi (K:Nat→Prop):xFO prog 184 7 K=K 30:=ZU (by kernel_rfl) K
@[go_sem ↓] theorem Yuf (K:Nat→Prop):xFO prog 184 8 K=K 31:=ZU (by kernel_rfl) K
@[go_sem ↓] theorem Wac (K:Nat→Prop):xFO prog 184 9 K=K 32:=ZU (by kernel_rfl) K
@[go_sem ↓] theorem Yyu (K:Nat→Prop):xFO prog 216 0 K=K 0:=ZU (by kernel_rfl) K
@[go_sem ↓] theorem Yvx (K:Nat→Prop):xFO prog 216 1 K=K 1:=ZU (by kernel_rfl) K
@[go_sem ↓] theorem Ywq (K:Nat→Prop):xFO prog 216 2 K=K 2:=ZU (by kernel_rfl) K
@[go_sem ↓] theorem Yyo (K:Nat→Prop):xFO prog 223 0 K=K 0:=ZU (by kernel_rfl) K
@[go_sem ↓] theorem Yum (K:Nat→Prop):xFO prog 223 1 K=K 1:=ZU (by kernel_rfl) K
@[go_sem ↓] theorem Yql (K:Nat→Prop):xFO prog 228 0 K=K 0:=ZU (by kernel_rfl) K
@[go_sem ↓] theorem Yyj (K:Nat→Prop):xFO prog 228 1 K=K 41:=ZU (by kernel_rfl) K
@[go_sem ↓] theorem Yox (K:Nat→Prop):xFO prog 228 2 K=K 82:=ZU (by kernel_rfl) K
@[go_sem ↓] theorem Yvu (K:Nat→Prop):xFO prog 233 0 K=K 0:=ZU (by kernel_rfl) K
@[go_sem ↓] theorem Ypm (K:Nat→Prop):xFO prog 233 1 K=K 1:=ZU (by kernel_rfl) K
@[go_sem ↓] theorem Ypd (K:Nat→Prop):xFO prog 233 2 K=K 2:=ZU (by kernel_rfl) K
@[go_sem ↓] theorem Yzi (K:Nat→Prop):xFO prog 233 3 K=K 3:=ZU (by kernel_rfl) K
@[go_sem ↓] theorem Ytm (K:Nat→Prop):xFO prog 244 0 K=K 0:=ZU (by kernel_rfl) K
@[go_sem ↓] theorem Ysa (K:Nat→Prop):xFO prog 244 1 K=K 1:=ZU (by kernel_rfl) K
@[go_sem ↓] theorem Yzf (K:Nat→Prop):xFO prog 244 2 K=K 2:=ZU (by kernel_rfl) K
@[go_sem ↓] theorem Yxg (K:Nat→Prop):xFO prog 244 3 K=K 3:=ZU (by kernel_rfl) K
@[go_sem ↓] theorem Yxp (K:Nat→Prop):xFO prog 244 4 K=K 4:=ZU (by kernel_rfl) K
@[go_sem ↓] theorem Yvq (K:Nat→Prop):xFO prog 349 0 K=K 0:=ZU (by kernel_rfl) K
@[go_sem ↓] theorem Yup (K:Nat→Prop):xFO prog 362 0 K=K 0:=ZU (by kernel_rfl) K
@[go_sem ↓] theorem Ysy (K:Nat→Prop):xFO prog 362 1 K=K 4:=ZU (by kernel_rfl) K
@[go_sem ↓] theorem Yty (K:Nat→Prop):xFO prog 370 0 K=K 0:=ZU (by kernel_rfl) K
@[go_sem ↓] theorem Yzu (K:Nat→Prop):xFO prog 372 0 K=K 0:=ZU (by kernel_rfl) K
@[go_sem ↓] theorem Ywv (K:Nat→Prop):xFO prog 386 0 K=K 0:=ZU (by kernel_rfl) K
@[go_sem ↓] theorem Yza (K:Nat→Prop):xFO prog 386 1 K=K 1:=ZU (by kernel_rfl) K
@[go_sem ↓] theorem Ypx (K:Nat→Prop):xFO prog 386 2 K=K 2:=ZU (by kernel_rfl) K
@[go_sem ↓] theorem Yru (K:Nat→Prop):xFO prog 393 0 K=K 0:=ZU (by kernel_rfl) K
@[go_sem ↓] theorem Yxr (K:Nat→Prop):xFO prog 414 0 K=K 0:=ZU (by kernel_rfl) K
@[go_sem ↓] theorem Yre (K:Nat→Prop):xFO prog 414 1 K=K 1:=ZU (by kernel_rfl) K
@[go_sem ↓] theorem Yvk (K:Nat→Prop):xFO prog 423 0 K=K 0:=ZU (by kernel_rfl) K
@[go_sem ↓] theorem Yzd (K:Nat→Prop):xFO prog 423 1 K=K 2:=ZU (by kernel_rfl) K
@[go_sem ↓] theorem Yst (K:Nat→Prop):xFO prog 430 0 K=K 0:=ZU (by kernel_rfl) K
@[go_sem ↓] theorem Yqm (K:Nat→Prop):xFO prog 430 1 K=K 4:=ZU (by kernel_rfl) K
@[go_sem ↓] theorem Yzx (K:Nat→Prop):xFO prog 430 2 K=K 28:=ZU (by kernel_rfl) K
@[go_sem] theorem Yse:tSh prog 25 = .sl 22 1 8:=by kernel_rfl
@[go_sem] theorem Ywj:tSh prog 26 = .sl 74 6 48:=by kernel_rfl
@[go_sem] theorem Zwk:tSh prog 27 = .sl 3 1 8:=by kernel_rfl
@[go_sem] theorem Ywf:tSh prog 28 = .sl 164 4 32:=by kernel_rfl
@[go_sem] theorem Yga:tSh prog 29 = .sl 167 3 24:=by kernel_rfl
@[go_sem] theorem Ywk:tSh prog 30 = .sl 120 33 296:=by kernel_rfl
@[go_sem] theorem Ywy:tSh prog 31 = .sl 5 1 1:=by kernel_rfl
@[go_sem] theorem Yuq:tSh prog 32 = .sl 31 1 24:=by kernel_rfl
@[go_sem] theorem tSh_40:tSh prog 40 = .sl 124 6 48:=by kernel_rfl
@[go_sem] theorem tSh_41:tSh prog 41 = .sl 233 4 32:=by kernel_rfl
@[go_sem] theorem tSh_42:tSh prog 42 = .sl 216 3 24:=by kernel_rfl
@[go_sem] theorem tSh_43:tSh prog 43 = .sl 184 33 296:=by kernel_rfl
@[go_sem] theorem tSh_114:tSh prog 114 = .sl 223 2 16:=by kernel_rfl
@[go_sem] theorem tSh_129:tSh prog 129 = .ar 8 9 1:=by kernel_rfl
@[go_sem] theorem tSh_130:tSh prog 130 = .sl 9 1 16:=by kernel_rfl
@[go_sem] theorem tSh_149:tSh prog 149 = .sl 72 4 32:=by kernel_rfl
@[go_sem] theorem tSh_230:tSh prog 230 = .sl 4 1 1:=by kernel_rfl
@[go_sem] theorem tSh_342:tSh prog 342 = .sl 35 1 8:=by kernel_rfl
@[go_sem] theorem tSh_354:tSh prog 354 = .sl 49 1 8:=by kernel_rfl
@[go_sem ↓] theorem xSlh_27 (a:Option Addr)(n c:Nat)(k:IntKind)(j:Int)(h0:0≤j)(h1:j≤(c:Int))(K:Value→Prop):xSl prog 27 (.slice a n c) none (some (.int k j)) none K=K (.slice a j.toNat c):=Yhe Zwk a n c k j h0 h1 K
@[go_sem ↓] theorem xSlh_29 (a:Option Addr)(n c:Nat)(k:IntKind)(j:Int)(h0:0≤j)(h1:j≤(c:Int))(K:Value→Prop):xSl prog 29 (.slice a n c) none (some (.int k j)) none K=K (.slice a j.toNat c):=Yhe Yga a n c k j h0 h1 K
@[go_sem ↓] theorem xBeq_25 (x y:Operand)(a:Option Addr)(n c:Nat)(K:Value→Prop):VN prog .eql 25 x y (.slice a n c) (.slice none 0 0) K=K (.bool a.isNone):=WO Yse x y a n c K
@[go_sem ↓] theorem xBeq_26 (x y:Operand)(a:Option Addr)(n c:Nat)(K:Value→Prop):VN prog .eql 26 x y (.slice a n c) (.slice none 0 0) K=K (.bool a.isNone):=WO Ywj x y a n c K
@[go_sem ↓] theorem xBeq_27 (x y:Operand)(a:Option Addr)(n c:Nat)(K:Value→Prop):VN prog .eql 27 x y (.slice a n c) (.slice none 0 0) K=K (.bool a.isNone):=WO Zwk x y a n c K
@[go_sem ↓] theorem xBeq_28 (x y:Operand)(a:Option Addr)(n c:Nat)(K:Value→Prop):VN prog .eql 28 x y (.slice a n c) (.slice none 0 0) K=K (.bool a.isNone):=WO Ywf x y a n c K
@[go_sem ↓] theorem xBeq_29 (x y:Operand)(a:Option Addr)(n c:Nat)(K:Value→Prop):VN prog .eql 29 x y (.slice a n c) (.slice none 0 0) K=K (.bool a.isNone):=WO Yga x y a n c K
@[go_sem ↓] theorem xBeq_30 (x y:Operand)(a:Option Addr)(n c:Nat)(K:Value→Prop):VN prog .eql 30 x y (.slice a n c) (.slice none 0 0) K=K (.bool a.isNone):=WO Ywk x y a n c K
@[go_sem ↓] theorem xBeq_31 (x y:Operand)(a:Option Addr)(n c:Nat)(K:Value→Prop):VN prog .eql 31 x y (.slice a n c) (.slice none 0 0) K=K (.bool a.isNone):=WO Ywy x y a n c K
@[go_sem ↓] theorem xBeq_32 (x y:Operand)(a:Option Addr)(n c:Nat)(K:Value→Prop):VN prog .eql 32 x y (.slice a n c) (.slice none 0 0) K=K (.bool a.isNone):=WO Yuq x y a n c K
@[go_sem ↓] theorem Wfk (x y:Operand)(a:Option Addr)(K:Value→Prop):VN prog .eql 275 x y (.pointer a) (.pointer none) K=K (.bool a.isNone):=Zml (T:=275) (e:=372) (by kernel_rfl) x y a K
@[go_sem ↓] theorem xSlm_27 (a:Option Addr)(n c:Nat)(k l:IntKind)(i j:Int)(h0:0≤i)(h1:i≤j)(h2:j≤(c:Int))(K:Value→Prop):xSl prog 27 (.slice a n c) (some (.int k i)) (some (.int l j)) none K=K (.slice (JP a c i.toNat 1) (j.toNat-i.toNat) (c-i.toNat)):=Zgd Zwk a n c k l i j h0 h1 h2 K
@[go_sem ↓] theorem xLen_25 (ty:Nat)(a:Option Addr)(n c:Nat)(K:Value→Prop):Zae prog ty #[25] (.slice a n c) K=K (.int .i64 n):=Yx (T:=25) (e:=22) (by kernel_rfl) a n c
@[go_sem ↓] theorem xLen_26 (ty:Nat)(a:Option Addr)(n c:Nat)(K:Value→Prop):Zae prog ty #[26] (.slice a n c) K=K (.int .i64 n):=Yx (T:=26) (e:=74) (by kernel_rfl) a n c
@[go_sem ↓] theorem xLen_27 (ty:Nat)(a:Option Addr)(n c:Nat)(K:Value→Prop):Zae prog ty #[27] (.slice a n c) K=K (.int .i64 n):=Yx (T:=27) (e:=3) (by kernel_rfl) a n c
@[go_sem ↓] theorem xLen_28 (ty:Nat)(a:Option Addr)(n c:Nat)(K:Value→Prop):Zae prog ty #[28] (.slice a n c) K=K (.int .i64 n):=Yx (T:=28) (e:=164) (by kernel_rfl) a n c
@[go_sem ↓] theorem xLen_29 (ty:Nat)(a:Option Addr)(n c:Nat)(K:Value→Prop):Zae prog ty #[29] (.slice a n c) K=K (.int .i64 n):=Yx (T:=29) (e:=167) (by kernel_rfl) a n c
@[go_sem ↓] theorem xLen_30 (ty:Nat)(a:Option Addr)(n c:Nat)(K:Value→Prop):Zae prog ty #[30] (.slice a n c) K=K (.int .i64 n):=Yx (T:=30) (e:=120) (by kernel_rfl) a n c
@[go_sem ↓] theorem xLen_31 (ty:Nat)(a:Option Addr)(n c:Nat)(K:Value→Prop):Zae prog ty #[31] (.slice a n c) K=K (.int .i64 n):=Yx (T:=31) (e:=5) (by kernel_rfl) a n c
@[go_sem ↓] theorem xLen_32 (ty:Nat)(a:Option Addr)(n c:Nat)(K:Value→Prop):Zae prog ty #[32] (.slice a n c) K=K (.int .i64 n):=Yx (T:=32) (e:=31) (by kernel_rfl) a n c
@[go_sem ↓] theorem xLen_40 (ty:Nat)(a:Option Addr)(n c:Nat)(K:Value→Prop):Zae prog ty #[40] (.slice a n c) K=K (.int .i64 n):=Yx (T:=40) (e:=124) (by kernel_rfl) a n c
@[go_sem ↓] theorem xLen_41 (ty:Nat)(a:Option Addr)(n c:Nat)(K:Value→Prop):Zae prog ty #[41] (.slice a n c) K=K (.int .i64 n):=Yx (T:=41) (e:=233) (by kernel_rfl) a n c
@[go_sem ↓] theorem xLen_42 (ty:Nat)(a:Option Addr)(n c:Nat)(K:Value→Prop):Zae prog ty #[42] (.slice a n c) K=K (.int .i64 n):=Yx (T:=42) (e:=216) (by kernel_rfl) a n c
@[go_sem ↓] theorem xLen_43 (ty:Nat)(a:Option Addr)(n c:Nat)(K:Value→Prop):Zae prog ty #[43] (.slice a n c) K=K (.int .i64 n):=Yx (T:=43) (e:=184) (by kernel_rfl) a n c
@[go_sem ↓] theorem Wcs (ty:Nat)(a:Option Addr)(n c:Nat)(K:Value→Prop):Zae prog ty #[114] (.slice a n c) K=K (.int .i64 n):=Yx (T:=114) (e:=223) (by kernel_rfl) a n c
@[go_sem ↓] theorem Wem (ty:Nat)(a:Option Addr)(n c:Nat)(K:Value→Prop):Zae prog ty #[149] (.slice a n c) K=K (.int .i64 n):=Yx (T:=149) (e:=72) (by kernel_rfl) a n c
@[go_sem ↓] theorem Wdy (ty:Nat)(a:Option Addr)(n c:Nat)(K:Value→Prop):Zae prog ty #[230] (.slice a n c) K=K (.int .i64 n):=Yx (T:=230) (e:=4) (by kernel_rfl) a n c
@[go_sem ↓] theorem Wcw (ty:Nat)(a:Option Addr)(n c:Nat)(K:Value→Prop):Zae prog ty #[254] (.slice a n c) K=K (.int .i64 n):=Yx (T:=254) (e:=5) (by kernel_rfl) a n c
@[go_sem ↓] theorem Wfr (ty:Nat)(a:Option Addr)(n c:Nat)(K:Value→Prop):Zae prog ty #[342] (.slice a n c) K=K (.int .i64 n):=Yx (T:=342) (e:=35) (by kernel_rfl) a n c
@[go_sem ↓] theorem Wfu (ty:Nat)(a:Option Addr)(n c:Nat)(K:Value→Prop):Zae prog ty #[354] (.slice a n c) K=K (.int .i64 n):=Yx (T:=354) (e:=49) (by kernel_rfl) a n c
@[go_sem ↓] theorem xBb_4 (x y:Operand)(a b:Bool)(K:Value→Prop):VN prog .eql 4 x y (.bool a) (.bool b) K=K (.bool (a == b)):=Zmc (T:=4) (by kernel_rfl) x y a b K
@[go_sem ↓] theorem xBn_4 (x y:Operand)(a b:Bool)(K:Value→Prop):VN prog .neq 4 x y (.bool a) (.bool b) K=K (.bool (!(a == b))):=Zln (T:=4) (by kernel_rfl) x y a b K
@[go_sem ↓] theorem Ynk (k:IntKind)(n:Int)(K:Value→Prop):Zde prog 3 22 (.int k n) K=K (.int .u64 (IntKind.u64.wrap n)):=Uj (s:=3) (d:=22) (ks:=.i64) (kd:=.u64) (by kernel_rfl) (by kernel_rfl) k n
@[go_sem ↓] theorem Ykl (k:IntKind)(n:Int)(K:Value→Prop):Zde prog 3 417 (.int k n) K=K (.int .u64 (IntKind.u64.wrap n)):=Uj (s:=3) (d:=417) (ks:=.i64) (kd:=.u64) (by kernel_rfl) (by kernel_rfl) k n
@[go_sem ↓] theorem Yxo (k:IntKind)(n:Int)(K:Value→Prop):Zde prog 5 3 (.int k n) K=K (.int .i64 (IntKind.i64.wrap n)):=Uj (s:=5) (d:=3) (ks:=.u8) (kd:=.i64) (by kernel_rfl) (by kernel_rfl) k n
@[go_sem ↓] theorem Ynb (k:IntKind)(n:Int)(K:Value→Prop):Zde prog 22 3 (.int k n) K=K (.int .i64 (IntKind.i64.wrap n)):=Uj (s:=22) (d:=3) (ks:=.u64) (kd:=.i64) (by kernel_rfl) (by kernel_rfl) k n
@[go_sem ↓] theorem Ynw (k:IntKind)(n:Int)(K:Value→Prop):Zde prog 22 5 (.int k n) K=K (.int .u8 (IntKind.u8.wrap n)):=Uj (s:=22) (d:=5) (ks:=.u64) (kd:=.u8) (by kernel_rfl) (by kernel_rfl) k n
@[go_sem ↓] theorem Ykf (k:IntKind)(n:Int)(K:Value→Prop):Zde prog 417 3 (.int k n) K=K (.int .i64 (IntKind.i64.wrap n)):=Uj (s:=417) (d:=3) (ks:=.u64) (kd:=.i64) (by kernel_rfl) (by kernel_rfl) k n
theorem ZX:prog.follows .mixedOrders=true:=by kernel_rfl
end Go.X
