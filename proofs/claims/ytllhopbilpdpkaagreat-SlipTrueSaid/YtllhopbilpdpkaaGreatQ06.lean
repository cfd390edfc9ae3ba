/- Lemmas and contracts. Conditions: as each says. -/
import Derived.KernelRfl
import Derived.Test.YtllhopbilpdpkaaGreatProg
import Derived.Test.YtllhopbilpdpkaaGreatQ04
set_option linter.unusedVariables false
set_option linter.unusedSimpArgs false
set_option maxHeartbeats 12800000
set_option maxRecDepth 20000
namespace Go.X
open Go.Proofs Go.Proofs.Tryz
theorem Zds:tI prog 3=some ⟨1,false,[(.int .i64 0)],8⟩:=by kernel_rfl
@[go_sem ↓] theorem xTI_3 (K:TI→Prop):xTI prog 3 K=K ⟨1,false,[(.int .i64 0)],8⟩:=YL Zds K
theorem tI_4:tI prog 4=some ⟨1,false,[(.bool false)],1⟩:=by kernel_rfl
@[go_sem ↓] theorem xTI_4 (K:TI→Prop):xTI prog 4 K=K ⟨1,false,[(.bool false)],1⟩:=YL tI_4 K
theorem Yno:tI prog 5=some ⟨1,false,[(.int .u8 0)],1⟩:=by kernel_rfl
@[go_sem ↓] theorem xTI_5 (K:TI→Prop):xTI prog 5 K=K ⟨1,false,[(.int .u8 0)],1⟩:=YL Yno K
theorem VB:tI prog 22=some ⟨1,false,[(.int .u64 0)],8⟩:=by kernel_rfl
@[go_sem ↓] theorem xTI_22 (K:TI→Prop):xTI prog 22 K=K ⟨1,false,[(.int .u64 0)],8⟩:=YL VB K
theorem tI_24:tI prog 24=some ⟨24,true,[(.int .u64 0),(.int .u64 0),(.int .u64 0),(.int .u64 0),(.int .u64 0),(.int .u64 0),(.int .u64 0),(.int .u64 0),(.int .u64 0),(.int .u64 0),(.int .u64 0),(.int .u64 0),(.int .u64 0),(.int .u64 0),(.int .i64 0),(.int .i64 0),(.int .i64 0),(.int .i64 0),(.int .i64 0),(.int .i64 0),(.int .i64 0),(.int .i64 0),(.int .i64 0),(.int .i64 0)],192⟩:=by kernel_rfl
@[go_sem ↓] theorem xTI_24 (K:TI→Prop):xTI prog 24 K=K ⟨24,true,[(.int .u64 0),(.int .u64 0),(.int .u64 0),(.int .u64 0),(.int .u64 0),(.int .u64 0),(.int .u64 0),(.int .u64 0),(.int .u64 0),(.int .u64 0),(.int .u64 0),(.int .u64 0),(.int .u64 0),(.int .u64 0),(.int .i64 0),(.int .i64 0),(.int .i64 0),(.int .i64 0),(.int .i64 0),(.int .i64 0),(.int .i64 0),(.int .i64 0),(.int .i64 0),(.int .i64 0)],192⟩:=YL tI_24 K
theorem tI_25:tI prog 25=some ⟨1,false,[(.slice none 0 0)],24⟩:=by kernel_rfl
@[go_sem ↓] theorem xTI_25 (K:TI→Prop):xTI prog 25 K=K ⟨1,false,[(.slice none 0 0)],24⟩:=YL tI_25 K
theorem tI_26:tI prog 26=some ⟨1,false,[(.slice none 0 0)],24⟩:=by kernel_rfl
@[go_sem ↓] theorem xTI_26 (K:TI→Prop):xTI prog 26 K=K ⟨1,false,[(.slice none 0 0)],24⟩:=YL tI_26 K
theorem tI_27:tI prog 27=some ⟨1,false,[(.slice none 0 0)],24⟩:=by kernel_rfl
@[go_sem ↓] theorem xTI_27 (K:TI→Prop):xTI prog 27 K=K ⟨1,false,[(.slice none 0 0)],24⟩:=YL tI_27 K
theorem tI_28:tI prog 28=some ⟨1,false,[(.slice none 0 0)],24⟩:=by kernel_rfl
@[go_sem ↓] theorem xTI_28 (K:TI→Prop):xTI prog 28 K=K ⟨1,false,[(.slice none 0 0)],24⟩:=YL tI_28 K
theorem tI_29:tI prog 29=some ⟨1,false,[(.slice none 0 0)],24⟩:=by kernel_rfl
@[go_sem ↓] theorem xTI_29 (K:TI→Prop):xTI prog 29 K=K ⟨1,false,[(.slice none 0 0)],24⟩:=YL tI_29 K
theorem tI_30:tI prog 30=some ⟨1,false,[(.slice none 0 0)],24⟩:=by kernel_rfl
@[go_sem ↓] theorem xTI_30 (K:TI→Prop):xTI prog 30 K=K ⟨1,false,[(.slice none 0 0)],24⟩:=YL tI_30 K
theorem Yih:tI prog 31=some ⟨1,false,[(.slice none 0 0)],24⟩:=by kernel_rfl
@[go_sem ↓] theorem xTI_31 (K:TI→Prop):xTI prog 31 K=K ⟨1,false,[(.slice none 0 0)],24⟩:=YL Yih K
theorem tI_32:tI prog 32=some ⟨1,false,[(.slice none 0 0)],24⟩:=by kernel_rfl
@[go_sem ↓] theorem xTI_32 (K:TI→Prop):xTI prog 32 K=K ⟨1,false,[(.slice none 0 0)],24⟩:=YL tI_32 K
theorem tI_34:tI prog 34=some ⟨41,true,[(.int .u64 0),(.int .u64 0),(.int .u64 0),(.int .u64 0),(.int .u64 0),(.int .u64 0),(.int .u64 0),(.int .u64 0),(.int .u64 0),(.int .u64 0),(.int .u64 0),(.int .u64 0),(.int .u64 0),(.int .u64 0),(.int .i64 0),(.int .i64 0),(.int .i64 0),(.int .i64 0),(.int .i64 0),(.int .i64 0),(.int .i64 0),(.int .i64 0),(.int .i64 0),(.int .i64 0),(.int .u64 0),(.int .u64 0),(.int .u64 0),(.int .u64 0),(.int .u64 0),(.int .i64 0),(.int .i64 0),(.bool false),(.slice none 0 0),(.slice none 0 0),(.slice none 0 0),(.slice none 0 0),(.slice none 0 0),(.slice none 0 0),(.slice none 0 0),(.slice none 0 0),(.slice none 0 0)],472⟩:=by kernel_rfl
@[go_sem ↓] theorem xTI_34 (K:TI→Prop):xTI prog 34 K=K ⟨41,true,[(.int .u64 0),(.int .u64 0),(.int .u64 0),(.int .u64 0),(.int .u64 0),(.int .u64 0),(.int .u64 0),(.int .u64 0),(.int .u64 0),(.int .u64 0),(.int .u64 0),(.int .u64 0),(.int .u64 0),(.int .u64 0),(.int .i64 0),(.int .i64 0),(.int .i64 0),(.int .i64 0),(.int .i64 0),(.int .i64 0),(.int .i64 0),(.int .i64 0),(.int .i64 0),(.int .i64 0),(.int .u64 0),(.int .u64 0),(.int .u64 0),(.int .u64 0),(.int .u64 0),(.int .i64 0),(.int .i64 0),(.bool false),(.slice none 0 0),(.slice none 0 0),(.slice none 0 0),(.slice none 0 0),(.slice none 0 0),(.slice none 0 0),(.slice none 0 0),(.slice none 0 0),(.slice none 0 0)],472⟩:=YL tI_34 K
theorem tI_49:tI prog 49=some ⟨1,false,[(.int .i64 0)],8⟩:=by kernel_rfl
@[go_sem ↓] theorem xTI_49 (K:TI→Prop):xTI prog 49 K=K ⟨1,false,[(.int .i64 0)],8⟩:=YL tI_49 K
theorem tI_59:tI prog 59=some ⟨1,false,[(.slice none 0 0)],24⟩:=by kernel_rfl
@[go_sem ↓] theorem xTI_59 (K:TI→Prop):xTI prog 59 K=K ⟨1,false,[(.slice none 0 0)],24⟩:=YL tI_59 K
theorem tI_63:tI prog 63=some ⟨14,true,[(.int .i64 0),(.int .i64 0),(.bool false),(.int .u64 0),(.int .u64 0),(.int .u64 0),(.int .u64 0),(.int .u64 0),(.int .u64 0),(.int .u64 0),(.slice none 0 0),(.slice none 0 0),(.slice none 0 0),(.slice none 0 0)],176⟩:=by kernel_rfl
@[go_sem ↓] theorem xTI_63 (K:TI→Prop):xTI prog 63 K=K ⟨14,true,[(.int .i64 0),(.int .i64 0),(.bool false),(.int .u64 0),(.int .u64 0),(.int .u64 0),(.int .u64 0),(.int .u64 0),(.int .u64 0),(.int .u64 0),(.slice none 0 0),(.slice none 0 0),(.slice none 0 0),(.slice none 0 0)],176⟩:=YL tI_63 K
theorem Ysp:tI prog 69=some ⟨8,true,[(.int .i64 0),(.bool false),(.int .u64 0),(.int .u64 0),(.int .u64 0),(.int .u64 0),(.int .i64 0),(.int .u64 0)],64⟩:=by kernel_rfl
@[go_sem ↓] theorem xTI_69 (K:TI→Prop):xTI prog 69 K=K ⟨8,true,[(.int .i64 0),(.bool false),(.int .u64 0),(.int .u64 0),(.int .u64 0),(.int .u64 0),(.int .i64 0),(.int .u64 0)],64⟩:=YL Ysp K
theorem Zvq:tI prog 72=some ⟨4,true,[(.int .u64 0),(.int .u64 0),(.int .u64 0),(.int .i64 0)],32⟩:=by kernel_rfl
@[go_sem ↓] theorem xTI_72 (K:TI→Prop):xTI prog 72 K=K ⟨4,true,[(.int .u64 0),(.int .u64 0),(.int .u64 0),(.int .i64 0)],32⟩:=YL Zvq K
theorem Yby:tI prog 74=some ⟨6,true,[(.int .u64 0),(.int .u64 0),(.int .u64 0),(.int .i64 0),(.int .i64 0),(.int .i64 0)],48⟩:=by kernel_rfl
@[go_sem ↓] theorem xTI_74 (K:TI→Prop):xTI prog 74 K=K ⟨6,true,[(.int .u64 0),(.int .u64 0),(.int .u64 0),(.int .i64 0),(.int .i64 0),(.int .i64 0)],48⟩:=YL Yby K
theorem Ypi:tI prog 114=some ⟨1,false,[(.slice none 0 0)],24⟩:=by kernel_rfl
@[go_sem ↓] theorem xTI_114 (K:TI→Prop):xTI prog 114 K=K ⟨1,false,[(.slice none 0 0)],24⟩:=YL Ypi K
theorem Ysm:tI prog 116=some ⟨27,true,[(.int .u64 0),(.int .u64 0),(.int .u64 0),(.int .u64 0),(.int .u64 0),(.int .u64 0),(.int .u64 0),(.int .u64 0),(.int .u64 0),(.int .u64 0),(.int .u64 0),(.int .u64 0),(.int .u64 0),(.int .u64 0),(.int .i64 0),(.int .i64 0),(.int .i64 0),(.int .i64 0),(.int .i64 0),(.int .i64 0),(.int .i64 0),(.int .i64 0),(.int .i64 0),(.int .i64 0),(.int .u64 0),(.slice none 0 0),(.slice none 0 0)],248⟩:=by kernel_rfl
@[go_sem ↓] theorem xTI_116 (K:TI→Prop):xTI prog 116 K=K ⟨27,true,[(.int .u64 0),(.int .u64 0),(.int .u64 0),(.int .u64 0),(.int .u64 0),(.int .u64 0),(.int .u64 0),(.int .u64 0),(.int .u64 0),(.int .u64 0),(.int .u64 0),(.int .u64 0),(.int .u64 0),(.int .u64 0),(.int .i64 0),(.int .i64 0),(.int .i64 0),(.int .i64 0),(.int .i64 0),(.int .i64 0),(.int .i64 0),(.int .i64 0),(.int .i64 0),(.int .i64 0),(.int .u64 0),(.slice none 0 0),(.slice none 0 0)],248⟩:=YL Ysm K
theorem Yez:tI prog 120=some ⟨33,true,[(.int .i64 0),(.int .i64 0),(.int .u64 0),(.int .u64 0),(.int .u64 0),(.int .u64 0),(.int .u64 0),(.int .u64 0),(.int .u64 0),(.int .u64 0),(.int .u64 0),(.int .u64 0),(.int .u64 0),(.int .u64 0),(.int .u64 0),(.int .u64 0),(.int .i64 0),(.int .i64 0),(.int .i64 0),(.int .i64 0),(.int .i64 0),(.int .i64 0),(.int .i64 0),(.int .i64 0),(.int .i64 0),(.int .i64 0),(.int .i64 0),(.int .u64 0),(.int .i64 0),(.int .i64 0),(.int .i64 0),(.slice none 0 0),(.slice none 0 0)],296⟩:=by kernel_rfl
@[go_sem ↓] theorem xTI_120 (K:TI→Prop):xTI prog 120 K=K ⟨33,true,[(.int .i64 0),(.int .i64 0),(.int .u64 0),(.int .u64 0),(.int .u64 0),(.int .u64 0),(.int .u64 0),(.int .u64 0),(.int .u64 0),(.int .u64 0),(.int .u64 0),(.int .u64 0),(.int .u64 0),(.int .u64 0),(.int .u64 0),(.int .u64 0),(.int .i64 0),(.int .i64 0),(.int .i64 0),(.int .i64 0),(.int .i64 0),(.int .i64 0),(.int .i64 0),(.int .i64 0),(.int .i64 0),(.int .i64 0),(.int .i64 0),(.int .u64 0),(.int .i64 0),(.int .i64 0),(.int .i64 0),(.slice none 0 0),(.slice none 0 0)],296⟩:=YL Yez K
theorem Yth:tI prog 132=some ⟨41,true,[(.int .u64 0),(.int .u64 0),(.int .u64 0),(.int .u64 0),(.int .u64 0),(.int .u64 0),(.int .u64 0),(.int .u64 0),(.int .u64 0),(.int .u64 0),(.int .u64 0),(.int .u64 0),(.int .u64 0),(.int .u64 0),(.int .i64 0),(.int .i64 0),(.int .i64 0),(.int .i64 0),(.int .i64 0),(.int .i64 0),(.int .i64 0),(.int .i64 0),(.int .i64 0),(.int .i64 0),(.int .u64 0),(.int .u64 0),(.int .u64 0),(.int .u64 0),(.int .u64 0),(.int .i64 0),(.int .i64 0),(.bool false),(.slice none 0 0),(.slice none 0 0),(.slice none 0 0),(.slice none 0 0),(.slice none 0 0),(.slice none 0 0),(.slice none 0 0),(.slice none 0 0),(.slice none 0 0)],472⟩:=by kernel_rfl
@[go_sem ↓] theorem xTI_132 (K:TI→Prop):xTI prog 132 K=K ⟨41,true,[(.int .u64 0),(.int .u64 0),(.int .u64 0),(.int .u64 0),(.int .u64 0),(.int .u64 0),(.int .u64 0),(.int .u64 0),(.int .u64 0),(.int .u64 0),(.int .u64 0),(.int .u64 0),(.int .u64 0),(.int .u64 0),(.int .i64 0),(.int .i64 0),(.int .i64 0),(.int .i64 0),(.int .i64 0),(.int .i64 0),(.int .i64 0),(.int .i64 0),(.int .i64 0),(.int .i64 0),(.int .u64 0),(.int .u64 0),(.int .u64 0),(.int .u64 0),(.int .u64 0),(.int .i64 0),(.int .i64 0),(.bool false),(.slice none 0 0),(.slice none 0 0),(.slice none 0 0),(.slice none 0 0),(.slice none 0 0),(.slice none 0 0),(.slice none 0 0),(.slice none 0 0),(.slice none 0 0)],472⟩:=YL Yth K
theorem Yru:tI prog 149=some ⟨1,false,[(.slice none 0 0)],24⟩:=by kernel_rfl
@[go_sem ↓] theorem xTI_149 (K:TI→Prop):xTI prog 149 K=K ⟨1,false,[(.slice none 0 0)],24⟩:=YL Yru K
theorem Ymk:tI prog 152=some ⟨1,false,[(.pointer none)],8⟩:=by kernel_rfl
@[go_sem ↓] theorem xTI_152 (K:TI→Prop):xTI prog 152 K=K ⟨1,false,[(.pointer none)],8⟩:=YL Ymk K
theorem Yrl:tI prog 155=some ⟨5,true,[(.int .u64 0),(.int .u64 0),(.int .u64 0),(.int .u64 0),(.int .u64 0)],40⟩:=by kernel_rfl
@[go_sem ↓] theorem xTI_155 (K:TI→Prop):xTI prog 155 K=K ⟨5,true,[(.int .u64 0),(.int .u64 0),(.int .u64 0),(.int .u64 0),(.int .u64 0)],40⟩:=YL Yrl K
theorem Yrs:tI prog 156=some ⟨1,false,[.nilFunc],8⟩:=by kernel_rfl
@[go_sem ↓] theorem xTI_156 (K:TI→Prop):xTI prog 156 K=K ⟨1,false,[.nilFunc],8⟩:=YL Yrs K
theorem Zcc:tI prog 164=some ⟨4,true,[(.int .i64 0),(.int .i64 0),(.int .u64 0),(.bool false)],32⟩:=by kernel_rfl
@[go_sem ↓] theorem xTI_164 (K:TI→Prop):xTI prog 164 K=K ⟨4,true,[(.int .i64 0),(.int .i64 0),(.int .u64 0),(.bool false)],32⟩:=YL Zcc K
theorem Un:tI prog 167=some ⟨3,true,[(.int .i64 0),(.int .i64 0),(.int .u64 0)],24⟩:=by kernel_rfl
@[go_sem ↓] theorem xTI_167 (K:TI→Prop):xTI prog 167 K=K ⟨3,true,[(.int .i64 0),(.int .i64 0),(.int .u64 0)],24⟩:=YL Un K
theorem Ysv:tI prog 223=some ⟨2,true,[(.int .i64 0),(.int .u64 0)],16⟩:=by kernel_rfl
@[go_sem ↓] theorem xTI_223 (K:TI→Prop):xTI prog 223 K=K ⟨2,true,[(.int .i64 0),(.int .u64 0)],16⟩:=YL Ysv K
theorem Yrz:tI prog 244=some ⟨5,true,[(.int .u64 0),(.int .u64 0),(.int .u64 0),(.int .u64 0),(.int .u64 0)],40⟩:=by kernel_rfl
@[go_sem ↓] theorem xTI_244 (K:TI→Prop):xTI prog 244 K=K ⟨5,true,[(.int .u64 0),(.int .u64 0),(.int .u64 0),(.int .u64 0),(.int .u64 0)],40⟩:=YL Yrz K
theorem Yoh:tI prog 386=some ⟨3,true,[(.int .u64 0),(.int .u64 0),(.int .u64 0)],24⟩:=by kernel_rfl
@[go_sem ↓] theorem xTI_386 (K:TI→Prop):xTI prog 386 K=K ⟨3,true,[(.int .u64 0),(.int .u64 0),(.int .u64 0)],24⟩:=YL Yoh K
theorem Yol:tI prog 393=some ⟨24,true,[(.int .u64 0),(.int .u64 0),(.int .u64 0),(.int .u64 0),(.int .u64 0),(.int .u64 0),(.int .u64 0),(.int .u64 0),(.int .u64 0),(.int .u64 0),(.int .u64 0),(.int .u64 0),(.int .u64 0),(.int .u64 0),(.int .i64 0),(.int .i64 0),(.int .i64 0),(.int .i64 0),(.int .i64 0),(.int .i64 0),(.int .i64 0),(.int .i64 0),(.int .i64 0),(.int .i64 0)],192⟩:=by kernel_rfl
@[go_sem ↓] theorem xTI_393 (K:TI→Prop):xTI prog 393 K=K ⟨24,true,[(.int .u64 0),(.int .u64 0),(.int .u64 0),(.int .u64 0),(.int .u64 0),(.int .u64 0),(.int .u64 0),(.int .u64 0),(.int .u64 0),(.int .u64 0),(.int .u64 0),(.int .u64 0),(.int .u64 0),(.int .u64 0),(.int .i64 0),(.int .i64 0),(.int .i64 0),(.int .i64 0),(.int .i64 0),(.int .i64 0),(.int .i64 0),(.int .i64 0),(.int .i64 0),(.int .i64 0)],192⟩:=YL Yol K
theorem Ynp:tI prog 414=some ⟨2,true,[(.int .u64 0),(.int .u64 0)],16⟩:=by kernel_rfl
@[go_sem ↓] theorem xTI_414 (K:TI→Prop):xTI prog 414 K=K ⟨2,true,[(.int .u64 0),(.int .u64 0)],16⟩:=YL Ynp K
@[go_sem ↓] theorem Ylq (ps:List (Nat×Value))(K:Value→Prop):Wj prog 24 ps.toArray K=YC [(.int .u64 0),(.int .u64 0),(.int .u64 0),(.int .u64 0),(.int .u64 0),(.int .u64 0),(.int .u64 0),(.int .u64 0),(.int .u64 0),(.int .u64 0),(.int .u64 0),(.int .u64 0),(.int .u64 0),(.int .u64 0),(.int .i64 0),(.int .i64 0),(.int .i64 0),(.int .i64 0),(.int .i64 0),(.int .i64 0),(.int .i64 0),(.int .i64 0),(.int .i64 0),(.int .i64 0)] [(0,1),(1,1),(2,1),(3,1),(4,1),(5,1),(6,1),(7,1),(8,1),(9,1),(10,1),(11,1),(12,1),(13,1),(14,1),(15,1),(16,1),(17,1),(18,1),(19,1),(20,1),(21,1),(22,1),(23,1)] ps fun z'=>K (.agg z'.toArray):=Ys (by kernel_rfl) ps K
@[go_sem ↓] theorem Ypb (ps:List (Nat×Value))(K:Value→Prop):Wj prog 34 ps.toArray K=YC [(.int .u64 0),(.int .u64 0),(.int .u64 0),(.int .u64 0),(.int .u64 0),(.int .u64 0),(.int .u64 0),(.int .u64 0),(.int .u64 0),(.int .u64 0),(.int .u64 0),(.int .u64 0),(.int .u64 0),(.int .u64 0),(.int .i64 0),(.int .i64 0),(.int .i64 0),(.int .i64 0),(.int .i64 0),(.int .i64 0),(.int .i64 0),(.int .i64 0),(.int .i64 0),(.int .i64 0),(.int .u64 0),(.int .u64 0),(.int .u64 0),(.int .u64 0),(.int .u64 0),(.int .i64 0),(.int .i64 0),(.bool false),(.slice none 0 0),(.slice none 0 0),(.slice none 0 0),(.slice none 0 0),(.slice none 0 0),(.slice none 0 0),(.slice none 0 0),(.slice none 0 0),(.slice none 0 0)] [(0,24),(24,1),(25,1),(26,1),(27,1),(28,1),(29,1),(30,1),(31,1),(32,1),(33,1),(34,1),(35,1),(36,1),(37,1),(38,1),(39,1),(40,1)] ps fun z'=>K (.agg z'.toArray):=Ys (by kernel_rfl) ps K
@[go_sem ↓] theorem Yrt (ps:List (Nat×Value))(K:Value→Prop):Wj prog 63 ps.toArray K=YC [(.int .i64 0),(.int .i64 0),(.bool false),(.int .u64 0),(.int .u64 0),(.int .u64 0),(.int .u64 0),(.int .u64 0),(.int .u64 0),(.int .u64 0),(.slice none 0 0),(.slice none 0 0),(.slice none 0 0),(.slice none 0 0)] [(0,1),(1,1),(2,1),(3,1),(4,1),(5,1),(6,1),(7,1),(8,1),(9,1),(10,1),(11,1),(12,1),(13,1)] ps fun z'=>K (.agg z'.toArray):=Ys (by kernel_rfl) ps K
@[go_sem ↓] theorem Ynu (ps:List (Nat×Value))(K:Value→Prop):Wj prog 69 ps.toArray K=YC [(.int .i64 0),(.bool false),(.int .u64 0),(.int .u64 0),(.int .u64 0),(.int .u64 0),(.int .i64 0),(.int .u64 0)] [(0,1),(1,1),(2,1),(3,1),(4,1),(5,1),(6,1),(7,1)] ps fun z'=>K (.agg z'.toArray):=Ys (by kernel_rfl) ps K
@[go_sem ↓] theorem Yte (ps:List (Nat×Value))(K:Value→Prop):Wj prog 72 ps.toArray K=YC [(.int .u64 0),(.int .u64 0),(.int .u64 0),(.int .i64 0)] [(0,1),(1,1),(2,1),(3,1)] ps fun z'=>K (.agg z'.toArray):=Ys (by kernel_rfl) ps K
@[go_sem ↓] theorem Yoo (ps:List (Nat×Value))(K:Value→Prop):Wj prog 74 ps.toArray K=YC [(.int .u64 0),(.int .u64 0),(.int .u64 0),(.int .i64 0),(.int .i64 0),(.int .i64 0)] [(0,4),(4,1),(5,1)] ps fun z'=>K (.agg z'.toArray):=Ys (by kernel_rfl) ps K
@[go_sem ↓] theorem Ykh (ps:List (Nat×Value))(K:Value→Prop):Wj prog 116 ps.toArray K=YC [(.int .u64 0),(.int .u64 0),(.int .u64 0),(.int .u64 0),(.int .u64 0),(.int .u64 0),(.int .u64 0),(.int .u64 0),(.int .u64 0),(.int .u64 0),(.int .u64 0),(.int .u64 0),(.int .u64 0),(.int .u64 0),(.int .i64 0),(.int .i64 0),(.int .i64 0),(.int .i64 0),(.int .i64 0),(.int .i64 0),(.int .i64 0),(.int .i64 0),(.int .i64 0),(.int .i64 0),(.int .u64 0),(.slice none 0 0),(.slice none 0 0)] [(0,24),(24,1),(25,1),(26,1)] ps fun z'=>K (.agg z'.toArray):=Ys (by kernel_rfl) ps K
@[go_sem ↓] theorem Yjf (ps:List (Nat×Value))(K:Value→Prop):Wj prog 132 ps.toArray K=YC [(.int .u64 0),(.int .u64 0),(.int .u64 0),(.int .u64 0),(.int .u64 0),(.int .u64 0),(.int .u64 0),(.int .u64 0),(.int .u64 0),(.int .u64 0),(.int .u64 0),(.int .u64 0),(.int .u64 0),(.int .u64 0),(.int .i64 0),(.int .i64 0),(.int .i64 0),(.int .i64 0),(.int .i64 0),(.int .i64 0),(.int .i64 0),(.int .i64 0),(.int .i64 0),(.int .i64 0),(.int .u64 0),(.int .u64 0),(.int .u64 0),(.int .u64 0),(.int .u64 0),(.int .i64 0),(.int .i64 0),(.bool false),(.slice none 0 0),(.slice none 0 0),(.slice none 0 0),(.slice none 0 0),(.slice none 0 0),(.slice none 0 0),(.slice none 0 0),(.slice none 0 0),(.slice none 0 0)] [(0,41)] ps fun z'=>K (.agg z'.toArray):=Ys (by kernel_rfl) ps K
@[go_sem ↓] theorem Yje (ps:List (Nat×Value))(K:Value→Prop):Wj prog 151 ps.toArray K=YC [(.int .u64 0),(.int .u64 0),(.int .u64 0),(.int .u64 0),(.int .u64 0),(.int .u64 0),(.int .u64 0),(.int .u64 0),(.int .u64 0),(.int .u64 0),(.int .u64 0),(.int .u64 0),(.int .u64 0),(.int .u64 0),(.int .i64 0),(.int .i64 0),(.int .i64 0),(.int .i64 0),(.int .i64 0),(.int .i64 0),(.int .i64 0),(.int .i64 0),(.int .i64 0),(.int .i64 0),(.int .u64 0),(.int .u64 0),(.int .u64 0),(.int .u64 0),(.int .u64 0),(.int .i64 0),(.int .i64 0),(.bool false),(.slice none 0 0),(.slice none 0 0),(.slice none 0 0),(.slice none 0 0),(.slice none 0 0),(.slice none 0 0),(.slice none 0 0),(.slice none 0 0),(.slice none 0 0),(.int .i64 0),(.int .u64 0),(.slice none 0 0),(.slice none 0 0)] [(0,41),(41,1),(42,1),(43,1),(44,1)] ps fun z'=>K (.agg z'.toArray):=Ys (by kernel_rfl) ps K
@[go_sem ↓] theorem Ykr (ps:List (Nat×Value))(K:Value→Prop):Wj prog 154 ps.toArray K=YC [(.int .u64 0),(.int .u64 0),(.int .u64 0),(.int .u64 0),(.int .u64 0),(.int .u64 0),(.int .u64 0),(.int .u64 0),(.int .u64 0),(.int .u64 0),(.int .u64 0),(.int .u64 0),(.int .u64 0),(.int .u64 0),(.int .i64 0),(.int .i64 0),(.int .i64 0),(.int .i64 0),(.int .i64 0),(.int .i64 0),(.int .i64 0),(.int .i64 0),(.int .i64 0),(.int .i64 0),(.int .u64 0),(.int .u64 0),(.int .u64 0),(.int .u64 0),(.int .u64 0),(.int .i64 0),(.int .i64 0),(.bool false),(.slice none 0 0),(.slice none 0 0),(.slice none 0 0),(.slice none 0 0),(.slice none 0 0),(.slice none 0 0),(.slice none 0 0),(.slice none 0 0),(.slice none 0 0),(.int .i64 0),(.int .i64 0),(.bool false),(.int .u64 0),(.int .u64 0),(.int .u64 0),(.int .u64 0),(.int .u64 0),(.int .u64 0),(.int .u64 0),(.slice none 0 0),(.slice none 0 0),(.slice none 0 0),(.slice none 0 0),(.int .i64 0)] [(0,41),(41,14),(55,1)] ps fun z'=>K (.agg z'.toArray):=Ys (by kernel_rfl) ps K
@[go_sem ↓] theorem Yjh (ps:List (Nat×Value))(K:Value→Prop):Wj prog 167 ps.toArray K=YC [(.int .i64 0),(.int .i64 0),(.int .u64 0)] [(0,1),(1,1),(2,1)] ps fun z'=>K (.agg z'.toArray):=Ys (by kernel_rfl) ps K
@[go_sem ↓] theorem Yjw (ps:List (Nat×Value))(K:Value→Prop):Wj prog 223 ps.toArray K=YC [(.int .i64 0),(.int .u64 0)] [(0,1),(1,1)] ps fun z'=>K (.agg z'.toArray):=Ys (by kernel_rfl) ps K
@[go_sem ↓] theorem Yjd (ps:List (Nat×Value))(K:Value→Prop):Wj prog 244 ps.toArray K=YC [(.int .u64 0),(.int .u64 0),(.int .u64 0),(.int .u64 0),(.int .u64 0)] [(0,1),(1,1),(2,1),(3,1),(4,1)] ps fun z'=>K (.agg z'.toArray):=Ys (by kernel_rfl) ps K
@[go_sem ↓] theorem Yke (ps:List (Nat×Value))(K:Value→Prop):Wj prog 349 ps.toArray K=YC [(.int .u64 0),(.int .u64 0),(.int .u64 0),(.int .i64 0),(.int .i64 0),(.int .i64 0)] [(0,6)] ps fun z'=>K (.agg z'.toArray):=Ys (by kernel_rfl) ps K
@[go_sem ↓] theorem Yjz (ps:List (Nat×Value))(K:Value→Prop):Wj prog 362 ps.toArray K=YC [(.int .u64 0),(.int .u64 0),(.int .u64 0),(.int .i64 0),(.int .u64 0),(.int .u64 0),(.int .u64 0),(.int .u64 0),(.int .u64 0),(.int .u64 0),(.int .u64 0),(.int .u64 0),(.int .u64 0),(.int .u64 0),(.int .u64 0),(.int .u64 0),(.int .u64 0),(.int .u64 0),(.int .i64 0),(.int .i64 0),(.int .i64 0),(.int .i64 0),(.int .i64 0),(.int .i64 0),(.int .i64 0),(.int .i64 0),(.int .i64 0),(.int .i64 0)] [(0,4),(4,24)] ps fun z'=>K (.agg z'.toArray):=Ys (by kernel_rfl) ps K
@[go_sem ↓] theorem Yjp (ps:List (Nat×Value))(K:Value→Prop):Wj prog 372 ps.toArray K=YC [(.slice none 0 0)] [(0,1)] ps fun z'=>K (.agg z'.toArray):=Ys (by kernel_rfl) ps K
@[go_sem ↓] theorem Ykn (ps:List (Nat×Value))(K:Value→Prop):Wj prog 386 ps.toArray K=YC [(.int .u64 0),(.int .u64 0),(.int .u64 0)] [(0,1),(1,1),(2,1)] ps fun z'=>K (.agg z'.toArray):=Ys (by kernel_rfl) ps K
@[go_sem ↓] theorem Yjj (ps:List (Nat×Value))(K:Value→Prop):Wj prog 393 ps.toArray K=YC [(.int .u64 0),(.int .u64 0),(.int .u64 0),(.int .u64 0),(.int .u64 0),(.int .u64 0),(.int .u64 0),(.int .u64 0),(.int .u64 0),(.int .u64 0),(.int .u64 0),(.int .u64 0),(.int .u64 0),(.int .u64 0),(.int .i64 0),(.int .i64 0),(.int .i64 0),(.int .i64 0),(.int .i64 0),(.int .i64 0),(.int .i64 0),(.int .i64 0),(.int .i64 0),(.int .i64 0)] [(0,24)] ps fun z'=>K (.agg z'.toArray):=Ys (by kernel_rfl) ps K
@[go_sem ↓] theorem Yjx (ps:List (Nat×Value))(K:Value→Prop):Wj prog 414 ps.toArray K=YC [(.int .u64 0),(.int .u64 0)] [(0,1),(1,1)] ps fun z'=>K (.agg z'.toArray):=Ys (by kernel_rfl) ps K
@[go_sem ↓] theorem Yjv (ps:List (Nat×Value))(K:Value→Prop):Wj prog 423 ps.toArray K=YC [(.int .u64 0),(.int .u64 0),(.int .u64 0)] [(0,2),(2,1)] ps fun z'=>K (.agg z'.toArray):=Ys (by kernel_rfl) ps K
@[go_sem ↓] theorem Yjn (ps:List (Nat×Value))(K:Value→Prop):Wj prog 430 ps.toArray K=YC [(.int .u64 0),(.int .u64 0),(.int .u64 0),(.int .i64 0),(.int .u64 0),(.int .u64 0),(.int .u64 0),(.int .u64 0),(.int .u64 0),(.int .u64 0),(.int .u64 0),(.int .u64 0),(.int .u64 0),(.int .u64 0),(.int .u64 0),(.int .u64 0),(.int .u64 0),(.int .u64 0),(.int .i64 0),(.int .i64 0),(.int .i64 0),(.int .i64 0),(.int .i64 0),(.int .i64 0),(.int .i64 0),(.int .i64 0),(.int .i64 0),(.int .i64 0),(.int .i64 0)] [(0,4),(4,24),(28,1)] ps fun z'=>K (.agg z'.toArray):=Ys (by kernel_rfl) ps K
@[go_sem ↓] theorem Yya (ps:List (Nat×Value))(K:TypeId→List Value→Prop):xBS prog 25 0 ps.toArray K=YC [] [] ps fun cs=>K 22 cs:=We (by kernel_rfl) ps K
@[go_sem ↓] theorem Yvr (ps:List (Nat×Value))(K:TypeId→List Value→Prop):xBS prog 25 1 ps.toArray K=YC [(.int .u64 0)] [(0,1)] ps fun cs=>K 22 cs:=We (by kernel_rfl) ps K
@[go_sem ↓] theorem Yvi (ps:List (Nat×Value))(K:TypeId→List Value→Prop):xBS prog 25 2 ps.toArray K=YC [(.int .u64 0),(.int .u64 0)] [(0,1),(1,1)] ps fun cs=>K 22 cs:=We (by kernel_rfl) ps K
@[go_sem ↓] theorem Ywj (ps:List (Nat×Value))(K:TypeId→List Value→Prop):xBS prog 25 3 ps.toArray K=YC [(.int .u64 0),(.int .u64 0),(.int .u64 0)] [(0,1),(1,1),(2,1)] ps fun cs=>K 22 cs:=We (by kernel_rfl) ps K
@[go_sem ↓] theorem Yty (ps:List (Nat×Value))(K:TypeId→List Value→Prop):xBS prog 25 5 ps.toArray K=YC [(.int .u64 0),(.int .u64 0),(.int .u64 0),(.int .u64 0),(.int .u64 0)] [(0,1),(1,1),(2,1),(3,1),(4,1)] ps fun cs=>K 22 cs:=We (by kernel_rfl) ps K
@[go_sem ↓] theorem Yuf (ps:List (Nat×Value))(K:TypeId→List Value→Prop):xBS prog 26 0 ps.toArray K=YC [] [] ps fun cs=>K 74 cs:=We (by kernel_rfl) ps K
@[go_sem ↓] theorem Yvb (ps:List (Nat×Value))(K:TypeId→List Value→Prop):xBS prog 26 1 ps.toArray K=YC [(.int .u64 0),(.int .u64 0),(.int .u64 0),(.int .i64 0),(.int .i64 0),(.int .i64 0)] [(0,6)] ps fun cs=>K 74 cs:=We (by kernel_rfl) ps K
@[go_sem ↓] theorem Yua (ps:List (Nat×Value))(K:TypeId→List Value→Prop):xBS prog 27 0 ps.toArray K=YC [] [] ps fun cs=>K 3 cs:=We (by kernel_rfl) ps K
@[go_sem ↓] theorem Yuo (ps:List (Nat×Value))(K:TypeId→List Value→Prop):xBS prog 27 1 ps.toArray K=YC [(.int .i64 0)] [(0,1)] ps fun cs=>K 3 cs:=We (by kernel_rfl) ps K
@[go_sem ↓] theorem Yxm (ps:List (Nat×Value))(K:TypeId→List Value→Prop):xBS prog 28 0 ps.toArray K=YC [] [] ps fun cs=>K 164 cs:=We (by kernel_rfl) ps K
@[go_sem ↓] theorem Yws (ps:List (Nat×Value))(K:TypeId→List Value→Prop):xBS prog 28 1 ps.toArray K=YC [(.int .i64 0),(.int .i64 0),(.int .u64 0),(.bool false)] [(0,4)] ps fun cs=>K 164 cs:=We (by kernel_rfl) ps K
@[go_sem ↓] theorem Yuv (ps:List (Nat×Value))(K:TypeId→List Value→Prop):xBS prog 29 0 ps.toArray K=YC [] [] ps fun cs=>K 167 cs:=We (by kernel_rfl) ps K
@[go_sem ↓] theorem Ywr (ps:List (Nat×Value))(K:TypeId→List Value→Prop):xBS prog 29 1 ps.toArray K=YC [(.int .i64 0),(.int .i64 0),(.int .u64 0)] [(0,3)] ps fun cs=>K 167 cs:=We (by kernel_rfl) ps K
@[go_sem ↓] theorem Yxl (ps:List (Nat×Value))(K:TypeId→List Value→Prop):xBS prog 30 0 ps.toArray K=YC [] [] ps fun cs=>K 120 cs:=We (by kernel_rfl) ps K
@[go_sem ↓] theorem Yxw (ps:List (Nat×Value))(K:TypeId→List Value→Prop):xBS prog 31 0 ps.toArray K=YC [] [] ps fun cs=>K 5 cs:=We (by kernel_rfl) ps K
@[go_sem ↓] theorem Yuq (ps:List (Nat×Value))(K:TypeId→List Value→Prop):xBS prog 32 0 ps.toArray K=YC [] [] ps fun cs=>K 31 cs:=We (by kernel_rfl) ps K
@[go_sem ↓] theorem Ytw (ps:List (Nat×Value))(K:TypeId→List Value→Prop):xBS prog 32 1 ps.toArray K=YC [(.slice none 0 0)] [(0,1)] ps fun cs=>K 31 cs:=We (by kernel_rfl) ps K
@[go_sem ↓] theorem Yuz (ps:List (Nat×Value))(K:TypeId→List Value→Prop):xBS prog 59 1 ps.toArray K=YC [(.int .i64 0),(.bool false),(.int .u64 0),(.int .u64 0),(.int .u64 0),(.int .u64 0),(.int .i64 0),(.int .u64 0)] [(0,8)] ps fun cs=>K 69 cs:=We (by kernel_rfl) ps K
@[go_sem ↓] theorem Yqc (ps:List (Nat×Value))(K:TypeId→List Value→Prop):xBS prog 114 2 ps.toArray K=YC [(.int .i64 0),(.int .u64 0),(.int .i64 0),(.int .u64 0)] [(0,2),(2,2)] ps fun cs=>K 223 cs:=We (by kernel_rfl) ps K
@[go_sem ↓] theorem Ylp (ps:List (Nat×Value))(K:TypeId→List Value→Prop):xBS prog 149 1 ps.toArray K=YC [(.int .u64 0),(.int .u64 0),(.int .u64 0),(.int .i64 0)] [(0,4)] ps fun cs=>K 72 cs:=We (by kernel_rfl) ps K
@[go_sem ↓] theorem Yqj (ps:List (Nat×Value))(K:TypeId→List Value→Prop):xBS prog 157 5 ps.toArray K=YC [.nilFunc,.nilFunc,.nilFunc,.nilFunc,.nilFunc] [(0,1),(1,1),(2,1),(3,1),(4,1)] ps fun cs=>K 156 cs:=We (by kernel_rfl) ps K
@[go_sem ↓] theorem Ypf (ps:List (Nat×Value))(K:TypeId→List Value→Prop):xBS prog 230 6 ps.toArray K=YC [(.bool false),(.bool false),(.bool false),(.bool false),(.bool false),(.bool false)] [(0,1),(1,1),(2,1),(3,1),(4,1),(5,1)] ps fun cs=>K 4 cs:=We (by kernel_rfl) ps K
@[go_sem ↓] theorem Ymq (ps:List (Nat×Value))(K:TypeId→List Value→Prop):xBS prog 230 7 ps.toArray K=YC [(.bool false),(.bool false),(.bool false),(.bool false),(.bool false),(.bool false),(.bool false)] [(0,1),(1,1),(2,1),(3,1),(4,1),(5,1),(6,1)] ps fun cs=>K 4 cs:=We (by kernel_rfl) ps K
@[go_sem ↓] theorem Ykm (ps:List (Nat×Value))(K:TypeId→List Value→Prop):xBS prog 230 12 ps.toArray K=YC [(.bool false),(.bool false),(.bool false),(.bool false),(.bool false),(.bool false),(.bool false),(.bool false),(.bool false),(.bool false),(.bool false),(.bool false)] [(0,1),(1,1),(2,1),(3,1),(4,1),(5,1),(6,1),(7,1),(8,1),(9,1),(10,1),(11,1)] ps fun cs=>K 4 cs:=We (by kernel_rfl) ps K
@[go_sem ↓] theorem Ypg (ps:List (Nat×Value))(K:TypeId→List Value→Prop):xBS prog 354 2 ps.toArray K=YC [(.int .i64 0),(.int .i64 0)] [(0,1),(1,1)] ps fun cs=>K 49 cs:=We (by kernel_rfl) ps K
@[go_sem ↓] theorem Ylz (ps:List (Nat×Value))(K:TypeId→List Value→Prop):xBS prog 354 4 ps.toArray K=YC [(.int .i64 0),(.int .i64 0),(.int .i64 0),(.int .i64 0)] [(0,1),(1,1),(2,1),(3,1)] ps fun cs=>K 49 cs:=We (by kernel_rfl) ps K
@[go_sem ↓] theorem Yyi (K:Nat→Prop):xFO prog 24 0 K=K 0:=ZX (by kernel_rfl) K
@[go_sem ↓] theorem Ywg (K:Nat→Prop):xFO prog 24 1 K=K 1:=ZX (by kernel_rfl) K
@[go_sem ↓] theorem Ytq (K:Nat→Prop):xFO prog 24 2 K=K 2:=ZX (by kernel_rfl) K
@[go_sem ↓] theorem Yyc (K:Nat→Prop):xFO prog 24 3 K=K 3:=ZX (by kernel_rfl) K
@[go_sem ↓] theorem Yyh (K:Nat→Prop):xFO prog 24 4 K=K 4:=ZX (by kernel_rfl) K
@[go_sem ↓] theorem Yyb (K:Nat→Prop):xFO prog 24 5 K=K 5:=ZX (by kernel_rfl) K
@[go_sem ↓] theorem Yux (K:Nat→Prop):xFO prog 24 6 K=K 6:=ZX (by kernel_rfl) K
@[go_sem ↓] theorem Yww (K:Nat→Prop):xFO prog 24 7 K=K 7:=ZX (by kernel_rfl) K
@[go_sem ↓] theorem Yup (K:Nat→Prop):xFO prog 24 8 K=K 8:=ZX (by kernel_rfl) K
@[go_sem ↓] theorem Yxn (K:Nat→Prop):xFO prog 24 9 K=K 9:=ZX (by kernel_rfl) K
@[go_sem ↓] theorem Yta (K:Nat→Prop):xFO prog 24 10 K=K 10:=ZX (by kernel_rfl) K
@[go_sem ↓] theorem Yog (K:Nat→Prop):xFO prog 24 11 K=K 11:=ZX (by kernel_rfl) K
@[go_sem ↓] theorem Yst (K:Nat→Prop):xFO prog 24 12 K=K 12:=ZX (by kernel_rfl) K
@[go_sem ↓] theorem Yrn (K:Nat→Prop):xFO prog 24 13 K=K 13:=ZX (by kernel_rfl) K
@[go_sem ↓] theorem Yrv (K:Nat→Prop):xFO prog 24 14 K=K 14:=ZX (by kernel_rfl) K
@[go_sem ↓] theorem Yre (K:Nat→Prop):xFO prog 24 15 K=K 15:=ZX (by kernel_rfl) K
@[go_sem ↓] theorem Yrq (K:Nat→Prop):xFO prog 24 16 K=K 16:=ZX (by kernel_rfl) K
@[go_sem ↓] theorem Yph (K:Nat→Prop):xFO prog 24 17 K=K 17:=ZX (by kernel_rfl) K
@[go_sem ↓] theorem Ysy (K:Nat→Prop):xFO prog 24 18 K=K 18:=ZX (by kernel_rfl) K
@[go_sem ↓] theorem Ysa (K:Nat→Prop):xFO prog 24 19 K=K 19:=ZX (by kernel_rfl) K
@[go_sem ↓] theorem Yna (K:Nat→Prop):xFO prog 24 20 K=K 20:=ZX (by kernel_rfl) K
@[go_sem ↓] theorem Ylw (K:Nat→Prop):xFO prog 24 21 K=K 21:=ZX (by kernel_rfl) K
@[go_sem ↓] theorem Ypx (K:Nat→Prop):xFO prog 24 22 K=K 22:=ZX (by kernel_rfl) K
@[go_sem ↓] theorem Yoq (K:Nat→Prop):xFO prog 24 23 K=K 23:=ZX (by kernel_rfl) K
@[go_sem ↓] theorem Yxb (K:Nat→Prop):xFO prog 34 0 K=K 0:=ZX (by kernel_rfl) K
@[go_sem ↓] theorem Yuj (K:Nat→Prop):xFO prog 34 1 K=K 24:=ZX (by kernel_rfl) K
@[go_sem ↓] theorem Yym (K:Nat→Prop):xFO prog 34 2 K=K 25:=ZX (by kernel_rfl) K
@[go_sem ↓] theorem Yvp (K:Nat→Prop):xFO prog 34 3 K=K 26:=ZX (by kernel_rfl) K
@[go_sem ↓] theorem Yxf (K:Nat→Prop):xFO prog 34 4 K=K 27:=ZX (by kernel_rfl) K
@[go_sem ↓] theorem Ywt (K:Nat→Prop):xFO prog 34 5 K=K 28:=ZX (by kernel_rfl) K
@[go_sem ↓] theorem Yuh (K:Nat→Prop):xFO prog 34 6 K=K 29:=ZX (by kernel_rfl) K
@[go_sem ↓] theorem Ywe (K:Nat→Prop):xFO prog 34 7 K=K 30:=ZX (by kernel_rfl) K
@[go_sem ↓] theorem Yxv (K:Nat→Prop):xFO prog 34 8 K=K 31:=ZX (by kernel_rfl) K
@[go_sem ↓] theorem Ytu (K:Nat→Prop):xFO prog 34 9 K=K 32:=ZX (by kernel_rfl) K
@[go_sem ↓] theorem Ypj (K:Nat→Prop):xFO prog 34 10 K=K 33:=ZX (by kernel_rfl) K
@[go_sem ↓] theorem Yoe (K:Nat→Prop):xFO prog 34 11 K=K 34:=ZX (by kernel_rfl) K
@[go_sem ↓] theorem Yoa (K:Nat→Prop):xFO prog 34 12 K=K 35:=ZX (by kernel_rfl) K
@[go_sem ↓] theorem Ypq (K:Nat→Prop):xFO prog 34 13 K=K 36:=ZX (by kernel_rfl) K
@[go_sem ↓] theorem Yps (K:Nat→Prop):xFO prog 34 14 K=K 37:=ZX (by kernel_rfl) K
@[go_sem ↓] theorem Ynd (K:Nat→Prop):xFO prog 34 15 K=K 38:=ZX (by kernel_rfl) K
@[go_sem ↓] theorem Yrf (K:Nat→Prop):xFO prog 34 16 K=K 39:=ZX (by kernel_rfl) K
@[go_sem ↓] theorem Ytk (K:Nat→Prop):xFO prog 34 17 K=K 40:=ZX (by kernel_rfl) K
@[go_sem ↓] theorem Yxj (K:Nat→Prop):xFO prog 63 1 K=K 1:=ZX (by kernel_rfl) K
@[go_sem ↓] theorem Yvv (K:Nat→Prop):xFO prog 63 2 K=K 2:=ZX (by kernel_rfl) K
@[go_sem ↓] theorem Ywl (K:Nat→Prop):xFO prog 63 3 K=K 3:=ZX (by kernel_rfl) K
@[go_sem ↓] theorem Ywn (K:Nat→Prop):xFO prog 63 4 K=K 4:=ZX (by kernel_rfl) K
@[go_sem ↓] theorem Yxu (K:Nat→Prop):xFO prog 63 5 K=K 5:=ZX (by kernel_rfl) K
@[go_sem ↓] theorem Ywp (K:Nat→Prop):xFO prog 63 6 K=K 6:=ZX (by kernel_rfl) K
@[go_sem ↓] theorem Yut (K:Nat→Prop):xFO prog 63 7 K=K 7:=ZX (by kernel_rfl) K
@[go_sem ↓] theorem Yyd (K:Nat→Prop):xFO prog 63 8 K=K 8:=ZX (by kernel_rfl) K
@[go_sem ↓] theorem Yxg (K:Nat→Prop):xFO prog 63 9 K=K 9:=ZX (by kernel_rfl) K
@[go_sem ↓] theorem Ynt (K:Nat→Prop):xFO prog 63 10 K=K 10:=ZX (by kernel_rfl) K
@[go_sem ↓] theorem Ypo (K:Nat→Prop):xFO prog 63 11 K=K 11:=ZX (by kernel_rfl) K
@[go_sem ↓] theorem Ymv (K:Nat→Prop):xFO prog 63 12 K=K 12:=ZX (by kernel_rfl) K
@[go_sem ↓] theorem Ytn (K:Nat→Prop):xFO prog 63 13 K=K 13:=ZX (by kernel_rfl) K
@[go_sem ↓] theorem Yve (K:Nat→Prop):xFO prog 69 0 K=K 0:=ZX (by kernel_rfl) K
@[go_sem ↓] theorem Ywi (K:Nat→Prop):xFO prog 69 1 K=K 1:=ZX (by kernel_rfl) K
@[go_sem ↓] theorem Ywu (K:Nat→Prop):xFO prog 69 2 K=K 2:=ZX (by kernel_rfl) K
@[go_sem ↓] theorem Yvy (K:Nat→Prop):xFO prog 69 3 K=K 3:=ZX (by kernel_rfl) K
@[go_sem ↓] theorem Ywb (K:Nat→Prop):xFO prog 69 4 K=K 4:=ZX (by kernel_rfl) K
@[go_sem ↓] theorem Yts (K:Nat→Prop):xFO prog 69 5 K=K 5:=ZX (by kernel_rfl) K
@[go_sem ↓] theorem Yxp (K:Nat→Prop):xFO prog 69 6 K=K 6:=ZX (by kernel_rfl) K
@[go_sem ↓] theorem Ywa (K:Nat→Prop):xFO prog 69 7 K=K 7:=ZX (by kernel_rfl) K
@[go_sem ↓] theorem Yvz (K:Nat→Prop):xFO prog 72 0 K=K 0:=ZX (by kernel_rfl) K
@[go_sem ↓] theorem Yvk (K:Nat→Prop):xFO prog 72 1 K=K 1:=ZX (by kernel_rfl) K
@[go_sem ↓] theorem Yvc (K:Nat→Prop):xFO prog 72 2 K=K 2:=ZX (by kernel_rfl) K
@[go_sem ↓] theorem Ywh (K:Nat→Prop):xFO prog 72 3 K=K 3:=ZX (by kernel_rfl) K
@[go_sem ↓] theorem Yvn (K:Nat→Prop):xFO prog 74 0 K=K 0:=ZX (by kernel_rfl) K
@[go_sem ↓] theorem Yui (K:Nat→Prop):xFO prog 74 1 K=K 4:=ZX (by kernel_rfl) K
@[go_sem ↓] theorem Yxe (K:Nat→Prop):xFO prog 74 2 K=K 5:=ZX (by kernel_rfl) K
@[go_sem ↓] theorem Yqv (K:Nat→Prop):xFO prog 116 0 K=K 0:=ZX (by kernel_rfl) K
@[go_sem ↓] theorem Yqa (K:Nat→Prop):xFO prog 116 1 K=K 24:=ZX (by kernel_rfl) K
@[go_sem ↓] theorem Ytm (K:Nat→Prop):xFO prog 116 2 K=K 25:=ZX (by kernel_rfl) K
@[go_sem ↓] theorem Ynq (K:Nat→Prop):xFO prog 116 3 K=K 26:=ZX (by kernel_rfl) K
@[go_sem ↓] theorem Ylf (K:Nat→Prop):xFO prog 120 0 K=K 0:=ZX (by kernel_rfl) K
@[go_sem ↓] theorem Yrg (K:Nat→Prop):xFO prog 120 1 K=K 1:=ZX (by kernel_rfl) K
@[go_sem ↓] theorem Ymt (K:Nat→Prop):xFO prog 120 2 K=K 2:=ZX (by kernel_rfl) K
@[go_sem ↓] theorem Yob (K:Nat→Prop):xFO prog 120 3 K=K 26:=ZX (by kernel_rfl) K
@[go_sem ↓] theorem Yoi (K:Nat→Prop):xFO prog 120 4 K=K 27:=ZX (by kernel_rfl) K
@[go_sem ↓] theorem Yqt (K:Nat→Prop):xFO prog 120 5 K=K 28:=ZX (by kernel_rfl) K
@[go_sem ↓] theorem Yox (K:Nat→Prop):xFO prog 120 6 K=K 29:=ZX (by kernel_rfl) K
@[go_sem ↓] theorem Yrk (K:Nat→Prop):xFO prog 120 7 K=K 30:=ZX (by kernel_rfl) K
@[go_sem ↓] theorem Yrw (K:Nat→Prop):xFO prog 120 8 K=K 31:=ZX (by kernel_rfl) K
@[go_sem ↓] theorem Yqo (K:Nat→Prop):xFO prog 120 9 K=K 32:=ZX (by kernel_rfl) K
@[go_sem ↓] theorem Ysl (K:Nat→Prop):xFO prog 132 0 K=K 0:=ZX (by kernel_rfl) K
@[go_sem ↓] theorem Ysd (K:Nat→Prop):xFO prog 151 0 K=K 0:=ZX (by kernel_rfl) K
@[go_sem ↓] theorem Ytj (K:Nat→Prop):xFO prog 151 1 K=K 41:=ZX (by kernel_rfl) K
@[go_sem ↓] theorem Yrp (K:Nat→Prop):xFO prog 151 2 K=K 42:=ZX (by kernel_rfl) K
@[go_sem ↓] theorem Ysu (K:Nat→Prop):xFO prog 151 3 K=K 43:=ZX (by kernel_rfl) K
@[go_sem ↓] theorem Ysh (K:Nat→Prop):xFO prog 151 4 K=K 44:=ZX (by kernel_rfl) K
@[go_sem ↓] theorem Ymi (K:Nat→Prop):xFO prog 154 0 K=K 0:=ZX (by kernel_rfl) K
@[go_sem ↓] theorem Yqb (K:Nat→Prop):xFO prog 154 1 K=K 41:=ZX (by kernel_rfl) K
@[go_sem ↓] theorem Yok (K:Nat→Prop):xFO prog 154 2 K=K 55:=ZX (by kernel_rfl) K
@[go_sem ↓] theorem Yme (K:Nat→Prop):xFO prog 164 0 K=K 0:=ZX (by kernel_rfl) K
@[go_sem ↓] theorem Yln (K:Nat→Prop):xFO prog 164 1 K=K 1:=ZX (by kernel_rfl) K
@[go_sem ↓] theorem Yop (K:Nat→Prop):xFO prog 164 2 K=K 2:=ZX (by kernel_rfl) K
@[go_sem ↓] theorem Yqe (K:Nat→Prop):xFO prog 164 3 K=K 3:=ZX (by kernel_rfl) K
@[go_sem ↓] theorem Yqk (K:Nat→Prop):xFO prog 167 0 K=K 0:=ZX (by kernel_rfl) K
@[go_sem ↓] theorem Yqr (K:Nat→Prop):xFO prog 167 1 K=K 1:=ZX (by kernel_rfl) K
@[go_sem ↓] theorem Ynw (K:Nat→Prop):xFO prog 167 2 K=K 2:=ZX (by kernel_rfl) K
@[go_sem ↓] theorem Yov (K:Nat→Prop):xFO prog 223 0 K=K 0:=ZX (by kernel_rfl) K
@[go_sem ↓] theorem Ylu (K:Nat→Prop):xFO prog 223 1 K=K 1:=ZX (by kernel_rfl) K
@[go_sem ↓] theorem Ypy (K:Nat→Prop):xFO prog 244 0 K=K 0:=ZX (by kernel_rfl) K
@[go_sem ↓] theorem Yrh (K:Nat→Prop):xFO prog 244 1 K=K 1:=ZX (by kernel_rfl) K
@[go_sem ↓] theorem Yll (K:Nat→Prop):xFO prog 244 2 K=K 2:=ZX (by kernel_rfl) K
@[go_sem ↓] theorem Ypr (K:Nat→Prop):xFO prog 244 3 K=K 3:=ZX (by kernel_rfl) K
@[go_sem ↓] theorem Ymx (K:Nat→Prop):xFO prog 244 4 K=K 4:=ZX (by kernel_rfl) K
@[go_sem ↓] theorem Yns (K:Nat→Prop):xFO prog 349 0 K=K 0:=ZX (by kernel_rfl) K
@[go_sem ↓] theorem Yms (K:Nat→Prop):xFO prog 362 0 K=K 0:=ZX (by kernel_rfl) K
@[go_sem ↓] theorem Yni (K:Nat→Prop):xFO prog 362 1 K=K 4:=ZX (by kernel_rfl) K
@[go_sem ↓] theorem Ynm (K:Nat→Prop):xFO prog 370 0 K=K 0:=ZX (by kernel_rfl) K
@[go_sem ↓] theorem Ytf (K:Nat→Prop):xFO prog 372 0 K=K 0:=ZX (by kernel_rfl) K
@[go_sem ↓] theorem Ymo (K:Nat→Prop):xFO prog 386 0 K=K 0:=ZX (by kernel_rfl) K
@[go_sem ↓] theorem Ysn (K:Nat→Prop):xFO prog 386 1 K=K 1:=ZX (by kernel_rfl) K
@[go_sem ↓] theorem Yml (K:Nat→Prop):xFO prog 386 2 K=K 2:=ZX (by kernel_rfl) K
@[go_sem ↓] theorem Ymy (K:Nat→Prop):xFO prog 393 0 K=K 0:=ZX (by kernel_rfl) K
@[go_sem ↓] theorem Ymb (K:Nat→Prop):xFO prog 414 0 K=K 0:=ZX (by kernel_rfl) K
@[go_sem ↓] theorem Yso (K:Nat→Prop):xFO prog 414 1 K=K 1:=ZX (by kernel_rfl) K
@[go_sem ↓] theorem Yqs (K:Nat→Prop):xFO prog 423 0 K=K 0:=ZX (by kernel_rfl) K
@[go_sem ↓] theorem Ylm (K:Nat→Prop):xFO prog 423 1 K=K 2:=ZX (by kernel_rfl) K
@[go_sem ↓] theorem Ysx (K:Nat→Prop):xFO prog 430 0 K=K 0:=ZX (by kernel_rfl) K
@[go_sem ↓] theorem Yoy (K:Nat→Prop):xFO prog 430 1 K=K 4:=ZX (by kernel_rfl) K
@[go_sem ↓] theorem Ynx (K:Nat→Prop):xFO prog 430 2 K=K 28:=ZX (by kernel_rfl) K
@[go_sem] theorem Ymj:tSh prog 25 = .sl 22 1 8:=by kernel_rfl
@[go_sem] theorem Yqp:tSh prog 26 = .sl 74 6 48:=by kernel_rfl
@[go_sem] theorem Zxb:tSh prog 27 = .sl 3 1 8:=by kernel_rfl
@[go_sem] theorem Yrd:tSh prog 28 = .sl 164 4 32:=by kernel_rfl
@[go_sem] theorem Ydc:tSh prog 29 = .sl 167 3 24:=by kernel_rfl
@[go_sem] theorem Ylr:tSh prog 30 = .sl 120 33 296:=by kernel_rfl
@[go_sem] theorem Ytg:tSh prog 31 = .sl 5 1 1:=by kernel_rfl
@[go_sem] theorem Ysf:tSh prog 32 = .sl 31 1 24:=by kernel_rfl
@[go_sem] theorem tSh_59:tSh prog 59 = .sl 69 8 64:=by kernel_rfl
@[go_sem] theorem tSh_114:tSh prog 114 = .sl 223 2 16:=by kernel_rfl
@[go_sem] theorem tSh_149:tSh prog 149 = .sl 72 4 32:=by kernel_rfl
@[go_sem] theorem tSh_155:tSh prog 155 = .ar 5 22 1:=by kernel_rfl
@[go_sem] theorem tSh_157:tSh prog 157 = .sl 156 1 8:=by kernel_rfl
@[go_sem] theorem tSh_230:tSh prog 230 = .sl 4 1 1:=by kernel_rfl
@[go_sem] theorem tSh_354:tSh prog 354 = .sl 49 1 8:=by kernel_rfl
@[go_sem ↓] theorem xSlh_27 (a:Option Addr)(n c:Nat)(k:IntKind)(j:Int)(h0:0≤j)(h1:j≤(c:Int))(K:Value→Prop):xSl prog 27 (.slice a n c) none (some (.int k j)) none K=K (.slice a j.toNat c):=Yef Zxb a n c k j h0 h1 K
@[go_sem ↓] theorem xSlh_29 (a:Option Addr)(n c:Nat)(k:IntKind)(j:Int)(h0:0≤j)(h1:j≤(c:Int))(K:Value→Prop):xSl prog 29 (.slice a n c) none (some (.int k j)) none K=K (.slice a j.toNat c):=Yef Ydc a n c k j h0 h1 K
@[go_sem ↓] theorem xBeq_25 (x y:Operand)(a:Option Addr)(n c:Nat)(K:Value→Prop):Jc prog .eql 25 x y (.slice a n c) (.slice none 0 0) K=K (.bool a.isNone):=WO Ymj x y a n c K
@[go_sem ↓] theorem xBeq_26 (x y:Operand)(a:Option Addr)(n c:Nat)(K:Value→Prop):Jc prog .eql 26 x y (.slice a n c) (.slice none 0 0) K=K (.bool a.isNone):=WO Yqp x y a n c K
@[go_sem ↓] theorem xBeq_27 (x y:Operand)(a:Option Addr)(n c:Nat)(K:Value→Prop):Jc prog .eql 27 x y (.slice a n c) (.slice none 0 0) K=K (.bool a.isNone):=WO Zxb x y a n c K
@[go_sem ↓] theorem xBeq_28 (x y:Operand)(a:Option Addr)(n c:Nat)(K:Value→Prop):Jc prog .eql 28 x y (.slice a n c) (.slice none 0 0) K=K (.bool a.isNone):=WO Yrd x y a n c K
@[go_sem ↓] theorem xBeq_29 (x y:Operand)(a:Option Addr)(n c:Nat)(K:Value→Prop):Jc prog .eql 29 x y (.slice a n c) (.slice none 0 0) K=K (.bool a.isNone):=WO Ydc x y a n c K
@[go_sem ↓] theorem xBeq_30 (x y:Operand)(a:Option Addr)(n c:Nat)(K:Value→Prop):Jc prog .eql 30 x y (.slice a n c) (.slice none 0 0) K=K (.bool a.isNone):=WO Ylr x y a n c K
@[go_sem ↓] theorem xBeq_31 (x y:Operand)(a:Option Addr)(n c:Nat)(K:Value→Prop):Jc prog .eql 31 x y (.slice a n c) (.slice none 0 0) K=K (.bool a.isNone):=WO Ytg x y a n c K
@[go_sem ↓] theorem xBeq_32 (x y:Operand)(a:Option Addr)(n c:Nat)(K:Value→Prop):Jc prog .eql 32 x y (.slice a n c) (.slice none 0 0) K=K (.bool a.isNone):=WO Ysf x y a n c K
@[go_sem ↓] theorem Ytx (x y:Operand)(a:Option Addr)(K:Value→Prop):Jc prog .eql 275 x y (.pointer a) (.pointer none) K=K (.bool a.isNone):=Zkb (T:=275) (e:=372) (by kernel_rfl) x y a K
@[go_sem ↓] theorem xSlm_27 (a:Option Addr)(n c:Nat)(k l:IntKind)(i j:Int)(h0:0≤i)(h1:i≤j)(h2:j≤(c:Int))(K:Value→Prop):xSl prog 27 (.slice a n c) (some (.int k i)) (some (.int l j)) none K=K (.slice (Ju a c i.toNat 1) (j.toNat-i.toNat) (c-i.toNat)):=Zen Zxb a n c k l i j h0 h1 h2 K
@[go_sem ↓] theorem xLen_25 (ty:Nat)(a:Option Addr)(n c:Nat)(K:Value→Prop):Zch prog ty #[25] (.slice a n c) K=K (.int .i64 n):=YB (T:=25) (e:=22) (by kernel_rfl) a n c
@[go_sem ↓] theorem xLen_26 (ty:Nat)(a:Option Addr)(n c:Nat)(K:Value→Prop):Zch prog ty #[26] (.slice a n c) K=K (.int .i64 n):=YB (T:=26) (e:=74) (by kernel_rfl) a n c
@[go_sem ↓] theorem xLen_27 (ty:Nat)(a:Option Addr)(n c:Nat)(K:Value→Prop):Zch prog ty #[27] (.slice a n c) K=K (.int .i64 n):=YB (T:=27) (e:=3) (by kernel_rfl) a n c
@[go_sem ↓] theorem xLen_28 (ty:Nat)(a:Option Addr)(n c:Nat)(K:Value→Prop):Zch prog ty #[28] (.slice a n c) K=K (.int .i64 n):=YB (T:=28) (e:=164) (by kernel_rfl) a n c
@[go_sem ↓] theorem xLen_29 (ty:Nat)(a:Option Addr)(n c:Nat)(K:Value→Prop):Zch prog ty #[29] (.slice a n c) K=K (.int .i64 n):=YB (T:=29) (e:=167) (by kernel_rfl) a n c
@[go_sem ↓] theorem xLen_30 (ty:Nat)(a:Option Addr)(n c:Nat)(K:Value→Prop):Zch prog ty #[30] (.slice a n c) K=K (.int .i64 n):=YB (T:=30) (e:=120) (by kernel_rfl) a n c
@[go_sem ↓] theorem xLen_31 (ty:Nat)(a:Option Addr)(n c:Nat)(K:Value→Prop):Zch prog ty #[31] (.slice a n c) K=K (.int .i64 n):=YB (T:=31) (e:=5) (by kernel_rfl) a n c
@[go_sem ↓] theorem xLen_32 (ty:Nat)(a:Option Addr)(n c:Nat)(K:Value→Prop):Zch prog ty #[32] (.slice a n c) K=K (.int .i64 n):=YB (T:=32) (e:=31) (by kernel_rfl) a n c
@[go_sem ↓] theorem xLen_59 (ty:Nat)(a:Option Addr)(n c:Nat)(K:Value→Prop):Zch prog ty #[59] (.slice a n c) K=K (.int .i64 n):=YB (T:=59) (e:=69) (by kernel_rfl) a n c
@[go_sem ↓] theorem Yue (ty:Nat)(a:Option Addr)(n c:Nat)(K:Value→Prop):Zch prog ty #[114] (.slice a n c) K=K (.int .i64 n):=YB (T:=114) (e:=223) (by kernel_rfl) a n c
@[go_sem ↓] theorem Yyk (ty:Nat)(a:Option Addr)(n c:Nat)(K:Value→Prop):Zch prog ty #[149] (.slice a n c) K=K (.int .i64 n):=YB (T:=149) (e:=72) (by kernel_rfl) a n c
@[go_sem ↓] theorem Ytz (ty:Nat)(a:Option Addr)(n c:Nat)(K:Value→Prop):Zch prog ty #[157] (.slice a n c) K=K (.int .i64 n):=YB (T:=157) (e:=156) (by kernel_rfl) a n c
@[go_sem ↓] theorem Ywc (ty:Nat)(a:Option Addr)(n c:Nat)(K:Value→Prop):Zch prog ty #[230] (.slice a n c) K=K (.int .i64 n):=YB (T:=230) (e:=4) (by kernel_rfl) a n c
@[go_sem ↓] theorem Ywf (ty:Nat)(a:Option Addr)(n c:Nat)(K:Value→Prop):Zch prog ty #[254] (.slice a n c) K=K (.int .i64 n):=YB (T:=254) (e:=5) (by kernel_rfl) a n c
@[go_sem ↓] theorem Yxa (ty:Nat)(a:Option Addr)(n c:Nat)(K:Value→Prop):Zch prog ty #[354] (.slice a n c) K=K (.int .i64 n):=YB (T:=354) (e:=49) (by kernel_rfl) a n c
@[go_sem ↓] theorem Yki (k:IntKind)(n:Int)(K:Value→Prop):Zdj prog 3 22 (.int k n) K=K (.int .u64 (IntKind.u64.wrap n)):=UP (s:=3) (d:=22) (ks:=.i64) (kd:=.u64) (by kernel_rfl) (by kernel_rfl) k n
@[go_sem ↓] theorem Yjc (k:IntKind)(n:Int)(K:Value→Prop):Zdj prog 3 417 (.int k n) K=K (.int .u64 (IntKind.u64.wrap n)):=UP (s:=3) (d:=417) (ks:=.i64) (kd:=.u64) (by kernel_rfl) (by kernel_rfl) k n
@[go_sem ↓] theorem Ylj (k:IntKind)(n:Int)(K:Value→Prop):Zdj prog 5 3 (.int k n) K=K (.int .i64 (IntKind.i64.wrap n)):=UP (s:=5) (d:=3) (ks:=.u8) (kd:=.i64) (by kernel_rfl) (by kernel_rfl) k n
@[go_sem ↓] theorem Yji (k:IntKind)(n:Int)(K:Value→Prop):Zdj prog 22 5 (.int k n) K=K (.int .u8 (IntKind.u8.wrap n)):=UP (s:=22) (d:=5) (ks:=.u64) (kd:=.u8) (by kernel_rfl) (by kernel_rfl) k n
@[go_sem ↓] theorem Yhl (k:IntKind)(n:Int)(K:Value→Prop):Zdj prog 417 3 (.int k n) K=K (.int .i64 (IntKind.i64.wrap n)):=UP (s:=417) (d:=3) (ks:=.u64) (kd:=.i64) (by kernel_rfl) (by kernel_rfl) k n
theorem ZW:prog.follows .mixedOrders=true:=by kernel_rfl
end Go.X
