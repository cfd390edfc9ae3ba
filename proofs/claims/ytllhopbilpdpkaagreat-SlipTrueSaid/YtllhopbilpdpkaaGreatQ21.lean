/- Lemmas and contracts. Conditions: as each says. -/
import Derived.Test.YtllhopbilpdpkaaGreatQ16
import Derived.Test.YtllhopbilpdpkaaGreatQ19
import Derived.Test.YtllhopbilpdpkaaGreatQ20
set_option linter.unusedVariables false
set_option linter.unusedSimpArgs false
set_option maxHeartbeats 12800000
set_option maxRecDepth 20000
namespace Go.X
open Go.RowKit Go.Proofs Go.Bl Go.Proofs.Tryz
section
variable {P:Program}
theorem Zot {t ty e sz:Nat}{ti:TI}(ht:P.underlying t=some (.slice e))(hti:tI P e=some ti)(hz1:ti.size=sz){L:Own}{h:PH}{K:PK}{b o n cap m c:Nat}{a:Addr}{news:List Value}
  (hroom:n+m≤cap) (hs:∀W,Zl L h W→∀(j:Nat) u,news[j]?=some u→W.cell? (a.add j)=some u) (hnl:news.length=m*sz) (hk:Zai L b (o+n*sz) news fun L'=>K (.slice (some ⟨b,o,none⟩) (n+m) cap) L' h) :
  Zez P (Builtin.append_ #[t,t] ty #[.slice (some ⟨b,o,none⟩) n cap,.slice (some a) m c]) L h K:=by
 intro W hg;obtain⟨L',W',hK,hrun,hgd,hkp,hmm,hbm⟩:=Vr (P:=P) hg hk;obtain⟨i,d,zv,g1,g2,g3,rfl⟩:=WT hti;simp only at hz1;refine⟨.slice (some ⟨b,o,none⟩) (n+m) cap,L',h,W',?_,hK,⟨hgd,Zt.mono hkp (fun x hx=>by simp at hx;subst hx;exact hbm),fun x hx=>Or.inl (by rw[← hmm];exact List.mem_map_of_mem hx)⟩⟩;have hfc:=run_firstCells_some (P:=P) W i.size m a m c news (by rw[hnl,hz1]) (hs W hg);rw[hz1]at hfc;simp [Builtin.append_,run_underlying ht,sizeOf,typeInfo,g1,hz1,Builtin.lenOf,hroom,hfc,Addr.add_lit,hrun]
theorem Zif {T e sz by':Nat}(hT:tSh P T = .sl e sz by')(a:Option Addr)(n c:Nat)(k l q:IntKind)(i j m:Int)(h0:0≤i)(h1:i≤j)(h2:j≤m)(h3:m≤(c:Int))(K:Value→Prop):xSl P T (.slice a n c) (some (.int k i)) (some (.int l j)) (some (.int q m)) K=K (.slice (Ju a m.toNat i.toNat sz) (j.toNat-i.toNat) (m.toNat-i.toNat)):=by
 unfold tSh at hT;split at hT
 ·rename_i e' hu;split at hT
  ·rename_i ii hi;refine Yw (fun W=>?_) K;injection hT with hT1 hT2 hT3
   subst hT2;have h4:0≤j:=by omega
   have h5:0≤m:=by omega
   have h6:i≤(j.toNat:Int):=by omega
   have h7:j≤(m.toNat:Int):=by omega
   have h8:m.toNat≤c:=by omega
   have h9:j≤max m 0:=by omega
   have h10:i≤max j 0:=by omega
   simp [Instr.sliceAt,Instr.slice,Instr.sliceBounds,Instr.sliceBound,asIntOf,underlying,hu,YZ hi,h0,h1,h2,h3,h4,h5,h6,h7,h8,h9,h10,Ju]
   try (intro hh;omega)
  ·cases hT
 ·split at hT<;>cases hT
 ·cases hT
end
variable {L:Own} {h:PH} {K:PK}
theorem Yhh:tSh prog 27 = .sl 3 1 8:=by kernel_rfl
theorem Src.part {b t m c cap i:Nat}{xs:List Value}(hm:(⟨b,t,xs,cap⟩:Zm)∈L)(hT:t≠4294967295:=by first|decide|omega):Src L h (.slice (some ⟨b,i,none⟩) m c) m ((xs.drop i).take m) :=
 Or.inr ⟨_,_,rfl,fun W hg j u hj=>JP hg hm hT (by
  rw[List.getElem?_take]at hj;split at hj
  ·rwa [List.getElem?_drop]at hj
  ·cases hj)⟩
theorem fI_at {xs:List Int}{x:Int}{k:Nat}(hk:k<xs.length)(h1:at0 xs k=x)(h2:∀j,j<k→at0 xs j≠x):fI xs x=k:=by
 have:=JJ (q:=fun k=>decide (at0 xs k=x)) (m:=xs.length) (k:=0) (r:=k) (Nat.zero_le _) (by omega) (fun j _ hj=>by simpa using h2 j hj) (fun _=>by simpa using h1);rw[fI,this,if_neg (by omega)]
theorem fI_no {xs:List Int}{x:Int}(h2:∀j,j<xs.length→at0 xs j≠x):fI xs x = -1:=by
 have:=(Zta xs x).1;have n:¬x∈xs:=fun hx=>by
  obtain⟨j,hj,e⟩:=List.mem_iff_getElem.1 hx;exact h2 j hj (by rw[← Yf hj,e])
 unfold fI at *;split
 ·rfl
 ·rename_i c;rw[if_neg c]at this;exact absurd (this (by omega)) n
theorem Zor {xs:List Int}{b cap:Nat}(x:Int)(hl:xs.length≤1000):Zc prog 307 [.slice (some ⟨b,0,none⟩) xs.length cap,.int .i64 x] [⟨b,3,xs.map (.int .i64),cap⟩] h fun v L' h'=>v = .int .i64 (fI xs x)∧L'=[⟨b,3,xs.map (.int .i64),cap⟩]∧h'=h:=by
 refine Z3 func307 rfl (rs:=[_]) rfl rfl ZW (by kernel_rfl) rfl rfl fun ap nd=>?_;have hn:h b=noC:=ap.1;clear ap nd;refine xx ?_;refine WP (0:Nat) (fun k=>k≤xs.length∧∀j,j<k→at0 xs j≠x) (fun k=>[(8,.int .i64 k),(7,.int .i64 xs.length),(0,.slice (some ⟨b,0,none⟩) xs.length cap),(1,.int .i64 x)]) (fun k=>xs.length-k) ?_ ?_ ?_
 ·exact⟨Nat.zero_le _,fun j hj=>by omega⟩
 ·simp [Ent,List.lookup,Wo]
 rintro k ⟨k1,k2⟩;by_cases c1:k<xs.length
 ·by_cases c2:x=at0 xs k
  ·have e:=fI_at c1 c2.symm k2;simp -dsimp -implicitDefEqProofs (disch:=first|with_reducible assumption|omega) [go_sem,UH];exact ZO ⟨by rw[e],rfl,rfl⟩
  ·simp -dsimp -implicitDefEqProofs (disch:=first|with_reducible assumption|omega) [go_sem,UH];refine⟨k+1,⟨by omega,fun j hj=>?_⟩,by omega,by simp [Ent,List.lookup],Za.refl _ _⟩;by_cases e:j=k
   ·subst e;exact fun e=>c2 e.symm
   ·exact k2 j (by omega)
 ·have e:=fI_no (xs:=xs) (x:=x) fun j hj=>k2 j (by omega);refine xx ?_;exact ZO ⟨by rw[e],rfl,rfl⟩
theorem Zph {xs:List Int}(o:Option (Nat×Nat))(ho:okO o xs.length)(hl:xs.length≤1000)(x:Int)(hx : -9223372036854775808≤x∧x≤9223372036854775807)(hm:∀b c,o=some (b,c)→(⟨b,3,xs.map (.int .i64),c⟩:Zm)∈L)(hk:K (.int .i64 (fI xs x)) L h) :
  Zc prog 307 [ovs o xs.length,.int .i64 x] L h K:=by
 cases o with
 | none =>
  have h0:xs.length=0:=ho;have h1:=List.length_eq_zero_iff.1 h0;subst h1;refine Zhj (zs:=[]) _ x (Uf h .i64) hx fun i i1 i2 i3=>?_;have:i = -1:=by
   have:¬ 0≤i:=fun hi=>by have:=i3.1 hi;cases this
   omega
  rw[this];exact hk
 | some p=>exact Zc.frame1 (hm p.1 p.2 rfl) (Zor x hl) hk
def Zej (xs:List Int)(i j:Nat):List Int:=xs.take i++xs.drop j
theorem Yay {xs:List Int}{i j:Nat}(hij:i≤j)(hj:j≤xs.length):(Zej xs i j).length=xs.length-(j-i):=by simp [Zej];omega
theorem Zlp {xs:List Int}(o:Option (Nat×Nat))(ho:okO o xs.length)(hl:xs.length≤1000)(i j:Nat)(hij:i≤j)(hj:j≤xs.length)
  (hk:K (ovs o (Zej xs i j).length) (oent 3 1 o ((Zej xs i j).map (.int .i64)) L) h) :
  Zc prog 360 [ovs o xs.length,.int .i64 i,.int .i64 j] (oent 3 1 o (xs.map (.int .i64)) L) h K:=by
 have hd:=Yay hij hj
 cases o with
 | none =>
  have h0:xs.length=0:=ho;have h1:=List.length_eq_zero_iff.1 h0;subst h1;have i0:i=0:=by simp at hj;omega
  have j0:j=0:=by simpa using hj
  subst i0;subst j0;simp only[ovs,oent]at hk ⊢;refine ZS func360 rfl (rs:=[_]) rfl rfl ZW (by kernel_rfl) rfl rfl ?_;simp -dsimp -implicitDefEqProofs (disch:=first|with_reducible assumption|omega) [go_sem,Zif Yhh];exact ZO hk
 | some p =>
  obtain⟨b,cap⟩:=p;have hcap:xs.length≤cap:=ho.1;simp only[YE,Ye,Nat.mul_one]at hk ⊢;refine Z3 func360 rfl (rs:=[_]) rfl rfl ZW (by kernel_rfl) rfl rfl fun ap nd=>?_;have hn:h b=noC:=ap.1;clear ap nd;by_cases c1:i=j
  ·subst c1;have e:Zej xs i i=xs:=List.take_append_drop i xs;rw[e]at hk;simp -dsimp -implicitDefEqProofs (disch:=first|with_reducible assumption|omega) [go_sem,Zif Yhh];exact ZO hk
  ·simp -dsimp -implicitDefEqProofs (disch:=first|with_reducible assumption|omega) [go_sem,Zif Yhh];refine Yn (.tk 0 (.tk 1 (.tk 2 (.tk 3 (.tk 4 (.tk 5 (.o1 6 (.tk 7 (.fin)) (.nil)))))))) (by kernel_rfl) (by kernel_rfl) L (Za.tail _ _ _) ?_;simp -dsimp -implicitDefEqProofs (disch:=first|with_reducible assumption|omega) [go_sem,VX Yhh];obtain⟨q,hq,hqj⟩:∃q,Ju (some ⟨b,0,none⟩) cap j 1=some ⟨b,q,none⟩∧(j<xs.length→q=j):=by
    unfold Ju;split
    ·exact⟨0,rfl,fun x=>by omega⟩
    ·exact⟨j,by simp [Addr.add];omega,fun _=>rfl⟩
   rw[hq];obtain⟨n,hn2⟩:∃n,n=xs.length:=⟨_,rfl⟩
   refine Zot (e:=3) (sz:=1) (by kernel_rfl) Zds rfl (n:=i) (m:=xs.length-j) (news:=(xs.drop j).map (Value.int .i64)) (by omega) (fun W hg m u hu=>?_) (by simp) ?_
   ·by_cases cj:j<xs.length
    ·rw[hqj cj];refine JP hg (b:=b) (o:=j) List.mem_cons_self (by decide) ?_
     rwa [List.map_drop,List.getElem?_drop]at hu
    ·rw[List.drop_eq_nil_of_le (by omega)]at hu
     cases hu
   refine xx ?_
   refine⟨by omega,fun z hz=>by
    rw[← List.map_drop]at hz;obtain⟨w,_,rfl⟩:=List.mem_map.1 hz
    rfl,?_⟩
   refine xkp (Za.tail _ _ _) ?_;have hcut:Ju (some ⟨b,0,none⟩) cap (i+(xs.length-j)) 1=some ⟨b,i+(xs.length-j),none⟩:=by
    unfold Ju;rw[if_neg (by omega)];simp [Addr.add]
    try (intro e;omega)
   have e4:((i:Int)+((xs.length-j:Nat):Int)).toNat=i+(xs.length-j):=by omega
   simp -dsimp -implicitDefEqProofs (disch:=first|with_reducible assumption|omega) [go_sem,Zen Yhh,e4,hcut];refine Ydt (by kernel_rfl) Zds rfl (by omega) ?_;refine xx ?_;have hwl:(wr (xs.map (Value.int .i64)) i ((xs.drop j).map (Value.int .i64)))=(xs.take i++xs.drop j++xs.drop (i+(xs.length-j))).map (Value.int .i64):=by
    rw[JM _ _ _ (by simp;omega)];simp [List.map_drop,List.map_take]
   rw[← List.map_drop,hwl];refine⟨by simp;omega,?_⟩;have e3:=GO b 3 cap (i+(xs.length-j)) (wr ((xs.take i++xs.drop j++xs.drop (i+(xs.length-j))).map (Value.int .i64)) (i+(xs.length-j)) (List.replicate (xs.length-(i+(xs.length-j))) (Value.int .i64 0))) L h;have e2:(wr ((xs.take i++xs.drop j++xs.drop (i+(xs.length-j))).map (Value.int .i64)) (i+(xs.length-j)) (List.replicate (xs.length-(i+(xs.length-j))) (Value.int .i64 0))).take (i+(xs.length-j))=(Zej xs i j).map (.int .i64):=by
    have hL:(Zej xs i j).length=i+(xs.length-j):=by omega
    rw[JM _ _ _ (by simp;omega),List.append_assoc,List.take_append_of_le_length (by simp;omega),List.take_take,Nat.min_self,← List.map_take]
    congr 1
    rw[show xs.take i++xs.drop j=Zej xs i j from rfl,List.take_append_of_le_length (by omega),List.take_of_length_le (by omega)]
   rw[e2]at e3;rw[show (Zej xs i j).length=i+(xs.length-j) by omega]at hk;exact⟨_,_,e3,hk⟩
abbrev lnB (bl:Nat)(o:Option (Nat×Nat))(n:Nat):Zm:=⟨bl,372,[ovs o n],1⟩
abbrev lnL (o:Option (Nat×Nat))(xs:List Int)(L:Own):Own:=oent 3 1 o (xs.map (.int .i64)) L
theorem Zgw {xs:List Int}{bl:Nat}(o:Option (Nat×Nat))(ho:okO o xs.length)(hl:xs.length≤1000)(x:Int)(hx : -9223372036854775808≤x∧x≤9223372036854775807)
  (hk:K (.int .i64 (fI xs x)) (lnB bl o xs.length::lnL o xs L) h):Zc prog 359 [.pointer (some ⟨bl,0,none⟩),.int .i64 x] (lnB bl o xs.length::lnL o xs L) h K:=by
 refine Z3 func359 rfl (rs:=[_]) rfl rfl ZW (by kernel_rfl) rfl rfl fun ap nd=>?_;have hb:h bl=noC:=ap.1;clear ap nd;refine xx ?_;refine Zph o ho hl x hx (fun b c e=>?_) ?_
 ·subst e;simp [oent]
 refine xx ?_;exact ZO hk
theorem Zqk {xs:List Int}{bl:Nat}(o:Option (Nat×Nat))(ho:okO o xs.length)(hl:xs.length≤1000)(x:Int)(hx : -9223372036854775808≤x∧x≤9223372036854775807)
  (hk:K (.tuple #[.int .i64 (max (fI xs x) 0),.bool (decide (0≤fI xs x))]) (lnB bl o xs.length::lnL o xs L) h):Zc prog 305 [.pointer (some ⟨bl,0,none⟩),.int .i64 x] (lnB bl o xs.length::lnL o xs L) h K:=by
 refine Z3 func305 rfl (rs:=[_,_]) rfl rfl ZW (by kernel_rfl) rfl rfl fun ap nd=>?_;have hb:h bl=noC:=ap.1;clear ap nd;refine xx ?_;refine Zgw o ho hl x hx ?_;simp -dsimp -implicitDefEqProofs (disch:=first|with_reducible assumption|omega) [go_sem,YK];exact ZO hk
theorem Ysi (b cap i n:Nat)(hi:i≤n)(hc:n≤cap):∃q,Ju (some ⟨b,0,none⟩) cap i 1=some ⟨b,q,none⟩∧(i<n→q=i):=by
 unfold Ju;split
 ·exact⟨0,rfl,fun x=>by omega⟩
 ·exact⟨i,by simp [Addr.add];try omega,fun _=>rfl⟩
theorem Znh {xs:List Int}{bl:Nat}(o:Option (Nat×Nat))(ho:okO o xs.length)(hl:xs.length≤1000)(i j:Nat)(hij:i≤j)(hj:j≤xs.length)(hr:∀z∈xs,-9223372036854775808≤z∧z≤9223372036854775807)
  (hk:∀h' r,PH.le h h'→Ints h' .i64 r ((xs.drop i).take (j-i))→K r (lnB bl o (Zej xs i j).length::lnL o (Zej xs i j) L) h') :
  Zc prog 306 [.pointer (some ⟨bl,0,none⟩),.int .i64 i,.int .i64 j] (lnB bl o xs.length::lnL o xs L) h K:=by
 cases o with
 | none =>
  have h0:xs.length=0:=ho;have h1:=List.length_eq_zero_iff.1 h0;subst h1;have i0:i=0:=by simp at hj;omega
  have j0:j=0:=by simpa using hj
  subst i0;subst j0;have hk:=hk h (.slice none 0 0) (PH.le_refl h) (Uf h .i64);simp only[ovs,oent,lnB,lnL]at hk ⊢;refine Z3 func306 rfl (rs:=[_]) rfl rfl ZW (by kernel_rfl) rfl rfl fun ap nd=>?_;have hb:h bl=noC:=ap.1;clear ap nd;simp -dsimp -implicitDefEqProofs (disch:=first|with_reducible assumption|omega) [go_sem,Zen Yhh,Ju];refine Z4 (t:=27) (e:=3) (sz:=1) (bytes:=8) (z:=[.int .i64 0]) (by kernel_rfl) Zds rfl rfl rfl rfl (by decide) [] _ none 0 [] rfl rfl (Or.inl ⟨rfl,rfl,rfl⟩) (m:=0) (news:=[]) rfl (fun u hu=>by cases hu) (by decide) (by omega) ?_;intro o1 j1 j2 j3;obtain rfl:o1=none:=j3.2 ⟨rfl,rfl⟩;simp only[ovs,oent,List.nil_append];refine xx ?_;have key:∀ {K':PK} {L':Own},K' (.slice none 0 0) L' h→Zc prog 360 [.slice none 0 0,.int .i64 0,.int .i64 0] L' h K':=fun {K' L'} hK =>
   Zlp (xs:=[]) none ho hl 0 0 (Nat.le_refl _) (Nat.le_refl _) hK
  refine key ?_;refine xx ?_;exact ZO hk
 | some p =>
  obtain⟨b,cap⟩:=p;have hcap:xs.length≤cap:=ho.1;simp only[YE,Ye,Nat.mul_one,lnB,lnL]at hk ⊢;refine Z3 func306 rfl (rs:=[_]) rfl rfl ZW (by kernel_rfl) rfl rfl fun ap nd=>?_;have hb:h bl=noC:=ap.1;have hbb:bl≠b:=fun e=>nd.1.1 e.symm;clear ap nd;simp -dsimp -implicitDefEqProofs (disch:=first|with_reducible assumption|omega) [go_sem,Zen Yhh];obtain⟨q,hq,hqi⟩:=Ysi b cap i xs.length (by omega) hcap;rw[hq];have hd:(xs.drop q).take (j-i)=(xs.drop i).take (j-i):=by
   by_cases c:i<xs.length
   ·rw[hqi c]
   ·rw[show j-i=0 by omega];simp
  refine Z4 (t:=27) (e:=3) (sz:=1) (bytes:=8) (z:=[.int .i64 0]) (by kernel_rfl) Zds rfl rfl rfl rfl (by decide) [] _ none 0 [] rfl rfl (Src.part (b:=b) (t:=3) (i:=q) (xs:=xs.map (.int .i64)) (List.mem_cons_of_mem _ List.mem_cons_self)) (m:=j-i) (by simp;omega) (fun u hu=>?_) (by simp [maxLen];omega) (by omega) ?_
  ·have:=List.mem_of_mem_drop (List.mem_of_mem_take hu);obtain⟨w,_,rfl⟩:=List.mem_map.1 this
   rfl
  intro o1 j1 j2 j3;rw[← List.map_drop,← List.map_take,hd];simp only[List.nil_append,Nat.zero_add]at j1 j2 ⊢;have m1:apB o1 bl:=j2.head;simp -dsimp -implicitDefEqProofs (disch:=first|with_reducible assumption|omega) [go_sem,ZR m1];refine U1 (n:=j-i) j1 (by simp;omega) (by omega) j2 fun h1 le1 sl=>?_;refine Zeo ?_;have key:∀ {K':PK} {L':Own},K' (.slice (some ⟨b,0,none⟩) (Zej xs i j).length cap) (⟨b,3,(Zej xs i j).map (.int .i64),cap⟩::L') h1→Zc prog 360 [.slice (some ⟨b,0,none⟩) xs.length cap,.int .i64 i,.int .i64 j] (⟨b,3,xs.map (.int .i64),cap⟩::L') h1 K':=fun {K' L'} hK=>by
   have:=Zlp (L:=L') (h:=h1) (K:=K') (some (b,cap)) ho hl i j hij hj (by simpa only[YE,Ye,Nat.mul_one] using hK)
   simpa only[YE,Ye,Nat.mul_one] using this
  refine Zc.ap (key fun ap=>?_);simp only[Ap]at ap;obtain⟨ab,abl,_⟩:=ap;have il:Ints h1 .i64 (ovs o1 (j-i)) ((xs.drop i).take (j-i)):=by
   refine⟨?_,fun z hz=>hr z (List.mem_of_mem_drop (List.mem_of_mem_take hz))⟩;have:((xs.drop i).take (j-i)).length=j-i:=by simp;omega
   rw[this,List.map_take,List.map_drop];exact sl
  obtain⟨x1,y1,e1,_⟩:=Z9 j1;rw[e1]at il ⊢;refine xx ?_;exact Yca (List.Perm.swap _ _ _) (ZO (hk h1 _ le1 il))
theorem Yma {xs:List Int}{x:Int}(h0:0≤fI xs x):∃k:Nat,k<xs.length∧fI xs x=k∧at0 xs k=x:=by
 obtain⟨_,h2,h3,h4⟩:=W6 (fun k=>decide (at0 xs k=x)) xs.length 0;unfold fI at h0 ⊢;split at h0
 ·omega
 ·rename_i c;rw[if_neg c];have:=h4 (by omega);simp only[decide_eq_true_eq]at this;exact⟨_,by omega,rfl,this⟩
theorem Ztf:∀ {xs:List Int},xs.Nodup→∀ {k:Nat}(hk:k<xs.length),flt xs xs[k]=Zej xs k (k+1)
 | [],_,k,hk=>by simp at hk
 | a::l,hn,0,hk=>by
  rw[List.nodup_cons]at hn;simp only[List.getElem_cons_zero,flt,Zej,List.take_zero,List.nil_append,Nat.zero_add,List.drop_succ_cons,List.drop_zero];rw[List.filter_cons_of_neg (by simp),List.filter_eq_self];intro z hz;have:z≠a:=fun e=>hn.1 (e ▸ hz)
  simpa using this
 | a::l,hn,k+1,hk=>by
  rw[List.nodup_cons]at hn;have ih:=Ztf hn.2 (k:=k) (by simpa using hk);simp only[List.getElem_cons_succ,flt,Zej,List.take_succ_cons,List.drop_succ_cons,List.cons_append]at ih ⊢;have:a≠l[k]'(by simpa using hk):=fun e=>hn.1 (by rw[e];exact List.getElem_mem _);rw[List.filter_cons_of_pos (by simpa using this),ih]
theorem Zum {xs:List Int}{bl:Nat}(o:Option (Nat×Nat))(ho:okO o xs.length)(hl:xs.length≤1000)(x:Int)(hx : -9223372036854775808≤x∧x≤9223372036854775807)(hr:∀z∈xs,-9223372036854775808≤z∧z≤9223372036854775807)(hnd:xs.Nodup)
  (hk:∀h' b,PH.le h h'→K (.bool b) (lnB bl o (flt xs x).length::lnL o (flt xs x) L) h') :
  Zc prog 201 [.pointer (some ⟨bl,0,none⟩),.int .i64 x] (lnB bl o xs.length::lnL o xs L) h K:=by
 refine ZS func201 rfl (rs:=[_]) rfl rfl ZW (by kernel_rfl) rfl rfl ?_;refine xx ?_;refine Zqk o ho hl x hx ?_;by_cases c:0≤fI xs x
 ·obtain⟨k,hk1,hk2,hk3⟩:=Yma c;have hdl:flt xs x=Zej xs k (k+1):=by
   rw[← Yf hk1]at hk3;rw[← hk3];exact Ztf hnd hk1
  rw[hdl]at hk;rw[decide_eq_true c,hk2,Int.max_eq_left (by omega)];refine xx ?_;refine Znh o ho hl k (k+1) (by omega) (by omega) hr fun h1 r1 le1 i1=>?_;obtain⟨ra,rc,rfl,_⟩:=i1.open;refine xx ?_;exact ZO (hk h1 true le1)
 ·have hn:¬x∈xs:=fun hx=>c ((Zta xs x).2 hx);have hk:=hk h false (PH.le_refl h);have:flt xs x=xs:=Zdv fun j hj e=>hn (by rw[← e,← Yf hj];exact List.getElem_mem hj);rw[this]at hk;rw[decide_eq_false c];refine xx ?_;exact ZO hk
theorem Zdu {xs:List Int}{bl:Nat}(o:Option (Nat×Nat))(ho:okO o xs.length)(hl:xs.length≤1000)(m:Int)(hm:0≤m∧m≤9223372036854775807)(hr:∀z∈xs,-9223372036854775808≤z∧z≤9223372036854775807)
  (hk:∀h' r,PH.le h h'→Ints h' .i64 r (xs.take m.toNat)→K r (lnB bl o (xs.drop m.toNat).length::lnL o (xs.drop m.toNat) L) h') :
  Zc prog 202 [.pointer (some ⟨bl,0,none⟩),.int .i64 m] (lnB bl o xs.length::lnL o xs L) h K:=by
 obtain⟨a,c,ea,hac⟩:=Z9 ho;have e:max 0 (min m xs.length)=((min m.toNat xs.length:Nat):Int):=by omega
 have e2:Zej xs 0 (min m.toNat xs.length)=xs.drop m.toNat:=by
  simp only[Zej,List.take_zero,List.nil_append];by_cases c:m.toNat≤xs.length
  ·rw[Nat.min_eq_left c]
  ·rw[Nat.min_eq_right (by omega),List.drop_length,List.drop_eq_nil_of_le (by omega)]
 have e3:(xs.drop 0).take (min m.toNat xs.length-0)=xs.take m.toNat:=by
  rw[List.drop_zero,Nat.sub_zero];by_cases c:m.toNat≤xs.length
  ·rw[Nat.min_eq_left c]
  ·rw[Nat.min_eq_right (by omega),List.take_length,List.take_of_length_le (by omega)]
 refine Z3 func202 rfl (rs:=[_]) rfl rfl ZW (by kernel_rfl) rfl rfl fun ap nd=>?_;have hb:h bl=noC:=ap.1;clear ap nd;refine xx ?_;refine xany (.tk 0 (.tk 1 (.tk 2 (.tk 3 (.tk 4 (.tk 5 (.tk 6 (.tk 7 (.o1 8 (.tk 9 (.o1 10 (.o1 11 (.o1 12 (.tk 13 (.fin)) (.nil)) (.nil)) (.nil))) (.nil)))))))))) (by kernel_rfl) (by kernel_rfl) ?_;refine xx ?_;rw[ea];simp -dsimp -implicitDefEqProofs (disch:=first|with_reducible assumption|omega) [go_sem,YK,e];rw[← ea];refine Znh o ho hl 0 (min m.toNat xs.length) (by omega) (by omega) hr fun h1 r1 le1 i1=>?_;rw[e3]at i1;rw[e2];obtain⟨ra,rc,rfl,_⟩:=i1.open;refine xx ?_;have hk:=hk h1 _ le1 i1;rw[List.length_drop,List.length_take]at hk;exact ZO hk
theorem Zrd {xs:List Int}{bl:Nat}(o:Option (Nat×Nat))(ho:okO o xs.length)(hl:xs.length<256)(x:Int)(hx:0≤x∧x≤9223372036854775807)(hn:¬x∈xs)
  (hk:∀o',okO o' (xs++[x]).length→K (.int .i64 0) (lnB bl o' (xs++[x]).length::lnL o' (xs++[x]) L) h) :
  Zc prog 304 [.pointer (some ⟨bl,0,none⟩),.int .i64 x] (lnB bl o xs.length::lnL o xs L) h K:=by
 obtain⟨a,c,ea,hac⟩:=Z9 ho;have hf:fI xs x<0:=Int.not_le.1 fun c=>hn ((Zta xs x).1 c);refine Z3 func304 rfl (rs:=[_]) rfl rfl ZW (by kernel_rfl) rfl rfl fun ap nd=>?_;have hb:h bl=noC:=ap.1;have hbo:apB o bl:=by
  cases o with
  | none=>trivial
  | some p=>exact nd.1.1
 clear ap nd;refine xx ?_;refine Zgw o ho (by omega) x (by omega) ?_;refine xx ?_;rw[ea];refine xx ?_;refine Z2 fun b1 nb1 zb1=>?_;(try simp only[ZT]at nb1);refine xx ?_;rw[← ea];refine Z4 (t:=27) (e:=3) (sz:=1) (bytes:=8) (z:=[.int .i64 0]) (by kernel_rfl) Zds rfl rfl rfl rfl (by decide) [_,_] L o xs.length (xs.map (.int .i64)) ho (by simp) (Src.own List.mem_cons_self) (m:=1) (news:=[.int .i64 x]) rfl (fun u hu=>by simp at hu;subst hu;rfl) (by simp [maxLen];omega) (by omega) ?_;intro o' j1 j2 j3;have hk:=hk o' (by simpa using j1);simp only[lnB,lnL,List.length_append,List.length_singleton,List.map_append,List.map_cons,List.map_nil]at hk;refine xx ?_;exact ZP (ZO hk)
theorem Zzu {es:List (Int×Value)}{n:Int}{v:Value}(hn:Zyk es n=none):Yab es n v=es++[(n,v)]:=by
 induction es with
 | nil=>rfl
 | cons e es ih =>
  simp only[Zyk]at hn;split at hn
  ·cases hn
  ·rename_i c;rw[Yab,if_neg c,ih hn];rfl
def Yld (xs:List Int):List (Int×Value):=xs.map fun x=>(x,.bool true)
theorem Zze {xs:List Int}{x:Int}(hn:¬x∈xs):Zyk (Yld xs) x=none:=by
 induction xs with
 | nil=>rfl
 | cons a l ih =>
  simp only[List.mem_cons,not_or]at hn;simp only[Yld,List.map_cons,Zyk];rw[if_neg hn.1];exact ih hn.2
theorem mapB:prog.underlying 373=some (.map 3 4):=by kernel_rfl
theorem intB:prog.underlying 3=some (.int .i64):=by kernel_rfl
theorem zeroB (W:World):(zeroValue 4:Sem Value).run prog W = .ok (.bool false) W:=by kernel_rfl
theorem Zdf {xs:List Int}(v:Value)(hv:Ints h .i64 v xs)(hl:xs.length≤256)(h0:∀z∈xs,0≤z)(hn:xs.Nodup)
  (hk:∀bl o,ZT bl L→h bl=noC→okO o xs.length→K (.tuple #[.pointer (some ⟨bl,0,none⟩),.int .i64 0]) (lnB bl o xs.length::lnL o xs L) h) :
  Zc prog 200 [v] L h K:=by
 have hnum:=hv.num;obtain⟨a,c,rfl,hcap,hln,_,hcs⟩:=hv.open;have hpos:∀k,k<xs.length→0≤at0 xs k:=fun k hk=>by rw[← Yf hk];exact h0 _ (List.getElem_mem hk)
 refine ZS func200 rfl (rs:=[_,_]) rfl rfl ZW (by kernel_rfl) rfl rfl ?_;refine xx ?_;refine Z2 fun bl n_bl h_bl=>?_;(try simp only[ZT]at n_bl);refine xx ?_;refine WP (0:Nat) (fun k=>k≤xs.length) (fun k=>[(17,.int .i64 k),(16,.int .i64 xs.length),(15,.slice a xs.length c),(0,.slice a xs.length c),(4,.pointer (some ⟨bl,0,none⟩))]) (fun k=>xs.length-k) ?_ ?_ ?_
 ·exact Nat.zero_le _
 ·simp [Ent,List.lookup,Wo]
 intro k hk1;by_cases c1:k<xs.length
 ·have hp:=hpos k c1;simp -dsimp -implicitDefEqProofs (disch:=first|with_reducible assumption|omega) [go_sem,idx hcs];exact⟨k+1,by omega,by omega,by simp [Ent,List.lookup],Za.refl _ _⟩
 obtain rfl:k=xs.length:=by omega
 clear c1 hk1;refine xx ?_;refine Ztt fun bm n_bm h_bm=>?_;have hmb:bl≠bm:=n_bm.1;have hnot:∀k,k<xs.length→¬at0 xs k∈xs.take k:=fun k hk hm=>by
  obtain⟨j,hj,e⟩:=List.mem_iff_getElem.1 hm;simp only[List.length_take]at hj;rw[List.getElem_take,← Yf hk]at e;exact(List.pairwise_iff_getElem.1 hn) j k (by omega) hk (by omega) e
 have htk:∀k,k<xs.length→xs.take (k+1)=xs.take k++[at0 xs k]:=fun k hk=>by rw[List.take_succ_eq_append_getElem hk,Yf hk]
 refine xx ?_;refine YO (γ:=Nat) 0 (fun k=>k≤xs.length) (fun k=>[(27,.int .i64 k),(26,.int .i64 xs.length),(25,.slice a xs.length c),(0,.slice a xs.length c),(4,.pointer (some ⟨bl,0,none⟩)),(7,.map (some bm))])
  (fun k=>⟨bm,4294967295,Zoh .i64 (Yld (xs.take k)),0⟩::⟨bl,372,[.slice none 0 0],1⟩::L) (fun _=>h) (fun k=>xs.length-k) ?_ ?_ ?_ ?_
 ·exact Nat.zero_le _
 ·simp [Ent,List.lookup]
 ·exact Za.refl _ _
 intro k hk1;by_cases c1:k<xs.length
 ·have hg:=Zze (hnot k c1);simp -dsimp -implicitDefEqProofs (disch:=first|with_reducible assumption|omega) [go_sem,idx hcs];refine Zxp mapB intB zeroB (Yld (xs.take k)) List.mem_cons_self ?_;rw[hg];refine xx ?_;refine Zuo mapB intB [] _ (Yld (xs.take k)) ?_;rw[Zzu hg];refine xx ?_;refine⟨k+1,by omega,by omega,by simp [Ent,List.lookup],?_⟩;rw[htk k c1];simp only[Yld,List.map_append,List.map_cons,List.map_nil,List.nil_append];exact Za.refl _ _
 obtain rfl:k=xs.length:=by omega
 clear c1 hk1;refine xx ?_;refine YO (γ:=Nat×Option (Nat×Nat)) (0,none) (fun s=>s.1≤xs.length∧okO s.2 s.1) (fun s=>[(39,.int .i64 s.1),(38,.int .i64 xs.length),(37,.slice a xs.length c),(4,.pointer (some ⟨bl,0,none⟩))])
  (fun s=>lnB bl s.2 s.1::lnL s.2 (xs.take s.1) L) (fun _=>h) (fun s=>xs.length-s.1) ?_ ?_ ?_ ?_
 ·exact⟨Nat.zero_le _,rfl⟩
 ·simp [Ent,List.lookup]
 ·exact Za.tail _ _ _
 rintro⟨k,o⟩ ⟨k1,k2⟩;simp only at k1 k2 ⊢;by_cases c1:k<xs.length
 ·have hp:=hpos k c1;have hq:=hnum k;have hlen:(xs.take k).length=k:=by rw[List.length_take];omega
  simp -dsimp -implicitDefEqProofs (disch:=first|with_reducible assumption|omega) [go_sem,idx hcs];have key:∀ {K':PK},(∀o',okO o' (k+1)→K' (.int .i64 0) (lnB bl o' (k+1)::lnL o' (xs.take (k+1)) L) h)→Zc prog 304 [.pointer (some ⟨bl,0,none⟩),.int .i64 (at0 xs k)] (lnB bl o k::lnL o (xs.take k) L) h K':=fun {K'} hK=>by
   have:=Zrd (L:=L) (h:=h) (K:=K') (xs:=xs.take k) (bl:=bl) o (by rw[hlen];exact k2) (by omega) (at0 xs k) (by omega) (hnot k c1) fun o' h'=>by
    rw[← htk k c1]at h' ⊢;have e:(xs.take (k+1)).length=k+1:=by rw[List.length_take];omega
    rw[e]at h' ⊢;exact hK o' h'
   rwa [hlen]at this
  refine key fun o' j1=>?_;refine xx ?_;exact⟨k+1,o',⟨by omega,j1⟩,by omega,by simp [Ent,List.lookup],Za.refl _ _⟩
 ·obtain rfl:k=xs.length:=by omega
  rw[List.take_length];refine xx ?_;exact ZO (hk bl o n_bl h_bl k2)
open Go.RowKit Go.Proofs Go.Bl Go.Proofs.Tryz
def VH (m:Zb):Bool:=decide (m.status=2∨m.status=3)
def cP (l:List Zb)(i:Nat):List Nat:=(List.range i).filter fun j=>VH (gr ZQ l j)
theorem VZ (l:List Zb)(i:Nat):cP l (i+1)=if VH (gr ZQ l i) then cP l i++[i] else cP l i:=by
 unfold cP;rw[List.range_succ,List.filter_append];by_cases c:VH (gr ZQ l i)=true
 ·simp [c]
 ·simp [c]
theorem Zpd {l:List Zb}{i j:Nat}(hj:j∈cP l i):j<i:=by
 unfold cP at hj;exact List.mem_range.1 (List.mem_filter.1 hj).1
theorem VW (l:List Zb)(i:Nat):(cP l i).length≤i:=by
 have:=List.length_filter_le (fun j=>VH (gr ZQ l j)) (List.range i)
 rwa [List.length_range]at this
theorem Ztn {l:List Zb}{i j:Nat}(hj:j∈cP l i):VH (gr ZQ l j)=true:=by
 unfold cP at hj;exact(List.mem_filter.1 hj).2
def thI (l:List Zb)(ks:List Int)(i:Nat):List Nat:=(cP l i).filter fun(j:Nat)=>Vm ks j
theorem J5 (l:List Zb)(ks:List Int)(i:Nat):(thI l ks i).length≤i:=Nat.le_trans (List.length_filter_le _ _) (VW l i)
theorem V4 (l:List Zb)(ks:List Int)(i:Nat):thI l ks (i+1)=if VH (gr ZQ l i)&&Vm ks i then thI l ks i++[i] else thI l ks i:=by
 unfold thI;rw[VZ];by_cases c:VH (gr ZQ l i)=true
 ·by_cases c2:Vm ks i=true
  ·simp [c,c2]
  ·simp [c,c2]
 ·simp [c]
def Zct (l:List Zb)(i:Nat):Int:=(gr ZQ l i).eff
def U9 (l:List Zb):Int:=tot ((cP l l.length).map (Zct l))
def Gx (l:List Zb)(ks:List Int):Int:=tot ((thI l ks l.length).map (Zct l))
theorem Wq (x:Int)(xs:List Int):tot (x::xs)=x+tot xs:=by
 have:∀k,Yy (x::xs) (k+1)=x+Yy xs k:=fun k=>by
  induction k with
  | zero=>simp [Yy,at0]
  | succ k ih=>rw[Yy,ih,Yy];simp only[at0,List.getD_cons_succ];omega
 exact this xs.length
theorem U3 {α:Type}(f:α→Int)(q:α→Bool):∀(xs:List α),(∀x∈xs,0≤f x)→0≤tot ((xs.filter q).map f)∧tot ((xs.filter q).map f)≤tot (xs.map f)
 | [],_=>⟨Int.le_refl _,Int.le_refl _⟩
 | x::xs,h0=>by
  have ih:=U3 f q xs fun y hy=>h0 y (List.mem_cons_of_mem _ hy);have hx:=h0 x List.mem_cons_self;rw[List.filter_cons];split
  ·rw[List.map_cons,List.map_cons,Wq,Wq];omega
  ·rw[List.map_cons,Wq];omega
theorem Znc {l:List Zb}(hm:∀x∈l,Zf x)(i:Nat):0≤Zct l i∧Zct l i≤18446744073709551615:=by
 unfold Zct;by_cases c:i<l.length
 ·rw[Z8 c];exact(hm _ (List.getElem_mem c)).u _ (by simp)
 ·have:gr ZQ l i=ZQ:=by
   unfold gr;rw[List.getD_eq_getElem?_getD,List.getElem?_eq_none (by omega)];rfl
  rw[this];decide
theorem Vg {l:List Zb}{ks:List Int}(hm:∀x∈l,Zf x):0≤Gx l ks∧Gx l ks≤U9 l:=U3 _ _ _ fun x _=>(Znc hm x).1
def thB (s:Zd)(i:Nat):Bool:=Vm s.marks i
def cI (s:Zd):List Nat:=cP s.members s.members.length
def GR (s:Zd):Int:=Gx s.members s.marks
def Y7 (s:Zd):Int:=U9 s.members
def Ym (s:Zd):Int:=Zqb s.par.delay (VJ s.calm (GR s) (Y7 s)).1 s.emer
def Wc (s:Zd)(i:Nat):Zb:=Vc s.par (gr ZQ s.members i) (thB s i) (Ym s)
def wsS (s:Zd):List Int:=((thI s.members s.marks s.members.length).map (Wc s)).map (YX s.par)
def Jl (s:Zd):Int:=JO s.par (Y7 s) (s.gen+s.mint) s.most (Ym s)
def Wx (s:Zd):List Int:=YG (Jl s) (tot (wsS s)) (wsS s)
def YW (s:Zd)(i:Nat):Int:=at0 (Wx s) (thI s.members s.marks i).length
def Zol (s:Zd)(i:Nat):Zb×Int:=VK s.par (Wc s i) (YW s i)
def W8 (s:Zd)(i:Nat):Int:=YR s.par (Wc s i) (Ym s)
structure Zq where
 mem:Int
 there:Bool
 prize:Int
 over:Int
 fine:Int
 burned:Int
 ends:Int
 paid:Int
 deriving DecidableEq
def Yb:Zq:=⟨0,false,0,0,0,0,0,0⟩
def slC (x:Zq):List Value:=[.int .i64 x.mem,.bool x.there,.int .u64 x.prize,.int .u64 x.over,.int .u64 x.fine,.int .u64 x.burned,.int .i64 x.ends,.int .u64 x.paid]
abbrev slV (x:Zq):Value := .agg #[.int .i64 x.mem,.bool x.there,.int .u64 x.prize,.int .u64 x.over,.int .u64 x.fine,.int .u64 x.burned,.int .i64 x.ends,.int .u64 x.paid]
theorem Yo (x:Zq):(slC x).length=8:=rfl
def WC (s:Zd)(i:Nat):Zq:=⟨i,thB s i,0,0,0,0,0,0⟩
def Y6 (s:Zd)(i:Nat):Zq:=if thB s i then ⟨i,true,YW s i,(Zol s i).2,0,0,0,0⟩ else ⟨i,false,0,0,W8 s i,WQ s.par (W8 s i),0,0⟩
def YI (s:Zd)(i:Nat):Zb:=if thB s i then (Zol s i).1 else { Wc s i with bal:=(Wc s i).bal-W8 s i }
def Zmx (s:Zd)(i:Nat):Bool:=decide ((YI s i).bal≤s.par.floor)
def exF (s:Zd)(e:List Int)(l:List Nat):List Int:=l.foldl (fun e i=>if Zmx s i then flt e i else e) e
def Ji (s:Zd):List Int:=(exF s s.exit (cI s)).take s.par.churn.toNat
def WX (s:Zd)(i:Nat):Int:=if (i:Int)∈Ji s then 5 else if Zmx s i then 4 else 0
def Yk (s:Zd)(i:Nat):Zq:={ Y6 s i with ends:=WX s i,paid:=if WX s i≠0 then (YI s i).bal else 0 }
def Us (s:Zd):Int:=if WK s then (if 1073741824≤s.ep then 200 else 0) else 291
def YJ (s:Zd):List Zq:=if Us s=0 then (cI s).map (Yk s) else []
def efC (l:List Zb)(ix:List Nat):List Value:=(ix.map (Zct l)).map (.int .u64)
theorem UR (l:List Zb)(ix:List Nat):(efC l ix).length=ix.length*1:=by simp [efC]
theorem GG (l:List Zb)(ix:List Nat)(k:Nat):efC l (ix++[k])=efC l ix++[.int .u64 (Zct l k)]:=by simp [efC]
theorem Zed {l:List Zb}(hm:∀x∈l,Zf x){ix:List Nat}{h:PH}{v:Value}(sl:Sl h v ix.length 1 (efC l ix)):Ints h .u64 v (ix.map (Zct l)):=by
 refine⟨by rw[List.length_map];exact sl,fun z hz=>?_⟩;obtain⟨i,_,rfl⟩:=List.mem_map.1 hz;rw[show IntKind.u64.min=0 by decide,show IntKind.u64.max=18446744073709551615 by decide];exact Znc hm i
theorem Y0 {e sz:Nat}(o:Option (Nat×Nat))(xs:List Value)(L:Own):oent e sz o xs L=oent e sz o xs []++L:=by cases o<;>rfl
theorem Yqx {ks:List Int}{k:Nat}{b:Bool}(e:Vm ks k=b):Vm ks (k:Int)=b:=e
theorem Zaa {l:List Zb}{ks:List Int}(v kv:Value)(hd0:Zh Yv 6 h v l)(hm:∀x∈l,Zf x)(hkv:Ints h .u8 kv ks)(hn:l.length≤1000)(hA:U9 l≤18446744073709551615)
  (hk:∀h',PH.le h h'→K (.tuple #[.int .u64 (Gx l ks),.int .u64 (U9 l),.int .i64 0]) L h'):Zc prog 137 [v,kv] L h K:=by
 have hP:=Vg (ks:=ks) hm;have hkv0:=hkv;obtain⟨a,c,rfl,hc,hl,_,hd⟩:=hd0.open;obtain⟨ka,kc,rfl,_⟩:=hkv.open;refine ZS func137 rfl (rs:=[_,_,_]) rfl rfl ZW (by kernel_rfl) rfl rfl ?_;refine xx ?_;refine YO (γ:=Nat×Option (Nat×Nat)×Option (Nat×Nat)) (0,none,none) (fun s=>s.1≤l.length∧okO s.2.1 (cP l s.1).length∧okO s.2.2 (thI l ks s.1).length∧apO s.2.1 (oent 22 1 s.2.2 (efC l (thI l ks s.1)) L) h∧apO s.2.2 L h)
  (fun s=>[(13,.int .i64 s.1),(12,.int .i64 l.length),(11,.slice a l.length c),(8,ovs s.2.1 (cP l s.1).length),(7,ovs s.2.2 (thI l ks s.1).length),(1,.slice ka ks.length kc)])
  (fun s=>oent 22 1 s.2.1 (efC l (cP l s.1)) (oent 22 1 s.2.2 (efC l (thI l ks s.1)) L)) (fun _=>h) (fun s=>l.length-s.1) ?_ ?_ ?_ ?_
 ·exact⟨Nat.zero_le _,rfl,rfl,trivial,trivial⟩
 ·simp [Ent,List.lookup,Wo,ovs,cP,thI]
 ·exact Za.refl _ _
 rintro⟨k,o1,o2⟩ ⟨i1,i2,i3,i4,i5⟩;simp only at i1 i2 i3 i4 i5 ⊢;by_cases c1:k<l.length
 ·have hcn:(cP l k).length≤k:=VW l k;have htn:(thI l ks k).length≤k:=J5 l ks k;have hs1:=VZ l k;have hs2:=V4 l ks k;simp -dsimp -implicitDefEqProofs (disch:=first|with_reducible assumption|omega) [go_sem,↓Uw ZQ (by decide) hd,Yv];refine Z2 fun b7 nb7 zb7=>?_;(try simp only[ZT]at nb7);have n7:=Ya (Ya nb7);simp -dsimp -implicitDefEqProofs (disch:=first|with_reducible assumption|omega) [go_sem,Yv];refine W7 (gr ZQ l k) ?_;by_cases c2:VH (gr ZQ l k)=true
  ·have c2':(gr ZQ l k).status=2∨(gr ZQ l k).status=3:=by simpa [VH] using c2
   rw[decide_eq_true c2'];rw[if_pos c2]at hs1;rw[c2,Bool.true_and]at hs2;simp -dsimp -implicitDefEqProofs (disch:=first|with_reducible assumption|omega) [go_sem,Yv];refine Z2 fun b8 nb8 zb8=>?_;(try simp only[ZT]at nb8);refine xx ?_;refine Z4 (t:=25) (e:=22) (sz:=1) (bytes:=8) (by kernel_rfl) VB rfl rfl rfl rfl (by decide) [_,_] _ o1 (cP l k).length (efC l (cP l k)) i2 (UR _ _) (Src.own List.mem_cons_self) (m:=1) (news:=[.int .u64 (gr ZQ l k).eff]) rfl (by intro u hu;simp only[List.mem_singleton]at hu;subst hu;rfl) (by simp [maxLen];omega) (by omega) ?_;intro o1' j1 j2 j3;have j4:=ZY (ZY j2);have e1:efC l (cP l k)++[.int .u64 (gr ZQ l k).eff]=efC l (cP l (k+1)):=by rw[hs1,GG];rfl
   have e2:(cP l k).length+1=(cP l (k+1)).length:=by rw[hs1];simp
   rw[e2]at j1 ⊢;rw[e1];refine xx ?_;refine GY (bs:=ks) _ k hkv0 (by omega) ?_;by_cases c3:Vm ks k=true
   ·rw[if_pos c3]at hs2;rw[c3];refine xx ?_;refine Z2 fun b9 nb9 zb9=>?_;(try simp only[ZT]at nb9);refine xx ?_;rw[Y0 (e:=22) o1'];refine Z4 (t:=25) (e:=22) (sz:=1) (bytes:=8) (by kernel_rfl) VB rfl rfl rfl rfl (by decide) (_::_::_::oent 22 1 o1' _ []) _ o2 (thI l ks k).length (efC l (thI l ks k)) i3 (UR _ _) (Src.own List.mem_cons_self) (m:=1) (news:=[.int .u64 (gr ZQ l k).eff]) rfl (by intro u hu;simp only[List.mem_singleton]at hu;subst hu;rfl) (by simp [maxLen];omega) (by omega) ?_;intro o2' l1 l2 l3;have l4:=ZY (ZY (ZY l2));have l5:=Zdn (e2:=22) (sz2:=1) (cs2:=efC l (thI l ks (k+1))) (Y9 j4) l4;have e3:efC l (thI l ks k)++[.int .u64 (gr ZQ l k).eff]=efC l (thI l ks (k+1)):=by rw[hs2,GG];rfl
    have e4:(thI l ks k).length+1=(thI l ks (k+1)).length:=by rw[hs2];simp
    rw[e4]at l1 ⊢;rw[e3];refine xx ?_;refine⟨k+1,o1',o2',⟨by omega,j1,l1,l5.1,l5.2⟩,by omega,by simp [Ent,List.lookup],?_⟩;rw[← Y0];exact(Za.tail _ _ _).trans ((Za.tail _ _ _).trans (Za.tail _ _ _))
   ·rw[if_neg c3]at hs2;rw[show Vm ks k=false by simpa using c3];refine xx ?_;refine⟨k+1,o1',o2,⟨by omega,j1,by rw[hs2];exact i3,by rw[hs2];exact j4,i5⟩,by omega,by simp [Ent,List.lookup,hs2],?_⟩;rw[hs2];exact(Za.tail _ _ _).trans (Za.tail _ _ _)
  ·have c2':¬((gr ZQ l k).status=2∨(gr ZQ l k).status=3):=by simpa [VH] using c2
   rw[decide_eq_false c2'];rw[if_neg c2]at hs1;rw[show VH (gr ZQ l k)=false by simpa using c2,Bool.false_and]at hs2;simp only[Bool.false_eq_true,if_false]at hs2;refine xx ?_;refine⟨k+1,o1,o2,⟨by omega,by rw[hs1];exact i2,by rw[hs2];exact i3,by rw[hs2];exact i4,i5⟩,by omega,by simp [Ent,List.lookup,hs1,hs2],?_⟩;rw[hs1,hs2];exact Za.tail _ _ _
 ·obtain rfl:k=l.length:=by omega
  refine xx ?_;have hcn:(cP l l.length).length≤l.length:=VW l l.length;have htn:(thI l ks l.length).length≤l.length:=J5 l ks l.length;rw[Y0 (e:=22) o1];refine Wa (n:=(thI l ks l.length).length) (oent 22 1 o1 (efC l (cP l l.length)) []) i3 (UR _ _) (by omega) (fun h1 le1 sl1=>?_) ⟨f153,func153,by decide +kernel,rfl⟩;rw[← Y0 (e:=22) o1];have it:=Zed hm sl1;refine Y1 _ it ?_;rw[show tot ((thI l ks l.length).map (Zct l))=Gx l ks from rfl,Yi (by omega)];refine xx ?_;refine Wa (n:=(cP l l.length).length) [] i2 (UR _ _) (by omega) (fun h2 le2 sl2=>?_) ⟨f153,func153,by decide +kernel,rfl⟩;have ia:=Zed hm sl2;refine Y1 _ ia ?_;rw[show tot ((cP l l.length).map (Zct l))=U9 l from rfl,Yi hA];refine xx ?_;exact ZO (hk h2 (le1.trans le2))
structure SlH (s:Zd):Prop where
 r:YM s.par=true
 ok:Zj s.par
 mo:∀x∈s.members,Zf x
 len:s.members.length≤128
 act:Y7 s≤140737488355328
 gm:0≤s.gen+s.mint∧s.gen+s.mint≤4611686018427387904
 g0:0≤s.gen
 m0:0≤s.mint
 most:0≤s.most∧s.most≤4611686018427387904
 calm:0≤s.calm∧s.calm≤1073741824
 xn:s.exit.Nodup
 xb:∀x∈s.exit,0≤x∧x<128
 xl:s.exit.length≤128
 fit:∀x∈s.members,Vt s.par x=true
theorem Yow {v:SV}{s:Zd}(hs:Zr h v s)(hf:WK s=true):SlH s:=by
 simp only[WK,Bool.and_eq_true]at hf;obtain⟨⟨⟨⟨⟨⟨⟨⟨f1,f2⟩,f3⟩,f4⟩,f5⟩,f6⟩,f7⟩,f8⟩,f9⟩:=hf;simp only[Vo,Bool.and_eq_true,decide_eq_true_eq,List.all_eq_true]at f5;obtain⟨⟨⟨f51,f52⟩,_⟩,f54⟩:=f5;simp only[WY,Bool.and_eq_true,decide_eq_true_eq]at f9;rw[wi_iff]at f3;obtain⟨r1,r2⟩:=row_iff.1 f54;have xn:=Ge s.exit.length (Nat.le_refl _) r1;rw[List.take_length]at xn;have u1:=hs.ok.u s.gen (by simp);have u2:=hs.ok.u s.mint (by simp);have u3:=hs.ok.u s.most (by simp);have hbig:=Zkv f1;have hfit:∀x∈s.members,Vt s.par x=true:=fun x hx=>(f52 x hx).1;have hxl:s.exit.length≤128:=by
  rw[Zqi,Bool.and_eq_true,decide_eq_true_eq]at f54;rw[f54.2];exact Nat.le_trans (Ziw _ _ _) f51
 refine⟨f1,hs.ok.p,hs.mo,f51,?_,⟨by omega,by omega⟩,u1.1,u2.1,⟨u3.1,f9.1.2⟩,f3,xn,fun x hx=>?_,hxl,hfit⟩
 ·have hz:∀i,at0 ((cP s.members s.members.length).map (Zct s.members)) i≤1099511627776:=fun i=>by
   by_cases c:i<((cP s.members s.members.length).map (Zct s.members)).length
   ·rw[← Yf c,List.getElem_map];have hm:=List.getElem_mem (l:=cP s.members s.members.length) (by simpa using c)
    generalize (cP s.members s.members.length)[i]'(by simpa using c)=j at hm
    have hj:=Zpd hm;have hc:=Ztn hm;have hf:=hfit (gr ZQ s.members j) (by rw[Z8 hj];exact List.getElem_mem hj);simp only[VH,decide_eq_true_eq]at hc;simp only[Vt,Bool.and_eq_true,JC,if_pos hc]at hf;have hg:=hf.2.2;simp only[VV,Bool.and_eq_true,decide_eq_true_eq]at hg;have h2:=hg.1.1.2;show (gr ZQ s.members j).eff≤_;omega
   ·rw[Gg (by omega)];decide
  have h1:=Ztu hz ((cP s.members s.members.length).map (Zct s.members)).length;have h2:=VW s.members s.members.length;show tot _≤_;rw[tot];rw[List.length_map]at h1 ⊢;omega
 ·obtain⟨i,hi,rfl⟩:=List.mem_iff_getElem.1 hx;have:=r1 i hi;simp only[Zof,Bool.and_eq_true,wi_iff]at this;rw[Yf hi];omega
theorem Zes {p:Ze}(ok:Zj p)(hr:YM p=true){m:Zb}(mo:Zf m)(there:Bool)(mode:Int):Zf (Vc p m there mode):=by
 have hs:=Z7 hr;have us:=mo.u m.score (by simp);have un:=mo.n m.streak (by simp);have ur:=ok.w p.recover (by simp [YN]);have u1:=ok.w p.bias (by simp [YN]);have u2:=ok.w p.biasEm (by simp [YN]);have u3:=ok.w p.scoreCap (by simp [YN])
 cases there with
 | true =>
  rw[Zxq];refine⟨fun z hz=>?_,fun z hz=>?_⟩
  ·simp only[List.mem_cons,List.not_mem_nil,or_false]at hz;rcases hz with rfl|rfl|rfl
   ·exact mo.u _ (by simp)
   ·exact mo.u _ (by simp)
   ·unfold Y2;split<;>omega
  ·simp only[List.mem_cons,List.not_mem_nil,or_false]at hz;rcases hz with rfl|rfl|rfl
   ·unfold Ylk;split<;>omega
   ·exact mo.n _ (by simp)
   ·exact mo.n _ (by simp)
 | false =>
  rw[Zrf];refine⟨fun z hz=>?_,fun z hz=>?_⟩
  ·simp only[List.mem_cons,List.not_mem_nil,or_false]at hz;rcases hz with rfl|rfl|rfl
   ·exact mo.u _ (by simp)
   ·exact mo.u _ (by simp)
   ·unfold Yvg Gw;split
    ·omega
    ·split<;>omega
  ·simp only[List.mem_cons,List.not_mem_nil,or_false]at hz;rcases hz with rfl|rfl|rfl
   ·omega
   ·exact mo.n _ (by simp)
   ·exact mo.n _ (by simp)
theorem Zln {s:Zd}(H:SlH s){i:Nat}(hi:i<s.members.length):Zf (Wc s i) :=
 Zes H.ok H.r (H.mo _ (by rw[Z8 hi];exact List.getElem_mem hi)) _ _
abbrev shB (bh:Nat)(s:Zd)(v:SV)(mode act:Int)(sl nw:Value):Zm:=⟨bh,151,stC s v++[.int .i64 mode,.int .u64 act,sl,nw],45⟩
def slK (s:Zd)(k:Nat):List Value:=((cP s.members k).map (WC s)).flatMap slC
def nwK (s:Zd)(k:Nat):List Value:=((cP s.members k).map (Wc s)).flatMap sdC
theorem Yfp (s:Zd)(k:Nat):(slK s k).length=(cP s.members k).length*8:=by
 unfold slK;rw[Z0 Yo,List.length_map]
theorem Yhc (s:Zd)(k:Nat):(nwK s k).length=(cP s.members k).length*4:=by
 unfold nwK;rw[Z0 YQ,List.length_map]
theorem Zpf {s:Zd}(v:SV)(hs0:Zr h v s)(H:SlH s)(few:s.marks.length≤1000)(bh:Nat)
  (hk:∀h' o1 o2,PH.le h h'→okO o1 (cI s).length→okO o2 (cI s).length→K (.tuple #[]) (shB bh s v (Ym s) (Y7 s) (ovs o1 (cI s).length) (ovs o2 (cI s).length)::oent 69 8 o1 (slK s s.members.length) (oent 72 4 o2 (nwK s s.members.length) L)) h') :
  Zc prog 79 [.pointer (some ⟨bh,0,none⟩)] (shB bh s v 0 0 (.slice none 0 0) (.slice none 0 0)::L) h K:=by
 have hs:=hs0;obtain⟨pa,pc,ma,mc,ea,ec,xa,xc,oa,oc,da,dc,ta,tc,ka,kc,ra,rc,rfl⟩:=hs.slices;have hkv:=hs0.k;have hmv:=hs0.m;have hA:=H.act;have hP:=Vg (ks:=s.marks) H.mo;have hl:=H.len;simp only[shB,stC,List.cons_append,List.nil_append]at hk ⊢;refine Z3 func79 rfl (rs:=[]) rfl rfl ZW (by kernel_rfl) rfl rfl fun ap nd=>?_;have hbh:h bh=noC:=ap.1;clear ap nd;refine xx ?_;refine Yn (.tk 0 (.tk 1 (.tk 2 (.tk 3 (.tk 5 (.tk 6 (.tk 7 (.tk 8 (.tkl 4 (.tkl 9 (.o1 10 (.tk 11 (.tk 12 (.tk 13 (.tk 14 (.tk 15 (.tk 16 (.tk 17 (.fin)))))))) (.nil)))))))))))) (by kernel_rfl) (by kernel_rfl) _ (Za.refl _ _) ?_;refine xx ?_;refine Zc.ap (Zaa (l:=s.members) (ks:=s.marks) _ _ hmv H.mo hkv (by omega) (by show Y7 s≤_;omega) fun h1 le1 ap=>?_);simp only[Ap]at ap;have hbh1:=ap.1;clear ap;refine xkp (Za.forget le1) ?_;refine xx ?_;refine Yn (.tk 0 (.tk 1 (.tk 2 (.tk 3 (.tk 5 (.tk 6 (.tk 7 (.tk 8 (.tk 10 (.tk 11 (.tkl 4 (.tkl 9 (.o1 12 (.tk 13 (.tk 14 (.tk 15 (.tk 16 (.tk 17 (.fin)))))) (.nil)))))))))))))) (by kernel_rfl) (by kernel_rfl) _ (Za.refl _ _) ?_;refine xx ?_;have hcalm:=H.calm;refine Zfv s.par s.calm (Gx s.members s.marks) (U9 s.members) (by have:=hP;have:Y7 s=U9 s.members:=rfl;omega) (by have:=hP;have:Y7 s=U9 s.members:=rfl;omega) (by omega) ?_;refine xkp (Za.refl _ _) ?_;refine xx ?_;refine Yn (.tk 0 (.tk 1 (.tk 2 (.tk 3 (.tk 4 (.tk 5 (.tk 7 (.tk 8 (.tk 9 (.tk 10 (.tk 11 (.tk 14 (.tkl 6 (.tkl 12 (.o1 13 (.tk 15 (.tk 16 (.o2 17 (.tk 18 (.tk 19 (.o2 20 (.fin) (.nil)))) (.nil)))) (.nil)))))))))))))))) (by kernel_rfl) (by kernel_rfl) _ (Za.refl _ _) ?_;refine xx ?_;refine Zrw s.par _ s.emer ?_;refine xkp (Za.refl _ _) ?_;refine xx ?_;rw[show Zqb s.par.delay (VJ s.calm (Gx s.members s.marks) (U9 s.members)).1 s.emer=Ym s from rfl,show U9 s.members=Y7 s from rfl];have hd1:Zh Yv 6 h1 (.slice ma s.members.length mc) s.members:=hmv.up le1
 have hk1:Ints h1 .u8 (.slice ka s.marks.length kc) s.marks:=hkv.up le1;refine YO (γ:=Nat×Option (Nat×Nat)×Option (Nat×Nat)) (0,none,none) (fun q=>q.1≤s.members.length∧okO q.2.1 (cP s.members q.1).length∧okO q.2.2 (cP s.members q.1).length)
  (fun q=>[(66,.int .i64 q.1),(65,.int .i64 s.members.length),(64,.slice ma s.members.length mc),(0,.pointer (some ⟨bh,0,none⟩))])
  (fun q=>shB bh s ⟨.slice pa s.purses.length pc,.slice ma s.members.length mc,.slice ea s.entry.length ec,.slice xa s.exit.length xc,.slice oa s.pool.length oc,.slice da s.dues.length dc,.slice ta s.motions.length tc,.slice ka s.marks.length kc,.slice ra s.ring.length rc⟩ (Ym s) (Y7 s) (ovs q.2.1 (cP s.members q.1).length) (ovs q.2.2 (cP s.members q.1).length)::oent 69 8 q.2.1 (slK s q.1) (oent 72 4 q.2.2 (nwK s q.1) L)) (fun _=>h1) (fun q=>s.members.length-q.1) ?_ ?_ ?_ ?_
 ·exact⟨Nat.zero_le _,rfl,rfl⟩
 ·simp [Ent,List.lookup,Wo]
 ·exact Za.refl _ _
 rintro⟨k,o1,o2⟩ ⟨i1,i2,i3⟩;simp only[shB,stC,List.cons_append,List.nil_append]at i1 i2 i3 ⊢;by_cases c1:k<s.members.length
 ·have hcn:(cP s.members k).length≤k:=VW s.members k;have hs1:=VZ s.members k;have hmo:Zf (gr ZQ s.members k):=H.mo _ (by rw[Z8 c1];exact List.getElem_mem c1);simp -dsimp -implicitDefEqProofs (disch:=first|with_reducible assumption|omega) [go_sem,↓Uw ZQ (by decide) hd1,Yv];refine Z2 fun b7 nb7 zb7=>?_;(try simp only[ZT]at nb7);have nb7:=nb7.1;clear nb7;simp -dsimp -implicitDefEqProofs (disch:=first|with_reducible assumption|omega) [go_sem,Yv];refine W7 (gr ZQ s.members k) ?_;by_cases c2:VH (gr ZQ s.members k)=true
  ·have c2':(gr ZQ s.members k).status=2∨(gr ZQ s.members k).status=3:=by simpa [VH] using c2
   rw[decide_eq_true c2'];rw[if_pos c2]at hs1;have e1:slK s k++slC (WC s k)=slK s (k+1):=by unfold slK;rw[hs1,List.map_append,List.flatMap_append];simp
   have e2:nwK s k++sdC (Wc s k)=nwK s (k+1):=by unfold nwK;rw[hs1,List.map_append,List.flatMap_append];simp
   have e3:(cP s.members k).length+1=(cP s.members (k+1)).length:=by rw[hs1];simp
   refine xx ?_;refine GY (bs:=s.marks) _ k hk1 (by omega) ?_;refine xx ?_;refine Z2 fun b8 nb8 zb8=>?_;(try simp only[ZT]at nb8);have nb8:b7≠b8∧bh≠b8:=⟨nb8.1,nb8.2.1⟩
   clear nb8;refine xx ?_;refine Z4 (t:=59) (e:=69) (sz:=8) (bytes:=64) (by kernel_rfl) Ysp rfl rfl rfl rfl (by decide) [_,_,_] _ o1 (cP s.members k).length (slK s k) i2 (Yfp _ _) (Src.own List.mem_cons_self) (m:=1) (news:=slC (WC s k)) rfl (by intro u hu;simp only[slC,List.mem_cons,List.not_mem_nil,or_false]at hu;rcases hu with rfl|rfl|rfl|rfl|rfl|rfl|rfl|rfl<;>rfl) (by simp [maxLen];omega) (by omega) ?_;intro o1' j1 j2 j3;rw[e3]at j1;rw[e1,e3];refine xx ?_;refine Yn (.tk 0 (.tk 1 (.tk 2 (.tk 3 (.tk 5 (.tk 6 (.tk 7 (.tk 8 (.tk 10 (.tk 12 (.tk 13 (.tk 14 (.tk 15 (.tkl 4 (.tkl 9 (.tkl 11 (.tkl 16 (.o1 17 (.o1 18 (.o1 19 (.tk 20 (.tk 21 (.o2 22 (.fin) (.nil)))) (.nil)) (.nil)) (.nil))))))))))))))))))) (by kernel_rfl) (by kernel_rfl) _ (drop_left [_,_,_] _ _) ?_;refine xx ?_;refine Zck s.par H.ok H.r (gr ZQ s.members k) hmo (Vm s.marks k) (Ym s) ?_;rw[show Vc s.par (gr ZQ s.members k) (Vm s.marks k) (Ym s)=Wc s k from rfl];refine xkp (drop_left [_,_,_] _ _) ?_;refine xx ?_;refine Z2 fun b9 nb9 zb9=>?_;(try simp only[ZT]at nb9);refine xkp ((Za.tail _ _ _).trans (drop_left [_,_,_] _ _)) ?_;have nb9:b8≠b9∧b7≠b9∧bh≠b9:=⟨nb9.1,nb9.2.1,nb9.2.2.1⟩
   clear nb9;refine xx ?_;rw[Y0 (e:=69) o1'];refine Z4 (t:=149) (e:=72) (sz:=4) (bytes:=32) (by kernel_rfl) Zvq rfl rfl rfl rfl (by decide) (_::_::_::_::oent 69 8 o1' _ []) _ o2 (cP s.members k).length (nwK s k) i3 (Yhc _ _) (Src.own List.mem_cons_self) (m:=1) (news:=sdC (Wc s k)) rfl (by intro u hu;simp only[sdC,List.mem_cons,List.not_mem_nil,or_false]at hu;rcases hu with rfl|rfl|rfl|rfl<;>rfl) (by simp [maxLen];omega) (by omega) ?_;intro o2' l1 l2 l3;rw[e3]at l1;rw[e2,e3];simp only[List.cons_append];rw[← Y0 (e:=69) o1'];refine xkp ((Za.tail _ _ _).trans (drop_left [_,_,_] _ _)) ?_;refine xx ?_;exact⟨k+1,o1',o2',⟨by omega,j1,l1⟩,by omega,by simp [Ent,List.lookup],(Za.tail _ _ _).trans ((Za.tail _ _ _).trans (Za.tail _ _ _))⟩
  ·have c2':¬((gr ZQ s.members k).status=2∨(gr ZQ s.members k).status=3):=by simpa [VH] using c2
   rw[decide_eq_false c2'];rw[if_neg c2]at hs1;refine xx ?_;refine⟨k+1,o1,o2,⟨by omega,by rw[hs1];exact i2,by rw[hs1];exact i3⟩,by omega,by simp [Ent,List.lookup],?_⟩;unfold slK nwK;rw[hs1];exact Za.tail _ _ _
 ·obtain rfl:k=s.members.length:=by omega
  refine xx ?_;exact ZO (hk h1 o1 o2 le1 i2 i3)
def VF {α:Type}(f g:Nat→α)(C:List Nat)(k:Nat):List α:=(C.take k).map f++(C.drop k).map g
section
variable {α:Type} {f g:Nat→α} {C:List Nat} {k:Nat}
theorem Y8:(VF f g C k).length=C.length:=by simp [VF];omega
theorem Zcu:VF f g C 0=C.map g:=by simp [VF]
theorem US:VF f g C C.length=C.map f:=by simp [VF]
theorem Jj (z:α)(hk:k<C.length):gr z (VF f g C k) k=g C[k]:=by
 rw[Z8 (by rw[Y8];exact hk)];simp only[VF];rw[List.getElem_append_right (by simp;omega)];simp only[List.length_map,List.length_take,List.getElem_map,List.getElem_drop]
 congr 2
 omega
theorem Uj (hk:k<C.length):(VF f g C k).set k (f C[k])=VF f g C (k+1):=by
 have hl:((C.take k).map f).length=k:=by simp;omega
 have hd:C.drop k=C[k]::C.drop (k+1):=List.drop_eq_getElem_cons hk;simp only[VF];rw[List.set_append,if_neg (by omega),hl,Nat.sub_self,hd,List.map_cons,List.set_cons_zero,List.take_succ_eq_append_getElem hk,List.map_append];simp
theorem VR (hk:k<C.length)(e:f C[k]=g C[k]):VF f g C (k+1)=VF f g C k:=by
 rw[← Uj hk,e];apply List.ext_getElem?;intro j;rw[List.getElem?_set];by_cases c:k=j
 ·subst c;have:=Jj (f:=f) (g:=g) (g C[k]) hk;rw[Z8 (by rw[Y8];exact hk)]at this;rw[if_pos rfl,if_pos (by rw[Y8];exact hk),List.getElem?_eq_getElem (by rw[Y8];exact hk),this]
 ·rw[if_neg c]
end
theorem Yft (l:List Zb):∀(n k:Nat) (hk:k<(cP l n).length),cP l ((cP l n)[k])=(cP l n).take k
 | 0,k,hk=>by simp [cP]at hk
 | n+1,k,hk=>by
  have hs:=VZ l n;by_cases c:VH (gr ZQ l n)=true
  ·rw[if_pos c]at hs;by_cases c2:k<(cP l n).length
   ·have ih:=Yft l n k c2;have e:(cP l (n+1))[k]=(cP l n)[k]:=by simp only[hs];exact List.getElem_append_left c2
    rw[e,ih,hs,List.take_append_of_le_length (by omega)]
   ·have hk2:k=(cP l n).length:=by rw[hs]at hk;simp at hk;omega
    have e:(cP l (n+1))[k]=n:=by simp only[hs];rw[List.getElem_append_right (by omega)];simp [hk2]
    rw[e,hs,List.take_append_of_le_length (by omega),List.take_of_length_le (by omega)]
  ·rw[if_neg c]at hs;have e:(cP l (n+1))[k]=(cP l n)[k]'(by rw[← hs];exact hk):=by simp only[hs]
   rw[e,Yft l n k (by rw[← hs];exact hk),hs]
def Vn (s:Zd)(i:Nat):Zq:=if thB s i then { WC s i with prize:=YW s i,over:=(Zol s i).2 } else WC s i
def Zat (s:Zd)(i:Nat):Zb:=if thB s i then (Zol s i).1 else Wc s i
theorem Zza {s:Zd}{k:Nat}(hk:k<(cI s).length):(thI s.members s.marks (cI s)[k])=((cI s).take k).filter (thB s):=by
 unfold thI;have:=Yft s.members s.members.length k hk;show (cP s.members ((cP s.members s.members.length)[k])).filter _=_;rw[this]
 rfl
theorem Zsw {s:Zd}{k:Nat}(hk:k<(cI s).length):(cI s)[k]<s.members.length:=Zpd (List.getElem_mem hk)
theorem Zng {α:Type}(z:α)(f:Nat→α){C:List Nat}{k:Nat}(hk:k<C.length):gr z (C.map f) k=f C[k]:=by
 rw[Z8 (by simpa using hk),List.getElem_map]
def tkI (s:Zd)(k:Nat):List Nat:=((cI s).take k).filter (thB s)
theorem Zhc {s:Zd}{k:Nat}(hk:k<(cI s).length):tkI s (k+1)=if thB s (cI s)[k] then tkI s k++[(cI s)[k]] else tkI s k:=by
 unfold tkI;rw[List.take_succ_eq_append_getElem hk,List.filter_append];by_cases c:thB s (cI s)[k]=true
 ·simp [c]
 ·simp [c]
theorem Yhv (s:Zd)(k:Nat):(tkI s k).length≤(cI s).length:=Nat.le_trans (List.length_filter_le _ _) (by simp;omega)
theorem Zjm (s:Zd):tkI s (cI s).length=thI s.members s.marks s.members.length:=by
 unfold tkI;rw[List.take_length];rfl
theorem Ycp (s:Zd){j k:Nat}(hjk:j≤k):(tkI s j).length≤(tkI s k).length:=by
 unfold tkI;refine List.Sublist.length_le (List.Sublist.filter _ ?_);rw[show (cI s).take j=((cI s).take k).take j by rw[List.take_take,Nat.min_eq_left hjk]];exact List.take_sublist _ _
theorem JW (s:Zd):Wx s=VL s.par (Jl s) ((thI s.members s.marks s.members.length).map (Wc s)):=rfl
theorem Zcs (s:Zd):(Wx s).length=(thI s.members s.marks s.members.length).length:=by
 rw[JW,Vs,List.length_map]
theorem Zeu {s:Zd}(H:SlH s):0≤Jl s∧Jl s≤18446744073709551615:=by
 have ha:0≤Y7 s:=(U3 (Zct s.members) (fun j=>VH (gr ZQ s.members j)) (List.range s.members.length) fun x _=>(Znc H.mo x).1).1;have:=Yig H.ok (ac:=Y7 s) ⟨ha,by have:=H.act;omega⟩;unfold Jl JO;split
 ·decide
 ·exact this
theorem Yew {s:Zd}(H:SlH s):0≤Y7 s∧Y7 s≤140737488355328 :=
 ⟨(U3 (Zct s.members) (fun j=>VH (gr ZQ s.members j)) (List.range s.members.length) fun x _=>(Znc H.mo x).1).1,H.act⟩
theorem Ybg {s:Zd}{k:Nat}(hk:k<(cI s).length):YW s (cI s)[k]=at0 (Wx s) (tkI s k).length:=by
 unfold YW;rw[Zza hk]
 rfl
theorem Zyw (xs:List Int)(j i:Nat):at0 (xs.drop j) i=at0 xs (j+i):=by
 simp only[at0,List.getD_eq_getElem?_getD,List.getElem?_drop]
theorem Ydr {s:Zd}(H:SlH s):∀x∈(thI s.members s.marks s.members.length).map (Wc s),Zf x:=fun x hx=>by
 obtain⟨i,hi,rfl⟩:=List.mem_map.1 hx;exact Zln H (Zpd (List.mem_filter.1 hi).1)
theorem Yha {s:Zd}(H:SlH s)(i:Nat):0≤YW s i∧YW s i≤18446744073709551615:=by
 have:=G1 H.r (Zeu H).1 (Ydr H) (thI s.members s.marks i).length;have h2:=(Zeu H).2;unfold YW;rw[JW];omega
theorem Zqf {α:Type}{f:α→List Value}{l:List α}{k:Nat}{a b:α}(e:f a=f b):(l.set k a).flatMap f=(l.set k b).flatMap f:=by
 rw[List.flatMap_def,List.flatMap_def,List.map_set,List.map_set,e]
theorem Zxr {l:List Zb}{k:Nat}(hk:k<l.length)(b:Zb) :
  ((((l.flatMap sdC).set (k*4) (.int .u64 b.bal)).set (k*4+1) (.int .u64 b.eff)).set (k*4+1+1) (.int .u64 b.score)).set (k*4+1+1+1) (.int .i64 b.streak)=(l.set k b).flatMap sdC:=by
 obtain⟨a,ha⟩:∃a,a=gr ZQ l k:=⟨_,rfl⟩
 have st:∀(l':List Zb) (hk':k<l'.length) (m:Nat) (u:Value) (a a':Zb),gr ZQ l' k=a→m<4→sdC a'=(sdC a).set m u→(l'.flatMap sdC).set (k*4+m) u=(l'.set k a').flatMap sdC:=fun l' hk' m u a a' e hm h1=>Yx YQ ZQ l' (m:=m) hk' hm (by rw[e];exact h1);have gg:∀x,gr ZQ (l.set k x) k=x:=fun x=>by rw[Z8 (by simpa using hk),List.getElem_set_self]
 have h0:=st l hk 0 (.int .u64 b.bal) a { a with bal:=b.bal } ha.symm (by decide) rfl;have h1:=st (l.set k { a with bal:=b.bal }) (by simpa using hk) 1 (.int .u64 b.eff) _ { a with bal:=b.bal,eff:=b.eff } (gg _) (by decide) rfl;have h2:=st (l.set k { a with bal:=b.bal,eff:=b.eff }) (by simpa using hk) 2 (.int .u64 b.score) _ { a with bal:=b.bal,eff:=b.eff,score:=b.score } (gg _) (by decide) rfl;have h3:=st (l.set k { a with bal:=b.bal,eff:=b.eff,score:=b.score }) (by simpa using hk) 3 (.int .i64 b.streak) _ { a with bal:=b.bal,eff:=b.eff,score:=b.score,streak:=b.streak } (gg _) (by decide) rfl;rw[Nat.add_zero]at h0;rw[List.set_set]at h1 h2 h3;rw[h0,h1];show (((l.set k _).flatMap sdC).set (k*4+2) _).set (k*4+3) _=_;rw[h2,h3];exact Zqf rfl
abbrev slB (bs cs:Nat)(l:List Zq):Zm:=⟨bs,69,l.flatMap slC,cs*8⟩
abbrev nwB (bn cn:Nat)(l:List Zb):Zm:=⟨bn,72,l.flatMap sdC,cn*4⟩
theorem Zkc {s:Zd}(v:SV)(hs0:Zr h v s)(H:SlH s)(bh bs cs bn cn:Nat)(hcs:(cI s).length≤cs)(hcn:(cI s).length≤cn)
  (hk:∀h',PH.le h h'→K (.tuple #[]) (shB bh s v (Ym s) (Y7 s) (.slice (some ⟨bs,0,none⟩) (cI s).length cs) (.slice (some ⟨bn,0,none⟩) (cI s).length cn)::slB bs cs ((cI s).map (Vn s))::nwB bn cn ((cI s).map (Zat s))::L) h') :
  Zc prog 80 [.pointer (some ⟨bh,0,none⟩)] (shB bh s v (Ym s) (Y7 s) (.slice (some ⟨bs,0,none⟩) (cI s).length cs) (.slice (some ⟨bn,0,none⟩) (cI s).length cn)::slB bs cs ((cI s).map (WC s))::nwB bn cn ((cI s).map (Wc s))::L) h K:=by
 have hs:=hs0;obtain⟨pa,pc,ma,mc,ea,ec,xa,xc,oa,oc,da,dc,ta,tc,ka,kc,ra,rc,rfl⟩:=hs.slices;have hl:=H.len;have hcl:(cI s).length≤s.members.length:=VW _ _;obtain⟨n,hn⟩:∃n,n=(cI s).length:=⟨_,rfl⟩
 simp only[shB,stC,slB,nwB,List.cons_append,List.nil_append,← hn]at hk hcs hcn ⊢;refine Z3 func80 rfl (rs:=[]) rfl rfl ZW (by kernel_rfl) rfl rfl fun ap nd=>?_;have hbh:h bh=noC:=ap.1;have hbs:h bs=noC:=ap.2.1;have hbn:h bn=noC:=ap.2.2.1;have nsh:bs≠bh:=nd.1.1;have nnh:bn≠bh:=nd.1.2.1;have nns:bn≠bs:=nd.2.1.1;clear ap nd;refine xx ?_;refine YO (γ:=Nat×Option (Nat×Nat)) (0,none) (fun q=>q.1≤n∧okO q.2 (tkI s q.1).length∧apO q.2 L h)
  (fun q=>[(16,.int .i64 q.1),(15,.int .i64 n),(14,.slice (some ⟨bs,0,none⟩) n cs),(2,ovs q.2 (tkI s q.1).length),(0,.pointer (some ⟨bh,0,none⟩))])
  (fun q=>shB bh s ⟨.slice pa s.purses.length pc,.slice ma s.members.length mc,.slice ea s.entry.length ec,.slice xa s.exit.length xc,.slice oa s.pool.length oc,.slice da s.dues.length dc,.slice ta s.motions.length tc,.slice ka s.marks.length kc,.slice ra s.ring.length rc⟩ (Ym s) (Y7 s) (.slice (some ⟨bs,0,none⟩) n cs) (.slice (some ⟨bn,0,none⟩) n cn)::slB bs cs ((cI s).map (WC s))::nwB bn cn ((cI s).map (Wc s))::oent 72 4 q.2 (((tkI s q.1).map (Wc s)).flatMap sdC) L) (fun _=>h) (fun q=>n-q.1) ?_ ?_ ?_ ?_
 ·exact⟨Nat.zero_le _,rfl,trivial⟩
 ·simp [Ent,List.lookup,Wo,tkI,ovs]
 ·exact Za.refl _ _
 rintro⟨k,o⟩ ⟨i1,i2,i3⟩;simp only[shB,stC,slB,nwB,List.cons_append,List.nil_append]at i1 i2 i3 ⊢;by_cases c1:k<n
 ·have c1':k<(cI s).length:=by omega
  have hts:=Zhc c1';have htl:=Yhv s k;obtain⟨i,hi⟩:∃i,i=(cI s)[k]:=⟨_,rfl⟩
  rw[← hi]at hts;have hil:i<s.members.length:=by rw[hi];exact Zsw c1'
  have gs:gr Yb ((cI s).map (WC s)) k=WC s i:=by rw[Zng Yb _ c1',hi]
  have gn:gr ZQ ((cI s).map (Wc s)) k=Wc s i:=by rw[Zng ZQ _ c1',hi]
  have kl1:k<((cI s).map (WC s)).length:=by simpa using c1'
  have kl2:k<((cI s).map (Wc s)).length:=by simpa using c1'
  have g0:∀(K:Value→Prop) (t:Zk K),Wz (((cI s).map (WC s)).flatMap slC) (k*8) K t=K (.int .i64 i):=fun K t=>Z1 Yo Yb _ (m:=0) kl1 (by decide) (by rw[gs];rfl) K t;have g1:∀(K:Value→Prop) (t:Zk K),Wz (((cI s).map (WC s)).flatMap slC) (k*8+1) K t=K (.bool (thB s i)):=fun K t=>Z1 Yo Yb _ (m:=1) kl1 (by decide) (by rw[gs];rfl) K t;have g2:∀(K:Value→Prop) (t:Zk K),Wz (((cI s).map (WC s)).flatMap slC) (k*8+2) K t=K (.int .u64 0):=fun K t=>Z1 Yo Yb _ (m:=2) kl1 (by decide) (by rw[gs];rfl) K t;have g3:∀(K:Value→Prop) (t:Zk K),Wz (((cI s).map (WC s)).flatMap slC) (k*8+3) K t=K (.int .u64 0):=fun K t=>Z1 Yo Yb _ (m:=3) kl1 (by decide) (by rw[gs];rfl) K t;have g4:∀(K:Value→Prop) (t:Zk K),Wz (((cI s).map (WC s)).flatMap slC) (k*8+4) K t=K (.int .u64 0):=fun K t=>Z1 Yo Yb _ (m:=4) kl1 (by decide) (by rw[gs];rfl) K t;have g5:∀(K:Value→Prop) (t:Zk K),Wz (((cI s).map (WC s)).flatMap slC) (k*8+5) K t=K (.int .u64 0):=fun K t=>Z1 Yo Yb _ (m:=5) kl1 (by decide) (by rw[gs];rfl) K t;have g6:∀(K:Value→Prop) (t:Zk K),Wz (((cI s).map (WC s)).flatMap slC) (k*8+6) K t=K (.int .i64 0):=fun K t=>Z1 Yo Yb _ (m:=6) kl1 (by decide) (by rw[gs];rfl) K t;have g7:∀(K:Value→Prop) (t:Zk K),Wz (((cI s).map (WC s)).flatMap slC) (k*8+7) K t=K (.int .u64 0):=fun K t=>Z1 Yo Yb _ (m:=7) kl1 (by decide) (by rw[gs];rfl) K t;have w0:∀(K:Value→Prop) (t:Zk K),Wz (((cI s).map (Wc s)).flatMap sdC) (k*4) K t=K (.int .u64 (Wc s i).bal):=fun K t=>Z1 YQ ZQ _ (m:=0) kl2 (by decide) (by rw[gn];rfl) K t;have w1:∀(K:Value→Prop) (t:Zk K),Wz (((cI s).map (Wc s)).flatMap sdC) (k*4+1) K t=K (.int .u64 (Wc s i).eff):=fun K t=>Z1 YQ ZQ _ (m:=1) kl2 (by decide) (by rw[gn];rfl) K t
  have w2:∀(K:Value→Prop) (t:Zk K),Wz (((cI s).map (Wc s)).flatMap sdC) (k*4+2) K t=K (.int .u64 (Wc s i).score):=fun K t=>Z1 YQ ZQ _ (m:=2) kl2 (by decide) (by rw[gn];rfl) K t;have w3:∀(K:Value→Prop) (t:Zk K),Wz (((cI s).map (Wc s)).flatMap sdC) (k*4+3) K t=K (.int .i64 (Wc s i).streak):=fun K t=>Z1 YQ ZQ _ (m:=3) kl2 (by decide) (by rw[gn];rfl) K t;simp -dsimp -implicitDefEqProofs (disch:=first|with_reducible assumption|omega) [go_sem,g0,g1,g2,g3,g4,g5,g6,g7];refine Z2 fun b4 nb4 zb4=>?_;(try simp only[ZT]at nb4);have nb4:bh≠b4∧bs≠b4∧bn≠b4:=⟨nb4.1,nb4.2.1,nb4.2.2.1⟩
  clear nb4;refine xx ?_
  cases ct:thB s i with
  | true =>
   rw[ct,if_pos rfl]at hts;have e1:((tkI s k).map (Wc s)).flatMap sdC++sdC (Wc s i)=((tkI s (k+1)).map (Wc s)).flatMap sdC:=by rw[hts,List.map_append,List.flatMap_append];simp
   have e3:(tkI s k).length+1=(tkI s (k+1)).length:=by rw[hts];simp
   simp -dsimp -implicitDefEqProofs (disch:=first|with_reducible assumption|omega) [go_sem,w0,w1,w2,w3];refine Z2 fun b9 nb9 zb9=>?_;(try simp only[ZT]at nb9);refine xx ?_;refine Z4 (t:=149) (e:=72) (sz:=4) (bytes:=32) (by kernel_rfl) Zvq rfl rfl rfl rfl (by decide) [_,_,_,_,_] _ o (tkI s k).length (((tkI s k).map (Wc s)).flatMap sdC) i2 (by rw[Z0 YQ,List.length_map]) (Src.own List.mem_cons_self) (m:=1) (news:=sdC (Wc s i)) rfl (by intro u hu;simp only[sdC,List.mem_cons,List.not_mem_nil,or_false]at hu;rcases hu with rfl|rfl|rfl|rfl<;>rfl) (by simp [maxLen];omega) (by omega) ?_;intro o' j1 j2 j3;rw[e3]at j1;rw[e1,e3];refine xx ?_;exact⟨k+1,o',⟨by omega,j1,ZY (ZY (ZY (ZY (ZY j2))))⟩,by omega,by simp [Ent,List.lookup],(Za.tail _ _ _).trans (Za.tail _ _ _)⟩
  | false =>
   rw[ct,if_neg (by decide)]at hts;refine xx ?_;exact⟨k+1,o,⟨by omega,by rw[hts];exact i2,i3⟩,by omega,by simp [Ent,List.lookup,hts],by rw[hts];exact Za.tail _ _ _⟩
 obtain rfl:n=k:=by omega
 clear c1 i1;rw[hn,Zjm]at i2;rw[show tkI s n=thI s.members s.marks s.members.length by rw[hn,Zjm]];refine xx ?_;have hgm:=H.gm;have hmo:=H.most;have hac:=Yew H;refine Yn (.tk 0 (.tk 1 (.tk 2 (.tk 3 (.tk 5 (.tk 6 (.tk 7 (.tk 9 (.tk 10 (.tk 11 (.tk 12 (.tk 14 (.tk 15 (.tk 16 (.tk 17 (.tk 20 (.tk 21 (.tk 22 (.tk 23 (.tk 25 (.tk 26 (.tk 27 (.tkl 4 (.tkl 8 (.tkl 13 (.tkl 18 (.tk 19 (.tkl 24 (.tkl 28 (.o1 29 (.tk 30 (.fin)) (.nil))))))))))))))))))))))))))))))) (by kernel_rfl) (by kernel_rfl) _ (Za.refl _ _) ?_;refine xx ?_;refine Zc.ap (GK s.par H.ok H.r (Y7 s) (s.gen+s.mint) s.most (Ym s) (by omega) (by omega) (by omega) fun h1 le1 ap=>?_);have hbh1:h1 bh=noC:=ap.1;clear ap;rw[show JO s.par (Y7 s) (s.gen+s.mint) s.most (Ym s)=Jl s from rfl];refine xkp (Za.forget le1) ?_;have hmb:=Zeu H;refine xx ?_;have htl:(thI s.members s.marks s.members.length).length≤s.members.length:=J5 _ _ _;refine Wa (n:=(thI s.members s.marks s.members.length).length) [_,_,_] i2 (by rw[Z0 YQ,List.length_map]) (by omega) (fun h2 le2 sl2=>?_) ⟨f197,func197,by decide +kernel,rfl⟩;have rec2:Zh sdC 4 h2 (ovs o (thI s.members s.marks s.members.length).length) ((thI s.members s.marks s.members.length).map (Wc s)):=by
  refine⟨YQ,?_⟩;rw[List.length_map];exact sl2
 refine Zc.ap (Gf s.par H.ok H.r _ rec2 (Ydr H) (by rw[List.length_map];omega) (Jl s) hmb fun h3 r3 le3 i4 ap=>?_);simp only[List.cons_append,List.nil_append]at ap ⊢;have hbh3:h3 bh=noC:=ap.1;have hbs3:h3 bs=noC:=ap.2.1;have hbn3:h3 bn=noC:=ap.2.2.1;clear ap;rw[← JW]at i4;have le0:PH.le h h3:=le1.trans (le2.trans le3);obtain⟨pa0,pc0,rfl,hpc0,_⟩:=i4.open;have hpl:=Zcs s;refine xx ?_;refine YO (γ:=Nat×Option Addr×Nat) (0,pa0,pc0) (fun q=>q.1≤n∧Ints h3 .u64 (.slice q.2.1 ((Wx s).length-(tkI s q.1).length) q.2.2) ((Wx s).drop (tkI s q.1).length))
  (fun q=>[(83,.int .i64 q.1),(82,.int .i64 n),(6,.slice q.2.1 ((Wx s).length-(tkI s q.1).length) q.2.2),(0,.pointer (some ⟨bh,0,none⟩))])
  (fun q=>shB bh s ⟨.slice pa s.purses.length pc,.slice ma s.members.length mc,.slice ea s.entry.length ec,.slice xa s.exit.length xc,.slice oa s.pool.length oc,.slice da s.dues.length dc,.slice ta s.motions.length tc,.slice ka s.marks.length kc,.slice ra s.ring.length rc⟩ (Ym s) (Y7 s) (.slice (some ⟨bs,0,none⟩) n cs) (.slice (some ⟨bn,0,none⟩) n cn)::slB bs cs (VF (Vn s) (WC s) (cI s) q.1)::nwB bn cn (VF (Zat s) (Wc s) (cI s) q.1)::L) (fun _=>h3) (fun q=>n-q.1) ?_ ?_ ?_ ?_
 ·exact⟨Nat.zero_le _,by simpa [tkI] using i4⟩
 ·simp [Ent,List.lookup,tkI]
 ·rw[Zcu,Zcu];exact Za.refl _ _
 rintro⟨k,qa,qc⟩ ⟨i1,i5⟩;simp only[shB,stC,slB,nwB,List.cons_append,List.nil_append]at i1 i5 ⊢;by_cases c1:k<n
 ·have c1':k<(cI s).length:=by omega
  have hts:=Zhc c1';have hpz:=Ybg c1';have hmono:=Ycp s (show k+1≤(cI s).length from c1');rw[Zjm]at hmono;obtain⟨i,hi⟩:∃i,i=(cI s)[k]:=⟨_,rfl⟩
  rw[← hi]at hts hpz;have hil:i<s.members.length:=by rw[hi];exact Zsw c1'
  have gs:gr Yb (VF (Vn s) (WC s) (cI s) k) k=WC s i:=by rw[Jj Yb c1',hi]
  have gn:gr ZQ (VF (Zat s) (Wc s) (cI s) k) k=Wc s i:=by rw[Jj ZQ c1',hi]
  have kl1:k<(VF (Vn s) (WC s) (cI s) k).length:=by rw[Y8];exact c1'
  have kl2:k<(VF (Zat s) (Wc s) (cI s) k).length:=by rw[Y8];exact c1'
  have hst1:=Uj (f:=Vn s) (g:=WC s) c1';have hst2:=Uj (f:=Zat s) (g:=Wc s) c1';have hsm1:=VR (f:=Vn s) (g:=WC s) c1';have hsm2:=VR (f:=Zat s) (g:=Wc s) c1';have ml1:(VF (Vn s) (WC s) (cI s) k).length=n:=by rw[Y8,hn]
  have ml2:(VF (Zat s) (Wc s) (cI s) k).length=n:=by rw[Y8,hn]
  rw[← hi]at hst1 hst2 hsm1 hsm2;have hpb:=Yha H i;have hno:=Zln H hil
  generalize VF (Vn s) (WC s) (cI s) k=M1 at *
  generalize VF (Zat s) (Wc s) (cI s) k=M2 at *
  have g1:∀(K:Value→Prop) (t:Zk K),Wz (M1.flatMap slC) (k*8+1) K t=K (.bool (thB s i)):=fun K t=>Z1 Yo Yb _ (m:=1) kl1 (by decide) (by rw[gs];rfl) K t;have w0:∀(K:Value→Prop) (t:Zk K),Wz (M2.flatMap sdC) (k*4) K t=K (.int .u64 (Wc s i).bal):=fun K t=>Z1 YQ ZQ _ (m:=0) kl2 (by decide) (by rw[gn];rfl) K t;have w1:∀(K:Value→Prop) (t:Zk K),Wz (M2.flatMap sdC) (k*4+1) K t=K (.int .u64 (Wc s i).eff):=fun K t=>Z1 YQ ZQ _ (m:=1) kl2 (by decide) (by rw[gn];rfl) K t;have w2:∀(K:Value→Prop) (t:Zk K),Wz (M2.flatMap sdC) (k*4+2) K t=K (.int .u64 (Wc s i).score):=fun K t=>Z1 YQ ZQ _ (m:=2) kl2 (by decide) (by rw[gn];rfl) K t;have w3:∀(K:Value→Prop) (t:Zk K),Wz (M2.flatMap sdC) (k*4+3) K t=K (.int .i64 (Wc s i).streak):=fun K t=>Z1 YQ ZQ _ (m:=3) kl2 (by decide) (by rw[gn];rfl) K t;simp -dsimp -implicitDefEqProofs (disch:=first|with_reducible assumption|omega) [go_sem,g1]
  cases ct:thB s i with
  | true =>
   rw[ct,if_pos rfl]at hts;have htl1:(tkI s (k+1)).length=(tkI s k).length+1:=by rw[hts];simp
   have hjm:(tkI s k).length<(Wx s).length:=by omega
   have i5':=i5;obtain⟨a5,c5,e5,hc5,_,_,hcs5⟩:=i5.open;injection e5 with e51 e52 e53
   subst e51;subst e53;rw[List.length_drop]at hc5;have hcs:∀x,x<(Wx s).length-(tkI s k).length→Yd h3 qa x=some (.int .u64 (at0 (Wx s) ((tkI s k).length+x))):=fun x hx=>by rw[hcs5 x (by rw[List.length_drop];exact hx),Zyw]
   have hu25:tSh prog 25 = .sl 22 1 8:=by kernel_rfl
   have hfl1:(M1.flatMap slC).length=n*8:=by rw[Z0 Yo,ml1]
   have hk8:=Y5 (w:=8) c1 (show 3<8 by decide);have hk4:=Y5 (w:=4) c1 (show 3<4 by decide);have hfl2:(M2.flatMap sdC).length=n*4:=by rw[Z0 YQ,ml2]
   refine xx ?_;refine Yn (.tk 0 (.tk 1 (.tk 2 (.tk 4 (.tk 5 (.tkl 3 (.tk 6 (.tk 7 (.o2 8 (.tk 9 (.fin)) (.nil)))))))))) (by kernel_rfl) (by kernel_rfl) [] (drop_left [] _ _) ?_;have hcs0:at0 (Wx s) ((tkI s k).length+0)=YW s i:=by rw[Nat.add_zero,hpz]
   obtain⟨a1,ha1⟩:∃a1:Zq,a1={ WC s i with prize:=YW s i }:=⟨_,rfl⟩
   obtain⟨a2,ha2⟩:∃a2:Zq,a2={ WC s i with prize:=YW s i,over:=(Zol s i).2 }:=⟨_,rfl⟩
   have hset0:(M1.flatMap slC).set (k*8+2) (.int .u64 (YW s i))=(M1.set k a1).flatMap slC:=Yx Yo Yb M1 (m:=2) kl1 (by decide) (by rw[gs,ha1];rfl);have kl1':k<(M1.set k a1).length:=by rw[List.length_set];exact kl1
   have gs':gr Yb (M1.set k a1) k=a1:=by rw[Z8 kl1',List.getElem_set_self]
   have hset1:((M1.set k a1).flatMap slC).set (k*8+3) (.int .u64 (Zol s i).2)=(M1.set k a2).flatMap slC:=by
    rw[Yx Yo Yb (M1.set k a1) (m:=3) kl1' (by decide) (a':=a2) (by rw[gs',ha1,ha2];rfl),List.set_set]
   have r2:∀(K:Value→Prop) (t:Zk K),Wz ((M1.set k a1).flatMap slC) (k*8+2) K t=K (.int .u64 (YW s i)):=fun K t=>Z1 Yo Yb _ (m:=2) kl1' (by decide) (by rw[gs',ha1];rfl) K t;have hsum1:(M1.map fun a=>(slC a).length).sum=n*8:=by rw[← List.length_flatMap,hfl1]
   have hfl1':((M1.set k a1).flatMap slC).length=n*8:=by rw[Z0 Yo,List.length_set,ml1]
   simp -dsimp -implicitDefEqProofs (disch:=first|with_reducible assumption|omega) [go_sem,idx hcs,VX hu25,hcs0];refine⟨by omega,?_⟩;rw[← hpz,hset0];refine Yn (.tk 0 (.tk 1 (.tk 2 (.tk 4 (.tk 5 (.tk 6 (.tk 7 (.tk 8 (.tk 9 (.tk 11 (.tk 12 (.tk 13 (.tk 15 (.tk 18 (.tk 19 (.tk 20 (.tkl 3 (.tkl 10 (.tkl 14 (.tk 16 (.tkl 17 (.tkl 21 (.o1 22 (.tk 23 (.tk 24 (.tk 25 (.tk 26 (.o2 27 (.tk 28 (.tk 29 (.o2 30 (.fin) (.nil)))) (.nil)))))) (.nil)))))))))))))))))))))))) (by kernel_rfl) (by kernel_rfl) _ (Za.refl _ _) ?_;simp -dsimp -implicitDefEqProofs (disch:=first|with_reducible assumption|omega) [go_sem,w0,w1,w2,w3,r2];refine Zll s.par H.ok H.r (Wc s i) hno (YW s i) hpb ?_;rw[show VK s.par (Wc s i) (YW s i)=Zol s i from rfl];refine xkp (Za.refl _ _) ?_;refine xx ?_;have hsum2:(M2.map fun a=>(sdC a).length).sum=n*4:=by rw[← List.length_flatMap,hfl2]
   have hsum1':((M1.map fun a=>(slC a).length).set k (slC a1).length).sum=n*8:=by
    have:((M1.set k a1).map fun a=>(slC a).length).sum=n*8:=by rw[← List.length_flatMap,hfl1']
    rwa [List.map_set]at this
   have i6:=i5'.part 1 ((Wx s).length-(tkI s k).length) (by omega) (by rw[List.length_drop];exact Nat.le_refl _);rw[List.drop_drop,List.take_of_length_le (by rw[List.length_drop];omega),Nat.sub_sub,← htl1]at i6;refine⟨by omega,by omega,k+1,_,_,⟨by omega,i6⟩,by omega,by simp [Ent,List.lookup,htl1,Nat.sub_sub],?_⟩;rw[hset1,Zxr kl2,← hst1,← hst2,show Vn s i=a2 by rw[Vn,if_pos ct,ha2],show Zat s i=(Zol s i).1 by rw[Zat,if_pos ct]];exact Za.refl _ _
  | false =>
   rw[ct,if_neg (by decide)]at hts;refine xx ?_;refine⟨k+1,qa,qc,⟨by omega,by rw[hts];exact i5⟩,by omega,by simp [Ent,List.lookup,hts],?_⟩;rw[hsm1 (by simp [Vn,ct]),hsm2 (by simp [Zat,ct])];exact Za.refl _ _
 ·obtain rfl:n=k:=by omega
  rw[hn]at hk ⊢;rw[US,US];refine xx ?_;exact ZO (hk h3 le0)
open Go.RowKit Go.Proofs Go.Bl Go.Proofs.Tryz
variable {L:Own} {h:PH} {K:PK}
theorem Yii {s:Zd}(H:SlH s){i:Nat}(hi:i<s.members.length):0≤W8 s i∧W8 s i≤(Wc s i).bal∧(Wc s i).bal≤18446744073709551615∧0≤WQ s.par (W8 s i)∧WQ s.par (W8 s i)≤W8 s i:=by
 have hno:=Zln H hi;have f:=Zli H.ok H.r hno (Ym s);have ub:=hno.u (Wc s i).bal (by simp);have hs:=Z7 H.r;have:=Zvb (p:=s.par) (n:=W8 s i) ⟨f.1,by have:=f.2;unfold W8;omega⟩ (by omega);exact⟨f.1,f.2,ub.2,this.1,this.2.1⟩
theorem Zns {s:Zd}(v:SV)(hs0:Zr h v s)(H:SlH s)(bh bs cs bn cn:Nat)(hcs:(cI s).length≤cs)(hcn:(cI s).length≤cn)
  (hk:K (.tuple #[]) (shB bh s v (Ym s) (Y7 s) (.slice (some ⟨bs,0,none⟩) (cI s).length cs) (.slice (some ⟨bn,0,none⟩) (cI s).length cn)::slB bs cs ((cI s).map (Y6 s))::nwB bn cn ((cI s).map (YI s))::L) h) :
  Zc prog 81 [.pointer (some ⟨bh,0,none⟩)] (shB bh s v (Ym s) (Y7 s) (.slice (some ⟨bs,0,none⟩) (cI s).length cs) (.slice (some ⟨bn,0,none⟩) (cI s).length cn)::slB bs cs ((cI s).map (Vn s))::nwB bn cn ((cI s).map (Zat s))::L) h K:=by
 have hs:=hs0;obtain⟨pa,pc,ma,mc,ea,ec,xa,xc,oa,oc,da,dc,ta,tc,ka,kc,ra,rc,rfl⟩:=hs.slices;have hl:=H.len;have hcl:(cI s).length≤s.members.length:=VW _ _;obtain⟨n,hn⟩:∃n,n=(cI s).length:=⟨_,rfl⟩
 simp only[shB,stC,slB,nwB,List.cons_append,List.nil_append,← hn]at hk hcs hcn ⊢;refine Z3 func81 rfl (rs:=[]) rfl rfl ZW (by kernel_rfl) rfl rfl fun ap nd=>?_;have hbh:h bh=noC:=ap.1;have hbs:h bs=noC:=ap.2.1;have hbn:h bn=noC:=ap.2.2.1;have nsh:bs≠bh:=nd.1.1;have nnh:bn≠bh:=nd.1.2.1;have nns:bn≠bs:=nd.2.1.1;clear ap nd;refine xx ?_;refine YO (γ:=Nat) 0 (fun k=>k≤n) (fun k=>[(12,.int .i64 k),(11,.int .i64 n),(0,.pointer (some ⟨bh,0,none⟩))])
  (fun k=>shB bh s ⟨.slice pa s.purses.length pc,.slice ma s.members.length mc,.slice ea s.entry.length ec,.slice xa s.exit.length xc,.slice oa s.pool.length oc,.slice da s.dues.length dc,.slice ta s.motions.length tc,.slice ka s.marks.length kc,.slice ra s.ring.length rc⟩ (Ym s) (Y7 s) (.slice (some ⟨bs,0,none⟩) n cs) (.slice (some ⟨bn,0,none⟩) n cn)::slB bs cs (VF (Y6 s) (Vn s) (cI s) k)::nwB bn cn (VF (YI s) (Zat s) (cI s) k)::L) (fun _=>h) (fun k=>n-k) ?_ ?_ ?_ ?_
 ·exact Nat.zero_le _
 ·simp [Ent,List.lookup,Wo]
 ·rw[Zcu,Zcu];exact Za.refl _ _
 intro k i1;simp only[shB,stC,slB,nwB,List.cons_append,List.nil_append]at i1 ⊢;by_cases c1:k<n
 ·have c1':k<(cI s).length:=by omega
  obtain⟨i,hi⟩:∃i,i=(cI s)[k]:=⟨_,rfl⟩
  have hil:i<s.members.length:=by rw[hi];exact Zsw c1'
  have gs:gr Yb (VF (Y6 s) (Vn s) (cI s) k) k=Vn s i:=by rw[Jj Yb c1',hi]
  have gn:gr ZQ (VF (YI s) (Zat s) (cI s) k) k=Zat s i:=by rw[Jj ZQ c1',hi]
  have kl1:k<(VF (Y6 s) (Vn s) (cI s) k).length:=by rw[Y8];exact c1'
  have kl2:k<(VF (YI s) (Zat s) (cI s) k).length:=by rw[Y8];exact c1'
  have hst1:=Uj (f:=Y6 s) (g:=Vn s) c1';have hst2:=Uj (f:=YI s) (g:=Zat s) c1';have hsm1:=VR (f:=Y6 s) (g:=Vn s) c1';have hsm2:=VR (f:=YI s) (g:=Zat s) c1';have ml1:(VF (Y6 s) (Vn s) (cI s) k).length=n:=by rw[Y8,hn]
  have ml2:(VF (YI s) (Zat s) (cI s) k).length=n:=by rw[Y8,hn]
  rw[← hi]at hst1 hst2 hsm1 hsm2;have hno:=Zln H hil;have hfb:=Yii H hil
  generalize VF (Y6 s) (Vn s) (cI s) k=M1 at *
  generalize VF (YI s) (Zat s) (cI s) k=M2 at *
  have g1:∀(K:Value→Prop) (t:Zk K),Wz (M1.flatMap slC) (k*8+1) K t=K (.bool (thB s i)):=fun K t=>Z1 Yo Yb _ (m:=1) kl1 (by decide) (by rw[gs];unfold Vn;split<;>rfl) K t;simp -dsimp -implicitDefEqProofs (disch:=first|with_reducible assumption|omega) [go_sem,g1]
  cases ct:thB s i with
  | true =>
   refine xx ?_;refine⟨k+1,by omega,by omega,by simp [Ent,List.lookup],?_⟩;rw[hsm1 (by simp [Y6,Vn,WC,ct]),hsm2 (by simp [YI,Zat,ct])];exact Za.refl _ _
  | false =>
   have en:Zat s i=Wc s i:=by rw[Zat,if_neg (by rw[ct];decide)]
   have es:Vn s i=WC s i:=by rw[Vn,if_neg (by rw[ct];decide)]
   rw[en]at gn;rw[es]at gs;have w0:∀(K:Value→Prop) (t:Zk K),Wz (M2.flatMap sdC) (k*4) K t=K (.int .u64 (Wc s i).bal):=fun K t=>Z1 YQ ZQ _ (m:=0) kl2 (by decide) (by rw[gn];rfl) K t;have w1:∀(K:Value→Prop) (t:Zk K),Wz (M2.flatMap sdC) (k*4+1) K t=K (.int .u64 (Wc s i).eff):=fun K t=>Z1 YQ ZQ _ (m:=1) kl2 (by decide) (by rw[gn];rfl) K t;have w2:∀(K:Value→Prop) (t:Zk K),Wz (M2.flatMap sdC) (k*4+2) K t=K (.int .u64 (Wc s i).score):=fun K t=>Z1 YQ ZQ _ (m:=2) kl2 (by decide) (by rw[gn];rfl) K t;have w3:∀(K:Value→Prop) (t:Zk K),Wz (M2.flatMap sdC) (k*4+3) K t=K (.int .i64 (Wc s i).streak):=fun K t=>Z1 YQ ZQ _ (m:=3) kl2 (by decide) (by rw[gn];rfl) K t;refine xx ?_;refine Yn (.tk 0 (.tk 1 (.tk 2 (.tk 3 (.tk 5 (.tk 6 (.tk 7 (.tk 9 (.tk 12 (.tk 13 (.tk 14 (.tkl 4 (.tkl 8 (.tk 10 (.tkl 11 (.tkl 15 (.o1 16 (.tk 17 (.tk 18 (.tk 19 (.tk 20 (.o1 21 (.o2 22 (.tk 23 (.tk 24 (.fin))) (.nil)) (.nil)))))) (.o1 21 (.o1 16 (.tk 17 (.tk 18 (.tk 19 (.tk 20 (.o2 22 (.tk 23 (.tk 24 (.fin))) (.nil)))))) (.nil)) (.nil))))))))))))))))))) (by kernel_rfl) (by kernel_rfl) _ (Za.refl _ _) ?_;have esum:WQ s.par (W8 s i)+(W8 s i-WQ s.par (W8 s i))=W8 s i:=by omega
   obtain⟨a1,ha1⟩:∃a1:Zq,a1={ WC s i with fine:=W8 s i }:=⟨_,rfl⟩
   have ha2:Y6 s i={ WC s i with fine:=W8 s i,burned:=WQ s.par (W8 s i) }:=by rw[Y6,if_neg (by rw[ct];decide)];simp only[WC,ct]
   have hem:YI s i=Ua s.par (Wc s i) (Ym s):=by rw[YI,if_neg (by rw[ct];decide)];rfl
   have hset0:(M1.flatMap slC).set (k*8+4) (.int .u64 (W8 s i))=(M1.set k a1).flatMap slC:=Yx Yo Yb M1 (m:=4) kl1 (by decide) (by rw[gs,ha1];rfl);have kl1':k<(M1.set k a1).length:=by rw[List.length_set];exact kl1
   have gs':gr Yb (M1.set k a1) k=a1:=by rw[Z8 kl1',List.getElem_set_self]
   have hset1:((M1.set k a1).flatMap slC).set (k*8+5) (.int .u64 (WQ s.par (W8 s i)))=(M1.set k (Y6 s i)).flatMap slC:=by
    rw[Yx Yo Yb (M1.set k a1) (m:=5) kl1' (by decide) (a':=Y6 s i) (by rw[gs',ha1,ha2];rfl),List.set_set]
   have hk8:=Y5 (w:=8) c1 (show 5<8 by decide);have hk4:=Y5 (w:=4) c1 (show 3<4 by decide);have hsum1:(M1.map fun a=>(slC a).length).sum=n*8:=by rw[← List.length_flatMap,Z0 Yo,ml1]
   have hsum2:(M2.map fun a=>(sdC a).length).sum=n*4:=by rw[← List.length_flatMap,Z0 YQ,ml2]
   simp -dsimp -implicitDefEqProofs (disch:=first|with_reducible assumption|omega) [go_sem,w0,w1,w2,w3];refine Y4 ?_ ?_
   ·refine xx ?_;refine Zah s.par H.ok H.r (Wc s i) hno (Ym s) ?_;rw[show YR s.par (Wc s i) (Ym s)=W8 s i from rfl];refine xkp (Za.refl _ _) ?_;refine xx ?_;refine Z2 fun b4 nb4 zb4=>?_;(try simp only[ZT]at nb4);have nb4:bh≠b4∧bs≠b4∧bn≠b4:=⟨nb4.1,nb4.2.1,nb4.2.2.1⟩
    clear nb4;refine xkp (Za.tail _ _ _) ?_;refine xx ?_;refine Yn (.tk 0 (.tk 1 (.tk 2 (.tk 4 (.tk 5 (.tk 6 (.tk 8 (.tk 9 (.tk 10 (.tk 11 (.tkl 3 (.tkl 7 (.tk 12 (.o2 13 (.tk 14 (.tk 15 (.o2 16 (.tk 17 (.tk 18 (.o2 19 (.fin) (.nil)))) (.nil)))) (.nil))))))))))))))) (by kernel_rfl) (by kernel_rfl) _ (Za.refl _ _) ?_;simp -dsimp -implicitDefEqProofs (disch:=first|with_reducible assumption|omega) [go_sem,esum];refine⟨by omega,by omega,by omega,?_⟩;refine⟨k+1,by omega,by omega,by simp [Ent,List.lookup],?_⟩;rw[hset0,hset1,Zxr kl2 (Ua s.par (Wc s i) (Ym s)),← hem,hst1,hst2];exact Za.tail _ _ _
   ·refine xx ?_;refine Z2 fun b4 nb4 zb4=>?_;(try simp only[ZT]at nb4);have nb4:bh≠b4∧bs≠b4∧bn≠b4:=⟨nb4.1,nb4.2.1,nb4.2.2.1⟩
    clear nb4;refine xkp (Za.tail _ _ _) ?_;refine xx ?_;refine Zah s.par H.ok H.r (Wc s i) hno (Ym s) ?_;rw[show YR s.par (Wc s i) (Ym s)=W8 s i from rfl];refine xkp (Za.tail _ _ _) ?_;refine xx ?_;refine Yn (.tk 0 (.tk 1 (.tk 2 (.tk 4 (.tk 5 (.tk 6 (.tk 8 (.tk 9 (.tk 10 (.tk 11 (.tkl 3 (.tkl 7 (.tk 12 (.o2 13 (.tk 14 (.tk 15 (.o2 16 (.tk 17 (.tk 18 (.o2 19 (.fin) (.nil)))) (.nil)))) (.nil))))))))))))))) (by kernel_rfl) (by kernel_rfl) _ (Za.refl _ _) ?_;simp -dsimp -implicitDefEqProofs (disch:=first|with_reducible assumption|omega) [go_sem,esum];refine⟨by omega,by omega,by omega,?_⟩;refine⟨k+1,by omega,by omega,by simp [Ent,List.lookup],?_⟩;rw[hset0,hset1,Zxr kl2 (Ua s.par (Wc s i) (Ym s)),← hem,hst1,hst2];exact Za.tail _ _ _
 ·obtain rfl:n=k:=by omega
  rw[hn]at hk ⊢;rw[US,US];refine xx ?_;exact ZO hk
end Go.X
