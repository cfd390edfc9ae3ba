/- Lemmas and contracts. Conditions: as each says. -/
import Derived.Test.YtpdidilobgimcaaGreatQ20
import Derived.Test.YtpdidilobgimcaaGreatQ21
import Derived.Test.YtpdidilobgimcaaGreatQ22
set_option linter.unusedVariables false
set_option linter.unusedSimpArgs false
set_option maxHeartbeats 12800000
set_option maxRecDepth 20000
namespace Go.X
open Go.RowKit Go.Proofs Go.Bl Go.Proofs.Tryz
section
variable {P:Program}
theorem Zpm {t ty e sz:Nat}{ti:TI}(ht:P.underlying t=some (.slice e))(hti:tI P e=some ti)(hz1:ti.size=sz){L:Own}{h:PH}{K:PK}{b o n cap m c:Nat}{a:Addr}{news:List Value}
  (hroom:n+m≤cap) (hs:∀W,Zk L h W→∀(j:Nat) u,news[j]?=some u→W.cell? (a.add j)=some u) (hnl:news.length=m*sz) (hk:GS L b (o+n*sz) news fun L'=>K (.slice (some ⟨b,o,none⟩) (n+m) cap) L' h) :
  Zeg P (Builtin.append_ #[t,t] ty #[.slice (some ⟨b,o,none⟩) n cap,.slice (some a) m c]) L h K:=by
 intro W hg;obtain⟨L',W',hK,hrun,hgd,hkp,hmm,hbm⟩:=W5 (P:=P) hg hk;obtain⟨i,d,zv,g1,g2,g3,rfl⟩:=WP hti;simp only at hz1;refine⟨.slice (some ⟨b,o,none⟩) (n+m) cap,L',h,W',?_,hK,⟨hgd,Zu.mono hkp (fun x hx=>by simp at hx;subst hx;exact hbm),fun x hx=>Or.inl (by rw[← hmm];exact List.mem_map_of_mem hx)⟩⟩;have hfc:=run_firstCells_some (P:=P) W i.size m a m c news (by rw[hnl,hz1]) (hs W hg);rw[hz1]at hfc;simp [Builtin.append_,run_underlying ht,sizeOf,typeInfo,g1,hz1,Builtin.lenOf,hroom,hfc,Addr.add_lit,hrun]
theorem Zii {T e sz by':Nat}(hT:tSh P T = .sl e sz by')(a:Option Addr)(n c:Nat)(k l q:IntKind)(i j m:Int)(h0:0≤i)(h1:i≤j)(h2:j≤m)(h3:m≤(c:Int))(K:Value→Prop):xSl P T (.slice a n c) (some (.int k i)) (some (.int l j)) (some (.int q m)) K=K (.slice (Jf a m.toNat i.toNat sz) (j.toNat-i.toNat) (m.toNat-i.toNat)):=by
 unfold tSh at hT;split at hT
 ·rename_i e' hu;split at hT
  ·rename_i ii hi;refine Yg (fun W=>?_) K;injection hT with hT1 hT2 hT3
   subst hT2;have h4:0≤j:=by omega
   have h5:0≤m:=by omega
   have h6:i≤(j.toNat:Int):=by omega
   have h7:j≤(m.toNat:Int):=by omega
   have h8:m.toNat≤c:=by omega
   have h9:j≤max m 0:=by omega
   have h10:i≤max j 0:=by omega
   simp [Instr.sliceAt,Instr.slice,Instr.sliceBounds,Instr.sliceBound,asIntOf,underlying,hu,YR hi,h0,h1,h2,h3,h4,h5,h6,h7,h8,h9,h10,Jf]
   try (intro hh;omega)
  ·cases hT
 ·split at hT<;>cases hT
 ·cases hT
end
variable {L:Own} {h:PH} {K:PK}
theorem Yhh:tSh prog 27 = .sl 3 1 8:=by kernel_rfl
theorem Src.part {b t m c cap i:Nat}{xs:List Value}(hm:(⟨b,t,xs,cap⟩:Zl)∈L)(hT:t≠4294967295:=by first|decide|omega):Src L h (.slice (some ⟨b,i,none⟩) m c) m ((xs.drop i).take m) :=
 Or.inr ⟨_,_,rfl,fun W hg j u hj=>JG hg hm hT (by
  rw[List.getElem?_take]at hj;split at hj
  ·rwa [List.getElem?_drop]at hj
  ·cases hj)⟩
theorem fI_at {xs:List Int}{x:Int}{k:Nat}(hk:k<xs.length)(h1:at0 xs k=x)(h2:∀j,j<k→at0 xs j≠x):fI xs x=k:=by
 have:=JC (q:=fun k=>decide (at0 xs k=x)) (m:=xs.length) (k:=0) (r:=k) (Nat.zero_le _) (by omega) (fun j _ hj=>by simpa using h2 j hj) (fun _=>by simpa using h1);rw[fI,this,if_neg (by omega)]
theorem fI_no {xs:List Int}{x:Int}(h2:∀j,j<xs.length→at0 xs j≠x):fI xs x = -1:=by
 have:=(Ybj xs x).1;have n:¬x∈xs:=fun hx=>by
  obtain⟨j,hj,e⟩:=List.mem_iff_getElem.1 hx;exact h2 j hj (by rw[← Yi hj,e])
 unfold fI at *;split
 ·rfl
 ·rename_i c;rw[if_neg c]at this;exact absurd (this (by omega)) n
theorem Zoq {xs:List Int}{b cap:Nat}(x:Int)(hl:xs.length≤1000):Zb prog 340 [.slice (some ⟨b,0,none⟩) xs.length cap,.int .i64 x] [⟨b,3,xs.map (.int .i64),cap⟩] h fun v L' h'=>v = .int .i64 (fI xs x)∧L'=[⟨b,3,xs.map (.int .i64),cap⟩]∧h'=h:=by
 refine Z6 func340 rfl (rs:=[_]) rfl rfl ZW (by kernel_rfl) rfl rfl fun ap nd=>?_;have hn:h b=noC:=ap.1;clear ap nd;refine xx ?_;refine Wv (0:Nat) (fun k=>k≤xs.length∧∀j,j<k→at0 xs j≠x) (fun k=>[(8,.int .i64 k),(7,.int .i64 xs.length),(0,.slice (some ⟨b,0,none⟩) xs.length cap),(1,.int .i64 x)]) (fun k=>xs.length-k) ?_ ?_ ?_
 ·exact⟨Nat.zero_le _,fun j hj=>by omega⟩
 ·simp [Ent,List.lookup,Wc]
 rintro k ⟨k1,k2⟩;by_cases c1:k<xs.length
 ·by_cases c2:x=at0 xs k
  ·have e:=fI_at c1 c2.symm k2;simp -dsimp -implicitDefEqProofs (disch:=first|with_reducible assumption|omega) [go_sem,Vy];exact ZP ⟨by rw[e],rfl,rfl⟩
  ·simp -dsimp -implicitDefEqProofs (disch:=first|with_reducible assumption|omega) [go_sem,Vy];refine⟨k+1,⟨by omega,fun j hj=>?_⟩,by omega,by simp [Ent,List.lookup],Za.refl _ _⟩;by_cases e:j=k
   ·subst e;exact fun e=>c2 e.symm
   ·exact k2 j (by omega)
 ·have e:=fI_no (xs:=xs) (x:=x) fun j hj=>k2 j (by omega);refine xx ?_;exact ZP ⟨by rw[e],rfl,rfl⟩
theorem Znc {xs:List Int}(o:Option (Nat×Nat))(ho:okO o xs.length)(hl:xs.length≤1000)(x:Int)(hx : -9223372036854775808≤x∧x≤9223372036854775807)(hm:∀b c,o=some (b,c)→(⟨b,3,xs.map (.int .i64),c⟩:Zl)∈L)(hk:K (.int .i64 (fI xs x)) L h) :
  Zb prog 340 [ovs o xs.length,.int .i64 x] L h K:=by
 cases o with
 | none =>
  have h0:xs.length=0:=ho;have h1:=List.length_eq_zero_iff.1 h0;subst h1;refine Zgh (zs:=[]) _ x (YX h .i64) hx fun i i1 i2 i3=>?_;have:i = -1:=by
   have:¬ 0≤i:=fun hi=>by have:=i3.1 hi;cases this
   omega
  rw[this];exact hk
 | some p=>exact Zb.frame1 (hm p.1 p.2 rfl) (Zoq x hl) hk
def Zip (xs:List Int)(i j:Nat):List Int:=xs.take i++xs.drop j
theorem Zxs {xs:List Int}{i j:Nat}(hij:i≤j)(hj:j≤xs.length):(Zip xs i j).length=xs.length-(j-i):=by simp [Zip];omega
theorem Zmd {xs:List Int}(o:Option (Nat×Nat))(ho:okO o xs.length)(hl:xs.length≤1000)(i j:Nat)(hij:i≤j)(hj:j≤xs.length)
  (hk:K (ovs o (Zip xs i j).length) (oent 3 1 o ((Zip xs i j).map (.int .i64)) L) h) :
  Zb prog 283 [ovs o xs.length,.int .i64 i,.int .i64 j] (oent 3 1 o (xs.map (.int .i64)) L) h K:=by
 have hd:=Zxs hij hj
 cases o with
 | none =>
  have h0:xs.length=0:=ho;have h1:=List.length_eq_zero_iff.1 h0;subst h1;have i0:i=0:=by simp at hj;omega
  have j0:j=0:=by simpa using hj
  subst i0;subst j0;simp only[ovs,oent]at hk ⊢;refine ZT func283 rfl (rs:=[_]) rfl rfl ZW (by kernel_rfl) rfl rfl ?_;simp -dsimp -implicitDefEqProofs (disch:=first|with_reducible assumption|omega) [go_sem,Zii Yhh];exact ZP hk
 | some p =>
  obtain⟨b,cap⟩:=p;have hcap:xs.length≤cap:=ho.1;simp only[YE,Ya,Nat.mul_one]at hk ⊢;refine Z6 func283 rfl (rs:=[_]) rfl rfl ZW (by kernel_rfl) rfl rfl fun ap nd=>?_;have hn:h b=noC:=ap.1;clear ap nd;by_cases c1:i=j
  ·subst c1;have e:Zip xs i i=xs:=List.take_append_drop i xs;rw[e]at hk;simp -dsimp -implicitDefEqProofs (disch:=first|with_reducible assumption|omega) [go_sem,Zii Yhh];exact ZP hk
  ·simp -dsimp -implicitDefEqProofs (disch:=first|with_reducible assumption|omega) [go_sem,Zii Yhh];refine Yn (.tk 0 (.tk 1 (.tk 2 (.tk 3 (.tk 4 (.tk 5 (.o1 6 (.tk 7 (.fin)) (.nil)))))))) (by kernel_rfl) (by kernel_rfl) L (Za.tail _ _ _) ?_;simp -dsimp -implicitDefEqProofs (disch:=first|with_reducible assumption|omega) [go_sem,V7 Yhh];obtain⟨q,hq,hqj⟩:∃q,Jf (some ⟨b,0,none⟩) cap j 1=some ⟨b,q,none⟩∧(j<xs.length→q=j):=by
    unfold Jf;split
    ·exact⟨0,rfl,fun x=>by omega⟩
    ·exact⟨j,by simp [Addr.add];omega,fun _=>rfl⟩
   rw[hq];obtain⟨n,hn2⟩:∃n,n=xs.length:=⟨_,rfl⟩
   refine Zpm (e:=3) (sz:=1) (by kernel_rfl) Zbr rfl (n:=i) (m:=xs.length-j) (news:=(xs.drop j).map (Value.int .i64)) (by omega) (fun W hg m u hu=>?_) (by simp) ?_
   ·by_cases cj:j<xs.length
    ·rw[hqj cj];refine JG hg (b:=b) (o:=j) List.mem_cons_self (by decide) ?_
     rwa [List.map_drop,List.getElem?_drop]at hu
    ·rw[List.drop_eq_nil_of_le (by omega)]at hu
     cases hu
   refine xx ?_
   refine⟨by omega,fun z hz=>by
    rw[← List.map_drop]at hz;obtain⟨w,_,rfl⟩:=List.mem_map.1 hz
    rfl,?_⟩
   refine xkp (Za.tail _ _ _) ?_;have hcut:Jf (some ⟨b,0,none⟩) cap (i+(xs.length-j)) 1=some ⟨b,i+(xs.length-j),none⟩:=by
    unfold Jf;rw[if_neg (by omega)];simp [Addr.add]
    try (intro e;omega)
   have e4:((i:Int)+((xs.length-j:Nat):Int)).toNat=i+(xs.length-j):=by omega
   simp -dsimp -implicitDefEqProofs (disch:=first|with_reducible assumption|omega) [go_sem,Zdw Yhh,e4,hcut];refine Ycw (by kernel_rfl) Zbr rfl (by omega) ?_;refine xx ?_;have hwl:(wr (xs.map (Value.int .i64)) i ((xs.drop j).map (Value.int .i64)))=(xs.take i++xs.drop j++xs.drop (i+(xs.length-j))).map (Value.int .i64):=by
    rw[Jl _ _ _ (by simp;omega)];simp [List.map_drop,List.map_take]
   rw[← List.map_drop,hwl];refine⟨by simp;omega,?_⟩;have e3:=GC b 3 cap (i+(xs.length-j)) (wr ((xs.take i++xs.drop j++xs.drop (i+(xs.length-j))).map (Value.int .i64)) (i+(xs.length-j)) (List.replicate (xs.length-(i+(xs.length-j))) (Value.int .i64 0))) L h;have e2:(wr ((xs.take i++xs.drop j++xs.drop (i+(xs.length-j))).map (Value.int .i64)) (i+(xs.length-j)) (List.replicate (xs.length-(i+(xs.length-j))) (Value.int .i64 0))).take (i+(xs.length-j))=(Zip xs i j).map (.int .i64):=by
    have hL:(Zip xs i j).length=i+(xs.length-j):=by omega
    rw[Jl _ _ _ (by simp;omega),List.append_assoc,List.take_append_of_le_length (by simp;omega),List.take_take,Nat.min_self,← List.map_take]
    congr 1
    rw[show xs.take i++xs.drop j=Zip xs i j from rfl,List.take_append_of_le_length (by omega),List.take_of_length_le (by omega)]
   rw[e2]at e3;rw[show (Zip xs i j).length=i+(xs.length-j) by omega]at hk;exact⟨_,_,e3,hk⟩
abbrev lnB (bl:Nat)(o:Option (Nat×Nat))(n:Nat):Zl:=⟨bl,220,[ovs o n],1⟩
abbrev lnL (o:Option (Nat×Nat))(xs:List Int)(L:Own):Own:=oent 3 1 o (xs.map (.int .i64)) L
theorem Zqv {xs:List Int}{bl:Nat}(o:Option (Nat×Nat))(ho:okO o xs.length)(hl:xs.length≤1000)(x:Int)(hx : -9223372036854775808≤x∧x≤9223372036854775807)
  (hk:K (.int .i64 (fI xs x)) (lnB bl o xs.length::lnL o xs L) h):Zb prog 282 [.pointer (some ⟨bl,0,none⟩),.int .i64 x] (lnB bl o xs.length::lnL o xs L) h K:=by
 refine Z6 func282 rfl (rs:=[_]) rfl rfl ZW (by kernel_rfl) rfl rfl fun ap nd=>?_;have hb:h bl=noC:=ap.1;clear ap nd;refine xx ?_;refine Znc o ho hl x hx (fun b c e=>?_) ?_
 ·subst e;simp [oent]
 refine xx ?_;exact ZP hk
theorem Ypm (b cap i n:Nat)(hi:i≤n)(hc:n≤cap):∃q,Jf (some ⟨b,0,none⟩) cap i 1=some ⟨b,q,none⟩∧(i<n→q=i):=by
 unfold Jf;split
 ·exact⟨0,rfl,fun x=>by omega⟩
 ·exact⟨i,by simp [Addr.add];try omega,fun _=>rfl⟩
theorem Yal {xs:List Int}{bl:Nat}(o:Option (Nat×Nat))(ho:okO o xs.length)(hl:xs.length≤1000)(i j:Nat)(hij:i≤j)(hj:j≤xs.length)(hr:∀z∈xs,-9223372036854775808≤z∧z≤9223372036854775807)
  (hk:∀h' r,PH.le h h'→Ints h' .i64 r ((xs.drop i).take (j-i))→K r (lnB bl o (Zip xs i j).length::lnL o (Zip xs i j) L) h') :
  Zb prog 163 [.pointer (some ⟨bl,0,none⟩),.int .i64 i,.int .i64 j] (lnB bl o xs.length::lnL o xs L) h K:=by
 cases o with
 | none =>
  have h0:xs.length=0:=ho;have h1:=List.length_eq_zero_iff.1 h0;subst h1;have i0:i=0:=by simp at hj;omega
  have j0:j=0:=by simpa using hj
  subst i0;subst j0;have hk:=hk h (.slice none 0 0) (PH.le_refl h) (YX h .i64);simp only[ovs,oent,lnB,lnL]at hk ⊢;refine Z6 func163 rfl (rs:=[_]) rfl rfl ZW (by kernel_rfl) rfl rfl fun ap nd=>?_;have hb:h bl=noC:=ap.1;clear ap nd;simp -dsimp -implicitDefEqProofs (disch:=first|with_reducible assumption|omega) [go_sem,Zdw Yhh,Jf];refine Z3 (t:=27) (e:=3) (sz:=1) (bytes:=8) (z:=[.int .i64 0]) (by kernel_rfl) Zbr rfl rfl rfl rfl (by decide) [] _ none 0 [] rfl rfl (Or.inl ⟨rfl,rfl,rfl⟩) (m:=0) (news:=[]) rfl (fun u hu=>by cases hu) (by decide) (by omega) ?_;intro o1 j1 j2 j3;obtain rfl:o1=none:=j3.2 ⟨rfl,rfl⟩;simp only[ovs,oent,List.nil_append];refine xx ?_;have key:∀ {K':PK} {L':Own},K' (.slice none 0 0) L' h→Zb prog 283 [.slice none 0 0,.int .i64 0,.int .i64 0] L' h K':=fun {K' L'} hK =>
   Zmd (xs:=[]) none ho hl 0 0 (Nat.le_refl _) (Nat.le_refl _) hK
  refine key ?_;refine xx ?_;exact ZP hk
 | some p =>
  obtain⟨b,cap⟩:=p;have hcap:xs.length≤cap:=ho.1;simp only[YE,Ya,Nat.mul_one,lnB,lnL]at hk ⊢;refine Z6 func163 rfl (rs:=[_]) rfl rfl ZW (by kernel_rfl) rfl rfl fun ap nd=>?_;have hb:h bl=noC:=ap.1;have hbb:bl≠b:=fun e=>nd.1.1 e.symm;clear ap nd;simp -dsimp -implicitDefEqProofs (disch:=first|with_reducible assumption|omega) [go_sem,Zdw Yhh];obtain⟨q,hq,hqi⟩:=Ypm b cap i xs.length (by omega) hcap;rw[hq];have hd:(xs.drop q).take (j-i)=(xs.drop i).take (j-i):=by
   by_cases c:i<xs.length
   ·rw[hqi c]
   ·rw[show j-i=0 by omega];simp
  refine Z3 (t:=27) (e:=3) (sz:=1) (bytes:=8) (z:=[.int .i64 0]) (by kernel_rfl) Zbr rfl rfl rfl rfl (by decide) [] _ none 0 [] rfl rfl (Src.part (b:=b) (t:=3) (i:=q) (xs:=xs.map (.int .i64)) (List.mem_cons_of_mem _ List.mem_cons_self)) (m:=j-i) (by simp;omega) (fun u hu=>?_) (by simp [maxLen];omega) (by omega) ?_
  ·have:=List.mem_of_mem_drop (List.mem_of_mem_take hu);obtain⟨w,_,rfl⟩:=List.mem_map.1 this
   rfl
  intro o1 j1 j2 j3;rw[← List.map_drop,← List.map_take,hd];simp only[List.nil_append,Nat.zero_add]at j1 j2 ⊢;have m1:apB o1 bl:=j2.head;simp -dsimp -implicitDefEqProofs (disch:=first|with_reducible assumption|omega) [go_sem,ZQ m1];refine VO (n:=j-i) j1 (by simp;omega) (by omega) j2 fun h1 le1 sl=>?_;refine Zdg ?_;have key:∀ {K':PK} {L':Own},K' (.slice (some ⟨b,0,none⟩) (Zip xs i j).length cap) (⟨b,3,(Zip xs i j).map (.int .i64),cap⟩::L') h1→Zb prog 283 [.slice (some ⟨b,0,none⟩) xs.length cap,.int .i64 i,.int .i64 j] (⟨b,3,xs.map (.int .i64),cap⟩::L') h1 K':=fun {K' L'} hK=>by
   have:=Zmd (L:=L') (h:=h1) (K:=K') (some (b,cap)) ho hl i j hij hj (by simpa only[YE,Ya,Nat.mul_one] using hK)
   simpa only[YE,Ya,Nat.mul_one] using this
  refine Zb.ap (key fun ap=>?_);simp only[Ap]at ap;obtain⟨ab,abl,_⟩:=ap;have il:Ints h1 .i64 (ovs o1 (j-i)) ((xs.drop i).take (j-i)):=by
   refine⟨?_,fun z hz=>hr z (List.mem_of_mem_drop (List.mem_of_mem_take hz))⟩;have:((xs.drop i).take (j-i)).length=j-i:=by simp;omega
   rw[this,List.map_take,List.map_drop];exact sl
  obtain⟨x1,y1,e1,_⟩:=Z9 j1;rw[e1]at il ⊢;refine xx ?_;exact Zyj (List.Perm.swap _ _ _) (ZP (hk h1 _ le1 il))
theorem Zyd {xs:List Int}{bl:Nat}(o:Option (Nat×Nat))(ho:okO o xs.length)(hl:xs.length≤1000)(m:Int)(hm:0≤m∧m≤9223372036854775807)(hr:∀z∈xs,-9223372036854775808≤z∧z≤9223372036854775807)
  (hk:∀h' r,PH.le h h'→Ints h' .i64 r (xs.take m.toNat)→K r (lnB bl o (xs.drop m.toNat).length::lnL o (xs.drop m.toNat) L) h') :
  Zb prog 56 [.pointer (some ⟨bl,0,none⟩),.int .i64 m] (lnB bl o xs.length::lnL o xs L) h K:=by
 obtain⟨a,c,ea,hac⟩:=Z9 ho;have e:max 0 (min m xs.length)=((min m.toNat xs.length:Nat):Int):=by omega
 have e2:Zip xs 0 (min m.toNat xs.length)=xs.drop m.toNat:=by
  simp only[Zip,List.take_zero,List.nil_append];by_cases c:m.toNat≤xs.length
  ·rw[Nat.min_eq_left c]
  ·rw[Nat.min_eq_right (by omega),List.drop_length,List.drop_eq_nil_of_le (by omega)]
 have e3:(xs.drop 0).take (min m.toNat xs.length-0)=xs.take m.toNat:=by
  rw[List.drop_zero,Nat.sub_zero];by_cases c:m.toNat≤xs.length
  ·rw[Nat.min_eq_left c]
  ·rw[Nat.min_eq_right (by omega),List.take_length,List.take_of_length_le (by omega)]
 refine Z6 func56 rfl (rs:=[_]) rfl rfl ZW (by kernel_rfl) rfl rfl fun ap nd=>?_;have hb:h bl=noC:=ap.1;clear ap nd;refine xx ?_;refine xany (.tk 0 (.tk 1 (.tk 2 (.tk 3 (.tk 4 (.tk 5 (.tk 6 (.tk 7 (.o1 8 (.tk 9 (.o1 10 (.o1 11 (.o1 12 (.tk 13 (.fin)) (.nil)) (.nil)) (.nil))) (.nil)))))))))) (by kernel_rfl) (by kernel_rfl) ?_;refine xx ?_;rw[ea];simp -dsimp -implicitDefEqProofs (disch:=first|with_reducible assumption|omega) [go_sem,YQ,e];rw[← ea];refine Yal o ho hl 0 (min m.toNat xs.length) (by omega) (by omega) hr fun h1 r1 le1 i1=>?_;rw[e3]at i1;rw[e2];obtain⟨ra,rc,rfl,_⟩:=i1.open;refine xx ?_;have hk:=hk h1 _ le1 i1;rw[List.length_drop,List.length_take]at hk;exact ZP hk
theorem Zul {xs:List Int}{bl:Nat}(o:Option (Nat×Nat))(ho:okO o xs.length)(hl:xs.length<256)(x:Int)(hx:0≤x∧x≤9223372036854775807)(hn:¬x∈xs)
  (hk:∀o',okO o' (xs++[x]).length→K (.int .i64 0) (lnB bl o' (xs++[x]).length::lnL o' (xs++[x]) L) h) :
  Zb prog 162 [.pointer (some ⟨bl,0,none⟩),.int .i64 x] (lnB bl o xs.length::lnL o xs L) h K:=by
 obtain⟨a,c,ea,hac⟩:=Z9 ho;have hf:fI xs x<0:=Int.not_le.1 fun c=>hn ((Ybj xs x).1 c);refine Z6 func162 rfl (rs:=[_]) rfl rfl ZW (by kernel_rfl) rfl rfl fun ap nd=>?_;have hb:h bl=noC:=ap.1;have hbo:apB o bl:=by
  cases o with
  | none=>trivial
  | some p=>exact nd.1.1
 clear ap nd;refine xx ?_;refine Zqv o ho (by omega) x (by omega) ?_;refine xx ?_;rw[ea];refine xx ?_;refine Z1 fun b1 nb1 zb1=>?_;(try simp only[ZU]at nb1);refine xx ?_;rw[← ea];refine Z3 (t:=27) (e:=3) (sz:=1) (bytes:=8) (z:=[.int .i64 0]) (by kernel_rfl) Zbr rfl rfl rfl rfl (by decide) [_,_] L o xs.length (xs.map (.int .i64)) ho (by simp) (Src.own List.mem_cons_self) (m:=1) (news:=[.int .i64 x]) rfl (fun u hu=>by simp at hu;subst hu;rfl) (by simp [maxLen];omega) (by omega) ?_;intro o' j1 j2 j3;have hk:=hk o' (by simpa using j1);simp only[lnB,lnL,List.length_append,List.length_singleton,List.map_append,List.map_cons,List.map_nil]at hk;refine xx ?_;exact ZO (ZP hk)
theorem Zyl {es:List (Int×Value)}{n:Int}{v:Value}(hn:Zxb es n=none):Zxy es n v=es++[(n,v)]:=by
 induction es with
 | nil=>rfl
 | cons e es ih =>
  simp only[Zxb]at hn;split at hn
  ·cases hn
  ·rename_i c;rw[Zxy,if_neg c,ih hn];rfl
def Yiz (xs:List Int):List (Int×Value):=xs.map fun x=>(x,.bool true)
theorem Yan {xs:List Int}{x:Int}(hn:¬x∈xs):Zxb (Yiz xs) x=none:=by
 induction xs with
 | nil=>rfl
 | cons a l ih =>
  simp only[List.mem_cons,not_or]at hn;simp only[Yiz,List.map_cons,Zxb];rw[if_neg hn.1];exact ih hn.2
theorem mapB:prog.underlying 221=some (.map 3 4):=by kernel_rfl
theorem intB:prog.underlying 3=some (.int .i64):=by kernel_rfl
theorem zeroB (W:World):(zeroValue 4:Sem Value).run prog W = .ok (.bool false) W:=by kernel_rfl
theorem Zyt {xs:List Int}(v:Value)(hv:Ints h .i64 v xs)(hl:xs.length≤256)(h0:∀z∈xs,0≤z)(hn:xs.Nodup)
  (hk:∀bl o,ZU bl L→h bl=noC→okO o xs.length→K (.tuple #[.pointer (some ⟨bl,0,none⟩),.int .i64 0]) (lnB bl o xs.length::lnL o xs L) h) :
  Zb prog 53 [v] L h K:=by
 have hnum:=hv.num;obtain⟨a,c,rfl,hcap,hln,_,hcs⟩:=hv.open;have hpos:∀k,k<xs.length→0≤at0 xs k:=fun k hk=>by rw[← Yi hk];exact h0 _ (List.getElem_mem hk)
 refine ZT func53 rfl (rs:=[_,_]) rfl rfl ZW (by kernel_rfl) rfl rfl ?_;refine xx ?_;refine Z1 fun bl n_bl h_bl=>?_;(try simp only[ZU]at n_bl);refine xx ?_;refine Wv (0:Nat) (fun k=>k≤xs.length) (fun k=>[(17,.int .i64 k),(16,.int .i64 xs.length),(15,.slice a xs.length c),(0,.slice a xs.length c),(4,.pointer (some ⟨bl,0,none⟩))]) (fun k=>xs.length-k) ?_ ?_ ?_
 ·exact Nat.zero_le _
 ·simp [Ent,List.lookup,Wc]
 intro k hk1;by_cases c1:k<xs.length
 ·have hp:=hpos k c1;simp -dsimp -implicitDefEqProofs (disch:=first|with_reducible assumption|omega) [go_sem,idx hcs];exact⟨k+1,by omega,by omega,by simp [Ent,List.lookup],Za.refl _ _⟩
 obtain rfl:k=xs.length:=by omega
 clear c1 hk1;refine xx ?_;refine Zwk fun bm n_bm h_bm=>?_;have hmb:bl≠bm:=n_bm.1;have hnot:∀k,k<xs.length→¬at0 xs k∈xs.take k:=fun k hk hm=>by
  obtain⟨j,hj,e⟩:=List.mem_iff_getElem.1 hm;simp only[List.length_take]at hj;rw[List.getElem_take,← Yi hk]at e;exact(List.pairwise_iff_getElem.1 hn) j k (by omega) hk (by omega) e
 have htk:∀k,k<xs.length→xs.take (k+1)=xs.take k++[at0 xs k]:=fun k hk=>by rw[List.take_succ_eq_append_getElem hk,Yi hk]
 refine xx ?_;refine YP (γ:=Nat) 0 (fun k=>k≤xs.length) (fun k=>[(27,.int .i64 k),(26,.int .i64 xs.length),(25,.slice a xs.length c),(0,.slice a xs.length c),(4,.pointer (some ⟨bl,0,none⟩)),(7,.map (some bm))])
  (fun k=>⟨bm,4294967295,Znl .i64 (Yiz (xs.take k)),0⟩::⟨bl,220,[.slice none 0 0],1⟩::L) (fun _=>h) (fun k=>xs.length-k) ?_ ?_ ?_ ?_
 ·exact Nat.zero_le _
 ·simp [Ent,List.lookup]
 ·exact Za.refl _ _
 intro k hk1;by_cases c1:k<xs.length
 ·have hg:=Yan (hnot k c1);simp -dsimp -implicitDefEqProofs (disch:=first|with_reducible assumption|omega) [go_sem,idx hcs];refine Ztd mapB intB zeroB (Yiz (xs.take k)) List.mem_cons_self ?_;rw[hg];refine xx ?_;refine Zsl mapB intB [] _ (Yiz (xs.take k)) ?_;rw[Zyl hg];refine xx ?_;refine⟨k+1,by omega,by omega,by simp [Ent,List.lookup],?_⟩;rw[htk k c1];simp only[Yiz,List.map_append,List.map_cons,List.map_nil,List.nil_append];exact Za.refl _ _
 obtain rfl:k=xs.length:=by omega
 clear c1 hk1;refine xx ?_;refine YP (γ:=Nat×Option (Nat×Nat)) (0,none) (fun s=>s.1≤xs.length∧okO s.2 s.1) (fun s=>[(39,.int .i64 s.1),(38,.int .i64 xs.length),(37,.slice a xs.length c),(4,.pointer (some ⟨bl,0,none⟩))])
  (fun s=>lnB bl s.2 s.1::lnL s.2 (xs.take s.1) L) (fun _=>h) (fun s=>xs.length-s.1) ?_ ?_ ?_ ?_
 ·exact⟨Nat.zero_le _,rfl⟩
 ·simp [Ent,List.lookup]
 ·exact Za.tail _ _ _
 rintro⟨k,o⟩ ⟨k1,k2⟩;simp only at k1 k2 ⊢;by_cases c1:k<xs.length
 ·have hp:=hpos k c1;have hq:=hnum k;have hlen:(xs.take k).length=k:=by rw[List.length_take];omega
  simp -dsimp -implicitDefEqProofs (disch:=first|with_reducible assumption|omega) [go_sem,idx hcs];have key:∀ {K':PK},(∀o',okO o' (k+1)→K' (.int .i64 0) (lnB bl o' (k+1)::lnL o' (xs.take (k+1)) L) h)→Zb prog 162 [.pointer (some ⟨bl,0,none⟩),.int .i64 (at0 xs k)] (lnB bl o k::lnL o (xs.take k) L) h K':=fun {K'} hK=>by
   have:=Zul (L:=L) (h:=h) (K:=K') (xs:=xs.take k) (bl:=bl) o (by rw[hlen];exact k2) (by omega) (at0 xs k) (by omega) (hnot k c1) fun o' h'=>by
    rw[← htk k c1]at h' ⊢;have e:(xs.take (k+1)).length=k+1:=by rw[List.length_take];omega
    rw[e]at h' ⊢;exact hK o' h'
   rwa [hlen]at this
  refine key fun o' j1=>?_;refine xx ?_;exact⟨k+1,o',⟨by omega,j1⟩,by omega,by simp [Ent,List.lookup],Za.refl _ _⟩
 ·obtain rfl:k=xs.length:=by omega
  rw[List.take_length];refine xx ?_;exact ZP (hk bl o n_bl h_bl k2)
open Go.RowKit Go.Proofs Go.Bl Go.Proofs.Tryz
def Gi (m:Zc):Bool:=decide (m.status=2∨m.status=3)
def cP (l:List Zc)(i:Nat):List Nat:=(List.range i).filter fun j=>Gi (gr ZR l j)
theorem Zhr (l:List Zc)(i:Nat):cP l (i+1)=if Gi (gr ZR l i) then cP l i++[i] else cP l i:=by
 unfold cP;rw[List.range_succ,List.filter_append];by_cases c:Gi (gr ZR l i)=true
 ·simp [c]
 ·simp [c]
theorem Ysm {l:List Zc}{i j:Nat}(hj:j∈cP l i):j<i:=by
 unfold cP at hj;exact List.mem_range.1 (List.mem_filter.1 hj).1
theorem Zch (l:List Zc)(i:Nat):(cP l i).length≤i:=by
 have:=List.length_filter_le (fun j=>Gi (gr ZR l j)) (List.range i)
 rwa [List.length_range]at this
theorem Yqh {l:List Zc}{i j:Nat}(hj:j∈cP l i):Gi (gr ZR l j)=true:=by
 unfold cP at hj;exact(List.mem_filter.1 hj).2
def thI (l:List Zc)(ks:List Int)(i:Nat):List Nat:=(cP l i).filter fun(j:Nat)=>W4 ks j
theorem Zap (l:List Zc)(ks:List Int)(i:Nat):(thI l ks i).length≤i:=Nat.le_trans (List.length_filter_le _ _) (Zch l i)
theorem Gl (l:List Zc)(ks:List Int)(i:Nat):thI l ks (i+1)=if Gi (gr ZR l i)&&W4 ks i then thI l ks i++[i] else thI l ks i:=by
 unfold thI;rw[Zhr];by_cases c:Gi (gr ZR l i)=true
 ·by_cases c2:W4 ks i=true
  ·simp [c,c2]
  ·simp [c,c2]
 ·simp [c]
def Zht (l:List Zc)(i:Nat):Int:=(gr ZR l i).eff
def GZ (l:List Zc):Int:=tot ((cP l l.length).map (Zht l))
def Zan (l:List Zc)(ks:List Int):Int:=tot ((thI l ks l.length).map (Zht l))
theorem WE (x:Int)(xs:List Int):tot (x::xs)=x+tot xs:=by
 have:∀k,YD (x::xs) (k+1)=x+YD xs k:=fun k=>by
  induction k with
  | zero=>simp [YD,at0]
  | succ k ih=>rw[YD,ih,YD];simp only[at0,List.getD_cons_succ];omega
 exact this xs.length
theorem Zbk {α:Type}(f:α→Int)(q:α→Bool):∀(xs:List α),(∀x∈xs,0≤f x)→0≤tot ((xs.filter q).map f)∧tot ((xs.filter q).map f)≤tot (xs.map f)
 | [],_=>⟨Int.le_refl _,Int.le_refl _⟩
 | x::xs,h0=>by
  have ih:=Zbk f q xs fun y hy=>h0 y (List.mem_cons_of_mem _ hy);have hx:=h0 x List.mem_cons_self;rw[List.filter_cons];split
  ·rw[List.map_cons,List.map_cons,WE,WE];omega
  ·rw[List.map_cons,WE];omega
theorem Yci {l:List Zc}(hm:∀x∈l,Zf x)(i:Nat):0≤Zht l i∧Zht l i≤18446744073709551615:=by
 unfold Zht;by_cases c:i<l.length
 ·rw[Z5 c];exact(hm _ (List.getElem_mem c)).u _ (by simp)
 ·have:gr ZR l i=ZR:=by
   unfold gr;rw[List.getD_eq_getElem?_getD,List.getElem?_eq_none (by omega)];rfl
  rw[this];decide
theorem Jv {l:List Zc}{ks:List Int}(hm:∀x∈l,Zf x):0≤Zan l ks∧Zan l ks≤GZ l:=Zbk _ _ _ fun x _=>(Yci hm x).1
def Zbz (s:Ze):Int:=Zan s.members s.marks
def UQ (s:Ze):Int:=GZ s.members
def U6 (s:Ze):Int:=Ydo s.par.delay (Uk s.calm (Zbz s) (UQ s)).1 s.emer
def efC (l:List Zc)(ix:List Nat):List Value:=(ix.map (Zht l)).map (.int .u64)
theorem Ug (l:List Zc)(ix:List Nat):(efC l ix).length=ix.length*1:=by simp [efC]
theorem Gm (l:List Zc)(ix:List Nat)(k:Nat):efC l (ix++[k])=efC l ix++[.int .u64 (Zht l k)]:=by simp [efC]
theorem Zcn {l:List Zc}(hm:∀x∈l,Zf x){ix:List Nat}{h:PH}{v:Value}(sl:Sl h v ix.length 1 (efC l ix)):Ints h .u64 v (ix.map (Zht l)):=by
 refine⟨by rw[List.length_map];exact sl,fun z hz=>?_⟩;obtain⟨i,_,rfl⟩:=List.mem_map.1 hz;rw[show IntKind.u64.min=0 by decide,show IntKind.u64.max=18446744073709551615 by decide];exact Yci hm i
theorem Y6 {e sz:Nat}(o:Option (Nat×Nat))(xs:List Value)(L:Own):oent e sz o xs L=oent e sz o xs []++L:=by cases o<;>rfl
theorem Yse {ks:List Int}{k:Nat}{b:Bool}(e:W4 ks k=b):W4 ks (k:Int)=b:=e
theorem Zkf {l:List Zc}{ks:List Int}(v kv:Value)(hd0:Zg Yw 6 h v l)(hm:∀x∈l,Zf x)(hkv:Ints h .u8 kv ks)(hn:l.length≤1000)(hA:GZ l≤18446744073709551615)
  (hk:∀h',PH.le h h'→K (.tuple #[.int .u64 (Zan l ks),.int .u64 (GZ l),.int .i64 0]) L h'):Zb prog 187 [v,kv] L h K:=by
 have hP:=Jv (ks:=ks) hm;have hkv0:=hkv;obtain⟨a,c,rfl,hc,hl,_,hd⟩:=hd0.open;obtain⟨ka,kc,rfl,_⟩:=hkv.open;refine ZT func187 rfl (rs:=[_,_,_]) rfl rfl ZW (by kernel_rfl) rfl rfl ?_;refine xx ?_;refine YP (γ:=Nat×Option (Nat×Nat)×Option (Nat×Nat)) (0,none,none) (fun s=>s.1≤l.length∧okO s.2.1 (cP l s.1).length∧okO s.2.2 (thI l ks s.1).length∧apO s.2.1 (oent 22 1 s.2.2 (efC l (thI l ks s.1)) L) h∧apO s.2.2 L h)
  (fun s=>[(13,.int .i64 s.1),(12,.int .i64 l.length),(11,.slice a l.length c),(8,ovs s.2.1 (cP l s.1).length),(7,ovs s.2.2 (thI l ks s.1).length),(1,.slice ka ks.length kc)])
  (fun s=>oent 22 1 s.2.1 (efC l (cP l s.1)) (oent 22 1 s.2.2 (efC l (thI l ks s.1)) L)) (fun _=>h) (fun s=>l.length-s.1) ?_ ?_ ?_ ?_
 ·exact⟨Nat.zero_le _,rfl,rfl,trivial,trivial⟩
 ·simp [Ent,List.lookup,Wc,ovs,cP,thI]
 ·exact Za.refl _ _
 rintro⟨k,o1,o2⟩ ⟨i1,i2,i3,i4,i5⟩;simp only at i1 i2 i3 i4 i5 ⊢;by_cases c1:k<l.length
 ·have hcn:(cP l k).length≤k:=Zch l k;have htn:(thI l ks k).length≤k:=Zap l ks k;have hs1:=Zhr l k;have hs2:=Gl l ks k;simp -dsimp -implicitDefEqProofs (disch:=first|with_reducible assumption|omega) [go_sem,↓Ut ZR (by decide) hd,Yw];refine Z1 fun b7 nb7 zb7=>?_;(try simp only[ZU]at nb7);have n7:=Yu (Yu nb7);simp -dsimp -implicitDefEqProofs (disch:=first|with_reducible assumption|omega) [go_sem,Yw];refine UH (gr ZR l k) ?_;by_cases c2:Gi (gr ZR l k)=true
  ·have c2':(gr ZR l k).status=2∨(gr ZR l k).status=3:=by simpa [Gi] using c2
   rw[decide_eq_true c2'];rw[if_pos c2]at hs1;rw[c2,Bool.true_and]at hs2;simp -dsimp -implicitDefEqProofs (disch:=first|with_reducible assumption|omega) [go_sem,Yw];refine Z1 fun b8 nb8 zb8=>?_;(try simp only[ZU]at nb8);refine xx ?_;refine Z3 (t:=25) (e:=22) (sz:=1) (bytes:=8) (by kernel_rfl) Uc rfl rfl rfl rfl (by decide) [_,_] _ o1 (cP l k).length (efC l (cP l k)) i2 (Ug _ _) (Src.own List.mem_cons_self) (m:=1) (news:=[.int .u64 (gr ZR l k).eff]) rfl (by intro u hu;simp only[List.mem_singleton]at hu;subst hu;rfl) (by simp [maxLen];omega) (by omega) ?_;intro o1' j1 j2 j3;have j4:=ZZ (ZZ j2);have e1:efC l (cP l k)++[.int .u64 (gr ZR l k).eff]=efC l (cP l (k+1)):=by rw[hs1,Gm];rfl
   have e2:(cP l k).length+1=(cP l (k+1)).length:=by rw[hs1];simp
   rw[e2]at j1 ⊢;rw[e1];refine xx ?_;refine GX (bs:=ks) _ k hkv0 (by omega) ?_;by_cases c3:W4 ks k=true
   ·rw[if_pos c3]at hs2;rw[c3];refine xx ?_;refine Z1 fun b9 nb9 zb9=>?_;(try simp only[ZU]at nb9);refine xx ?_;rw[Y6 (e:=22) o1'];refine Z3 (t:=25) (e:=22) (sz:=1) (bytes:=8) (by kernel_rfl) Uc rfl rfl rfl rfl (by decide) (_::_::_::oent 22 1 o1' _ []) _ o2 (thI l ks k).length (efC l (thI l ks k)) i3 (Ug _ _) (Src.own List.mem_cons_self) (m:=1) (news:=[.int .u64 (gr ZR l k).eff]) rfl (by intro u hu;simp only[List.mem_singleton]at hu;subst hu;rfl) (by simp [maxLen];omega) (by omega) ?_;intro o2' l1 l2 l3;have l4:=ZZ (ZZ (ZZ l2));have l5:=Zcr (e2:=22) (sz2:=1) (cs2:=efC l (thI l ks (k+1))) (YN j4) l4;have e3:efC l (thI l ks k)++[.int .u64 (gr ZR l k).eff]=efC l (thI l ks (k+1)):=by rw[hs2,Gm];rfl
    have e4:(thI l ks k).length+1=(thI l ks (k+1)).length:=by rw[hs2];simp
    rw[e4]at l1 ⊢;rw[e3];refine xx ?_;refine⟨k+1,o1',o2',⟨by omega,j1,l1,l5.1,l5.2⟩,by omega,by simp [Ent,List.lookup],?_⟩;rw[← Y6];exact(Za.tail _ _ _).trans ((Za.tail _ _ _).trans (Za.tail _ _ _))
   ·rw[if_neg c3]at hs2;rw[show W4 ks k=false by simpa using c3];refine xx ?_;refine⟨k+1,o1',o2,⟨by omega,j1,by rw[hs2];exact i3,by rw[hs2];exact j4,i5⟩,by omega,by simp [Ent,List.lookup,hs2],?_⟩;rw[hs2];exact(Za.tail _ _ _).trans (Za.tail _ _ _)
  ·have c2':¬((gr ZR l k).status=2∨(gr ZR l k).status=3):=by simpa [Gi] using c2
   rw[decide_eq_false c2'];rw[if_neg c2]at hs1;rw[show Gi (gr ZR l k)=false by simpa using c2,Bool.false_and]at hs2;simp only[Bool.false_eq_true,if_false]at hs2;refine xx ?_;refine⟨k+1,o1,o2,⟨by omega,by rw[hs1];exact i2,by rw[hs2];exact i3,by rw[hs2];exact i4,i5⟩,by omega,by simp [Ent,List.lookup,hs1,hs2],?_⟩;rw[hs1,hs2];exact Za.tail _ _ _
 ·obtain rfl:k=l.length:=by omega
  refine xx ?_;have hcn:(cP l l.length).length≤l.length:=Zch l l.length;have htn:(thI l ks l.length).length≤l.length:=Zap l ks l.length;rw[Y6 (e:=22) o1];refine J0 (n:=(thI l ks l.length).length) (oent 22 1 o1 (efC l (cP l l.length)) []) i3 (Ug _ _) (by omega) (fun h1 le1 sl1=>?_) ⟨f165,func165,by decide +kernel,rfl⟩;rw[← Y6 (e:=22) o1];have it:=Zcn hm sl1;refine Wo _ it ?_;rw[show tot ((thI l ks l.length).map (Zht l))=Zan l ks from rfl,YA (by omega)];refine xx ?_;refine J0 (n:=(cP l l.length).length) [] i2 (Ug _ _) (by omega) (fun h2 le2 sl2=>?_) ⟨f165,func165,by decide +kernel,rfl⟩;have ia:=Zcn hm sl2;refine Wo _ ia ?_;rw[show tot ((cP l l.length).map (Zht l))=GZ l from rfl,YA hA];refine xx ?_;exact ZP (hk h2 (le1.trans le2))
theorem Zyh {p:Zd}(ok:Zj p)(hr:YI p=true){m:Zc}(mo:Zf m)(there:Bool)(mode:Int):Zf (Vx p m there mode):=by
 have hs:=Ye hr;have us:=mo.u m.score (by simp);have un:=mo.n m.streak (by simp);have ur:=ok.w p.recover (by simp [YF]);have u1:=ok.w p.bias (by simp [YF]);have u2:=ok.w p.biasEm (by simp [YF]);have u3:=ok.w p.scoreCap (by simp [YF])
 cases there with
 | true =>
  rw[Zsn];refine⟨fun z hz=>?_,fun z hz=>?_⟩
  ·simp only[List.mem_cons,List.not_mem_nil,or_false]at hz;rcases hz with rfl|rfl|rfl
   ·exact mo.u _ (by simp)
   ·exact mo.u _ (by simp)
   ·unfold Y8;split<;>omega
  ·simp only[List.mem_cons,List.not_mem_nil,or_false]at hz;rcases hz with rfl|rfl|rfl
   ·unfold Ypx;split<;>omega
   ·exact mo.n _ (by simp)
   ·exact mo.n _ (by simp)
 | false =>
  rw[Zuh];refine⟨fun z hz=>?_,fun z hz=>?_⟩
  ·simp only[List.mem_cons,List.not_mem_nil,or_false]at hz;rcases hz with rfl|rfl|rfl
   ·exact mo.u _ (by simp)
   ·exact mo.u _ (by simp)
   ·unfold Yub Gg;split
    ·omega
    ·split<;>omega
  ·simp only[List.mem_cons,List.not_mem_nil,or_false]at hz;rcases hz with rfl|rfl|rfl
   ·omega
   ·exact mo.n _ (by simp)
   ·exact mo.n _ (by simp)
theorem Yes {o:Option (Nat×Nat)}{n m:Nat}(ho:okO o n)(hm:m≤n):okO o m:=by
 cases o with
 | none=>have:n=0:=ho;show m=0;omega
 | some p=>exact⟨Nat.le_trans hm ho.1,ho.2⟩
open Go.RowKit Go.Bl
theorem Za.sub {L L0:Own}{h:PH}(hs:L0.Sublist L):Za L h L0 h:=fun W hg =>
 ⟨⟨hg.sub,fun e he=>hg.own e (hs.subset he),hg.nodup.sublist (hs.map _),fun e he=>hg.apart e (hs.subset he)⟩,fun e he=>List.mem_map_of_mem (hs.subset he)⟩
theorem Zpa {xs:List Int}{bl:Nat}(o:Option (Nat×Nat))(ho:okO o xs.length)(hl:xs.length≤1000)
  (hk:∀o',okO o' xs.length→apO o' L h→K (ovs o' xs.length) (oent 3 1 o' (xs.map (.int .i64)) L) h) :
  Zb prog 307 [.pointer (some ⟨bl,0,none⟩)] (lnB bl o xs.length::lnL o xs L) h K:=by
 obtain⟨a,c,ea,hac⟩:=Z9 ho;refine Z6 func307 rfl (rs:=[_]) rfl rfl ZW (by kernel_rfl) rfl rfl fun ap nd=>?_;have hb:h bl=noC:=ap.1;clear ap nd;refine xx ?_;have hsrc:Src (lnB bl o xs.length::lnL o xs L) h (ovs o xs.length) xs.length (xs.map (.int .i64)):=by
  cases o with
  | none =>
   have h0:xs.length=0:=ho;rw[List.length_eq_zero_iff.1 h0];exact Or.inl ⟨rfl,rfl,rfl⟩
  | some p=>exact Src.own (b:=p.1) (t:=3) (cap:=p.2*1) (by simp [lnL,oent])
 refine Z3 (t:=27) (e:=3) (sz:=1) (bytes:=8) (z:=[.int .i64 0]) (by kernel_rfl) Zbr rfl rfl rfl rfl (by decide) [] _ none 0 [] rfl rfl hsrc (m:=xs.length) (by simp) (fun u hu=>?_) (by simp [maxLen];omega) (by omega) ?_
 ·obtain⟨w,_,rfl⟩:=List.mem_map.1 hu
  rfl
 intro o1 j1 j2 j3;simp only[List.nil_append,Nat.zero_add]at j1 j2 ⊢;obtain⟨x1,y1,e1,_⟩:=Z9 j1;rw[e1];refine xx ?_;have k1:=hk o1 j1 (YN (ZZ j2));rw[e1]at k1;refine⟨_,h,Za.sub ?_,k1⟩;rw[Y6 o1 _ L,Y6 o1 _ (lnB bl o xs.length::lnL o xs L)];refine List.Sublist.append (List.Sublist.refl _) (List.Sublist.cons _ ?_);rw[lnL,Y6 o];exact List.sublist_append_right _ _
theorem Zcl {xs:List Int}(v:Value)(hv:Ints h .i64 v xs)(hl:xs.length≤256)(h0:∀z∈xs,0≤z)(hn:xs.Nodup)(m:Int)(hm:0≤m∧m≤9223372036854775807)
  (hk:∀h' r o',PH.le h h'→Ints h' .i64 r (xs.take m.toNat)→okO o' (xs.drop m.toNat).length→apO o' L h'→K (.tuple #[r,ovs o' (xs.drop m.toNat).length]) (oent 3 1 o' ((xs.drop m.toNat).map (.int .i64)) L) h') :
  Zb prog 203 [v,.int .i64 m] L h K:=by
 have hr:=hv.2;have hv0:=hv;obtain⟨va,vc,rfl,hcap,hln,_,hcs⟩:=hv.open;refine ZT func203 rfl (rs:=[_,_]) rfl rfl ZW (by kernel_rfl) rfl rfl ?_;refine xx ?_;refine Zyt _ hv0 hl h0 hn fun bl o nb hb ho=>?_;refine xx ?_;refine Zyd o ho (by omega) m hm hr fun h1 r le1 it=>?_;have hdl:(xs.drop m.toNat).length≤xs.length:=by rw[List.length_drop];omega
 obtain⟨ys,hys⟩:∃ys,ys=xs.drop m.toNat:=⟨_,rfl⟩
 rw[← hys]at hk hdl ⊢;refine xx ?_;refine Zpa (xs:=ys) o (Yes ho hdl) (by omega) fun o' k1 k2=>?_;refine xx ?_;exact ZP (hk h1 r o' le1 it k1 k2)
theorem Zek {e1 sz1 n1 e2 sz2 n2:Nat}{o1 o2:Option (Nat×Nat)}{xs1 xs2:List Value}{L:Own}{h:PH}{K:PK}{v:Value}(ok1:okO o1 n1)(hl1:xs1.length=n1*sz1)(hn1:n1≤9223372036854775807)(ok2:okO o2 n2)(hl2:xs2.length=n2*sz2)(hn2:n2≤9223372036854775807)
  (ha1:apO o1 (oent e2 sz2 o2 xs2 L) h) (ha2:apO o2 L h)
  (hk:∀h',PH.le h h'→Sl h' (ovs o1 n1) n1 sz1 xs1→Sl h' (ovs o2 n2) n2 sz2 xs2→fin K v L h') (he1:e1≠4294967295:=by first|decide|omega) (he2:e2≠4294967295:=by first|decide|omega):fin K v (oent e1 sz1 o1 xs1 (oent e2 sz2 o2 xs2 L)) h:=by
 have a1:apO o1 [] h:=by
  cases o1 with
  | none=>trivial
  | some p=>exact⟨trivial,ha1.2⟩
 have a2:apO o2 [] (Jy h o1 xs1):=by
  cases o2 with
  | none=>trivial
  | some q =>
   cases o1 with
   | none=>exact⟨trivial,ha2.2⟩
   | some p=>exact⟨trivial,Gt (o:=some p) (Ne.symm ha1.1.1) ha2.2⟩
 have le1:=Y4 a1 xs1;have le2:=Y4 a2 xs2;obtain⟨L',h',hd,hk⟩:=hk _ (le1.trans le2) ((WZ ok1 hl1 hn1).up le2) (WZ ok2 hl2 hn2);exact⟨L',h',((Y2 o1 xs1 _ h he1).trans (Y2 o2 xs2 L _ he2)).trans hd,hk⟩
def UV (e:Int)(b:Bool)(d:Zh):Bool:=decide (d.at'≤e) == b
def UX (l:List Zh)(e:Int)(b:Bool)(k:Nat):List Zh:=(l.take k).filter (UV e b)
theorem Zmf (l:List Zh)(e:Int)(b:Bool)(k:Nat):(UX l e b k).length≤l.length:=by
 unfold UX;exact Nat.le_trans (List.length_filter_le _ _) (by rw[List.length_take];omega)
theorem Zfu {l:List Zh}{e:Int}{b:Bool}{k:Nat}(hk:k<l.length):UX l e b (k+1)=UX l e b k++(if UV e b (gr ZY l k) then [gr ZY l k] else []):=by
 unfold UX;rw[List.take_add_one,List.getElem?_eq_getElem hk,Z5 hk,List.filter_append]
 congr 1
 simp only[Option.toList,List.filter]
 cases UV e b l[k]<;>rfl
theorem JA (l:List Zh)(e:Int)(b:Bool)(k:Nat):((UX l e b k).flatMap Yo).length=(UX l e b k).length*3:=Z0 Yk _
theorem Zqk {l:List Zh}(v:Value)(hv:Zg Yo 3 h v l)(hl:l.length≤34000)(e:Int)
  (hk:∀h' r1 r2,PH.le h h'→Zg Yo 3 h' r1 (l.filter (UV e true))→Zg Yo 3 h' r2 (l.filter (UV e false))→K (.tuple #[r1,r2]) L h'):Zb prog 205 [v,.int .i64 e] L h K:=by
 obtain⟨a,c,rfl,hcap,hln,_,hcs⟩:=hv.open;refine ZT func205 rfl (rs:=[_,_]) rfl rfl ZW (by kernel_rfl) rfl rfl ?_;refine xx ?_;refine YP (γ:=Nat×Option (Nat×Nat)×Option (Nat×Nat)) (0,none,none) (fun q=>q.1≤l.length∧okO q.2.1 (UX l e true q.1).length∧okO q.2.2 (UX l e false q.1).length∧apO q.2.1 (oent 156 3 q.2.2 ((UX l e false q.1).flatMap Yo) L) h∧apO q.2.2 L h)
  (fun q=>[(10,.int .i64 q.1),(9,.int .i64 l.length),(8,.slice a l.length c),(1,.int .i64 e),(4,ovs q.2.1 (UX l e true q.1).length),(5,ovs q.2.2 (UX l e false q.1).length)])
  (fun q=>oent 156 3 q.2.1 ((UX l e true q.1).flatMap Yo) (oent 156 3 q.2.2 ((UX l e false q.1).flatMap Yo) L)) (fun _=>h) (fun q=>l.length-q.1) ?_ ?_ ?_ ?_
 ·exact⟨Nat.zero_le _,by show (UX l e true 0).length=0;simp [UX],by show (UX l e false 0).length=0;simp [UX],trivial,trivial⟩
 ·simp [Ent,List.lookup,Wc,ovs,UX]
 ·exact Za.refl _ _
 rintro⟨k,o1,o2⟩ ⟨i1,i2,i3,i4,i5⟩;simp only at i1 i2 i3 i4 i5 ⊢;have tl:=Zmf l e true k;have dl:=Zmf l e false k;by_cases c1:k<l.length
 ·have ht:=Zfu (e:=e) (b:=true) c1;have hf:=Zfu (e:=e) (b:=false) c1;simp -dsimp -implicitDefEqProofs (disch:=first|with_reducible assumption|omega) [go_sem,↓Ut ZY (by decide) hcs,Yo];refine Z1 fun b7 nb7 zb7=>?_;(try simp only[ZU]at nb7);have n7:=Yu (Yu nb7);simp -dsimp -implicitDefEqProofs (disch:=first|with_reducible assumption|omega) [go_sem,Yo];by_cases c2:(gr ZY l k).at'≤e
  ·rw[if_pos (by simp [UV,c2])]at ht;rw[if_neg (by simp [UV,c2]),List.append_nil]at hf;have e3:(UX l e true k).length+1=(UX l e true (k+1)).length:=by rw[ht];simp
   simp -dsimp -implicitDefEqProofs (disch:=first|with_reducible assumption|omega) [go_sem,Yo];refine Z1 fun b1 nb1 zb1=>?_;(try simp only[ZU]at nb1);refine xx ?_;refine Z3 (t:=29) (e:=156) (sz:=3) (bytes:=24) (by kernel_rfl) V5 rfl rfl rfl rfl (by decide) [_,_] _ o1 _ _ i2 (JA l e true k) (Src.own List.mem_cons_self) (m:=1) (news:=Yo (gr ZY l k)) rfl (by intro u hu;simp only[Yo,List.mem_cons,List.not_mem_nil,or_false]at hu;rcases hu with rfl|rfl|rfl<;>rfl) (by simp [maxLen];omega) (by omega) ?_;intro o1' j1 j2 j3;rw[e3]at j1;rw[e3,show (UX l e true k).flatMap Yo++Yo (gr ZY l k)=(UX l e true (k+1)).flatMap Yo by rw[ht,List.flatMap_append];simp];refine xx ?_;exact⟨k+1,o1',o2,⟨by omega,j1,by rw[hf];exact i3,by rw[hf];exact ZZ (ZZ j2),i5⟩,by omega,by simp [Ent,List.lookup,hf],by rw[hf];exact(Za.tail _ _ _).trans (Za.tail _ _ _)⟩
  ·rw[if_neg (by simp [UV,c2]),List.append_nil]at ht;rw[if_pos (by simp [UV,c2])]at hf;have e3:(UX l e false k).length+1=(UX l e false (k+1)).length:=by rw[hf];simp
   simp -dsimp -implicitDefEqProofs (disch:=first|with_reducible assumption|omega) [go_sem,Yo];refine Z1 fun b1 nb1 zb1=>?_;(try simp only[ZU]at nb1);refine xx ?_;rw[Y6 (e:=156) o1];refine Z3 (t:=29) (e:=156) (sz:=3) (bytes:=24) (by kernel_rfl) V5 rfl rfl rfl rfl (by decide) (_::_::oent 156 3 o1 _ []) _ o2 _ _ i3 (JA l e false k) (Src.own List.mem_cons_self) (m:=1) (news:=Yo (gr ZY l k)) rfl (by intro u hu;simp only[Yo,List.mem_cons,List.not_mem_nil,or_false]at hu;rcases hu with rfl|rfl|rfl<;>rfl) (by simp [maxLen];omega) (by omega) ?_;intro o2' j1 j2 j3;rw[e3]at j1;rw[e3,show (UX l e false k).flatMap Yo++Yo (gr ZY l k)=(UX l e false (k+1)).flatMap Yo by rw[hf,List.flatMap_append];simp];simp only[List.cons_append];rw[← Y6 (e:=156) o1];refine xx ?_;have l5:=Zcr (e2:=156) (sz2:=3) (cs2:=(UX l e false (k+1)).flatMap Yo) (YN i4) (ZZ (ZZ j2));exact⟨k+1,o1,o2',⟨by omega,by rw[ht];exact i2,j1,l5.1,l5.2⟩,by omega,by simp [Ent,List.lookup,ht],by rw[ht];exact(Za.tail _ _ _).trans (Za.tail _ _ _)⟩
 ·obtain rfl:l.length=k:=by omega
  have e1:UX l e true l.length=l.filter (UV e true):=by unfold UX;rw[List.take_length]
  have e2:UX l e false l.length=l.filter (UV e false):=by unfold UX;rw[List.take_length]
  have f1:=JA l e true l.length;have f2:=JA l e false l.length;rw[e1]at i2 tl f1;rw[e2]at i3 i4 dl f2;rw[e1,e2];obtain⟨x1,y1,q1,_⟩:=Z9 i2;obtain⟨x2,y2,q2,_⟩:=Z9 i3;rw[q1,q2];refine xx ?_;refine Zek (n1:=(l.filter (UV e true)).length) (n2:=(l.filter (UV e false)).length) i2 f1 (by omega) i3 f2 (by omega) i4 i5 fun h1 le1 s1 s2=>ZP ?_;have:=hk h1 _ _ le1 (Zg.pub Yk s1) (Zg.pub Yk s2)
  rwa [q1,q2]at this
theorem Zfp {xs:List Int}(v:Value)(hx:Ints h .u8 v xs)(hl:xs.length≤1000)(hk:∀h' r,PH.le h h'→Ints h' .u8 r xs→K r L h'):Zb prog 318 [v] L h K:=by
 have hx0:=hx;obtain⟨a,c,rfl,_⟩:=hx.open;refine ZT func318 rfl (rs:=[_]) rfl rfl ZW (by kernel_rfl) rfl rfl ?_;refine xx ?_;refine Z3 (t:=31) (e:=5) (sz:=1) (bytes:=1) (z:=[.int .u8 0]) (by kernel_rfl) Ynj rfl rfl rfl rfl (by decide) [] _ none 0 [] rfl rfl (Src.known hx0.1) (by simp) (VW _ _) (by simp [maxLen];omega) (by omega) ?_;intro o k1 k2 k3;simp only[Nat.zero_add,List.nil_append]at k1 k2 ⊢;refine xx ?_;refine YG (n:=xs.length) k1 (by simp) (by omega) k2 fun h1 le1 sl=>ZP (hk h1 _ le1 ⟨sl,hx0.2⟩)
def Zgd (ring:List (List Int))(marks:List Int):List (List Int):=marks::ring.take 7
def QsOk (h:PH)(q:List QS):Prop:=∀p∈q,Ints h .u8 p.1 p.2
theorem Zzq {l:List QS}{marks:List Int}(v u:Value)(hv:Zw h v l)(hu:Ints h .u8 u marks)(hl:l.length≤1000)(hb:∀b∈xsL l,b.length≤1000)(hm:marks.length≤1000)
  (hk:∀h' r q,PH.le h h'→Zw h' r q→xsL q=Zgd (xsL l) marks→K r L h'):Zb prog 217 [v,u] L h K:=by
 have hu0:=hu;obtain⟨a,c,rfl,hcap,hln,_,hcs,hd⟩:=hv.open;obtain⟨ua,uc,rfl,_⟩:=hu.open;refine ZT func217 rfl (rs:=[_]) rfl rfl ZW (by kernel_rfl) rfl rfl ?_;refine xx ?_;refine Zb.ap (Zfp _ hu0 hm fun h1 r1 le1 i1 ap=>?_);obtain⟨xa,xc,rfl,_⟩:=i1.open;refine xx ?_;refine Z1 fun b5 nb5 zb5=>?_;(try simp only[ZU]at nb5);refine xx ?_;refine YP (γ:=Nat×PH×Option (Nat×Nat)×List QS) (0,h1,some (b5,1),[(.slice xa marks.length xc,marks)])
  (fun q=>q.1≤l.length∧PH.le h1 q.2.1∧okO q.2.2.1 q.2.2.2.length∧apO q.2.2.1 L q.2.1∧xsL q.2.2.2=marks::(xsL l).take (min q.1 7)∧QsOk q.2.1 q.2.2.2)
  (fun q=>[(13,.int .i64 q.1),(12,.int .i64 l.length),(11,.slice a l.length c),(5,ovs q.2.2.1 q.2.2.2.length)])
  (fun q=>oent 31 1 q.2.2.1 (vsL q.2.2.2) L) (fun q=>q.2.1) (fun q=>l.length-q.1) ?_ ?_ ?_ ?_
 ·refine⟨Nat.zero_le _,PH.le_refl _,(show 1≤1∧1≤maxLen by decide),⟨nb5,zb5⟩,by simp [xsL],fun p hp=>?_⟩;rw[List.mem_singleton]at hp;subst hp;exact i1
 ·simp [Ent,List.lookup,Wc,ovs]
 ·exact Za.refl _ _
 rintro⟨k,h2,o,q⟩ ⟨k1,k2,k3,k4,k5,k6⟩;simp only at k1 k2 k3 k4 k5 k6 ⊢;have hxl:(xsL l).length=l.length:=WI l;have hql:q.length=1+min k 7:=by
  rw[← WI q,k5,List.length_cons,List.length_take];omega
 by_cases c1:k<l.length
 ·have hg:=(hd.at c1).up (le1.trans k2);have hcs2:∀j,j<l.length→Yc h2 a j=some (gs l j).1:=(hd.up (le1.trans k2)).open.elim fun a' ⟨cap',e,_,_,_,hc2,_⟩=>by
   cases e
   exact hc2
  have hmem:(gs l k).2∈xsL l:=by rw[Ge c1];exact List.mem_map.2 ⟨_,List.getElem_mem c1,rfl⟩
  have hbl:=hb _ hmem;have htk:(xsL l)[k]?=some (gs l k).2:=Zkn c1;obtain⟨x1,y1,e1,_⟩:=Z9 k3;have hlen:∀(K:Value→Prop) (t:Zp K),G0 prog 3 #[32] (ovs o q.length) K t=K (.int .i64 q.length):=fun K t=>by rw[e1];exact Yj (e:=31) (by kernel_rfl) _ _ _
  simp -dsimp -implicitDefEqProofs (disch:=first|with_reducible assumption|omega) [go_sem,idx hcs2,hlen];by_cases c2:k<7
  ·have hm1:min k 7=k:=by omega
   have hm2:min (k+1) 7=k+1:=by omega
   rw[hm1]at k5 hql;simp -dsimp -implicitDefEqProofs (disch:=first|with_reducible assumption|omega) [go_sem,idx hcs2,hlen];refine Zb.ap (Zfp _ hg hbl fun h3 r3 le3 i3 ap=>?_);obtain⟨ya,yc,rfl,_⟩:=i3.open;have k4':=Gu k4 ap;refine xx ?_;refine Z1 fun b6 nb6 zb6=>?_;(try simp only[ZU]at nb6);refine xx ?_;refine Z3 (t:=32) (e:=31) (sz:=1) (bytes:=24) (by kernel_rfl) Yea rfl rfl rfl rfl (by decide) [_] L o q.length (vsL q) k3 (by simp [vsL]) (Src.own List.mem_cons_self) (m:=1) (news:=[.slice ya (gs l k).2.length yc]) rfl (fun u hu=>by simp at hu;subst hu;rfl) (by simp [maxLen];omega) (by omega) ?_;intro o' j1 j2 j3;refine xx ?_;refine⟨k+1,h3,o',q++[(.slice ya (gs l k).2.length yc,(gs l k).2)],⟨by omega,k2.trans le3,by simpa using j1,ZZ j2,?_,fun p hp=>?_⟩,by omega,by simp [Ent,List.lookup],?_⟩
   ·rw[hm2,List.take_add_one,htk];simp only[xsL,List.map_append,List.map_cons,List.map_nil]at k5 ⊢;rw[k5]
    rfl
   ·rcases List.mem_append.1 hp with hp|hp
    ·exact(k6 p hp).up le3
    ·rw[List.mem_singleton]at hp;subst hp;exact i3
   ·simp only[vsL,List.map_append,List.map_cons,List.map_nil];exact Za.tail _ _ _
  ·have hm1:min k 7=7:=by omega
   have hm2:min (k+1) 7=7:=by omega
   rw[hm1]at k5 hql;refine xx ?_;exact⟨k+1,h2,o,q,⟨by omega,k2,k3,k4,by rw[hm2];exact k5,k6⟩,by omega,by simp [Ent,List.lookup],Za.refl _ _⟩
 ·obtain rfl:l.length=k:=by omega
  refine xx ?_;obtain⟨x1,y1,e1,_⟩:=Z9 k3;rw[e1]
  try simp -dsimp -implicitDefEqProofs (disch:=first|with_reducible assumption|omega) [go_sem]
  refine YG (n:=q.length) k3 (by simp [vsL]) (by omega) k4 fun h3 le3 sl=>ZP ?_;rw[e1]at sl;refine hk h3 _ q (le1.trans (k2.trans le3)) ⟨sl,fun p hp=>(k6 p hp).up le3⟩ ?_;rw[k5,Zgd]
  congr 1
  by_cases c2:l.length≤7
  ·rw[Nat.min_eq_left c2,List.take_of_length_le (by omega),List.take_of_length_le (by omega)]
  ·rw[Nat.min_eq_right (by omega)]
theorem Zmy {ql:List QM}{ms:List Zm}(v:Value)(hv:Zg YW 33 h v ql)(hq:ql.map (fun x=>x.2.2)=ms)(hm:Wk h ql)(hl:ql.length≤1000)(hb:∀m∈ms,m.yes.length≤1000∧m.no.length≤1000)
    (hk:∀h' o ql',PH.le h h'→okO o ms.length→apO o L h'→ql'.map (fun x=>x.2.2)=ms→Wk h' ql'→K (ovs o ms.length) (oent 125 33 o (ql'.flatMap YW) L) h') :
    Zb prog 311 [v] L h K:=by
  have hql:ql.length=ms.length:=by rw[← hq,List.length_map]
  have hv0:=hv;obtain⟨va,vc,rfl,_⟩:=hv.open;refine ZT func311 rfl (rs:=[_]) rfl rfl ZW (by kernel_rfl) rfl rfl ?_;refine xx ?_;refine JR _ hv0 hm hl fun ot ok2 at1=>?_;rw[hql]at ok2 ⊢;obtain⟨mta,mtc,emt,_⟩:=Z9 ok2;rw[emt];refine xx ?_;refine YP (γ:=Nat×List QM×PH) (0,ql,h)
    (fun q=>q.1≤ms.length∧q.2.1.map (fun x=>x.2.2)=ms∧Wk q.2.2 q.2.1∧PH.le h q.2.2∧apO ot L q.2.2)
    (fun q=>[(9,.int .i64 q.1),(8,.int .i64 ms.length),(3,.slice mta ms.length mtc)])
    (fun q=>oent 125 33 ot (q.2.1.flatMap YW) L) (fun q=>q.2.2) (fun q=>ms.length-q.1) ?_ ?_ ?_ ?_
  · exact⟨Nat.zero_le _,hq,hm,PH.le_refl _,at1⟩
  · simp [Ent,List.lookup,Wc]
  · exact Za.refl _ _
  rintro⟨k,ql',h6⟩ ⟨k1,k2,k3,k4,k8⟩;simp only at k1 k2 k3 k4 k8 ⊢;have hql':ql'.length=ms.length:=by rw[← k2,List.length_map]
  by_cases c1:k<ms.length
  · obtain ⟨bt,cap,rfl⟩ : ∃ bt cap,ot = some (bt,cap) := by
      cases ot with
      | none=>have:ms.length=0:=ok2;omega
      | some p=>exact⟨_,_,rfl⟩
    simp only[ovs,Value.slice.injEq]at emt;obtain⟨rfl,_,rfl⟩:=emt;have hbt:h6 bt=noC:=k8.2;obtain⟨qk,hqk⟩:∃qk,qk=gr Z2 ql' k:=⟨_,rfl⟩
    have hmem:qk∈ql':=by rw[hqk,Z5 (by omega)];exact List.getElem_mem _
    have hmk:Zq h6 qk:=k3 qk hmem;have hmdm:qk.2.2∈ms:=by rw[← k2];exact List.mem_map.2 ⟨qk,hmem,rfl⟩
    obtain⟨vy,vn,md⟩:=qk;have hy:=hmk.y;have hn:=hmk.n;simp only at hy hn;obtain⟨ya,yc,rfl,_⟩:=hy.open;obtain⟨na,nc,rfl,_⟩:=hn.open;simp only at hmdm;have fv:=hb md hmdm;have g31:∀(K:Value→Prop) (t:Zp K),Vw (ql'.flatMap YW) (k*33+31) K t=K (.slice ya md.yes.length yc):=fun K t=>Ys Z7 Z2 ql' (by omega) (by decide) (by rw[← hqk];rfl) K t;have g32:∀(K:Value→Prop) (t:Zp K),Vw (ql'.flatMap YW) (k*33+32) K t=K (.slice na md.no.length nc):=fun K t=>Ys Z7 Z2 ql' (by omega) (by decide) (by rw[← hqk];rfl) K t;have hfl:(ql'.flatMap YW).length=ms.length*33:=by rw[Z0 Z7,hql']
    rw[Ya];refine xx ?_;refine Yn (.tk 0 (.tk 1 (.tk 2 (.tk 3 (.tk 4 (.tk 5 (.tk 6 (.tk 7 (.tk 10 (.tk 11 (.tk 12 (.tk 13 (.tkl 8 (.tkl 14 (.o1 9 (.o1 15 (.tk 16 (.tk 17 (.o2 18 (.tk 19 (.tk 20 (.o2 21 (.fin) (.nil)))) (.nil)))) (.nil)) (.nil)))))))))))))))) (by kernel_rfl) (by kernel_rfl) _ (Za.refl _ _) ?_;simp -dsimp -implicitDefEqProofs (disch:=first|with_reducible assumption|omega) [go_sem,g31,g32];have hset:∀a ac b bc,((ql'.flatMap YW).set (k*33+31) (.slice a md.yes.length ac)).set (k*33+32) (.slice b md.no.length bc)=(ql'.set k (.slice a md.yes.length ac,.slice b md.no.length bc,md)).flatMap YW:=fun a ac b bc=>by
      rw[Y9 Z7 Z2 ql' (i:=k) (m:=31) (a':=(.slice a md.yes.length ac,.slice na md.no.length nc,md)) (by omega) (by decide) (by rw[← hqk];rfl)];rw[Y9 Z7 Z2 _ (i:=k) (m:=32) (a':=(.slice a md.yes.length ac,.slice b md.no.length bc,md)) (by rw[List.length_set];omega) (by decide) (by rw[Z5 (by rw[List.length_set];omega),List.getElem_set_self];rfl),List.set_set]
    have hmd:ms[k]?=some md:=by
      rw[← k2,List.getElem?_map,List.getElem?_eq_getElem (by omega),← Z5 (z:=Z2) (by omega),← hqk]
      rfl
    have hmap:∀(a b:Value),(ql'.set k (a,b,md)).map (fun x=>x.2.2)=ms:=fun a b=>by
      rw[List.map_set,k2];apply List.ext_getElem?;intro n;rw[List.getElem?_set];split
      · rename_i e;subst e
        first
        | exact hmd.symm
        | (split
           · exact hmd.symm
           · rw[List.getElem?_eq_none (by omega)])
      · rfl
    repeat' first
      | refine Yf ?_ ?_
      | simp -dsimp -implicitDefEqProofs (disch:=first|with_reducible assumption|omega) [go_sem,g31,g32]
    all_goals
      refine Zb.ap (Wb _ hy (by omega) fun h7 v7 le7 i7 ap=>?_);obtain⟨y1,y2⟩:=ap;obtain⟨wa,wc,rfl,_⟩:=i7.open
      first
      | refine xkp (Za.forget le7) ?_
      | skip
    repeat' first
      | refine Yf ?_ ?_
      | simp -dsimp -implicitDefEqProofs (disch:=first|with_reducible assumption|omega) [go_sem,g31,g32]
      | refine xkp (Za.forget le7) ?_
    all_goals
      refine Zb.ap (Wb _ (hn.up le7) (by omega) fun h8 v8 le8 i8 ap=>?_);obtain⟨z1,z2⟩:=ap;obtain⟨ua,uc,rfl,_⟩:=i8.open
      first
      | refine xkp (Za.forget (le7.trans le8)) ?_
      | skip
    repeat' first
      | refine Yf ?_ ?_
      | simp -dsimp -implicitDefEqProofs (disch:=first|with_reducible assumption|omega) [go_sem,g31,g32]
      | refine xkp (Za.forget (le7.trans le8)) ?_
    all_goals
      have hsum:(ql'.map fun a=>(YW a).length).sum=ms.length*33:=by rw[← List.length_flatMap,hfl]
      have hk33:=Wu (n:=ms.length) (w:=33) c1 (m:=32) (by decide);refine⟨by omega,by omega,k+1,ql'.set k (.slice wa md.yes.length wc,.slice ua md.no.length uc,md),h8,⟨by omega,hmap _ _,fun x hx=>?_,k4.trans (le7.trans le8),⟨k8.1,z1⟩⟩,by omega,by simp [Ent,List.lookup],?_⟩
      · rcases List.mem_or_eq_of_mem_set hx with hx|rfl
        · exact(k3 x hx).up (le7.trans le8)
        · exact⟨i7.up le8,i8,hmk.ok⟩
      · rw[hset];exact Za.refl _ _
  have hkl:k=ms.length:=by omega
  subst hkl;rw[← emt];refine xx ?_;exact ZP (hk h6 ot ql' k4 ok2 k8 k2 k3)
end Go.X
