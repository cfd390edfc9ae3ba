/- Lemmas and contracts. Conditions: as each says. -/
import Derived.Test.YtpdidilobgimcaaGreatQ20
import Derived.Test.YtpdidilobgimcaaGreatQ21
import Derived.Test.YtpdidilobgimcaaGreatQ22
set_option linter.unusedVariables false
set_option linter.unusedSimpArgs false
set_option maxHeartbeats 12800000
set_option maxRecDepth 20000
namespace Go.X
open Go.RowKit Go.Proofs Go.Bl Go.Proofs.Tryz
section
variable {P:Program}
theorem Zpj {t ty e sz:Nat}{ti:TI}(ht:P.underlying t=some (.slice e))(hti:tI P e=some ti)(hz1:ti.size=sz){L:Own}{h:PH}{K:PK}{b o n cap m c:Nat}{a:Addr}{news:List Value}
  (hroom:n+m≤cap) (hs:∀W,Zk L h W→∀(j:Nat) u,news[j]?=some u→W.cell? (a.add j)=some u) (hnl:news.length=m*sz) (hk:G4 L b (o+n*sz) news fun L'=>K (.slice (some ⟨b,o,none⟩) (n+m) cap) L' h) :
  Zep P (Builtin.append_ #[t,t] ty #[.slice (some ⟨b,o,none⟩) n cap,.slice (some a) m c]) L h K:=by
 intro W hg;obtain⟨L',W',hK,hrun,hgd,hkp,hmm,hbm⟩:=Ve (P:=P) hg hk;obtain⟨i,d,zv,g1,g2,g3,rfl⟩:=WO hti;simp only at hz1;refine⟨.slice (some ⟨b,o,none⟩) (n+m) cap,L',h,W',?_,hK,⟨hgd,Zs.mono hkp (fun x hx=>by simp at hx;subst hx;exact hbm),fun x hx=>Or.inl (by rw[← hmm];exact List.mem_map_of_mem hx)⟩⟩;have hfc:=run_firstCells_some (P:=P) W i.size m a m c news (by rw[hnl,hz1]) (hs W hg);rw[hz1]at hfc;simp [Builtin.append_,run_underlying ht,sizeOf,typeInfo,g1,hz1,Builtin.lenOf,hroom,hfc,Addr.add_lit,hrun]
theorem Zko {T e sz by':Nat}(hT:tSh P T = .sl e sz by')(a:Option Addr)(n c:Nat)(k l q:IntKind)(i j m:Int)(h0:0≤i)(h1:i≤j)(h2:j≤m)(h3:m≤(c:Int))(K:Value→Prop):xSl P T (.slice a n c) (some (.int k i)) (some (.int l j)) (some (.int q m)) K=K (.slice (Jo a m.toNat i.toNat sz) (j.toNat-i.toNat) (m.toNat-i.toNat)):=by
 unfold tSh at hT;split at hT
 ·rename_i e' hu;split at hT
  ·rename_i ii hi;refine Ys (fun W=>?_) K;injection hT with hT1 hT2 hT3
   subst hT2;have h4:0≤j:=by omega
   have h5:0≤m:=by omega
   have h6:i≤(j.toNat:Int):=by omega
   have h7:j≤(m.toNat:Int):=by omega
   have h8:m.toNat≤c:=by omega
   have h9:j≤max m 0:=by omega
   have h10:i≤max j 0:=by omega
   simp [Instr.sliceAt,Instr.slice,Instr.sliceBounds,Instr.sliceBound,asIntOf,underlying,hu,YQ hi,h0,h1,h2,h3,h4,h5,h6,h7,h8,h9,h10,Jo]
   try (intro hh;omega)
  ·cases hT
 ·split at hT<;>cases hT
 ·cases hT
end
variable {L:Own} {h:PH} {K:PK}
theorem Yem:tSh prog 27 = .sl 3 1 8:=by kernel_rfl
theorem Src.part {b t m c cap i:Nat}{xs:List Value}(hm:(⟨b,t,xs,cap⟩:Zl)∈L)(hT:t≠4294967295:=by first|decide|omega):Src L h (.slice (some ⟨b,i,none⟩) m c) m ((xs.drop i).take m) :=
 Or.inr ⟨_,_,rfl,fun W hg j u hj=>Js hg hm hT (by
  rw[List.getElem?_take]at hj;split at hj
  ·rwa [List.getElem?_drop]at hj
  ·cases hj)⟩
theorem fI_at {xs:List Int}{x:Int}{k:Nat}(hk:k<xs.length)(h1:at0 xs k=x)(h2:∀j,j<k→at0 xs j≠x):fI xs x=k:=by
 have:=VY (q:=fun k=>decide (at0 xs k=x)) (m:=xs.length) (k:=0) (r:=k) (Nat.zero_le _) (by omega) (fun j _ hj=>by simpa using h2 j hj) (fun _=>by simpa using h1);rw[fI,this,if_neg (by omega)]
theorem fI_no {xs:List Int}{x:Int}(h2:∀j,j<xs.length→at0 xs j≠x):fI xs x = -1:=by
 have:=(Ydl xs x).1;have n:¬x∈xs:=fun hx=>by
  obtain⟨j,hj,e⟩:=List.mem_iff_getElem.1 hx;exact h2 j hj (by rw[← Yh hj,e])
 unfold fI at *;split
 ·rfl
 ·rename_i c;rw[if_neg c]at this;exact absurd (this (by omega)) n
theorem Zow {xs:List Int}{b cap:Nat}(x:Int)(hl:xs.length≤1000):Zb prog 340 [.slice (some ⟨b,0,none⟩) xs.length cap,.int .i64 x] [⟨b,3,xs.map (.int .i64),cap⟩] h fun v L' h'=>v = .int .i64 (fI xs x)∧L'=[⟨b,3,xs.map (.int .i64),cap⟩]∧h'=h:=by
 refine Z5 func340 rfl (rs:=[_]) rfl rfl ZW (by kernel_rfl) rfl rfl fun ap nd=>?_;have hn:h b=noC:=ap.1;clear ap nd;refine xx ?_;refine Vk (0:Nat) (fun k=>k≤xs.length∧∀j,j<k→at0 xs j≠x) (fun k=>[(8,.int .i64 k),(7,.int .i64 xs.length),(0,.slice (some ⟨b,0,none⟩) xs.length cap),(1,.int .i64 x)]) (fun k=>xs.length-k) ?_ ?_ ?_
 ·exact⟨Nat.zero_le _,fun j hj=>by omega⟩
 ·simp [Ent,List.lookup,Wv]
 rintro k ⟨k1,k2⟩;by_cases c1:k<xs.length
 ·by_cases c2:x=at0 xs k
  ·have e:=fI_at c1 c2.symm k2;simp -dsimp -implicitDefEqProofs (disch:=first|with_reducible assumption|omega) [go_sem,W8];exact ZP ⟨by rw[e],rfl,rfl⟩
  ·simp -dsimp -implicitDefEqProofs (disch:=first|with_reducible assumption|omega) [go_sem,W8];refine⟨k+1,⟨by omega,fun j hj=>?_⟩,by omega,by simp [Ent,List.lookup],Za.refl _ _⟩;by_cases e:j=k
   ·subst e;exact fun e=>c2 e.symm
   ·exact k2 j (by omega)
 ·have e:=fI_no (xs:=xs) (x:=x) fun j hj=>k2 j (by omega);refine xx ?_;exact ZP ⟨by rw[e],rfl,rfl⟩
theorem Znt {xs:List Int}(o:Option (Nat×Nat))(ho:okO o xs.length)(hl:xs.length≤1000)(x:Int)(hx : -9223372036854775808≤x∧x≤9223372036854775807)(hm:∀b c,o=some (b,c)→(⟨b,3,xs.map (.int .i64),c⟩:Zl)∈L)(hk:K (.int .i64 (fI xs x)) L h) :
  Zb prog 340 [ovs o xs.length,.int .i64 x] L h K:=by
 cases o with
 | none =>
  have h0:xs.length=0:=ho;have h1:=List.length_eq_zero_iff.1 h0;subst h1;refine Zfy (zs:=[]) _ x (YO h .i64) hx fun i i1 i2 i3=>?_;have:i = -1:=by
   have:¬ 0≤i:=fun hi=>by have:=i3.1 hi;cases this
   omega
  rw[this];exact hk
 | some p=>exact Zb.frame1 (hm p.1 p.2 rfl) (Zow x hl) hk
def Zkq (xs:List Int)(i j:Nat):List Int:=xs.take i++xs.drop j
theorem Zzw {xs:List Int}{i j:Nat}(hij:i≤j)(hj:j≤xs.length):(Zkq xs i j).length=xs.length-(j-i):=by simp [Zkq];omega
theorem Zlx {xs:List Int}(o:Option (Nat×Nat))(ho:okO o xs.length)(hl:xs.length≤1000)(i j:Nat)(hij:i≤j)(hj:j≤xs.length)
  (hk:K (ovs o (Zkq xs i j).length) (oent 3 1 o ((Zkq xs i j).map (.int .i64)) L) h) :
  Zb prog 283 [ovs o xs.length,.int .i64 i,.int .i64 j] (oent 3 1 o (xs.map (.int .i64)) L) h K:=by
 have hd:=Zzw hij hj
 cases o with
 | none =>
  have h0:xs.length=0:=ho;have h1:=List.length_eq_zero_iff.1 h0;subst h1;have i0:i=0:=by simp at hj;omega
  have j0:j=0:=by simpa using hj
  subst i0;subst j0;simp only[ovs,oent]at hk ⊢;refine ZR func283 rfl (rs:=[_]) rfl rfl ZW (by kernel_rfl) rfl rfl ?_;simp -dsimp -implicitDefEqProofs (disch:=first|with_reducible assumption|omega) [go_sem,Zko Yem];exact ZP hk
 | some p =>
  obtain⟨b,cap⟩:=p;have hcap:xs.length≤cap:=ho.1;simp only[YH,Z7,Nat.mul_one]at hk ⊢;refine Z5 func283 rfl (rs:=[_]) rfl rfl ZW (by kernel_rfl) rfl rfl fun ap nd=>?_;have hn:h b=noC:=ap.1;clear ap nd;by_cases c1:i=j
  ·subst c1;have e:Zkq xs i i=xs:=List.take_append_drop i xs;rw[e]at hk;simp -dsimp -implicitDefEqProofs (disch:=first|with_reducible assumption|omega) [go_sem,Zko Yem];exact ZP hk
  ·simp -dsimp -implicitDefEqProofs (disch:=first|with_reducible assumption|omega) [go_sem,Zko Yem];refine Ym (.tk 0 (.tk 1 (.tk 2 (.tk 3 (.tk 4 (.tk 5 (.o1 6 (.tk 7 (.fin)) (.nil)))))))) (by kernel_rfl) (by kernel_rfl) L (Za.tail _ _ _) ?_;simp -dsimp -implicitDefEqProofs (disch:=first|with_reducible assumption|omega) [go_sem,Uf Yem];obtain⟨q,hq,hqj⟩:∃q,Jo (some ⟨b,0,none⟩) cap j 1=some ⟨b,q,none⟩∧(j<xs.length→q=j):=by
    unfold Jo;split
    ·exact⟨0,rfl,fun x=>by omega⟩
    ·exact⟨j,by simp [Addr.add];omega,fun _=>rfl⟩
   rw[hq];obtain⟨n,hn2⟩:∃n,n=xs.length:=⟨_,rfl⟩
   refine Zpj (e:=3) (sz:=1) (by kernel_rfl) JM rfl (n:=i) (m:=xs.length-j) (news:=(xs.drop j).map (Value.int .i64)) (by omega) (fun W hg m u hu=>?_) (by simp) ?_
   ·by_cases cj:j<xs.length
    ·rw[hqj cj];refine Js hg (b:=b) (o:=j) List.mem_cons_self (by decide) ?_
     rwa [List.map_drop,List.getElem?_drop]at hu
    ·rw[List.drop_eq_nil_of_le (by omega)]at hu
     cases hu
   refine xx ?_
   refine⟨by omega,fun z hz=>by
    rw[← List.map_drop]at hz;obtain⟨w,_,rfl⟩:=List.mem_map.1 hz
    rfl,?_⟩
   refine xkp (Za.tail _ _ _) ?_;have hcut:Jo (some ⟨b,0,none⟩) cap (i+(xs.length-j)) 1=some ⟨b,i+(xs.length-j),none⟩:=by
    unfold Jo;rw[if_neg (by omega)];simp [Addr.add]
    try (intro e;omega)
   have e4:((i:Int)+((xs.length-j:Nat):Int)).toNat=i+(xs.length-j):=by omega
   simp -dsimp -implicitDefEqProofs (disch:=first|with_reducible assumption|omega) [go_sem,Zdi Yem,e4,hcut];refine Ycz (by kernel_rfl) JM rfl (by omega) ?_;refine xx ?_;have hwl:(wr (xs.map (Value.int .i64)) i ((xs.drop j).map (Value.int .i64)))=(xs.take i++xs.drop j++xs.drop (i+(xs.length-j))).map (Value.int .i64):=by
    rw[Jw _ _ _ (by simp;omega)];simp [List.map_drop,List.map_take]
   rw[← List.map_drop,hwl];refine⟨by simp;omega,?_⟩;have e3:=GP b 3 cap (i+(xs.length-j)) (wr ((xs.take i++xs.drop j++xs.drop (i+(xs.length-j))).map (Value.int .i64)) (i+(xs.length-j)) (List.replicate (xs.length-(i+(xs.length-j))) (Value.int .i64 0))) L h;have e2:(wr ((xs.take i++xs.drop j++xs.drop (i+(xs.length-j))).map (Value.int .i64)) (i+(xs.length-j)) (List.replicate (xs.length-(i+(xs.length-j))) (Value.int .i64 0))).take (i+(xs.length-j))=(Zkq xs i j).map (.int .i64):=by
    have hL:(Zkq xs i j).length=i+(xs.length-j):=by omega
    rw[Jw _ _ _ (by simp;omega),List.append_assoc,List.take_append_of_le_length (by simp;omega),List.take_take,Nat.min_self,← List.map_take]
    congr 1
    rw[show xs.take i++xs.drop j=Zkq xs i j from rfl,List.take_append_of_le_length (by omega),List.take_of_length_le (by omega)]
   rw[e2]at e3;rw[show (Zkq xs i j).length=i+(xs.length-j) by omega]at hk;exact⟨_,_,e3,hk⟩
abbrev lnB (bl:Nat)(o:Option (Nat×Nat))(n:Nat):Zl:=⟨bl,220,[ovs o n],1⟩
abbrev lnL (o:Option (Nat×Nat))(xs:List Int)(L:Own):Own:=oent 3 1 o (xs.map (.int .i64)) L
theorem Zqu {xs:List Int}{bl:Nat}(o:Option (Nat×Nat))(ho:okO o xs.length)(hl:xs.length≤1000)(x:Int)(hx : -9223372036854775808≤x∧x≤9223372036854775807)
  (hk:K (.int .i64 (fI xs x)) (lnB bl o xs.length::lnL o xs L) h):Zb prog 282 [.pointer (some ⟨bl,0,none⟩),.int .i64 x] (lnB bl o xs.length::lnL o xs L) h K:=by
 refine Z5 func282 rfl (rs:=[_]) rfl rfl ZW (by kernel_rfl) rfl rfl fun ap nd=>?_;have hb:h bl=noC:=ap.1;clear ap nd;refine xx ?_;refine Znt o ho hl x hx (fun b c e=>?_) ?_
 ·subst e;simp [oent]
 refine xx ?_;exact ZP hk
theorem Yrd (b cap i n:Nat)(hi:i≤n)(hc:n≤cap):∃q,Jo (some ⟨b,0,none⟩) cap i 1=some ⟨b,q,none⟩∧(i<n→q=i):=by
 unfold Jo;split
 ·exact⟨0,rfl,fun x=>by omega⟩
 ·exact⟨i,by simp [Addr.add];try omega,fun _=>rfl⟩
theorem Zzd {xs:List Int}{bl:Nat}(o:Option (Nat×Nat))(ho:okO o xs.length)(hl:xs.length≤1000)(i j:Nat)(hij:i≤j)(hj:j≤xs.length)(hr:∀z∈xs,-9223372036854775808≤z∧z≤9223372036854775807)
  (hk:∀h' r,PH.le h h'→Ints h' .i64 r ((xs.drop i).take (j-i))→K r (lnB bl o (Zkq xs i j).length::lnL o (Zkq xs i j) L) h') :
  Zb prog 163 [.pointer (some ⟨bl,0,none⟩),.int .i64 i,.int .i64 j] (lnB bl o xs.length::lnL o xs L) h K:=by
 cases o with
 | none =>
  have h0:xs.length=0:=ho;have h1:=List.length_eq_zero_iff.1 h0;subst h1;have i0:i=0:=by simp at hj;omega
  have j0:j=0:=by simpa using hj
  subst i0;subst j0;have hk:=hk h (.slice none 0 0) (PH.le_refl h) (YO h .i64);simp only[ovs,oent,lnB,lnL]at hk ⊢;refine Z5 func163 rfl (rs:=[_]) rfl rfl ZW (by kernel_rfl) rfl rfl fun ap nd=>?_;have hb:h bl=noC:=ap.1;clear ap nd;simp -dsimp -implicitDefEqProofs (disch:=first|with_reducible assumption|omega) [go_sem,Zdi Yem,Jo];refine Z2 (t:=27) (e:=3) (sz:=1) (bytes:=8) (z:=[.int .i64 0]) (by kernel_rfl) JM rfl rfl rfl rfl (by decide) [] _ none 0 [] rfl rfl (Or.inl ⟨rfl,rfl,rfl⟩) (m:=0) (news:=[]) rfl (fun u hu=>by cases hu) (by decide) (by omega) ?_;intro o1 j1 j2 j3;obtain rfl:o1=none:=j3.2 ⟨rfl,rfl⟩;simp only[ovs,oent,List.nil_append];refine xx ?_;have key:∀ {K':PK} {L':Own},K' (.slice none 0 0) L' h→Zb prog 283 [.slice none 0 0,.int .i64 0,.int .i64 0] L' h K':=fun {K' L'} hK =>
   Zlx (xs:=[]) none ho hl 0 0 (Nat.le_refl _) (Nat.le_refl _) hK
  refine key ?_;refine xx ?_;exact ZP hk
 | some p =>
  obtain⟨b,cap⟩:=p;have hcap:xs.length≤cap:=ho.1;simp only[YH,Z7,Nat.mul_one,lnB,lnL]at hk ⊢;refine Z5 func163 rfl (rs:=[_]) rfl rfl ZW (by kernel_rfl) rfl rfl fun ap nd=>?_;have hb:h bl=noC:=ap.1;have hbb:bl≠b:=fun e=>nd.1.1 e.symm;clear ap nd;simp -dsimp -implicitDefEqProofs (disch:=first|with_reducible assumption|omega) [go_sem,Zdi Yem];obtain⟨q,hq,hqi⟩:=Yrd b cap i xs.length (by omega) hcap;rw[hq];have hd:(xs.drop q).take (j-i)=(xs.drop i).take (j-i):=by
   by_cases c:i<xs.length
   ·rw[hqi c]
   ·rw[show j-i=0 by omega];simp
  refine Z2 (t:=27) (e:=3) (sz:=1) (bytes:=8) (z:=[.int .i64 0]) (by kernel_rfl) JM rfl rfl rfl rfl (by decide) [] _ none 0 [] rfl rfl (Src.part (b:=b) (t:=3) (i:=q) (xs:=xs.map (.int .i64)) (List.mem_cons_of_mem _ List.mem_cons_self)) (m:=j-i) (by simp;omega) (fun u hu=>?_) (by simp [maxLen];omega) (by omega) ?_
  ·have:=List.mem_of_mem_drop (List.mem_of_mem_take hu);obtain⟨w,_,rfl⟩:=List.mem_map.1 this
   rfl
  intro o1 j1 j2 j3;rw[← List.map_drop,← List.map_take,hd];simp only[List.nil_append,Nat.zero_add]at j1 j2 ⊢;have m1:apB o1 bl:=j2.head;simp -dsimp -implicitDefEqProofs (disch:=first|with_reducible assumption|omega) [go_sem,ZQ m1];refine WL (n:=j-i) j1 (by simp;omega) (by omega) j2 fun h1 le1 sl=>?_;refine Zem ?_;have key:∀ {K':PK} {L':Own},K' (.slice (some ⟨b,0,none⟩) (Zkq xs i j).length cap) (⟨b,3,(Zkq xs i j).map (.int .i64),cap⟩::L') h1→Zb prog 283 [.slice (some ⟨b,0,none⟩) xs.length cap,.int .i64 i,.int .i64 j] (⟨b,3,xs.map (.int .i64),cap⟩::L') h1 K':=fun {K' L'} hK=>by
   have:=Zlx (L:=L') (h:=h1) (K:=K') (some (b,cap)) ho hl i j hij hj (by simpa only[YH,Z7,Nat.mul_one] using hK)
   simpa only[YH,Z7,Nat.mul_one] using this
  refine Zb.ap (key fun ap=>?_);simp only[Ap]at ap;obtain⟨ab,abl,_⟩:=ap;have il:Ints h1 .i64 (ovs o1 (j-i)) ((xs.drop i).take (j-i)):=by
   refine⟨?_,fun z hz=>hr z (List.mem_of_mem_drop (List.mem_of_mem_take hz))⟩;have:((xs.drop i).take (j-i)).length=j-i:=by simp;omega
   rw[this,List.map_take,List.map_drop];exact sl
  obtain⟨x1,y1,e1,_⟩:=Z8 j1;rw[e1]at il ⊢;refine xx ?_;exact Yaz (List.Perm.swap _ _ _) (ZP (hk h1 _ le1 il))
theorem Znh {xs:List Int}{bl:Nat}(o:Option (Nat×Nat))(ho:okO o xs.length)(hl:xs.length≤1000)(m:Int)(hm:0≤m∧m≤9223372036854775807)(hr:∀z∈xs,-9223372036854775808≤z∧z≤9223372036854775807)
  (hk:∀h' r,PH.le h h'→Ints h' .i64 r (xs.take m.toNat)→K r (lnB bl o (xs.drop m.toNat).length::lnL o (xs.drop m.toNat) L) h') :
  Zb prog 56 [.pointer (some ⟨bl,0,none⟩),.int .i64 m] (lnB bl o xs.length::lnL o xs L) h K:=by
 obtain⟨a,c,ea,hac⟩:=Z8 ho;have e:max 0 (min m xs.length)=((min m.toNat xs.length:Nat):Int):=by omega
 have e2:Zkq xs 0 (min m.toNat xs.length)=xs.drop m.toNat:=by
  simp only[Zkq,List.take_zero,List.nil_append];by_cases c:m.toNat≤xs.length
  ·rw[Nat.min_eq_left c]
  ·rw[Nat.min_eq_right (by omega),List.drop_length,List.drop_eq_nil_of_le (by omega)]
 have e3:(xs.drop 0).take (min m.toNat xs.length-0)=xs.take m.toNat:=by
  rw[List.drop_zero,Nat.sub_zero];by_cases c:m.toNat≤xs.length
  ·rw[Nat.min_eq_left c]
  ·rw[Nat.min_eq_right (by omega),List.take_length,List.take_of_length_le (by omega)]
 refine Z5 func56 rfl (rs:=[_]) rfl rfl ZW (by kernel_rfl) rfl rfl fun ap nd=>?_;have hb:h bl=noC:=ap.1;clear ap nd;refine xx ?_;refine xany (.tk 0 (.tk 1 (.tk 2 (.tk 3 (.tk 4 (.tk 5 (.tk 6 (.tk 7 (.o1 8 (.tk 9 (.o1 10 (.o1 11 (.o1 12 (.tk 13 (.fin)) (.nil)) (.nil)) (.nil))) (.nil)))))))))) (by kernel_rfl) (by kernel_rfl) ?_;refine xx ?_;rw[ea];simp -dsimp -implicitDefEqProofs (disch:=first|with_reducible assumption|omega) [go_sem,Yi,e];rw[← ea];refine Zzd o ho hl 0 (min m.toNat xs.length) (by omega) (by omega) hr fun h1 r1 le1 i1=>?_;rw[e3]at i1;rw[e2];obtain⟨ra,rc,rfl,_⟩:=i1.open;refine xx ?_;have hk:=hk h1 _ le1 i1;rw[List.length_drop,List.length_take]at hk;exact ZP hk
theorem Ztz {xs:List Int}{bl:Nat}(o:Option (Nat×Nat))(ho:okO o xs.length)(hl:xs.length<256)(x:Int)(hx:0≤x∧x≤9223372036854775807)(hn:¬x∈xs)
  (hk:∀o',okO o' (xs++[x]).length→K (.int .i64 0) (lnB bl o' (xs++[x]).length::lnL o' (xs++[x]) L) h) :
  Zb prog 162 [.pointer (some ⟨bl,0,none⟩),.int .i64 x] (lnB bl o xs.length::lnL o xs L) h K:=by
 obtain⟨a,c,ea,hac⟩:=Z8 ho;have hf:fI xs x<0:=Int.not_le.1 fun c=>hn ((Ydl xs x).1 c);refine Z5 func162 rfl (rs:=[_]) rfl rfl ZW (by kernel_rfl) rfl rfl fun ap nd=>?_;have hb:h bl=noC:=ap.1;have hbo:apB o bl:=by
  cases o with
  | none=>trivial
  | some p=>exact nd.1.1
 clear ap nd;refine xx ?_;refine Zqu o ho (by omega) x (by omega) ?_;refine xx ?_;rw[ea];refine xx ?_;refine Z0 fun b1 nb1 zb1=>?_;(try simp only[ZU]at nb1);refine xx ?_;rw[← ea];refine Z2 (t:=27) (e:=3) (sz:=1) (bytes:=8) (z:=[.int .i64 0]) (by kernel_rfl) JM rfl rfl rfl rfl (by decide) [_,_] L o xs.length (xs.map (.int .i64)) ho (by simp) (Src.own List.mem_cons_self) (m:=1) (news:=[.int .i64 x]) rfl (fun u hu=>by simp at hu;subst hu;rfl) (by simp [maxLen];omega) (by omega) ?_;intro o' j1 j2 j3;have hk:=hk o' (by simpa using j1);simp only[lnB,lnL,List.length_append,List.length_singleton,List.map_append,List.map_cons,List.map_nil]at hk;refine xx ?_;exact ZO (ZP hk)
theorem Zya {es:List (Int×Value)}{n:Int}{v:Value}(hn:Zxp es n=none):Zxx es n v=es++[(n,v)]:=by
 induction es with
 | nil=>rfl
 | cons e es ih =>
  simp only[Zxp]at hn;split at hn
  ·cases hn
  ·rename_i c;rw[Zxx,if_neg c,ih hn];rfl
def Ykh (xs:List Int):List (Int×Value):=xs.map fun x=>(x,.bool true)
theorem Zyg {xs:List Int}{x:Int}(hn:¬x∈xs):Zxp (Ykh xs) x=none:=by
 induction xs with
 | nil=>rfl
 | cons a l ih =>
  simp only[List.mem_cons,not_or]at hn;simp only[Ykh,List.map_cons,Zxp];rw[if_neg hn.1];exact ih hn.2
theorem mapB:prog.underlying 221=some (.map 3 4):=by kernel_rfl
theorem intB:prog.underlying 3=some (.int .i64):=by kernel_rfl
theorem zeroB (W:World):(zeroValue 4:Sem Value).run prog W = .ok (.bool false) W:=by kernel_rfl
theorem Znn {xs:List Int}(v:Value)(hv:Ints h .i64 v xs)(hl:xs.length≤256)(h0:∀z∈xs,0≤z)(hn:xs.Nodup)
  (hk:∀bl o,ZU bl L→h bl=noC→okO o xs.length→K (.tuple #[.pointer (some ⟨bl,0,none⟩),.int .i64 0]) (lnB bl o xs.length::lnL o xs L) h) :
  Zb prog 53 [v] L h K:=by
 have hnum:=hv.num;obtain⟨a,c,rfl,hcap,hln,_,hcs⟩:=hv.open;have hpos:∀k,k<xs.length→0≤at0 xs k:=fun k hk=>by rw[← Yh hk];exact h0 _ (List.getElem_mem hk)
 refine ZR func53 rfl (rs:=[_,_]) rfl rfl ZW (by kernel_rfl) rfl rfl ?_;refine xx ?_;refine Z0 fun bl n_bl h_bl=>?_;(try simp only[ZU]at n_bl);refine xx ?_;refine Vk (0:Nat) (fun k=>k≤xs.length) (fun k=>[(17,.int .i64 k),(16,.int .i64 xs.length),(15,.slice a xs.length c),(0,.slice a xs.length c),(4,.pointer (some ⟨bl,0,none⟩))]) (fun k=>xs.length-k) ?_ ?_ ?_
 ·exact Nat.zero_le _
 ·simp [Ent,List.lookup,Wv]
 intro k hk1;by_cases c1:k<xs.length
 ·have hp:=hpos k c1;simp -dsimp -implicitDefEqProofs (disch:=first|with_reducible assumption|omega) [go_sem,idx hcs];exact⟨k+1,by omega,by omega,by simp [Ent,List.lookup],Za.refl _ _⟩
 obtain rfl:k=xs.length:=by omega
 clear c1 hk1;refine xx ?_;refine Zqx fun bm n_bm h_bm=>?_;have hmb:bl≠bm:=n_bm.1;have hnot:∀k,k<xs.length→¬at0 xs k∈xs.take k:=fun k hk hm=>by
  obtain⟨j,hj,e⟩:=List.mem_iff_getElem.1 hm;simp only[List.length_take]at hj;rw[List.getElem_take,← Yh hk]at e;exact(List.pairwise_iff_getElem.1 hn) j k (by omega) hk (by omega) e
 have htk:∀k,k<xs.length→xs.take (k+1)=xs.take k++[at0 xs k]:=fun k hk=>by rw[List.take_succ_eq_append_getElem hk,Yh hk]
 refine xx ?_;refine YJ (γ:=Nat) 0 (fun k=>k≤xs.length) (fun k=>[(27,.int .i64 k),(26,.int .i64 xs.length),(25,.slice a xs.length c),(0,.slice a xs.length c),(4,.pointer (some ⟨bl,0,none⟩)),(7,.map (some bm))])
  (fun k=>⟨bm,4294967295,Zpd .i64 (Ykh (xs.take k)),0⟩::⟨bl,220,[.slice none 0 0],1⟩::L) (fun _=>h) (fun k=>xs.length-k) ?_ ?_ ?_ ?_
 ·exact Nat.zero_le _
 ·simp [Ent,List.lookup]
 ·exact Za.refl _ _
 intro k hk1;by_cases c1:k<xs.length
 ·have hg:=Zyg (hnot k c1);simp -dsimp -implicitDefEqProofs (disch:=first|with_reducible assumption|omega) [go_sem,idx hcs];refine Zug mapB intB zeroB (Ykh (xs.take k)) List.mem_cons_self ?_;rw[hg];refine xx ?_;refine Zth mapB intB [] _ (Ykh (xs.take k)) ?_;rw[Zya hg];refine xx ?_;refine⟨k+1,by omega,by omega,by simp [Ent,List.lookup],?_⟩;rw[htk k c1];simp only[Ykh,List.map_append,List.map_cons,List.map_nil,List.nil_append];exact Za.refl _ _
 obtain rfl:k=xs.length:=by omega
 clear c1 hk1;refine xx ?_;refine YJ (γ:=Nat×Option (Nat×Nat)) (0,none) (fun s=>s.1≤xs.length∧okO s.2 s.1) (fun s=>[(39,.int .i64 s.1),(38,.int .i64 xs.length),(37,.slice a xs.length c),(4,.pointer (some ⟨bl,0,none⟩))])
  (fun s=>lnB bl s.2 s.1::lnL s.2 (xs.take s.1) L) (fun _=>h) (fun s=>xs.length-s.1) ?_ ?_ ?_ ?_
 ·exact⟨Nat.zero_le _,rfl⟩
 ·simp [Ent,List.lookup]
 ·exact Za.tail _ _ _
 rintro⟨k,o⟩ ⟨k1,k2⟩;simp only at k1 k2 ⊢;by_cases c1:k<xs.length
 ·have hp:=hpos k c1;have hq:=hnum k;have hlen:(xs.take k).length=k:=by rw[List.length_take];omega
  simp -dsimp -implicitDefEqProofs (disch:=first|with_reducible assumption|omega) [go_sem,idx hcs];have key:∀ {K':PK},(∀o',okO o' (k+1)→K' (.int .i64 0) (lnB bl o' (k+1)::lnL o' (xs.take (k+1)) L) h)→Zb prog 162 [.pointer (some ⟨bl,0,none⟩),.int .i64 (at0 xs k)] (lnB bl o k::lnL o (xs.take k) L) h K':=fun {K'} hK=>by
   have:=Ztz (L:=L) (h:=h) (K:=K') (xs:=xs.take k) (bl:=bl) o (by rw[hlen];exact k2) (by omega) (at0 xs k) (by omega) (hnot k c1) fun o' h'=>by
    rw[← htk k c1]at h' ⊢;have e:(xs.take (k+1)).length=k+1:=by rw[List.length_take];omega
    rw[e]at h' ⊢;exact hK o' h'
   rwa [hlen]at this
  refine key fun o' j1=>?_;refine xx ?_;exact⟨k+1,o',⟨by omega,j1⟩,by omega,by simp [Ent,List.lookup],Za.refl _ _⟩
 ·obtain rfl:k=xs.length:=by omega
  rw[List.take_length];refine xx ?_;exact ZP (hk bl o n_bl h_bl k2)
open Go.RowKit Go.Proofs Go.Bl Go.Proofs.Tryz
def Gt (m:Zc):Bool:=decide (m.status=2∨m.status=3)
def cP (l:List Zc)(i:Nat):List Nat:=(List.range i).filter fun j=>Gt (gr ZT l j)
theorem Zjv (l:List Zc)(i:Nat):cP l (i+1)=if Gt (gr ZT l i) then cP l i++[i] else cP l i:=by
 unfold cP;rw[List.range_succ,List.filter_append];by_cases c:Gt (gr ZT l i)=true
 ·simp [c]
 ·simp [c]
theorem Ylh {l:List Zc}{i j:Nat}(hj:j∈cP l i):j<i:=by
 unfold cP at hj;exact List.mem_range.1 (List.mem_filter.1 hj).1
theorem Zck (l:List Zc)(i:Nat):(cP l i).length≤i:=by
 have:=List.length_filter_le (fun j=>Gt (gr ZT l j)) (List.range i)
 rwa [List.length_range]at this
theorem Yop {l:List Zc}{i j:Nat}(hj:j∈cP l i):Gt (gr ZT l j)=true:=by
 unfold cP at hj;exact(List.mem_filter.1 hj).2
def thI (l:List Zc)(ks:List Int)(i:Nat):List Nat:=(cP l i).filter fun(j:Nat)=>Vb ks j
theorem G0 (l:List Zc)(ks:List Int)(i:Nat):(thI l ks i).length≤i:=Nat.le_trans (List.length_filter_le _ _) (Zck l i)
theorem GE (l:List Zc)(ks:List Int)(i:Nat):thI l ks (i+1)=if Gt (gr ZT l i)&&Vb ks i then thI l ks i++[i] else thI l ks i:=by
 unfold thI;rw[Zjv];by_cases c:Gt (gr ZT l i)=true
 ·by_cases c2:Vb ks i=true
  ·simp [c,c2]
  ·simp [c,c2]
 ·simp [c]
def Zie (l:List Zc)(i:Nat):Int:=(gr ZT l i).eff
def Zap (l:List Zc):Int:=tot ((cP l l.length).map (Zie l))
def GN (l:List Zc)(ks:List Int):Int:=tot ((thI l ks l.length).map (Zie l))
theorem WJ (x:Int)(xs:List Int):tot (x::xs)=x+tot xs:=by
 have:∀k,YF (x::xs) (k+1)=x+YF xs k:=fun k=>by
  induction k with
  | zero=>simp [YF,at0]
  | succ k ih=>rw[YF,ih,YF];simp only[at0,List.getD_cons_succ];omega
 exact this xs.length
theorem Zbu {α:Type}(f:α→Int)(q:α→Bool):∀(xs:List α),(∀x∈xs,0≤f x)→0≤tot ((xs.filter q).map f)∧tot ((xs.filter q).map f)≤tot (xs.map f)
 | [],_=>⟨Int.le_refl _,Int.le_refl _⟩
 | x::xs,h0=>by
  have ih:=Zbu f q xs fun y hy=>h0 y (List.mem_cons_of_mem _ hy);have hx:=h0 x List.mem_cons_self;rw[List.filter_cons];split
  ·rw[List.map_cons,List.map_cons,WJ,WJ];omega
  ·rw[List.map_cons,WJ];omega
theorem Ydq {l:List Zc}(hm:∀x∈l,Ze x)(i:Nat):0≤Zie l i∧Zie l i≤18446744073709551615:=by
 unfold Zie;by_cases c:i<l.length
 ·rw[Yc c];exact(hm _ (List.getElem_mem c)).u _ (by simp)
 ·have:gr ZT l i=ZT:=by
   unfold gr;rw[List.getD_eq_getElem?_getD,List.getElem?_eq_none (by omega)];rfl
  rw[this];decide
theorem Jz {l:List Zc}{ks:List Int}(hm:∀x∈l,Ze x):0≤GN l ks∧GN l ks≤Zap l:=Zbu _ _ _ fun x _=>(Ydq hm x).1
def Zcb (s:Zf):Int:=GN s.members s.marks
def U0 (s:Zf):Int:=Zap s.members
def Jg (s:Zf):Int:=Yei s.par.delay (Uu s.calm (Zcb s) (U0 s)).1 s.emer
def efC (l:List Zc)(ix:List Nat):List Value:=(ix.map (Zie l)).map (.int .u64)
theorem Uy (l:List Zc)(ix:List Nat):(efC l ix).length=ix.length*1:=by simp [efC]
theorem GF (l:List Zc)(ix:List Nat)(k:Nat):efC l (ix++[k])=efC l ix++[.int .u64 (Zie l k)]:=by simp [efC]
theorem Zdy {l:List Zc}(hm:∀x∈l,Ze x){ix:List Nat}{h:PH}{v:Value}(sl:Sl h v ix.length 1 (efC l ix)):Ints h .u64 v (ix.map (Zie l)):=by
 refine⟨by rw[List.length_map];exact sl,fun z hz=>?_⟩;obtain⟨i,_,rfl⟩:=List.mem_map.1 hz;rw[show IntKind.u64.min=0 by decide,show IntKind.u64.max=18446744073709551615 by decide];exact Ydq hm i
theorem Y5 {e sz:Nat}(o:Option (Nat×Nat))(xs:List Value)(L:Own):oent e sz o xs L=oent e sz o xs []++L:=by cases o<;>rfl
theorem Yrr {ks:List Int}{k:Nat}{b:Bool}(e:Vb ks k=b):Vb ks (k:Int)=b:=e
theorem Zia {l:List Zc}{ks:List Int}(v kv:Value)(hd0:Zj YE 6 h v l)(hm:∀x∈l,Ze x)(hkv:Ints h .u8 kv ks)(hn:l.length≤1000)(hA:Zap l≤18446744073709551615)
  (hk:∀h',PH.le h h'→K (.tuple #[.int .u64 (GN l ks),.int .u64 (Zap l),.int .i64 0]) L h'):Zb prog 187 [v,kv] L h K:=by
 have hP:=Jz (ks:=ks) hm;have hkv0:=hkv;obtain⟨a,c,rfl,hc,hl,_,hd⟩:=hd0.open;obtain⟨ka,kc,rfl,_⟩:=hkv.open;refine ZR func187 rfl (rs:=[_,_,_]) rfl rfl ZW (by kernel_rfl) rfl rfl ?_;refine xx ?_;refine YJ (γ:=Nat×Option (Nat×Nat)×Option (Nat×Nat)) (0,none,none) (fun s=>s.1≤l.length∧okO s.2.1 (cP l s.1).length∧okO s.2.2 (thI l ks s.1).length∧apO s.2.1 (oent 22 1 s.2.2 (efC l (thI l ks s.1)) L) h∧apO s.2.2 L h)
  (fun s=>[(13,.int .i64 s.1),(12,.int .i64 l.length),(11,.slice a l.length c),(8,ovs s.2.1 (cP l s.1).length),(7,ovs s.2.2 (thI l ks s.1).length),(1,.slice ka ks.length kc)])
  (fun s=>oent 22 1 s.2.1 (efC l (cP l s.1)) (oent 22 1 s.2.2 (efC l (thI l ks s.1)) L)) (fun _=>h) (fun s=>l.length-s.1) ?_ ?_ ?_ ?_
 ·exact⟨Nat.zero_le _,rfl,rfl,trivial,trivial⟩
 ·simp [Ent,List.lookup,Wv,ovs,cP,thI]
 ·exact Za.refl _ _
 rintro⟨k,o1,o2⟩ ⟨i1,i2,i3,i4,i5⟩;simp only at i1 i2 i3 i4 i5 ⊢;by_cases c1:k<l.length
 ·have hcn:(cP l k).length≤k:=Zck l k;have htn:(thI l ks k).length≤k:=G0 l ks k;have hs1:=Zjv l k;have hs2:=GE l ks k;simp -dsimp -implicitDefEqProofs (disch:=first|with_reducible assumption|omega) [go_sem,↓Zci ZT (by decide) hd,YE];refine Z0 fun b7 nb7 zb7=>?_;(try simp only[ZU]at nb7);have n7:=Yt (Yt nb7);simp -dsimp -implicitDefEqProofs (disch:=first|with_reducible assumption|omega) [go_sem,YE];refine UW (gr ZT l k) ?_;by_cases c2:Gt (gr ZT l k)=true
  ·have c2':(gr ZT l k).status=2∨(gr ZT l k).status=3:=by simpa [Gt] using c2
   rw[decide_eq_true c2'];rw[if_pos c2]at hs1;rw[c2,Bool.true_and]at hs2;simp -dsimp -implicitDefEqProofs (disch:=first|with_reducible assumption|omega) [go_sem,YE];refine Z0 fun b8 nb8 zb8=>?_;(try simp only[ZU]at nb8);refine xx ?_;refine Z2 (t:=25) (e:=22) (sz:=1) (bytes:=8) (by kernel_rfl) Ux rfl rfl rfl rfl (by decide) [_,_] _ o1 (cP l k).length (efC l (cP l k)) i2 (Uy _ _) (Src.own List.mem_cons_self) (m:=1) (news:=[.int .u64 (gr ZT l k).eff]) rfl (by intro u hu;simp only[List.mem_singleton]at hu;subst hu;rfl) (by simp [maxLen];omega) (by omega) ?_;intro o1' j1 j2 j3;have j4:=ZY (ZY j2);have e1:efC l (cP l k)++[.int .u64 (gr ZT l k).eff]=efC l (cP l (k+1)):=by rw[hs1,GF];rfl
   have e2:(cP l k).length+1=(cP l (k+1)).length:=by rw[hs1];simp
   rw[e2]at j1 ⊢;rw[e1];refine xx ?_;refine Zab (bs:=ks) _ k hkv0 (by omega) ?_;by_cases c3:Vb ks k=true
   ·rw[if_pos c3]at hs2;rw[c3];refine xx ?_;refine Z0 fun b9 nb9 zb9=>?_;(try simp only[ZU]at nb9);refine xx ?_;rw[Y5 (e:=22) o1'];refine Z2 (t:=25) (e:=22) (sz:=1) (bytes:=8) (by kernel_rfl) Ux rfl rfl rfl rfl (by decide) (_::_::_::oent 22 1 o1' _ []) _ o2 (thI l ks k).length (efC l (thI l ks k)) i3 (Uy _ _) (Src.own List.mem_cons_self) (m:=1) (news:=[.int .u64 (gr ZT l k).eff]) rfl (by intro u hu;simp only[List.mem_singleton]at hu;subst hu;rfl) (by simp [maxLen];omega) (by omega) ?_;intro o2' l1 l2 l3;have l4:=ZY (ZY (ZY l2));have l5:=Zeb (e2:=22) (sz2:=1) (cs2:=efC l (thI l ks (k+1))) (YP j4) l4;have e3:efC l (thI l ks k)++[.int .u64 (gr ZT l k).eff]=efC l (thI l ks (k+1)):=by rw[hs2,GF];rfl
    have e4:(thI l ks k).length+1=(thI l ks (k+1)).length:=by rw[hs2];simp
    rw[e4]at l1 ⊢;rw[e3];refine xx ?_;refine⟨k+1,o1',o2',⟨by omega,j1,l1,l5.1,l5.2⟩,by omega,by simp [Ent,List.lookup],?_⟩;rw[← Y5];exact(Za.tail _ _ _).trans ((Za.tail _ _ _).trans (Za.tail _ _ _))
   ·rw[if_neg c3]at hs2;rw[show Vb ks k=false by simpa using c3];refine xx ?_;refine⟨k+1,o1',o2,⟨by omega,j1,by rw[hs2];exact i3,by rw[hs2];exact j4,i5⟩,by omega,by simp [Ent,List.lookup,hs2],?_⟩;rw[hs2];exact(Za.tail _ _ _).trans (Za.tail _ _ _)
  ·have c2':¬((gr ZT l k).status=2∨(gr ZT l k).status=3):=by simpa [Gt] using c2
   rw[decide_eq_false c2'];rw[if_neg c2]at hs1;rw[show Gt (gr ZT l k)=false by simpa using c2,Bool.false_and]at hs2;simp only[Bool.false_eq_true,if_false]at hs2;refine xx ?_;refine⟨k+1,o1,o2,⟨by omega,by rw[hs1];exact i2,by rw[hs2];exact i3,by rw[hs2];exact i4,i5⟩,by omega,by simp [Ent,List.lookup,hs1,hs2],?_⟩;rw[hs1,hs2];exact Za.tail _ _ _
 ·obtain rfl:k=l.length:=by omega
  refine xx ?_;have hcn:(cP l l.length).length≤l.length:=Zck l l.length;have htn:(thI l ks l.length).length≤l.length:=G0 l ks l.length;rw[Y5 (e:=22) o1];refine JP (n:=(thI l ks l.length).length) (oent 22 1 o1 (efC l (cP l l.length)) []) i3 (Uy _ _) (by omega) (fun h1 le1 sl1=>?_) ⟨f165,func165,by decide +kernel,rfl⟩;rw[← Y5 (e:=22) o1];have it:=Zdy hm sl1;refine Ws _ it ?_;rw[show tot ((thI l ks l.length).map (Zie l))=GN l ks from rfl,YC (by omega)];refine xx ?_;refine JP (n:=(cP l l.length).length) [] i2 (Uy _ _) (by omega) (fun h2 le2 sl2=>?_) ⟨f165,func165,by decide +kernel,rfl⟩;have ia:=Zdy hm sl2;refine Ws _ ia ?_;rw[show tot ((cP l l.length).map (Zie l))=Zap l from rfl,YC hA];refine xx ?_;exact ZP (hk h2 (le1.trans le2))
theorem Jp {p:Zd}(ok:Zh p)(hr:Yb p=true){m:Zc}(mo:Ze m)(there:Bool)(mode:Int):Ze (Y2 p m there mode):=by
 have hs:=Ya hr;have us:=mo.u m.score (by simp);have un:=mo.n m.streak (by simp);have ur:=ok.w p.recover (by simp [YA]);have u1:=ok.w p.bias (by simp [YA]);have u2:=ok.w p.biasEm (by simp [YA]);have u3:=ok.w p.scoreCap (by simp [YA])
 cases there with
 | true =>
  rw[Zks];refine⟨fun z hz=>?_,fun z hz=>?_⟩
  ·simp only[List.mem_cons,List.not_mem_nil,or_false]at hz;rcases hz with rfl|rfl|rfl
   ·exact mo.u _ (by simp)
   ·exact mo.u _ (by simp)
   ·unfold Y8;split<;>omega
  ·simp only[List.mem_cons,List.not_mem_nil,or_false]at hz;rcases hz with rfl|rfl|rfl
   ·unfold Yiq;split<;>omega
   ·exact mo.n _ (by simp)
   ·exact mo.n _ (by simp)
 | false =>
  rw[Zjd];refine⟨fun z hz=>?_,fun z hz=>?_⟩
  ·simp only[List.mem_cons,List.not_mem_nil,or_false]at hz;rcases hz with rfl|rfl|rfl
   ·exact mo.u _ (by simp)
   ·exact mo.u _ (by simp)
   ·unfold Ykn Uh;split
    ·omega
    ·split<;>omega
  ·simp only[List.mem_cons,List.not_mem_nil,or_false]at hz;rcases hz with rfl|rfl|rfl
   ·omega
   ·exact mo.n _ (by simp)
   ·exact mo.n _ (by simp)
def ltA (p:Zd)(mode:Int)(m:Zc):Zc:=VN p (Y2 p m false mode) mode
def ltF (p:Zd)(mode:Int)(m:Zc):Zc:=if p.floor<(ltA p mode m).bal then { ltA p mode m with eff:=VB p (ltA p mode m).eff (ltA p mode m).bal } else ltA p mode m
def ltK (p:Zd)(mode:Int)(m:Zc):Nat→Zc
 | 0=>m
 | k+1=>ltF p mode (ltK p mode m k)
def Zev (p:Zd)(mode:Int)(m:Zc):Nat→Nat→Option Nat
 | 0,_=>none
 | f+1,k=>if (ltK p mode m k).bal≤p.floor then some k else Zev p mode m f (k+1)
def Gq (p:Zd)(mode:Int)(m:Zc)(most:Nat):Option Nat:=Zev p mode m (most+1) 0
theorem Zpu {p:Zd}{mode:Int}{m:Zc}{k:Nat}(h:¬(ltK p mode m k).bal≤p.floor)(f:Nat):Zev p mode m (f+1) k=Zev p mode m f (k+1):=by
 rw[Zev,if_neg h]
theorem Zdb {p:Zd}{mode:Int}{m:Zc}:∀(k f:Nat),(∀j,j<k→¬(ltK p mode m j).bal≤p.floor)→Zev p mode m (k+f) 0=Zev p mode m f k
 | 0,f,_=>by rw[Nat.zero_add]
 | k+1,f,h=>by
  rw[show k+1+f=k+(f+1) by omega,Zdb k (f+1) (fun j hj=>h j (by omega)),Zpu (h k (by omega))]
theorem J5 {p:Zd}{mode:Int}{m:Zc}{k most:Nat}(h:∀j,j<k→¬(ltK p mode m j).bal≤p.floor)(hk:k≤most)(h2:(ltK p mode m k).bal≤p.floor):Gq p mode m most=some k:=by
 rw[Gq,show most+1=k+((most-k)+1) by omega,Zdb k _ h,Zev,if_pos h2]
theorem Zco {p:Zd}{mode:Int}{m:Zc}{most:Nat}(h:∀j,j<most+1→¬(ltK p mode m j).bal≤p.floor):Gq p mode m most=none:=by
 have:=Zdb (p:=p) (mode:=mode) (m:=m) (most+1) 0 h;rw[Gq,← Nat.add_zero (most+1),this];rfl
theorem Zra {p:Zd}(ok:Zh p)(hr:Yb p=true)(mode:Int){m:Zc}(mo:Ze m):Ze (ltA p mode m):=by
 have ha:=Jp ok hr mo false mode;have hb:=ha.u (Y2 p m false mode).bal (by simp);have he:=ha.u (Y2 p m false mode).eff (by simp);have hs:=ha.u (Y2 p m false mode).score (by simp);have hn:=ha.n;have hf:=Zcv ok hr ha mode;refine⟨fun z hz=>?_,hn⟩;simp only[ltA,VN,List.mem_cons,List.not_mem_nil,or_false]at hz;rcases hz with rfl|rfl|rfl<;>omega
theorem Zyf {p:Zd}(ok:Zh p)(hr:Yb p=true){e b:Int}(he:0≤e∧e≤18446744073709551615)(hb:0≤b∧b≤18446744073709551615):0≤VB p e b∧VB p e b≤18446744073709551615:=by
 unfold VB;split
 ·exact UH (GD hr).1 ok hb
 ·exact he
theorem Yly {p:Zd}(ok:Zh p)(hr:Yb p=true)(mode:Int){m:Zc}(mo:Ze m):Ze (ltF p mode m):=by
 have ha:=Zra ok hr mode mo;unfold ltF;split
 ·have hb:=ha.u (ltA p mode m).bal (by simp);have he:=ha.u (ltA p mode m).eff (by simp);have hs:=ha.u (ltA p mode m).score (by simp);have hx:=Zyf ok hr he hb;refine⟨fun z hz=>?_,ha.n⟩;simp only[List.mem_cons,List.not_mem_nil,or_false]at hz;rcases hz with rfl|rfl|rfl<;>assumption
 ·exact ha
theorem Zld {p:Zd}(ok:Zh p)(hr:Yb p=true)(mode:Int){m:Zc}(mo:Ze m):∀k,Ze (ltK p mode m k)
 | 0=>mo
 | k+1=>Yly ok hr mode (Zld ok hr mode mo k)
theorem Yrj {a b c:Int}(hc:0<c):a*b≤c*uqQ a b c:=by
 have h1:=Int.mul_ediv_add_emod (a*b) c;have h2:=Int.emod_lt_of_pos (a*b) hc;unfold uqQ;split
 ·omega
 ·rw[Int.mul_add,Int.mul_one];omega
theorem Zny {p:Zd}(h1:1≤p.inc)(h2:p.inc≤p.maxEff){b:Int}(hb:p.inc≤b):p.inc≤YX p b:=by
 have h3:=Int.mul_ediv_add_emod b p.inc;have h4:1≤b/p.inc:=Int.le_ediv_of_mul_le (by omega) (by omega);have h5:p.inc*1≤p.inc*(b/p.inc):=Int.mul_le_mul_of_nonneg_left h4 (by omega);unfold YX;omega
theorem Zte {p:Zd}(h1:1≤p.inc)(h2:p.inc≤p.maxEff){e b:Int}(he:p.inc≤e)(hb:p.inc≤b):p.inc≤VB p e b:=by
 unfold VB;split
 ·exact Zny h1 h2 hb
 ·exact he
structure LkI (p:Zd)(m:Zc)(k:Nat):Prop where
 e:p.inc≤m.eff
 s:min (p.bias*k) p.scoreCap≤m.score
 b:p.inc*p.bias*((k:Int)*(k+1))≤2*p.quot*(p.cap-m.bal)
theorem Zzi {p:Zd}(hr:Yb p=true){m:Zc}{mode:Int}(hm:mode=3∨mode=4){k:Nat}(hs:min (p.bias*k) p.scoreCap≤m.score):min (p.bias*((k+1:Nat):Int)) p.scoreCap≤(Y2 p m false mode).score:=by
 have f2:=Yu (show Y6 p=true by simp only[Yb,Bool.and_eq_true]at hr;exact hr.1.1.2);have e1:p.bias*((k+1:Nat):Int)=p.bias*k+p.bias:=by rw[Int.natCast_add,Int.mul_add];simp
 have h0:0≤p.bias*k:=Int.mul_nonneg (by omega) (by omega);rw[e1];rcases hm with rfl|rfl
 ·show _≤Uh m.score p.bias p.scoreCap;unfold Uh;omega
 ·show _≤Uh m.score p.biasEm p.scoreCap;unfold Uh;omega
theorem Yfs {p:Zd}(hr:Yb p=true)(ok:Zh p){m:Zc}(mo:Ze m){mode:Int}(hm:mode=3∨mode=4){k:Nat}(hk:k+1≤Wl p)(h:LkI p m k)(hf:p.floor<(ltF p mode m).bal):LkI p (ltF p mode m) (k+1):=by
 have hr0:=hr;simp only[Yb,Bool.and_eq_true,decide_eq_true_eq]at hr0;have f1:=Yl hr0.1.1.1;have f2:=Yu hr0.1.1.2;have hcap:=hr0.2.2;have hs:=Zzi hr hm h.s;have hb1:p.bias*((k+1:Nat):Int)≤p.bias*(Wl p:Int):=Int.mul_le_mul_of_nonneg_left (by omega) (by omega);obtain⟨a,ha⟩:∃a,a=Y2 p m false mode:=⟨_,rfl⟩
 have ao:Ze a:=by rw[ha];exact Jp ok hr mo false mode
 have ae:a.eff=m.eff:=by rw[ha];rfl
 have ab:a.bal=m.bal:=by rw[ha];rfl
 rw[← ha]at hs;have hs2:p.bias*((k+1:Nat):Int)≤a.score:=by omega
 have eA:ltA p mode m=VN p a mode:=by rw[ha];rfl
 have hbal:(ltF p mode m).bal=(ltA p mode m).bal:=by
  unfold ltF;split<;>rfl
 rw[hbal]at hf;have hfl:p.floor<a.bal-YI p a mode:=by rw[eA]at hf;exact hf
 have hE:Ji p a mode=0:=by
  by_cases c:Ji p a mode=0
  ·exact c
  ·rw[YI,if_neg c]at hfl;omega
 have hF:YI p a mode=W9 p a mode:=by
  rw[YI,if_pos hE]at hfl ⊢;omega
 have he:p.inc≤a.eff:=by rw[ae];exact h.e
 have h0:0≤p.bias*((k+1:Nat):Int):=Int.mul_nonneg (by omega) (by omega);have hprod:p.inc*(p.bias*((k+1:Nat):Int))≤a.eff*a.score:=Int.le_trans (Int.mul_le_mul_of_nonneg_left hs2 (by omega)) (Int.mul_le_mul_of_nonneg_right he (by omega));have hq:p.inc*(p.bias*((k+1:Nat):Int))≤p.quot*W9 p a mode:=by
  have fb:=Zcv ok hr ao mode;rw[hF]at fb;rcases hm with rfl|rfl
  ·have e1:uqE a.eff a.score p.quot=0:=hE;have e2:W9 p a 3=uqQ a.eff a.score p.quot:=by
    show uqN a.eff a.score p.quot=_;rw[uqN,if_pos e1]
   rw[e2];exact Int.le_trans hprod (Yrj (by omega))
  ·have e1:uqE a.eff a.score p.quotEm=0:=hE;have e2:W9 p a 4=uqQ a.eff a.score p.quotEm:=by
    show uqN a.eff a.score p.quotEm=_;rw[uqN,if_pos e1]
   rw[e2]at fb ⊢;exact Int.le_trans (Int.le_trans hprod (Yrj (by omega))) (Int.mul_le_mul_of_nonneg_right (by omega) fb.1)
 have hnew:(ltA p mode m).bal=m.bal-W9 p a mode:=by rw[eA,← hF,← ab];rfl
 refine⟨?_,?_,?_⟩
 ·have e:(ltF p mode m).eff=VB p (ltA p mode m).eff (ltA p mode m).bal:=by rw[ltF,if_pos hf]
  rw[e];have e3:(ltA p mode m).eff=m.eff:=by rw[eA];exact ae
  exact Zte f1.1 f1.2.2.1 (by rw[e3];exact h.e) (by omega)
 ·have e:(ltF p mode m).score=a.score:=by rw[ltF,if_pos hf,eA];rfl
  rw[e];exact hs
 ·rw[hbal,hnew];have hb:=h.b;have e1:((k+1:Nat):Int)=(k:Int)+1:=by omega
  rw[e1]at hq ⊢;have e2:((k:Int)+1)*((k:Int)+1+1)=(k:Int)*(k+1)+2*(k+1):=by
   rw[Int.mul_add,Int.mul_one,Int.add_mul (k:Int) 1,Int.mul_add,Int.mul_one];omega
  have e3:p.inc*p.bias*(2*((k:Int)+1))=2*(p.inc*(p.bias*(k+1))):=by
   rw[Int.mul_left_comm,Int.mul_assoc]
  have e4:2*p.quot*(p.cap-(m.bal-W9 p a mode))=2*p.quot*(p.cap-m.bal)+2*(p.quot*W9 p a mode):=by
   rw[show p.cap-(m.bal-W9 p a mode)=(p.cap-m.bal)+W9 p a mode by omega,Int.mul_add,Int.mul_assoc 2 p.quot (W9 p a mode)]
  rw[e2,Int.mul_add,e3,e4];omega
theorem Zcq {p:Zd}(hr:Yb p=true)(ok:Zh p){m:Zc}(mo:Ze m){mode:Int}(hm:mode=3∨mode=4)(he:p.inc≤m.eff)(hb:m.bal≤p.cap){most:Nat}(hT:Wl p≤most):∃k,Gq p mode m most=some k∧k≤Wl p:=by
 have hr0:=hr;simp only[Yb,Bool.and_eq_true,decide_eq_true_eq]at hr0;have f1:=Yl hr0.1.1.1;have f2:=Yu hr0.1.1.2;have hsc:=mo.u m.score (by simp);have key:∀k,k≤Wl p→(∃j,j≤k∧(∀i,i<j→¬(ltK p mode m i).bal≤p.floor)∧(ltK p mode m j).bal≤p.floor)∨((∀i,i<k+1→¬(ltK p mode m i).bal≤p.floor)∧LkI p (ltK p mode m k) k):=by
  intro k
  induction k with
  | zero =>
   intro _;by_cases c:(ltK p mode m 0).bal≤p.floor
   ·exact .inl ⟨0,Nat.le_refl _,fun i hi=>by omega,c⟩
   ·refine .inr ⟨fun i hi=>by rw[show i=0 by omega];exact c,he,?_,?_⟩
    ·simp only[Int.natCast_zero,Int.mul_zero];exact Int.le_trans (Int.min_le_left _ _) hsc.1
    ·simp only[Int.natCast_zero,Int.zero_mul,Int.mul_zero];exact Int.mul_nonneg (by omega) (by show 0≤p.cap-m.bal;omega)
  | succ k ih =>
   intro hk;rcases ih (by omega) with⟨j,h1,h2,h3⟩ | ⟨h1,h2⟩
   ·exact .inl ⟨j,by omega,h2,h3⟩
   ·by_cases c:(ltK p mode m (k+1)).bal≤p.floor
    ·exact .inl ⟨k+1,Nat.le_refl _,h1,c⟩
    ·refine .inr ⟨fun i hi=>?_,Yfs hr ok (Zld ok hr mode mo k) hm hk h2 (by show p.floor<(ltK p mode m (k+1)).bal;omega)⟩;by_cases e:i=k+1
     ·rw[e];exact c
     ·exact h1 i (by omega)
 rcases key (Wl p) (Nat.le_refl _) with⟨j,h1,h2,h3⟩ | ⟨h1,h2⟩
 ·exact⟨j,J5 h2 (by omega) h3,h1⟩
 ·exfalso
  have hen:WB p (Wl p)=true:=(WG (WB p) 1048576 1).2.2.2 (by have:=hr0.2.1;unfold Wl at this;omega);simp only[WB,decide_eq_true_eq]at hen;have h4:=h1 (Wl p) (by omega);have h5:=h2.b;have h6:2*p.quot*(p.cap-(ltK p mode m (Wl p)).bal)<2*p.quot*(p.cap-p.floor):=Int.mul_lt_mul_of_pos_left (by omega) (by omega);omega
abbrev Yns (b T:Nat)(m:Zc):Zl:=⟨b,T,[.int .u64 m.bal,.int .u64 m.eff,.int .u64 m.score,.int .i64 m.streak],4⟩
theorem Ztp {p:Zd}{mode:Int}{m:Zc}(h:p.floor<(ltA p mode m).bal):ltF p mode m={ ltA p mode m with eff:=VB p (ltA p mode m).eff (ltA p mode m).bal }:=by rw[ltF,if_pos h]
theorem Zry {p:Zd}{mode:Int}{m:Zc}(h:¬p.floor<(ltA p mode m).bal):ltF p mode m=ltA p mode m:=by rw[ltF,if_neg h]
def VV (p:Zd)(m:Zc)(em:Bool)(most:Int):Int×Bool×Int :=
 if Yb p=true then (if most<0∨1000<most then (0,false,2) else match Gq p (if em=true then 4 else 3) m most.toNat with
  | some k=>((k:Int),true,0)
  | none=>(0,false,0)) else (0,false,70)
theorem J6 (p:Zd)(ok:Zh p){m:Zc}(mo:Ze m)(em:Bool)(most:Int)(hk:∀h',PH.le h h'→K (.tuple #[.int .i64 (VV p m em most).1,.bool (VV p m em most).2.1,.int .i64 (VV p m em most).2.2]) L h'):Zb prog 48 [W5 p,Zbq m,.bool em,.int .i64 most] L h K:=by
 refine ZR func48 rfl (rs:=[_,_,_]) rfl rfl ZW (by kernel_rfl) rfl rfl ?_;refine xx ?_;refine Z0 fun b4 nb4 zb4=>?_;(try simp only[ZU]at nb4);refine xx ?_;refine Z0 fun b5 nb5 zb5=>?_;(try simp only[ZU]at nb5);have n54:=nb5.1;refine xx ?_;refine Zb.ap (J0 p ok fun h1 le1 ap=>?_);have p5:h1 b5=noC:=ap.1;have p4:h1 b4=noC:=ap.2.1;clear ap;have hk1:=hk h1 le1;by_cases hr:Yb p=true
 rotate_left
 ·rw[VV,if_neg hr]at hk1;rw[if_neg hr];refine xx ?_;exact ZO (ZO (ZP hk1))
 rw[if_pos hr];rw[VV,if_pos hr]at hk1;refine xx ?_;by_cases c1:most<0
 ·rw[if_pos (.inl c1)]at hk1;refine xx ?_;exact ZO (ZO (ZP hk1))
 by_cases c2:1000<most
 ·rw[if_pos (.inr c2)]at hk1;refine xx ?_;exact ZO (ZO (ZP hk1))
 rw[if_neg (by omega)]at hk1;obtain⟨N,rfl⟩:∃N:Nat,most=N:=⟨most.toNat,by omega⟩
 rw[Int.toNat_natCast]at hk1;obtain⟨mode,hmode⟩:∃mode:Int,mode=(if em=true then 4 else 3):=⟨_,rfl⟩
 rw[← hmode]at hk1
 cases em
 all_goals
  refine xx ?_;refine YJ (γ:=Nat) 0 (fun k=>k≤N+1∧∀j,j<k→¬(ltK p mode m j).bal≤p.floor) (fun k=>[(12,.int .i64 k),(3,.int .i64 N),(11,.int .i64 mode),(4,.pointer (some ⟨b4,0,none⟩)),(5,.pointer (some ⟨b5,0,none⟩))])
   (fun k=>Yns b5 98 (ltK p mode m k)::⟨b4,24,Jm p,24⟩::L) (fun _=>h1) (fun k=>N+1-k) ?_ ?_ ?_ ?_
  ·exact⟨Nat.zero_le _,fun j hj=>by omega⟩
  ·simp [Ent,List.lookup,Wv,hmode]
  ·exact Za.refl _ _
  clear hmode;rintro k ⟨k1,k2⟩;simp only[Yns];have mok:=Zld ok hr mode mo k;have eK:ltK p mode m (k+1)=ltF p mode (ltK p mode m k):=rfl;by_cases c3:N<k
  ·obtain rfl:k=N+1:=by omega
   rw[Zco k2]at hk1;refine xx ?_;exact ZO (ZO (ZP hk1))
  by_cases c4:(ltK p mode m k).bal≤p.floor
  ·rw[J5 k2 (by omega) c4]at hk1;refine xx ?_;exact ZO (ZO (ZP hk1))
  have k2':∀j,j<k+1→¬(ltK p mode m j).bal≤p.floor:=fun j hj=>by
   by_cases e:j=k
   ·subst e;exact c4
   ·exact k2 j (by omega)
  clear k2
  generalize ltK p mode m k=x at eK mok c4
  have aok:=Jp ok hr mok false mode;have lok:=Zra ok hr mode mok;have be:=lok.u (ltA p mode x).eff (by simp);have bb:=lok.u (ltA p mode x).bal (by simp);refine xx ?_;refine Ym (.tk 3 (.tk 5 (.tkl 0 (.tkl 1 (.tkl 2 (.o1 4 (.o1 6 (.tk 7 (.tk 8 (.tk 9 (.tk 10 (.o2 11 (.fin) (.nil)))))) (.nil)) (.nil))))))) (by kernel_rfl) (by kernel_rfl) _ (Za.refl _ _) ?_;refine xx ?_;refine Zcd p ok hr x mok false mode ?_;refine xx ?_;refine Zfu p ok hr (Y2 p x false mode) aok mode ?_;rw[show VN p (Y2 p x false mode) mode=ltA p mode x from rfl];refine xx ?_;by_cases c5:p.floor<(ltA p mode x).bal
  ·rw[Ztp c5]at eK;refine xx ?_;refine Zgv p ok hr _ _ be bb ?_;refine xx ?_;refine⟨k+1,⟨by omega,fun j hj=>by have:=k2' j hj;omega⟩,by omega,by simp [Ent,List.lookup],?_⟩;simp only[eK];exact Za.refl _ _
  ·rw[Zry c5]at eK;refine xx ?_;refine⟨k+1,⟨by omega,fun j hj=>by have:=k2' j hj;omega⟩,by omega,by simp [Ent,List.lookup],?_⟩;simp only[eK];exact Za.refl _ _
def Zki (p:Zd)(mode:Int)(m:Zc)(most:Nat):Int:=match Gq p mode m most with
 | some k=>(k:Int)
 | none => -1
theorem Zcu (p:Zd)(ok:Zh p)(hr:Yb p=true){m:Zc}(mo:Ze m)(mode:Int)(N:Nat)(hN:N≤1000)(hk:∀h',PH.le h h'→K (.int .i64 (Zki p mode m N)) L h'):Zb prog 51 [W5 p,Zbq m,.int .i64 mode,.int .i64 N] L h K:=by
 have hinc:=(GD hr).1;refine Z5 func51 rfl (rs:=[_]) rfl rfl ZW (by kernel_rfl) rfl rfl fun ap nd=>?_;clear ap nd;refine xx ?_;refine Z0 fun b4 nb4 zb4=>?_;(try simp only[ZU]at nb4);refine xx ?_;refine Z0 fun b5 nb5 zb5=>?_;(try simp only[ZU]at nb5);have n54:=nb5.1;refine xx ?_;refine YJ (γ:=Nat×PH) (0,h) (fun y=>y.1≤N∧PH.le h y.2∧y.2 b5=noC∧y.2 b4=noC∧∀j,j<y.1→¬(ltK p mode m j).bal≤p.floor) (fun y=>[(9,.int .i64 y.1),(3,.int .i64 N),(2,.int .i64 mode),(4,.pointer (some ⟨b4,0,none⟩)),(5,.pointer (some ⟨b5,0,none⟩))])
  (fun y=>Yns b5 108 (ltK p mode m y.1)::⟨b4,44,Jm p,24⟩::L) (fun y=>y.2) (fun y=>N+1-y.1) ?_ ?_ ?_ ?_
 ·exact⟨Nat.zero_le _,PH.le_refl _,zb5,zb4,fun j hj=>by omega⟩
 ·simp [Ent,List.lookup,Wv]
 ·exact Za.refl _ _
 rintro⟨k,h1⟩ ⟨k1,le1,p5,p4,k2⟩;simp only at k1 le1 p5 p4 k2 ⊢;simp only[Yns];have hk1:=hk h1 le1;have mok:=Zld ok hr mode mo k;have eK:ltK p mode m (k+1)=ltF p mode (ltK p mode m k):=rfl;by_cases c4:(ltK p mode m k).bal≤p.floor
 ·rw[Zki,J5 k2 (by omega) c4]at hk1;refine xx ?_;exact ZO (ZO (ZP hk1))
 have k2':∀j,j<k+1→¬(ltK p mode m j).bal≤p.floor:=fun j hj=>by
  by_cases e:j=k
  ·subst e;exact c4
  ·exact k2 j (by omega)
 by_cases c3:k=N
 ·subst c3;rw[Zki,Zco k2']at hk1;refine xx ?_;exact ZO (ZO (ZP hk1))
 clear k2
 generalize ltK p mode m k=x at eK mok c4
 have aok:=Jp ok hr mok false mode;have lok:=Zra ok hr mode mok;have be:=lok.u (ltA p mode x).eff (by simp);have bb:=lok.u (ltA p mode x).bal (by simp);have fb:=Zcv ok hr aok mode;have ub:=aok.u (Y2 p x false mode).bal (by simp);refine xx ?_;refine Zjr p ok hr x mok false mode ?_;refine xx ?_;refine Ym (.tk 0 (.tk 4 (.tkl 1 (.tkl 2 (.tkl 3 (.o1 5 (.tk 6 (.tk 7 (.o2 8 (.fin) (.nil)))) (.nil))))))) (by kernel_rfl) (by kernel_rfl) _ (Za.refl _ _) ?_;refine xx ?_;refine Zb.ap (Zpo p ok hr (Y2 p x false mode) aok mode fun h2 le2 ap=>?_);have p52:h2 b5=noC:=ap.1;have p42:h2 b4=noC:=ap.2.1;clear ap
 first
 | refine xkp (Za.forget le2) ?_
 | skip
 refine xx ?_;have eb:(ltA p mode x).bal=(Y2 p x false mode).bal-YI p (Y2 p x false mode) mode:=rfl;have ee:(ltA p mode x).eff=(Y2 p x false mode).eff:=rfl;by_cases c5:p.floor<(ltA p mode x).bal
 ·rw[Ztp c5]at eK;rw[eb]at c5 bb;rw[ee]at be;refine xx ?_;refine Zoc p ok hinc _ _ be bb ?_;refine xx ?_;refine⟨k+1,h2,⟨by omega,le1.trans le2,p52,p42,fun j hj=>by have:=k2' j hj;omega⟩,by omega,by simp [Ent,List.lookup],?_⟩;simp only[eK];exact Za.refl _ _
 ·rw[Zry c5]at eK;rw[eb]at c5 bb;refine xx ?_;refine⟨k+1,h2,⟨by omega,le1.trans le2,p52,p42,fun j hj=>by have:=k2' j hj;omega⟩,by omega,by simp [Ent,List.lookup],?_⟩;simp only[eK];exact Za.refl _ _
end Go.X
