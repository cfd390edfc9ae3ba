/- Lemmas and contracts. Conditions: as each says. -/
import Derived.Test.YtmmfajokfdaokaaGreatQ30
import Derived.Test.YtmmfajokfdaokaaGreatQ31
import Derived.Test.YtmmfajokfdaokaaGreatQ32
set_option linter.unusedVariables false
set_option linter.unusedSimpArgs false
set_option maxHeartbeats 12800000
set_option maxRecDepth 20000
namespace Go.X
open Go.RowKit Go.Proofs Go.Bl Go.Proofs.Tryz
section
variable {P:Program}
theorem Zst {t ty e sz:Nat}{ti:TI}(ht:P.underlying t=some (.slice e))(hti:tI P e=some ti)(hz1:ti.size=sz){L:Own}{h:PH}{K:PK}{b o n cap m c:Nat}{a:Addr}{news:List Value}
  (hroom:n+m≤cap) (hs:∀W,Zp L h W→∀(j:Nat) u,news[j]?=some u→W.cell? (a.add j)=some u) (hnl:news.length=m*sz) (hk:Zdy L b (o+n*sz) news fun L'=>K (.slice (some ⟨b,o,none⟩) (n+m) cap) L' h) :
  Zgz P (Builtin.append_ #[t,t] ty #[.slice (some ⟨b,o,none⟩) n cap,.slice (some a) m c]) L h K:=by
 intro W hg;obtain⟨L',W',hK,hrun,hgd,hkp,hmm,hbm⟩:=VZ (P:=P) hg hk;obtain⟨i,d,zv,g1,g2,g3,rfl⟩:=Vz hti;simp only at hz1;refine⟨.slice (some ⟨b,o,none⟩) (n+m) cap,L',h,W',?_,hK,⟨hgd,Zx.mono hkp (fun x hx=>by simp at hx;subst hx;exact hbm),fun x hx=>Or.inl (by rw[← hmm];exact List.mem_map_of_mem hx)⟩⟩;have hfc:=run_firstCells_some (P:=P) W i.size m a m c news (by rw[hnl,hz1]) (hs W hg);rw[hz1]at hfc;simp [Builtin.append_,run_underlying ht,sizeOf,typeInfo,g1,hz1,Builtin.lenOf,hroom,hfc,Addr.add_lit,hrun]
theorem Zpr {T e sz by':Nat}(hT:tSh P T = .sl e sz by')(a:Option Addr)(n c:Nat)(k l q:IntKind)(i j m:Int)(h0:0≤i)(h1:i≤j)(h2:j≤m)(h3:m≤(c:Int))(K:Value→Prop):xSl P T (.slice a n c) (some (.int k i)) (some (.int l j)) (some (.int q m)) K=K (.slice (Gr a m.toNat i.toNat sz) (j.toNat-i.toNat) (m.toNat-i.toNat)):=by
 unfold tSh at hT;split at hT
 ·rename_i e' hu;split at hT
  ·rename_i ii hi;refine YI (fun W=>?_) K;injection hT with hT1 hT2 hT3
   subst hT2;have h4:0≤j:=by omega
   have h5:0≤m:=by omega
   have h6:i≤(j.toNat:Int):=by omega
   have h7:j≤(m.toNat:Int):=by omega
   have h8:m.toNat≤c:=by omega
   have h9:j≤max m 0:=by omega
   have h10:i≤max j 0:=by omega
   simp [Instr.sliceAt,Instr.slice,Instr.sliceBounds,Instr.sliceBound,asIntOf,underlying,hu,Wj hi,h0,h1,h2,h3,h4,h5,h6,h7,h8,h9,h10,Gr]
   try (intro hh;omega)
  ·cases hT
 ·split at hT<;>cases hT
 ·cases hT
end
variable {L:Own} {h:PH} {K:PK}
theorem Ynj:tSh prog 32 = .sl 3 1 8:=by kernel_rfl
theorem Src.part {b t m c cap i:Nat}{xs:List Value}(hm:(⟨b,t,xs,cap⟩:Zo)∈L)(hT:t≠4294967295:=by first|decide|omega):Src L h (.slice (some ⟨b,i,none⟩) m c) m ((xs.drop i).take m) :=
 Or.inr ⟨_,_,rfl,fun W hg j u hj=>GS hg hm hT (by
  rw[List.getElem?_take]at hj;split at hj
  ·rwa [List.getElem?_drop]at hj
  ·cases hj)⟩
theorem fI_at {xs:List Int}{x:Int}{k:Nat}(hk:k<xs.length)(h1:at0 xs k=x)(h2:∀j,j<k→at0 xs j≠x):fI xs x=k:=by
 have:=U7 (q:=fun k=>decide (at0 xs k=x)) (m:=xs.length) (k:=0) (r:=k) (Nat.zero_le _) (by omega) (fun j _ hj=>by simpa using h2 j hj) (fun _=>by simpa using h1);rw[fI,this,if_neg (by omega)]
theorem fI_no {xs:List Int}{x:Int}(h2:∀j,j<xs.length→at0 xs j≠x):fI xs x = -1:=by
 have:=(Ykg xs x).1;have n:¬x∈xs:=fun hx=>by
  obtain⟨j,hj,e⟩:=List.mem_iff_getElem.1 hx;exact h2 j hj (by rw[← Yx hj,e])
 unfold fI at *;split
 ·rfl
 ·rename_i c;rw[if_neg c]at this;exact absurd (this (by omega)) n
theorem Ztq {xs:List Int}{b cap:Nat}(x:Int)(hl:xs.length≤1000):Zb prog 320 [.slice (some ⟨b,0,none⟩) xs.length cap,.int .i64 x] [⟨b,3,xs.map (.int .i64),cap⟩] h fun v L' h'=>v = .int .i64 (fI xs x)∧L'=[⟨b,3,xs.map (.int .i64),cap⟩]∧h'=h:=by
 refine Z4 func320 rfl (rs:=[_]) rfl rfl ZY (by kernel_rfl) rfl rfl fun ap nd=>?_;have hn:h b=noC:=ap.1;clear ap nd;refine xx ?_;refine Vj (0:Nat) (fun k=>k≤xs.length∧∀j,j<k→at0 xs j≠x) (fun k=>[(8,.int .i64 k),(7,.int .i64 xs.length),(0,.slice (some ⟨b,0,none⟩) xs.length cap),(1,.int .i64 x)]) (fun k=>xs.length-k) ?_ ?_ ?_
 ·exact⟨Nat.zero_le _,fun j hj=>by omega⟩
 ·simp [Ent,List.lookup,WM]
 rintro k ⟨k1,k2⟩;by_cases c1:k<xs.length
 ·by_cases c2:x=at0 xs k
  ·have e:=fI_at c1 c2.symm k2;simp -dsimp -implicitDefEqProofs (disch:=first|with_reducible assumption|omega) [go_sem,WQ];exact ZO ⟨by rw[e],rfl,rfl⟩
  ·simp -dsimp -implicitDefEqProofs (disch:=first|with_reducible assumption|omega) [go_sem,WQ];refine⟨k+1,⟨by omega,fun j hj=>?_⟩,by omega,by simp [Ent,List.lookup],Za.refl _ _⟩;by_cases e:j=k
   ·subst e;exact fun e=>c2 e.symm
   ·exact k2 j (by omega)
 ·have e:=fI_no (xs:=xs) (x:=x) fun j hj=>k2 j (by omega);refine xx ?_;exact ZO ⟨by rw[e],rfl,rfl⟩
theorem Ztp {xs:List Int}(o:Option (Nat×Nat))(ho:okO o xs.length)(hl:xs.length≤1000)(x:Int)(hx : -9223372036854775808≤x∧x≤9223372036854775807)(hm:∀b c,o=some (b,c)→(⟨b,3,xs.map (.int .i64),c⟩:Zo)∈L)(hk:K (.int .i64 (fI xs x)) L h) :
  Zb prog 320 [ovs o xs.length,.int .i64 x] L h K:=by
 cases o with
 | none =>
  have h0:xs.length=0:=ho;have h1:=List.length_eq_zero_iff.1 h0;subst h1;refine Zls (zs:=[]) _ x (Yd h .i64) hx fun i i1 i2 i3=>?_;have:i = -1:=by
   have:¬ 0≤i:=fun hi=>by have:=i3.1 hi;cases this
   omega
  rw[this];exact hk
 | some p=>exact Zb.frame1 (hm p.1 p.2 rfl) (Ztq x hl) hk
def Znc (xs:List Int)(i j:Nat):List Int:=xs.take i++xs.drop j
theorem Yie {xs:List Int}{i j:Nat}(hij:i≤j)(hj:j≤xs.length):(Znc xs i j).length=xs.length-(j-i):=by simp [Znc];omega
theorem Zso {xs:List Int}(o:Option (Nat×Nat))(ho:okO o xs.length)(hl:xs.length≤1000)(i j:Nat)(hij:i≤j)(hj:j≤xs.length)
  (hk:K (ovs o (Znc xs i j).length) (oent 3 1 o ((Znc xs i j).map (.int .i64)) L) h) :
  Zb prog 360 [ovs o xs.length,.int .i64 i,.int .i64 j] (oent 3 1 o (xs.map (.int .i64)) L) h K:=by
 have hd:=Yie hij hj
 cases o with
 | none =>
  have h0:xs.length=0:=ho;have h1:=List.length_eq_zero_iff.1 h0;subst h1;have i0:i=0:=by simp at hj;omega
  have j0:j=0:=by simpa using hj
  subst i0;subst j0;simp only[ovs,oent]at hk ⊢;refine ZR func360 rfl (rs:=[_]) rfl rfl ZY (by kernel_rfl) rfl rfl ?_;simp -dsimp -implicitDefEqProofs (disch:=first|with_reducible assumption|omega) [go_sem,Zpr Ynj];exact ZO hk
 | some p =>
  obtain⟨b,cap⟩:=p;have hcap:xs.length≤cap:=ho.1;simp only[YX,Yg,Nat.mul_one]at hk ⊢;refine Z4 func360 rfl (rs:=[_]) rfl rfl ZY (by kernel_rfl) rfl rfl fun ap nd=>?_;have hn:h b=noC:=ap.1;clear ap nd;by_cases c1:i=j
  ·subst c1;have e:Znc xs i i=xs:=List.take_append_drop i xs;rw[e]at hk;simp -dsimp -implicitDefEqProofs (disch:=first|with_reducible assumption|omega) [go_sem,Zpr Ynj];exact ZO hk
  ·simp -dsimp -implicitDefEqProofs (disch:=first|with_reducible assumption|omega) [go_sem,Zpr Ynj];refine Yr (.tk 0 (.tk 1 (.tk 2 (.tk 3 (.tk 4 (.tk 5 (.o1 6 (.tk 7 (.fin)) (.nil)))))))) (by kernel_rfl) (by kernel_rfl) L (Za.tail _ _ _) ?_;simp -dsimp -implicitDefEqProofs (disch:=first|with_reducible assumption|omega) [go_sem,Jj Ynj];obtain⟨q,hq,hqj⟩:∃q,Gr (some ⟨b,0,none⟩) cap j 1=some ⟨b,q,none⟩∧(j<xs.length→q=j):=by
    unfold Gr;split
    ·exact⟨0,rfl,fun x=>by omega⟩
    ·exact⟨j,by simp [Addr.add];omega,fun _=>rfl⟩
   rw[hq];obtain⟨n,hn2⟩:∃n,n=xs.length:=⟨_,rfl⟩
   refine Zst (e:=3) (sz:=1) (by kernel_rfl) Zem rfl (n:=i) (m:=xs.length-j) (news:=(xs.drop j).map (Value.int .i64)) (by omega) (fun W hg m u hu=>?_) (by simp) ?_
   ·by_cases cj:j<xs.length
    ·rw[hqj cj];refine GS hg (b:=b) (o:=j) List.mem_cons_self (by decide) ?_
     rwa [List.map_drop,List.getElem?_drop]at hu
    ·rw[List.drop_eq_nil_of_le (by omega)]at hu
     cases hu
   refine xx ?_
   refine⟨by omega,fun z hz=>by
    rw[← List.map_drop]at hz;obtain⟨w,_,rfl⟩:=List.mem_map.1 hz
    rfl,?_⟩
   refine xkp (Za.tail _ _ _) ?_;have hcut:Gr (some ⟨b,0,none⟩) cap (i+(xs.length-j)) 1=some ⟨b,i+(xs.length-j),none⟩:=by
    unfold Gr;rw[if_neg (by omega)];simp [Addr.add]
    try (intro e;omega)
   have e4:((i:Int)+((xs.length-j:Nat):Int)).toNat=i+(xs.length-j):=by omega
   simp -dsimp -implicitDefEqProofs (disch:=first|with_reducible assumption|omega) [go_sem,Zdj Ynj,e4,hcut];refine Ymb (by kernel_rfl) Zem rfl (by omega) ?_;refine xx ?_;have hwl:(wr (xs.map (Value.int .i64)) i ((xs.drop j).map (Value.int .i64)))=(xs.take i++xs.drop j++xs.drop (i+(xs.length-j))).map (Value.int .i64):=by
    rw[J9 _ _ _ (by simp;omega)];simp [List.map_drop,List.map_take]
   rw[← List.map_drop,hwl];refine⟨by simp;omega,?_⟩;have e3:=Zee b 3 cap (i+(xs.length-j)) (wr ((xs.take i++xs.drop j++xs.drop (i+(xs.length-j))).map (Value.int .i64)) (i+(xs.length-j)) (List.replicate (xs.length-(i+(xs.length-j))) (Value.int .i64 0))) L h;have e2:(wr ((xs.take i++xs.drop j++xs.drop (i+(xs.length-j))).map (Value.int .i64)) (i+(xs.length-j)) (List.replicate (xs.length-(i+(xs.length-j))) (Value.int .i64 0))).take (i+(xs.length-j))=(Znc xs i j).map (.int .i64):=by
    have hL:(Znc xs i j).length=i+(xs.length-j):=by omega
    rw[J9 _ _ _ (by simp;omega),List.append_assoc,List.take_append_of_le_length (by simp;omega),List.take_take,Nat.min_self,← List.map_take]
    congr 1
    rw[show xs.take i++xs.drop j=Znc xs i j from rfl,List.take_append_of_le_length (by omega),List.take_of_length_le (by omega)]
   rw[e2]at e3;rw[show (Znc xs i j).length=i+(xs.length-j) by omega]at hk;exact⟨_,_,e3,hk⟩
abbrev lnB (bl:Nat)(o:Option (Nat×Nat))(n:Nat):Zo:=⟨bl,417,[ovs o n],1⟩
abbrev lnL (o:Option (Nat×Nat))(xs:List Int)(L:Own):Own:=oent 3 1 o (xs.map (.int .i64)) L
theorem Yba {xs:List Int}{bl:Nat}(o:Option (Nat×Nat))(ho:okO o xs.length)(hl:xs.length≤1000)(x:Int)(hx : -9223372036854775808≤x∧x≤9223372036854775807)
  (hk:K (.int .i64 (fI xs x)) (lnB bl o xs.length::lnL o xs L) h):Zb prog 359 [.pointer (some ⟨bl,0,none⟩),.int .i64 x] (lnB bl o xs.length::lnL o xs L) h K:=by
 refine Z4 func359 rfl (rs:=[_]) rfl rfl ZY (by kernel_rfl) rfl rfl fun ap nd=>?_;have hb:h bl=noC:=ap.1;clear ap nd;refine xx ?_;refine Ztp o ho hl x hx (fun b c e=>?_) ?_
 ·subst e;simp [oent]
 refine xx ?_;exact ZO hk
theorem Yvl (b cap i n:Nat)(hi:i≤n)(hc:n≤cap):∃q,Gr (some ⟨b,0,none⟩) cap i 1=some ⟨b,q,none⟩∧(i<n→q=i):=by
 unfold Gr;split
 ·exact⟨0,rfl,fun x=>by omega⟩
 ·exact⟨i,by simp [Addr.add];try omega,fun _=>rfl⟩
theorem Yhl {xs:List Int}{bl:Nat}(o:Option (Nat×Nat))(ho:okO o xs.length)(hl:xs.length≤1000)(i j:Nat)(hij:i≤j)(hj:j≤xs.length)(hr:∀z∈xs,-9223372036854775808≤z∧z≤9223372036854775807)
  (hk:∀h' r,PH.le h h'→Ints h' .i64 r ((xs.drop i).take (j-i))→K r (lnB bl o (Znc xs i j).length::lnL o (Znc xs i j) L) h') :
  Zb prog 333 [.pointer (some ⟨bl,0,none⟩),.int .i64 i,.int .i64 j] (lnB bl o xs.length::lnL o xs L) h K:=by
 cases o with
 | none =>
  have h0:xs.length=0:=ho;have h1:=List.length_eq_zero_iff.1 h0;subst h1;have i0:i=0:=by simp at hj;omega
  have j0:j=0:=by simpa using hj
  subst i0;subst j0;have hk:=hk h (.slice none 0 0) (PH.le_refl h) (Yd h .i64);simp only[ovs,oent,lnB,lnL]at hk ⊢;refine Z4 func333 rfl (rs:=[_]) rfl rfl ZY (by kernel_rfl) rfl rfl fun ap nd=>?_;have hb:h bl=noC:=ap.1;clear ap nd;simp -dsimp -implicitDefEqProofs (disch:=first|with_reducible assumption|omega) [go_sem,Zdj Ynj,Gr];refine Z8 (t:=32) (e:=3) (sz:=1) (bytes:=8) (z:=[.int .i64 0]) (by kernel_rfl) Zem rfl rfl rfl rfl (by decide) [] _ none 0 [] rfl rfl (Or.inl ⟨rfl,rfl,rfl⟩) (m:=0) (news:=[]) rfl (fun u hu=>by cases hu) (by decide) (by omega) ?_;intro o1 j1 j2 j3;obtain rfl:o1=none:=j3.2 ⟨rfl,rfl⟩;simp only[ovs,oent,List.nil_append];refine xx ?_;have key:∀ {K':PK} {L':Own},K' (.slice none 0 0) L' h→Zb prog 360 [.slice none 0 0,.int .i64 0,.int .i64 0] L' h K':=fun {K' L'} hK =>
   Zso (xs:=[]) none ho hl 0 0 (Nat.le_refl _) (Nat.le_refl _) hK
  refine key ?_;refine xx ?_;exact ZO hk
 | some p =>
  obtain⟨b,cap⟩:=p;have hcap:xs.length≤cap:=ho.1;simp only[YX,Yg,Nat.mul_one,lnB,lnL]at hk ⊢;refine Z4 func333 rfl (rs:=[_]) rfl rfl ZY (by kernel_rfl) rfl rfl fun ap nd=>?_;have hb:h bl=noC:=ap.1;have hbb:bl≠b:=fun e=>nd.1.1 e.symm;clear ap nd;simp -dsimp -implicitDefEqProofs (disch:=first|with_reducible assumption|omega) [go_sem,Zdj Ynj];obtain⟨q,hq,hqi⟩:=Yvl b cap i xs.length (by omega) hcap;rw[hq];have hd:(xs.drop q).take (j-i)=(xs.drop i).take (j-i):=by
   by_cases c:i<xs.length
   ·rw[hqi c]
   ·rw[show j-i=0 by omega];simp
  refine Z8 (t:=32) (e:=3) (sz:=1) (bytes:=8) (z:=[.int .i64 0]) (by kernel_rfl) Zem rfl rfl rfl rfl (by decide) [] _ none 0 [] rfl rfl (Src.part (b:=b) (t:=3) (i:=q) (xs:=xs.map (.int .i64)) (List.mem_cons_of_mem _ List.mem_cons_self)) (m:=j-i) (by simp;omega) (fun u hu=>?_) (by simp [maxLen];omega) (by omega) ?_
  ·have:=List.mem_of_mem_drop (List.mem_of_mem_take hu);obtain⟨w,_,rfl⟩:=List.mem_map.1 this
   rfl
  intro o1 j1 j2 j3;rw[← List.map_drop,← List.map_take,hd];simp only[List.nil_append,Nat.zero_add]at j1 j2 ⊢;have m1:apB o1 bl:=j2.head;simp -dsimp -implicitDefEqProofs (disch:=first|with_reducible assumption|omega) [go_sem,ZQ m1];refine Vq (n:=j-i) j1 (by simp;omega) (by omega) j2 fun h1 le1 sl=>?_;refine YV ?_;have key:∀ {K':PK} {L':Own},K' (.slice (some ⟨b,0,none⟩) (Znc xs i j).length cap) (⟨b,3,(Znc xs i j).map (.int .i64),cap⟩::L') h1→Zb prog 360 [.slice (some ⟨b,0,none⟩) xs.length cap,.int .i64 i,.int .i64 j] (⟨b,3,xs.map (.int .i64),cap⟩::L') h1 K':=fun {K' L'} hK=>by
   have:=Zso (L:=L') (h:=h1) (K:=K') (some (b,cap)) ho hl i j hij hj (by simpa only[YX,Yg,Nat.mul_one] using hK)
   simpa only[YX,Yg,Nat.mul_one] using this
  refine Zb.ap (key fun ap=>?_);simp only[Ap]at ap;obtain⟨ab,abl,_⟩:=ap;have il:Ints h1 .i64 (ovs o1 (j-i)) ((xs.drop i).take (j-i)):=by
   refine⟨?_,fun z hz=>hr z (List.mem_of_mem_drop (List.mem_of_mem_take hz))⟩;have:((xs.drop i).take (j-i)).length=j-i:=by simp;omega
   rw[this,List.map_take,List.map_drop];exact sl
  obtain⟨x1,y1,e1,_⟩:=Yh j1;rw[e1]at il ⊢;refine xx ?_;exact Wp (List.Perm.swap _ _ _) (ZO (hk h1 _ le1 il))
theorem Yhh {xs:List Int}{bl:Nat}(o:Option (Nat×Nat))(ho:okO o xs.length)(hl:xs.length≤1000)(m:Int)(hm:0≤m∧m≤9223372036854775807)(hr:∀z∈xs,-9223372036854775808≤z∧z≤9223372036854775807)
  (hk:∀h' r,PH.le h h'→Ints h' .i64 r (xs.take m.toNat)→K r (lnB bl o (xs.drop m.toNat).length::lnL o (xs.drop m.toNat) L) h') :
  Zb prog 264 [.pointer (some ⟨bl,0,none⟩),.int .i64 m] (lnB bl o xs.length::lnL o xs L) h K:=by
 obtain⟨a,c,ea,hac⟩:=Yh ho;have e:max 0 (min m xs.length)=((min m.toNat xs.length:Nat):Int):=by omega
 have e2:Znc xs 0 (min m.toNat xs.length)=xs.drop m.toNat:=by
  simp only[Znc,List.take_zero,List.nil_append];by_cases c:m.toNat≤xs.length
  ·rw[Nat.min_eq_left c]
  ·rw[Nat.min_eq_right (by omega),List.drop_length,List.drop_eq_nil_of_le (by omega)]
 have e3:(xs.drop 0).take (min m.toNat xs.length-0)=xs.take m.toNat:=by
  rw[List.drop_zero,Nat.sub_zero];by_cases c:m.toNat≤xs.length
  ·rw[Nat.min_eq_left c]
  ·rw[Nat.min_eq_right (by omega),List.take_length,List.take_of_length_le (by omega)]
 refine Z4 func264 rfl (rs:=[_]) rfl rfl ZY (by kernel_rfl) rfl rfl fun ap nd=>?_;have hb:h bl=noC:=ap.1;clear ap nd;refine xx ?_;refine Ywl (.tk 0 (.tk 1 (.tk 2 (.tk 3 (.tk 4 (.tk 5 (.tk 6 (.tk 7 (.o1 8 (.tk 9 (.o1 10 (.o1 11 (.o1 12 (.tk 13 (.fin)) (.nil)) (.nil)) (.nil))) (.nil)))))))))) (by kernel_rfl) (by kernel_rfl) ?_;refine xx ?_;rw[ea];simp -dsimp -implicitDefEqProofs (disch:=first|with_reducible assumption|omega) [go_sem,Y6,e];rw[← ea];refine Yhl o ho hl 0 (min m.toNat xs.length) (by omega) (by omega) hr fun h1 r1 le1 i1=>?_;rw[e3]at i1;rw[e2];obtain⟨ra,rc,rfl,_⟩:=i1.open;refine xx ?_;have hk:=hk h1 _ le1 i1;rw[List.length_drop,List.length_take]at hk;exact ZO hk
theorem Ydj {xs:List Int}{bl:Nat}(o:Option (Nat×Nat))(ho:okO o xs.length)(hl:xs.length<256)(x:Int)(hx:0≤x∧x≤9223372036854775807)(hn:¬x∈xs)
  (hk:∀o',okO o' (xs++[x]).length→K (.int .i64 0) (lnB bl o' (xs++[x]).length::lnL o' (xs++[x]) L) h) :
  Zb prog 332 [.pointer (some ⟨bl,0,none⟩),.int .i64 x] (lnB bl o xs.length::lnL o xs L) h K:=by
 obtain⟨a,c,ea,hac⟩:=Yh ho;have hf:fI xs x<0:=Int.not_le.1 fun c=>hn ((Ykg xs x).1 c);refine Z4 func332 rfl (rs:=[_]) rfl rfl ZY (by kernel_rfl) rfl rfl fun ap nd=>?_;have hb:h bl=noC:=ap.1;have hbo:apB o bl:=by
  cases o with
  | none=>trivial
  | some p=>exact nd.1.1
 clear ap nd;refine xx ?_;refine Yba o ho (by omega) x (by omega) ?_;refine xx ?_;rw[ea];refine xx ?_;refine Z6 fun b1 nb1 zb1=>?_;(try simp only[ZU]at nb1);refine xx ?_;rw[← ea];refine Z8 (t:=32) (e:=3) (sz:=1) (bytes:=8) (z:=[.int .i64 0]) (by kernel_rfl) Zem rfl rfl rfl rfl (by decide) [_,_] L o xs.length (xs.map (.int .i64)) ho (by simp) (Src.own List.mem_cons_self) (m:=1) (news:=[.int .i64 x]) rfl (fun u hu=>by simp at hu;subst hu;rfl) (by simp [maxLen];omega) (by omega) ?_;intro o' j1 j2 j3;have hk:=hk o' (by simpa using j1);simp only[lnB,lnL,List.length_append,List.length_singleton,List.map_append,List.map_cons,List.map_nil]at hk;refine xx ?_;exact ZP (ZO hk)
theorem Ygt {es:List (Int×Value)}{n:Int}{v:Value}(hn:Yfe es n=none):Yfn es n v=es++[(n,v)]:=by
 induction es with
 | nil=>rfl
 | cons e es ih =>
  simp only[Yfe]at hn;split at hn
  ·cases hn
  ·rename_i c;rw[Yfn,if_neg c,ih hn];rfl
def Yrn (xs:List Int):List (Int×Value):=xs.map fun x=>(x,.bool true)
theorem Ygh {xs:List Int}{x:Int}(hn:¬x∈xs):Yfe (Yrn xs) x=none:=by
 induction xs with
 | nil=>rfl
 | cons a l ih =>
  simp only[List.mem_cons,not_or]at hn;simp only[Yrn,List.map_cons,Yfe];rw[if_neg hn.1];exact ih hn.2
theorem mapB:prog.underlying 418=some (.map 3 4):=by kernel_rfl
theorem intB:prog.underlying 3=some (.int .i64):=by kernel_rfl
theorem zeroB (W:World):(zeroValue 4:Sem Value).run prog W = .ok (.bool false) W:=by kernel_rfl
theorem Ygx {xs:List Int}(v:Value)(hv:Ints h .i64 v xs)(hl:xs.length≤256)(h0:∀z∈xs,0≤z)(hn:xs.Nodup)
  (hk:∀bl o,ZU bl L→h bl=noC→okO o xs.length→K (.tuple #[.pointer (some ⟨bl,0,none⟩),.int .i64 0]) (lnB bl o xs.length::lnL o xs L) h) :
  Zb prog 263 [v] L h K:=by
 have hnum:=hv.num;obtain⟨a,c,rfl,hcap,hln,_,hcs⟩:=hv.open;have hpos:∀k,k<xs.length→0≤at0 xs k:=fun k hk=>by rw[← Yx hk];exact h0 _ (List.getElem_mem hk)
 refine ZR func263 rfl (rs:=[_,_]) rfl rfl ZY (by kernel_rfl) rfl rfl ?_;refine xx ?_;refine Z6 fun bl n_bl h_bl=>?_;(try simp only[ZU]at n_bl);refine xx ?_;refine Vj (0:Nat) (fun k=>k≤xs.length) (fun k=>[(17,.int .i64 k),(16,.int .i64 xs.length),(15,.slice a xs.length c),(0,.slice a xs.length c),(4,.pointer (some ⟨bl,0,none⟩))]) (fun k=>xs.length-k) ?_ ?_ ?_
 ·exact Nat.zero_le _
 ·simp [Ent,List.lookup,WM]
 intro k hk1;by_cases c1:k<xs.length
 ·have hp:=hpos k c1;simp -dsimp -implicitDefEqProofs (disch:=first|with_reducible assumption|omega) [go_sem,idx hcs];exact⟨k+1,by omega,by omega,by simp [Ent,List.lookup],Za.refl _ _⟩
 obtain rfl:k=xs.length:=by omega
 clear c1 hk1;refine xx ?_;refine Ydr fun bm n_bm h_bm=>?_;have hmb:bl≠bm:=n_bm.1;have hnot:∀k,k<xs.length→¬at0 xs k∈xs.take k:=fun k hk hm=>by
  obtain⟨j,hj,e⟩:=List.mem_iff_getElem.1 hm;simp only[List.length_take]at hj;rw[List.getElem_take,← Yx hk]at e;exact(List.pairwise_iff_getElem.1 hn) j k (by omega) hk (by omega) e
 have htk:∀k,k<xs.length→xs.take (k+1)=xs.take k++[at0 xs k]:=fun k hk=>by rw[List.take_succ_eq_append_getElem hk,Yx hk]
 refine xx ?_;refine YZ (γ:=Nat) 0 (fun k=>k≤xs.length) (fun k=>[(27,.int .i64 k),(26,.int .i64 xs.length),(25,.slice a xs.length c),(0,.slice a xs.length c),(4,.pointer (some ⟨bl,0,none⟩)),(7,.map (some bm))])
  (fun k=>⟨bm,4294967295,Ztm .i64 (Yrn (xs.take k)),0⟩::⟨bl,417,[.slice none 0 0],1⟩::L) (fun _=>h) (fun k=>xs.length-k) ?_ ?_ ?_ ?_
 ·exact Nat.zero_le _
 ·simp [Ent,List.lookup]
 ·exact Za.refl _ _
 intro k hk1;by_cases c1:k<xs.length
 ·have hg:=Ygh (hnot k c1);simp -dsimp -implicitDefEqProofs (disch:=first|with_reducible assumption|omega) [go_sem,idx hcs];refine Ybf mapB intB zeroB (Yrn (xs.take k)) List.mem_cons_self ?_;rw[hg];refine xx ?_;refine Yap mapB intB [] _ (Yrn (xs.take k)) ?_;rw[Ygt hg];refine xx ?_;refine⟨k+1,by omega,by omega,by simp [Ent,List.lookup],?_⟩;rw[htk k c1];simp only[Yrn,List.map_append,List.map_cons,List.map_nil,List.nil_append];exact Za.refl _ _
 obtain rfl:k=xs.length:=by omega
 clear c1 hk1;refine xx ?_;refine YZ (γ:=Nat×Option (Nat×Nat)) (0,none) (fun s=>s.1≤xs.length∧okO s.2 s.1) (fun s=>[(39,.int .i64 s.1),(38,.int .i64 xs.length),(37,.slice a xs.length c),(4,.pointer (some ⟨bl,0,none⟩))])
  (fun s=>lnB bl s.2 s.1::lnL s.2 (xs.take s.1) L) (fun _=>h) (fun s=>xs.length-s.1) ?_ ?_ ?_ ?_
 ·exact⟨Nat.zero_le _,rfl⟩
 ·simp [Ent,List.lookup]
 ·exact Za.tail _ _ _
 rintro⟨k,o⟩ ⟨k1,k2⟩;simp only at k1 k2 ⊢;by_cases c1:k<xs.length
 ·have hp:=hpos k c1;have hq:=hnum k;have hlen:(xs.take k).length=k:=by rw[List.length_take];omega
  simp -dsimp -implicitDefEqProofs (disch:=first|with_reducible assumption|omega) [go_sem,idx hcs];have key:∀ {K':PK},(∀o',okO o' (k+1)→K' (.int .i64 0) (lnB bl o' (k+1)::lnL o' (xs.take (k+1)) L) h)→Zb prog 332 [.pointer (some ⟨bl,0,none⟩),.int .i64 (at0 xs k)] (lnB bl o k::lnL o (xs.take k) L) h K':=fun {K'} hK=>by
   have:=Ydj (L:=L) (h:=h) (K:=K') (xs:=xs.take k) (bl:=bl) o (by rw[hlen];exact k2) (by omega) (at0 xs k) (by omega) (hnot k c1) fun o' h'=>by
    rw[← htk k c1]at h' ⊢;have e:(xs.take (k+1)).length=k+1:=by rw[List.length_take];omega
    rw[e]at h' ⊢;exact hK o' h'
   rwa [hlen]at this
  refine key fun o' j1=>?_;refine xx ?_;exact⟨k+1,o',⟨by omega,j1⟩,by omega,by simp [Ent,List.lookup],Za.refl _ _⟩
 ·obtain rfl:k=xs.length:=by omega
  rw[List.take_length];refine xx ?_;exact ZO (hk bl o n_bl h_bl k2)
open Go.RowKit Go.Proofs Go.Bl Go.Proofs.Tryz
def Zbu (m:Zc):Bool:=decide (m.status=2∨m.status=3)
def cP (l:List Zc)(i:Nat):List Nat:=(List.range i).filter fun j=>Zbu (gr ZS l j)
theorem Zns (l:List Zc)(i:Nat):cP l (i+1)=if Zbu (gr ZS l i) then cP l i++[i] else cP l i:=by
 unfold cP;rw[List.range_succ,List.filter_append];by_cases c:Zbu (gr ZS l i)=true
 ·simp [c]
 ·simp [c]
theorem Yuo {l:List Zc}{i j:Nat}(hj:j∈cP l i):j<i:=by
 unfold cP at hj;exact List.mem_range.1 (List.mem_filter.1 hj).1
theorem Zfl (l:List Zc)(i:Nat):(cP l i).length≤i:=by
 have:=List.length_filter_le (fun j=>Zbu (gr ZS l j)) (List.range i)
 rwa [List.length_range]at this
theorem Yxg {l:List Zc}{i j:Nat}(hj:j∈cP l i):Zbu (gr ZS l j)=true:=by
 unfold cP at hj;exact(List.mem_filter.1 hj).2
def thI (l:List Zc)(ks:List Int)(i:Nat):List Nat:=(cP l i).filter fun(j:Nat)=>Vs ks j
theorem Zcx (l:List Zc)(ks:List Int)(i:Nat):(thI l ks i).length≤i:=Nat.le_trans (List.length_filter_le _ _) (Zfl l i)
theorem Zcd (l:List Zc)(ks:List Int)(i:Nat):thI l ks (i+1)=if Zbu (gr ZS l i)&&Vs ks i then thI l ks i++[i] else thI l ks i:=by
 unfold thI;rw[Zns];by_cases c:Zbu (gr ZS l i)=true
 ·by_cases c2:Vs ks i=true
  ·simp [c,c2]
  ·simp [c,c2]
 ·simp [c]
def Zof (l:List Zc)(i:Nat):Int:=(gr ZS l i).eff
def Zen (l:List Zc):Int:=tot ((cP l l.length).map (Zof l))
def Zea (l:List Zc)(ks:List Int):Int:=tot ((thI l ks l.length).map (Zof l))
theorem Vn (x:Int)(xs:List Int):tot (x::xs)=x+tot xs:=by
 have:∀k,YP (x::xs) (k+1)=x+YP xs k:=fun k=>by
  induction k with
  | zero=>simp [YP,at0]
  | succ k ih=>rw[YP,ih,YP];simp only[at0,List.getD_cons_succ];omega
 exact this xs.length
theorem Zfs {α:Type}(f:α→Int)(q:α→Bool):∀(xs:List α),(∀x∈xs,0≤f x)→0≤tot ((xs.filter q).map f)∧tot ((xs.filter q).map f)≤tot (xs.map f)
 | [],_=>⟨Int.le_refl _,Int.le_refl _⟩
 | x::xs,h0=>by
  have ih:=Zfs f q xs fun y hy=>h0 y (List.mem_cons_of_mem _ hy);have hx:=h0 x List.mem_cons_self;rw[List.filter_cons];split
  ·rw[List.map_cons,List.map_cons,Vn,Vn];omega
  ·rw[List.map_cons,Vn];omega
theorem Yld {l:List Zc}(hm:∀x∈l,Zg x)(i:Nat):0≤Zof l i∧Zof l i≤18446744073709551615:=by
 unfold Zof;by_cases c:i<l.length
 ·rw[Yl c];exact(hm _ (List.getElem_mem c)).u _ (by simp)
 ·have:gr ZS l i=ZS:=by
   unfold gr;rw[List.getD_eq_getElem?_getD,List.getElem?_eq_none (by omega)];rfl
  rw[this];decide
theorem GR {l:List Zc}{ks:List Int}(hm:∀x∈l,Zg x):0≤Zea l ks∧Zea l ks≤Zen l:=Zfs _ _ _ fun x _=>(Yld hm x).1
def Zgt (s:Zf):Int:=Zea s.members s.marks
def Gg (s:Zf):Int:=Zen s.members
def Gu (s:Zf):Int:=Ymt s.par.delay (JS s.calm (Zgt s) (Gg s)).1 s.emer
def efC (l:List Zc)(ix:List Nat):List Value:=(ix.map (Zof l)).map (.int .u64)
theorem Jz (l:List Zc)(ix:List Nat):(efC l ix).length=ix.length*1:=by simp [efC]
theorem Zcg (l:List Zc)(ix:List Nat)(k:Nat):efC l (ix++[k])=efC l ix++[.int .u64 (Zof l k)]:=by simp [efC]
theorem Zhh {l:List Zc}(hm:∀x∈l,Zg x){ix:List Nat}{h:PH}{v:Value}(sl:Sl h v ix.length 1 (efC l ix)):Ints h .u64 v (ix.map (Zof l)):=by
 refine⟨by rw[List.length_map];exact sl,fun z hz=>?_⟩;obtain⟨i,_,rfl⟩:=List.mem_map.1 hz;rw[show IntKind.u64.min=0 by decide,show IntKind.u64.max=18446744073709551615 by decide];exact Yld hm i
theorem WF {e sz:Nat}(o:Option (Nat×Nat))(xs:List Value)(L:Own):oent e sz o xs L=oent e sz o xs []++L:=by cases o<;>rfl
theorem Wcx {ks:List Int}{k:Nat}{b:Bool}(e:Vs ks k=b):Vs ks (k:Int)=b:=e
theorem Zny {l:List Zc}{ks:List Int}(v kv:Value)(hd0:Zh YK 6 h v l)(hm:∀x∈l,Zg x)(hkv:Ints h .u8 kv ks)(hn:l.length≤1000)(hA:Zen l≤18446744073709551615)
  (hk:∀h',PH.le h h'→K (.tuple #[.int .u64 (Zea l ks),.int .u64 (Zen l),.int .i64 0]) L h'):Zb prog 136 [v,kv] L h K:=by
 have hP:=GR (ks:=ks) hm;have hkv0:=hkv;obtain⟨a,c,rfl,hc,hl,_,hd⟩:=hd0.open;obtain⟨ka,kc,rfl,_⟩:=hkv.open;refine ZR func136 rfl (rs:=[_,_,_]) rfl rfl ZY (by kernel_rfl) rfl rfl ?_;refine xx ?_;refine YZ (γ:=Nat×Option (Nat×Nat)×Option (Nat×Nat)) (0,none,none) (fun s=>s.1≤l.length∧okO s.2.1 (cP l s.1).length∧okO s.2.2 (thI l ks s.1).length∧apO s.2.1 (oent 22 1 s.2.2 (efC l (thI l ks s.1)) L) h∧apO s.2.2 L h)
  (fun s=>[(13,.int .i64 s.1),(12,.int .i64 l.length),(11,.slice a l.length c),(8,ovs s.2.1 (cP l s.1).length),(7,ovs s.2.2 (thI l ks s.1).length),(1,.slice ka ks.length kc)])
  (fun s=>oent 22 1 s.2.1 (efC l (cP l s.1)) (oent 22 1 s.2.2 (efC l (thI l ks s.1)) L)) (fun _=>h) (fun s=>l.length-s.1) ?_ ?_ ?_ ?_
 ·exact⟨Nat.zero_le _,rfl,rfl,trivial,trivial⟩
 ·simp [Ent,List.lookup,WM,ovs,cP,thI]
 ·exact Za.refl _ _
 rintro⟨k,o1,o2⟩ ⟨i1,i2,i3,i4,i5⟩;simp only at i1 i2 i3 i4 i5 ⊢;by_cases c1:k<l.length
 ·have hcn:(cP l k).length≤k:=Zfl l k;have htn:(thI l ks k).length≤k:=Zcx l ks k;have hs1:=Zns l k;have hs2:=Zcd l ks k;simp -dsimp -implicitDefEqProofs (disch:=first|with_reducible assumption|omega) [go_sem,↓Zam ZS (by decide) hd,YK];refine Z6 fun b7 nb7 zb7=>?_;(try simp only[ZU]at nb7);have n7:=YN (YN nb7);simp -dsimp -implicitDefEqProofs (disch:=first|with_reducible assumption|omega) [go_sem,YK];refine UL (gr ZS l k) ?_;by_cases c2:Zbu (gr ZS l k)=true
  ·have c2':(gr ZS l k).status=2∨(gr ZS l k).status=3:=by simpa [Zbu] using c2
   rw[decide_eq_true c2'];rw[if_pos c2]at hs1;rw[c2,Bool.true_and]at hs2;simp -dsimp -implicitDefEqProofs (disch:=first|with_reducible assumption|omega) [go_sem,YK];refine Z6 fun b8 nb8 zb8=>?_;(try simp only[ZU]at nb8);refine xx ?_;refine Z8 (t:=25) (e:=22) (sz:=1) (bytes:=8) (by kernel_rfl) U3 rfl rfl rfl rfl (by decide) [_,_] _ o1 (cP l k).length (efC l (cP l k)) i2 (Jz _ _) (Src.own List.mem_cons_self) (m:=1) (news:=[.int .u64 (gr ZS l k).eff]) rfl (by intro u hu;simp only[List.mem_singleton]at hu;subst hu;rfl) (by simp [maxLen];omega) (by omega) ?_;intro o1' j1 j2 j3;have j4:=Z2 (Z2 j2);have e1:efC l (cP l k)++[.int .u64 (gr ZS l k).eff]=efC l (cP l (k+1)):=by rw[hs1,Zcg];rfl
   have e2:(cP l k).length+1=(cP l (k+1)).length:=by rw[hs1];simp
   rw[e2]at j1 ⊢;rw[e1];refine xx ?_;refine Zan (bs:=ks) _ k hkv0 (by omega) ?_;by_cases c3:Vs ks k=true
   ·rw[if_pos c3]at hs2;rw[c3];refine xx ?_;refine Z6 fun b9 nb9 zb9=>?_;(try simp only[ZU]at nb9);refine xx ?_;rw[WF (e:=22) o1'];refine Z8 (t:=25) (e:=22) (sz:=1) (bytes:=8) (by kernel_rfl) U3 rfl rfl rfl rfl (by decide) (_::_::_::oent 22 1 o1' _ []) _ o2 (thI l ks k).length (efC l (thI l ks k)) i3 (Jz _ _) (Src.own List.mem_cons_self) (m:=1) (news:=[.int .u64 (gr ZS l k).eff]) rfl (by intro u hu;simp only[List.mem_singleton]at hu;subst hu;rfl) (by simp [maxLen];omega) (by omega) ?_;intro o2' l1 l2 l3;have l4:=Z2 (Z2 (Z2 l2));have l5:=Zis (e2:=22) (sz2:=1) (cs2:=efC l (thI l ks (k+1))) (Wf j4) l4;have e3:efC l (thI l ks k)++[.int .u64 (gr ZS l k).eff]=efC l (thI l ks (k+1)):=by rw[hs2,Zcg];rfl
    have e4:(thI l ks k).length+1=(thI l ks (k+1)).length:=by rw[hs2];simp
    rw[e4]at l1 ⊢;rw[e3];refine xx ?_;refine⟨k+1,o1',o2',⟨by omega,j1,l1,l5.1,l5.2⟩,by omega,by simp [Ent,List.lookup],?_⟩;rw[← WF];exact(Za.tail _ _ _).trans ((Za.tail _ _ _).trans (Za.tail _ _ _))
   ·rw[if_neg c3]at hs2;rw[show Vs ks k=false by simpa using c3];refine xx ?_;refine⟨k+1,o1',o2,⟨by omega,j1,by rw[hs2];exact i3,by rw[hs2];exact j4,i5⟩,by omega,by simp [Ent,List.lookup,hs2],?_⟩;rw[hs2];exact(Za.tail _ _ _).trans (Za.tail _ _ _)
  ·have c2':¬((gr ZS l k).status=2∨(gr ZS l k).status=3):=by simpa [Zbu] using c2
   rw[decide_eq_false c2'];rw[if_neg c2]at hs1;rw[show Zbu (gr ZS l k)=false by simpa using c2,Bool.false_and]at hs2;simp only[Bool.false_eq_true,if_false]at hs2;refine xx ?_;refine⟨k+1,o1,o2,⟨by omega,by rw[hs1];exact i2,by rw[hs2];exact i3,by rw[hs2];exact i4,i5⟩,by omega,by simp [Ent,List.lookup,hs1,hs2],?_⟩;rw[hs1,hs2];exact Za.tail _ _ _
 ·obtain rfl:k=l.length:=by omega
  refine xx ?_;have hcn:(cP l l.length).length≤l.length:=Zfl l l.length;have htn:(thI l ks l.length).length≤l.length:=Zcx l ks l.length;rw[WF (e:=22) o1];refine Zaj (n:=(thI l ks l.length).length) (oent 22 1 o1 (efC l (cP l l.length)) []) i3 (Jz _ _) (by omega) (fun h1 le1 sl1=>?_) ⟨f40,func40,by decide +kernel,rfl⟩;rw[← WF (e:=22) o1];have it:=Zhh hm sl1;refine WZ _ it ?_;rw[show tot ((thI l ks l.length).map (Zof l))=Zea l ks from rfl,YR (by omega)];refine xx ?_;refine Zaj (n:=(cP l l.length).length) [] i2 (Jz _ _) (by omega) (fun h2 le2 sl2=>?_) ⟨f40,func40,by decide +kernel,rfl⟩;have ia:=Zhh hm sl2;refine WZ _ ia ?_;rw[show tot ((cP l l.length).map (Zof l))=Zen l from rfl,YR hA];refine xx ?_;exact ZO (hk h2 (le1.trans le2))
theorem Ygv {p:Ze}(ok:Zj p)(hr:Ym p=true){m:Zc}(mo:Zg m)(there:Bool)(mode:Int):Zg (UN p m there mode):=by
 have hs:=Ys hr;have us:=mo.u m.score (by simp);have un:=mo.n m.streak (by simp);have ur:=ok.w p.recover (by simp [Yw]);have u1:=ok.w p.bias (by simp [Yw]);have u2:=ok.w p.biasEm (by simp [Yw]);have u3:=ok.w p.scoreCap (by simp [Yw])
 cases there with
 | true =>
  rw[Ybv];refine⟨fun z hz=>?_,fun z hz=>?_⟩
  ·simp only[List.mem_cons,List.not_mem_nil,or_false]at hz;rcases hz with rfl|rfl|rfl
   ·exact mo.u _ (by simp)
   ·exact mo.u _ (by simp)
   ·unfold WH;split<;>omega
  ·simp only[List.mem_cons,List.not_mem_nil,or_false]at hz;rcases hz with rfl|rfl|rfl
   ·unfold Yvr;split<;>omega
   ·exact mo.n _ (by simp)
   ·exact mo.n _ (by simp)
 | false =>
  rw[Zya];refine⟨fun z hz=>?_,fun z hz=>?_⟩
  ·simp only[List.mem_cons,List.not_mem_nil,or_false]at hz;rcases hz with rfl|rfl|rfl
   ·exact mo.u _ (by simp)
   ·exact mo.u _ (by simp)
   ·unfold Wht Zbr;split
    ·omega
    ·split<;>omega
  ·simp only[List.mem_cons,List.not_mem_nil,or_false]at hz;rcases hz with rfl|rfl|rfl
   ·omega
   ·exact mo.n _ (by simp)
   ·exact mo.n _ (by simp)
theorem Yoy {o:Option (Nat×Nat)}{n m:Nat}(ho:okO o n)(hm:m≤n):okO o m:=by
 cases o with
 | none=>have:n=0:=ho;show m=0;omega
 | some p=>exact⟨Nat.le_trans hm ho.1,ho.2⟩
theorem Zvu {xs:List Int}{bl:Nat}(o:Option (Nat×Nat))(ho:okO o xs.length)(hl:xs.length≤1000)
  (hk:∀o',okO o' xs.length→apO o' L h→K (ovs o' xs.length) (oent 3 1 o' (xs.map (.int .i64)) L) h) :
  Zb prog 265 [.pointer (some ⟨bl,0,none⟩)] (lnB bl o xs.length::lnL o xs L) h K:=by
 obtain⟨a,c,ea,hac⟩:=Yh ho;refine Z4 func265 rfl (rs:=[_]) rfl rfl ZY (by kernel_rfl) rfl rfl fun ap nd=>?_;have hb:h bl=noC:=ap.1;clear ap nd;refine xx ?_;have hsrc:Src (lnB bl o xs.length::lnL o xs L) h (ovs o xs.length) xs.length (xs.map (.int .i64)):=by
  cases o with
  | none =>
   have h0:xs.length=0:=ho;rw[List.length_eq_zero_iff.1 h0];exact Or.inl ⟨rfl,rfl,rfl⟩
  | some p=>exact Src.own (b:=p.1) (t:=3) (cap:=p.2*1) (by simp [lnL,oent])
 refine Z8 (t:=32) (e:=3) (sz:=1) (bytes:=8) (z:=[.int .i64 0]) (by kernel_rfl) Zem rfl rfl rfl rfl (by decide) [] _ none 0 [] rfl rfl hsrc (m:=xs.length) (by simp) (fun u hu=>?_) (by simp [maxLen];omega) (by omega) ?_
 ·obtain⟨w,_,rfl⟩:=List.mem_map.1 hu
  rfl
 intro o1 j1 j2 j3;simp only[List.nil_append,Nat.zero_add]at j1 j2 ⊢;obtain⟨x1,y1,e1,_⟩:=Yh j1;rw[e1];refine xx ?_;have k1:=hk o1 j1 (Wf (Z2 j2));rw[e1]at k1;refine⟨_,h,Za.sub ?_,k1⟩;rw[WF o1 _ L,WF o1 _ (lnB bl o xs.length::lnL o xs L)];refine List.Sublist.append (List.Sublist.refl _) (List.Sublist.cons _ ?_);rw[lnL,WF o];exact List.sublist_append_right _ _
theorem Zgk {xs:List Int}(v:Value)(hv:Ints h .i64 v xs)(hl:xs.length≤256)(h0:∀z∈xs,0≤z)(hn:xs.Nodup)(m:Int)(hm:0≤m∧m≤9223372036854775807)
  (hk:∀h' r o',PH.le h h'→Ints h' .i64 r (xs.take m.toNat)→okO o' (xs.drop m.toNat).length→apO o' L h'→K (.tuple #[r,ovs o' (xs.drop m.toNat).length]) (oent 3 1 o' ((xs.drop m.toNat).map (.int .i64)) L) h') :
  Zb prog 154 [v,.int .i64 m] L h K:=by
 have hr:=hv.2;have hv0:=hv;obtain⟨va,vc,rfl,hcap,hln,_,hcs⟩:=hv.open;refine ZR func154 rfl (rs:=[_,_]) rfl rfl ZY (by kernel_rfl) rfl rfl ?_;refine xx ?_;refine Ygx _ hv0 hl h0 hn fun bl o nb hb ho=>?_;refine xx ?_;refine Yhh o ho (by omega) m hm hr fun h1 r le1 it=>?_;have hdl:(xs.drop m.toNat).length≤xs.length:=by rw[List.length_drop];omega
 obtain⟨ys,hys⟩:∃ys,ys=xs.drop m.toNat:=⟨_,rfl⟩
 rw[← hys]at hk hdl ⊢;refine xx ?_;refine Zvu (xs:=ys) o (Yoy ho hdl) (by omega) fun o' k1 k2=>?_;refine xx ?_;exact ZO (hk h1 r o' le1 it k1 k2)
theorem Zxd {e1 sz1 n1 e2 sz2 n2:Nat}{o1 o2:Option (Nat×Nat)}{xs1 xs2:List Value}{L:Own}{h:PH}{K:PK}{v:Value}(ok1:okO o1 n1)(hl1:xs1.length=n1*sz1)(hn1:n1≤9223372036854775807)(ok2:okO o2 n2)(hl2:xs2.length=n2*sz2)(hn2:n2≤9223372036854775807)
  (ha1:apO o1 (oent e2 sz2 o2 xs2 L) h) (ha2:apO o2 L h)
  (hk:∀h',PH.le h h'→Sl h' (ovs o1 n1) n1 sz1 xs1→Sl h' (ovs o2 n2) n2 sz2 xs2→fin K v L h') (he1:e1≠4294967295:=by first|decide|omega) (he2:e2≠4294967295:=by first|decide|omega):fin K v (oent e1 sz1 o1 xs1 (oent e2 sz2 o2 xs2 L)) h:=by
 have a1:apO o1 [] h:=by
  cases o1 with
  | none=>trivial
  | some p=>exact⟨trivial,ha1.2⟩
 have a2:apO o2 [] (GG h o1 xs1):=by
  cases o2 with
  | none=>trivial
  | some q =>
   cases o1 with
   | none=>exact⟨trivial,ha2.2⟩
   | some p=>exact⟨trivial,GJ (o:=some p) (Ne.symm ha1.1.1) ha2.2⟩
 have le1:=Ws a1 xs1;have le2:=Ws a2 xs2;obtain⟨L',h',hd,hk⟩:=hk _ (le1.trans le2) ((Vt ok1 hl1 hn1).up le2) (Vt ok2 hl2 hn2);exact⟨L',h',((Wi o1 xs1 _ h he1).trans (Wi o2 xs2 L _ he2)).trans hd,hk⟩
def Gh (e:Int)(b:Bool)(d:Zi):Bool:=decide (d.at'≤e) == b
def Gl (l:List Zi)(e:Int)(b:Bool)(k:Nat):List Zi:=(l.take k).filter (Gh e b)
theorem Zsk (l:List Zi)(e:Int)(b:Bool)(k:Nat):(Gl l e b k).length≤l.length:=by
 unfold Gl;exact Nat.le_trans (List.length_filter_le _ _) (by rw[List.length_take];omega)
theorem Zjq {l:List Zi}{e:Int}{b:Bool}{k:Nat}(hk:k<l.length):Gl l e b (k+1)=Gl l e b k++(if Gh e b (gr Z5 l k) then [gr Z5 l k] else []):=by
 unfold Gl;rw[List.take_add_one,List.getElem?_eq_getElem hk,Yl hk,List.filter_append]
 congr 1
 simp only[Option.toList,List.filter]
 cases Gh e b l[k]<;>rfl
theorem GN (l:List Zi)(e:Int)(b:Bool)(k:Nat):((Gl l e b k).flatMap YT).length=(Gl l e b k).length*3:=Z3 YJ _
theorem Zyj {l:List Zi}(v:Value)(hv:Zh YT 3 h v l)(hl:l.length≤34000)(e:Int)
  (hk:∀h' r1 r2,PH.le h h'→Zh YT 3 h' r1 (l.filter (Gh e true))→Zh YT 3 h' r2 (l.filter (Gh e false))→K (.tuple #[r1,r2]) L h'):Zb prog 156 [v,.int .i64 e] L h K:=by
 obtain⟨a,c,rfl,hcap,hln,_,hcs⟩:=hv.open;refine ZR func156 rfl (rs:=[_,_]) rfl rfl ZY (by kernel_rfl) rfl rfl ?_;refine xx ?_;refine YZ (γ:=Nat×Option (Nat×Nat)×Option (Nat×Nat)) (0,none,none) (fun q=>q.1≤l.length∧okO q.2.1 (Gl l e true q.1).length∧okO q.2.2 (Gl l e false q.1).length∧apO q.2.1 (oent 142 3 q.2.2 ((Gl l e false q.1).flatMap YT) L) h∧apO q.2.2 L h)
  (fun q=>[(10,.int .i64 q.1),(9,.int .i64 l.length),(8,.slice a l.length c),(1,.int .i64 e),(4,ovs q.2.1 (Gl l e true q.1).length),(5,ovs q.2.2 (Gl l e false q.1).length)])
  (fun q=>oent 142 3 q.2.1 ((Gl l e true q.1).flatMap YT) (oent 142 3 q.2.2 ((Gl l e false q.1).flatMap YT) L)) (fun _=>h) (fun q=>l.length-q.1) ?_ ?_ ?_ ?_
 ·exact⟨Nat.zero_le _,by show (Gl l e true 0).length=0;simp [Gl],by show (Gl l e false 0).length=0;simp [Gl],trivial,trivial⟩
 ·simp [Ent,List.lookup,WM,ovs,Gl]
 ·exact Za.refl _ _
 rintro⟨k,o1,o2⟩ ⟨i1,i2,i3,i4,i5⟩;simp only at i1 i2 i3 i4 i5 ⊢;have tl:=Zsk l e true k;have dl:=Zsk l e false k;by_cases c1:k<l.length
 ·have ht:=Zjq (e:=e) (b:=true) c1;have hf:=Zjq (e:=e) (b:=false) c1;simp -dsimp -implicitDefEqProofs (disch:=first|with_reducible assumption|omega) [go_sem,↓Zam Z5 (by decide) hcs,YT];refine Z6 fun b7 nb7 zb7=>?_;(try simp only[ZU]at nb7);have n7:=YN (YN nb7);simp -dsimp -implicitDefEqProofs (disch:=first|with_reducible assumption|omega) [go_sem,YT];by_cases c2:(gr Z5 l k).at'≤e
  ·rw[if_pos (by simp [Gh,c2])]at ht;rw[if_neg (by simp [Gh,c2]),List.append_nil]at hf;have e3:(Gl l e true k).length+1=(Gl l e true (k+1)).length:=by rw[ht];simp
   simp -dsimp -implicitDefEqProofs (disch:=first|with_reducible assumption|omega) [go_sem,YT];refine Z6 fun b1 nb1 zb1=>?_;(try simp only[ZU]at nb1);refine xx ?_;refine Z8 (t:=34) (e:=142) (sz:=3) (bytes:=24) (by kernel_rfl) Jo rfl rfl rfl rfl (by decide) [_,_] _ o1 _ _ i2 (GN l e true k) (Src.own List.mem_cons_self) (m:=1) (news:=YT (gr Z5 l k)) rfl (by intro u hu;simp only[YT,List.mem_cons,List.not_mem_nil,or_false]at hu;rcases hu with rfl|rfl|rfl<;>rfl) (by simp [maxLen];omega) (by omega) ?_;intro o1' j1 j2 j3;rw[e3]at j1;rw[e3,show (Gl l e true k).flatMap YT++YT (gr Z5 l k)=(Gl l e true (k+1)).flatMap YT by rw[ht,List.flatMap_append];simp];refine xx ?_;exact⟨k+1,o1',o2,⟨by omega,j1,by rw[hf];exact i3,by rw[hf];exact Z2 (Z2 j2),i5⟩,by omega,by simp [Ent,List.lookup,hf],by rw[hf];exact(Za.tail _ _ _).trans (Za.tail _ _ _)⟩
  ·rw[if_neg (by simp [Gh,c2]),List.append_nil]at ht;rw[if_pos (by simp [Gh,c2])]at hf;have e3:(Gl l e false k).length+1=(Gl l e false (k+1)).length:=by rw[hf];simp
   simp -dsimp -implicitDefEqProofs (disch:=first|with_reducible assumption|omega) [go_sem,YT];refine Z6 fun b1 nb1 zb1=>?_;(try simp only[ZU]at nb1);refine xx ?_;rw[WF (e:=142) o1];refine Z8 (t:=34) (e:=142) (sz:=3) (bytes:=24) (by kernel_rfl) Jo rfl rfl rfl rfl (by decide) (_::_::oent 142 3 o1 _ []) _ o2 _ _ i3 (GN l e false k) (Src.own List.mem_cons_self) (m:=1) (news:=YT (gr Z5 l k)) rfl (by intro u hu;simp only[YT,List.mem_cons,List.not_mem_nil,or_false]at hu;rcases hu with rfl|rfl|rfl<;>rfl) (by simp [maxLen];omega) (by omega) ?_;intro o2' j1 j2 j3;rw[e3]at j1;rw[e3,show (Gl l e false k).flatMap YT++YT (gr Z5 l k)=(Gl l e false (k+1)).flatMap YT by rw[hf,List.flatMap_append];simp];simp only[List.cons_append];rw[← WF (e:=142) o1];refine xx ?_;have l5:=Zis (e2:=142) (sz2:=3) (cs2:=(Gl l e false (k+1)).flatMap YT) (Wf i4) (Z2 (Z2 j2));exact⟨k+1,o1,o2',⟨by omega,by rw[ht];exact i2,j1,l5.1,l5.2⟩,by omega,by simp [Ent,List.lookup,ht],by rw[ht];exact(Za.tail _ _ _).trans (Za.tail _ _ _)⟩
 ·obtain rfl:l.length=k:=by omega
  have e1:Gl l e true l.length=l.filter (Gh e true):=by unfold Gl;rw[List.take_length]
  have e2:Gl l e false l.length=l.filter (Gh e false):=by unfold Gl;rw[List.take_length]
  have f1:=GN l e true l.length;have f2:=GN l e false l.length;rw[e1]at i2 tl f1;rw[e2]at i3 i4 dl f2;rw[e1,e2];obtain⟨x1,y1,q1,_⟩:=Yh i2;obtain⟨x2,y2,q2,_⟩:=Yh i3;rw[q1,q2];refine xx ?_;refine Zxd (n1:=(l.filter (Gh e true)).length) (n2:=(l.filter (Gh e false)).length) i2 f1 (by omega) i3 f2 (by omega) i4 i5 fun h1 le1 s1 s2=>ZO ?_;have:=hk h1 _ _ le1 (Zh.pub YJ s1) (Zh.pub YJ s2)
  rwa [q1,q2]at this
theorem Zme {xs:List Int}(v:Value)(hx:Ints h .u8 v xs)(hl:xs.length≤1000)(hk:∀h' r,PH.le h h'→Ints h' .u8 r xs→K r L h'):Zb prog 276 [v] L h K:=by
 have hx0:=hx;obtain⟨a,c,rfl,_⟩:=hx.open;refine ZR func276 rfl (rs:=[_]) rfl rfl ZY (by kernel_rfl) rfl rfl ?_;refine xx ?_;refine Z8 (t:=36) (e:=5) (sz:=1) (bytes:=1) (z:=[.int .u8 0]) (by kernel_rfl) Zmw rfl rfl rfl rfl (by decide) [] _ none 0 [] rfl rfl (Src.known hx0.1) (by simp) (WC _ _) (by simp [maxLen];omega) (by omega) ?_;intro o k1 k2 k3;simp only[Nat.zero_add,List.nil_append]at k1 k2 ⊢;refine xx ?_;refine YE (n:=xs.length) k1 (by simp) (by omega) k2 fun h1 le1 sl=>ZO (hk h1 _ le1 ⟨sl,hx0.2⟩)
def Zle (ring:List (List Int))(marks:List Int):List (List Int):=marks::ring.take 7
def QsOk (h:PH)(q:List QS):Prop:=∀p∈q,Ints h .u8 p.1 p.2
theorem Yji {l:List QS}{marks:List Int}(v u:Value)(hv:Zz h v l)(hu:Ints h .u8 u marks)(hl:l.length≤1000)(hb:∀b∈xsL l,b.length≤1000)(hm:marks.length≤1000)
  (hk:∀h' r q,PH.le h h'→Zz h' r q→xsL q=Zle (xsL l) marks→K r L h'):Zb prog 168 [v,u] L h K:=by
 have hu0:=hu;obtain⟨a,c,rfl,hcap,hln,_,hcs,hd⟩:=hv.open;obtain⟨ua,uc,rfl,_⟩:=hu.open;refine ZR func168 rfl (rs:=[_]) rfl rfl ZY (by kernel_rfl) rfl rfl ?_;refine xx ?_;refine Zb.ap (Zme _ hu0 hm fun h1 r1 le1 i1 ap=>?_);obtain⟨xa,xc,rfl,_⟩:=i1.open;refine xx ?_;refine Z6 fun b5 nb5 zb5=>?_;(try simp only[ZU]at nb5);refine xx ?_;refine YZ (γ:=Nat×PH×Option (Nat×Nat)×List QS) (0,h1,some (b5,1),[(.slice xa marks.length xc,marks)])
  (fun q=>q.1≤l.length∧PH.le h1 q.2.1∧okO q.2.2.1 q.2.2.2.length∧apO q.2.2.1 L q.2.1∧xsL q.2.2.2=marks::(xsL l).take (min q.1 7)∧QsOk q.2.1 q.2.2.2)
  (fun q=>[(13,.int .i64 q.1),(12,.int .i64 l.length),(11,.slice a l.length c),(5,ovs q.2.2.1 q.2.2.2.length)])
  (fun q=>oent 36 1 q.2.2.1 (vsL q.2.2.2) L) (fun q=>q.2.1) (fun q=>l.length-q.1) ?_ ?_ ?_ ?_
 ·refine⟨Nat.zero_le _,PH.le_refl _,(show 1≤1∧1≤maxLen by decide),⟨nb5,zb5⟩,by simp [xsL],fun p hp=>?_⟩;rw[List.mem_singleton]at hp;subst hp;exact i1
 ·simp [Ent,List.lookup,WM,ovs]
 ·exact Za.refl _ _
 rintro⟨k,h2,o,q⟩ ⟨k1,k2,k3,k4,k5,k6⟩;simp only at k1 k2 k3 k4 k5 k6 ⊢;have hxl:(xsL l).length=l.length:=UB l;have hql:q.length=1+min k 7:=by
  rw[← UB q,k5,List.length_cons,List.length_take];omega
 by_cases c1:k<l.length
 ·have hg:=(hd.at c1).up (le1.trans k2);have hcs2:∀j,j<l.length→Yo h2 a j=some (gs l j).1:=(hd.up (le1.trans k2)).open.elim fun a' ⟨cap',e,_,_,_,hc2,_⟩=>by
   cases e
   exact hc2
  have hmem:(gs l k).2∈xsL l:=by rw[Zcp c1];exact List.mem_map.2 ⟨_,List.getElem_mem c1,rfl⟩
  have hbl:=hb _ hmem;have htk:(xsL l)[k]?=some (gs l k).2:=Yzr c1;obtain⟨x1,y1,e1,_⟩:=Yh k3;have hlen:∀(K:Value→Prop) (t:Zq K),Zca prog 3 #[37] (ovs o q.length) K t=K (.int .i64 q.length):=fun K t=>by rw[e1];exact YG (e:=36) (by kernel_rfl) _ _ _
  simp -dsimp -implicitDefEqProofs (disch:=first|with_reducible assumption|omega) [go_sem,idx hcs2,hlen];by_cases c2:k<7
  ·have hm1:min k 7=k:=by omega
   have hm2:min (k+1) 7=k+1:=by omega
   rw[hm1]at k5 hql;simp -dsimp -implicitDefEqProofs (disch:=first|with_reducible assumption|omega) [go_sem,idx hcs2,hlen];refine Zb.ap (Zme _ hg hbl fun h3 r3 le3 i3 ap=>?_);obtain⟨ya,yc,rfl,_⟩:=i3.open;have k4':=Zce k4 ap;refine xx ?_;refine Z6 fun b6 nb6 zb6=>?_;(try simp only[ZU]at nb6);refine xx ?_;refine Z8 (t:=37) (e:=36) (sz:=1) (bytes:=24) (by kernel_rfl) Yon rfl rfl rfl rfl (by decide) [_] L o q.length (vsL q) k3 (by simp [vsL]) (Src.own List.mem_cons_self) (m:=1) (news:=[.slice ya (gs l k).2.length yc]) rfl (fun u hu=>by simp at hu;subst hu;rfl) (by simp [maxLen];omega) (by omega) ?_;intro o' j1 j2 j3;refine xx ?_;refine⟨k+1,h3,o',q++[(.slice ya (gs l k).2.length yc,(gs l k).2)],⟨by omega,k2.trans le3,by simpa using j1,Z2 j2,?_,fun p hp=>?_⟩,by omega,by simp [Ent,List.lookup],?_⟩
   ·rw[hm2,List.take_add_one,htk];simp only[xsL,List.map_append,List.map_cons,List.map_nil]at k5 ⊢;rw[k5]
    rfl
   ·rcases List.mem_append.1 hp with hp|hp
    ·exact(k6 p hp).up le3
    ·rw[List.mem_singleton]at hp;subst hp;exact i3
   ·simp only[vsL,List.map_append,List.map_cons,List.map_nil];exact Za.tail _ _ _
  ·have hm1:min k 7=7:=by omega
   have hm2:min (k+1) 7=7:=by omega
   rw[hm1]at k5 hql;refine xx ?_;exact⟨k+1,h2,o,q,⟨by omega,k2,k3,k4,by rw[hm2];exact k5,k6⟩,by omega,by simp [Ent,List.lookup],Za.refl _ _⟩
 ·obtain rfl:l.length=k:=by omega
  refine xx ?_;obtain⟨x1,y1,e1,_⟩:=Yh k3;rw[e1]
  try simp -dsimp -implicitDefEqProofs (disch:=first|with_reducible assumption|omega) [go_sem]
  refine YE (n:=q.length) k3 (by simp [vsL]) (by omega) k4 fun h3 le3 sl=>ZO ?_;rw[e1]at sl;refine hk h3 _ q (le1.trans (k2.trans le3)) ⟨sl,fun p hp=>(k6 p hp).up le3⟩ ?_;rw[k5,Zle]
  congr 1
  by_cases c2:l.length≤7
  ·rw[Nat.min_eq_left c2,List.take_of_length_le (by omega),List.take_of_length_le (by omega)]
  ·rw[Nat.min_eq_right (by omega)]
def Zfg (m:Zm)(now:Int)(qu:Bool):Bool:=decide (m.state=2)&&(decide (m.due≤now)&&(qu||(decide (m.what=3)||decide (m.what=4))))
def VI (ms:List Zm)(now:Int)(qu:Bool)(k:Nat):List Int:=((List.range k).filter fun i=>Zfg (gr Yj ms i) now qu).map fun i:Nat=>(i:Int)
theorem Zko (ms:List Zm)(now:Int)(qu:Bool)(k:Nat):(VI ms now qu k).length≤k:=by
 unfold VI;rw[List.length_map];exact Nat.le_trans (List.length_filter_le _ _) (by rw[List.length_range];omega)
theorem Zvs (ms:List Zm)(now:Int)(qu:Bool)(k:Nat):VI ms now qu (k+1)=VI ms now qu k++(if Zfg (gr Yj ms k) now qu then [(k:Int)] else []):=by
 unfold VI;rw[List.range_succ,List.filter_append,List.map_append]
 congr 1
 simp only[List.filter]
 cases Zfg (gr Yj ms k) now qu<;>rfl
theorem Zje {ms:List Zm}{now:Int}{qu:Bool}{k:Nat}{z:Int}(hz:z∈VI ms now qu k):0≤z∧z<k:=by
 obtain⟨i,hi,rfl⟩:=List.mem_map.1 hz;have:=List.mem_range.1 (List.mem_filter.1 hi).1;omega
theorem Zzt {ql:List QM}{ms:List Zm}(v:Value)(hv:Zh Y2 33 h v ql)(hq:ql.map (fun x=>x.2.2)=ms)(hm:Y7 h ql)(hl:ql.length≤1000)(now:Int)(qu:Bool)
  (hk:∀h' r,PH.le h h'→Ints h' .i64 r (VI ms now qu ms.length)→K r L h'):Zb prog 160 [v,.int .i64 now,.bool qu] L h K:=by
 have hql:ql.length=ms.length:=by rw[← hq,List.length_map]
 obtain⟨va,vc,rfl,_,_,_,hd⟩:=hv.open;rw[hql]at hd;refine ZR func160 rfl (rs:=[_]) rfl rfl ZY (by kernel_rfl) rfl rfl ?_;refine xx ?_;rw[hql];refine YZ (γ:=Nat×Option (Nat×Nat)) (0,none) (fun q=>q.1≤ms.length∧okO q.2 (VI ms now qu q.1).length∧apO q.2 L h) (fun q=>[(12,.int .i64 q.1),(11,.int .i64 ms.length),(10,.slice va ms.length vc),(7,ovs q.2 (VI ms now qu q.1).length),(1,.int .i64 now),(2,.bool qu)]) (fun q=>oent 3 1 q.2 ((VI ms now qu q.1).map (.int .i64)) L) (fun _=>h) (fun q=>ms.length-q.1) ?_ ?_ ?_ ?_
 ·exact⟨Nat.zero_le _,rfl,trivial⟩
 ·simp [Ent,List.lookup,WM,ovs,VI]
 ·exact Za.refl _ _
 rintro⟨j,o⟩ ⟨j1,j2,j3⟩;simp only at j1 j2 j3 ⊢;have hrl:=Zko ms now qu j;by_cases c1:j<ms.length
 ·have hs:=Zvs ms now qu j;obtain⟨qk,hqk⟩:∃qk,qk=gr Yc ql j:=⟨_,rfl⟩
  have hmem:qk∈ql:=by rw[hqk,Yl (by omega)];exact List.getElem_mem _
  have hmk:Zw h qk:=hm qk hmem;have hgm:gr Yj ms j=qk.2.2:=by
   have e:ms[j]?=some qk.2.2:=by
    rw[← hq,List.getElem?_map,List.getElem?_eq_getElem (by omega),← Yl (z:=Yc) (by omega),← hqk]
    rfl
   rw[List.getElem?_eq_getElem c1]at e;rw[Yl c1];exact Option.some.inj e
  rw[hgm]at hs;have hy:=hmk.y;have hn:=hmk.n;obtain⟨vy,vn,md⟩:=qk;simp only at hy hn hs;obtain⟨ya,yc,rfl,_⟩:=hy.open;obtain⟨na,nc,rfl,_⟩:=hn.open;have hqs:=hqk.symm;simp -dsimp -implicitDefEqProofs (disch:=first|with_reducible assumption|omega) [go_sem,↓Zam Yc (by decide) hd,hqs,Y2,Jb,List.cons_append,List.nil_append];refine Z6 fun b9 nb9 zb9=>?_;(try simp only[ZU]at nb9);have n9:=YN nb9;simp -dsimp -implicitDefEqProofs (disch:=first|with_reducible assumption|omega) [go_sem,hqs,Y2,Jb,List.cons_append,List.nil_append];by_cases c2:md.state=2
  ·by_cases c3:md.due≤now
   ·cases qu with
    | true =>
     rw[if_pos (by simp [Zfg,c2,c3])]at hs;refine xx ?_;refine Z6 fun b10 nb10 zb10=>?_;(try simp only[ZU]at nb10);refine xx ?_;refine Z8 (t:=32) (e:=3) (sz:=1) (bytes:=8) (by kernel_rfl) Zem rfl rfl rfl rfl (by decide) [_,_] L o (VI ms now true j).length _ j2 (by simp) (Src.own List.mem_cons_self) (m:=1) (news:=[.int .i64 j]) rfl (fun u hu=>by simp at hu;subst hu;rfl) (by simp [maxLen];omega) (by omega) ?_;intro o' i1 i2 i3;refine xx ?_;have hsl:(VI ms now true (j+1)).length=(VI ms now true j).length+1:=by rw[hs,List.length_append];rfl
     refine⟨j+1,o',⟨by omega,by rw[hsl];exact i1,Z2 (Z2 i2)⟩,by omega,by simp [Ent,List.lookup,hsl],?_⟩;simp only[hs,List.map_append,List.map_cons,List.map_nil];exact(Za.tail _ _ _).trans (Za.tail _ _ _)
    | false =>
     by_cases c5:md.what=3
     ·rw[if_pos (by simp [Zfg,c2,c3,c5])]at hs;refine xx ?_;refine Z6 fun b10 nb10 zb10=>?_;(try simp only[ZU]at nb10);refine xx ?_;refine Z8 (t:=32) (e:=3) (sz:=1) (bytes:=8) (by kernel_rfl) Zem rfl rfl rfl rfl (by decide) [_,_] L o (VI ms now false j).length _ j2 (by simp) (Src.own List.mem_cons_self) (m:=1) (news:=[.int .i64 j]) rfl (fun u hu=>by simp at hu;subst hu;rfl) (by simp [maxLen];omega) (by omega) ?_;intro o' i1 i2 i3;refine xx ?_;have hsl:(VI ms now false (j+1)).length=(VI ms now false j).length+1:=by rw[hs,List.length_append];rfl
      refine⟨j+1,o',⟨by omega,by rw[hsl];exact i1,Z2 (Z2 i2)⟩,by omega,by simp [Ent,List.lookup,hsl],?_⟩;simp only[hs,List.map_append,List.map_cons,List.map_nil];exact(Za.tail _ _ _).trans (Za.tail _ _ _)
     ·by_cases c6:md.what=4
      ·rw[if_pos (by simp [Zfg,c2,c3,c5,c6])]at hs;refine xx ?_;refine Z6 fun b10 nb10 zb10=>?_;(try simp only[ZU]at nb10);refine xx ?_;refine Z8 (t:=32) (e:=3) (sz:=1) (bytes:=8) (by kernel_rfl) Zem rfl rfl rfl rfl (by decide) [_,_] L o (VI ms now false j).length _ j2 (by simp) (Src.own List.mem_cons_self) (m:=1) (news:=[.int .i64 j]) rfl (fun u hu=>by simp at hu;subst hu;rfl) (by simp [maxLen];omega) (by omega) ?_;intro o' i1 i2 i3;refine xx ?_;have hsl:(VI ms now false (j+1)).length=(VI ms now false j).length+1:=by rw[hs,List.length_append];rfl
       refine⟨j+1,o',⟨by omega,by rw[hsl];exact i1,Z2 (Z2 i2)⟩,by omega,by simp [Ent,List.lookup,hsl],?_⟩;simp only[hs,List.map_append,List.map_cons,List.map_nil];exact(Za.tail _ _ _).trans (Za.tail _ _ _)
      ·rw[if_neg (by simp [Zfg,c2,c3,c5,c6]),List.append_nil]at hs;refine xx ?_;exact⟨j+1,o,⟨by omega,by rw[hs];exact j2,j3⟩,by omega,by simp [Ent,List.lookup,hs],by simp only[hs];exact Za.tail _ _ _⟩
   ·rw[if_neg (by simp [Zfg,c2,c3]),List.append_nil]at hs;refine xx ?_;exact⟨j+1,o,⟨by omega,by rw[hs];exact j2,j3⟩,by omega,by simp [Ent,List.lookup,hs],by simp only[hs];exact Za.tail _ _ _⟩
  ·rw[if_neg (by simp [Zfg,c2]),List.append_nil]at hs;refine xx ?_;exact⟨j+1,o,⟨by omega,by rw[hs];exact j2,j3⟩,by omega,by simp [Ent,List.lookup,hs],by simp only[hs];exact Za.tail _ _ _⟩
 ·obtain rfl:j=ms.length:=by omega
  refine xx ?_;refine YE (n:=(VI ms now qu ms.length).length) j2 (by simp) (by omega) j3 fun h3 le3 sl=>ZO (hk h3 _ le3 ⟨sl,fun z hz=>?_⟩);have:=Zje hz;rw[show IntKind.i64.min = -9223372036854775808 by decide,show IntKind.i64.max=9223372036854775807 by decide];omega
def Ygd (q y n a:Int):Bool:=decide (y+n≤18446744073709551615)&&(decide (a≠0)&&(decide (n<y)&&(decide (0≤q) && !decide ((y+n)*10000<q*a))))
theorem Yeh (p:Ze)(ok:Zj p)(y n a:Int)(hy:0≤y∧y≤18446744073709551615)(hn:0≤n∧n≤18446744073709551615)(ha:0≤a∧a≤18446744073709551615)
  (hk:K (.bool (Ygd p.quorum y n a)) L h):Zb prog 271 [VQ p,.agg #[.int .u64 y,.int .u64 n,.int .u64 a]] L h K:=by
 have hq : -9223372036854775808≤p.quorum∧p.quorum≤9223372036854775807:=ok.n _ (by simp [Yk]);unfold Ygd at hk;refine ZR func271 rfl (rs:=[_]) rfl rfl ZY (by kernel_rfl) rfl rfl ?_;refine xx ?_;refine Z6 fun b2 nb2 zb2=>?_;(try simp only[ZU]at nb2);refine xx ?_;refine Z6 fun b3 nb3 zb3=>?_;(try simp only[ZU]at nb3);refine xx ?_;refine WO _ _ hy hn ?_;by_cases c1:y+n≤18446744073709551615
 ·rw[YR c1];rw[decide_eq_true c1]at hk;refine xx ?_;by_cases c2:a=0
  ·rw[decide_eq_false (fun e=>e c2)]at hk;refine xx ?_;exact ZP (ZP (ZO hk))
  ·rw[decide_eq_true c2]at hk;refine xx ?_;by_cases c3:y≤n
   ·rw[decide_eq_false (by omega)]at hk;refine xx ?_;exact ZP (ZP (ZO hk))
   ·rw[decide_eq_true (show n<y by omega)]at hk;refine xx ?_;by_cases c4:p.quorum<0
    ·rw[decide_eq_false (show ¬ 0≤p.quorum by omega)]at hk;refine xx ?_;exact ZP (ZP (ZO hk))
    ·rw[decide_eq_true (show 0≤p.quorum by omega)]at hk;refine xx ?_;refine Zdl (y+n) 10000 p.quorum a (by omega) (by decide) (by omega) ha ?_;obtain⟨b,hb⟩:∃b,b=decide ((y+n)*10000<p.quorum*a):=⟨_,rfl⟩
     rw[← hb]at hk ⊢;refine xx ?_;simp only[Bool.true_and]at hk;exact ZP (ZP (ZO hk))
 ·rw[WG c1];rw[decide_eq_false c1]at hk;refine xx ?_;exact ZP (ZP (ZO hk))
theorem Yqj (i:Int)(hk:K (.bool true) L h):Zb prog 336 [.int .i64 i] L h K:=by
 refine ZR func336 rfl (rs:=[_]) rfl rfl ZY (by kernel_rfl) rfl rfl ?_;refine xx ?_;exact ZO hk
theorem Yoh {ks:List Int}(kv:Value)(hkv:Ints h .u8 kv ks)(i:Nat)(hi:i≤1000)(b:Nat)(hb:(⟨b,36,[kv],1⟩:Zo)∈L)(hk:K (.bool (Vs ks i)) L h):Zb prog 364 [.int .i64 i,.pointer (some ⟨b,0,none⟩)] L h K:=by
 have hkv0:=hkv;obtain⟨ka,kc,rfl,_⟩:=hkv.open;refine Zb.frame1 hb ?_ hk;refine Z4 func364 rfl (rs:=[_]) rfl rfl ZY (by kernel_rfl) rfl rfl fun ap nd=>?_;have hn:h b=noC:=ap.1;clear ap nd;refine xx ?_;refine Zan (bs:=ks) _ i hkv0 (by omega) ?_;refine xx ?_;exact ZO ⟨rfl,rfl,rfl⟩
theorem Ycp {l:List Zc}(v:Value)(hd0:Zh YK 6 h v l)(hn:l.length≤1000)(hm:∀x∈l,Zg x)
  (hk:∀h' r,PH.le h h'→Ints h' .u64 r ((cP l l.length).map (Zof l))→K r L h'):Zb prog 335 [v,.func (.func 336) #[] #[]] L h K:=by
 obtain⟨a,c,rfl,hc,hl,_,hd⟩:=hd0.open;refine ZR func335 rfl (rs:=[_]) rfl rfl ZY (by kernel_rfl) rfl rfl ?_;refine xx ?_;refine YZ (γ:=Nat×Option (Nat×Nat)) (0,none) (fun s=>s.1≤l.length∧okO s.2 (cP l s.1).length∧apO s.2 L h)
  (fun s=>[(10,.int .i64 s.1),(9,.int .i64 l.length),(8,.slice a l.length c),(5,ovs s.2 (cP l s.1).length),(1,.func (.func 336) #[] #[])])
  (fun s=>oent 22 1 s.2 (efC l (cP l s.1)) L) (fun _=>h) (fun s=>l.length-s.1) ?_ ?_ ?_ ?_
 ·exact⟨Nat.zero_le _,rfl,trivial⟩
 ·simp [Ent,List.lookup,WM,ovs,cP]
 ·exact Za.refl _ _
 rintro⟨k,o1⟩ ⟨i1,i2,i4⟩;simp only at i1 i2 i4 ⊢;by_cases c1:k<l.length
 ·have hcn:(cP l k).length≤k:=Zfl l k;have hs1:=Zns l k;simp -dsimp -implicitDefEqProofs (disch:=first|with_reducible assumption|omega) [go_sem,↓Zam ZS (by decide) hd,YK];refine Z6 fun b7 nb7 zb7=>?_;(try simp only[ZU]at nb7);have n7:=YN nb7;simp -dsimp -implicitDefEqProofs (disch:=first|with_reducible assumption|omega) [go_sem,YK];refine UL (gr ZS l k) ?_;by_cases c2:Zbu (gr ZS l k)=true
  ·have c2':(gr ZS l k).status=2∨(gr ZS l k).status=3:=by simpa [Zbu] using c2
   rw[decide_eq_true c2'];rw[if_pos c2]at hs1;simp -dsimp -implicitDefEqProofs (disch:=first|with_reducible assumption|omega) [go_sem,YK];refine Yqj (k:Int) ?_;simp -dsimp -implicitDefEqProofs (disch:=first|with_reducible assumption|omega) [go_sem,YK];refine Z6 fun b8 nb8 zb8=>?_;(try simp only[ZU]at nb8);refine xx ?_;refine Z8 (t:=25) (e:=22) (sz:=1) (bytes:=8) (by kernel_rfl) U3 rfl rfl rfl rfl (by decide) [_,_] _ o1 (cP l k).length (efC l (cP l k)) i2 (Jz _ _) (Src.own List.mem_cons_self) (m:=1) (news:=[.int .u64 (gr ZS l k).eff]) rfl (by intro u hu;simp only[List.mem_singleton]at hu;subst hu;rfl) (by simp [maxLen];omega) (by omega) ?_;intro o1' j1 j2 j3;have j4:=Z2 (Z2 j2);have e1:efC l (cP l k)++[.int .u64 (gr ZS l k).eff]=efC l (cP l (k+1)):=by rw[hs1,Zcg];rfl
   have e2:(cP l k).length+1=(cP l (k+1)).length:=by rw[hs1];simp
   rw[e2]at j1 ⊢;rw[e1];refine xx ?_;exact⟨k+1,o1',⟨by omega,j1,j4⟩,by omega,by simp [Ent,List.lookup],(Za.tail _ _ _).trans (Za.tail _ _ _)⟩
  ·have c2':¬((gr ZS l k).status=2∨(gr ZS l k).status=3):=by simpa [Zbu] using c2
   rw[decide_eq_false c2'];rw[if_neg c2]at hs1;refine xx ?_;exact⟨k+1,o1,⟨by omega,by rw[hs1];exact i2,i4⟩,by omega,by simp [Ent,List.lookup,hs1],by rw[hs1];exact Za.tail _ _ _⟩
 ·obtain rfl:k=l.length:=by omega
  have hcn:(cP l l.length).length≤l.length:=Zfl l l.length;refine xx ?_;refine YE (n:=(cP l l.length).length) i2 (Jz _ _) (by omega) i4 fun h1 le1 sl=>ZO (hk h1 _ le1 (Zhh hm sl))
theorem Zwp {l:List Zc}{ks:List Int}(v kv:Value)(hd0:Zh YK 6 h v l)(hn:l.length≤1000)(hm:∀x∈l,Zg x)(hkv:Ints h .u8 kv ks)(b:Nat)(hb:(⟨b,36,[kv],1⟩:Zo)∈L)
  (hk:∀h' r,PH.le h h'→Ints h' .u64 r ((thI l ks l.length).map (Zof l))→K r L h'):Zb prog 335 [v,.func (.func 364) #[] #[.pointer (some ⟨b,0,none⟩)]] L h K:=by
 obtain⟨a,c,rfl,hc,hl,_,hd⟩:=hd0.open;refine ZR func335 rfl (rs:=[_]) rfl rfl ZY (by kernel_rfl) rfl rfl ?_;refine xx ?_;refine YZ (γ:=Nat×Option (Nat×Nat)) (0,none) (fun s=>s.1≤l.length∧okO s.2 (thI l ks s.1).length∧apO s.2 L h)
  (fun s=>[(10,.int .i64 s.1),(9,.int .i64 l.length),(8,.slice a l.length c),(5,ovs s.2 (thI l ks s.1).length),(1,.func (.func 364) #[] #[.pointer (some ⟨b,0,none⟩)])])
  (fun s=>oent 22 1 s.2 (efC l (thI l ks s.1)) L) (fun _=>h) (fun s=>l.length-s.1) ?_ ?_ ?_ ?_
 ·exact⟨Nat.zero_le _,rfl,trivial⟩
 ·simp [Ent,List.lookup,WM,ovs,cP,thI]
 ·exact Za.refl _ _
 rintro⟨k,o1⟩ ⟨i1,i2,i4⟩;simp only at i1 i2 i4 ⊢;have hbo:∀(x y:List Zo),(⟨b,36,[kv],1⟩:Zo)∈x++oent 22 1 o1 (efC l (thI l ks k)) L:=fun x y=>by
  refine List.mem_append_right _ ?_
  cases o1 with
  | none=>exact hb
  | some p=>exact List.mem_cons_of_mem _ hb
 by_cases c1:k<l.length
 ·have hcn:(thI l ks k).length≤k:=Zcx l ks k;have hs1:=Zcd l ks k;simp -dsimp -implicitDefEqProofs (disch:=first|with_reducible assumption|omega) [go_sem,↓Zam ZS (by decide) hd,YK];refine Z6 fun b7 nb7 zb7=>?_;(try simp only[ZU]at nb7);have n7:=YN nb7;simp -dsimp -implicitDefEqProofs (disch:=first|with_reducible assumption|omega) [go_sem,YK];refine UL (gr ZS l k) ?_;by_cases c2:Zbu (gr ZS l k)=true
  ·have c2':(gr ZS l k).status=2∨(gr ZS l k).status=3:=by simpa [Zbu] using c2
   rw[decide_eq_true c2'];rw[c2,Bool.true_and]at hs1;simp -dsimp -implicitDefEqProofs (disch:=first|with_reducible assumption|omega) [go_sem,YK];refine Yoh kv hkv k (by omega) b (hbo [_] []) ?_;by_cases c3:Vs ks k=true
   ·rw[if_pos c3]at hs1;rw[Wcx c3];simp -dsimp -implicitDefEqProofs (disch:=first|with_reducible assumption|omega) [go_sem,YK];refine Z6 fun b8 nb8 zb8=>?_;(try simp only[ZU]at nb8);refine xx ?_;refine Z8 (t:=25) (e:=22) (sz:=1) (bytes:=8) (by kernel_rfl) U3 rfl rfl rfl rfl (by decide) [_,_] _ o1 (thI l ks k).length (efC l (thI l ks k)) i2 (Jz _ _) (Src.own List.mem_cons_self) (m:=1) (news:=[.int .u64 (gr ZS l k).eff]) rfl (by intro u hu;simp only[List.mem_singleton]at hu;subst hu;rfl) (by simp [maxLen];omega) (by omega) ?_;intro o1' j1 j2 j3;have j4:=Z2 (Z2 j2);have e1:efC l (thI l ks k)++[.int .u64 (gr ZS l k).eff]=efC l (thI l ks (k+1)):=by rw[hs1,Zcg];rfl
    have e2:(thI l ks k).length+1=(thI l ks (k+1)).length:=by rw[hs1];simp
    rw[e2]at j1 ⊢;rw[e1];refine xx ?_;exact⟨k+1,o1',⟨by omega,j1,j4⟩,by omega,by simp [Ent,List.lookup],(Za.tail _ _ _).trans (Za.tail _ _ _)⟩
   ·have c3':Vs ks k=false:=by simpa using c3
    rw[if_neg c3]at hs1;rw[Wcx c3'];refine xx ?_;exact⟨k+1,o1,⟨by omega,by rw[hs1];exact i2,i4⟩,by omega,by simp [Ent,List.lookup,hs1],by rw[hs1];exact Za.tail _ _ _⟩
  ·have c2':¬((gr ZS l k).status=2∨(gr ZS l k).status=3):=by simpa [Zbu] using c2
   rw[decide_eq_false c2'];rw[show Zbu (gr ZS l k)=false by simpa using c2,Bool.false_and]at hs1;simp only[Bool.false_eq_true,if_false]at hs1;refine xx ?_;exact⟨k+1,o1,⟨by omega,by rw[hs1];exact i2,i4⟩,by omega,by simp [Ent,List.lookup,hs1],by rw[hs1];exact Za.tail _ _ _⟩
 ·obtain rfl:k=l.length:=by omega
  have hcn:(thI l ks l.length).length≤l.length:=Zcx l ks l.length;refine xx ?_;refine YE (n:=(thI l ks l.length).length) i2 (Jz _ _) (by omega) i4 fun h1 le1 sl=>ZO (hk h1 _ le1 (Zhh hm sl))
theorem Zgg {l:List Zc}{ks:List Int}(v kv:Value)(hd0:Zh YK 6 h v l)(hn:l.length≤1000)(hm:∀x∈l,Zg x)(hkv:Ints h .u8 kv ks)
  (hk:∀h',PH.le h h'→K (Zqa (Zea l ks)) L h'):Zb prog 337 [v,kv] L h K:=by
 have hkv0:=hkv;obtain⟨ka,kc,rfl,_⟩:=hkv.open;refine ZR func337 rfl (rs:=[_,_]) rfl rfl ZY (by kernel_rfl) rfl rfl ?_;refine xx ?_;refine Z6 fun b3 nb3 zb3=>?_;(try simp only[ZU]at nb3);refine xx ?_;refine Zwp v _ hd0 hn hm hkv0 b3 List.mem_cons_self fun h1 r le1 it=>?_;obtain⟨ra,rc,rfl,_⟩:=it.open;rw[List.length_map]at it;simp only[List.length_map];refine xx ?_;refine WZ _ it ?_;have hk:=hk h1 le1;rw[show tot ((thI l ks l.length).map (Zof l))=Zea l ks from rfl];by_cases c:Zea l ks≤18446744073709551615
 ·rw[YR c]at hk ⊢;refine xx ?_;exact ZP (ZO hk)
 ·rw[WG c]at hk ⊢;refine xx ?_;exact ZP (ZO hk)
theorem Ztb {l:List Zc}{ys ns:List Int}(v yv nv:Value)(hd0:Zh YK 6 h v l)(hn:l.length≤1000)(hm:∀x∈l,Zg x)(hy:Ints h .u8 yv ys)(hno:Ints h .u8 nv ns)(hA:Zen l≤18446744073709551615)
  (hk:∀h',PH.le h h'→K (.tuple #[.agg #[.int .u64 (Zea l ys),.int .u64 (Zea l ns),.int .u64 (Zen l)],.int .i64 0]) L h'):Zb prog 270 [v,yv,nv] L h K:=by
 have p1:=GR (ks:=ys) hm;have p2:=GR (ks:=ns) hm;refine ZR func270 rfl (rs:=[_,_]) rfl rfl ZY (by kernel_rfl) rfl rfl ?_;refine xx ?_;refine Z6 fun b6 nb6 zb6=>?_;(try simp only[ZU]at nb6);refine xx ?_;refine Zb.ap (Ycp v hd0 hn hm fun h1 r le1 it ap=>?_);simp only[Ap]at ap;obtain⟨a1,_⟩:=ap;obtain⟨ra,rc,rfl,_⟩:=it.open;rw[List.length_map]at it;simp only[List.length_map];refine xx ?_;refine WZ _ it ?_;rw[show tot ((cP l l.length).map (Zof l))=Zen l from rfl,YR hA];refine xx ?_;refine Zb.ap (Zgg v yv (hd0.up le1) hn hm (hy.up le1) fun h2 le2 ap=>?_);simp only[Ap]at ap;obtain⟨a2,_⟩:=ap;rw[YR (show Zea l ys≤18446744073709551615 by omega)];have le12:=le1.trans le2;refine xx ?_;refine Zb.ap (Zgg v nv (hd0.up le12) hn hm (hno.up le12) fun h3 le3 ap=>?_);simp only[Ap]at ap;obtain⟨a3,_⟩:=ap;rw[YR (show Zea l ns≤18446744073709551615 by omega)];refine xx ?_;exact ZP (ZO (hk h3 (le12.trans le3)))
open Go.RowKit
section
variable {P:Program}
def Zif (h:PH)(b:Nat):PH:=fun b' o=>if b'=b then none else h b' o
theorem Ygw {h h2:PH}{b:Nat}(hb:h b=noC)(le:PH.le h h2):PH.le h (Zif h2 b):=by
 intro b' o v hv;simp only[Zif];split
 ·rename_i e;rw[e,hb]at hv;cases hv
 ·exact le b' o v hv
theorem Yce (h:PH)(b:Nat):Zif h b b=noC:=by
 funext o
 simp [Zif,noC]
theorem Ygy {h:PH}{b c:Nat}(hc:h c=noC):Zif h b c=noC:=by
 funext o
 simp only[Zif];split
 ·rfl
 ·exact congrFun hc o
theorem Zb.lend {f:FuncId}{args:List Value}{L:Own}{h:PH}{K:PK}{b t cap:Nat}{cs:List Value}(heT:t≠4294967295)
  (hs:Zb P f args L (pub h b cs) fun v L' h'=>K v (⟨b,t,cs,cap⟩::L') (Zif h' b)):Zb P f args (⟨b,t,cs,cap⟩::L) h K:=by
 refine⟨trivial,fun W hg=>?_⟩;obtain⟨g1,_⟩:=Zia b t cap cs L h heT W hg;have hnd:=hg.nodup;simp only[List.map_cons,List.nodup_cons]at hnd;have hbW:b<W.heap.size:=Zbn hg (e:=⟨b,t,cs,cap⟩) List.mem_cons_self;refine(hs.2 W g1).mono fun e W' hh=>?_;obtain⟨v,L2,h2,e1,hk,g2,kp,hfr⟩:=hh;have hb2:∀e∈L2,e.b≠b:=fun e he hb=>by
  rcases hfr e he with hm|hm
  ·exact hnd.1 (by rw[← hb];exact hm)
  ·omega
 refine⟨v,_,_,e1,hk,⟨fun b' o v hv=>?_,fun e he=>?_,?_,fun e he=>?_⟩,⟨kp.os,kp.tape,kp.output,kp.size,fun k hk' hM=>kp.block k hk' fun hm=>hM ?_⟩,fun e he=>?_⟩
 ·simp only[Zif]at hv;split at hv
  ·cases hv
  ·exact g2.sub _ _ _ hv
 ·rcases List.mem_cons.1 he with rfl|he
  ·show BlkIs _ W'.heap[b]?;rw[kp.block b hbW hnd.1];exact hg.own _ List.mem_cons_self
  ·exact g2.own e he
 ·simp only[List.map_cons,List.nodup_cons];refine⟨fun hm=>?_,g2.nodup⟩;obtain⟨e,he,hb⟩:=List.mem_map.1 hm;exact hb2 e he hb
 ·rcases List.mem_cons.1 he with rfl|he
  ·exact Yce h2 b
  ·exact Ygy (g2.apart e he)
 ·simp only[List.map_cons];exact List.mem_cons_of_mem _ hm
 ·rcases List.mem_cons.1 he with rfl|he
  ·exact Or.inl (by simp)
  ·rcases hfr e he with hm|hm
   ·exact Or.inl (by simp only[List.map_cons];exact List.mem_cons_of_mem _ hm)
   ·exact Or.inr hm
def Ylf (h:PH):Option (Nat×Nat)→PH
 | none=>h
 | some p=>Zif h p.1
theorem Zb.lend_o {f:FuncId}{args:List Value}{L:Own}{h:PH}{K:PK}{e sz n:Nat}{o:Option (Nat×Nat)}{cs:List Value}(ho:okO o n)(hl:cs.length=n*sz)(hn:n≤9223372036854775807)
  (hs:Sl (GG h o cs) (ovs o n) n sz cs→Zb P f args L (GG h o cs) fun v L' h'=>K v (oent e sz o cs L') (Ylf h' o)) (heT:e≠4294967295:=by first|decide|omega):Zb P f args (oent e sz o cs L) h K:=by
 have hs:=hs (Vt ho hl hn)
 cases o with
 | none=>exact hs
 | some p=>exact Zb.lend heT hs
end
open Go.RowKit Go.Proofs Go.Bl Go.Proofs.Tryz
variable {L:Own} {h:PH} {K:PK}
theorem Zjl {o:Option (Nat×Nat)}{h h2:PH}{cs:List Value}(ha:apO o L h)(le:PH.le (GG h o cs) h2):PH.le h (Ylf h2 o):=by
 have le2:=(Ws ha cs).trans le
 cases o with
 | none=>exact le2
 | some p=>exact Ygw ha.2 le2
theorem Zlq {l:List Zc}{ks:List Int}(om:Option (Nat×Nat))(ho:okO om l.length)(ha:apO om L h)(kv:Value)(hm:∀x∈l,Zg x)(hkv:Ints h .u8 kv ks)(hn:l.length≤1000)(hA:Zen l≤18446744073709551615)
  (hk:∀h',PH.le h h'→K (.tuple #[.int .u64 (Zea l ks),.int .u64 (Zen l),.int .i64 0]) (oent 73 6 om (l.flatMap YK) L) h') :
  Zb prog 136 [ovs om l.length,kv] (oent 73 6 om (l.flatMap YK) L) h K :=
 Zb.lend_o ho (Z3 Yb l) (by omega) fun sl=>Zny _ kv (Zh.pub Yb sl) hm (hkv.up (Ws ha _)) hn hA fun h' le=>hk _ (Zjl ha le)
theorem Zcq {l:List Zc}{ys ns:List Int}(om:Option (Nat×Nat))(ho:okO om l.length)(ha:apO om L h)(yv nv:Value)(hn:l.length≤1000)(hm:∀x∈l,Zg x)(hy:Ints h .u8 yv ys)(hno:Ints h .u8 nv ns)(hA:Zen l≤18446744073709551615)
  (hk:∀h',PH.le h h'→K (.tuple #[.agg #[.int .u64 (Zea l ys),.int .u64 (Zea l ns),.int .u64 (Zen l)],.int .i64 0]) (oent 73 6 om (l.flatMap YK) L) h') :
  Zb prog 270 [ovs om l.length,yv,nv] (oent 73 6 om (l.flatMap YK) L) h K :=
 Zb.lend_o ho (Z3 Yb l) (by omega) fun sl=>Ztb _ yv nv (Zh.pub Yb sl) hn hm (hy.up (Ws ha _)) (hno.up (Ws ha _)) hA fun h' le=>hk _ (Zjl ha le)
theorem Zb.entr {P:Program}{f:FuncId}{args:List Value}{L:Own}{h:PH}{K:PK}(hs:Ap L h→Nd L→Zb P f args L h K):Zb P f args L h K :=
 ⟨trivial,fun W hg=>(hs (Ap.of hg.apart) (Nd.of hg.nodup)).2 W hg⟩
theorem Yaf {e sz:Nat}{o:Option (Nat×Nat)}{xs:List Value}{x:Zo}{L:Own}(nd:Nd (oent e sz o xs (x::L))):apB o x.b∧Nd (oent e sz o xs L):=by
 cases o with
 | none=>exact⟨trivial,nd.2⟩
 | some p=>exact⟨Ne.symm nd.1.1,nd.1.2,nd.2.2⟩
theorem YL {e sz e2 sz2:Nat}(o o2:Option (Nat×Nat))(xs ys:List Value)(L:Own):(oent e sz o xs (oent e2 sz2 o2 ys L)).Perm (oent e2 sz2 o2 ys (oent e sz o xs L)):=by
 cases o with
 | none=>exact List.Perm.refl _
 | some p=>cases o2 with
  | none=>exact List.Perm.refl _
  | some p2=>exact List.Perm.swap _ _ _
theorem Y1 {e sz:Nat}{o:Option (Nat×Nat)}{xs:List Value}{L:Own}{h:PH}(ap:Ap (oent e sz o xs L) h):apO o [] h:=by
 cases o with
 | none=>trivial
 | some p=>exact⟨trivial,ap.1⟩
theorem YH {e sz b:Nat}{o:Option (Nat×Nat)}{xs:List Value}{L:Own}(ha:ZU b (oent e sz o xs L)):apB o b:=by
 cases o with
 | none=>trivial
 | some p=>exact ha.1
theorem You {v:SV}{s:Zf}(hs:Zs h v s)(hf:YQ s=true):ZK s.members s.purses∧Ym s.par=true∧(0≤s.ep∧s.ep≤1073741824)∧(s.purses.length≤64∧s.members.length≤128)∧tot s.purses+tot (s.members.map Zc.bal)+tot (s.dues.map Zi.amt)≤4611686018427387904:=by
 simp only[YQ,Bool.and_eq_true]at hf;obtain⟨⟨⟨⟨⟨⟨⟨⟨f1,f2⟩,f3⟩,f4⟩,f5⟩,f6⟩,f7⟩,f8⟩,f9⟩:=hf;simp only[Wt,Bool.and_eq_true,decide_eq_true_eq,List.all_eq_true]at f5;simp only[VR,Bool.and_eq_true,decide_eq_true_eq,List.all_eq_true]at f4;simp only[WL,Bool.and_eq_true,decide_eq_true_eq]at f9;rw[wi_iff]at f2;have f41:=wi_iff.1 f4.1;have p0:=hs.parts;have u1:=hs.ok.u s.burn (by simp);have u2:=hs.ok.u s.treas (by simp);have ht:tot s.purses+tot (s.members.map Zc.bal)+tot (s.dues.map Zi.amt)≤4611686018427387904:=by
  have e:=f9.2;simp only[Zpg,Zkd,Zmt,Ga,Zmr]at e p0;omega
 have p4:0≤tot (s.dues.map Zi.amt):=p0.2.2.2;refine⟨⟨hs.mo,fun x hx=>?_,fun i=>(hs.p.word i).1,by omega⟩,f1,f2,⟨by omega,f5.1.1.1⟩,ht⟩;have:=(f5.1.1.2 x hx).2;rw[W8,wi_iff]at this;omega
end Go.X
