/- Lemmas and contracts. Conditions: as each says. -/
import Derived.Test.YtmmfajokfdaokaaGreatQ10
import Derived.Test.YtmmfajokfdaokaaGreatQ11
set_option linter.unusedVariables false
set_option linter.unusedSimpArgs false
set_option maxHeartbeats 12800000
set_option maxRecDepth 20000
namespace Go.X
open Go.RowKit Go.Proofs Go.Bl Go.Proofs.Tryz
variable {L:Own} {h:PH} {K:PK}
theorem Wq (n lo hi:Int)(hk:K (.bool (wi n lo hi)) L h):Zb prog 228 [.int .u64 n,.int .u64 lo,.int .u64 hi] L h K:=by
 unfold wi at hk;refine ZR func228 rfl (rs:=[_]) rfl rfl ZY (by kernel_rfl) rfl rfl ?_;refine xx ?_;by_cases c:lo≤n
 ·refine xx ?_;exact ZO (by simpa [c] using hk)
 ·refine xx ?_;exact ZO (by simpa [c] using hk)
theorem Znv (n lo hi:Int)(hk:K (.bool (wi n lo hi)) L h):Zb prog 229 [.int .i64 n,.int .i64 lo,.int .i64 hi] L h K:=by
 unfold wi at hk;refine ZR func229 rfl (rs:=[_]) rfl rfl ZY (by kernel_rfl) rfl rfl ?_;refine xx ?_;by_cases c:lo≤n
 ·refine xx ?_;exact ZO (by simpa [c] using hk)
 ·refine xx ?_;exact ZO (by simpa [c] using hk)
theorem Ziy {bl:List Bool}(v:Value)(hb:Bools h v bl)(hl:bl.length≤100)(hk:K (.bool (bl.all id)) L h):Zb prog 227 [v] L h K:=by
 have ob:=hb.open;obtain⟨a,c,rfl,_,_,hcs⟩:=ob;refine ZR func227 rfl (rs:=[_]) rfl rfl ZY (by kernel_rfl) rfl rfl ?_;refine xx ?_;refine Vj (0:Nat) (fun k=>k≤bl.length∧∀j,j<k→bol bl j=true) (fun k=>[(7,.int .i64 k),(5,.slice a bl.length c),(6,.int .i64 bl.length)]) (fun k=>bl.length-k) ?_ ?_ ?_
 ·exact⟨Nat.zero_le _,fun j hj=>by omega⟩
 ·simp [Ent,List.lookup]
 intro k ⟨k1,k2⟩;by_cases d:k<bl.length
 ·simp -dsimp -implicitDefEqProofs (disch:=first|with_reducible assumption|omega) [go_sem,idx (idxB hcs)]
  cases hg:bol bl k with
  | true =>
   refine xx ?_;refine⟨k+1,⟨by omega,fun j hj=>?_⟩,by omega,by simp [Ent,List.lookup],Za.refl _ _⟩;by_cases e:j=k
   ·subst e;exact hg
   ·exact k2 j (by omega)
  | false =>
   have:bl.all id=false:=by
    rw[List.all_eq_false];refine⟨bl[k],List.getElem_mem d,?_⟩;simp [bol,d]at hg;simp [hg]
   rw[this]at hk;refine xx ?_;exact ZO hk
 ·have:bl.all id=true:=by
   rw[List.all_eq_true];intro x hx;obtain⟨j,hj,rfl⟩:=List.mem_iff_getElem.1 hx;have:=k2 j (by omega);simp [bol,hj]at this
   simpa using this
  rw[this]at hk;refine xx ?_;exact ZO hk
theorem Zvg (p:Ze)(ok:Zj p)(hk:∀h',PH.le h h'→K (.bool (Wo p)) L h'):Zb prog 114 [VQ p] L h K:=by
 refine ZR func114 rfl (rs:=[_]) rfl rfl ZY (by kernel_rfl) rfl rfl ?_;refine xx ?_;refine Z6 fun b1 nb1 zb1=>?_;(try simp only[ZU]at nb1);refine xx ?_;refine Yr (.tk 0 (.tk 3 (.tk 5 (.tk 8 (.tk 10 (.tk 13 (.tk 15 (.tk 18 (.tk 20 (.tk 23 (.tk 25 (.tk 28 (.tkl 1 (.tkl 4 (.tkl 6 (.tkl 9 (.tkl 11 (.tk 12 (.tkl 14 (.tkl 16 (.tk 17 (.tkl 19 (.tkl 21 (.tkl 24 (.tkl 26 (.tkl 29 (.tk 30 (.o1 2 (.o1 7 (.o1 22 (.o1 27 (.o1 31 (.o1 32 (.tk 33 (.tk 34 (.tk 36 (.tkl 35 (.tkl 37 (.tk 38 (.tk 39 (.tk 40 (.tk 41 (.fin)))))))))) (.nil)) (.nil)) (.nil)) (.nil)) (.nil)) (.nil))))))))))))))))))))))))))))) (by kernel_rfl) (by kernel_rfl) _ (Za.refl _ _) ?_;refine xx ?_;refine Wq _ _ _ ?_;refine xx ?_;refine Wq _ _ _ ?_;refine xx ?_;refine Wq _ _ _ ?_;refine xx ?_;refine Wq _ _ _ ?_;refine xx ?_;refine Z6 fun b2 nb2 zb2=>?_;(try simp only[ZU]at nb2);refine xkp (Za.tail _ _ _) ?_;refine xx ?_;refine Y0 (sz:=1) (n:=7) (cap:=7) [] ⟨Nat.le_refl _,by decide⟩ rfl (by decide) zb2 fun h2 le2 s2 f2=>?_;refine Ziy (bl:=[wi p.inc 1 2147483648,wi p.maxEff p.inc 1099511627776,decide (p.inc≤p.floor),decide (p.floor<p.cap),wi p.cap p.maxEff 1099511627776,wi p.up p.inc 1099511627776,decide (p.down≤1099511627776)]) _ s2 (by simp) ?_;have hs:Wo p=([wi p.inc 1 2147483648,wi p.maxEff p.inc 1099511627776,decide (p.inc≤p.floor),decide (p.floor<p.cap),wi p.cap p.maxEff 1099511627776,wi p.up p.inc 1099511627776,decide (p.down≤1099511627776)].all id&&decide (p.maxEff%p.inc=0)):=rfl;rw[hs]at hk
 cases hB:[wi p.inc 1 2147483648,wi p.maxEff p.inc 1099511627776,decide (p.inc≤p.floor),decide (p.floor<p.cap),wi p.cap p.maxEff 1099511627776,wi p.up p.inc 1099511627776,decide (p.down≤1099511627776)].all id with
 | false =>
  rw[hB]at hk;refine xkp (Za.forget le2) ?_;simp only[List.nil_append];refine xx ?_;exact ZP (ZO (hk h2 le2))
 | true =>
  rw[hB]at hk;have h1:1≤p.inc:=by
   simp only[List.all_cons,List.all_nil,id,Bool.and_eq_true,wi_iff,decide_eq_true_eq,and_true]at hB;omega
  have h3:=ok.w p.maxEff (by simp [Yw]);refine xkp (Za.forget le2) ?_;simp only[List.nil_append];refine xx ?_;exact ZP (ZO (by simpa using hk h2 le2))
theorem Ztc (p:Ze)(hk:∀h',PH.le h h'→K (.bool (WJ p)) L h'):Zb prog 115 [VQ p] L h K:=by
 refine ZR func115 rfl (rs:=[_]) rfl rfl ZY (by kernel_rfl) rfl rfl ?_;refine xx ?_;refine Z6 fun b1 nb1 zb1=>?_;(try simp only[ZU]at nb1);refine xx ?_;refine Yr (.tk 0 (.tk 3 (.tk 5 (.tk 8 (.tk 11 (.tk 13 (.tk 16 (.tk 19 (.tkl 1 (.tkl 4 (.tkl 6 (.tkl 9 (.tkl 12 (.tkl 14 (.tkl 17 (.tk 18 (.tkl 20 (.o1 2 (.o1 7 (.o1 10 (.o1 15 (.o1 21 (.o1 22 (.o1 23 (.tk 24 (.fin)) (.nil)) (.nil)) (.nil)) (.nil)) (.nil)) (.nil)) (.nil))))))))))))))))))) (by kernel_rfl) (by kernel_rfl) _ (Za.refl _ _) ?_;refine xx ?_;refine Wq _ _ _ ?_;refine xx ?_;refine Wq _ _ _ ?_;refine xx ?_;refine Wq _ _ _ ?_;refine xx ?_;refine Wq _ _ _ ?_;refine xx ?_;refine Wq _ _ _ ?_;refine xx ?_;refine Z6 fun b2 nb2 zb2=>?_;(try simp only[ZU]at nb2);refine xkp (Za.tail _ _ _) ?_;refine xx ?_;refine Y0 (sz:=1) (n:=6) (cap:=6) [] ⟨Nat.le_refl _,by decide⟩ rfl (by decide) zb2 fun h2 le2 s2 f2=>?_;refine Ziy (bl:=[wi p.bias 1 4294967296,wi p.biasEm p.bias 4294967296,wi p.quot 1 1099511627776,wi p.quotEm 1 p.quot,decide (p.recover≤4294967296),wi p.scoreCap 1 72057594037927936]) _ s2 (by simp) ?_;have hs:WJ p=[wi p.bias 1 4294967296,wi p.biasEm p.bias 4294967296,wi p.quot 1 1099511627776,wi p.quotEm 1 p.quot,decide (p.recover≤4294967296),wi p.scoreCap 1 72057594037927936].all id:=rfl;rw[← hs];refine xkp (Za.forget le2) ?_;simp only[List.nil_append];refine xx ?_;exact ZP (ZO (hk h2 le2))
theorem Zum (p:Ze)(hk:∀h',PH.le h h'→K (.bool (Y9 p)) L h'):Zb prog 116 [VQ p] L h K:=by
 refine ZR func116 rfl (rs:=[_]) rfl rfl ZY (by kernel_rfl) rfl rfl ?_;refine xx ?_;refine Z6 fun b1 nb1 zb1=>?_;(try simp only[ZU]at nb1);refine xx ?_;refine Yr (.tk 0 (.tk 3 (.tk 6 (.tk 9 (.tk 12 (.tk 15 (.tk 18 (.tk 21 (.tk 24 (.tk 27 (.tk 30 (.tk 33 (.tkl 1 (.tk 2 (.tkl 4 (.tk 5 (.tkl 7 (.tkl 10 (.tkl 13 (.tkl 16 (.tkl 19 (.tkl 22 (.tkl 25 (.tkl 28 (.tkl 31 (.tkl 34 (.o1 8 (.o1 11 (.o1 14 (.o1 17 (.o1 20 (.o1 23 (.o1 26 (.o1 29 (.o1 32 (.o1 35 (.o1 36 (.o1 37 (.tk 38 (.fin)) (.nil)) (.nil)) (.nil)) (.nil)) (.nil)) (.nil)) (.nil)) (.nil)) (.nil)) (.nil)) (.nil)) (.nil)))))))))))))))))))))))))))) (by kernel_rfl) (by kernel_rfl) _ (Za.refl _ _) ?_;refine xx ?_
 iterate 10
  refine Znv _ _ _ ?_;simp -dsimp -implicitDefEqProofs (disch:=first|with_reducible assumption|omega) [go_sem]
 refine Z6 fun b2 nb2 zb2=>?_;(try simp only[ZU]at nb2);refine xkp (Za.tail _ _ _) ?_;refine xx ?_;refine Y0 (sz:=1) (n:=12) (cap:=12) [] ⟨Nat.le_refl _,by decide⟩ rfl (by decide) zb2 fun h2 le2 s2 f2=>?_;refine Ziy (bl:=[decide (p.rate≤4294967296),decide (p.bond≤1099511627776),wi p.delay 0 1000,wi p.wait 0 50,wi p.enact 0 1000,wi p.poll 1 1000,wi p.streak 0 64,wi p.boost 0 1000,wi p.absent 0 10000,wi p.burn 0 10000,wi p.quorum 0 10000,wi p.churn 1 64]) _ s2 (by simp) ?_;have hs:Y9 p=[decide (p.rate≤4294967296),decide (p.bond≤1099511627776),wi p.delay 0 1000,wi p.wait 0 50,wi p.enact 0 1000,wi p.poll 1 1000,wi p.streak 0 64,wi p.boost 0 1000,wi p.absent 0 10000,wi p.burn 0 10000,wi p.quorum 0 10000,wi p.churn 1 64].all id:=rfl;rw[← hs];refine xkp (Za.forget le2) ?_;simp only[List.nil_append];refine xx ?_;exact ZP (ZO (hk h2 le2))
theorem Zut (n:Nat)(q:Nat→Bool)(fv:Value)(hn:n≤4611686018427387904)(hq:∀i j,i≤j→q i=true→q j=true)
  (hf:∀i:Nat,i<n→∀K:PK,K (.bool (q i)) L h→Zgh prog fv [.int .i64 i] L h K)
  (hk:K (.int .i64 (W7 q n 0)) L h):Zb prog 232 [.int .i64 n,fv] L h K:=by
 refine ZR func232 rfl (rs:=[_]) rfl rfl ZY (by kernel_rfl) rfl rfl ?_;refine xx ?_;refine Vj (γ:=Nat×Nat) (0,n) (fun g=>g.1≤g.2∧g.2≤n∧(∀k,k<g.1→q k=false)∧(g.2<n→q g.2=true)) (fun g=>[(5,.int .i64 g.1),(6,.int .i64 g.2),(1,fv)]) (fun g=>g.2-g.1) ?_ ?_ ?_
 ·exact⟨Nat.zero_le _,Nat.le_refl _,fun k hk=>by simp only at hk;omega,fun h=>by simp only at h;omega⟩
 ·simp [Ent,List.lookup,WM]
 rintro⟨i,j⟩ ⟨i1,i2,i3,i4⟩;simp only at i1 i2 i3 i4 ⊢;by_cases d:i<j
 ·obtain⟨m,hm⟩:∃m,m=(i+j)/2:=⟨_,rfl⟩
  have e:((i:Int)+(j:Int))/2=(m:Int):=by omega
  simp -dsimp -implicitDefEqProofs (disch:=first|with_reducible assumption|omega) [go_sem,e];refine Or.inl (hf m (by omega) _ ?_)
  cases hg:q m with
  | true =>
   refine xx ?_;exact⟨i,m,⟨by omega,by omega,i3,fun _=>hg⟩,by omega,by simp [Ent,List.lookup],Za.refl _ _⟩
  | false =>
   refine xx ?_;refine⟨m+1,j,⟨by omega,i2,fun k hk=>?_,i4⟩,by omega,by simp [Ent,List.lookup],Za.refl _ _⟩
   cases hqk:q k with
   | false=>rfl
   | true=>rw[hq k m (by omega) hqk]at hg;cases hg
 ·have:i=j:=by omega
  subst this;have e:W7 q n 0=i:=U7 (Nat.zero_le _) (by omega) (fun k _ hk=>i3 k hk) (fun h=>i4 (by omega));rw[e]at hk;refine xx ?_;exact ZO hk
theorem Zbf (q:Nat→Bool):∀(m k:Nat),W7 (fun i=>q (i+1)) m k+1=W7 q m (k+1)
 | 0,k=>rfl
 | m+1,k=>by
  simp only[W7];split
  ·rfl
  ·exact Zbf q m (k+1)
theorem Yio (p:Ze)(ok:Zj p)(h1:Wo p=true)(h2:WJ p=true)(hk:K (.int .i64 (V7 p)) L h):Zb prog 117 [VQ p] L h K:=by
 have f1:=YS h1;have f2:=Wg h2;refine ZR func117 rfl (rs:=[_]) rfl rfl ZY (by kernel_rfl) rfl rfl ?_;refine xx ?_;refine Z6 fun b1 nb1 zb1=>?_;(try simp only[ZU]at nb1);refine xx ?_;refine Zut 1048576 (fun i=>Vu p (i+1)) _ (by omega) (fun i j hij he=>Zdg (by omega) (by omega) (by omega) he) (fun i hi K' hk'=>?_) ?_
 ·have hA:0≤p.inc*p.bias∧p.inc*p.bias≤9223372036854775808 :=
   ⟨Int.mul_nonneg (by omega) (by omega),Int.le_trans (Int.mul_le_mul f1.2.1 f2.2.1 (by omega) (by omega)) (by decide)⟩
  have hB:0≤((i:Int)+1)*((i:Int)+1+1)∧((i:Int)+1)*((i:Int)+1+1)≤1099513724929 :=
   ⟨Int.mul_nonneg (by omega) (by omega),Int.le_trans (Int.mul_le_mul (show (i:Int)+1≤1048576 by omega) (show (i:Int)+1+1≤1048577 by omega) (by omega) (by omega)) (by decide)⟩
  refine xx ?_;refine ZR func230 rfl (rs:=[_]) rfl rfl ZY (by kernel_rfl) rfl rfl ?_;refine xx ?_;refine Zdl _ _ _ _ (by omega) (by omega) (by omega) (by omega) ?_;refine xx ?_;refine ZO ?_;have e:Vu p (i+1) = !decide (p.inc*p.bias*(((i:Int)+1)*((i:Int)+1+1))<2*p.quot*(p.cap-p.floor)):=by
   unfold Vu
   push_cast
   rw[← decide_not,decide_eq_decide];omega
  rw[e]at hk'
  simpa using hk'
 ·have e:=Zbf (Vu p) 1048576 0;have hl:=(Vx (fun i=>Vu p (i+1)) 1048576 0).2.1;have e2:V7 p=W7 (fun i=>Vu p (i+1)) 1048576 0+1:=by rw[e];rfl
  rw[e2]at hk;refine xx ?_;exact ZP (ZO (by simpa using hk))
theorem Zaw (p:Ze)(ok:Zj p)(hk:∀h',PH.le h h'→K (.int .i64 (if Ym p then 0 else 70)) L h'):Zb prog 36 [VQ p] L h K:=by
 refine ZR func36 rfl (rs:=[_]) rfl rfl ZY (by kernel_rfl) rfl rfl ?_;refine xx ?_;refine Z6 fun b1 nb1 zb1=>?_;(try simp only[ZU]at nb1);refine xx ?_;refine Zb.ap (Zvg p ok fun h2 le2 ap=>?_);obtain⟨q2,_⟩:=ap
 cases h1:Wo p with
 | false =>
  rw[show Ym p=false by simp [Ym,h1]]at hk;refine xx ?_;exact ZP (ZO (hk h2 le2))
 | true =>
  refine xx ?_;refine Zb.ap (Ztc p fun h3 le3 ap=>?_);obtain⟨q3,_⟩:=ap
  cases h2':WJ p with
  | false =>
   rw[show Ym p=false by simp [Ym,h2']]at hk;refine xx ?_;exact ZP (ZO (hk h3 (le2.trans le3)))
  | true =>
   refine xx ?_;refine Zb.ap (Zum p fun h4 le4 ap=>?_);obtain⟨q4,_⟩:=ap
   cases h3':Y9 p with
   | false =>
    rw[show Ym p=false by simp [Ym,h3']]at hk;refine xx ?_;exact ZP (ZO (hk h4 (le2.trans (le3.trans le4))))
   | true =>
    have f1:=YS h1;have f2:=Wg h2';have hl:=(Vx (Vu p) 1048576 1).2.1;have hl1:V7 p≤1048577:=by unfold V7;omega
    have e:Ym p=(decide (V7 p≤1048576)&&decide (p.bias*(V7 p:Int)≤p.scoreCap)):=by simp [Ym,h1,h2',h3']
    have hA:0≤p.bias*(V7 p:Int)∧p.bias*(V7 p:Int)≤4503603922337792 :=
     ⟨Int.mul_nonneg (by omega) (by omega),Int.le_trans (Int.mul_le_mul f2.2.1 (show (V7 p:Int)≤1048577 by omega) (by omega) (by omega)) (by decide)⟩
    rw[e]at hk;refine xx ?_;refine Yio p ok h1 h2' ?_;by_cases d1:V7 p≤1048576
    ·by_cases d2:p.bias*(V7 p:Int)≤p.scoreCap
     ·refine xx ?_;exact ZP (ZO (by simpa [d1,d2] using hk h4 (le2.trans (le3.trans le4))))
     ·refine xx ?_;exact ZP (ZO (by simpa [d1,d2] using hk h4 (le2.trans (le3.trans le4))))
    ·refine xx ?_;exact ZP (ZO (by simpa [d1] using hk h4 (le2.trans (le3.trans le4))))
theorem Zck {T cap b:Nat}{v:Value}{e:Int}{cs:List Value}(hk:K (.bool (decide (e=0))) (⟨b,T,v :: .int .i64 e::cs,cap⟩::L) h)(hT:T≠4294967295:=by first|decide|omega) :
  Zb prog 299 [.pointer (some ⟨b,0,none⟩)] (⟨b,T,v :: .int .i64 e::cs,cap⟩::L) h K:=by
 refine Z4 func299 rfl (rs:=[_]) rfl rfl ZY (by kernel_rfl) rfl rfl fun ap nd=>?_;obtain⟨hb,_⟩:=ap;refine xx ?_;exact ZO hk
theorem Zie {T cap b:Nat}{v:Value}{e n:Int}{cs:List Value}(hk:K (.tuple #[]) (⟨b,T,v :: .int .i64 (if e=0 then n else e)::cs,cap⟩::L) h)(hT:T≠4294967295:=by first|decide|omega) :
  Zb prog 301 [.pointer (some ⟨b,0,none⟩),.int .i64 n] (⟨b,T,v :: .int .i64 e::cs,cap⟩::L) h K:=by
 refine Z4 func301 rfl (rs:=[]) rfl rfl ZY (by kernel_rfl) rfl rfl fun ap nd=>?_;obtain⟨hb,_⟩:=ap;refine xx ?_;by_cases c:e=0
 ·refine xx ?_;exact ZO (by simpa [c] using hk)
 ·refine xx ?_;rw[if_neg c]at hk;exact ZO hk
theorem Ybh {h:PH}{o:Option (Nat×Nat)}{b:List Int}(hb:∀z∈b,0≤z∧z≤255)(sl:Sl h (ovs o b.length) b.length 1 (b.map (.int .u8))):Ints h .u8 (ovs o b.length) b :=
 ⟨sl,fun z hz=>by rw[show IntKind.u8.min=0 by decide,show IntKind.u8.max=255 by decide];exact hb z hz⟩
theorem VS {n:Nat}(hn:n<18446744073709551616):(Ye n).length≤10:=Uh 10 n (Nat.lt_of_lt_of_le hn (by decide)) (by decide)
abbrev rO (br:Nat)(v:Value)(s:Nat×Int)(L:Own):Own:=⟨br,376,[v,.int .i64 s.2,.int .i64 s.1],3⟩::L
theorem Yjx {xs:List Int}(v:Value)(hx:Ints h .u8 v xs)(hl:xs.length≤1000000)(hk:∀h' b r,PH.le h h'→Ints h' .u8 r xs→K (.pointer (some ⟨b,0,none⟩)) (rO b r (0,0) L) h') :
  Zb prog 206 [v] L h K:=by
 have ox:=hx.open;obtain⟨a,ca,rfl,_⟩:=ox;refine ZR func206 rfl (rs:=[_]) rfl rfl ZY (by kernel_rfl) rfl rfl ?_;refine xx ?_;refine Z8 (t:=36) (e:=5) (sz:=1) (bytes:=1) (z:=[.int .u8 0]) (by kernel_rfl) Zmw rfl rfl rfl rfl (by decide) [] L none 0 [] rfl rfl (Src.known hx.1) (by simp) (WC _ _) (by simp [maxLen];omega) (by omega) ?_;intro o' j1 j2 j3;simp only[Nat.zero_add,List.nil_append]at j1 j2 ⊢;refine xx ?_;refine Z6 fun b1 nb1 zb1=>?_;(try simp only[ZU]at nb1);refine xx ?_;refine Wp oent_perm (YE (n:=xs.length) (L0:=L) j1 (by simp) (by omega) j2 fun h' le sl=>ZO (hk h' b1 _ le ⟨sl,hx.2⟩))
theorem vor (n x:Int)(i:Nat)(hi:i≤9)(h0:0≤n)(h1:n<128 ^ i)(hx:0≤x∧x≤255)(h9:i=9→x≤1) :
  bits .or .u64 n (IntKind.u64.wrap (IntKind.u64.wrap (bits .and .u8 x 127)*2 ^ (7*(i:Int)).toNat))=n+x%128*128 ^ i:=by
 obtain⟨m,rfl⟩:=Int.eq_ofNat_of_zero_le h0;obtain⟨y,rfl⟩:=Int.eq_ofNat_of_zero_le hx.1;have h1':m<128 ^ i:=by exact_mod_cast h1
 have a1:bits .and .u8 (y:Int) ((127:Nat):Int)=((y &&& 127:Nat):Int):=u8_and_nat y 127 (by omega) (by decide);have a2:y &&& 127=y%128:=Nat.and_two_pow_sub_one_eq_mod y 7;have a3:bits .and .u8 (y:Int) 127=((y%128:Nat):Int):=by rw[← a2];exact a1
 have a4:(7*(i:Int)).toNat=7*i:=by omega
 have a5:(2:Int) ^ (7*i)=((128 ^ i:Nat):Int):=by rw[Int.pow_mul];push_cast;rfl
 have hb:y%128*128 ^ i≤9223372036854775808∧y%128*128 ^ i+128 ^ i≤18446744073709551616:=by
  by_cases e:i=9
  ·subst e;have:=h9 rfl;have e9:(128:Nat) ^ 9=9223372036854775808:=by decide
   rw[e9];rcases(show y=0∨y=1 by omega) with rfl|rfl<;>decide
  ·have hp8:128 ^ i≤128 ^ 8:=Nat.pow_le_pow_right (by decide) (by omega);have e8:(128:Nat) ^ 8=72057594037927936:=by decide
   have:y%128*128 ^ i≤127*128 ^ 8:=Nat.mul_le_mul (by omega) hp8;omega
 have w1:IntKind.u64.wrap ((y%128:Nat):Int)=((y%128:Nat):Int):=Zpu _ (by omega) (by omega);have w2:IntKind.u64.wrap ((y%128*128 ^ i:Nat):Int)=((y%128*128 ^ i:Nat):Int):=Zpu _ (by omega) (by omega);rw[a3,w1,a4,a5,← Int.natCast_mul,w2,u64_or_nat m _ (by omega) (by omega)];have a6:m ||| y%128*128 ^ i=m+y%128*128 ^ i:=by
  have e1:(128:Nat) ^ i=2 ^ (7*i):=by rw[Nat.pow_mul]
  rw[e1]at h1' ⊢;have:=Nat.shiftLeft_add_eq_or_of_lt h1' (y%128);rw[Nat.shiftLeft_eq]at this;rw[Nat.or_comm,← this,Nat.add_comm]
 rw[a6]
 push_cast
 rfl
theorem Yjp {br:Nat}{v:Value}{xs:List Int}{s:Nat×Int}(k:Nat)(hx:Ints h .u8 v xs)(hs:k≤xs.length)
  (hk:K (.tuple #[.int .u64 (Vh (xs.drop k) 0 0).2.1,.int .i64 (if (Vh (xs.drop k) 0 0).1=0 then k+(Vh (xs.drop k) 0 0).2.2 else 0:Nat),.int .i64 (Vh (xs.drop k) 0 0).1]) (rO br v s L) h) :
  Zb prog 300 [.pointer (some ⟨br,0,none⟩),.int .i64 k] (rO br v s L) h K:=by
 have hb:=hx.byte;have ox:=hx.open;obtain⟨a,ca,rfl,hn,hc,h0,hcs⟩:=ox;refine Z4 func300 rfl (rs:=[_,_,_]) rfl rfl ZY (by kernel_rfl) rfl rfl fun ap nd=>?_;obtain⟨ap1,_⟩:=ap;refine xx ?_;refine Vj (γ:=Nat×Int) (0,0) (fun g=>g.1≤9∧0≤g.2∧g.2<128 ^ g.1∧k+g.1≤xs.length∧Vh (xs.drop k) 0 0=Vh (xs.drop (k+g.1)) g.1 g.2)
  (fun g=>[(7,.int .i64 g.1),(4,.int .u64 g.2),(0,.pointer (some ⟨br,0,none⟩)),(1,.int .i64 k)]) (fun g=>xs.length-(k+g.1)) ?_ ?_ ?_
 ·exact⟨by decide,by decide,by decide,by simpa using hs,by simp⟩
 ·simp [Ent,List.lookup,WM]
 rintro⟨i,n⟩ ⟨i1,i2,i3,i4,i5⟩;simp only at i1 i2 i3 i4 i5 ⊢;by_cases c1:xs.length≤k+i
 ·have e:Vh (xs.drop k) 0 0=(50,0,0):=by rw[i5,List.drop_eq_nil_of_le c1];rfl
  rw[e]at hk;refine xx ?_;exact ZO hk
 have hd:xs.drop (k+i)=at0 xs (k+i)::xs.drop (k+(i+1)):=by
  rw[List.drop_eq_getElem_cons (by omega),Yx];rfl
 have hbb:=hb (k+i);rw[hd]at i5;have et:((k:Int)+(i:Int)).toNat=k+i:=by omega
 by_cases c2:i=9∧at0 xs (k+i)>1∨at0 xs (k+i)=0∧i>0
 ·have e:Vh (xs.drop k) 0 0=(51,0,0):=by rw[i5];simp only[Vh];rw[if_pos c2]
  rw[e]at hk;rcases(show (i=9∧1<at0 xs (k+i))∨(i=9∧at0 xs (k+i)=0)∨(¬i=9∧at0 xs (k+i)=0∧0<i) by omega) with⟨g1,g2⟩ | ⟨g1,g2⟩ | ⟨g1,g2,g3⟩
  all_goals
   simp -dsimp -implicitDefEqProofs (disch:=first|with_reducible assumption|omega) [go_sem,idx hcs,et];exact ZO hk
 have e2:Vh (xs.drop k) 0 0=if at0 xs (k+i)<128 then (0,n+at0 xs (k+i)%128*128 ^ i,i+1) else Vh (xs.drop (k+(i+1))) (i+1) (n+at0 xs (k+i)%128*128 ^ i):=by
  rw[i5];simp only[Vh];rw[if_neg c2]
 by_cases c3:at0 xs (k+i)<128
 ·rw[if_pos c3]at e2;rw[e2]at hk;rcases(show (i=9∧at0 xs (k+i)=1)∨(¬i=9∧at0 xs (k+i)=0∧i=0)∨(¬i=9∧0<at0 xs (k+i)) by omega) with⟨g1,g2⟩ | ⟨g1,g2,g3⟩ | ⟨g1,g2⟩
  all_goals
   simp -dsimp -implicitDefEqProofs (disch:=first|with_reducible assumption|omega) [go_sem,idx hcs,et];rw[vor n _ i i1 i2 i3 hbb (fun h=>by omega)];rw[if_pos rfl]at hk;simp only at hk;rw[show ((k+(i+1):Nat):Int)=(k:Int)+i+1 by omega]at hk;exact ZO hk
 ·rw[if_neg c3]at e2;have g1:¬i=9:=by omega
  simp -dsimp -implicitDefEqProofs (disch:=first|with_reducible assumption|omega) [go_sem,idx hcs,et];rw[vor n _ i i1 i2 i3 hbb (fun h=>by omega)];have hp:(0:Int)≤at0 xs (k+i)%128*128 ^ i:=Int.mul_nonneg (by omega) (Int.pow_nonneg (by decide));have hq:n+at0 xs (k+i)%128*128 ^ i<128 ^ (i+1):=by
   rw[Int.pow_succ];have:at0 xs (k+i)%128*128 ^ i≤127*128 ^ i:=Int.mul_le_mul_of_nonneg_right (by omega) (Int.pow_nonneg (by decide));omega
  exact⟨i+1,n+at0 xs (k+i)%128*128 ^ i,⟨by omega,by omega,hq,by omega,by rw[e2]⟩,by omega,by simp [Ent,List.lookup],Za.refl _ _⟩
theorem Uq {br:Nat}{v:Value}{xs:List Int}{s:Nat×Int}{most:Int}(hx:Ints h .u8 v xs)(hs:s.1≤xs.length)(hk:K (.int .u64 (Z7 xs s most).1) (rO br v (Z7 xs s most).2 L) h) :
  Zb prog 298 [.pointer (some ⟨br,0,none⟩),.int .u64 most] (rO br v s L) h K:=by
 have ox:=hx.open;obtain⟨a,ca,rfl,hn,_⟩:=ox;obtain⟨k,e⟩:=s;simp only[rO]at hs hk ⊢;refine Z4 func298 rfl (rs:=[_]) rfl rfl ZY (by kernel_rfl) rfl rfl fun ap nd=>?_;obtain⟨ap1,_⟩:=ap;refine xx ?_;refine Zck ?_;by_cases c:e=0
 ·subst c;refine xx ?_;refine Yjp (s:=(k,0)) k hx hs ?_;have hr:Z7 xs (k,0) most=if (Vh (xs.drop k) 0 0).1≠0 then (0,(k,(Vh (xs.drop k) 0 0).1)) else if (Vh (xs.drop k) 0 0).2.1>most then (0,(k,51)) else ((Vh (xs.drop k) 0 0).2.1,(k+(Vh (xs.drop k) 0 0).2.2,0)):=by simp [Z7]
  rw[hr]at hk
  generalize Vh (xs.drop k) 0 0=z at hk ⊢
  obtain⟨z1,z2,z3⟩:=z;simp only at hk ⊢;by_cases d1:z1=0
  ·subst d1;simp only[ne_eq,not_true_eq_false,if_false,if_true]at hk ⊢;by_cases d2:z2>most
   ·rw[if_pos d2]at hk;refine xx ?_;refine Zie ?_;refine xx ?_;exact ZO hk
   ·rw[if_neg d2]at hk;refine xx ?_;exact ZO (by simpa using hk)
  ·rw[if_pos d1]at hk;rw[if_neg d1];refine xx ?_;refine Zie ?_;refine xx ?_;exact ZO hk
 ·rw[Zev (by simpa using c)]at hk;refine xx ?_;exact ZO hk
theorem VX {br:Nat}{v:Value}{xs:List Int}{s:Nat×Int}{most:Int}(hx:Ints h .u8 v xs)(hs:s.1≤xs.length)(h0:0≤most)(h1:most≤9223372036854775807)(hk:K (.int .i64 (Z7 xs s most).1) (rO br v (Z7 xs s most).2 L) h) :
  Zb prog 207 [.pointer (some ⟨br,0,none⟩),.int .i64 most] (rO br v s L) h K:=by
 have hz:∀z∈xs,0≤z∧z≤255:=fun z hz=>by
  have:=hx.2 z hz
  rwa [show IntKind.u8.min=0 by decide,show IntKind.u8.max=255 by decide]at this
 have hp:=Yt xs s most hz hs h0;refine Z4 func207 rfl (rs:=[_]) rfl rfl ZY (by kernel_rfl) rfl rfl fun ap nd=>?_;refine xx ?_;refine Uq hx hs ?_;refine xx ?_;exact ZO hk
theorem Ur {br:Nat}{v:Value}{s:Nat×Int}(hk:K (.int .i64 s.2) (rO br v s L) h) :
  Zb prog 208 [.pointer (some ⟨br,0,none⟩)] (rO br v s L) h K:=by
 refine Z4 func208 rfl (rs:=[_]) rfl rfl ZY (by kernel_rfl) rfl rfl fun ap nd=>?_;obtain⟨ap1,_⟩:=ap;refine xx ?_;exact ZO hk
theorem Ybi {br:Nat}{v:Value}{xs:List Int}{s:Nat×Int}(hx:Ints h .u8 v xs)(hk:K (.int .i64 (Zmn xs s)) (rO br v s L) h) :
  Zb prog 210 [.pointer (some ⟨br,0,none⟩)] (rO br v s L) h K:=by
 have ox:=hx.open;obtain⟨a,ca,rfl,hn,_⟩:=ox;refine Z4 func210 rfl (rs:=[_]) rfl rfl ZY (by kernel_rfl) rfl rfl fun ap nd=>?_;obtain⟨ap1,_⟩:=ap;unfold Zmn at hk;refine xx ?_;refine Wx (by kernel_rfl) rfl ?_;refine xx ?_;refine Yz _ (Zck ⟨rfl,rfl,rfl⟩) ?_;by_cases c:s.2=0
 ·by_cases d:s.1<xs.length
  ·refine xx ?_;exact ZO (by simpa [c,d] using hk)
  ·refine xx ?_;exact ZO (by simpa [c,d] using hk)
 ·refine xx ?_;exact ZO (by simpa [c] using hk)
theorem Yih {br:Nat}{v:Value}{xs:List Int}{s:Nat×Int}{most:Int}(hx:Ints h .u8 v xs)(hs:s.1≤xs.length)(h0:0≤most)(h1:most≤1000000)
  (hk:∀h' r,PH.le h h'→Ints h' .u8 r (Ztl xs s most).1→K r (rO br v (Ztl xs s most).2 L) h') :
  Zb prog 346 [.pointer (some ⟨br,0,none⟩),.int .i64 most] (rO br v s L) h K:=by
 have hz:∀z∈xs,0≤z∧z≤255:=fun z hz=>by
  have:=hx.2 z hz
  rwa [show IntKind.u8.min=0 by decide,show IntKind.u8.max=255 by decide]at this
 have hp:=Yt xs s most hz hs h0;have ox:=hx.open;obtain⟨a,ca,rfl,hn,hc,_⟩:=ox;obtain⟨k,e⟩:=s;simp only[rO]at hs hk ⊢;refine Z4 func346 rfl (rs:=[_]) rfl rfl ZY (by kernel_rfl) rfl rfl fun ap nd=>?_;obtain⟨ap1,_⟩:=ap;refine xx ?_;refine Zck ?_;by_cases c:e=0
 ·subst c;refine xx ?_;refine VX (s:=(k,0)) hx hs h0 (by omega) ?_;have hr:Ztl xs (k,0) most=if (Z7 xs (k,0) most).2.2≠0 then ([],(Z7 xs (k,0) most).2) else if ((xs.length-(Z7 xs (k,0) most).2.1:Nat):Int)<(Z7 xs (k,0) most).1 then ([],(k,50)) else ((xs.drop (Z7 xs (k,0) most).2.1).take (Z7 xs (k,0) most).1.toNat,((Z7 xs (k,0) most).2.1+(Z7 xs (k,0) most).1.toNat,0)):=by simp [Ztl]
  rw[hr]at hk
  generalize Z7 xs (k,0) most=z at hk hp ⊢
  obtain⟨n,j,e⟩:=z;simp only at hk hp ⊢;refine xx ?_;refine Zck ?_;by_cases d1:e=0
  ·subst d1;simp only[ne_eq,not_true_eq_false,if_false]at hk;refine xx ?_;refine Wx (by kernel_rfl) rfl ?_;refine xx ?_;by_cases d2:((xs.length-j:Nat):Int)<n
   ·rw[if_pos d2]at hk;refine xx ?_;refine Zie ?_;refine xx ?_;exact ZO (hk h _ (PH.le_refl h) (Yd h .u8))
   ·rw[if_neg d2]at hk;obtain⟨m,rfl⟩:=Int.eq_ofNat_of_zero_le hp.2.1;have hpart:=hx.part j (j+m) (by omega) (by omega);have e1:((j:Int)+(m:Int)).toNat=j+m:=by omega
    have e2:j+m-j=m:=by omega
    have hml:((xs.drop j).take m).length=m:=by simp;omega
    simp only[Int.toNat_natCast]at hk;refine xx ?_;refine Yr (.tk 0 (.tk 1 (.tk 2 (.tk 3 (.tk 5 (.tk 6 (.tk 7 (.tk 9 (.tk 10 (.tk 11 (.tk 13 (.tkl 4 (.tkl 8 (.tkl 12 (.tk 14 (.tk 15 (.o1 16 (.tk 17 (.fin)) (.nil)))))))))))))))))) (by kernel_rfl) (by kernel_rfl) _ (Za.refl _ _) ?_;refine xx ?_;rw[e1,e2];refine Z8 (t:=36) (e:=5) (sz:=1) (bytes:=1) (z:=[.int .u8 0]) (by kernel_rfl) Zmw rfl rfl rfl rfl (by decide) [] _ none 0 [] rfl rfl (m:=m) (news:=((xs.drop j).take m).map (.int .u8)) (by have:=Src.known (L:=rO br (.slice a xs.length ca) (j,0) L) hpart.1;rwa [e2,hml]at this) (by simp;omega) (WC _ _) (by simp only[maxLen];omega) (by omega) ?_;intro o2 j1 j2 j3;simp only[Nat.zero_add,List.nil_append]at j1 j2 ⊢;refine xkp (Za.oent _ _ _ _ _ _) ?_;simp -dsimp -implicitDefEqProofs (disch:=first|with_reducible assumption|omega) [go_sem,ZQ j2.head,ZT j2.head];rw[show List.take m (List.drop j (List.map (Value.int .u8) xs))=((xs.drop j).take m).map (Value.int .u8) by simp [List.map_take,List.map_drop]];refine YE (n:=m) j1 (by simp;omega) (by omega) j2 fun h' le sl=>ZO ?_;have:=hk h' (ovs o2 m) le ⟨by rw[hml];exact sl,fun z hz=>hx.2 z (List.mem_of_mem_drop (List.mem_of_mem_take hz))⟩;rw[Int.natCast_add]at this;exact this
  ·rw[if_pos d1]at hk;refine xx ?_;exact ZO (hk h _ (PH.le_refl h) (Yd h .u8))
 ·rw[Ydv (by simpa using c)]at hk;refine xx ?_;exact ZO (hk h _ (PH.le_refl h) (Yd h .u8))
theorem JF:∀ (n:Nat),n<18446744073709551616→∀(L:Own)(h:PH)(K:PK),(∀o,okO o (Ye n).length→apO o L h→K (ovs o (Ye n).length) (oent 5 1 o ((Ye n).map (.int .u8)) L) h)→Zb prog 221 [.int .u64 n] L h K:=by
 intro n
 induction n using Nat.strongRecOn with
 | ind n ih =>
  intro hn L h K hk;by_cases c:n<128
  ·rw[Ul c]at hk;refine ZR func221 rfl (rs:=[_]) rfl rfl ZY (by kernel_rfl) rfl rfl ?_;refine xx ?_;refine Z6 fun b1 nb1 zb1=>?_;(try simp only[ZU]at nb1);refine xx ?_;exact ZO (hk (some (b1,1)) ⟨Nat.le_refl _,by simp [maxLen]⟩ ⟨nb1,zb1⟩)
  ·have hl2:(Ye n).length=(Ye (n/128)).length+1:=by rw[Uw c];rfl
   have h10:=Uh 10 n (Nat.lt_of_lt_of_le hn (by decide)) (by decide);refine ZR func221 rfl (rs:=[_]) rfl rfl ZY (by kernel_rfl) rfl rfl ?_;refine xx ?_;refine Z6 fun b1 nb1 zb1=>?_;(try simp only[ZU]at nb1);refine xx ?_;refine Z8 (t:=36) (e:=5) (sz:=1) (bytes:=1) (z:=[.int .u8 0]) (by kernel_rfl) Zmw rfl rfl rfl rfl (by decide) [⟨b1,5,[.int .u8 ((n:Int)%128+128)],1⟩] L none 0 [] rfl rfl (m:=1) (news:=[.int .u8 ((n:Int)%128+128)]) (Src.own (b:=b1) (t:=5) (cap:=1) (by simp)) (by simp) (by simp [Value.oneCell']) (by simp only[maxLen];omega) (by omega) ?_;intro o1 j1 j2 j3;simp only[Nat.zero_add,List.nil_append]at j1 j2 ⊢;refine xx ?_;rw[show (n:Int)/128=((n/128:Nat):Int) by omega];refine ih (n/128) (by omega) (by omega) _ _ _ fun o2 k1 k2=>?_
   cases o2 with
   | none=>have:=WY (n/128);have:(Ye (n/128)).length=0:=k1;omega
   | some p =>
    obtain⟨b2,cap2⟩:=p;simp only[YX,Yg];refine xx ?_;refine Z8 (t:=36) (e:=5) (sz:=1) (bytes:=1) (z:=[.int .u8 0]) (by kernel_rfl) Zmw rfl rfl rfl rfl (by decide) [⟨b2,5,(Ye (n/128)).map (.int .u8),cap2⟩,⟨b1,5,[.int .u8 ((n:Int)%128+128)],1⟩] L o1 1 [.int .u8 ((n:Int)%128+128)] j1 rfl (m:=(Ye (n/128)).length) (news:=(Ye (n/128)).map (.int .u8)) (Src.own (b:=b2) (t:=5) (cap:=cap2) (by simp)) (by simp) (WC _ _) (by simp only[maxLen];omega) (by omega) ?_;intro o3 i1 i2 i3;refine xx ?_;have e:Ye n=((n%128+128:Nat):Int)::Ye (n/128):=Uw c;have:=hk o3 (by rw[hl2,Nat.add_comm];exact i1) (Z2 (Z2 i2));rw[hl2,Nat.add_comm,e]at this;simp only[List.map_cons]at this
    push_cast at this
    exact Ype [_,_] this
theorem Yjc {b:List Int}(v:Value)(hv:Ints h .u8 v b)(hb:b.length≤900000)(hk:∀o,okO o (Zgm b).length→apO o L h→K (ovs o (Zgm b).length) (oent 5 1 o ((Zgm b).map (.int .u8)) L) h):Zb prog 312 [v] L h K:=by
  have h10 := Uh 10 b.length (by have : (128 : Nat) ^ 10 = 1180591620717411303424 := by decide
                                 omega) (by decide)
  have ob:=hv.open;obtain⟨a,c,rfl,_⟩:=ob;refine ZR func312 rfl (rs:=[_]) rfl rfl ZY (by kernel_rfl) rfl rfl ?_;refine xx ?_;refine JF b.length (by omega) _ _ _ fun o1 k1 k2=>?_;refine xx ?_;refine Z8 (t:=36) (e:=5) (sz:=1) (bytes:=1) (z:=[.int .u8 0]) (by kernel_rfl) Zmw rfl rfl rfl rfl (by decide) [] L o1 (Ye b.length).length ((Ye b.length).map (.int .u8)) k1 (by simp) (m:=b.length) (Src.known hv.1) (by simp) (WC _ _) (by simp only[maxLen];omega) (by omega) ?_;intro o2 j1 j2 j3;simp only[List.nil_append]at j2 ⊢;have e1:(Ye b.length).length+b.length=(Zgm b).length:=by simp [Zgm]
  have e2:(Ye b.length).map (Value.int .u8)++b.map (Value.int .u8)=(Zgm b).map (Value.int .u8):=by simp [Zgm]
  rw[e1]at j1;rw[e1,e2];refine xx ?_;exact ZO (hk o2 j1 j2)
theorem VH {ty:Nat}(a:Zo){L:Own}{h:PH}{K:PK}(o o2:Option (Nat×Nat))(bs ys:List Int)(ho:okO o bs.length)(ho2:okO o2 ys.length)(hx:apO o2 (a::oent 5 1 o (bs.map (.int .u8)) L) h)(hy:0<ys.length)(hl:bs.length+ys.length≤1000000)
  (hk:∀o' b cs cap,okO o' (bs++ys).length→a.b≠b→K (ovs o' (bs++ys).length) (⟨b,5,cs,cap⟩::a::oent 5 1 o' ((bs++ys).map (.int .u8)) L) h) :
  Zgz prog (Builtin.append_ #[36,36] ty #[ovs o bs.length,ovs o2 ys.length]) (oent 5 1 o2 (ys.map (.int .u8)) (a::oent 5 1 o (bs.map (.int .u8)) L)) h K:=by
 cases o2 with
 | none=>have:ys.length=0:=ho2;omega
 | some p =>
  obtain⟨b2,cap2⟩:=p;refine Z8 (t:=36) (e:=5) (sz:=1) (bytes:=1) (z:=[.int .u8 0]) (by kernel_rfl) Zmw rfl rfl rfl rfl (by decide) (⟨b2,5,ys.map (.int .u8),cap2*1⟩::[a]) L o bs.length (bs.map (.int .u8)) ho (by simp) (m:=ys.length) (news:=ys.map (.int .u8)) (Src.own (b:=b2) (t:=5) (cap:=cap2*1) (by simp)) (by simp) (WC _ _) (by simp only[maxLen];omega) (by omega) ?_;intro o3 i1 i2 i3;have:=hk o3 b2 (ys.map (.int .u8)) (cap2*1) (by simpa using i1) hx.1.1;rw[List.length_append,List.map_append]at this;exact this
theorem UF (n:Int)(h0:0≤n)(hn:n≤18446744073709551615)(hk:∀o,okO o (Ye n.toNat).length→apO o L h→K (ovs o (Ye n.toNat).length) (oent 5 1 o ((Ye n.toNat).map (.int .u8)) L) h):Zb prog 221 [.int .u64 n] L h K:=by
 obtain⟨m,rfl⟩:=Int.eq_ofNat_of_zero_le h0;simp only[Int.toNat_natCast]at hk;exact JF m (by omega) _ _ _ hk
theorem IsCert.range {v:Value}{c:ZN}(hc:IsCert h v c)(i:Nat):0≤at0 c.st i∧at0 c.st i≤18446744073709551615:=by
 obtain⟨_,_,_,hs,_⟩:=hc;exact hs.word i
def sgn (c:ZN)(i:Nat):Bool:=Vs c.bs i
def pres (c:ZN):Int:=wsum c.st (sgn c) c.st.length
theorem Zfm (st:List Int)(i:Nat)(hi:i<st.length):Ua (st.take (i+1))=Ua (st.take i)++Ye (at0 st i).toNat:=by
 rw[List.take_succ_eq_append_getElem hi,Jt,Yx hi];simp [Ua]
def Yse (b i:Nat):Nat→List Value
 | 0=>[]
 | n+1 => .pointer (some ⟨b,i,none⟩)::Yse b (i+1) n
theorem Zsb (b:Nat):∀(n i j:Nat),j<n→(Yse b i n)[j]?=some (.pointer (some ⟨b,i+j,none⟩))
 | 0,_,_,h=>by omega
 | n+1,i,0,_=>rfl
 | n+1,i,j+1,h=>by
  rw[Yse,List.getElem?_cons_succ,Zsb b n (i+1) j (by omega),show i+1+j=i+(j+1) by omega]
theorem Ztu (v:Value)(hk:K v L h):Zb prog 376 [v] L h K:=by
 refine ZR func376 rfl (rs:=[_]) rfl rfl ZY (by kernel_rfl) rfl rfl ?_;refine xx ?_;exact ZO hk
theorem Ybm (v:Value)(hk:K v L h):Zb prog 377 [v] L h K:=by
 refine ZR func377 rfl (rs:=[_]) rfl rfl ZY (by kernel_rfl) rfl rfl ?_;refine xx ?_;exact ZO hk
theorem Ycj (b:Nat)(hk:∀h' v,PH.le h h'→Sl h' v 14 1 (Yse b 0 14)→K v L h'):Zb prog 372 [.pointer (some ⟨b,0,none⟩)] L h K:=by
 refine ZR func372 rfl (rs:=[_]) rfl rfl ZY (by kernel_rfl) rfl rfl ?_;refine xx ?_;refine Ywl (.tk 0 (.tk 1 (.tk 2 (.tk 3 (.tk 4 (.tk 5 (.tk 6 (.tk 7 (.tk 8 (.tk 9 (.tk 10 (.tk 11 (.tk 12 (.tk 13 (.tk 14 (.tk 15 (.tk 16 (.tk 17 (.tk 18 (.tk 19 (.tk 20 (.tk 21 (.tk 22 (.tk 23 (.tk 24 (.tk 25 (.tk 26 (.tk 27 (.tk 28 (.tk 29 (.tk 30 (.tk 31 (.tk 32 (.tk 33 (.tk 34 (.tk 35 (.tk 36 (.tk 37 (.tk 38 (.tk 39 (.tk 40 (.tk 41 (.o1 42 (.o1 43 (.tk 44 (.fin)) (.nil)) (.nil)))))))))))))))))))))))))))))))))))))))))))) (by kernel_rfl) (by kernel_rfl) ?_;refine xx ?_;refine Z6 fun b1 nb1 zb1=>?_;(try simp only[ZU]at nb1);refine xx ?_;refine Y0 (sz:=1) (n:=14) (cap:=14) [] ⟨Nat.le_refl _,by decide⟩ rfl (by decide) zb1 fun h2 le2 s2 f2=>?_;refine Ztu _ ?_;refine xx ?_;exact ZO (hk h2 _ le2 s2)
theorem Znh (b:Nat)(hk:∀h' v,PH.le h h'→Sl h' v 10 1 (Yse b 14 10)→K v L h'):Zb prog 373 [.pointer (some ⟨b,0,none⟩)] L h K:=by
 refine ZR func373 rfl (rs:=[_]) rfl rfl ZY (by kernel_rfl) rfl rfl ?_;refine xx ?_;refine Ywl (.tk 0 (.tk 1 (.tk 2 (.tk 3 (.tk 4 (.tk 5 (.tk 6 (.tk 7 (.tk 8 (.tk 9 (.tk 10 (.tk 11 (.tk 12 (.tk 13 (.tk 14 (.tk 15 (.tk 16 (.tk 17 (.tk 18 (.tk 19 (.tk 20 (.tk 21 (.tk 22 (.tk 23 (.tk 24 (.tk 25 (.tk 26 (.tk 27 (.tk 28 (.tk 29 (.o1 30 (.o1 31 (.tk 32 (.fin)) (.nil)) (.nil)))))))))))))))))))))))))))))))) (by kernel_rfl) (by kernel_rfl) ?_;refine xx ?_;refine Z6 fun b1 nb1 zb1=>?_;(try simp only[ZU]at nb1);refine xx ?_;refine Y0 (sz:=1) (n:=10) (cap:=10) [] ⟨Nat.le_refl _,by decide⟩ rfl (by decide) zb1 fun h2 le2 s2 f2=>?_;refine Ybm _ ?_;refine xx ?_;exact ZO (hk h2 _ le2 s2)
theorem Sl.openp {v:Value}{b i n:Nat}(hs:Sl h v n 1 (Yse b i n)):∃a cap,v = .slice a n cap∧n≤cap∧∀j,j<n→Yo h a j=some ((fun j => .pointer (some ⟨b,i+j,none⟩)) j):=by
 obtain⟨h1,a,cap,h2,h3,h4,h4',h5,h6⟩:=hs;exact⟨a,cap,h2,h3,fun j hj=>h6 j _ (Zsb b n i j hj)⟩
theorem Zdv {p:Ze}(hr:Ym p=true):∀z∈Yk p,0≤z∧z≤10000:=by
 have h3:Y9 p=true:=by
  simp only[Ym,Bool.and_eq_true]at hr;exact hr.1.2
 simp only[Y9,List.all_cons,List.all_nil,id,Bool.and_eq_true,wi_iff,decide_eq_true_eq,and_true]at h3;intro z hz;simp only[Yk,List.mem_cons,List.not_mem_nil,or_false]at hz;rcases hz with rfl|rfl|rfl|rfl|rfl|rfl|rfl|rfl|rfl|rfl<;>omega
theorem Zzn {zs:List Int}{k:Nat}(hk:k<zs.length):at0 zs k∈zs:=by rw[← Yx hk];exact List.getElem_mem hk
def Zkl (p:Ze):List Int:=Ua (Yw p++Yk p)
theorem Zal {ty:Nat}(A:Own){L:Own}{h:PH}{K:PK}(o o2:Option (Nat×Nat))(bs ys:List Int)(ho:okO o bs.length)(ho2:okO o2 ys.length)(hy:0<ys.length)(hl:bs.length+ys.length≤1000000)
  (hk:∀o' x,okO o' (bs++ys).length→apO o' (A++L) h→K (ovs o' (bs++ys).length) (x::(A++oent 5 1 o' ((bs++ys).map (.int .u8)) L)) h) :
  Zgz prog (Builtin.append_ #[36,36] ty #[ovs o bs.length,ovs o2 ys.length]) (oent 5 1 o2 (ys.map (.int .u8)) (A++oent 5 1 o (bs.map (.int .u8)) L)) h K:=by
 cases o2 with
 | none=>have:ys.length=0:=ho2;omega
 | some p =>
  obtain⟨b2,cap2⟩:=p;refine Z8 (t:=36) (e:=5) (sz:=1) (bytes:=1) (z:=[.int .u8 0]) (by kernel_rfl) Zmw rfl rfl rfl rfl (by decide) (⟨b2,5,ys.map (.int .u8),cap2*1⟩::A) L o bs.length (bs.map (.int .u8)) ho (by simp) (m:=ys.length) (news:=ys.map (.int .u8)) (Src.own (b:=b2) (t:=5) (cap:=cap2*1) (by simp)) (by simp) (WC _ _) (by simp only[maxLen];omega) (by omega) ?_;intro o3 i1 i2 i3;have:=hk o3 ⟨b2,5,ys.map (.int .u8),cap2*1⟩ (by simpa using i1) (Z2 i2);rw[List.length_append,List.map_append]at this;exact this
theorem Zqx {p:Ze}(ok:Zj p)(hr:Ym p=true):(Zkl p).length≤240:=by
 have:=G3 (Yw p++Yk p) (fun z hz=>by
  rcases List.mem_append.1 hz with hz|hz
  ·have:=(ok.w z hz).2;omega
  ·have:=(Zdv hr z hz).2;omega)
 have e:(Yw p++Yk p).length=24:=by simp [Yw,Yk]
 unfold Zkl;omega
theorem Ybl (p:Ze)(ok:Zj p)(hr:Ym p=true)(hk:∀o,okO o (Zkl p).length→apO o L h→K (ovs o (Zkl p).length) (oent 5 1 o ((Zkl p).map (.int .u8)) L) h):Zb prog 313 [VQ p] L h K:=by
  have hnp:=Zdv hr;obtain⟨B,hB⟩:∃B:Nat→List Int,∀i,B i=Ua ((Yw p).take i):=⟨_,fun _=>rfl⟩
  have hBl:∀i,(B i).length≤140:=fun i=>by
    rw[hB];have:=G3 ((Yw p).take i) (fun z hz=>by have:=(ok.w z (List.mem_of_mem_take hz)).2;omega);have h2:((Yw p).take i).length≤14:=by
      rw[List.length_take];exact Nat.le_trans (Nat.min_le_right _ _) (by simp [Yw])
    omega
  refine ZR func313 rfl (rs:=[_]) rfl rfl ZY (by kernel_rfl) rfl rfl ?_;refine xx ?_;refine Z6 fun b1 nb1 zb1=>?_;(try simp only[ZU]at nb1);refine xx ?_;refine Z6 fun b2 nb2 zb2=>?_;(try simp only[ZU]at nb2);refine xx ?_;refine Z6 fun b3 nb3 zb3=>?_;(try simp only[ZU]at nb3);refine xx ?_;refine YZ (γ:=Nat×Option (Nat×Nat)) (0,none)
    (fun s=>s.1≤14∧okO s.2 (B s.1).length∧apO s.2 L h)
    (fun s=>[(6,.int .i64 s.1),(5,ovs s.2 (B s.1).length),(3,.slice (some ⟨b2,0,none⟩) 14 14),(4,.slice (some ⟨b3,0,none⟩) 10 10)])
    (fun s=>⟨b3,3,(Yk p).map (.int .i64),10⟩::⟨b2,22,(Yw p).map (.int .u64),14⟩::⟨b1,43,Jb p,24⟩::oent 5 1 s.2 ((B s.1).map (.int .u8)) L) (fun _=>h) (fun s=>14-s.1) ?_ ?_ ?_ ?_
  · exact⟨by simp,by simp only[hB];exact rfl,trivial⟩
  · simp [Ent,List.lookup,hB,Ua,ovs]
  · simp only[hB];exact Za.refl _ _
  rintro⟨i,o⟩ ⟨i1,i3,i4⟩;simp only at i1 i3 i4 ⊢;by_cases d1:i<14
  · have hr1:=ok.w _ (Zzn (zs:=Yw p) (k:=i) (by simpa [Yw] using d1));obtain⟨m,hm⟩:=Int.eq_ofNat_of_zero_le hr1.1;have es:=Zfm (Yw p) i (by simpa [Yw] using d1);rw[hm,Int.toNat_natCast]at es;have eB:B i++Ye m=B (i+1):=by rw[hB,hB,es]
    have lm := Uh 10 m (by have : (128 : Nat) ^ 10 = 1180591620717411303424 := by decide
                           omega) (by decide)
    have hb1:=hBl i;have hlw:(Yw p).length=14:=rfl;simp -dsimp -implicitDefEqProofs (disch:=first|with_reducible assumption|omega) [go_sem,WQ];rw[hm];refine JF m (by omega) _ _ _ fun o2 k1 k2=>?_;refine xx ?_;refine Zal [⟨b3,3,(Yk p).map (.int .i64),10⟩,⟨b2,22,(Yw p).map (.int .u64),14⟩,⟨b1,43,Jb p,24⟩] o o2 (B i) (Ye m) i3 k1 (WY m) (by omega) fun o' x j1 j2=>?_;rw[eB]at j1 ⊢;refine xx ?_;exact⟨i+1,o',⟨by omega,j1,Z2 (Z2 (Z2 j2))⟩,by omega,by simp [Ent,List.lookup],Za.tail _ _ _⟩
  · have hi:i=14:=by omega
    subst hi;have hlw:(Yw p).length=14:=rfl;refine xx ?_;obtain⟨C,hC⟩:∃C:Nat→List Int,∀i,C i=Ua (Yw p)++Ua ((Yk p).take i):=⟨_,fun _=>rfl⟩
    have e14:B 14=C 0:=by rw[hB,hC,show (Yw p).take 14=Yw p by simp [Yw]];simp [Ua]
    have hCl:∀i,(C i).length≤240:=fun i=>by
      have h14:=hBl 14;rw[hB,show (Yw p).take 14=Yw p by simp [Yw]]at h14;rw[hC,List.length_append];have:=G3 ((Yk p).take i) (fun z hz=>by have:=(hnp z (List.mem_of_mem_take hz)).2;omega);have h2:((Yk p).take i).length≤10:=by
        rw[List.length_take];exact Nat.le_trans (Nat.min_le_right _ _) (by simp [Yk])
      omega
    rw[e14]at i3 ⊢;refine YZ (γ:=Nat×Option (Nat×Nat)) (0,o)
      (fun s=>s.1≤10∧okO s.2 (C s.1).length∧apO s.2 L h)
      (fun s=>[(7,.int .i64 s.1),(5,ovs s.2 (C s.1).length),(4,.slice (some ⟨b3,0,none⟩) 10 10)])
      (fun s=>⟨b3,3,(Yk p).map (.int .i64),10⟩::⟨b2,22,(Yw p).map (.int .u64),14⟩::⟨b1,43,Jb p,24⟩::oent 5 1 s.2 ((C s.1).map (.int .u8)) L) (fun _=>h) (fun s=>10-s.1) ?_ ?_ ?_ ?_
    · exact⟨by simp,i3,i4⟩
    · simp [Ent,List.lookup]
    · exact Za.refl _ _
    rintro⟨j,o5⟩ ⟨j1,j3,j4⟩;simp only at j1 j3 j4 ⊢;have hln:(Yk p).length=10:=rfl;by_cases d2:j<10
    · have hr1:=hnp _ (Zzn (zs:=Yk p) (k:=j) (by simpa [Yk] using d2));have es:=Zfm (Yk p) j (by simpa [Yk] using d2);obtain⟨m,hm⟩:=Int.eq_ofNat_of_zero_le hr1.1;rw[hm,Int.toNat_natCast]at es;have eC:C j++Ye m=C (j+1):=by rw[hC,hC,es];simp
      have lm := Uh 10 m (by have : (128 : Nat) ^ 10 = 1180591620717411303424 := by decide
                             omega) (by decide)
      have hb1:=hCl j;simp -dsimp -implicitDefEqProofs (disch:=first|with_reducible assumption|omega) [go_sem,WQ];rw[hm];refine JF m (by omega) _ _ _ fun o2 k1 k2=>?_;refine xx ?_;refine Zal [⟨b3,3,(Yk p).map (.int .i64),10⟩,⟨b2,22,(Yw p).map (.int .u64),14⟩,⟨b1,43,Jb p,24⟩] o5 o2 (C j) (Ye m) j3 k1 (WY m) (by omega) fun o' x q1 q2=>?_;rw[eC]at q1 ⊢;refine xx ?_;exact⟨j+1,o',⟨by omega,q1,Z2 (Z2 (Z2 q2))⟩,by omega,by simp [Ent,List.lookup],Za.tail _ _ _⟩
    · have hj:j=10:=by omega
      subst hj;have eE:C 10=Zkl p:=by rw[hC,show (Yk p).take 10=Yk p by simp [Yk]];simp [Zkl,Jt]
      rw[eE]at j3 ⊢;refine xx ?_;exact ZP (ZP (ZP (ZO (hk o5 j3 j4))))
def Gt (xs:List Int)(most:Int):Nat→Nat×Int→List Int×(Nat×Int)
 | 0,s=>([],s)
 | k+1,s=>((Z7 xs s most).1::(Gt xs most k (Z7 xs s most).2).1,(Gt xs most k (Z7 xs s most).2).2)
theorem Zmh (xs:List Int)(most:Int)(s:Nat×Int):Gt xs most 0 s=([],s):=rfl
theorem G5 (xs:List Int)(most:Int):∀k s,(Gt xs most k s).1.length=k
 | 0,_=>rfl
 | k+1,s=>by simp [Gt,G5 xs most k]
theorem Zco {xs:List Int}{most:Int}(hx:∀z∈xs,0≤z∧z≤255)(hm:0≤most):∀(m:Nat) (s:Nat×Int),s.1≤xs.length→(Gt xs most m s).2.1≤xs.length∧∀z∈(Gt xs most m s).1,0≤z∧z≤most
 | 0,s,hs=>⟨hs,fun z hz=>by simp [Gt]at hz⟩
 | m+1,s,hs=>by
  have hp:=Yt xs s most hx hs hm;have ih:=Zco hx hm m (Z7 xs s most).2 hp.1;simp only[Gt];refine⟨ih.1,fun z hz=>?_⟩;rcases List.mem_cons.1 hz with rfl|hz
  ·exact hp.2
  ·exact ih.2 z hz
def Yhj (ws ns:List Int):Ze:=⟨at0 ws 0,at0 ws 1,at0 ws 2,at0 ws 3,at0 ws 4,at0 ws 5,at0 ws 6,at0 ws 7,at0 ws 8,at0 ws 9,at0 ws 10,at0 ws 11,at0 ws 12,at0 ws 13,at0 ns 0,at0 ns 1,at0 ns 2,at0 ns 3,at0 ns 4,at0 ns 5,at0 ns 6,at0 ns 7,at0 ns 8,at0 ns 9⟩
theorem Zgs (ws ns:List Int)(hw:ws.length=14):Yw (Yhj ws ns)=ws:=by
 match ws,hw with
 | [_,_,_,_,_,_,_,_,_,_,_,_,_,_],_=>rfl
theorem Zbh (ws ns:List Int)(hn:ns.length=10):Yk (Yhj ws ns)=ns:=by
 match ns,hn with
 | [_,_,_,_,_,_,_,_,_,_],_=>rfl
def Zdt (xs:List Int)(s:Nat×Int):Ze×(Nat×Int) :=
 (Yhj (Gt xs 18446744073709551615 14 s).1 (Gt xs 2147483647 10 (Gt xs 18446744073709551615 14 s).2).1,(Gt xs 2147483647 10 (Gt xs 18446744073709551615 14 s).2).2)
theorem Znt {xs:List Int}{s:Nat×Int}(hx:∀z∈xs,0≤z∧z≤255)(hs:s.1≤xs.length):Zj (Zdt xs s).1∧(Zdt xs s).2.1≤xs.length:=by
 have h1:=Zco hx (most:=18446744073709551615) (by decide) 14 s hs;have h2:=Zco hx (most:=2147483647) (by decide) 10 _ h1.1;refine⟨⟨fun z hz=>?_,fun z hz=>?_⟩,h2.1⟩
 ·rw[Zdt,Zgs _ _ (G5 _ _ _ _)]at hz;exact h1.2 z hz
 ·rw[Zdt,Zbh _ _ (G5 _ _ _ _)]at hz;have:=h2.2 z hz;omega
def Zed (xs:List Int)(s:Nat×Int):Ze×Int :=
 if (Zdt xs s).2.2≠0 then (WD,(Zdt xs s).2.2) else if Ym (Zdt xs s).1 then ((Zdt xs s).1,0) else (WD,70)
def JR (ws ns:List Int):List Value:=ws.map (.int .u64)++(List.replicate (14-ws.length) (.int .u64 0)++(ns.map (.int .i64)++List.replicate (10-ns.length) (.int .i64 0)))
theorem Yjh (ws ns:List Int)(v:Int)(h:ws.length<14):(JR ws ns).set ws.length (.int .u64 v)=JR (ws++[v]) ns:=by
 unfold JR;rw[List.set_append_right _ _ (by simp),List.length_map,Nat.sub_self];obtain⟨k,hk⟩:∃k,14-ws.length=k+1:=⟨14-ws.length-1,by omega⟩
 have hk2:14-(ws.length+1)=k:=by omega
 rw[hk,List.replicate_succ];simp [hk2]
theorem Yiu (ws ns:List Int)(v:Int)(hw:ws.length=14)(h:ns.length<10):(JR ws ns).set (14+ns.length) (.int .i64 v)=JR ws (ns++[v]):=by
 unfold JR;obtain⟨k,hk⟩:∃k,10-ns.length=k+1:=⟨10-ns.length-1,by omega⟩
 have hk2:10-(ns.length+1)=k:=by omega
 rw[hw,Nat.sub_self,List.replicate_zero,List.nil_append,List.set_append_right _ _ (by simp;omega),List.length_map,hw,Nat.add_sub_cancel_left,List.set_append_right _ _ (by simp),List.length_map,Nat.sub_self,hk,List.replicate_succ];simp [hk2]
theorem Zps (ws ns:List Int)(hw:ws.length=14)(hn:ns.length=10):JR ws ns=Jb (Yhj ws ns):=by
 match ws,hw,ns,hn with
 | [_,_,_,_,_,_,_,_,_,_,_,_,_,_],_,[_,_,_,_,_,_,_,_,_,_],_=>rfl
theorem Zgl (ws ns:List Int)(hw:ws.length≤14)(hn:ns.length≤10):(JR ws ns).length=24:=by
 simp [JR];omega
theorem Yby {br:Nat}{v:Value}{xs:List Int}{s:Nat×Int}(hx:Ints h .u8 v xs)(hs:s.1≤xs.length)
  (hk:∀h',PH.le h h'→K (.tuple #[VQ (Zed xs s).1,.int .i64 (Zed xs s).2]) (rO br v (Zdt xs s).2 L) h') :
  Zb prog 367 [.pointer (some ⟨br,0,none⟩)] (rO br v s L) h K:=by
 have hz:=Jd hx;refine Z4 func367 rfl (rs:=[_,_]) rfl rfl ZY (by kernel_rfl) rfl rfl fun ap nd=>?_;obtain⟨ap1,_⟩:=ap;simp only[rO,List.cons_append,List.nil_append];refine xx ?_;refine Z6 fun b2 nb2 zb2=>?_;(try simp only[ZU]at nb2);refine xx ?_;refine Zb.apn (Ycj b2 fun h3 w le3 sl3 ap nd'=>?_);obtain⟨t2,tr,_⟩:=ap;obtain⟨⟨n2,_⟩,_⟩:=nd';have op:=sl3.openp;obtain⟨a1,c1,rfl,_,hcs⟩:=op;simp only[Nat.zero_add]at hcs;refine xx ?_;refine YZ (γ:=Nat×(Nat×Int)×List Int) (0,s,[])
  (fun g=>g.1≤14∧g.2.2.length=g.1∧g.2.1.1≤xs.length∧Gt xs 18446744073709551615 14 s=(g.2.2++(Gt xs 18446744073709551615 (14-g.1) g.2.1).1,(Gt xs 18446744073709551615 (14-g.1) g.2.1).2))
  (fun g=>[(12,.int .i64 g.1),(11,.int .i64 14),(10,.slice a1 14 c1),(2,.pointer (some ⟨b2,0,none⟩)),(0,.pointer (some ⟨br,0,none⟩))])
  (fun g=>rO br v g.2.1 (⟨b2,24,JR g.2.2 [],24⟩::L)) (fun _=>h3) (fun g=>14-g.1) ?_ ?_ ?_ ?_
 ·exact⟨by simp,rfl,hs,by simp⟩
 ·simp [Ent,List.lookup,WM]
 ·exact Za.perm _ (List.Perm.swap _ _ _)
 rintro⟨i,s1,ws⟩ ⟨i1,i2,i3,i4⟩;simp only at i1 i2 i3 i4 ⊢;by_cases d1:i<14
 ·have pn:=Yt xs s1 18446744073709551615 hz i3 (by decide);obtain⟨k,hkk⟩:∃k,14-i=k+1:=⟨14-i-1,by omega⟩
  have hk2:14-(i+1)=k:=by omega
  have hl:=Zgl ws [] (by omega) (by simp);simp only[rO,List.cons_append,List.nil_append];simp -dsimp -implicitDefEqProofs (disch:=first|with_reducible assumption|omega) [go_sem,idx hcs];refine Uq (s:=s1) (hx.up le3) i3 ?_;simp only[rO,List.cons_append,List.nil_append];refine xx ?_;subst i2;rw[Yjh ws [] _ d1];refine⟨by omega,ws.length+1,(Z7 xs s1 18446744073709551615).2.1,(Z7 xs s1 18446744073709551615).2.2,ws++[(Z7 xs s1 18446744073709551615).1],⟨by omega,by simp,pn.1,?_⟩,by omega,by simp [Ent,List.lookup],Za.refl _ _⟩;rw[i4,hkk,hk2];simp [Gt]
 ·have hi:i=14:=by omega
  subst hi;simp only[Nat.sub_self,Zmh,List.append_nil]at i4;simp only[rO,List.cons_append,List.nil_append];refine xx ?_;refine Zb.apn (YV (Znh b2 fun h4 w le4 sl4 ap nd'=>?_));obtain⟨u2,ur,_⟩:=ap;have op:=sl4.openp;obtain⟨a2,c2,rfl,_,hcs2⟩:=op;refine xx ?_;refine YZ (γ:=Nat×(Nat×Int)×List Int) (0,s1,[])
   (fun g=>g.1≤10∧g.2.2.length=g.1∧g.2.1.1≤xs.length∧Gt xs 2147483647 10 s1=(g.2.2++(Gt xs 2147483647 (10-g.1) g.2.1).1,(Gt xs 2147483647 (10-g.1) g.2.1).2))
   (fun g=>[(23,.int .i64 g.1),(22,.int .i64 10),(21,.slice a2 10 c2),(2,.pointer (some ⟨b2,0,none⟩)),(0,.pointer (some ⟨br,0,none⟩))])
   (fun g=>rO br v g.2.1 (⟨b2,24,JR ws g.2.2,24⟩::L)) (fun _=>h4) (fun g=>10-g.1) ?_ ?_ ?_ ?_
  ·exact⟨by simp,rfl,i3,by simp⟩
  ·simp [Ent,List.lookup]
  ·exact Za.perm _ (List.Perm.swap _ _ _)
  rintro⟨j,s2,ns⟩ ⟨j1,j2,j3,j4⟩;simp only at j1 j2 j3 j4 ⊢;have hl:=Zgl ws ns (by omega) (by omega);by_cases d2:j<10
  ·have pn:=Yt xs s2 2147483647 hz j3 (by decide);obtain⟨k,hkk⟩:∃k,10-j=k+1:=⟨10-j-1,by omega⟩
   have hk2:10-(j+1)=k:=by omega
   simp only[rO,List.cons_append,List.nil_append];simp -dsimp -implicitDefEqProofs (disch:=first|with_reducible assumption|omega) [go_sem,idx hcs2];refine VX (s:=s2) (hx.up (le3.trans le4)) j3 (by decide) (by decide) ?_;simp only[rO,List.cons_append,List.nil_append];refine xx ?_;subst j2;rw[Yiu ws ns _ i2 d2];refine⟨by omega,ns.length+1,(Z7 xs s2 2147483647).2.1,(Z7 xs s2 2147483647).2.2,ns++[(Z7 xs s2 2147483647).1],⟨by omega,by simp,pn.1,?_⟩,by omega,by simp [Ent,List.lookup],Za.refl _ _⟩;rw[j4,hkk,hk2];simp [Gt]
  ·have hj:j=10:=by omega
   subst hj;simp only[Nat.sub_self,Zmh,List.append_nil]at j4;have hp:Zdt xs s=(Yhj ws ns,s2):=by simp only[Zdt,i4,j4]
   have hpok:=Znt hz hs;rw[hp]at hpok;have hr:Zed xs s=if s2.2≠0 then (WD,s2.2) else if Ym (Yhj ws ns) then (Yhj ws ns,0) else (WD,70):=by simp only[Zed,hp]
   rw[Zps ws ns i2 j2];rw[hp]at hk;simp only at hk;simp only[rO,List.cons_append,List.nil_append];refine xx ?_;refine Ur (s:=s2) ?_;by_cases e:s2.2=0
   ·rw[if_neg (by simpa using e)]at hr;simp only[rO,List.cons_append,List.nil_append];refine xx ?_;refine Zb.apn (Zaw (Yhj ws ns) hpok.1 fun h5 le5 ap nd'=>?_);simp only[Ap]at ap;obtain⟨wr,w2,_⟩:=ap
    cases hpr:Ym (Yhj ws ns) with
    | true =>
     rw[if_pos hpr]at hr;rw[hr]at hk;simp only[if_true];refine xx ?_;exact Wp (List.Perm.swap _ _ _) (ZP (ZO (hk h5 (le3.trans (le4.trans le5)))))
    | false =>
     rw[if_neg (by simp [hpr])]at hr;rw[hr]at hk;simp only[Bool.false_eq_true,if_false];refine xx ?_;exact Wp (List.Perm.swap _ _ _) (ZP (ZO (hk h5 (le3.trans (le4.trans le5)))))
   ·rw[if_pos e]at hr;rw[hr]at hk;simp only[rO,List.cons_append,List.nil_append];refine xx ?_;exact Wp (List.Perm.swap _ _ _) (ZP (ZO (hk h4 (le3.trans le4))))
abbrev GY (d:Zd)(bv:Value):List Value:=[.int .i64 d.kind,.int .i64 d.acct,.int .i64 d.mem,.int .i64 d.to,.int .u64 d.amt,.int .i64 d.ep,bv,.int .i64 d.what,.int .u64 d.par.inc,.int .u64 d.par.maxEff,.int .u64 d.par.floor,.int .u64 d.par.cap,.int .u64 d.par.up,.int .u64 d.par.down,.int .u64 d.par.bias,.int .u64 d.par.quot,.int .u64 d.par.biasEm,.int .u64 d.par.quotEm,.int .u64 d.par.recover,.int .u64 d.par.scoreCap,.int .u64 d.par.rate,.int .u64 d.par.bond,.int .i64 d.par.delay,.int .i64 d.par.streak,.int .i64 d.par.boost,.int .i64 d.par.absent,.int .i64 d.par.burn,.int .i64 d.par.churn,.int .i64 d.par.wait,.int .i64 d.par.poll,.int .i64 d.par.enact,.int .i64 d.par.quorum,.int .i64 d.mot,.bool d.yes]
abbrev Wu (d:Zd)(bv:Value):Value := .agg #[.int .i64 d.kind,.int .i64 d.acct,.int .i64 d.mem,.int .i64 d.to,.int .u64 d.amt,.int .i64 d.ep,bv,.int .i64 d.what,.int .u64 d.par.inc,.int .u64 d.par.maxEff,.int .u64 d.par.floor,.int .u64 d.par.cap,.int .u64 d.par.up,.int .u64 d.par.down,.int .u64 d.par.bias,.int .u64 d.par.quot,.int .u64 d.par.biasEm,.int .u64 d.par.quotEm,.int .u64 d.par.recover,.int .u64 d.par.scoreCap,.int .u64 d.par.rate,.int .u64 d.par.bond,.int .i64 d.par.delay,.int .i64 d.par.streak,.int .i64 d.par.boost,.int .i64 d.par.absent,.int .i64 d.par.burn,.int .i64 d.par.churn,.int .i64 d.par.wait,.int .i64 d.par.poll,.int .i64 d.par.enact,.int .i64 d.par.quorum,.int .i64 d.mot,.bool d.yes]
structure Zl (h:PH)(bv:Value)(d:Zd):Prop where
 i:Ints h .u8 bv d.bits
 ok:ZG d
theorem Zl.up {h h':PH}(le:PH.le h h'){bv:Value}{d:Zd}(hd:Zl h bv d):Zl h' bv d:=⟨hd.i.up le,hd.ok⟩
theorem Wk (n lo hi:Int)(hk:K (.bool (wi n lo hi)) L h):Zb prog 294 [.int .i64 n,.int .i64 lo,.int .i64 hi] L h K:=by
 unfold wi at hk;refine ZR func294 rfl (rs:=[_]) rfl rfl ZY (by kernel_rfl) rfl rfl ?_;refine xx ?_;by_cases c:lo≤n
 ·refine xx ?_;exact ZO (by simpa [c] using hk)
 ·refine xx ?_;exact ZO (by simpa [c] using hk)
theorem Yjk {d:Zd}(bv:Value)(hd:Zl h bv d)(hk:K (.bool (YB d)) L h):Zb prog 297 [Wu d bv] L h K:=by
 have ob:=hd.i.open;obtain⟨a,c,rfl,_⟩:=ob;unfold YB at hk;refine ZR func297 rfl (rs:=[_]) rfl rfl ZY (by kernel_rfl) rfl rfl ?_;refine xx ?_;refine Z6 fun b1 nb1 zb1=>?_;(try simp only[ZU]at nb1);refine xx ?_;refine Wk _ _ _ ?_
 cases hw:wi d.kind 1 3 with
 | true =>
  rw[hw]at hk;refine xx ?_;exact ZP (ZO hk)
 | false =>
  rw[hw]at hk;by_cases k6:d.kind=6
  ·refine xx ?_;exact ZP (ZO (by simpa [k6] using hk))
  ·refine xx ?_;exact ZP (ZO (by simpa [k6] using hk))
theorem Yid {d:Zd}(bv:Value)(hd:Zl h bv d)(hk:K (Wu (Yi d) (if d.kind=5 then bv else .slice none 0 0)) L h):Zb prog 296 [Wu d bv] L h K:=by
 have ob:=hd.i.open;obtain⟨a,c,rfl,_⟩:=ob;refine ZR func296 rfl (rs:=[_]) rfl rfl ZY (by kernel_rfl) rfl rfl ?_;refine xx ?_;refine Z6 fun b1 nb1 zb1=>?_;(try simp only[ZU]at nb1);refine xx ?_;refine Z6 fun b2 nb2 zb2=>?_;(try simp only[ZU]at nb2);refine xx ?_;refine Z6 fun b3 nb3 zb3=>?_;(try simp only[ZU]at nb3);refine xx ?_;by_cases k1:d.kind=1
 ·have e:Yi d=⟨d.kind,d.acct,0,d.to,d.amt,0,[],0,WD,0,false⟩:=by simp [Yi,Z0,k1]
  rw[e,if_neg (by omega)]at hk;refine xx ?_;refine Yr (.tk 0 (.tk 2 (.tkl 1 (.tk 4 (.o1 3 (.o2 5 (.tk 6 (.o2 7 (.fin) (.nil))) (.nil)) (.o2 5 (.o1 3 (.tk 6 (.o2 7 (.fin) (.nil))) (.nil)) (.nil))))))) (by kernel_rfl) (by kernel_rfl) [⟨b1,177,GY d (.slice a d.bits.length c),34⟩] (Za.mem (by simp)) ?_
  repeat' first
   | with_reducible refine YF ?_ ?_
   | with_reducible refine xkp (Za.mem (by simp)) ?_
   | simp -dsimp -implicitDefEqProofs (disch:=first|with_reducible assumption|omega) [go_sem]
  all_goals exact ZP (ZP (ZP (ZO hk)))
 by_cases k2:d.kind=2
 ·have e:Yi d=⟨d.kind,d.acct,0,0,d.amt,0,[],0,WD,0,false⟩:=by simp [Yi,Z0,k2]
  rw[e,if_neg (by omega)]at hk;refine xx ?_;exact ZP (ZP (ZP (ZO hk)))
 by_cases k3:d.kind=3
 ·have e:Yi d=⟨d.kind,d.acct,d.mem,0,d.amt,0,[],0,WD,0,false⟩:=by simp [Yi,Z0,k3]
  rw[e,if_neg (by omega)]at hk;refine xx ?_;refine Yr (.tk 0 (.tk 2 (.tkl 1 (.tk 4 (.o1 3 (.o2 5 (.tk 6 (.o2 7 (.fin) (.nil))) (.nil)) (.o2 5 (.o1 3 (.tk 6 (.o2 7 (.fin) (.nil))) (.nil)) (.nil))))))) (by kernel_rfl) (by kernel_rfl) [⟨b1,177,GY d (.slice a d.bits.length c),34⟩] (Za.mem (by simp)) ?_
  repeat' first
   | with_reducible refine YF ?_ ?_
   | with_reducible refine xkp (Za.mem (by simp)) ?_
   | simp -dsimp -implicitDefEqProofs (disch:=first|with_reducible assumption|omega) [go_sem]
  all_goals exact ZP (ZP (ZP (ZO hk)))
 by_cases k4:d.kind=4
 ·have e:Yi d=⟨d.kind,d.acct,d.mem,0,0,0,[],0,WD,0,false⟩:=by simp [Yi,Z0,k4]
  rw[e,if_neg (by omega)]at hk;refine xx ?_;exact ZP (ZP (ZP (ZO hk)))
 by_cases k5:d.kind=5
 ·have e:Yi d=⟨d.kind,0,0,0,0,d.ep,d.bits,0,WD,0,false⟩:=by simp [Yi,Z0,k5]
  rw[e,if_pos k5]at hk;refine xx ?_;refine Yr (.tk 0 (.tk 2 (.tk 4 (.o1 1 (.o1 3 (.o2 5 (.tk 6 (.o2 7 (.tk 8 (.o2 9 (.fin) (.nil))) (.nil))) (.nil)) (.o2 5 (.tk 6 (.o1 3 (.o2 7 (.tk 8 (.o2 9 (.fin) (.nil))) (.nil)) (.o2 7 (.o1 3 (.tk 8 (.o2 9 (.fin) (.nil))) (.nil)) (.nil)))) (.nil))) (.o1 3 (.o1 1 (.o2 5 (.tk 6 (.o2 7 (.tk 8 (.o2 9 (.fin) (.nil))) (.nil))) (.nil)) (.o2 5 (.o1 1 (.tk 6 (.o2 7 (.tk 8 (.o2 9 (.fin) (.nil))) (.nil))) (.nil)) (.nil))) (.o2 5 (.o1 1 (.tk 6 (.o1 3 (.o2 7 (.tk 8 (.o2 9 (.fin) (.nil))) (.nil)) (.o2 7 (.o1 3 (.tk 8 (.o2 9 (.fin) (.nil))) (.nil)) (.nil)))) (.o1 3 (.o1 1 (.tk 6 (.o2 7 (.tk 8 (.o2 9 (.fin) (.nil))) (.nil))) (.nil)) (.nil))) (.nil))))))) (by kernel_rfl) (by kernel_rfl) [⟨b1,177,GY d (.slice a d.bits.length c),34⟩] (Za.mem (by simp)) ?_
  repeat' first
   | with_reducible refine YF ?_ ?_
   | with_reducible refine xkp (Za.mem (by simp)) ?_
   | simp -dsimp -implicitDefEqProofs (disch:=first|with_reducible assumption|omega) [go_sem]
  all_goals exact ZP (ZP (ZP (ZO hk)))
 by_cases k7:d.kind=7
 ·have e:Yi d=⟨d.kind,d.acct,d.mem,0,0,0,[],0,WD,d.mot,d.yes⟩:=by simp [Yi,Z0,k7]
  rw[e,if_neg (by omega)]at hk;refine xx ?_;refine Yr (.tk 0 (.tk 2 (.tk 4 (.tkl 1 (.tk 6 (.o1 3 (.o1 5 (.o2 7 (.tk 8 (.o2 9 (.tk 10 (.o2 11 (.fin) (.nil))) (.nil))) (.nil)) (.o2 7 (.tk 8 (.o1 5 (.o2 9 (.tk 10 (.o2 11 (.fin) (.nil))) (.nil)) (.o2 9 (.o1 5 (.tk 10 (.o2 11 (.fin) (.nil))) (.nil)) (.nil)))) (.nil))) (.o1 5 (.o1 3 (.o2 7 (.tk 8 (.o2 9 (.tk 10 (.o2 11 (.fin) (.nil))) (.nil))) (.nil)) (.o2 7 (.o1 3 (.tk 8 (.o2 9 (.tk 10 (.o2 11 (.fin) (.nil))) (.nil))) (.nil)) (.nil))) (.o2 7 (.o1 3 (.tk 8 (.o1 5 (.o2 9 (.tk 10 (.o2 11 (.fin) (.nil))) (.nil)) (.o2 9 (.o1 5 (.tk 10 (.o2 11 (.fin) (.nil))) (.nil)) (.nil)))) (.o1 5 (.o1 3 (.tk 8 (.o2 9 (.tk 10 (.o2 11 (.fin) (.nil))) (.nil))) (.nil)) (.nil))) (.nil))))))))) (by kernel_rfl) (by kernel_rfl) [⟨b1,177,GY d (.slice a d.bits.length c),34⟩] (Za.mem (by simp)) ?_
  repeat' first
   | with_reducible refine YF ?_ ?_
   | with_reducible refine xkp (Za.mem (by simp)) ?_
   | simp -dsimp -implicitDefEqProofs (disch:=first|with_reducible assumption|omega) [go_sem]
  all_goals exact ZP (ZP (ZP (ZO hk)))
 by_cases k6:d.kind=6
 ·by_cases w1:d.what=1
  ·have e:Yi d=⟨d.kind,d.acct,0,0,0,0,[],d.what,d.par,0,false⟩:=by simp [Yi,Z0,k6,w1]
   rw[e,if_neg (by omega)]at hk;refine xx ?_;exact ZP (ZP (ZP (ZO hk)))
  by_cases w2:d.what=2
  ·have e:Yi d=⟨d.kind,d.acct,0,d.to,d.amt,0,[],d.what,WD,0,false⟩:=by simp [Yi,Z0,k6,w2]
   rw[e,if_neg (by omega)]at hk;refine xx ?_;refine Yr (.tk 0 (.tk 2 (.tkl 1 (.tk 4 (.o1 3 (.o2 5 (.tk 6 (.o2 7 (.fin) (.nil))) (.nil)) (.o2 5 (.o1 3 (.tk 6 (.o2 7 (.fin) (.nil))) (.nil)) (.nil))))))) (by kernel_rfl) (by kernel_rfl) [⟨b1,177,GY d (.slice a d.bits.length c),34⟩] (Za.mem (by simp)) ?_
   repeat' first
    | with_reducible refine YF ?_ ?_
    | with_reducible refine xkp (Za.mem (by simp)) ?_
    | simp -dsimp -implicitDefEqProofs (disch:=first|with_reducible assumption|omega) [go_sem]
   all_goals exact ZP (ZP (ZP (ZO hk)))
  have e:Yi d=⟨d.kind,d.acct,0,0,0,0,[],d.what,WD,0,false⟩:=by simp [Yi,Z0,k6,w1,w2]
  rw[e,if_neg (by omega)]at hk;refine xx ?_;exact ZP (ZP (ZP (ZO hk)))
 have e:Yi d=⟨d.kind,d.acct,0,0,0,0,[],0,WD,0,false⟩:=by simp [Yi,Z0,k1,k2,k3,k4,k5,k6,k7]
 rw[e,if_neg (by omega)]at hk;refine xx ?_;exact ZP (ZP (ZP (ZO hk)))
theorem Zwj {p q:Ze}(hpq:Yw p++Yk p=Yw q++Yk q):p=q:=by
 cases p;cases q
 simp only[Yw,Yk,List.cons_append,List.nil_append,List.cons.injEq]at hpq;simp only[Ze.mk.injEq];simp only[hpq,and_self]
def parK:List IntKind:=[.u64,.u64,.u64,.u64,.u64,.u64,.u64,.u64,.u64,.u64,.u64,.u64,.u64,.u64,.i64,.i64,.i64,.i64,.i64,.i64,.i64,.i64,.i64,.i64]
theorem Was {T:Nat}(ht:prog.underlying T=some (.struct (prog.fieldsOf T)))(hp:prog.stoodInHeld T=false)(hg:prog.eqGuardType prog.depth T=false)(hok:okF prog (prog.fieldsOf T).toList 0 parK=true)
  (p q:Ze) (x y:Operand) (K:Value→Prop) (t:Zq K):Uj prog .eql T x y (VQ p) (VQ q) K t=K (.bool (decide (p=q))):=by
 have e:decide (p=q)=decide (Yw p++Yk p=Yw q++Yk q):=by
  rw[decide_eq_decide];exact⟨fun h=>by rw[h],Zwj⟩
 rw[e];exact GF (ks:=parK) ht hp hg hok (Yw p++Yk p) (Yw q++Yk q) rfl rfl x y K t
@[go_sem ↓] theorem Wcz (p q:Ze)(x y:Operand)(K:Value→Prop)(t:Zq K):Uj prog .eql 24 x y (VQ p) (VQ q) K t=K (.bool (decide (p=q))) :=
 Was (T:=24) (by kernel_rfl) (by kernel_rfl) (by kernel_rfl) (by kernel_rfl) p q x y K t
@[go_sem ↓] theorem Zxo (p q:Ze)(x y:Operand)(K:Value→Prop)(t:Zq K):Uj prog .eql 43 x y (VQ p) (VQ q) K t=K (.bool (decide (p=q))) :=
 Was (T:=43) (by kernel_rfl) (by kernel_rfl) (by kernel_rfl) (by kernel_rfl) p q x y K t
theorem Zxi {a b:Zd}(bv cv:Value)(ha:Ints h .u8 bv a.bits)(hb:Ints h .u8 cv b.bits)(hk:K (.bool (Yn a b)) L h):Zb prog 295 [Wu a bv,Wu b cv] L h K:=by
 have oa:=ha.open;obtain⟨x1,y1,rfl,_⟩:=oa;have ob:=hb.open;obtain⟨x2,y2,rfl,_⟩:=ob;refine ZR func295 rfl (rs:=[_]) rfl rfl ZY (by kernel_rfl) rfl rfl ?_;refine xx ?_;refine Z6 fun b1 nb1 zb1=>?_;(try simp only[ZU]at nb1);refine xx ?_;refine Z6 fun b2 nb2 zb2=>?_;(try simp only[ZU]at nb2);by_cases c1:a.kind=b.kind
 rotate_left
 ·rw[show Yn a b=false by simp [Yn,c1]]at hk;simp -dsimp -implicitDefEqProofs (disch:=first|with_reducible assumption|omega) [go_sem,c1];exact ZP (ZP (ZO hk))
 by_cases c2:a.acct=b.acct
 rotate_left
 ·rw[show Yn a b=false by simp [Yn,c2]]at hk;simp -dsimp -implicitDefEqProofs (disch:=first|with_reducible assumption|omega) [go_sem,c1,c2];exact ZP (ZP (ZO hk))
 by_cases c3:a.mem=b.mem
 rotate_left
 ·rw[show Yn a b=false by simp [Yn,c3]]at hk;simp -dsimp -implicitDefEqProofs (disch:=first|with_reducible assumption|omega) [go_sem,c1,c2,c3];exact ZP (ZP (ZO hk))
 by_cases c4:a.to=b.to
 rotate_left
 ·rw[show Yn a b=false by simp [Yn,c4]]at hk;simp -dsimp -implicitDefEqProofs (disch:=first|with_reducible assumption|omega) [go_sem,c1,c2,c3,c4];exact ZP (ZP (ZO hk))
 by_cases c5:a.amt=b.amt
 rotate_left
 ·rw[show Yn a b=false by simp [Yn,c5]]at hk;simp -dsimp -implicitDefEqProofs (disch:=first|with_reducible assumption|omega) [go_sem,c1,c2,c3,c4,c5];exact ZP (ZP (ZO hk))
 by_cases c6:a.ep=b.ep
 rotate_left
 ·rw[show Yn a b=false by simp [Yn,c6]]at hk;simp -dsimp -implicitDefEqProofs (disch:=first|with_reducible assumption|omega) [go_sem,c1,c2,c3,c4,c5,c6];exact ZP (ZP (ZO hk))
 by_cases c7:a.what=b.what
 rotate_left
 ·rw[show Yn a b=false by simp [Yn,c7]]at hk;simp -dsimp -implicitDefEqProofs (disch:=first|with_reducible assumption|omega) [go_sem,c1,c2,c3,c4,c5,c6,c7];exact ZP (ZP (ZO hk))
 by_cases c8:a.par=b.par
 rotate_left
 ·rw[show Yn a b=false by simp [Yn,c8]]at hk;simp -dsimp -implicitDefEqProofs (disch:=first|with_reducible assumption|omega) [go_sem,c1,c2,c3,c4,c5,c6,c7,c8];exact ZP (ZP (ZO hk))
 by_cases c9:a.mot=b.mot
 rotate_left
 ·rw[show Yn a b=false by simp [Yn,c9]]at hk;simp -dsimp -implicitDefEqProofs (disch:=first|with_reducible assumption|omega) [go_sem,c1,c2,c3,c4,c5,c6,c7,c8,c9];exact ZP (ZP (ZO hk))
 by_cases c10:(a.yes == b.yes)=true
 rotate_left
 ·have c10':(a.yes == b.yes)=false:=(Bool.not_eq_true _).mp c10;rw[show Yn a b=false by simp only[Yn,c10',Bool.false_and,Bool.and_false]]at hk;simp -dsimp -implicitDefEqProofs (disch:=first|with_reducible assumption|omega) [go_sem,c1,c2,c3,c4,c5,c6,c7,c8,c9,c10'];exact ZP (ZP (ZO hk))
 by_cases c11:(a.bits.length:Int)=b.bits.length
 rotate_left
 ·rw[show Yn a b=false by simp [Yn,c11]]at hk;simp -dsimp -implicitDefEqProofs (disch:=first|with_reducible assumption|omega) [go_sem,c1,c2,c3,c4,c5,c6,c7,c8,c9,c10,c11];exact ZP (ZP (ZO hk))
 rw[show Yn a b=true by simp only[Yn,c1,c2,c3,c4,c5,c6,c7,c8,c9,c10,c11,decide_true,Bool.and_self]]at hk;simp -dsimp -implicitDefEqProofs (disch:=first|with_reducible assumption|omega) [go_sem,c1,c2,c3,c4,c5,c6,c7,c8,c9,c10,c11];exact ZP (ZP (ZO hk))
theorem Zga {d:Zd}(bv:Value)(hd:Zl h bv d)(hk:∀h',PH.le h h'→K (.bool (ZW d)) L h'):Zb prog 205 [Wu d bv] L h K:=by
 have ob:=hd.i.open;obtain⟨x1,y1,rfl,_,hlen,_⟩:=ob;have bad:ZW d=false→K (.bool false) L h:=fun e=>by
  have:=hk h (PH.le_refl h)
  rwa [e]at this
 refine ZR func205 rfl (rs:=[_]) rfl rfl ZY (by kernel_rfl) rfl rfl ?_;refine xx ?_;refine Z6 fun b1 nb1 zb1=>?_;(try simp only[ZU]at nb1);refine xx ?_;refine Wx (by kernel_rfl) rfl ?_;refine xx ?_;refine Yz _ (Wk _ _ _ ⟨rfl,rfl,rfl⟩) ?_
 cases g1:wi d.kind 1 7 with
 | false =>
  refine xx ?_;exact ZP (ZO (bad (by simp [ZW,g1])))
 | true =>
 refine xx ?_;refine Yz _ (Yid _ hd ⟨rfl,rfl,rfl⟩) ?_;refine xx ?_;have hbb:Ints h .u8 (if d.kind=5 then Value.slice x1 d.bits.length y1 else Value.slice none 0 0) (Yi d).bits:=by
  by_cases k5:d.kind=5
  ·rw[if_pos k5,show (Yi d).bits=d.bits by simp [Yi,k5]];exact hd.i
  ·have eb:(Yi d).bits=[]:=by
    unfold Yi;rw[if_neg k5]
    repeat' split
    all_goals rfl
   rw[if_neg k5,eb];exact Yd h .u8
 refine Yz _ (Zxi _ _ hd.i hbb ⟨rfl,rfl,rfl⟩) ?_
 cases g2:Yn d (Yi d) with
 | false =>
  refine xx ?_;exact ZP (ZO (bad (by simp [ZW,g2])))
 | true =>
 refine xx ?_;refine Wk _ _ _ ?_
 cases g3:wi d.acct 0 63 with
 | false =>
  refine xx ?_;exact ZP (ZO (bad (by simp [ZW,g3])))
 | true =>
 refine xx ?_;refine Wk _ _ _ ?_
 cases g4:wi d.to 0 63 with
 | false =>
  refine xx ?_;exact ZP (ZO (bad (by simp [ZW,g4])))
 | true =>
 refine xx ?_;refine Wk _ _ _ ?_
 cases g5:wi d.mem 0 127 with
 | false =>
  refine xx ?_;exact ZP (ZO (bad (by simp [ZW,g5])))
 | true =>
 refine xx ?_;refine Wk _ _ _ ?_
 cases g6:wi d.mot 0 31 with
 | false =>
  refine xx ?_;exact ZP (ZO (bad (by simp [ZW,g6])))
 | true =>
 refine xx ?_;refine Wx (by kernel_rfl) rfl ?_;refine xx ?_;refine Yz _ (Yjk _ hd ⟨rfl,rfl,rfl⟩) ?_
 cases g7:(YB d == decide (0<d.amt)) with
 | false =>
  simp -dsimp -implicitDefEqProofs (disch:=first|with_reducible assumption|omega) [go_sem,g7];exact ZP (ZO (bad (by simp only[ZW,g7,Bool.false_and,Bool.and_false])))
 | true =>
 by_cases g8:d.amt≤4611686018427387904
 rotate_left
 ·have g7':YB d=true:=by simpa [show 0<d.amt by omega] using g7
  simp -dsimp -implicitDefEqProofs (disch:=first|with_reducible assumption|omega) [go_sem,g7'];exact ZP (ZO (bad (by simp [ZW,g8])))
 simp -dsimp -implicitDefEqProofs (disch:=first|with_reducible assumption|omega) [go_sem,g7];refine Yz _ (Wk _ _ _ ⟨rfl,rfl,rfl⟩) ?_
 cases g9:wi d.ep 0 1073741824 with
 | false =>
  refine xx ?_;exact ZP (ZO (bad (by simp [ZW,g9])))
 | true =>
 by_cases g10:(d.bits.length:Int)≤32
 rotate_left
 ·refine xx ?_;exact ZP (ZO (bad (by simp [ZW,g10])))
 have hbase:ZW d=(decide (d.kind≠6)||(wi d.what 1 4&&(decide (d.what≠1)||Ym d.par))):=by
  simp only[ZW,g1,g2,g3,g4,g5,g6,g7,g8,g9,g10,decide_true,Bool.and_self,Bool.true_and]
 rw[hbase]at hk;by_cases k6:d.kind=6
 rotate_left
 ·refine xx ?_;exact ZP (ZO (by simpa [k6] using hk h (PH.le_refl h)))
 refine xx ?_;refine Wk _ _ _ ?_
 cases g11:wi d.what 1 4 with
 | false =>
  refine xx ?_;exact ZP (ZO (by simpa [k6,g11] using hk h (PH.le_refl h)))
 | true =>
 by_cases w1:d.what=1
 rotate_left
 ·refine xx ?_;exact ZP (ZO (by simpa [k6,g11,w1] using hk h (PH.le_refl h)))
 refine xx ?_;refine Zb.ap (Zaw d.par hd.ok.p fun h2 le2 ap=>?_)
 cases g12:Ym d.par with
 | false =>
  refine xx ?_;exact ZP (ZO (by simpa [k6,g11,w1,g12] using hk h2 le2))
 | true =>
  refine xx ?_;exact ZP (ZO (by simpa [k6,w1,g12,show wi 1 1 4=true by decide] using hk h2 le2))
def WN (d:Zd):List Int :=
 Ye d.kind.toNat++((if d.kind=5 then [] else Ye d.acct.toNat) ++
 ((if d.kind=1 then Ye d.to.toNat else if d.kind=3∨d.kind=4 then Ye d.mem.toNat else if d.kind=5 then Ye d.ep.toNat++Zgm d.bits
  else if d.kind=6 then Ye d.what.toNat++(if d.what=1 then Zkl d.par else if d.what=2 then Ye d.to.toNat else [])
  else if d.kind=7 then Ye d.mem.toNat++(Ye d.mot.toNat++Ye d.yes.toNat) else []) ++
 (if YB d then Ye d.amt.toNat else [])))
theorem Y5 {d:Zd}(hr:ZW d=true):1≤d.kind∧d.kind≤7∧0≤d.acct∧d.acct≤63∧0≤d.to∧d.to≤63∧0≤d.mem∧d.mem≤127∧0≤d.mot∧d.mot≤31∧d.amt≤4611686018427387904∧0≤d.ep∧d.ep≤1073741824∧(d.bits.length:Int)≤32:=by
 simp only[ZW,Bool.and_eq_true,wi_iff,decide_eq_true_eq]at hr;obtain⟨⟨⟨⟨a1,_⟩,⟨⟨a2,a3⟩,a4⟩,a5⟩,⟨⟨_,a6⟩,a7⟩,a8⟩,_⟩:=hr;omega
theorem Jf {d:Zd}(hr:ZW d=true)(k6:d.kind=6):1≤d.what∧d.what≤4∧(d.what=1→Ym d.par=true):=by
 simp only[ZW,Bool.and_eq_true,wi_iff,decide_eq_true_eq,Bool.or_eq_true]at hr;rcases hr.2 with h | ⟨h1,h2⟩
 ·exact absurd k6 h
 ·exact⟨h1.1,h1.2,fun w=>h2.resolve_left (fun hn=>hn w)⟩
open Go.RowKit Go.Bl
def Gj (ok:Bool)(n e t:Int):Int:=if ok=false∧e=0∧t=0 then n else e
def JQ (xs:List Int)(d:Zd)(s:Nat×Int)(e:Int):Zd×(Nat×Int)×Int :=
 let w:=Z7 xs s 255
 let d1:={ d with what:=w.1 }
 let e1:=Gj (wi w.1 1 4) 80 e w.2.2
 if e1=0∧w.2.2=0 then
  if w.1=1 then ({ d1 with par:=(Zed xs w.2).1 },(Zdt xs w.2).2,Gj (decide ((Zed xs w.2).2=0)) 70 e1 (Zdt xs w.2).2.2)
  else if w.1=2 then ({ d1 with to:=(Z7 xs w.2 63).1 },(Z7 xs w.2 63).2,e1)
  else (d1,w.2,e1)
 else (d1,w.2,e1)
def WB (xs:List Int)(d:Zd)(s:Nat×Int)(e:Int):Zd×(Nat×Int)×Int :=
 if d.kind=1 then ({ d with to:=(Z7 xs s 63).1 },(Z7 xs s 63).2,e)
 else if d.kind=3∨d.kind=4 then ({ d with mem:=(Z7 xs s 127).1 },(Z7 xs s 127).2,e)
 else if d.kind=6 then JQ xs d s e
 else if d.kind=7 then
  let m:=Z7 xs s 127
  let t:=Z7 xs m.2 31
  let y:=Z7 xs t.2 1
  ({ d with mem:=m.1,mot:=t.1,yes:=decide (y.1=1) },y.2,e)
 else (d,s,e)
def WT (xs:List Int)(q:Zd×(Nat×Int)×Int):Zd×(Nat×Int)×Int :=
 if q.2.2=0∧q.2.1.2=0∧YB q.1=true then
  ({ q.1 with amt:=(Z7 xs q.2.1 4611686018427387904).1 },(Z7 xs q.2.1 4611686018427387904).2,Gj (decide (0<(Z7 xs q.2.1 4611686018427387904).1)) 80 q.2.2 (Z7 xs q.2.1 4611686018427387904).2.2)
 else q
def YY (xs:List Int)(d:Zd)(s:Nat×Int)(e:Int):Zd×(Nat×Int)×Int :=
 if d.kind=5 then ({ d with ep:=(Z7 xs s 1073741824).1,bits:=(Ztl xs (Z7 xs s 1073741824).2 32).1 },(Ztl xs (Z7 xs s 1073741824).2 32).2,e)
 else WT xs (WB xs { d with acct:=(Z7 xs s 63).1 } (Z7 xs s 63).2 e)
def Zbt (xs:List Int)(s:Nat×Int):Zd×(Nat×Int)×Int :=
 let k:=Z7 xs s 255
 let e:=Gj (wi k.1 1 7) 80 0 k.2.2
 if e=0∧k.2.2=0 then YY xs { Z0 with kind:=k.1 } k.2 e else ({ Z0 with kind:=k.1 },k.2,e)
def Wh (xs:List Int)(s:Nat×Int):Zd×Int×(Nat×Int) :=
 let q:=Zbt xs s
 if q.2.1.2≠0 then (Z0,q.2.1.2,q.2.1) else if q.2.2≠0 then (Z0,q.2.2,q.2.1) else (q.1,0,q.2.1)
abbrev xO (bx br:Nat)(v:Value)(s:Nat×Int)(e:Int)(L:Own):Own:=⟨bx,382,[.pointer (some ⟨br,0,none⟩),.int .i64 e],2⟩::⟨br,376,[v,.int .i64 s.2,.int .i64 s.1],3⟩::L
theorem Zxk {br:Nat}{v:Value}{xs:List Int}{s:Nat×Int}(hx:Ints h .u8 v xs)(hs:s.1≤xs.length)(hk:K (.bool (decide ((Z7 xs s 1).1=1))) (rO br v (Z7 xs s 1).2 L) h) :
  Zb prog 350 [.pointer (some ⟨br,0,none⟩)] (rO br v s L) h K:=by
 refine Z4 func350 rfl (rs:=[_]) rfl rfl ZY (by kernel_rfl) rfl rfl fun ap nd=>?_;refine xx ?_;refine Uq hx hs ?_;refine xx ?_;exact ZO hk
theorem Zdf {bx br:Nat}{v:Value}{xs:List Int}{s:Nat×Int}{e:Int}(hx:Ints h .u8 v xs)(hs:s.1≤xs.length)(hk:K (.int .i64 (Z7 xs s 63).1) (xO bx br v (Z7 xs s 63).2 e L) h) :
  Zb prog 347 [.pointer (some ⟨bx,0,none⟩)] (xO bx br v s e L) h K:=by
 simp only[xO]at hk ⊢;refine Z4 func347 rfl (rs:=[_]) rfl rfl ZY (by kernel_rfl) rfl rfl fun ap nd=>?_;obtain⟨ap1,ap2,_⟩:=ap;simp only[Nd,ZU]at nd;refine xx ?_;refine YV ?_;refine VX (s:=s) hx hs (by decide) (by decide) ?_;refine xx ?_;exact Wp (List.Perm.swap _ _ _) (ZO hk)
theorem Zsn {bx br:Nat}{v:Value}{xs:List Int}{s:Nat×Int}{e:Int}(hx:Ints h .u8 v xs)(hs:s.1≤xs.length)(hk:K (.int .i64 (Z7 xs s 127).1) (xO bx br v (Z7 xs s 127).2 e L) h) :
  Zb prog 348 [.pointer (some ⟨bx,0,none⟩)] (xO bx br v s e L) h K:=by
 simp only[xO]at hk ⊢;refine Z4 func348 rfl (rs:=[_]) rfl rfl ZY (by kernel_rfl) rfl rfl fun ap nd=>?_;obtain⟨ap1,ap2,_⟩:=ap;simp only[Nd,ZU]at nd;refine xx ?_;refine YV ?_;refine VX (s:=s) hx hs (by decide) (by decide) ?_;refine xx ?_;exact Wp (List.Perm.swap _ _ _) (ZO hk)
theorem Uo {bx br:Nat}{v:Value}{s:Nat×Int}{e n:Int}(ok:Bool)(hk:K (.tuple #[]) (xO bx br v s (Gj ok n e s.2) L) h) :
  Zb prog 302 [.pointer (some ⟨bx,0,none⟩),.bool ok,.int .i64 n] (xO bx br v s e L) h K:=by
 simp only[xO]at hk ⊢;unfold Gj at hk;refine Z4 func302 rfl (rs:=[]) rfl rfl ZY (by kernel_rfl) rfl rfl fun ap nd=>?_;obtain⟨ap1,ap2,_⟩:=ap;simp only[Nd,ZU]at nd
 cases ok with
 | true =>
  refine xx ?_;exact ZO (by simpa using hk)
 | false =>
  by_cases c:e=0
  ·subst c;refine xx ?_;refine YV ?_;refine Ur (s:=s) ?_;by_cases c2:s.2=0
   ·refine xx ?_;exact Wp (List.Perm.swap _ _ _) (ZO (by simpa [c2] using hk))
   ·refine xx ?_;exact Wp (List.Perm.swap _ _ _) (ZO (by simpa [c2] using hk))
  ·refine xx ?_;exact ZO (by simpa [c] using hk)
theorem Ud {bx br:Nat}{v:Value}{s:Nat×Int}{e:Int}(hk:K (.bool (decide (e=0)&&decide (s.2=0))) (xO bx br v s e L) h) :
  Zb prog 303 [.pointer (some ⟨bx,0,none⟩)] (xO bx br v s e L) h K:=by
 simp only[xO]at hk ⊢;refine Z4 func303 rfl (rs:=[_]) rfl rfl ZY (by kernel_rfl) rfl rfl fun ap nd=>?_;obtain⟨ap1,ap2,_⟩:=ap;simp only[Nd,ZU]at nd;by_cases c:e=0
 ·subst c;refine xx ?_;refine YV ?_;refine Ur (s:=s) ?_;refine xx ?_;exact Wp (List.Perm.swap _ _ _) (ZO (by simpa using hk))
 ·refine xx ?_;exact ZO (by simpa [c] using hk)
theorem Zzs {bx br bd:Nat}{v bv:Value}{xs:List Int}{s:Nat×Int}{e:Int}{d:Zd}(hx:Ints h .u8 v xs)(hs:s.1≤xs.length)
  (hk:∀h',PH.le h h'→K (.tuple #[]) (xO bx br v (JQ xs d s e).2.1 (JQ xs d s e).2.2 (⟨bd,177,GY (JQ xs d s e).1 bv,34⟩::L)) h') :
  Zb prog 349 [.pointer (some ⟨bx,0,none⟩),.pointer (some ⟨bd,0,none⟩)] (xO bx br v s e (⟨bd,177,GY d bv,34⟩::L)) h K:=by
 have hz:=Jd hx;have pw:=Yt xs s 255 hz hs (by decide);obtain⟨w,hw⟩:∃w,w=Z7 xs s 255:=⟨_,rfl⟩
 have hm:JQ xs d s e=if Gj (wi w.1 1 4) 80 e w.2.2=0∧w.2.2=0 then
  if w.1=1 then ({ { d with what:=w.1 } with par:=(Zed xs w.2).1 },(Zdt xs w.2).2,Gj (decide ((Zed xs w.2).2=0)) 70 (Gj (wi w.1 1 4) 80 e w.2.2) (Zdt xs w.2).2.2)
  else if w.1=2 then ({ { d with what:=w.1 } with to:=(Z7 xs w.2 63).1 },(Z7 xs w.2 63).2,Gj (wi w.1 1 4) 80 e w.2.2)
  else ({ d with what:=w.1 },w.2,Gj (wi w.1 1 4) 80 e w.2.2)
 else ({ d with what:=w.1 },w.2,Gj (wi w.1 1 4) 80 e w.2.2):=by rw[hw];rfl
 rw[← hw]at pw;simp only[xO];refine Z4 func349 rfl (rs:=[]) rfl rfl ZY (by kernel_rfl) rfl rfl fun ap nd=>?_;obtain⟨ap1,ap2,ap3,_⟩:=ap;simp only[Nd,ZU]at nd;refine xx ?_;refine YV ?_;refine VX (s:=s) hx hs (by decide) (by decide) ?_;rw[← hw];simp only[rO,List.cons_append,List.nil_append];refine xx ?_;refine Wk _ _ _ ?_;refine xx ?_;refine YV ?_;refine Uo (s:=w.2) (wi w.1 1 4) ?_;refine xx ?_;refine Ud (s:=w.2) ?_;by_cases c:Gj (wi w.1 1 4) 80 e w.2.2=0∧w.2.2=0
 rotate_left
 ·rw[if_neg c]at hm;rw[hm]at hk;have cb:(decide (Gj (wi w.1 1 4) 80 e w.2.2=0)&&decide (w.2.2=0))=false:=by rw[← Bool.decide_and];exact decide_eq_false c
  rw[cb];refine xx ?_;exact ZO (hk h (PH.le_refl h))
 rw[if_pos c]at hm;obtain⟨c1,c2⟩:=c;by_cases w1:w.1=1
 ·rw[if_pos w1]at hm;rw[hm]at hk;refine xx ?_;refine YV ?_;refine Zb.apn (Yby (s:=w.2) hx pw.1 fun h2 le2 ap nd=>?_);obtain⟨q2,q1,q3,_⟩:=ap;simp only[Nd,ZU]at nd;simp only[rO,List.cons_append,List.nil_append];refine xx ?_;refine Z6 fun b7 nb7 zb7=>?_;(try simp only[ZU]at nb7);refine xx ?_;refine Zll ?_;refine YV ?_;refine Uo (s:=(Zdt xs w.2).2) (decide ((Zed xs w.2).2=0)) ?_;refine xx ?_;exact ZO (hk h2 le2)
 by_cases w2:w.1=2
 ·rw[if_neg w1,if_pos w2]at hm;rw[hm]at hk;refine xx ?_;refine Zdf (s:=w.2) hx pw.1 ?_;refine xx ?_;exact ZO (hk h (PH.le_refl h))
 ·rw[if_neg w1,if_neg w2]at hm;rw[hm]at hk;refine xx ?_;exact ZO (hk h (PH.le_refl h))
theorem JL (d:Zd)(hk:K (.bool (YB d)) L h):Zb prog 297 [Wu d (.slice none 0 0)] L h K:=by
 unfold YB at hk;refine ZR func297 rfl (rs:=[_]) rfl rfl ZY (by kernel_rfl) rfl rfl ?_;refine xx ?_;refine Z6 fun b1 nb1 zb1=>?_;(try simp only[ZU]at nb1);refine xx ?_;refine Wk _ _ _ ?_
 cases hw:wi d.kind 1 3 with
 | true =>
  rw[hw]at hk;refine xx ?_;exact ZP (ZO hk)
 | false =>
  rw[hw]at hk;by_cases k6:d.kind=6
  ·refine xx ?_;exact ZP (ZO (by simpa [k6] using hk))
  ·refine xx ?_;exact ZP (ZO (by simpa [k6] using hk))
theorem Ztn {xs:List Int}{d:Zd}{s:Nat×Int}{e:Int}(hz:∀z∈xs,0≤z∧z≤255)(hs:s.1≤xs.length):(JQ xs d s e).2.1.1≤xs.length∧(JQ xs d s e).1.bits=d.bits:=by
 have pw:=Yt xs s 255 hz hs (by decide);simp only[JQ];split
 ·split
  ·exact⟨(Znt hz pw.1).2,rfl⟩
  ·split
   ·exact⟨(Yt xs _ 63 hz pw.1 (by decide)).1,rfl⟩
   ·exact⟨pw.1,rfl⟩
 ·exact⟨pw.1,rfl⟩
theorem Zpq {bx br bd:Nat}{v:Value}{xs:List Int}{s:Nat×Int}{e:Int}{d:Zd}(hb:d.bits=[])(hx:Ints h .u8 v xs)(hs:s.1≤xs.length)
  (hk:∀h' bv,PH.le h h'→Ints h' .u8 bv (YY xs d s e).1.bits→K (.tuple #[]) (xO bx br v (YY xs d s e).2.1 (YY xs d s e).2.2 (⟨bd,177,GY (YY xs d s e).1 bv,34⟩::L)) h') :
  Zb prog 304 [.pointer (some ⟨bx,0,none⟩),.pointer (some ⟨bd,0,none⟩)] (xO bx br v s e (⟨bd,177,GY d (.slice none 0 0),34⟩::L)) h K:=by
 have hz:=Jd hx;refine Z4 func304 rfl (rs:=[]) rfl rfl ZY (by kernel_rfl) rfl rfl fun ap nd=>?_;obtain⟨ap1,ap2,ap3,_⟩:=ap;simp only[Nd,ZU]at nd;simp only[xO];refine xx ?_;by_cases kd5:d.kind=5
 ·have hf:YY xs d s e=({ d with ep:=(Z7 xs s 1073741824).1,bits:=(Ztl xs (Z7 xs s 1073741824).2 32).1 },(Ztl xs (Z7 xs s 1073741824).2 32).2,e):=by simp [YY,kd5]
  have pa:=Yt xs s 1073741824 hz hs (by decide);rw[hf]at hk;simp only at hk;refine xx ?_;refine YV ?_;refine VX (s:=s) hx hs (by decide) (by decide) ?_;simp only[rO,List.cons_append,List.nil_append];refine xx ?_;refine Zb.apn (Yih (s:=(Z7 xs s 1073741824).2) hx pa.1 (by decide) (by decide) fun h2 r le2 hr2 ap nd'=>?_);obtain⟨q2,q1,q3,_⟩:=ap;have hr2':=hr2;have or2:=hr2.open;obtain⟨y1,y2,rfl,_⟩:=or2;simp only[rO,List.cons_append,List.nil_append];refine xx ?_;exact Wp (List.Perm.swap _ _ _) (ZO (hk h2 _ le2 hr2'))
 have pa:=Yt xs s 63 hz hs (by decide);obtain⟨ra,hra⟩:∃ra,ra=Z7 xs s 63:=⟨_,rfl⟩
 rw[← hra]at pa;refine xx ?_;refine Zdf (s:=s) hx hs ?_;rw[← hra];have hf:YY xs d s e=WT xs (WB xs ({ d with acct:=ra.1 }:Zd) ra.2 e):=by rw[hra];simp [YY,kd5]
 rw[hf]at hk;by_cases kd1:d.kind=1
 ·have pb:=Yt xs ra.2 63 hz pa.1 (by decide);refine xx ?_;refine Zdf (s:=ra.2) hx pa.1 ?_;refine xx ?_;have hbody:WB xs ({ d with acct:=ra.1 }:Zd) ra.2 e=(({ d with acct:=ra.1,to:=(Z7 xs ra.2 63).1 }:Zd),(Z7 xs ra.2 63).2,e):=by simp [WB,kd1]
  rw[hbody]at hk;refine Ud (s:=(Z7 xs ra.2 63).2) ?_;by_cases c:e=0∧((Z7 xs ra.2 63).2).2=0
  rotate_left
  ·have cb:(decide (e=0)&&decide (((Z7 xs ra.2 63).2).2=0))=false:=by rw[← Bool.decide_and];exact decide_eq_false c
   rw[cb];have hq:WT xs (({ d with acct:=ra.1,to:=(Z7 xs ra.2 63).1 }:Zd),(Z7 xs ra.2 63).2,e)=(({ d with acct:=ra.1,to:=(Z7 xs ra.2 63).1 }:Zd),(Z7 xs ra.2 63).2,e):=by
    unfold WT;rw[if_neg (fun hh=>c ⟨hh.1,hh.2.1⟩)]
   rw[hq]at hk;refine xx ?_;exact ZO (hk h _ (PH.le_refl h) (by simp only[hb];exact Yd _ .u8))
  obtain⟨c1,c2⟩:=c;have cb:(decide (e=0)&&decide (((Z7 xs ra.2 63).2).2=0))=true:=by rw[← Bool.decide_and];exact decide_eq_true ⟨c1,c2⟩
  rw[cb];refine xx ?_;refine JL ({ d with acct:=ra.1,to:=(Z7 xs ra.2 63).1 }:Zd) ?_
  cases cp:YB ({ d with acct:=ra.1,to:=(Z7 xs ra.2 63).1 }:Zd) with
  | false =>
   have hq:WT xs (({ d with acct:=ra.1,to:=(Z7 xs ra.2 63).1 }:Zd),(Z7 xs ra.2 63).2,e)=(({ d with acct:=ra.1,to:=(Z7 xs ra.2 63).1 }:Zd),(Z7 xs ra.2 63).2,e):=by
    unfold WT;rw[if_neg (fun hh=>by have:=hh.2.2;simp only at this;rw[cp]at this;cases this)]
   rw[hq]at hk;refine xx ?_;exact ZO (hk h _ (PH.le_refl h) (by simp only[hb];exact Yd _ .u8))
  | true =>
   have hq:WT xs (({ d with acct:=ra.1,to:=(Z7 xs ra.2 63).1 }:Zd),(Z7 xs ra.2 63).2,e)=({ ({ d with acct:=ra.1,to:=(Z7 xs ra.2 63).1 }:Zd) with amt:=(Z7 xs ((Z7 xs ra.2 63).2) 4611686018427387904).1 },(Z7 xs ((Z7 xs ra.2 63).2) 4611686018427387904).2,Gj (decide (0<(Z7 xs ((Z7 xs ra.2 63).2) 4611686018427387904).1)) 80 e (Z7 xs ((Z7 xs ra.2 63).2) 4611686018427387904).2.2):=by
    unfold WT;rw[if_pos ⟨c1,c2,cp⟩]
   rw[hq]at hk;refine xx ?_;refine YV ?_;refine Uq (s:=(Z7 xs ra.2 63).2) hx pb.1 ?_;simp only[rO,List.cons_append,List.nil_append];refine xx ?_;refine YV ?_;refine Uo (s:=(Z7 xs ((Z7 xs ra.2 63).2) 4611686018427387904).2) _ ?_;refine xx ?_;exact ZO (hk h _ (PH.le_refl h) (by simp only[hb];exact Yd _ .u8))
 by_cases kd34:d.kind=3∨d.kind=4
 ·have pb:=Yt xs ra.2 127 hz pa.1 (by decide);have hbody:WB xs ({ d with acct:=ra.1 }:Zd) ra.2 e=(({ d with acct:=ra.1,mem:=(Z7 xs ra.2 127).1 }:Zd),(Z7 xs ra.2 127).2,e):=by simp [WB,kd1,kd34]
  rcases kd34 with kd3|kd3
  all_goals
   refine xx ?_;refine Zsn (s:=ra.2) hx pa.1 ?_;refine xx ?_;have hbody:WB xs ({ d with acct:=ra.1 }:Zd) ra.2 e=(({ d with acct:=ra.1,mem:=(Z7 xs ra.2 127).1 }:Zd),(Z7 xs ra.2 127).2,e):=by exact hbody
   rw[hbody]at hk;refine Ud (s:=(Z7 xs ra.2 127).2) ?_;by_cases c:e=0∧((Z7 xs ra.2 127).2).2=0
   rotate_left
   ·have cb:(decide (e=0)&&decide (((Z7 xs ra.2 127).2).2=0))=false:=by rw[← Bool.decide_and];exact decide_eq_false c
    rw[cb];have hq:WT xs (({ d with acct:=ra.1,mem:=(Z7 xs ra.2 127).1 }:Zd),(Z7 xs ra.2 127).2,e)=(({ d with acct:=ra.1,mem:=(Z7 xs ra.2 127).1 }:Zd),(Z7 xs ra.2 127).2,e):=by
     unfold WT;rw[if_neg (fun hh=>c ⟨hh.1,hh.2.1⟩)]
    rw[hq]at hk;refine xx ?_;exact ZO (hk h _ (PH.le_refl h) (by simp only[hb];exact Yd _ .u8))
   obtain⟨c1,c2⟩:=c;have cb:(decide (e=0)&&decide (((Z7 xs ra.2 127).2).2=0))=true:=by rw[← Bool.decide_and];exact decide_eq_true ⟨c1,c2⟩
   rw[cb];refine xx ?_;refine JL ({ d with acct:=ra.1,mem:=(Z7 xs ra.2 127).1 }:Zd) ?_
   cases cp:YB ({ d with acct:=ra.1,mem:=(Z7 xs ra.2 127).1 }:Zd) with
   | false =>
    have hq:WT xs (({ d with acct:=ra.1,mem:=(Z7 xs ra.2 127).1 }:Zd),(Z7 xs ra.2 127).2,e)=(({ d with acct:=ra.1,mem:=(Z7 xs ra.2 127).1 }:Zd),(Z7 xs ra.2 127).2,e):=by
     unfold WT;rw[if_neg (fun hh=>by have:=hh.2.2;simp only at this;rw[cp]at this;cases this)]
    rw[hq]at hk;refine xx ?_;exact ZO (hk h _ (PH.le_refl h) (by simp only[hb];exact Yd _ .u8))
   | true =>
    have hq:WT xs (({ d with acct:=ra.1,mem:=(Z7 xs ra.2 127).1 }:Zd),(Z7 xs ra.2 127).2,e)=({ ({ d with acct:=ra.1,mem:=(Z7 xs ra.2 127).1 }:Zd) with amt:=(Z7 xs ((Z7 xs ra.2 127).2) 4611686018427387904).1 },(Z7 xs ((Z7 xs ra.2 127).2) 4611686018427387904).2,Gj (decide (0<(Z7 xs ((Z7 xs ra.2 127).2) 4611686018427387904).1)) 80 e (Z7 xs ((Z7 xs ra.2 127).2) 4611686018427387904).2.2):=by
     unfold WT;rw[if_pos ⟨c1,c2,cp⟩]
    rw[hq]at hk;refine xx ?_;refine YV ?_;refine Uq (s:=(Z7 xs ra.2 127).2) hx pb.1 ?_;simp only[rO,List.cons_append,List.nil_append];refine xx ?_;refine YV ?_;refine Uo (s:=(Z7 xs ((Z7 xs ra.2 127).2) 4611686018427387904).2) _ ?_;refine xx ?_;exact ZO (hk h _ (PH.le_refl h) (by simp only[hb];exact Yd _ .u8))
 by_cases kd6:d.kind=6
 ·obtain⟨q,hq6⟩:∃q,q=JQ xs ({ d with acct:=ra.1 }:Zd) ra.2 e:=⟨_,rfl⟩
  have pq:=Ztn (d:=({ d with acct:=ra.1 }:Zd)) (e:=e) hz pa.1;rw[← hq6]at pq;have hqb:q.1.bits=[]:=by rw[pq.2];exact hb
  refine xx ?_;refine Zb.apn (Zzs (d:=({ d with acct:=ra.1 }:Zd)) (s:=ra.2) hx pa.1 fun h2 le2 ap nd'=>?_);rw[← hq6]at ap nd' ⊢;obtain⟨q2,q1,q3,_⟩:=ap;simp only[Nd,ZU]at nd';simp only[xO];refine xx ?_;have hbody:WB xs ({ d with acct:=ra.1 }:Zd) ra.2 e=(q.1,q.2.1,q.2.2):=by rw[hq6];simp [WB,kd1,kd34,kd6]
  rw[hbody]at hk;refine Ud (s:=q.2.1) ?_;by_cases c:q.2.2=0∧(q.2.1).2=0
  rotate_left
  ·have cb:(decide (q.2.2=0)&&decide ((q.2.1).2=0))=false:=by rw[← Bool.decide_and];exact decide_eq_false c
   rw[cb];have hq:WT xs (q.1,q.2.1,q.2.2)=(q.1,q.2.1,q.2.2):=by
    unfold WT;rw[if_neg (fun hh=>c ⟨hh.1,hh.2.1⟩)]
   rw[hq]at hk;refine xx ?_;exact ZO (hk h2 _ le2 (by simp only[hqb];exact Yd _ .u8))
  obtain⟨c1,c2⟩:=c;have cb:(decide (q.2.2=0)&&decide ((q.2.1).2=0))=true:=by rw[← Bool.decide_and];exact decide_eq_true ⟨c1,c2⟩
  rw[cb];refine xx ?_;refine JL q.1 ?_
  cases cp:YB q.1 with
  | false =>
   have hq:WT xs (q.1,q.2.1,q.2.2)=(q.1,q.2.1,q.2.2):=by
    unfold WT;rw[if_neg (fun hh=>by have:=hh.2.2;simp only at this;rw[cp]at this;cases this)]
   rw[hq]at hk;refine xx ?_;exact ZO (hk h2 _ le2 (by simp only[hqb];exact Yd _ .u8))
  | true =>
   have hq:WT xs (q.1,q.2.1,q.2.2)=({ q.1 with amt:=(Z7 xs (q.2.1) 4611686018427387904).1 },(Z7 xs (q.2.1) 4611686018427387904).2,Gj (decide (0<(Z7 xs (q.2.1) 4611686018427387904).1)) 80 q.2.2 (Z7 xs (q.2.1) 4611686018427387904).2.2):=by
    unfold WT;rw[if_pos ⟨c1,c2,cp⟩]
   rw[hq]at hk;refine xx ?_;refine YV ?_;refine Uq (s:=q.2.1) (hx.up le2) pq.1 ?_;simp only[rO,List.cons_append,List.nil_append];refine xx ?_;refine YV ?_;refine Uo (s:=(Z7 xs (q.2.1) 4611686018427387904).2) _ ?_;refine xx ?_;exact ZO (hk h2 _ le2 (by simp only[hqb];exact Yd _ .u8))
 by_cases kd7:d.kind=7
 ·have pb:=Yt xs ra.2 127 hz pa.1 (by decide);have pc:=Yt xs (Z7 xs ra.2 127).2 31 hz pb.1 (by decide);have pd:=Yt xs (Z7 xs (Z7 xs ra.2 127).2 31).2 1 hz pc.1 (by decide);refine xx ?_;refine Zsn (s:=ra.2) hx pa.1 ?_;refine xx ?_;refine YV ?_;refine VX (s:=(Z7 xs ra.2 127).2) hx pb.1 (by decide) (by decide) ?_;simp only[rO,List.cons_append,List.nil_append];refine xx ?_;refine Zxk (s:=(Z7 xs (Z7 xs ra.2 127).2 31).2) hx pc.1 ?_;simp only[rO,List.cons_append,List.nil_append];refine xx ?_;refine YV ?_;have hbody:WB xs ({ d with acct:=ra.1 }:Zd) ra.2 e=(({ d with acct:=ra.1,mem:=(Z7 xs ra.2 127).1,mot:=(Z7 xs (Z7 xs ra.2 127).2 31).1,yes:=decide ((Z7 xs (Z7 xs (Z7 xs ra.2 127).2 31).2 1).1=1) }:Zd),(Z7 xs (Z7 xs (Z7 xs ra.2 127).2 31).2 1).2,e):=by simp [WB,kd1,kd34,kd6,kd7]
  rw[hbody]at hk;refine Ud (s:=(Z7 xs (Z7 xs (Z7 xs ra.2 127).2 31).2 1).2) ?_;by_cases c:e=0∧((Z7 xs (Z7 xs (Z7 xs ra.2 127).2 31).2 1).2).2=0
  rotate_left
  ·have cb:(decide (e=0)&&decide (((Z7 xs (Z7 xs (Z7 xs ra.2 127).2 31).2 1).2).2=0))=false:=by rw[← Bool.decide_and];exact decide_eq_false c
   rw[cb];have hq:WT xs (({ d with acct:=ra.1,mem:=(Z7 xs ra.2 127).1,mot:=(Z7 xs (Z7 xs ra.2 127).2 31).1,yes:=decide ((Z7 xs (Z7 xs (Z7 xs ra.2 127).2 31).2 1).1=1) }:Zd),(Z7 xs (Z7 xs (Z7 xs ra.2 127).2 31).2 1).2,e)=(({ d with acct:=ra.1,mem:=(Z7 xs ra.2 127).1,mot:=(Z7 xs (Z7 xs ra.2 127).2 31).1,yes:=decide ((Z7 xs (Z7 xs (Z7 xs ra.2 127).2 31).2 1).1=1) }:Zd),(Z7 xs (Z7 xs (Z7 xs ra.2 127).2 31).2 1).2,e):=by
    unfold WT;rw[if_neg (fun hh=>c ⟨hh.1,hh.2.1⟩)]
   rw[hq]at hk;refine xx ?_;exact ZO (hk h _ (PH.le_refl h) (by simp only[hb];exact Yd _ .u8))
  obtain⟨c1,c2⟩:=c;have cb:(decide (e=0)&&decide (((Z7 xs (Z7 xs (Z7 xs ra.2 127).2 31).2 1).2).2=0))=true:=by rw[← Bool.decide_and];exact decide_eq_true ⟨c1,c2⟩
  rw[cb];refine xx ?_;refine JL ({ d with acct:=ra.1,mem:=(Z7 xs ra.2 127).1,mot:=(Z7 xs (Z7 xs ra.2 127).2 31).1,yes:=decide ((Z7 xs (Z7 xs (Z7 xs ra.2 127).2 31).2 1).1=1) }:Zd) ?_
  cases cp:YB ({ d with acct:=ra.1,mem:=(Z7 xs ra.2 127).1,mot:=(Z7 xs (Z7 xs ra.2 127).2 31).1,yes:=decide ((Z7 xs (Z7 xs (Z7 xs ra.2 127).2 31).2 1).1=1) }:Zd) with
  | false =>
   have hq:WT xs (({ d with acct:=ra.1,mem:=(Z7 xs ra.2 127).1,mot:=(Z7 xs (Z7 xs ra.2 127).2 31).1,yes:=decide ((Z7 xs (Z7 xs (Z7 xs ra.2 127).2 31).2 1).1=1) }:Zd),(Z7 xs (Z7 xs (Z7 xs ra.2 127).2 31).2 1).2,e)=(({ d with acct:=ra.1,mem:=(Z7 xs ra.2 127).1,mot:=(Z7 xs (Z7 xs ra.2 127).2 31).1,yes:=decide ((Z7 xs (Z7 xs (Z7 xs ra.2 127).2 31).2 1).1=1) }:Zd),(Z7 xs (Z7 xs (Z7 xs ra.2 127).2 31).2 1).2,e):=by
    unfold WT;rw[if_neg (fun hh=>by have:=hh.2.2;simp only at this;rw[cp]at this;cases this)]
   rw[hq]at hk;refine xx ?_;exact ZO (hk h _ (PH.le_refl h) (by simp only[hb];exact Yd _ .u8))
  | true =>
   have hq:WT xs (({ d with acct:=ra.1,mem:=(Z7 xs ra.2 127).1,mot:=(Z7 xs (Z7 xs ra.2 127).2 31).1,yes:=decide ((Z7 xs (Z7 xs (Z7 xs ra.2 127).2 31).2 1).1=1) }:Zd),(Z7 xs (Z7 xs (Z7 xs ra.2 127).2 31).2 1).2,e)=({ ({ d with acct:=ra.1,mem:=(Z7 xs ra.2 127).1,mot:=(Z7 xs (Z7 xs ra.2 127).2 31).1,yes:=decide ((Z7 xs (Z7 xs (Z7 xs ra.2 127).2 31).2 1).1=1) }:Zd) with amt:=(Z7 xs ((Z7 xs (Z7 xs (Z7 xs ra.2 127).2 31).2 1).2) 4611686018427387904).1 },(Z7 xs ((Z7 xs (Z7 xs (Z7 xs ra.2 127).2 31).2 1).2) 4611686018427387904).2,Gj (decide (0<(Z7 xs ((Z7 xs (Z7 xs (Z7 xs ra.2 127).2 31).2 1).2) 4611686018427387904).1)) 80 e (Z7 xs ((Z7 xs (Z7 xs (Z7 xs ra.2 127).2 31).2 1).2) 4611686018427387904).2.2):=by
    unfold WT;rw[if_pos ⟨c1,c2,cp⟩]
   rw[hq]at hk;refine xx ?_;refine YV ?_;refine Uq (s:=(Z7 xs (Z7 xs (Z7 xs ra.2 127).2 31).2 1).2) hx pd.1 ?_;simp only[rO,List.cons_append,List.nil_append];refine xx ?_;refine YV ?_;refine Uo (s:=(Z7 xs ((Z7 xs (Z7 xs (Z7 xs ra.2 127).2 31).2 1).2) 4611686018427387904).2) _ ?_;refine xx ?_;exact ZO (hk h _ (PH.le_refl h) (by simp only[hb];exact Yd _ .u8))
 refine xx ?_;have hbody:WB xs ({ d with acct:=ra.1 }:Zd) ra.2 e=(({ d with acct:=ra.1 }:Zd),ra.2,e):=by simp [WB,kd1,kd34,kd6,kd7]
 rw[hbody]at hk;refine Ud (s:=ra.2) ?_;by_cases c:e=0∧(ra.2).2=0
 rotate_left
 ·have cb:(decide (e=0)&&decide ((ra.2).2=0))=false:=by rw[← Bool.decide_and];exact decide_eq_false c
  rw[cb];have hq:WT xs (({ d with acct:=ra.1 }:Zd),ra.2,e)=(({ d with acct:=ra.1 }:Zd),ra.2,e):=by
   unfold WT;rw[if_neg (fun hh=>c ⟨hh.1,hh.2.1⟩)]
  rw[hq]at hk;refine xx ?_;exact ZO (hk h _ (PH.le_refl h) (by simp only[hb];exact Yd _ .u8))
 obtain⟨c1,c2⟩:=c;have cb:(decide (e=0)&&decide ((ra.2).2=0))=true:=by rw[← Bool.decide_and];exact decide_eq_true ⟨c1,c2⟩
 rw[cb];refine xx ?_;refine JL ({ d with acct:=ra.1 }:Zd) ?_
 cases cp:YB ({ d with acct:=ra.1 }:Zd) with
 | false =>
  have hq:WT xs (({ d with acct:=ra.1 }:Zd),ra.2,e)=(({ d with acct:=ra.1 }:Zd),ra.2,e):=by
   unfold WT;rw[if_neg (fun hh=>by have:=hh.2.2;simp only at this;rw[cp]at this;cases this)]
  rw[hq]at hk;refine xx ?_;exact ZO (hk h _ (PH.le_refl h) (by simp only[hb];exact Yd _ .u8))
 | true =>
  have hq:WT xs (({ d with acct:=ra.1 }:Zd),ra.2,e)=({ ({ d with acct:=ra.1 }:Zd) with amt:=(Z7 xs (ra.2) 4611686018427387904).1 },(Z7 xs (ra.2) 4611686018427387904).2,Gj (decide (0<(Z7 xs (ra.2) 4611686018427387904).1)) 80 e (Z7 xs (ra.2) 4611686018427387904).2.2):=by
   unfold WT;rw[if_pos ⟨c1,c2,cp⟩]
  rw[hq]at hk;refine xx ?_;refine YV ?_;refine Uq (s:=ra.2) hx pa.1 ?_;simp only[rO,List.cons_append,List.nil_append];refine xx ?_;refine YV ?_;refine Uo (s:=(Z7 xs (ra.2) 4611686018427387904).2) _ ?_;refine xx ?_;exact ZO (hk h _ (PH.le_refl h) (by simp only[hb];exact Yd _ .u8))
theorem Zxf {br:Nat}{v:Value}{xs:List Int}{s:Nat×Int}(hx:Ints h .u8 v xs)(hs:s.1≤xs.length)
  (hk:∀h' bv,PH.le h h'→Ints h' .u8 bv (Wh xs s).1.bits→K (.tuple #[Wu (Wh xs s).1 bv,.int .i64 (Wh xs s).2.1]) (rO br v (Wh xs s).2.2 L) h') :
  Zb prog 209 [.pointer (some ⟨br,0,none⟩)] (rO br v s L) h K:=by
 have hz:=Jd hx;have pk:=Yt xs s 255 hz hs (by decide);obtain⟨k,hkk⟩:∃k,k=Z7 xs s 255:=⟨_,rfl⟩
 rw[← hkk]at pk;have hall:Zbt xs s=if Gj (wi k.1 1 7) 80 0 k.2.2=0∧k.2.2=0 then YY xs { Z0 with kind:=k.1 } k.2 (Gj (wi k.1 1 7) 80 0 k.2.2) else ({ Z0 with kind:=k.1 },k.2,Gj (wi k.1 1 7) 80 0 k.2.2):=by rw[hkk];rfl
 have hdd:Wh xs s=if (Zbt xs s).2.1.2≠0 then (Z0,(Zbt xs s).2.1.2,(Zbt xs s).2.1) else if (Zbt xs s).2.2≠0 then (Z0,(Zbt xs s).2.2,(Zbt xs s).2.1) else ((Zbt xs s).1,0,(Zbt xs s).2.1):=rfl
 refine Z4 func209 rfl (rs:=[_,_]) rfl rfl ZY (by kernel_rfl) rfl rfl fun ap nd=>?_;obtain⟨ap1,_⟩:=ap;simp only[rO,List.cons_append,List.nil_append];refine xx ?_;refine Z6 fun b2 nb2 zb2=>?_;(try simp only[ZU]at nb2);refine xx ?_;refine Z6 fun bx n_bx h_bx=>?_;(try simp only[ZU]at n_bx);refine xx ?_;refine Ziv ?_;refine VX (s:=s) hx hs (by decide) (by decide) ?_;rw[← hkk];simp only[rO,List.cons_append,List.nil_append];refine xx ?_;refine Z6 fun bd n_bd h_bd=>?_;(try simp only[ZU]at n_bd);refine xx ?_;refine Wk _ _ _ ?_;refine xx ?_;refine Ziv ?_;refine Ypz ?_;refine Uo (s:=k.2) (wi k.1 1 7) ?_;refine xx ?_;refine Ud (s:=k.2) ?_;by_cases c:Gj (wi k.1 1 7) 80 0 k.2.2=0∧k.2.2=0
 ·have cb:(decide (Gj (wi k.1 1 7) 80 0 k.2.2=0)&&decide (k.2.2=0))=true:=by rw[← Bool.decide_and];exact decide_eq_true c
  rw[cb];rw[if_pos c]at hall;obtain⟨q,hq⟩:∃q,q=YY xs { Z0 with kind:=k.1 } k.2 (Gj (wi k.1 1 7) 80 0 k.2.2):=⟨_,rfl⟩
  rw[← hq]at hall;rw[hall]at hdd;refine xx ?_;refine Zb.apn (Zpq (d:={ Z0 with kind:=k.1 }) (s:=k.2) rfl hx pk.1 fun h2 bv le2 hb2 ap nd'=>?_);rw[← hq]at hb2 ap nd' ⊢;obtain⟨qx,qr,qd,q2,_⟩:=ap;simp only[Nd,ZU]at nd';have hb2':=hb2;have ob2:=hb2.open;obtain⟨y1,y2,rfl,_⟩:=ob2;simp only[xO];refine xx ?_;refine YV ?_;refine Ur (s:=q.2.1) ?_;by_cases e1:q.2.1.2=0
  rotate_left
  ·rw[if_pos e1]at hdd;rw[hdd]at hk;simp only[rO,List.cons_append,List.nil_append];refine xx ?_;refine Ur (s:=q.2.1) ?_;simp only[rO,List.cons_append,List.nil_append];refine xx ?_;exact Wp (List.Perm.refl _) (Wp (L':=_::_::_::rO br v q.2.1 L) (by exact List.perm_middle (l₁:=[_,_,_]).symm) (ZP (ZP (ZP (ZO (hk h2 _ le2 (Yd _ .u8)))))))
  rw[if_neg (by simpa using e1)]at hdd;by_cases e2:q.2.2=0
  rotate_left
  ·rw[if_pos e2]at hdd;rw[hdd]at hk;simp only[rO,List.cons_append,List.nil_append];refine xx ?_;refine Yr (.tk 0 (.tk 1 (.tk 2 (.tk 3 (.o1 4 (.o2 5 (.tk 6 (.fin)) (.nil)) (.o2 5 (.o1 4 (.tk 6 (.fin)) (.nil)) (.nil))))))) (by kernel_rfl) (by kernel_rfl) [⟨bx,382,[.pointer (some ⟨br,0,none⟩),.int .i64 q.2.2],2⟩] (Za.mem (by simp)) ?_
   repeat' first
    | with_reducible refine YF ?_ ?_
    | with_reducible refine xkp (Za.mem (by simp)) ?_
    | simp -dsimp -implicitDefEqProofs (disch:=first|with_reducible assumption|omega) [go_sem]
   all_goals exact Wp (L':=_::_::_::rO br v q.2.1 L) (by exact List.perm_middle (l₁:=[_,_,_]).symm) (ZP (ZP (ZP (ZO (hk h2 _ le2 (Yd _ .u8))))))
  rw[if_neg (by simpa using e2)]at hdd;rw[hdd]at hk;simp only[rO,List.cons_append,List.nil_append];refine xx ?_;exact Wp (L':=_::_::_::rO br v q.2.1 L) (by exact List.perm_middle (l₁:=[_,_,_]).symm) (ZP (ZP (ZP (ZO (hk h2 _ le2 hb2')))))
 ·have cb:(decide (Gj (wi k.1 1 7) 80 0 k.2.2=0)&&decide (k.2.2=0))=false:=by rw[← Bool.decide_and];exact decide_eq_false c
  rw[cb];rw[if_neg c]at hall;rw[hall]at hdd;refine xx ?_;refine YV ?_;refine Ur (s:=k.2) ?_;by_cases e1:k.2.2=0
  rotate_left
  ·rw[if_pos (by simpa using e1)]at hdd;rw[hdd]at hk;simp only[rO,List.cons_append,List.nil_append];refine xx ?_;refine Ur (s:=k.2) ?_;simp only[rO,List.cons_append,List.nil_append];refine xx ?_;exact Wp (L':=_::_::_::rO br v k.2 L) (by exact List.perm_middle (l₁:=[_,_,_]).symm) (ZP (ZP (ZP (ZO (hk h _ (PH.le_refl h) (Yd _ .u8))))))
  have e2:¬Gj (wi k.1 1 7) 80 0 k.2.2=0:=fun hh=>c ⟨hh,e1⟩;rw[if_neg (by simpa using e1),if_pos (by simpa using e2)]at hdd;rw[hdd]at hk;simp only[rO,List.cons_append,List.nil_append];refine xx ?_;refine Yr (.tk 0 (.tk 1 (.tk 2 (.tk 3 (.o1 4 (.o2 5 (.tk 6 (.fin)) (.nil)) (.o2 5 (.o1 4 (.tk 6 (.fin)) (.nil)) (.nil))))))) (by kernel_rfl) (by kernel_rfl) [⟨bx,382,[.pointer (some ⟨br,0,none⟩),.int .i64 (Gj (wi k.1 1 7) 80 0 k.2.2)],2⟩] (Za.mem (by simp)) ?_
  repeat' first
   | with_reducible refine YF ?_ ?_
   | with_reducible refine xkp (Za.mem (by simp)) ?_
   | simp -dsimp -implicitDefEqProofs (disch:=first|with_reducible assumption|omega) [go_sem]
  all_goals exact Wp (L':=_::_::_::rO br v k.2 L) (by exact List.perm_middle (l₁:=[_,_,_]).symm) (ZP (ZP (ZP (ZO (hk h _ (PH.le_refl h) (Yd _ .u8))))))
theorem Yem {d:Zd}(hb:∀z∈d.bits,0≤z∧z≤255):∀z∈WN d,0≤z∧z≤255:=by
 have f:∀n,∀z∈Ye n,0≤z∧z≤255:=Zaz;have g:∀a b:List Int,(∀z∈a,0≤z∧z≤255)→(∀z∈b,0≤z∧z≤255)→∀z∈a++b,0≤z∧z≤255:=fun a b ha hb z hz=>by
  rcases List.mem_append.1 hz with h|h
  ·exact ha z h
  ·exact hb z h
 have n0:∀z∈([]:List Int),0≤z∧z≤255:=fun z hz=>by simp at hz
 unfold WN;refine g _ _ (f _) (g _ _ ?_ (g _ _ ?_ ?_))
 ·split
  ·exact n0
  ·exact f _
 ·repeat' split
  ·exact f _
  ·exact f _
  ·exact g _ _ (f _) (g _ _ (f _) hb)
  ·exact g _ _ (f _) (Zfp _)
  ·exact g _ _ (f _) (f _)
  ·exact g _ _ (f _) n0
  ·exact g _ _ (f _) (g _ _ (f _) (f _))
  ·exact n0
 ·split
  ·exact f _
  ·exact n0
theorem Zpz {d:Zd}(ok:ZG d)(hr:ZW d=true):(WN d).length≤400∧0<(WN d).length:=by
 have ff:=Y5 hr;have hamt:=ok.a;have l1:=VS (n:=d.kind.toNat) (by omega);have l2:=VS (n:=d.acct.toNat) (by omega);have l3:=VS (n:=d.to.toNat) (by omega);have l4:=VS (n:=d.mem.toNat) (by omega);have l5:=VS (n:=d.ep.toNat) (by omega);have l6:=VS (n:=d.mot.toNat) (by omega);have l7:=VS (n:=d.amt.toNat) (by omega);have l8:=VS (n:=d.yes.toNat) (by cases d.yes<;>decide);have l9:=VS (n:=d.bits.length) (by omega);have lp:=WY d.kind.toNat;have nil:([]:List Int).length=0:=rfl;have lw:d.kind=6→(Ye d.what.toNat).length≤10∧(d.what=1→(Zkl d.par).length≤240):=fun k6=>by
  have hw:=Jf hr k6;exact⟨VS (n:=d.what.toNat) (by omega),fun w=>Zqx ok.p (hw.2.2 w)⟩
 constructor
 ·unfold WN;simp only[List.length_append];have a1:(if d.kind=5 then ([]:List Int) else Ye d.acct.toNat).length≤10:=by split<;>omega
  have a3:(if YB d=true then Ye d.amt.toNat else ([]:List Int)).length≤10:=by split<;>omega
  have a2:(if d.kind=1 then Ye d.to.toNat else if d.kind=3∨d.kind=4 then Ye d.mem.toNat else if d.kind=5 then Ye d.ep.toNat++Zgm d.bits
   else if d.kind=6 then Ye d.what.toNat++(if d.what=1 then Zkl d.par else if d.what=2 then Ye d.to.toNat else [])
   else if d.kind=7 then Ye d.mem.toNat++(Ye d.mot.toNat++Ye d.yes.toNat) else []).length≤260:=by
   split
   ·omega
   ·split
    ·omega
    ·split
     ·simp only[List.length_append,Zgm];omega
     ·split
      ·rename_i k6;have:=lw k6;rw[List.length_append];split
       ·rename_i w;have:=this.2 w;omega
       ·split<;>omega
      ·split
       ·simp only[List.length_append];omega
       ·omega
  omega
 ·unfold WN;rw[List.length_append];omega
theorem Zud {d:Zd}(bv:Value)(hb:Ints h .u8 bv d.bits)(hk:K (Wu d bv) L h):Zb prog 105 [Wu d bv] L h K:=by
 have ob:=hb.open;obtain⟨x1,y1,rfl,_⟩:=ob;refine ZR func105 rfl (rs:=[_]) rfl rfl ZY (by kernel_rfl) rfl rfl ?_;refine xx ?_;refine Z6 fun b1 nb1 zb1=>?_;(try simp only[ZU]at nb1);refine xx ?_;refine Z6 fun b2 nb2 zb2=>?_;(try simp only[ZU]at nb2);refine xx ?_;exact ZP (ZP (ZO hk))
theorem Uk:Zj WD:=⟨fun z hz=>by simp [Yw,WD]at hz;omega,fun z hz=>by simp [Yk,WD]at hz;omega⟩
end Go.X
