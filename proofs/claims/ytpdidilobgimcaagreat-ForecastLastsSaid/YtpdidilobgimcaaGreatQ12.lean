/- Lemmas and contracts. Conditions: as each says. -/
import Derived.Test.YtpdidilobgimcaaGreatQ09
import Derived.Test.YtpdidilobgimcaaGreatQ11
set_option linter.unusedVariables false
set_option linter.unusedSimpArgs false
set_option maxHeartbeats 12800000
set_option maxRecDepth 20000
namespace Go.X
open Go.RowKit Go.Proofs Go.Bl Go.Proofs.Tryz
variable {L:Own} {h:PH} {K:PK}
theorem Wg {xs:List Int}(v:Value)(hx:Ints h .u8 v xs)(hl:xs.length≤1000)(hk:∀h' r,PH.le h h'→Ints h' .u8 r xs→K r L h'):Zb prog 85 [v] L h K:=by
 have ox:=hx.open;obtain⟨a,ca,rfl,hna,hca,h0,hcx⟩:=ox;refine ZR func85 rfl (rs:=[_]) rfl rfl ZW (by kernel_rfl) rfl rfl ?_;refine xx ?_
 cases ha:a.isNone with
 | true =>
  have ha':a=none:=by simpa using ha
  subst ha';have hl0:xs.length=0:=by have:=h0 rfl;omega
  have hx':xs=[]:=List.eq_nil_of_length_eq_zero hl0;subst hx';refine xx ?_;refine ZP (hk h _ (PH.le_refl h) ?_);rw[h0 rfl]at hx;exact hx
 | false =>
  refine xx ?_;refine Z0 fun b1 nb1 zb1=>?_;(try simp only[ZU]at nb1);refine xx ?_;refine Z2 (t:=31) (e:=5) (sz:=1) (bytes:=1) (z:=[.int .u8 0]) (by kernel_rfl) Ynr rfl rfl rfl rfl (by decide) [] L (some (b1,0)) 0 [] ⟨Nat.le_refl _,Nat.zero_le _⟩ rfl (Src.known hx.1) (by simp) (Vu _ _) (by simp [maxLen];omega) (by omega) ?_;intro o' j1 j2 j3;simp only[Nat.zero_add,List.nil_append]at j1 j2 ⊢;refine xx ?_;exact YT (n:=xs.length) j1 (by simp) (by omega) j2 fun h' le sl=>ZP (hk h' _ le ⟨sl,hx.2⟩)
theorem Ja {xs:List Int}(v:Value)(hx:Ints h .u64 v xs)(hl:xs.length≤1000)(hk:∀h' r,PH.le h h'→Ints h' .u64 r xs→K r L h'):Zb prog 79 [v] L h K:=by
 have ox:=hx.open;obtain⟨a,ca,rfl,hna,hca,h0,hcx⟩:=ox;refine ZR func79 rfl (rs:=[_]) rfl rfl ZW (by kernel_rfl) rfl rfl ?_;refine xx ?_
 cases ha:a.isNone with
 | true =>
  have ha':a=none:=by simpa using ha
  subst ha';have hl0:xs.length=0:=by have:=h0 rfl;omega
  have hx':xs=[]:=List.eq_nil_of_length_eq_zero hl0;subst hx';refine xx ?_;refine ZP (hk h _ (PH.le_refl h) ?_);rw[h0 rfl]at hx;exact hx
 | false =>
  refine xx ?_;refine Z0 fun b1 nb1 zb1=>?_;(try simp only[ZU]at nb1);refine xx ?_;refine Z2 (t:=25) (e:=22) (sz:=1) (bytes:=8) (z:=[.int .u64 0]) (by kernel_rfl) Ux rfl rfl rfl rfl (by decide) [] L (some (b1,0)) 0 [] ⟨Nat.le_refl _,Nat.zero_le _⟩ rfl (Src.known hx.1) (by simp) (Vu _ _) (by simp [maxLen];omega) (by omega) ?_;intro o' j1 j2 j3;simp only[Nat.zero_add,List.nil_append]at j1 j2 ⊢;refine xx ?_;exact YT (n:=xs.length) j1 (by simp) (by omega) j2 fun h' le sl=>ZP (hk h' _ le ⟨sl,hx.2⟩)
theorem Yav {xs:List Int}(v:Value)(hx:Ints h .u8 v xs)(hl:xs.length≤1000)(hk:∀o,okO o xs.length→apO o L h→(xs=[]→o=none)→K (ovs o xs.length) (oent 5 1 o (xs.map (Value.int .u8)) L) h):Zb prog 351 [v] L h K:=by
 have ox:=hx.open;obtain⟨a,ca,rfl,hna,hca,h0,hcx⟩:=ox;refine ZR func351 rfl (rs:=[_]) rfl rfl ZW (by kernel_rfl) rfl rfl ?_;refine xx ?_;refine Z2 (t:=325) (e:=5) (sz:=1) (bytes:=1) (z:=[.int .u8 0]) (by kernel_rfl) Ynr rfl rfl rfl rfl (by decide) [] L none 0 [] rfl rfl (Src.known hx.1) (by simp) (Vu _ _) (by simp [maxLen];omega) (by omega) ?_;intro o' j1 j2 j3;simp only[Nat.zero_add,List.nil_append]at j1 j2 ⊢;refine xx ?_;exact ZP (hk o' j1 j2 fun e=>by subst e;exact j3.2 ⟨rfl,rfl⟩)
def orB (x:Int)(j:Nat):Int:=bits .or .u8 x (2 ^ j%256)
theorem Zde (x:Int)(j:Nat)(h0:0≤x)(h1:x≤255)(hj:j<8):0≤orB x j∧orB x j≤255∧∀k,k<8→(orB x j/2 ^ k%2=1↔k=j∨x/2 ^ k%2=1):=by
 obtain⟨n,rfl⟩:=Int.eq_ofNat_of_zero_le h0;have hn:n<256:=by omega
 have key:∀j,j<8→∀n,n<256→((n ||| 2 ^ j)≤255∧∀k,k<8→((n ||| 2 ^ j)/2 ^ k%2=1↔k=j∨n/2 ^ k%2=1)):=by decide +kernel
 have h2:(2:Int) ^ j%256=((2 ^ j:Nat):Int):=by
  have:∀i,i<8→(2:Int) ^ i%256=((2 ^ i:Nat):Int):=by decide
  exact this j hj
 have h3:(2:Nat) ^ j<256:=by
  have:∀i,i<8→(2:Nat) ^ i<256:=by decide
  exact this j hj
 have e:orB n j=((n ||| 2 ^ j:Nat):Int):=by
  unfold orB;rw[h2];exact u8_or_nat n (2 ^ j) hn h3
 obtain⟨k1,k2⟩:=key j hj n hn;rw[e];refine⟨by omega,by omega,fun k hk=>?_⟩;have:=k2 k hk
 constructor
 ·intro h;have h':(n ||| 2 ^ j)/2 ^ k%2=1:=by exact_mod_cast h
  rcases this.1 h' with h|h
  ·exact Or.inl h
  ·exact Or.inr (by exact_mod_cast h)
 ·intro h;have h':(n ||| 2 ^ j)/2 ^ k%2=1:=this.2 (h.imp id fun h=>by exact_mod_cast h)
  exact_mod_cast h'
def Zhz (xs:List Int)(i:Int):List Int:=xs.set (i/8).toNat (orB (at0 xs (i/8).toNat) (i%8).toNat)
theorem Zoh {xs:List Int}(hx:∀z∈xs,IntKind.u8.min≤z∧z≤IntKind.u8.max)(hb:∀i,0≤at0 xs i∧at0 xs i≤255)(i:Int):∀z∈Zhz xs i,IntKind.u8.min≤z∧z≤IntKind.u8.max:=by
 intro z hz;rcases List.mem_or_eq_of_mem_set hz with h|h
 ·exact hx z h
 ·subst h;have:=Zde (at0 xs (i/8).toNat) (i%8).toNat (hb _).1 (hb _).2 (by omega);rw[show IntKind.u8.min=0 by decide,show IntKind.u8.max=255 by decide];exact⟨this.1,this.2.1⟩
theorem Yfi {xs:List Int}(v:Value)(i:Int)(hx:Ints h .u8 v xs)(hl:xs.length≤1000)(h0:0≤i)(h1:i/8<(xs.length:Int))(h2:i≤9223372036854775807)(hk:∀h' r,PH.le h h'→Ints h' .u8 r (Zhz xs i)→K (.tuple #[r,.bool true]) L h'):Zb prog 294 [v,.int .i64 i] L h K:=by
 have hb:=hx.byte;refine ZR func294 rfl (rs:=[_,_]) rfl rfl ZW (by kernel_rfl) rfl rfl ?_;refine xx ?_;refine Yav v hx hl fun o j1 j2 j3=>?_;refine xx ?_
 cases o with
 | none =>
  have:xs.length=0:=j1;omega
 | some p =>
  obtain⟨b,cap⟩:=p;have hbn:h b=noC:=j2.2;simp only[ovs,oent];refine Zlz _ _ _ _ h0 h1 h2 ?_;have ej:(i/8).toNat<xs.length:=by omega
  simp -dsimp -implicitDefEqProofs (disch:=first|with_reducible assumption|omega) [go_sem,W8];refine⟨by omega,?_⟩;have eo:(⟨b,5,(xs.map (Value.int .u8)).set (i/8).toNat (Value.int .u8 (bits .or .u8 (at0 xs (i/8).toNat) (2 ^ (i%8).toNat%256))),cap⟩::L:Own)=oent 5 1 (some (b,cap)) ((Zhz xs i).map (Value.int .u8)) L:=by
   simp [oent,Zhz,orB,List.map_set]
  rw[eo];exact YT (n:=xs.length) j1 (by simp [Zhz]) (by omega) j2 fun h' le sl=>ZP (hk h' _ le ⟨by rw[show (Zhz xs i).length=xs.length by simp [Zhz]];exact sl,Zoh hx.2 hb i⟩)
def bol (bl:List Bool)(i:Nat):Bool:=bl.getD i false
def Bools (h:PH)(v:Value)(bl:List Bool):Prop:=Sl h v bl.length 1 (bl.map Value.bool)
theorem Bools.open {v:Value}{bl:List Bool}(hs:Bools h v bl):∃a cap,v = .slice a bl.length cap∧bl.length≤cap∧(a=none→cap=0)∧∀j,j<bl.length→Yd h a j=some (.bool (bol bl j)):=by
 obtain⟨_,a,cap,h2,h3,h4,h4',h5,h6⟩:=hs;exact⟨a,cap,h2,h3,h5,fun j hj=>h6 j _ (by simp [bol,hj])⟩
def PackB (bl:List Bool)(m:Nat)(x:Int)(j:Nat):Prop :=
 0≤x∧x<2 ^ (8*j+8-max (8*j) m)∧∀k,k<8*j+8-max (8*j) m→(x/2 ^ k%2=1↔bol bl (max (8*j) m+k)=true)
theorem PackB.step {bl:List Bool}{m:Nat}{x:Int}{j:Nat}(hp:PackB bl (m+1) x j)(hj:m/8=j):2*x+(if bol bl m then 1 else 0)≤255∧PackB bl m (2*x+if bol bl m then 1 else 0) j:=by
 obtain⟨h0,h1,h2⟩:=hp;have e1:max (8*j) (m+1)=m+1:=by omega
 have e2:max (8*j) m=m:=by omega
 obtain⟨w,hw⟩:∃w,8*j+8-(m+1)=w:=⟨_,rfl⟩
 have hw2:8*j+8-m=w+1:=by omega
 have hw3:w≤7:=by omega
 rw[e1,hw]at h1 h2;have hb:(0:Int)≤(if bol bl m then 1 else 0)∧(if bol bl m then (1:Int) else 0)≤1:=by split<;>omega
 have hp:(2:Int) ^ (w+1)=2*2 ^ w:=by rw[Int.pow_succ,Int.mul_comm]
 have hp7:(2:Int) ^ w≤128:=by
  have:∀w,w≤7→(2:Int) ^ w≤128:=by decide
  exact this w hw3
 have hc:(if bol bl m then (1:Int) else 0)=1↔bol bl m=true:=by split<;>rename_i hc<;>simp [hc]
 generalize (if bol bl m then (1:Int) else 0)=c at hb hc ⊢
 refine⟨by omega,by omega,?_,?_⟩
 ·rw[e2,hw2,hp];omega
 ·intro k hk;rw[e2,hw2]at hk;rw[e2]
  cases k with
  | zero =>
   simp only[Int.pow_zero,Int.ediv_one,Nat.add_zero];rw[← hc];omega
  | succ k =>
   have e3:(2:Int) ^ (k+1)=2*2 ^ k:=by rw[Int.pow_succ,Int.mul_comm]
   have e:(2*x+c)/2 ^ (k+1)=x/2 ^ k:=by
    rw[e3,← Int.ediv_ediv_of_nonneg (show (0:Int)≤2 by decide),show (2*x+c)/2=x by omega]
   rw[e,h2 k (by omega),show m+1+k=m+(k+1) by omega]
theorem idxB {bl:List Bool}{a:Option Addr}(hc:∀j,j<bl.length→Yd h a j=some (.bool (bol bl j))):∀j,j<bl.length→Yd h a j=some ((fun j=>Value.bool (bol bl j)) j):=hc
theorem Zrr {xs:List Int}(hb:∀i,0≤at0 xs i∧at0 xs i≤255)(i:Int)(h0:0≤i)(h1:i/8<(xs.length:Int))(j:Nat):Vb (Zhz xs i) j=(decide ((j:Int)=i)||Vb xs j):=by
 have hl:(Zhz xs i).length=xs.length:=by simp [Zhz]
 by_cases hj:(j:Int)/8<(xs.length:Int)
 ·rw[Zjq _ _ (by omega) (by omega),Zjq _ _ (by omega) (by omega)];unfold Zhz;rw[Wy _ _ _ _ (by omega)];by_cases e:((j:Int)/8).toNat=(i/8).toNat
  ·rw[if_pos e,e];have sp:=(Zde (at0 xs (i/8).toNat) (i%8).toNat (hb _).1 (hb _).2 (by omega)).2.2 ((j:Int)%8).toNat (by omega);rw[Bool.eq_iff_iff];simp only[Bool.or_eq_true,decide_eq_true_eq];rw[sp]
   constructor
   ·intro h;exact h.imp (fun h=>by omega) id
   ·intro h;exact h.imp (fun h=>by omega) id
  ·rw[if_neg e];have:(j:Int)≠i:=fun h=>e (by rw[h]);simp [this]
 ·rw[Zek _ _ (by omega),Zek _ _ (by omega)];have:(j:Int)≠i:=fun h=>by omega
  simp [this]
theorem YV (n lo hi:Int)(hk:K (.bool (wi n lo hi)) L h):Zb prog 285 [.int .u64 n,.int .u64 lo,.int .u64 hi] L h K:=by
 unfold wi at hk;refine ZR func285 rfl (rs:=[_]) rfl rfl ZW (by kernel_rfl) rfl rfl ?_;refine xx ?_;by_cases c:lo≤n
 ·refine xx ?_;exact ZP (by simpa [c] using hk)
 ·refine xx ?_;exact ZP (by simpa [c] using hk)
theorem Ziv (n lo hi:Int)(hk:K (.bool (wi n lo hi)) L h):Zb prog 260 [.int .i64 n,.int .i64 lo,.int .i64 hi] L h K:=by
 unfold wi at hk;refine ZR func260 rfl (rs:=[_]) rfl rfl ZW (by kernel_rfl) rfl rfl ?_;refine xx ?_;by_cases c:lo≤n
 ·refine xx ?_;exact ZP (by simpa [c] using hk)
 ·refine xx ?_;exact ZP (by simpa [c] using hk)
theorem Zdh {bl:List Bool}(v:Value)(hb:Bools h v bl)(hl:bl.length≤100)(hk:K (.bool (bl.all id)) L h):Zb prog 284 [v] L h K:=by
 have ob:=hb.open;obtain⟨a,c,rfl,_,_,hcs⟩:=ob;refine ZR func284 rfl (rs:=[_]) rfl rfl ZW (by kernel_rfl) rfl rfl ?_;refine xx ?_;refine Vk (0:Nat) (fun k=>k≤bl.length∧∀j,j<k→bol bl j=true) (fun k=>[(7,.int .i64 k),(5,.slice a bl.length c),(6,.int .i64 bl.length)]) (fun k=>bl.length-k) ?_ ?_ ?_
 ·exact⟨Nat.zero_le _,fun j hj=>by omega⟩
 ·simp [Ent,List.lookup]
 intro k ⟨k1,k2⟩;by_cases d:k<bl.length
 ·simp -dsimp -implicitDefEqProofs (disch:=first|with_reducible assumption|omega) [go_sem,idx (idxB hcs)]
  cases hg:bol bl k with
  | true =>
   refine xx ?_;refine⟨k+1,⟨by omega,fun j hj=>?_⟩,by omega,by simp [Ent,List.lookup],Za.refl _ _⟩;by_cases e:j=k
   ·subst e;exact hg
   ·exact k2 j (by omega)
  | false =>
   have:bl.all id=false:=by
    rw[List.all_eq_false];refine⟨bl[k],List.getElem_mem d,?_⟩;simp [bol,d]at hg;simp [hg]
   rw[this]at hk;refine xx ?_;exact ZP hk
 ·have:bl.all id=true:=by
   rw[List.all_eq_true];intro x hx;obtain⟨j,hj,rfl⟩:=List.mem_iff_getElem.1 hx;have:=k2 j (by omega);simp [bol,hj]at this
   simpa using this
  rw[this]at hk;refine xx ?_;exact ZP hk
theorem Zpc (p:Zd)(ok:Zh p)(hk:∀h',PH.le h h'→K (.bool (YU p)) L h'):Zb prog 168 [W5 p] L h K:=by
 refine ZR func168 rfl (rs:=[_]) rfl rfl ZW (by kernel_rfl) rfl rfl ?_;refine xx ?_;refine Z0 fun b1 nb1 zb1=>?_;(try simp only[ZU]at nb1);refine xx ?_;refine Ym (.tk 0 (.tk 3 (.tk 5 (.tk 8 (.tk 10 (.tk 13 (.tk 15 (.tk 18 (.tk 20 (.tk 23 (.tk 25 (.tk 28 (.tkl 1 (.tkl 4 (.tkl 6 (.tkl 9 (.tkl 11 (.tk 12 (.tkl 14 (.tkl 16 (.tk 17 (.tkl 19 (.tkl 21 (.tkl 24 (.tkl 26 (.tkl 29 (.tk 30 (.o1 2 (.o1 7 (.o1 22 (.o1 27 (.o1 31 (.o1 32 (.tk 33 (.tk 34 (.tk 36 (.tkl 35 (.tkl 37 (.tk 38 (.tk 39 (.tk 40 (.tk 41 (.fin)))))))))) (.nil)) (.nil)) (.nil)) (.nil)) (.nil)) (.nil))))))))))))))))))))))))))))) (by kernel_rfl) (by kernel_rfl) _ (Za.refl _ _) ?_;refine xx ?_;refine YV _ _ _ ?_;refine xx ?_;refine YV _ _ _ ?_;refine xx ?_;refine YV _ _ _ ?_;refine xx ?_;refine YV _ _ _ ?_;refine xx ?_;refine Z0 fun b2 nb2 zb2=>?_;(try simp only[ZU]at nb2);refine xkp (Za.tail _ _ _) ?_;refine xx ?_;refine YB (sz:=1) (n:=7) (cap:=7) [] ⟨Nat.le_refl _,by decide⟩ rfl (by decide) zb2 fun h2 le2 s2 f2=>?_;refine Zdh (bl:=[wi p.inc 1 2147483648,wi p.maxEff p.inc 1099511627776,decide (p.inc≤p.floor),decide (p.floor<p.cap),wi p.cap p.maxEff 1099511627776,wi p.up p.inc 1099511627776,decide (p.down≤1099511627776)]) _ s2 (by simp) ?_;have hs:YU p=([wi p.inc 1 2147483648,wi p.maxEff p.inc 1099511627776,decide (p.inc≤p.floor),decide (p.floor<p.cap),wi p.cap p.maxEff 1099511627776,wi p.up p.inc 1099511627776,decide (p.down≤1099511627776)].all id&&decide (p.maxEff%p.inc=0)):=rfl;rw[hs]at hk
 cases hB:[wi p.inc 1 2147483648,wi p.maxEff p.inc 1099511627776,decide (p.inc≤p.floor),decide (p.floor<p.cap),wi p.cap p.maxEff 1099511627776,wi p.up p.inc 1099511627776,decide (p.down≤1099511627776)].all id with
 | false =>
  rw[hB]at hk;refine xkp (Za.forget le2) ?_;simp only[List.nil_append];refine xx ?_;exact ZO (ZP (hk h2 le2))
 | true =>
  rw[hB]at hk;have h1:1≤p.inc:=by
   simp only[List.all_cons,List.all_nil,id,Bool.and_eq_true,wi_iff,decide_eq_true_eq,and_true]at hB;omega
  have h3:=ok.w p.maxEff (by simp [YA]);refine xkp (Za.forget le2) ?_;simp only[List.nil_append];refine xx ?_;exact ZO (ZP (by simpa using hk h2 le2))
theorem Zpt (p:Zd)(hk:∀h',PH.le h h'→K (.bool (Y6 p)) L h'):Zb prog 169 [W5 p] L h K:=by
 refine ZR func169 rfl (rs:=[_]) rfl rfl ZW (by kernel_rfl) rfl rfl ?_;refine xx ?_;refine Z0 fun b1 nb1 zb1=>?_;(try simp only[ZU]at nb1);refine xx ?_;refine Ym (.tk 0 (.tk 3 (.tk 5 (.tk 8 (.tk 11 (.tk 13 (.tk 16 (.tk 19 (.tkl 1 (.tkl 4 (.tkl 6 (.tkl 9 (.tkl 12 (.tkl 14 (.tkl 17 (.tk 18 (.tkl 20 (.o1 2 (.o1 7 (.o1 10 (.o1 15 (.o1 21 (.o1 22 (.o1 23 (.tk 24 (.fin)) (.nil)) (.nil)) (.nil)) (.nil)) (.nil)) (.nil)) (.nil))))))))))))))))))) (by kernel_rfl) (by kernel_rfl) _ (Za.refl _ _) ?_;refine xx ?_;refine YV _ _ _ ?_;refine xx ?_;refine YV _ _ _ ?_;refine xx ?_;refine YV _ _ _ ?_;refine xx ?_;refine YV _ _ _ ?_;refine xx ?_;refine YV _ _ _ ?_;refine xx ?_;refine Z0 fun b2 nb2 zb2=>?_;(try simp only[ZU]at nb2);refine xkp (Za.tail _ _ _) ?_;refine xx ?_;refine YB (sz:=1) (n:=6) (cap:=6) [] ⟨Nat.le_refl _,by decide⟩ rfl (by decide) zb2 fun h2 le2 s2 f2=>?_;refine Zdh (bl:=[wi p.bias 1 4294967296,wi p.biasEm p.bias 4294967296,wi p.quot 1 1099511627776,wi p.quotEm 1 p.quot,decide (p.recover≤4294967296),wi p.scoreCap 1 72057594037927936]) _ s2 (by simp) ?_;have hs:Y6 p=[wi p.bias 1 4294967296,wi p.biasEm p.bias 4294967296,wi p.quot 1 1099511627776,wi p.quotEm 1 p.quot,decide (p.recover≤4294967296),wi p.scoreCap 1 72057594037927936].all id:=rfl;rw[← hs];refine xkp (Za.forget le2) ?_;simp only[List.nil_append];refine xx ?_;exact ZO (ZP (hk h2 le2))
theorem Zon (p:Zd)(hk:∀h',PH.le h h'→K (.bool (YW p)) L h'):Zb prog 170 [W5 p] L h K:=by
 refine ZR func170 rfl (rs:=[_]) rfl rfl ZW (by kernel_rfl) rfl rfl ?_;refine xx ?_;refine Z0 fun b1 nb1 zb1=>?_;(try simp only[ZU]at nb1);refine xx ?_;refine Ym (.tk 0 (.tk 3 (.tk 6 (.tk 9 (.tk 12 (.tk 15 (.tk 18 (.tk 21 (.tk 24 (.tk 27 (.tk 30 (.tk 33 (.tkl 1 (.tk 2 (.tkl 4 (.tk 5 (.tkl 7 (.tkl 10 (.tkl 13 (.tkl 16 (.tkl 19 (.tkl 22 (.tkl 25 (.tkl 28 (.tkl 31 (.tkl 34 (.o1 8 (.o1 11 (.o1 14 (.o1 17 (.o1 20 (.o1 23 (.o1 26 (.o1 29 (.o1 32 (.o1 35 (.o1 36 (.o1 37 (.tk 38 (.fin)) (.nil)) (.nil)) (.nil)) (.nil)) (.nil)) (.nil)) (.nil)) (.nil)) (.nil)) (.nil)) (.nil)) (.nil)))))))))))))))))))))))))))) (by kernel_rfl) (by kernel_rfl) _ (Za.refl _ _) ?_;refine xx ?_
 iterate 10
  refine Ziv _ _ _ ?_;simp -dsimp -implicitDefEqProofs (disch:=first|with_reducible assumption|omega) [go_sem]
 refine Z0 fun b2 nb2 zb2=>?_;(try simp only[ZU]at nb2);refine xkp (Za.tail _ _ _) ?_;refine xx ?_;refine YB (sz:=1) (n:=12) (cap:=12) [] ⟨Nat.le_refl _,by decide⟩ rfl (by decide) zb2 fun h2 le2 s2 f2=>?_;refine Zdh (bl:=[decide (p.rate≤4294967296),decide (p.bond≤1099511627776),wi p.delay 0 1000,wi p.wait 0 50,wi p.enact 0 1000,wi p.poll 1 1000,wi p.streak 0 64,wi p.boost 0 1000,wi p.absent 0 10000,wi p.burn 0 10000,wi p.quorum 0 10000,wi p.churn 1 64]) _ s2 (by simp) ?_;have hs:YW p=[decide (p.rate≤4294967296),decide (p.bond≤1099511627776),wi p.delay 0 1000,wi p.wait 0 50,wi p.enact 0 1000,wi p.poll 1 1000,wi p.streak 0 64,wi p.boost 0 1000,wi p.absent 0 10000,wi p.burn 0 10000,wi p.quorum 0 10000,wi p.churn 1 64].all id:=rfl;rw[← hs];refine xkp (Za.forget le2) ?_;simp only[List.nil_append];refine xx ?_;exact ZO (ZP (hk h2 le2))
theorem Zpa (n:Nat)(q:Nat→Bool)(fv:Value)(hn:n≤4611686018427387904)(hq:∀i j,i≤j→q i=true→q j=true)
  (hf:∀i:Nat,i<n→∀K:PK,K (.bool (q i)) L h→Zbw prog fv [.int .i64 i] L h K)
  (hk:K (.int .i64 (Wx q n 0)) L h):Zb prog 281 [.int .i64 n,fv] L h K:=by
 refine ZR func281 rfl (rs:=[_]) rfl rfl ZW (by kernel_rfl) rfl rfl ?_;refine xx ?_;refine Vk (γ:=Nat×Nat) (0,n) (fun g=>g.1≤g.2∧g.2≤n∧(∀k,k<g.1→q k=false)∧(g.2<n→q g.2=true)) (fun g=>[(5,.int .i64 g.1),(6,.int .i64 g.2),(1,fv)]) (fun g=>g.2-g.1) ?_ ?_ ?_
 ·exact⟨Nat.zero_le _,Nat.le_refl _,fun k hk=>by simp only at hk;omega,fun h=>by simp only at h;omega⟩
 ·simp [Ent,List.lookup,Wv]
 rintro⟨i,j⟩ ⟨i1,i2,i3,i4⟩;simp only at i1 i2 i3 i4 ⊢;by_cases d:i<j
 ·obtain⟨m,hm⟩:∃m,m=(i+j)/2:=⟨_,rfl⟩
  have e:((i:Int)+(j:Int))/2=(m:Int):=by omega
  simp -dsimp -implicitDefEqProofs (disch:=first|with_reducible assumption|omega) [go_sem,e];refine Or.inl (hf m (by omega) _ ?_)
  cases hg:q m with
  | true =>
   refine xx ?_;exact⟨i,m,⟨by omega,by omega,i3,fun _=>hg⟩,by omega,by simp [Ent,List.lookup],Za.refl _ _⟩
  | false =>
   refine xx ?_;refine⟨m+1,j,⟨by omega,i2,fun k hk=>?_,i4⟩,by omega,by simp [Ent,List.lookup],Za.refl _ _⟩
   cases hqk:q k with
   | false=>rfl
   | true=>rw[hq k m (by omega) hqk]at hg;cases hg
 ·have:i=j:=by omega
  subst this;have e:Wx q n 0=i:=VY (Nat.zero_le _) (by omega) (fun k _ hk=>i3 k hk) (fun h=>i4 (by omega));rw[e]at hk;refine xx ?_;exact ZP hk
theorem Gg (q:Nat→Bool):∀(m k:Nat),Wx (fun i=>q (i+1)) m k+1=Wx q m (k+1)
 | 0,k=>rfl
 | m+1,k=>by
  simp only[Wx];split
  ·rfl
  ·exact Gg q m (k+1)
theorem Zmm (p:Zd)(ok:Zh p)(h1:YU p=true)(h2:Y6 p=true)(hk:K (.int .i64 (Wl p)) L h):Zb prog 161 [W5 p] L h K:=by
 have f1:=Yl h1;have f2:=Yu h2;refine ZR func161 rfl (rs:=[_]) rfl rfl ZW (by kernel_rfl) rfl rfl ?_;refine xx ?_;refine Z0 fun b1 nb1 zb1=>?_;(try simp only[ZU]at nb1);refine xx ?_;refine Zpa 1048576 (fun i=>WB p (i+1)) _ (by omega) (fun i j hij he=>GO (by omega) (by omega) (by omega) he) (fun i hi K' hk'=>?_) ?_
 ·have hA:0≤p.inc*p.bias∧p.inc*p.bias≤9223372036854775808 :=
   ⟨Int.mul_nonneg (by omega) (by omega),Int.le_trans (Int.mul_le_mul f1.2.1 f2.2.1 (by omega) (by omega)) (by decide)⟩
  have hB:0≤((i:Int)+1)*((i:Int)+1+1)∧((i:Int)+1)*((i:Int)+1+1)≤1099513724929 :=
   ⟨Int.mul_nonneg (by omega) (by omega),Int.le_trans (Int.mul_le_mul (show (i:Int)+1≤1048576 by omega) (show (i:Int)+1+1≤1048577 by omega) (by omega) (by omega)) (by decide)⟩
  refine xx ?_;refine ZR func279 rfl (rs:=[_]) rfl rfl ZW (by kernel_rfl) rfl rfl ?_;refine xx ?_;refine Zal _ _ _ _ (by omega) (by omega) (by omega) (by omega) ?_;refine xx ?_;refine ZP ?_;have e:WB p (i+1) = !decide (p.inc*p.bias*(((i:Int)+1)*((i:Int)+1+1))<2*p.quot*(p.cap-p.floor)):=by
   unfold WB
   push_cast
   rw[← decide_not,decide_eq_decide];omega
  rw[e]at hk'
  simpa using hk'
 ·have e:=Gg (WB p) 1048576 0;have hl:=(WG (fun i=>WB p (i+1)) 1048576 0).2.1;have e2:Wl p=Wx (fun i=>WB p (i+1)) 1048576 0+1:=by rw[e];rfl
  rw[e2]at hk;refine xx ?_;exact ZO (ZP (by simpa using hk))
theorem J0 (p:Zd)(ok:Zh p)(hk:∀h',PH.le h h'→K (.int .i64 (if Yb p then 0 else 70)) L h'):Zb prog 59 [W5 p] L h K:=by
 refine ZR func59 rfl (rs:=[_]) rfl rfl ZW (by kernel_rfl) rfl rfl ?_;refine xx ?_;refine Z0 fun b1 nb1 zb1=>?_;(try simp only[ZU]at nb1);refine xx ?_;refine Zb.ap (Zpc p ok fun h2 le2 ap=>?_);obtain⟨q2,_⟩:=ap
 cases h1:YU p with
 | false =>
  rw[show Yb p=false by simp [Yb,h1]]at hk;refine xx ?_;exact ZO (ZP (hk h2 le2))
 | true =>
  refine xx ?_;refine Zb.ap (Zpt p fun h3 le3 ap=>?_);obtain⟨q3,_⟩:=ap
  cases h2':Y6 p with
  | false =>
   rw[show Yb p=false by simp [Yb,h2']]at hk;refine xx ?_;exact ZO (ZP (hk h3 (le2.trans le3)))
  | true =>
   refine xx ?_;refine Zb.ap (Zon p fun h4 le4 ap=>?_);obtain⟨q4,_⟩:=ap
   cases h3':YW p with
   | false =>
    rw[show Yb p=false by simp [Yb,h3']]at hk;refine xx ?_;exact ZO (ZP (hk h4 (le2.trans (le3.trans le4))))
   | true =>
    have f1:=Yl h1;have f2:=Yu h2';have hl:=(WG (WB p) 1048576 1).2.1;have hl1:Wl p≤1048577:=by unfold Wl;omega
    have e:Yb p=(decide (Wl p≤1048576)&&decide (p.bias*(Wl p:Int)≤p.scoreCap)):=by simp [Yb,h1,h2',h3']
    have hA:0≤p.bias*(Wl p:Int)∧p.bias*(Wl p:Int)≤4503603922337792 :=
     ⟨Int.mul_nonneg (by omega) (by omega),Int.le_trans (Int.mul_le_mul f2.2.1 (show (Wl p:Int)≤1048577 by omega) (by omega) (by omega)) (by decide)⟩
    rw[e]at hk;refine xx ?_;refine Zmm p ok h1 h2' ?_;by_cases d1:Wl p≤1048576
    ·by_cases d2:p.bias*(Wl p:Int)≤p.scoreCap
     ·refine xx ?_;exact ZO (ZP (by simpa [d1,d2] using hk h4 (le2.trans (le3.trans le4))))
     ·refine xx ?_;exact ZO (ZP (by simpa [d1,d2] using hk h4 (le2.trans (le3.trans le4))))
    ·refine xx ?_;exact ZO (ZP (by simpa [d1] using hk h4 (le2.trans (le3.trans le4))))
end Go.X
